/-
  The node's Receive.
-/
import Derived.Test.YtifcdjmcoibblaaGreatDoorG22
import Derived.Test.YtifcdjmcoibblaaGreatDoorG21
import Derived.Test.YtifcdjmcoibblaaGreatDoorG23

/-! The node's Receive. -/
namespace Go.Proofs.YtifcdjmcoibblaaGreatDoor
set_option linter.unusedVariables false
set_option linter.unusedSimpArgs false
set_option linter.unusedSectionVars false
open Go.RowKit

section
variable {R R0 : Nat → Prop} {w : World} {x : Nat} {p : Ptr} {s : StB}

/-- a message that is not for the node -/
def badM (s : StB) (m : MsgB) : Bool := !(validB m) || !(m.to == s.id) || decide (s.n ≤ m.frm) || decide (s.height < m.height)
theorem valid_placed {m : MsgB} (h : validB m = true) (hk : m.kind = 3 ∨ m.kind = 4 ∨ m.kind = 6 ∨ m.kind = 5) : 0 ≤ m.height ∧ m.height < 1200 ∧ 0 ≤ m.round ∧ m.round < 100 ∧ 0 ≤ m.frm := by
  unfold validB at h
  rw [Bool.and_eq_true] at h
  obtain ⟨h1, h2⟩ := h
  have hs : 0 ≤ m.frm := by unfold sitesB siteB at h1; simp at h1; omega
  have k1 : ¬ m.kind = 1 := by omega
  have k2 : ¬ m.kind = 2 := by omega
  rw [if_neg k1, if_neg k2] at h2
  have hp : placedB m = true := by
    split at h2
    · unfold propOk at h2; simp at h2; exact h2.1.1.1.1
    · unfold voteOk at h2; simp at h2; exact h2.2.1.1.1
  unfold placedB at hp
  simp at hp
  omega
theorem rcv_bad {m : MsgB} (h : badM s m = true) : s.receive m (validB m) = s := by
  unfold NS.receive
  rw [if_pos]
  unfold badM at h
  simp at h
  rcases h with ((h | h) | h) | h
  · exact .inl h
  · exact .inr (.inl h)
  · exact .inr (.inr (.inl h))
  · exact .inr (.inr (.inr h))
theorem bad_not {m : MsgB} (h : badM s m = false) : validB m = true ∧ m.to = s.id ∧ m.frm < s.n ∧ m.height ≤ s.height := by
  unfold badM at h
  simp at h
  exact ⟨h.1.1.1, h.1.1.2, h.1.2, h.2⟩
theorem rcv_kind {m : MsgB} (h : ¬ (m.kind = 3 ∨ m.kind = 4 ∨ m.kind = 6 ∨ m.kind = 5)) : s.receive m (validB m) = s := by
  unfold NS.receive
  split
  · rfl
  · first | rfl | rw [if_pos h]
theorem rcv_ask {m : MsgB} (hb : badM s m = false) (hk : m.kind = 3 ∨ m.kind = 4 ∨ m.kind = 6 ∨ m.kind = 5) (hd : s.isDec m.height = true) : s.receive m (validB m) = s.ask m := by
  obtain ⟨a, b, c, d⟩ := bad_not hb
  unfold NS.receive
  rw [if_neg (by simp only [not_or]; exact ⟨by simp [a], by simp [b], by omega, by omega⟩), if_neg (by simp only [Classical.not_not]; exact hk), if_pos hd]
theorem rcv_go {m : MsgB} (hb : badM s m = false) (hk : m.kind = 3 ∨ m.kind = 4 ∨ m.kind = 6 ∨ m.kind = 5) (hd : s.isDec m.height = false) : s.receive m (validB m) = if m.height < s.height then s else if m.kind ≠ 3 then s.putVote m
    else if s.proposer m.frm m.height m.round = true then { s with props := keepA s.props m.round m }
    else match getA m.frm s.claims with
      | some _ => s
      | none => { s with claims := putA m.frm m s.claims, order := s.order ++ [m.frm] } := by
  obtain ⟨a, b, c, d⟩ := bad_not hb
  unfold NS.receive
  rw [if_neg (by simp only [not_or]; exact ⟨by simp [a], by simp [b], by omega, by omega⟩), if_neg (by simp only [Classical.not_not]; exact hk), if_neg (by simp [hd])]
  rcases getA m.frm s.claims with _ | _ <;> rfl


set_option maxRecDepth 100000 in
set_option maxHeartbeats 4000000 in
theorem receive_any {v : Value} {m : MsgB} (h : NodeP R w x p s) (hm : MsgV R0 w v m) (h0 : ∀ k, R0 k → k < w.heap.size) (hl : m.list.length ≤ 60) (hG : Glob w) (hI : NumI s) (hol : s.order.length ≤ 1000) :
    Calls Tryz.prog 20 #[pv x, v] w fun e w' => e = .returned (.tuple #[]) ∧ Turned R w x (s.receive m (validB m)) w' := by
  obtain ⟨sl, rfl, ao, cap, rfl, hcap, hrow⟩ := hm
  obtain ⟨mb, hmb⟩ : ∃ mb, mb = w.heap.size := ⟨_, rfl⟩
  have HMB := Lib.hid hmb
  have H := Lib.hid h
  have HI := Lib.hid hI
  have HG := Lib.hid hG
  have H0 := Lib.hid h0
  have HB0 := Lib.hid ((Below.refl _ w).alloc (Nat.le_refl _) (.cells (encM m (.slice ao m.list.length cap)) 36))
  have HR0 := Lib.hid (World.alloc_heap_new w (.cells (encM m (.slice ao m.list.length cap)) 36))
  have HL := Lib.hid (show LRow R0 w (.slice ao m.list.length cap) m.list from ⟨ao, cap, rfl, hcap, hrow⟩)
  have VA := Lib.hid (fun W (hW : Below w.heap.size w W) => (valid_any (R := R0) (m := m) (v := .agg (encM m (.slice ao m.list.length cap))) ⟨_, rfl, HL.out.below h0 hW⟩ (fun k hk => Nat.lt_of_lt_of_le (h0 k hk) hW.size) hl (fun _ => hG.later hW)).mono (fun e w' q => show e = .returned (.bool (validB m)) ∧ Below W.heap.size W w' from ⟨q.1, q.2⟩))
  clear hrow hcap hmb h hI hG h0
  unfold encM iv pv at *
  go_enter Tryz.func20, Tryz.ntmps20
  go_upto_region 1 with (fail)
  obtain ⟨wa, hwa⟩ : ∃ wa, wa = w.alloc (.cells #[.int .i64 m.kind, .int .i64 m.frm, .int .i64 m.to, .int .i64 m.height, .int .i64 m.round, .int .i64 m.valid, .string m.dig, .slice ao m.list.length cap] 36) := ⟨_, rfl⟩
  rw [← HMB.out] at HR0 ⊢
  rw [← hwa] at HB0 HR0 ⊢
  clear hwa
  have HN0 := Lib.hid (H.out.below HB0.out)
  obtain ⟨bd, hbd⟩ : ∃ bd, bd = badM s m := ⟨_, rfl⟩
  have HBD := Lib.hid hbd
  clear hbd
  go_cut [38] (fun t wc => t = .bool bd ∧ Below wa.heap.size wa wc)
  case first =>
    obtain ⟨c0, c1, c2, c3, c4, c5, c6, c7, fz⟩ := MRow.of HR0.out
    have VB := Lib.hid (show ∀ W, Below wa.heap.size wa W → Calls Tryz.prog 19 #[.agg #[.int .i64 m.kind, .int .i64 m.frm, .int .i64 m.to, .int .i64 m.height, .int .i64 m.round, .int .i64 m.valid, .string m.dig, .slice ao m.list.length cap]] W fun e w' => e = .returned (.bool (validB m)) ∧ Below wa.heap.size wa w' from fun W hW => (VA.out W (HB0.out.trans (hW.mono HB0.out.size))).mono (fun e w' q => ⟨q.1, hW.trans (q.2.mono hW.size)⟩))
    have KEEP := Lib.hid (show ∀ W, Below wa.heap.size wa W → W.cell? ⟨mb, 0, none⟩ = some (.int .i64 m.kind) ∧ W.cell? ⟨mb, 1, none⟩ = some (.int .i64 m.frm) ∧ W.cell? ⟨mb, 2, none⟩ = some (.int .i64 m.to) ∧ W.cell? ⟨mb, 3, none⟩ = some (.int .i64 m.height) ∧ W.cell? ⟨mb, 4, none⟩ = some (.int .i64 m.round) ∧ W.cell? ⟨mb, 5, none⟩ = some (.int .i64 m.valid) ∧ W.cell? ⟨mb, 6, none⟩ = some (.string m.dig) ∧ W.cell? ⟨mb, 7, none⟩ = some (.slice ao m.list.length cap) ∧ W.cell? ⟨x, 0, none⟩ = some (.int .i64 s.height) ∧ W.cell? ⟨x, 16, none⟩ = some (.int .i64 s.id) ∧ W.cell? ⟨x, 17, none⟩ = some (.int .i64 s.n) ∧ Below wa.heap.size wa W from fun W hW => by
      have hr := MRow.of ((hW.block mb (Array.getElem?_eq_some_iff.1 HR0.out).1).trans HR0.out)
      have hn := (HN0.out.below hW).nc
      exact ⟨hr.c0, hr.c1, hr.c2, hr.c3, hr.c4, hr.c5, hr.c6, hr.c7, hn.c0, hn.c16, hn.c17, hW⟩)
    rcases hv : validB m with _ | _
    · rw [hv] at VB
      have e1 : bd = true := by rw [HBD.out]; unfold badM; rw [hv]; rfl
      refine wp_region_held_drew (S := fun W => W.cell? ⟨mb, 0, none⟩ = some (.int .i64 m.kind) ∧ W.cell? ⟨mb, 1, none⟩ = some (.int .i64 m.frm) ∧ W.cell? ⟨mb, 2, none⟩ = some (.int .i64 m.to) ∧ W.cell? ⟨mb, 3, none⟩ = some (.int .i64 m.height) ∧ W.cell? ⟨mb, 4, none⟩ = some (.int .i64 m.round) ∧ W.cell? ⟨mb, 5, none⟩ = some (.int .i64 m.valid) ∧ W.cell? ⟨mb, 6, none⟩ = some (.string m.dig) ∧ W.cell? ⟨mb, 7, none⟩ = some (.slice ao m.list.length cap) ∧ W.cell? ⟨x, 0, none⟩ = some (.int .i64 s.height) ∧ W.cell? ⟨x, 16, none⟩ = some (.int .i64 s.id) ∧ W.cell? ⟨x, 17, none⟩ = some (.int .i64 s.n) ∧ Below wa.heap.size wa W) (by kernel_rfl) (KEEP.out _ (Below.refl _ wa).drew) (fun hHeld => ?_)
      refine wpAnyH_take (i := 0) (oi := _) (v := ?v1) rfl (by kernel_rfl) (by kernel_rfl) (by kernel_rfl) (fun _ _ _ h => h) (Or.inl ⟨by kernel_rfl, ?h1⟩) (by assumption) ?r1
      case h1 => (intro w hSw; (try dsimp only at hSw); (first | (go_simp; done) | (go_simp; with_reducible rfl)))
      try simp only [Act.put, List.setIfInBounds_toArray, List.set_cons_zero, List.set_cons_succ]
      refine wpAnyH_take (i := 1) (oi := _) (v := ?v2) rfl (by kernel_rfl) (by kernel_rfl) (by kernel_rfl) (fun _ _ _ h => h) (Or.inl ⟨by kernel_rfl, ?h2⟩) (by assumption) ?r2
      case h2 => (intro w hSw; (try dsimp only at hSw); (first | (go_simp; done) | (go_simp; with_reducible rfl)))
      try simp only [Act.put, List.setIfInBounds_toArray, List.set_cons_zero, List.set_cons_succ]
      refine wpAnyH_take (i := 2) (oi := _) (v := ?v3) rfl (by kernel_rfl) (by kernel_rfl) (by kernel_rfl) (fun _ _ _ h => h) (Or.inl ⟨by kernel_rfl, ?h3⟩) (by assumption) ?r3
      case h3 => (intro w hSw; (try dsimp only at hSw); (first | (go_simp; done) | (go_simp; with_reducible rfl)))
      try simp only [Act.put, List.setIfInBounds_toArray, List.set_cons_zero, List.set_cons_succ]
      refine wpAnyH_take (i := 3) (oi := _) (v := ?v4) rfl (by kernel_rfl) (by kernel_rfl) (by kernel_rfl) (fun _ _ _ h => h) (Or.inl ⟨by kernel_rfl, ?h4⟩) (by assumption) ?r4
      case h4 => (intro w hSw; (try dsimp only at hSw); (first | (go_simp; done) | (go_simp; with_reducible rfl)))
      try simp only [Act.put, List.setIfInBounds_toArray, List.set_cons_zero, List.set_cons_succ]
      refine wpAnyH_ready (rs := [4]) (by kernel_rfl) (by simp) ?_
      refine AllReadyH.cons (o := _) rfl (fun K hK => ?_) AllReadyH.nil
      go_simp
      go_at_call 19
      refine (VB.out _ (Below.refl _ wa).drew).mono ?_
      rintro e w2 ⟨rfl, hb⟩
      go_wp2_with fail
      have HE1 := Lib.hid hb
      clear hb hHeld
      refine hK.out _ _ (KEEP.out _ HE1.out) (fun hHeld => ?_)
      clear hK K
      try simp only [Act.put, List.setIfInBounds_toArray, List.set_cons_zero, List.set_cons_succ]
      refine wpAnyH_take (i := 5) (oi := _) (v := ?v5) rfl (by kernel_rfl) (by kernel_rfl) (by kernel_rfl) (fun _ _ _ h => h) (Or.inl ⟨by kernel_rfl, ?h5⟩) (by assumption) ?r5
      case h5 => (intro w hSw; (try dsimp only at hSw); (first | (go_simp; done) | (go_simp; with_reducible rfl)))
      try simp only [Act.put, List.setIfInBounds_toArray, List.set_cons_zero, List.set_cons_succ]
      refine wpAnyH_take (i := 6) (oi := _) (v := ?v6) rfl (by kernel_rfl) (by kernel_rfl) (by kernel_rfl) (fun _ _ _ h => h) (Or.inl ⟨by kernel_rfl, ?h6⟩) (by assumption) ?r6
      case h6 => (intro w hSw; (try dsimp only at hSw); (first | (go_simp; done) | (go_simp; with_reducible rfl)))
      try simp only [Act.put, List.setIfInBounds_toArray, List.set_cons_zero, List.set_cons_succ]
      refine wpAnyH_take (i := 7) (oi := _) (v := ?v7) rfl (by kernel_rfl) (by kernel_rfl) (by kernel_rfl) (fun _ _ _ h => h) (Or.inl ⟨by kernel_rfl, ?h7⟩) (by assumption) ?r7
      case h7 => (intro w hSw; (try dsimp only at hSw); (first | (go_simp; done) | (go_simp; with_reducible rfl)))
      try simp only [Act.put, List.setIfInBounds_toArray, List.set_cons_zero, List.set_cons_succ]
      refine wpAnyH_take (i := 8) (oi := _) (v := undef) rfl (by kernel_rfl) (by kernel_rfl) (by kernel_rfl) (fun _ _ _ h => h) (Or.inr ⟨by kernel_rfl, rfl⟩) (by assumption) ?_
      try simp only [Act.put, List.setIfInBounds_toArray, List.set_cons_zero, List.set_cons_succ]
      refine wpAnyH_take (i := 9) (oi := _) (v := undef) rfl (by kernel_rfl) (by kernel_rfl) (by kernel_rfl) (fun _ _ _ h => h) (Or.inr ⟨by kernel_rfl, rfl⟩) (by assumption) ?_
      try simp only [Act.put, List.setIfInBounds_toArray, List.set_cons_zero, List.set_cons_succ]
      refine wpAnyH_take (i := 10) (oi := _) (v := undef) rfl (by kernel_rfl) (by kernel_rfl) (by kernel_rfl) (fun _ _ _ h => h) (Or.inr ⟨by kernel_rfl, rfl⟩) (by assumption) ?_
      try simp only [Act.put, List.setIfInBounds_toArray, List.set_cons_zero, List.set_cons_succ]
      refine wpAnyH_take (i := 11) (oi := _) (v := undef) rfl (by kernel_rfl) (by kernel_rfl) (by kernel_rfl) (fun _ _ _ h => h) (Or.inr ⟨by kernel_rfl, rfl⟩) (by assumption) ?_
      try simp only [Act.put, List.setIfInBounds_toArray, List.set_cons_zero, List.set_cons_succ]
      refine wpAnyH_take (i := 12) (oi := _) (v := undef) rfl (by kernel_rfl) (by kernel_rfl) (by kernel_rfl) (fun _ _ _ h => h) (Or.inr ⟨by kernel_rfl, rfl⟩) (by assumption) ?_
      try simp only [Act.put, List.setIfInBounds_toArray, List.set_cons_zero, List.set_cons_succ]
      refine wpAnyH_take (i := 13) (oi := _) (v := undef) rfl (by kernel_rfl) (by kernel_rfl) (by kernel_rfl) (fun _ _ _ h => h) (Or.inr ⟨by kernel_rfl, rfl⟩) (by assumption) ?_
      try simp only [Act.put, List.setIfInBounds_toArray, List.set_cons_zero, List.set_cons_succ]
      refine wpAnyH_take (i := 14) (oi := _) (v := undef) rfl (by kernel_rfl) (by kernel_rfl) (by kernel_rfl) (fun _ _ _ h => h) (Or.inr ⟨by kernel_rfl, rfl⟩) (by assumption) ?_
      try simp only [Act.put, List.setIfInBounds_toArray, List.set_cons_zero, List.set_cons_succ]
      refine wpAnyH_take (i := 15) (oi := _) (v := ?v15) rfl (by kernel_rfl) (by kernel_rfl) (by kernel_rfl) (fun _ _ _ h => h) (Or.inl ⟨by kernel_rfl, ?h15⟩) (by assumption) ?r15
      case h15 => (intro w hSw; (try dsimp only at hSw); (first | (go_simp; done) | (go_simp; with_reducible rfl)))
      try simp only [Act.put, List.setIfInBounds_toArray, List.set_cons_zero, List.set_cons_succ]
      refine wpAnyH_take (i := 16) (oi := _) (v := ?v16) rfl (by kernel_rfl) (by kernel_rfl) (by kernel_rfl) (fun _ _ _ h => h) (Or.inl ⟨by kernel_rfl, ?h16⟩) (by assumption) ?r16
      case h16 => (intro w hSw; (try dsimp only at hSw); (first | (go_simp; done) | (go_simp; with_reducible rfl)))
      try simp only [Act.put, List.setIfInBounds_toArray, List.set_cons_zero, List.set_cons_succ]
      refine wpAnyH_take (i := 17) (oi := _) (v := undef) rfl (by kernel_rfl) (by kernel_rfl) (by kernel_rfl) (fun _ _ _ h => h) (Or.inr ⟨by kernel_rfl, rfl⟩) (by assumption) ?_
      try simp only [Act.put, List.setIfInBounds_toArray, List.set_cons_zero, List.set_cons_succ]
      refine wpAnyH_take (i := 18) (oi := _) (v := undef) rfl (by kernel_rfl) (by kernel_rfl) (by kernel_rfl) (fun _ _ _ h => h) (Or.inr ⟨by kernel_rfl, rfl⟩) (by assumption) ?_
      try simp only [Act.put, List.setIfInBounds_toArray, List.set_cons_zero, List.set_cons_succ]
      refine wpAnyH_take (i := 19) (oi := _) (v := undef) rfl (by kernel_rfl) (by kernel_rfl) (by kernel_rfl) (fun _ _ _ h => h) (Or.inr ⟨by kernel_rfl, rfl⟩) (by assumption) ?_
      try simp only [Act.put, List.setIfInBounds_toArray, List.set_cons_zero, List.set_cons_succ]
      refine wpAnyH_take (i := 20) (oi := _) (v := undef) rfl (by kernel_rfl) (by kernel_rfl) (by kernel_rfl) (fun _ _ _ h => h) (Or.inr ⟨by kernel_rfl, rfl⟩) (by assumption) ?_
      try simp only [Act.put, List.setIfInBounds_toArray, List.set_cons_zero, List.set_cons_succ]
      refine wpAnyH_take (i := 21) (oi := _) (v := undef) rfl (by kernel_rfl) (by kernel_rfl) (by kernel_rfl) (fun _ _ _ h => h) (Or.inr ⟨by kernel_rfl, rfl⟩) (by assumption) ?_
      try simp only [Act.put, List.setIfInBounds_toArray, List.set_cons_zero, List.set_cons_succ]
      refine wpAnyH_take (i := 22) (oi := _) (v := undef) rfl (by kernel_rfl) (by kernel_rfl) (by kernel_rfl) (fun _ _ _ h => h) (Or.inr ⟨by kernel_rfl, rfl⟩) (by assumption) ?_
      try simp only [Act.put, List.setIfInBounds_toArray, List.set_cons_zero, List.set_cons_succ]
      refine wpAnyH_take (i := 23) (oi := _) (v := undef) rfl (by kernel_rfl) (by kernel_rfl) (by kernel_rfl) (fun _ _ _ h => h) (Or.inr ⟨by kernel_rfl, rfl⟩) (by assumption) ?_
      try simp only [Act.put, List.setIfInBounds_toArray, List.set_cons_zero, List.set_cons_succ]
      refine wpAnyH_take (i := 24) (oi := _) (v := ?v24) rfl (by kernel_rfl) (by kernel_rfl) (by kernel_rfl) (fun _ _ _ h => h) (Or.inl ⟨by kernel_rfl, ?h24⟩) (by assumption) ?r24
      case h24 => (intro w hSw; (try dsimp only at hSw); (first | (go_simp; done) | (go_simp; with_reducible rfl)))
      try simp only [Act.put, List.setIfInBounds_toArray, List.set_cons_zero, List.set_cons_succ]
      refine wpAnyH_take (i := 25) (oi := _) (v := ?v25) rfl (by kernel_rfl) (by kernel_rfl) (by kernel_rfl) (fun _ _ _ h => h) (Or.inl ⟨by kernel_rfl, ?h25⟩) (by assumption) ?r25
      case h25 => (intro w hSw; (try dsimp only at hSw); (first | (go_simp; done) | (go_simp; with_reducible rfl)))
      try simp only [Act.put, List.setIfInBounds_toArray, List.set_cons_zero, List.set_cons_succ]
      refine wpAnyH_take (i := 26) (oi := _) (v := undef) rfl (by kernel_rfl) (by kernel_rfl) (by kernel_rfl) (fun _ _ _ h => h) (Or.inr ⟨by kernel_rfl, rfl⟩) (by assumption) ?_
      try simp only [Act.put, List.setIfInBounds_toArray, List.set_cons_zero, List.set_cons_succ]
      refine wpAnyH_take (i := 27) (oi := _) (v := undef) rfl (by kernel_rfl) (by kernel_rfl) (by kernel_rfl) (fun _ _ _ h => h) (Or.inr ⟨by kernel_rfl, rfl⟩) (by assumption) ?_
      try simp only [Act.put, List.setIfInBounds_toArray, List.set_cons_zero, List.set_cons_succ]
      refine wpAnyH_take (i := 28) (oi := _) (v := undef) rfl (by kernel_rfl) (by kernel_rfl) (by kernel_rfl) (fun _ _ _ h => h) (Or.inr ⟨by kernel_rfl, rfl⟩) (by assumption) ?_
      try simp only [Act.put, List.setIfInBounds_toArray, List.set_cons_zero, List.set_cons_succ]
      refine wpAnyH_take (i := 29) (oi := _) (v := undef) rfl (by kernel_rfl) (by kernel_rfl) (by kernel_rfl) (fun _ _ _ h => h) (Or.inr ⟨by kernel_rfl, rfl⟩) (by assumption) ?_
      try simp only [Act.put, List.setIfInBounds_toArray, List.set_cons_zero, List.set_cons_succ]
      refine wpAnyH_take (i := 30) (oi := _) (v := undef) rfl (by kernel_rfl) (by kernel_rfl) (by kernel_rfl) (fun _ _ _ h => h) (Or.inr ⟨by kernel_rfl, rfl⟩) (by assumption) ?_
      try simp only [Act.put, List.setIfInBounds_toArray, List.set_cons_zero, List.set_cons_succ]
      refine wpAnyH_take (i := 31) (oi := _) (v := undef) rfl (by kernel_rfl) (by kernel_rfl) (by kernel_rfl) (fun _ _ _ h => h) (Or.inr ⟨by kernel_rfl, rfl⟩) (by assumption) ?_
      try simp only [Act.put, List.setIfInBounds_toArray, List.set_cons_zero, List.set_cons_succ]
      refine wpAnyH_take (i := 32) (oi := _) (v := undef) rfl (by kernel_rfl) (by kernel_rfl) (by kernel_rfl) (fun _ _ _ h => h) (Or.inr ⟨by kernel_rfl, rfl⟩) (by assumption) ?_
      try simp only [Act.put, List.setIfInBounds_toArray, List.set_cons_zero, List.set_cons_succ]
      refine wpAnyH_take (i := 33) (oi := _) (v := undef) rfl (by kernel_rfl) (by kernel_rfl) (by kernel_rfl) (fun _ _ _ h => h) (Or.inr ⟨by kernel_rfl, rfl⟩) (by assumption) ?_
      try simp only [Act.put, List.getElem_toArray, List.getElem_cons_succ, List.getElem_cons_zero, List.setIfInBounds_toArray, List.set_cons_zero, List.set_cons_succ]
      refine wpAnyH_take (i := 34) (oi := _) (v := ?v34) rfl (by kernel_rfl) (by kernel_rfl) (by kernel_rfl) (fun _ _ _ h => h) (Or.inl ⟨by kernel_rfl, ?h34⟩) (by assumption) ?r34
      case h34 => (intro w hSw; (try dsimp only at hSw); (first | (go_simp; done) | (go_simp; with_reducible rfl)))
      try simp only [Act.put, List.getElem_toArray, List.getElem_cons_succ, List.getElem_cons_zero, List.setIfInBounds_toArray, List.set_cons_zero, List.set_cons_succ]
      refine wpAnyH_done (by kernel_rfl) ?_ _
      go_wp2_with fail
      go_meet
      exact ⟨by rw [e1], HE1.out⟩
    · rw [hv] at VB
      by_cases ht : m.to = s.id
      · have n1 : (m.to != s.id) = false := by simpa using ht
        have n1b : (m.to == s.id) = true := by simpa using ht
        by_cases hf : s.n ≤ m.frm
        · have n2 : decide (s.n ≤ m.frm) = true := by simpa using hf
          have e1 : bd = true := by rw [HBD.out]; unfold badM; rw [n2]; simp
          clear ht hf
          refine wp_region_held_drew (S := fun W => W.cell? ⟨mb, 0, none⟩ = some (.int .i64 m.kind) ∧ W.cell? ⟨mb, 1, none⟩ = some (.int .i64 m.frm) ∧ W.cell? ⟨mb, 2, none⟩ = some (.int .i64 m.to) ∧ W.cell? ⟨mb, 3, none⟩ = some (.int .i64 m.height) ∧ W.cell? ⟨mb, 4, none⟩ = some (.int .i64 m.round) ∧ W.cell? ⟨mb, 5, none⟩ = some (.int .i64 m.valid) ∧ W.cell? ⟨mb, 6, none⟩ = some (.string m.dig) ∧ W.cell? ⟨mb, 7, none⟩ = some (.slice ao m.list.length cap) ∧ W.cell? ⟨x, 0, none⟩ = some (.int .i64 s.height) ∧ W.cell? ⟨x, 16, none⟩ = some (.int .i64 s.id) ∧ W.cell? ⟨x, 17, none⟩ = some (.int .i64 s.n) ∧ Below wa.heap.size wa W) (by kernel_rfl) (KEEP.out _ (Below.refl _ wa).drew) (fun hHeld => ?_)
          refine wpAnyH_take (i := 0) (oi := _) (v := ?v35) rfl (by kernel_rfl) (by kernel_rfl) (by kernel_rfl) (fun _ _ _ h => h) (Or.inl ⟨by kernel_rfl, ?h35⟩) (by assumption) ?r35
          case h35 => (intro w hSw; (try dsimp only at hSw); (first | (go_simp; done) | (go_simp; with_reducible rfl)))
          try simp only [Act.put, List.setIfInBounds_toArray, List.set_cons_zero, List.set_cons_succ]
          refine wpAnyH_take (i := 1) (oi := _) (v := ?v36) rfl (by kernel_rfl) (by kernel_rfl) (by kernel_rfl) (fun _ _ _ h => h) (Or.inl ⟨by kernel_rfl, ?h36⟩) (by assumption) ?r36
          case h36 => (intro w hSw; (try dsimp only at hSw); (first | (go_simp; done) | (go_simp; with_reducible rfl)))
          try simp only [Act.put, List.setIfInBounds_toArray, List.set_cons_zero, List.set_cons_succ]
          refine wpAnyH_take (i := 2) (oi := _) (v := ?v37) rfl (by kernel_rfl) (by kernel_rfl) (by kernel_rfl) (fun _ _ _ h => h) (Or.inl ⟨by kernel_rfl, ?h37⟩) (by assumption) ?r37
          case h37 => (intro w hSw; (try dsimp only at hSw); (first | (go_simp; done) | (go_simp; with_reducible rfl)))
          try simp only [Act.put, List.setIfInBounds_toArray, List.set_cons_zero, List.set_cons_succ]
          refine wpAnyH_take (i := 3) (oi := _) (v := ?v38) rfl (by kernel_rfl) (by kernel_rfl) (by kernel_rfl) (fun _ _ _ h => h) (Or.inl ⟨by kernel_rfl, ?h38⟩) (by assumption) ?r38
          case h38 => (intro w hSw; (try dsimp only at hSw); (first | (go_simp; done) | (go_simp; with_reducible rfl)))
          try simp only [Act.put, List.setIfInBounds_toArray, List.set_cons_zero, List.set_cons_succ]
          refine wpAnyH_ready (rs := [4]) (by kernel_rfl) (by simp) ?_
          refine AllReadyH.cons (o := _) rfl (fun K hK => ?_) AllReadyH.nil
          go_simp
          go_at_call 19
          refine (VB.out _ (Below.refl _ wa).drew).mono ?_
          rintro e w2 ⟨rfl, hb⟩
          go_wp2_with fail
          have HE1 := Lib.hid hb
          clear hb hHeld
          refine hK.out _ _ (KEEP.out _ HE1.out) (fun hHeld => ?_)
          clear hK K
          try simp only [Act.put, List.setIfInBounds_toArray, List.set_cons_zero, List.set_cons_succ]
          refine wpAnyH_take (i := 5) (oi := _) (v := ?v39) rfl (by kernel_rfl) (by kernel_rfl) (by kernel_rfl) (fun _ _ _ h => h) (Or.inl ⟨by kernel_rfl, ?h39⟩) (by assumption) ?r39
          case h39 => (intro w hSw; (try dsimp only at hSw); (first | (go_simp; done) | (go_simp; with_reducible rfl)))
          try simp only [Act.put, List.setIfInBounds_toArray, List.set_cons_zero, List.set_cons_succ]
          refine wpAnyH_take (i := 6) (oi := _) (v := ?v40) rfl (by kernel_rfl) (by kernel_rfl) (by kernel_rfl) (fun _ _ _ h => h) (Or.inl ⟨by kernel_rfl, ?h40⟩) (by assumption) ?r40
          case h40 => (intro w hSw; (try dsimp only at hSw); (first | (go_simp; done) | (go_simp; with_reducible rfl)))
          try simp only [Act.put, List.setIfInBounds_toArray, List.set_cons_zero, List.set_cons_succ]
          refine wpAnyH_take (i := 7) (oi := _) (v := ?v41) rfl (by kernel_rfl) (by kernel_rfl) (by kernel_rfl) (fun _ _ _ h => h) (Or.inl ⟨by kernel_rfl, ?h41⟩) (by assumption) ?r41
          case h41 => (intro w hSw; (try dsimp only at hSw); (first | (go_simp; done) | (go_simp; with_reducible rfl)))
          try simp only [Act.put, List.setIfInBounds_toArray, List.set_cons_zero, List.set_cons_succ]
          refine wpAnyH_take (i := 8) (oi := _) (v := ?v42) rfl (by kernel_rfl) (by kernel_rfl) (by kernel_rfl) (fun _ _ _ h => h) (Or.inl ⟨by kernel_rfl, ?h42⟩) (by assumption) ?r42
          case h42 => (intro w hSw; (try dsimp only at hSw); (first | (go_simp; done) | (go_simp; with_reducible rfl)))
          try simp only [Act.put, List.setIfInBounds_toArray, List.set_cons_zero, List.set_cons_succ]
          refine wpAnyH_take (i := 9) (oi := _) (v := ?v43) rfl (by kernel_rfl) (by kernel_rfl) (by kernel_rfl) (fun _ _ _ h => h) (Or.inl ⟨by kernel_rfl, ?h43⟩) (by assumption) ?r43
          case h43 => (intro w hSw; (try dsimp only at hSw); (first | (go_simp; done) | (go_simp; with_reducible rfl)))
          try simp only [Act.put, List.setIfInBounds_toArray, List.set_cons_zero, List.set_cons_succ]
          refine wpAnyH_take (i := 10) (oi := _) (v := ?v44) rfl (by kernel_rfl) (by kernel_rfl) (by kernel_rfl) (fun _ _ _ h => h) (Or.inl ⟨by kernel_rfl, ?h44⟩) (by assumption) ?r44
          case h44 => (intro w hSw; (try dsimp only at hSw); (first | (go_simp; done) | (go_simp; with_reducible rfl)))
          try simp only [Act.put, List.setIfInBounds_toArray, List.set_cons_zero, List.set_cons_succ]
          refine wpAnyH_take (i := 11) (oi := _) (v := ?v45) rfl (by kernel_rfl) (by kernel_rfl) (by kernel_rfl) (fun _ _ _ h => h) (Or.inl ⟨by kernel_rfl, ?h45⟩) (by assumption) ?r45
          case h45 => (intro w hSw; (try dsimp only at hSw); (first | (go_simp; done) | (go_simp; with_reducible rfl)))
          try simp only [Act.put, List.setIfInBounds_toArray, List.set_cons_zero, List.set_cons_succ]
          refine wpAnyH_take (i := 12) (oi := _) (v := ?v46) rfl (by kernel_rfl) (by kernel_rfl) (by kernel_rfl) (fun _ _ _ h => h) (Or.inl ⟨by kernel_rfl, ?h46⟩) (by assumption) ?r46
          case h46 => (intro w hSw; (try dsimp only at hSw); (first | (go_simp; done) | (go_simp; with_reducible rfl)))
          try simp only [Act.put, List.setIfInBounds_toArray, List.set_cons_zero, List.set_cons_succ]
          refine wpAnyH_take (i := 13) (oi := _) (v := ?v47) rfl (by kernel_rfl) (by kernel_rfl) (by kernel_rfl) (fun _ _ _ h => h) (Or.inl ⟨by kernel_rfl, ?h47⟩) (by assumption) ?r47
          case h47 => (intro w hSw; (try dsimp only at hSw); (first | (go_simp; done) | (go_simp; with_reducible rfl)))
          try simp only [Act.put, List.setIfInBounds_toArray, List.set_cons_zero, List.set_cons_succ]
          refine wpAnyH_take (i := 14) (oi := _) (v := ?v48) rfl (by kernel_rfl) (by kernel_rfl) (by kernel_rfl) (fun _ _ _ h => h) (Or.inl ⟨by kernel_rfl, ?h48⟩) (by assumption) ?r48
          case h48 => (intro w hSw; (try dsimp only at hSw); (first | (go_simp; done) | (go_simp; with_reducible rfl)))
          try simp only [Act.put, List.setIfInBounds_toArray, List.set_cons_zero, List.set_cons_succ]
          refine wpAnyH_take (i := 15) (oi := _) (v := ?v49) rfl (by kernel_rfl) (by kernel_rfl) (by kernel_rfl) (fun _ _ _ h => h) (Or.inl ⟨by kernel_rfl, ?h49⟩) (by assumption) ?r49
          case h49 => (intro w hSw; (try dsimp only at hSw); (first | (go_simp; done) | (go_simp; with_reducible rfl)))
          try simp only [Act.put, List.setIfInBounds_toArray, List.set_cons_zero, List.set_cons_succ]
          refine wpAnyH_take (i := 16) (oi := _) (v := ?v50) rfl (by kernel_rfl) (by kernel_rfl) (by kernel_rfl) (fun _ _ _ h => h) (Or.inl ⟨by kernel_rfl, ?h50⟩) (by assumption) ?r50
          case h50 => (intro w hSw; (try dsimp only at hSw); (first | (go_simp; done) | (go_simp; with_reducible rfl)))
          try simp only [Act.put, List.setIfInBounds_toArray, List.set_cons_zero, List.set_cons_succ]
          refine wpAnyH_take (i := 17) (oi := _) (v := ?v51) rfl (by kernel_rfl) (by kernel_rfl) (by kernel_rfl) (fun _ _ _ h => h) (Or.inl ⟨by kernel_rfl, ?h51⟩) (by assumption) ?r51
          case h51 => (intro w hSw; (try dsimp only at hSw); (first | (go_simp; done) | (go_simp; with_reducible rfl)))
          try simp only [Act.put, List.setIfInBounds_toArray, List.set_cons_zero, List.set_cons_succ]
          refine wpAnyH_take (i := 18) (oi := _) (v := ?v52) rfl (by kernel_rfl) (by kernel_rfl) (by kernel_rfl) (fun _ _ _ h => h) (Or.inl ⟨by kernel_rfl, ?h52⟩) (by assumption) ?r52
          case h52 => (intro w hSw; (try dsimp only at hSw); (first | (go_simp; done) | (go_simp; with_reducible rfl)))
          try simp only [Act.put, List.setIfInBounds_toArray, List.set_cons_zero, List.set_cons_succ]
          refine wpAnyH_take (i := 19) (oi := _) (v := ?v53) rfl (by kernel_rfl) (by kernel_rfl) (by kernel_rfl) (fun _ _ _ h => h) (Or.inl ⟨by kernel_rfl, ?h53⟩) (by assumption) ?r53
          case h53 => (intro w hSw; (try dsimp only at hSw); (first | (go_simp; done) | (go_simp; with_reducible rfl)))
          try simp only [Act.put, List.setIfInBounds_toArray, List.set_cons_zero, List.set_cons_succ]
          refine wpAnyH_take (i := 20) (oi := _) (v := ?v54) rfl (by kernel_rfl) (by kernel_rfl) (by kernel_rfl) (fun _ _ _ h => h) (Or.inl ⟨by kernel_rfl, ?h54⟩) (by assumption) ?r54
          case h54 => (intro w hSw; (try dsimp only at hSw); (first | (go_simp; done) | (go_simp; with_reducible rfl)))
          try simp only [Act.put, List.setIfInBounds_toArray, List.set_cons_zero, List.set_cons_succ]
          refine wpAnyH_take (i := 21) (oi := _) (v := ?v55) rfl (by kernel_rfl) (by kernel_rfl) (by kernel_rfl) (fun _ _ _ h => h) (Or.inl ⟨by kernel_rfl, ?h55⟩) (by assumption) ?r55
          case h55 => (intro w hSw; (try dsimp only at hSw); (first | (go_simp; done) | (go_simp; with_reducible rfl)))
          try simp only [Act.put, List.setIfInBounds_toArray, List.set_cons_zero, List.set_cons_succ]
          refine wpAnyH_take (i := 22) (oi := _) (v := ?v56) rfl (by kernel_rfl) (by kernel_rfl) (by kernel_rfl) (fun _ _ _ h => h) (Or.inl ⟨by kernel_rfl, ?h56⟩) (by assumption) ?r56
          case h56 => (intro w hSw; (try dsimp only at hSw); (first | (go_simp; done) | (go_simp; with_reducible rfl)))
          try simp only [Act.put, List.setIfInBounds_toArray, List.set_cons_zero, List.set_cons_succ]
          refine wpAnyH_take (i := 23) (oi := _) (v := ?v57) rfl (by kernel_rfl) (by kernel_rfl) (by kernel_rfl) (fun _ _ _ h => h) (Or.inl ⟨by kernel_rfl, ?h57⟩) (by assumption) ?r57
          case h57 => (intro w hSw; (try dsimp only at hSw); (first | (go_simp; done) | (go_simp; with_reducible rfl)))
          try simp only [Act.put, List.setIfInBounds_toArray, List.set_cons_zero, List.set_cons_succ]
          refine wpAnyH_take (i := 24) (oi := _) (v := ?v58) rfl (by kernel_rfl) (by kernel_rfl) (by kernel_rfl) (fun _ _ _ h => h) (Or.inl ⟨by kernel_rfl, ?h58⟩) (by assumption) ?r58
          case h58 => (intro w hSw; (try dsimp only at hSw); (first | (go_simp; done) | (go_simp; with_reducible rfl)))
          try simp only [Act.put, List.setIfInBounds_toArray, List.set_cons_zero, List.set_cons_succ]
          refine wpAnyH_take (i := 25) (oi := _) (v := ?v59) rfl (by kernel_rfl) (by kernel_rfl) (by kernel_rfl) (fun _ _ _ h => h) (Or.inl ⟨by kernel_rfl, ?h59⟩) (by assumption) ?r59
          case h59 => (intro w hSw; (try dsimp only at hSw); (first | (go_simp; done) | (go_simp; with_reducible rfl)))
          try simp only [Act.put, List.setIfInBounds_toArray, List.set_cons_zero, List.set_cons_succ]
          refine wpAnyH_take (i := 26) (oi := _) (v := undef) rfl (by kernel_rfl) (by kernel_rfl) (by kernel_rfl) (fun _ _ _ h => h) (Or.inr ⟨by kernel_rfl, rfl⟩) (by assumption) ?_
          try simp only [Act.put, List.setIfInBounds_toArray, List.set_cons_zero, List.set_cons_succ]
          refine wpAnyH_take (i := 27) (oi := _) (v := undef) rfl (by kernel_rfl) (by kernel_rfl) (by kernel_rfl) (fun _ _ _ h => h) (Or.inr ⟨by kernel_rfl, rfl⟩) (by assumption) ?_
          try simp only [Act.put, List.setIfInBounds_toArray, List.set_cons_zero, List.set_cons_succ]
          refine wpAnyH_take (i := 28) (oi := _) (v := undef) rfl (by kernel_rfl) (by kernel_rfl) (by kernel_rfl) (fun _ _ _ h => h) (Or.inr ⟨by kernel_rfl, rfl⟩) (by assumption) ?_
          try simp only [Act.put, List.setIfInBounds_toArray, List.set_cons_zero, List.set_cons_succ]
          refine wpAnyH_take (i := 29) (oi := _) (v := undef) rfl (by kernel_rfl) (by kernel_rfl) (by kernel_rfl) (fun _ _ _ h => h) (Or.inr ⟨by kernel_rfl, rfl⟩) (by assumption) ?_
          try simp only [Act.put, List.setIfInBounds_toArray, List.set_cons_zero, List.set_cons_succ]
          refine wpAnyH_take (i := 30) (oi := _) (v := undef) rfl (by kernel_rfl) (by kernel_rfl) (by kernel_rfl) (fun _ _ _ h => h) (Or.inr ⟨by kernel_rfl, rfl⟩) (by assumption) ?_
          try simp only [Act.put, List.setIfInBounds_toArray, List.set_cons_zero, List.set_cons_succ]
          refine wpAnyH_take (i := 31) (oi := _) (v := undef) rfl (by kernel_rfl) (by kernel_rfl) (by kernel_rfl) (fun _ _ _ h => h) (Or.inr ⟨by kernel_rfl, rfl⟩) (by assumption) ?_
          try simp only [Act.put, List.setIfInBounds_toArray, List.set_cons_zero, List.set_cons_succ]
          refine wpAnyH_take (i := 32) (oi := _) (v := undef) rfl (by kernel_rfl) (by kernel_rfl) (by kernel_rfl) (fun _ _ _ h => h) (Or.inr ⟨by kernel_rfl, rfl⟩) (by assumption) ?_
          try simp only [Act.put, List.setIfInBounds_toArray, List.set_cons_zero, List.set_cons_succ]
          refine wpAnyH_take (i := 33) (oi := _) (v := undef) rfl (by kernel_rfl) (by kernel_rfl) (by kernel_rfl) (fun _ _ _ h => h) (Or.inr ⟨by kernel_rfl, rfl⟩) (by assumption) ?_
          try simp only [Act.put, List.getElem_toArray, List.getElem_cons_succ, List.getElem_cons_zero, List.setIfInBounds_toArray, List.set_cons_zero, List.set_cons_succ]
          refine wpAnyH_take (i := 34) (oi := _) (v := ?v68) rfl (by kernel_rfl) (by kernel_rfl) (by kernel_rfl) (fun _ _ _ h => h) (Or.inl ⟨by kernel_rfl, ?h68⟩) (by assumption) ?r68
          case h68 => (intro w hSw; (try dsimp only at hSw); (first | (go_simp; done) | (go_simp; with_reducible rfl)))
          try simp only [Act.put, List.getElem_toArray, List.getElem_cons_succ, List.getElem_cons_zero, List.setIfInBounds_toArray, List.set_cons_zero, List.set_cons_succ]
          refine wpAnyH_done (by kernel_rfl) ?_ _
          go_wp2_with fail
          go_meet
          exact ⟨by rw [e1], HE1.out⟩
        · have n2 : decide (s.n ≤ m.frm) = false := by simpa using hf
          have e1 : bd = decide (s.height < m.height) := by rw [HBD.out]; unfold badM; rw [hv, n1b, n2]; simp
          clear ht hf
          refine wp_region_held_drew (S := fun W => W.cell? ⟨mb, 0, none⟩ = some (.int .i64 m.kind) ∧ W.cell? ⟨mb, 1, none⟩ = some (.int .i64 m.frm) ∧ W.cell? ⟨mb, 2, none⟩ = some (.int .i64 m.to) ∧ W.cell? ⟨mb, 3, none⟩ = some (.int .i64 m.height) ∧ W.cell? ⟨mb, 4, none⟩ = some (.int .i64 m.round) ∧ W.cell? ⟨mb, 5, none⟩ = some (.int .i64 m.valid) ∧ W.cell? ⟨mb, 6, none⟩ = some (.string m.dig) ∧ W.cell? ⟨mb, 7, none⟩ = some (.slice ao m.list.length cap) ∧ W.cell? ⟨x, 0, none⟩ = some (.int .i64 s.height) ∧ W.cell? ⟨x, 16, none⟩ = some (.int .i64 s.id) ∧ W.cell? ⟨x, 17, none⟩ = some (.int .i64 s.n) ∧ Below wa.heap.size wa W) (by kernel_rfl) (KEEP.out _ (Below.refl _ wa).drew) (fun hHeld => ?_)
          refine wpAnyH_take (i := 0) (oi := _) (v := ?v69) rfl (by kernel_rfl) (by kernel_rfl) (by kernel_rfl) (fun _ _ _ h => h) (Or.inl ⟨by kernel_rfl, ?h69⟩) (by assumption) ?r69
          case h69 => (intro w hSw; (try dsimp only at hSw); (first | (go_simp; done) | (go_simp; with_reducible rfl)))
          try simp only [Act.put, List.setIfInBounds_toArray, List.set_cons_zero, List.set_cons_succ]
          refine wpAnyH_take (i := 1) (oi := _) (v := ?v70) rfl (by kernel_rfl) (by kernel_rfl) (by kernel_rfl) (fun _ _ _ h => h) (Or.inl ⟨by kernel_rfl, ?h70⟩) (by assumption) ?r70
          case h70 => (intro w hSw; (try dsimp only at hSw); (first | (go_simp; done) | (go_simp; with_reducible rfl)))
          try simp only [Act.put, List.setIfInBounds_toArray, List.set_cons_zero, List.set_cons_succ]
          refine wpAnyH_take (i := 2) (oi := _) (v := ?v71) rfl (by kernel_rfl) (by kernel_rfl) (by kernel_rfl) (fun _ _ _ h => h) (Or.inl ⟨by kernel_rfl, ?h71⟩) (by assumption) ?r71
          case h71 => (intro w hSw; (try dsimp only at hSw); (first | (go_simp; done) | (go_simp; with_reducible rfl)))
          try simp only [Act.put, List.setIfInBounds_toArray, List.set_cons_zero, List.set_cons_succ]
          refine wpAnyH_take (i := 3) (oi := _) (v := ?v72) rfl (by kernel_rfl) (by kernel_rfl) (by kernel_rfl) (fun _ _ _ h => h) (Or.inl ⟨by kernel_rfl, ?h72⟩) (by assumption) ?r72
          case h72 => (intro w hSw; (try dsimp only at hSw); (first | (go_simp; done) | (go_simp; with_reducible rfl)))
          try simp only [Act.put, List.setIfInBounds_toArray, List.set_cons_zero, List.set_cons_succ]
          refine wpAnyH_ready (rs := [4]) (by kernel_rfl) (by simp) ?_
          refine AllReadyH.cons (o := _) rfl (fun K hK => ?_) AllReadyH.nil
          go_simp
          go_at_call 19
          refine (VB.out _ (Below.refl _ wa).drew).mono ?_
          rintro e w2 ⟨rfl, hb⟩
          go_wp2_with fail
          have HE1 := Lib.hid hb
          clear hb hHeld
          refine hK.out _ _ (KEEP.out _ HE1.out) (fun hHeld => ?_)
          clear hK K
          try simp only [Act.put, List.setIfInBounds_toArray, List.set_cons_zero, List.set_cons_succ]
          refine wpAnyH_take (i := 5) (oi := _) (v := ?v73) rfl (by kernel_rfl) (by kernel_rfl) (by kernel_rfl) (fun _ _ _ h => h) (Or.inl ⟨by kernel_rfl, ?h73⟩) (by assumption) ?r73
          case h73 => (intro w hSw; (try dsimp only at hSw); (first | (go_simp; done) | (go_simp; with_reducible rfl)))
          try simp only [Act.put, List.setIfInBounds_toArray, List.set_cons_zero, List.set_cons_succ]
          refine wpAnyH_take (i := 6) (oi := _) (v := ?v74) rfl (by kernel_rfl) (by kernel_rfl) (by kernel_rfl) (fun _ _ _ h => h) (Or.inl ⟨by kernel_rfl, ?h74⟩) (by assumption) ?r74
          case h74 => (intro w hSw; (try dsimp only at hSw); (first | (go_simp; done) | (go_simp; with_reducible rfl)))
          try simp only [Act.put, List.setIfInBounds_toArray, List.set_cons_zero, List.set_cons_succ]
          refine wpAnyH_take (i := 7) (oi := _) (v := ?v75) rfl (by kernel_rfl) (by kernel_rfl) (by kernel_rfl) (fun _ _ _ h => h) (Or.inl ⟨by kernel_rfl, ?h75⟩) (by assumption) ?r75
          case h75 => (intro w hSw; (try dsimp only at hSw); (first | (go_simp; done) | (go_simp; with_reducible rfl)))
          try simp only [Act.put, List.setIfInBounds_toArray, List.set_cons_zero, List.set_cons_succ]
          refine wpAnyH_take (i := 8) (oi := _) (v := ?v76) rfl (by kernel_rfl) (by kernel_rfl) (by kernel_rfl) (fun _ _ _ h => h) (Or.inl ⟨by kernel_rfl, ?h76⟩) (by assumption) ?r76
          case h76 => (intro w hSw; (try dsimp only at hSw); (first | (go_simp; done) | (go_simp; with_reducible rfl)))
          try simp only [Act.put, List.setIfInBounds_toArray, List.set_cons_zero, List.set_cons_succ]
          refine wpAnyH_take (i := 9) (oi := _) (v := ?v77) rfl (by kernel_rfl) (by kernel_rfl) (by kernel_rfl) (fun _ _ _ h => h) (Or.inl ⟨by kernel_rfl, ?h77⟩) (by assumption) ?r77
          case h77 => (intro w hSw; (try dsimp only at hSw); (first | (go_simp; done) | (go_simp; with_reducible rfl)))
          try simp only [Act.put, List.setIfInBounds_toArray, List.set_cons_zero, List.set_cons_succ]
          refine wpAnyH_take (i := 10) (oi := _) (v := ?v78) rfl (by kernel_rfl) (by kernel_rfl) (by kernel_rfl) (fun _ _ _ h => h) (Or.inl ⟨by kernel_rfl, ?h78⟩) (by assumption) ?r78
          case h78 => (intro w hSw; (try dsimp only at hSw); (first | (go_simp; done) | (go_simp; with_reducible rfl)))
          try simp only [Act.put, List.setIfInBounds_toArray, List.set_cons_zero, List.set_cons_succ]
          refine wpAnyH_take (i := 11) (oi := _) (v := ?v79) rfl (by kernel_rfl) (by kernel_rfl) (by kernel_rfl) (fun _ _ _ h => h) (Or.inl ⟨by kernel_rfl, ?h79⟩) (by assumption) ?r79
          case h79 => (intro w hSw; (try dsimp only at hSw); (first | (go_simp; done) | (go_simp; with_reducible rfl)))
          try simp only [Act.put, List.setIfInBounds_toArray, List.set_cons_zero, List.set_cons_succ]
          refine wpAnyH_take (i := 12) (oi := _) (v := ?v80) rfl (by kernel_rfl) (by kernel_rfl) (by kernel_rfl) (fun _ _ _ h => h) (Or.inl ⟨by kernel_rfl, ?h80⟩) (by assumption) ?r80
          case h80 => (intro w hSw; (try dsimp only at hSw); (first | (go_simp; done) | (go_simp; with_reducible rfl)))
          try simp only [Act.put, List.setIfInBounds_toArray, List.set_cons_zero, List.set_cons_succ]
          refine wpAnyH_take (i := 13) (oi := _) (v := ?v81) rfl (by kernel_rfl) (by kernel_rfl) (by kernel_rfl) (fun _ _ _ h => h) (Or.inl ⟨by kernel_rfl, ?h81⟩) (by assumption) ?r81
          case h81 => (intro w hSw; (try dsimp only at hSw); (first | (go_simp; done) | (go_simp; with_reducible rfl)))
          try simp only [Act.put, List.setIfInBounds_toArray, List.set_cons_zero, List.set_cons_succ]
          refine wpAnyH_take (i := 14) (oi := _) (v := ?v82) rfl (by kernel_rfl) (by kernel_rfl) (by kernel_rfl) (fun _ _ _ h => h) (Or.inl ⟨by kernel_rfl, ?h82⟩) (by assumption) ?r82
          case h82 => (intro w hSw; (try dsimp only at hSw); (first | (go_simp; done) | (go_simp; with_reducible rfl)))
          try simp only [Act.put, List.setIfInBounds_toArray, List.set_cons_zero, List.set_cons_succ]
          refine wpAnyH_take (i := 15) (oi := _) (v := ?v83) rfl (by kernel_rfl) (by kernel_rfl) (by kernel_rfl) (fun _ _ _ h => h) (Or.inl ⟨by kernel_rfl, ?h83⟩) (by assumption) ?r83
          case h83 => (intro w hSw; (try dsimp only at hSw); (first | (go_simp; done) | (go_simp; with_reducible rfl)))
          try simp only [Act.put, List.setIfInBounds_toArray, List.set_cons_zero, List.set_cons_succ]
          refine wpAnyH_take (i := 16) (oi := _) (v := ?v84) rfl (by kernel_rfl) (by kernel_rfl) (by kernel_rfl) (fun _ _ _ h => h) (Or.inl ⟨by kernel_rfl, ?h84⟩) (by assumption) ?r84
          case h84 => (intro w hSw; (try dsimp only at hSw); (first | (go_simp; done) | (go_simp; with_reducible rfl)))
          try simp only [Act.put, List.setIfInBounds_toArray, List.set_cons_zero, List.set_cons_succ]
          refine wpAnyH_take (i := 17) (oi := _) (v := ?v85) rfl (by kernel_rfl) (by kernel_rfl) (by kernel_rfl) (fun _ _ _ h => h) (Or.inl ⟨by kernel_rfl, ?h85⟩) (by assumption) ?r85
          case h85 => (intro w hSw; (try dsimp only at hSw); (first | (go_simp; done) | (go_simp; with_reducible rfl)))
          try simp only [Act.put, List.setIfInBounds_toArray, List.set_cons_zero, List.set_cons_succ]
          refine wpAnyH_take (i := 18) (oi := _) (v := ?v86) rfl (by kernel_rfl) (by kernel_rfl) (by kernel_rfl) (fun _ _ _ h => h) (Or.inl ⟨by kernel_rfl, ?h86⟩) (by assumption) ?r86
          case h86 => (intro w hSw; (try dsimp only at hSw); (first | (go_simp; done) | (go_simp; with_reducible rfl)))
          try simp only [Act.put, List.setIfInBounds_toArray, List.set_cons_zero, List.set_cons_succ]
          refine wpAnyH_take (i := 19) (oi := _) (v := ?v87) rfl (by kernel_rfl) (by kernel_rfl) (by kernel_rfl) (fun _ _ _ h => h) (Or.inl ⟨by kernel_rfl, ?h87⟩) (by assumption) ?r87
          case h87 => (intro w hSw; (try dsimp only at hSw); (first | (go_simp; done) | (go_simp; with_reducible rfl)))
          try simp only [Act.put, List.setIfInBounds_toArray, List.set_cons_zero, List.set_cons_succ]
          refine wpAnyH_take (i := 20) (oi := _) (v := ?v88) rfl (by kernel_rfl) (by kernel_rfl) (by kernel_rfl) (fun _ _ _ h => h) (Or.inl ⟨by kernel_rfl, ?h88⟩) (by assumption) ?r88
          case h88 => (intro w hSw; (try dsimp only at hSw); (first | (go_simp; done) | (go_simp; with_reducible rfl)))
          try simp only [Act.put, List.setIfInBounds_toArray, List.set_cons_zero, List.set_cons_succ]
          refine wpAnyH_take (i := 21) (oi := _) (v := ?v89) rfl (by kernel_rfl) (by kernel_rfl) (by kernel_rfl) (fun _ _ _ h => h) (Or.inl ⟨by kernel_rfl, ?h89⟩) (by assumption) ?r89
          case h89 => (intro w hSw; (try dsimp only at hSw); (first | (go_simp; done) | (go_simp; with_reducible rfl)))
          try simp only [Act.put, List.setIfInBounds_toArray, List.set_cons_zero, List.set_cons_succ]
          refine wpAnyH_take (i := 22) (oi := _) (v := ?v90) rfl (by kernel_rfl) (by kernel_rfl) (by kernel_rfl) (fun _ _ _ h => h) (Or.inl ⟨by kernel_rfl, ?h90⟩) (by assumption) ?r90
          case h90 => (intro w hSw; (try dsimp only at hSw); (first | (go_simp; done) | (go_simp; with_reducible rfl)))
          try simp only [Act.put, List.setIfInBounds_toArray, List.set_cons_zero, List.set_cons_succ]
          refine wpAnyH_take (i := 23) (oi := _) (v := ?v91) rfl (by kernel_rfl) (by kernel_rfl) (by kernel_rfl) (fun _ _ _ h => h) (Or.inl ⟨by kernel_rfl, ?h91⟩) (by assumption) ?r91
          case h91 => (intro w hSw; (try dsimp only at hSw); (first | (go_simp; done) | (go_simp; with_reducible rfl)))
          try simp only [Act.put, List.setIfInBounds_toArray, List.set_cons_zero, List.set_cons_succ]
          refine wpAnyH_take (i := 24) (oi := _) (v := ?v92) rfl (by kernel_rfl) (by kernel_rfl) (by kernel_rfl) (fun _ _ _ h => h) (Or.inl ⟨by kernel_rfl, ?h92⟩) (by assumption) ?r92
          case h92 => (intro w hSw; (try dsimp only at hSw); (first | (go_simp; done) | (go_simp; with_reducible rfl)))
          try simp only [Act.put, List.setIfInBounds_toArray, List.set_cons_zero, List.set_cons_succ]
          refine wpAnyH_take (i := 25) (oi := _) (v := ?v93) rfl (by kernel_rfl) (by kernel_rfl) (by kernel_rfl) (fun _ _ _ h => h) (Or.inl ⟨by kernel_rfl, ?h93⟩) (by assumption) ?r93
          case h93 => (intro w hSw; (try dsimp only at hSw); (first | (go_simp; done) | (go_simp; with_reducible rfl)))
          try simp only [Act.put, List.setIfInBounds_toArray, List.set_cons_zero, List.set_cons_succ]
          refine wpAnyH_take (i := 26) (oi := _) (v := ?v94) rfl (by kernel_rfl) (by kernel_rfl) (by kernel_rfl) (fun _ _ _ h => h) (Or.inl ⟨by kernel_rfl, ?h94⟩) (by assumption) ?r94
          case h94 => (intro w hSw; (try dsimp only at hSw); (first | (go_simp; done) | (go_simp; with_reducible rfl)))
          try simp only [Act.put, List.setIfInBounds_toArray, List.set_cons_zero, List.set_cons_succ]
          refine wpAnyH_take (i := 27) (oi := _) (v := ?v95) rfl (by kernel_rfl) (by kernel_rfl) (by kernel_rfl) (fun _ _ _ h => h) (Or.inl ⟨by kernel_rfl, ?h95⟩) (by assumption) ?r95
          case h95 => (intro w hSw; (try dsimp only at hSw); (first | (go_simp; done) | (go_simp; with_reducible rfl)))
          try simp only [Act.put, List.setIfInBounds_toArray, List.set_cons_zero, List.set_cons_succ]
          refine wpAnyH_take (i := 28) (oi := _) (v := ?v96) rfl (by kernel_rfl) (by kernel_rfl) (by kernel_rfl) (fun _ _ _ h => h) (Or.inl ⟨by kernel_rfl, ?h96⟩) (by assumption) ?r96
          case h96 => (intro w hSw; (try dsimp only at hSw); (first | (go_simp; done) | (go_simp; with_reducible rfl)))
          try simp only [Act.put, List.setIfInBounds_toArray, List.set_cons_zero, List.set_cons_succ]
          refine wpAnyH_take (i := 29) (oi := _) (v := ?v97) rfl (by kernel_rfl) (by kernel_rfl) (by kernel_rfl) (fun _ _ _ h => h) (Or.inl ⟨by kernel_rfl, ?h97⟩) (by assumption) ?r97
          case h97 => (intro w hSw; (try dsimp only at hSw); (first | (go_simp; done) | (go_simp; with_reducible rfl)))
          try simp only [Act.put, List.setIfInBounds_toArray, List.set_cons_zero, List.set_cons_succ]
          refine wpAnyH_take (i := 30) (oi := _) (v := ?v98) rfl (by kernel_rfl) (by kernel_rfl) (by kernel_rfl) (fun _ _ _ h => h) (Or.inl ⟨by kernel_rfl, ?h98⟩) (by assumption) ?r98
          case h98 => (intro w hSw; (try dsimp only at hSw); (first | (go_simp; done) | (go_simp; with_reducible rfl)))
          try simp only [Act.put, List.setIfInBounds_toArray, List.set_cons_zero, List.set_cons_succ]
          refine wpAnyH_take (i := 31) (oi := _) (v := ?v99) rfl (by kernel_rfl) (by kernel_rfl) (by kernel_rfl) (fun _ _ _ h => h) (Or.inl ⟨by kernel_rfl, ?h99⟩) (by assumption) ?r99
          case h99 => (intro w hSw; (try dsimp only at hSw); (first | (go_simp; done) | (go_simp; with_reducible rfl)))
          try simp only [Act.put, List.setIfInBounds_toArray, List.set_cons_zero, List.set_cons_succ]
          refine wpAnyH_take (i := 32) (oi := _) (v := ?v100) rfl (by kernel_rfl) (by kernel_rfl) (by kernel_rfl) (fun _ _ _ h => h) (Or.inl ⟨by kernel_rfl, ?h100⟩) (by assumption) ?r100
          case h100 => (intro w hSw; (try dsimp only at hSw); (first | (go_simp; done) | (go_simp; with_reducible rfl)))
          try simp only [Act.put, List.setIfInBounds_toArray, List.set_cons_zero, List.set_cons_succ]
          refine wpAnyH_take (i := 33) (oi := _) (v := ?v101) rfl (by kernel_rfl) (by kernel_rfl) (by kernel_rfl) (fun _ _ _ h => h) (Or.inl ⟨by kernel_rfl, ?h101⟩) (by assumption) ?r101
          case h101 => (intro w hSw; (try dsimp only at hSw); (first | (go_simp; done) | (go_simp; with_reducible rfl)))
          try simp only [Act.put, List.getElem_toArray, List.getElem_cons_succ, List.getElem_cons_zero, List.setIfInBounds_toArray, List.set_cons_zero, List.set_cons_succ]
          refine wpAnyH_take (i := 34) (oi := _) (v := ?v102) rfl (by kernel_rfl) (by kernel_rfl) (by kernel_rfl) (fun _ _ _ h => h) (Or.inl ⟨by kernel_rfl, ?h102⟩) (by assumption) ?r102
          case h102 => (intro w hSw; (try dsimp only at hSw); (first | (go_simp; done) | (go_simp; with_reducible rfl)))
          try simp only [Act.put, List.getElem_toArray, List.getElem_cons_succ, List.getElem_cons_zero, List.setIfInBounds_toArray, List.set_cons_zero, List.set_cons_succ]
          refine wpAnyH_done (by kernel_rfl) ?_ _
          go_wp2_with fail
          go_meet
          exact ⟨by rw [e1], HE1.out⟩
      · have n1 : (m.to != s.id) = true := by simpa using ht
        have n1b : (m.to == s.id) = false := by simpa using ht
        have e1 : bd = true := by rw [HBD.out]; unfold badM; rw [n1b]; simp
        clear ht
        refine wp_region_held_drew (S := fun W => W.cell? ⟨mb, 0, none⟩ = some (.int .i64 m.kind) ∧ W.cell? ⟨mb, 1, none⟩ = some (.int .i64 m.frm) ∧ W.cell? ⟨mb, 2, none⟩ = some (.int .i64 m.to) ∧ W.cell? ⟨mb, 3, none⟩ = some (.int .i64 m.height) ∧ W.cell? ⟨mb, 4, none⟩ = some (.int .i64 m.round) ∧ W.cell? ⟨mb, 5, none⟩ = some (.int .i64 m.valid) ∧ W.cell? ⟨mb, 6, none⟩ = some (.string m.dig) ∧ W.cell? ⟨mb, 7, none⟩ = some (.slice ao m.list.length cap) ∧ W.cell? ⟨x, 0, none⟩ = some (.int .i64 s.height) ∧ W.cell? ⟨x, 16, none⟩ = some (.int .i64 s.id) ∧ W.cell? ⟨x, 17, none⟩ = some (.int .i64 s.n) ∧ Below wa.heap.size wa W) (by kernel_rfl) (KEEP.out _ (Below.refl _ wa).drew) (fun hHeld => ?_)
        refine wpAnyH_take (i := 0) (oi := _) (v := ?v103) rfl (by kernel_rfl) (by kernel_rfl) (by kernel_rfl) (fun _ _ _ h => h) (Or.inl ⟨by kernel_rfl, ?h103⟩) (by assumption) ?r103
        case h103 => (intro w hSw; (try dsimp only at hSw); (first | (go_simp; done) | (go_simp; with_reducible rfl)))
        try simp only [Act.put, List.setIfInBounds_toArray, List.set_cons_zero, List.set_cons_succ]
        refine wpAnyH_take (i := 1) (oi := _) (v := ?v104) rfl (by kernel_rfl) (by kernel_rfl) (by kernel_rfl) (fun _ _ _ h => h) (Or.inl ⟨by kernel_rfl, ?h104⟩) (by assumption) ?r104
        case h104 => (intro w hSw; (try dsimp only at hSw); (first | (go_simp; done) | (go_simp; with_reducible rfl)))
        try simp only [Act.put, List.setIfInBounds_toArray, List.set_cons_zero, List.set_cons_succ]
        refine wpAnyH_take (i := 2) (oi := _) (v := ?v105) rfl (by kernel_rfl) (by kernel_rfl) (by kernel_rfl) (fun _ _ _ h => h) (Or.inl ⟨by kernel_rfl, ?h105⟩) (by assumption) ?r105
        case h105 => (intro w hSw; (try dsimp only at hSw); (first | (go_simp; done) | (go_simp; with_reducible rfl)))
        try simp only [Act.put, List.setIfInBounds_toArray, List.set_cons_zero, List.set_cons_succ]
        refine wpAnyH_take (i := 3) (oi := _) (v := ?v106) rfl (by kernel_rfl) (by kernel_rfl) (by kernel_rfl) (fun _ _ _ h => h) (Or.inl ⟨by kernel_rfl, ?h106⟩) (by assumption) ?r106
        case h106 => (intro w hSw; (try dsimp only at hSw); (first | (go_simp; done) | (go_simp; with_reducible rfl)))
        try simp only [Act.put, List.setIfInBounds_toArray, List.set_cons_zero, List.set_cons_succ]
        refine wpAnyH_ready (rs := [4]) (by kernel_rfl) (by simp) ?_
        refine AllReadyH.cons (o := _) rfl (fun K hK => ?_) AllReadyH.nil
        go_simp
        go_at_call 19
        refine (VB.out _ (Below.refl _ wa).drew).mono ?_
        rintro e w2 ⟨rfl, hb⟩
        go_wp2_with fail
        have HE1 := Lib.hid hb
        clear hb hHeld
        refine hK.out _ _ (KEEP.out _ HE1.out) (fun hHeld => ?_)
        clear hK K
        try simp only [Act.put, List.setIfInBounds_toArray, List.set_cons_zero, List.set_cons_succ]
        refine wpAnyH_take (i := 5) (oi := _) (v := ?v107) rfl (by kernel_rfl) (by kernel_rfl) (by kernel_rfl) (fun _ _ _ h => h) (Or.inl ⟨by kernel_rfl, ?h107⟩) (by assumption) ?r107
        case h107 => (intro w hSw; (try dsimp only at hSw); (first | (go_simp; done) | (go_simp; with_reducible rfl)))
        try simp only [Act.put, List.setIfInBounds_toArray, List.set_cons_zero, List.set_cons_succ]
        refine wpAnyH_take (i := 6) (oi := _) (v := ?v108) rfl (by kernel_rfl) (by kernel_rfl) (by kernel_rfl) (fun _ _ _ h => h) (Or.inl ⟨by kernel_rfl, ?h108⟩) (by assumption) ?r108
        case h108 => (intro w hSw; (try dsimp only at hSw); (first | (go_simp; done) | (go_simp; with_reducible rfl)))
        try simp only [Act.put, List.setIfInBounds_toArray, List.set_cons_zero, List.set_cons_succ]
        refine wpAnyH_take (i := 7) (oi := _) (v := ?v109) rfl (by kernel_rfl) (by kernel_rfl) (by kernel_rfl) (fun _ _ _ h => h) (Or.inl ⟨by kernel_rfl, ?h109⟩) (by assumption) ?r109
        case h109 => (intro w hSw; (try dsimp only at hSw); (first | (go_simp; done) | (go_simp; with_reducible rfl)))
        try simp only [Act.put, List.setIfInBounds_toArray, List.set_cons_zero, List.set_cons_succ]
        refine wpAnyH_take (i := 8) (oi := _) (v := ?v110) rfl (by kernel_rfl) (by kernel_rfl) (by kernel_rfl) (fun _ _ _ h => h) (Or.inl ⟨by kernel_rfl, ?h110⟩) (by assumption) ?r110
        case h110 => (intro w hSw; (try dsimp only at hSw); (first | (go_simp; done) | (go_simp; with_reducible rfl)))
        try simp only [Act.put, List.setIfInBounds_toArray, List.set_cons_zero, List.set_cons_succ]
        refine wpAnyH_take (i := 9) (oi := _) (v := ?v111) rfl (by kernel_rfl) (by kernel_rfl) (by kernel_rfl) (fun _ _ _ h => h) (Or.inl ⟨by kernel_rfl, ?h111⟩) (by assumption) ?r111
        case h111 => (intro w hSw; (try dsimp only at hSw); (first | (go_simp; done) | (go_simp; with_reducible rfl)))
        try simp only [Act.put, List.setIfInBounds_toArray, List.set_cons_zero, List.set_cons_succ]
        refine wpAnyH_take (i := 10) (oi := _) (v := ?v112) rfl (by kernel_rfl) (by kernel_rfl) (by kernel_rfl) (fun _ _ _ h => h) (Or.inl ⟨by kernel_rfl, ?h112⟩) (by assumption) ?r112
        case h112 => (intro w hSw; (try dsimp only at hSw); (first | (go_simp; done) | (go_simp; with_reducible rfl)))
        try simp only [Act.put, List.setIfInBounds_toArray, List.set_cons_zero, List.set_cons_succ]
        refine wpAnyH_take (i := 11) (oi := _) (v := ?v113) rfl (by kernel_rfl) (by kernel_rfl) (by kernel_rfl) (fun _ _ _ h => h) (Or.inl ⟨by kernel_rfl, ?h113⟩) (by assumption) ?r113
        case h113 => (intro w hSw; (try dsimp only at hSw); (first | (go_simp; done) | (go_simp; with_reducible rfl)))
        try simp only [Act.put, List.setIfInBounds_toArray, List.set_cons_zero, List.set_cons_succ]
        refine wpAnyH_take (i := 12) (oi := _) (v := ?v114) rfl (by kernel_rfl) (by kernel_rfl) (by kernel_rfl) (fun _ _ _ h => h) (Or.inl ⟨by kernel_rfl, ?h114⟩) (by assumption) ?r114
        case h114 => (intro w hSw; (try dsimp only at hSw); (first | (go_simp; done) | (go_simp; with_reducible rfl)))
        try simp only [Act.put, List.setIfInBounds_toArray, List.set_cons_zero, List.set_cons_succ]
        refine wpAnyH_take (i := 13) (oi := _) (v := ?v115) rfl (by kernel_rfl) (by kernel_rfl) (by kernel_rfl) (fun _ _ _ h => h) (Or.inl ⟨by kernel_rfl, ?h115⟩) (by assumption) ?r115
        case h115 => (intro w hSw; (try dsimp only at hSw); (first | (go_simp; done) | (go_simp; with_reducible rfl)))
        try simp only [Act.put, List.setIfInBounds_toArray, List.set_cons_zero, List.set_cons_succ]
        refine wpAnyH_take (i := 14) (oi := _) (v := ?v116) rfl (by kernel_rfl) (by kernel_rfl) (by kernel_rfl) (fun _ _ _ h => h) (Or.inl ⟨by kernel_rfl, ?h116⟩) (by assumption) ?r116
        case h116 => (intro w hSw; (try dsimp only at hSw); (first | (go_simp; done) | (go_simp; with_reducible rfl)))
        try simp only [Act.put, List.setIfInBounds_toArray, List.set_cons_zero, List.set_cons_succ]
        refine wpAnyH_take (i := 15) (oi := _) (v := ?v117) rfl (by kernel_rfl) (by kernel_rfl) (by kernel_rfl) (fun _ _ _ h => h) (Or.inl ⟨by kernel_rfl, ?h117⟩) (by assumption) ?r117
        case h117 => (intro w hSw; (try dsimp only at hSw); (first | (go_simp; done) | (go_simp; with_reducible rfl)))
        try simp only [Act.put, List.setIfInBounds_toArray, List.set_cons_zero, List.set_cons_succ]
        refine wpAnyH_take (i := 16) (oi := _) (v := ?v118) rfl (by kernel_rfl) (by kernel_rfl) (by kernel_rfl) (fun _ _ _ h => h) (Or.inl ⟨by kernel_rfl, ?h118⟩) (by assumption) ?r118
        case h118 => (intro w hSw; (try dsimp only at hSw); (first | (go_simp; done) | (go_simp; with_reducible rfl)))
        try simp only [Act.put, List.setIfInBounds_toArray, List.set_cons_zero, List.set_cons_succ]
        refine wpAnyH_take (i := 17) (oi := _) (v := undef) rfl (by kernel_rfl) (by kernel_rfl) (by kernel_rfl) (fun _ _ _ h => h) (Or.inr ⟨by kernel_rfl, rfl⟩) (by assumption) ?_
        try simp only [Act.put, List.setIfInBounds_toArray, List.set_cons_zero, List.set_cons_succ]
        refine wpAnyH_take (i := 18) (oi := _) (v := undef) rfl (by kernel_rfl) (by kernel_rfl) (by kernel_rfl) (fun _ _ _ h => h) (Or.inr ⟨by kernel_rfl, rfl⟩) (by assumption) ?_
        try simp only [Act.put, List.setIfInBounds_toArray, List.set_cons_zero, List.set_cons_succ]
        refine wpAnyH_take (i := 19) (oi := _) (v := undef) rfl (by kernel_rfl) (by kernel_rfl) (by kernel_rfl) (fun _ _ _ h => h) (Or.inr ⟨by kernel_rfl, rfl⟩) (by assumption) ?_
        try simp only [Act.put, List.setIfInBounds_toArray, List.set_cons_zero, List.set_cons_succ]
        refine wpAnyH_take (i := 20) (oi := _) (v := undef) rfl (by kernel_rfl) (by kernel_rfl) (by kernel_rfl) (fun _ _ _ h => h) (Or.inr ⟨by kernel_rfl, rfl⟩) (by assumption) ?_
        try simp only [Act.put, List.setIfInBounds_toArray, List.set_cons_zero, List.set_cons_succ]
        refine wpAnyH_take (i := 21) (oi := _) (v := undef) rfl (by kernel_rfl) (by kernel_rfl) (by kernel_rfl) (fun _ _ _ h => h) (Or.inr ⟨by kernel_rfl, rfl⟩) (by assumption) ?_
        try simp only [Act.put, List.setIfInBounds_toArray, List.set_cons_zero, List.set_cons_succ]
        refine wpAnyH_take (i := 22) (oi := _) (v := undef) rfl (by kernel_rfl) (by kernel_rfl) (by kernel_rfl) (fun _ _ _ h => h) (Or.inr ⟨by kernel_rfl, rfl⟩) (by assumption) ?_
        try simp only [Act.put, List.setIfInBounds_toArray, List.set_cons_zero, List.set_cons_succ]
        refine wpAnyH_take (i := 23) (oi := _) (v := undef) rfl (by kernel_rfl) (by kernel_rfl) (by kernel_rfl) (fun _ _ _ h => h) (Or.inr ⟨by kernel_rfl, rfl⟩) (by assumption) ?_
        try simp only [Act.put, List.setIfInBounds_toArray, List.set_cons_zero, List.set_cons_succ]
        refine wpAnyH_take (i := 24) (oi := _) (v := ?v126) rfl (by kernel_rfl) (by kernel_rfl) (by kernel_rfl) (fun _ _ _ h => h) (Or.inl ⟨by kernel_rfl, ?h126⟩) (by assumption) ?r126
        case h126 => (intro w hSw; (try dsimp only at hSw); (first | (go_simp; done) | (go_simp; with_reducible rfl)))
        try simp only [Act.put, List.setIfInBounds_toArray, List.set_cons_zero, List.set_cons_succ]
        refine wpAnyH_take (i := 25) (oi := _) (v := ?v127) rfl (by kernel_rfl) (by kernel_rfl) (by kernel_rfl) (fun _ _ _ h => h) (Or.inl ⟨by kernel_rfl, ?h127⟩) (by assumption) ?r127
        case h127 => (intro w hSw; (try dsimp only at hSw); (first | (go_simp; done) | (go_simp; with_reducible rfl)))
        try simp only [Act.put, List.setIfInBounds_toArray, List.set_cons_zero, List.set_cons_succ]
        refine wpAnyH_take (i := 26) (oi := _) (v := undef) rfl (by kernel_rfl) (by kernel_rfl) (by kernel_rfl) (fun _ _ _ h => h) (Or.inr ⟨by kernel_rfl, rfl⟩) (by assumption) ?_
        try simp only [Act.put, List.setIfInBounds_toArray, List.set_cons_zero, List.set_cons_succ]
        refine wpAnyH_take (i := 27) (oi := _) (v := undef) rfl (by kernel_rfl) (by kernel_rfl) (by kernel_rfl) (fun _ _ _ h => h) (Or.inr ⟨by kernel_rfl, rfl⟩) (by assumption) ?_
        try simp only [Act.put, List.setIfInBounds_toArray, List.set_cons_zero, List.set_cons_succ]
        refine wpAnyH_take (i := 28) (oi := _) (v := undef) rfl (by kernel_rfl) (by kernel_rfl) (by kernel_rfl) (fun _ _ _ h => h) (Or.inr ⟨by kernel_rfl, rfl⟩) (by assumption) ?_
        try simp only [Act.put, List.setIfInBounds_toArray, List.set_cons_zero, List.set_cons_succ]
        refine wpAnyH_take (i := 29) (oi := _) (v := undef) rfl (by kernel_rfl) (by kernel_rfl) (by kernel_rfl) (fun _ _ _ h => h) (Or.inr ⟨by kernel_rfl, rfl⟩) (by assumption) ?_
        try simp only [Act.put, List.setIfInBounds_toArray, List.set_cons_zero, List.set_cons_succ]
        refine wpAnyH_take (i := 30) (oi := _) (v := undef) rfl (by kernel_rfl) (by kernel_rfl) (by kernel_rfl) (fun _ _ _ h => h) (Or.inr ⟨by kernel_rfl, rfl⟩) (by assumption) ?_
        try simp only [Act.put, List.setIfInBounds_toArray, List.set_cons_zero, List.set_cons_succ]
        refine wpAnyH_take (i := 31) (oi := _) (v := undef) rfl (by kernel_rfl) (by kernel_rfl) (by kernel_rfl) (fun _ _ _ h => h) (Or.inr ⟨by kernel_rfl, rfl⟩) (by assumption) ?_
        try simp only [Act.put, List.setIfInBounds_toArray, List.set_cons_zero, List.set_cons_succ]
        refine wpAnyH_take (i := 32) (oi := _) (v := undef) rfl (by kernel_rfl) (by kernel_rfl) (by kernel_rfl) (fun _ _ _ h => h) (Or.inr ⟨by kernel_rfl, rfl⟩) (by assumption) ?_
        try simp only [Act.put, List.setIfInBounds_toArray, List.set_cons_zero, List.set_cons_succ]
        refine wpAnyH_take (i := 33) (oi := _) (v := undef) rfl (by kernel_rfl) (by kernel_rfl) (by kernel_rfl) (fun _ _ _ h => h) (Or.inr ⟨by kernel_rfl, rfl⟩) (by assumption) ?_
        try simp only [Act.put, List.getElem_toArray, List.getElem_cons_succ, List.getElem_cons_zero, List.setIfInBounds_toArray, List.set_cons_zero, List.set_cons_succ]
        refine wpAnyH_take (i := 34) (oi := _) (v := ?v136) rfl (by kernel_rfl) (by kernel_rfl) (by kernel_rfl) (fun _ _ _ h => h) (Or.inl ⟨by kernel_rfl, ?h136⟩) (by assumption) ?r136
        case h136 => (intro w hSw; (try dsimp only at hSw); (first | (go_simp; done) | (go_simp; with_reducible rfl)))
        try simp only [Act.put, List.getElem_toArray, List.getElem_cons_succ, List.getElem_cons_zero, List.setIfInBounds_toArray, List.set_cons_zero, List.set_cons_succ]
        refine wpAnyH_done (by kernel_rfl) ?_ _
        go_wp2_with fail
        go_meet
        exact ⟨by rw [e1], HE1.out⟩
  case rest =>
  obtain ⟨rfl, hb1⟩ := hcut
  obtain ⟨w1, rfl⟩ : ∃ w1 : World, w1 = wc := ⟨_, rfl⟩
  have HRM := Lib.hid ((hb1.block mb (Array.getElem?_eq_some_iff.1 HR0.out).1).trans HR0.out)
  have HB1 := Lib.hid (HB0.out.trans (hb1.mono HB0.out.size))
  have HN1 := Lib.hid (H.out.below HB1.out)
  have HL1 := Lib.hid (HL.out.below H0.out HB1.out)
  have DONE := Lib.hid (fun (e : s.receive m (validB m) = s) W (hW : Below w.heap.size w W) => show Turned R w x (s.receive m (validB m)) W from by rw [e]; exact Turned.of (H.out.below hW) (Chg.of_below hW (fun k q1 q2 => by omega)))
  clear hb1 HR0 HB0 HN0 VA
  obtain ⟨c0, c1, c2, c3, c4, c5, c6, c7, fz⟩ := MRow.of HRM.out
  rcases bd with _ | _
  · obtain ⟨hva, hto, hfr, hhe⟩ := bad_not HBD.out.symm
    have HVA := Lib.hid hva
    have HFR := Lib.hid hfr
    clear hva hto hfr hhe
    by_cases hks : m.kind = 3 ∨ m.kind = 4 ∨ m.kind = 6 ∨ m.kind = 5
    · have HKS := Lib.hid hks
      have HPL := Lib.hid (valid_placed HVA.out hks)
      have ID := Lib.hid (isDecided_any HN1.out m.height)
      unfold pv iv at ID
      rcases hks with hkk | hkk | hkk | hkk
      · have AK := Lib.hid (fun W (hW : Below w.heap.size w W) => ask_any (R := R) (R0 := R0) (m := m) (H.out.below hW) ⟨_, rfl, HL.out.below H0.out hW⟩ HI.out.n1 ⟨HPL.out.1, by have := HPL.out.2.1; omega⟩ ⟨HPL.out.2.2.1, by have := HPL.out.2.2.2.1; omega⟩)
        have HKK := Lib.hid hkk
        unfold encM iv pv at AK
        rw [hkk] at AK c0
        rcases hd : s.isDec m.height with _ | _
        · have HGO := Lib.hid (rcv_go HBD.out.symm HKS.out hd)
          rw [hd] at ID
          clear hd
          go_upto_region 9 with (go_at_call 63; refine ID.out.mono ?_; rintro e w2 ⟨rfl, hb⟩; have HB2 := Lib.hid (HB1.out.trans (hb.mono HB1.out.size)); have HR2 := Lib.hid ((hb.block mb (Array.getElem?_eq_some_iff.1 HRM.out).1).trans HRM.out); clear hb)
          clear c0 c1 c2 c3 c4 c5 c6 c7 fz
          obtain ⟨c0, c1, c2, c3, c4, c5, c6, c7, fz⟩ := MRow.of HR2.out
          rw [hkk] at c0
          have d0 := (H.out.below HB2.out).nc.c0
          go_region
          obtain ⟨w3, hw3⟩ : ∃ w3, w3 = w2.drew := ⟨_, rfl⟩
          have HB3 := Lib.hid (show Below w.heap.size w w3 from by rw [hw3]; exact HB2.out.drew)
          have HR3 := Lib.hid (show w3.heap[mb]? = some (.cells (encM m (.slice ao m.list.length cap)) 36 (0, 0)) from by rw [hw3]; exact HR2.out)
          rw [← hw3]
          clear hw3 c0 c1 c2 c3 c4 c5 c6 c7 fz d0 HR2 HB2 AK ID
          obtain ⟨c0, c1, c2, c3, c4, c5, c6, c7, fz⟩ := MRow.of HR3.out
          rw [hkk] at c0
          by_cases hlt : m.height < s.height
          · have hlt2 : decide (m.height < s.height) = true := by simpa using hlt
            have HD := Lib.hid (DONE.out (by rw [HGO.out, if_pos hlt]) _ HB3.out)
            clear DONE
            go_wp2
            exact bodyPost_ret (results_none rfl _ _ _) rfl ⟨rfl, HD.out⟩
          · have hlt2 : decide (m.height < s.height) = false := by simpa using hlt
            clear DONE
            · skip
              have HGP := Lib.hid (show s.receive m (validB m) = if s.proposer m.frm m.height m.round = true then { s with props := keepA s.props m.round m }
                  else match getA m.frm s.claims with
                    | some _ => s
                    | none => { s with claims := putA m.frm m s.claims, order := s.order ++ [m.frm] } from by rw [HGO.out, if_neg hlt, if_neg (by omega)])
              have IP := Lib.hid (isProposer_any (H.out.below HB3.out) m.frm m.height m.round HI.out.n1 ⟨HPL.out.1, by have := HPL.out.2.1; omega⟩ ⟨HPL.out.2.2.1, by have := HPL.out.2.2.2.1; omega⟩)
              unfold pv iv at IP
              have HNS := Lib.hid (H.out.below HB3.out)
              have hmb3 : mb < w3.heap.size := (Array.getElem?_eq_some_iff.1 HR3.out).1
              have HMBN := Lib.hid (show ∀ b, b ∈ p.maps → mb ≠ b from fun b hb e => by
                have h1 := H.out.lt b (H.out.maps.own b hb)
                have h2 := HMB.out
                omega)
              have HLS := Lib.hid (HL.out.below H0.out HB3.out.drew)
              have HKX := Lib.hid hkk
              rcases hp : s.proposer m.frm m.height m.round with _ | _
              · rw [hp] at IP
                have HGQ := Lib.hid (show s.receive m (validB m) = match getA m.frm s.claims with
                    | some _ => s
                    | none => { s with claims := putA m.frm m s.claims, order := s.order ++ [m.frm] } from by rw [HGP.out, hp, if_neg (by simp)])
                obtain ⟨L, hL, hA⟩ := HNS.out.drew.maps.claims
                have KP := Lib.hid (keep_any (R := R) (R0 := R0) (m := m) hL hA ⟨_, rfl, HLS.out⟩ (fun k hk => Nat.lt_of_lt_of_le (H0.out k hk) HB3.out.size) (by omega) m.frm)
                clear hL hA hp hmb3
                unfold encM iv at KP
                rw [hkk] at KP
                have x10 := HNS.out.nc.c10
                go_upto_region 14 with (go_at_call 76; refine IP.out.mono ?_; rintro e wq ⟨rfl, hwq⟩; rw [hwq]; clear hwq wq)
                go_cut [86] (fun t wc => t = .bool (getA m.frm s.claims).isNone ∧ (∃ L', RawMap wc p.claims L' ∧ All2 (RMsg (fun k => R k ∨ New w3.drew wc k) wc) L' (keepA s.claims m.frm m)) ∧ Chg (fun k => k = p.claims) w3.drew wc)
                case first =>
                  go_region_law (go_simp; go_at_call 77; (with_reducible refine (KP.out).mono ?_); rintro e w4 ⟨rfl, hkl, hch⟩; have HKL := Lib.hid hkl; have HCH := Lib.hid hch; clear hkl hch)
                  all_goals (go_wp2_with fail; go_meet; exact ⟨rfl, HKL.out, HCH.out⟩)
                case rest =>
                obtain ⟨rfl, hkl, hch⟩ := hcut
                obtain ⟨w4, rfl⟩ : ∃ w4 : World, w4 = wc := ⟨_, rfl⟩
                have HN4 := Lib.hid (HNS.out.drew.claims_new (fun k hk hn => hch.block k hk hn) (R' := fun k => R k ∨ New w3.drew w4 k) (fun k hk => .inl hk) (fun k hk => by
                  rcases hk with hk | hk
                  · exact Nat.lt_of_lt_of_le (HNS.out.lt k hk) hch.size
                  · exact hk.2) _ hkl)
                have hs34 : w3.heap.size ≤ w4.heap.size := hch.size
                have hw3 := HB3.out.size
                have HG4 := Lib.hid (show Grows R (fun k => R k ∨ New w3.drew w4 k) w from ⟨fun k hk => .inl hk, fun k hk => by
                  rcases hk with hk | hk
                  · exact .inl hk
                  · have h1 : w3.heap.size ≤ k := hk.1
                    exact .inr (by omega)⟩)
                have HC4 := Lib.hid (show Chg R w w4 from (Chg.of_below HB3.out.drew (fun k q1 q2 => by omega)).trans (hch.mono (fun k _ hk => by subst hk; exact .inl (H.out.maps.own p.claims (by simp [Ptr.maps])))))
                have HR4 := Lib.hid ((hch.block mb (Array.getElem?_eq_some_iff.1 HR3.out).1 (HMBN.out p.claims (by simp [Ptr.maps]))).trans HR3.out)
                clear hkl hch x10 c0 c1 c2 c3 c4 c5 c6 c7 fz KP IP
                rcases hg : getA m.frm s.claims with _ | y
                · have HE := Lib.hid (show s.receive m (validB m) = { s with claims := putA m.frm m s.claims, order := s.order ++ [m.frm] } from by rw [HGQ.out, hg])
                  rw [keepA_none hg] at HN4
                  clear hg HGQ HGP HGO
                  obtain ⟨c0, c1, c2, c3, c4, c5, c6, c7, fz⟩ := MRow.of HR4.out
                  obtain ⟨mv, hmv⟩ : ∃ mv, mv = p.order := ⟨_, rfl⟩
                  have x11 := HN4.out.nc.c11
                  have xfz := HN4.out.nc.fz
                  rw [← hmv] at x11
                  have hown := HN4.out.rest.order.1
                  rw [← hmv] at hown
                  have HMV := Lib.hid hmv
                  obtain ⟨ti, hi, hz0, hz1, hz2⟩ := info_parts Tryz.infoI
                  obtain ⟨wz, hwz⟩ : ∃ wz, wz = (w4.alloc (.cells #[.int .i64 m.frm] 3)).drew := ⟨_, rfl⟩
                  have HBZ := Lib.hid (show Below w4.heap.size w4 wz from by rw [hwz]; exact ((Below.refl _ _).alloc (Nat.le_refl _) _).drew)
                  have HNZ := Lib.hid (HN4.out.below HBZ.out)
                  obtain ⟨XS, hXS⟩ : ∃ XS, XS = s.order.map iv := ⟨_, rfl⟩
                  have HOD : wz.ownsRow 0 3 1 mv s.order.length XS := by rw [hXS]; exact ownsRow_blk hown (fun g _ hl => HBZ.out.block g hl)
                  have HXS := Lib.hid hXS
                  have NEW := show ∀ j u, [Value.int .i64 m.frm][j]? = some u → wz.cell? ((⟨w4.heap.size, 0, none⟩ : Addr).add j) = some u from by
                    rw [hwz]; exact cells_at w4 [.int .i64 m.frm] 3 w4.heap.size rfl
                  have FIN := Lib.hid (show ∀ (v2 : Value) (w7 : World), w7.ownsRow 0 3 1 v2 (s.order.length + 1) (XS ++ [.int .i64 m.frm]) → wz.grownBy w7 mv.ownBlock → (∀ g, v2.ownBlock = some g → mv.ownBlock = some g ∨ wz.heap.size ≤ g) →
                      Turned R w x (s.receive m (validB m)) (w7.setCell ⟨x, 11, none⟩ v2) ∧ (∃ g c, v2 = .slice (some ⟨g, 0, none⟩) (s.order.length + 1) c) ∧ w7.cell? ⟨x, 11, none⟩ = some mv ∧ ∀ o, w7.frozen? ⟨x, o, none⟩ = false from by
                    intro v2 w7 own gr hn
                    rw [HMV.out] at gr hn ⊢
                    have hz := HBZ.out.size
                    have hmr := HNZ.out.rest.order.2
                    have hx7 := (HNZ.out.order_grown gr x _ _ _ HNZ.out.mem HNZ.out.node (by decide)).trans HNZ.out.node
                    refine ⟨⟨{ p with order := v2 }, fun k => (R k ∨ New w3.drew w4 k) ∨ v2.ownBlock = some k, ?_, ?_, ⟨fun k hk => .inl (.inl hk), fun k hk => ?_⟩⟩, ?_, ?_, fun o => frozen_of_row w7 x o _ _ hx7⟩
                    · rw [HE.out]
                      exact HNZ.out.order_put gr (z := m.frm) (by rw [HXS.out] at own; exact own) hn
                    · exact HC4.out.trans ((Chg.of_below HBZ.out (fun k q1 q2 => by omega)).trans ((Chg.grown (C := fun k => (R k ∨ w.heap.size ≤ k) ∨ w4.heap.size ≤ k) gr (fun k e => by
                        rcases hmr k e with q | q
                        · exact .inl (.inl q)
                        · have h1 : w3.heap.size ≤ k := q.1
                          exact .inl (.inr (by omega)))).trans (Chg.set _ x 11 v2 (.inl (.inl (.inl H.out.mem))))))
                    · rcases hk with hk | hk
                      · exact HG4.out.2 k hk
                      · rcases hn k hk with q | q
                        · exact HG4.out.2 k (hmr k q)
                        · exact .inr (by omega)
                    · rcases own.2 with ⟨_, h0⟩ | ⟨g, c, _, hv, _⟩
                      · omega
                      · exact ⟨g, c, hv⟩
                    · rw [cell_of_row w7 x 11 _ _ _ hx7]; rfl)
                  have x11a := cell_up x11 (.cells #[.int .i64 m.frm] 3)
                  have c1a := cell_up c1 (.cells #[.int .i64 m.frm] 3)
                  clear hmv hXS hown
                  go_upto_region 15 with (fail)
                  go_region_law (first
                    | (refine step_new (by rfl) (.tmp 101) (.tmp 104) 47 (by rfl) 0 3 ti (.int .i64 0) 1 8 Tryz.underlying47 hi hz0 hz1 hz2 (by rfl) (by decide) mv s.order.length XS ?_ ?_ ⟨w4.heap.size, 0, none⟩ 1 1 [.int .i64 m.frm] ?_ (by rfl) ?_ (by intro u hu; simp at hu; subst hu; rfl) ?_ ?_ ?_ ?_; (simp [Act.eval, Act.put]); (rw [← hwz]; with_reducible exact HOD); (simp [Act.eval, Act.put]); (rw [← hwz]; with_reducible exact NEW); (unfold maxLen; omega); omega; omega; rw [← hwz]; intro v2 w7 own2 gr2 hn2; obtain ⟨hfin, ⟨g2, cp2, rfl⟩, hx7, hf7⟩ := FIN.out v2 w7 own2 gr2 hn2; have HF := Lib.hid hfin; clear hfin own2 gr2 hn2))
                  all_goals (
                    go_wp2
                    exact bodyPost_end (results_none rfl _ _ _) rfl ⟨rfl, HF.out⟩)
                · have HE := Lib.hid (show s.receive m (validB m) = s from by rw [HGQ.out, hg])
                  rw [keepA_some hg] at HN4
                  clear hg
                  go_wp2
                  refine bodyPost_end (results_none rfl _ _ _) rfl ⟨rfl, ?_⟩
                  rw [HE.out]
                  exact ⟨p, _, HN4.out, HC4.out, HG4.out⟩
              · rw [hp] at IP
                have HE := Lib.hid (show s.receive m (validB m) = { s with props := keepA s.props m.round m } from by rw [HGP.out, hp, if_pos rfl])
                obtain ⟨L, hL, hA⟩ := HNS.out.drew.maps.props
                have KP := Lib.hid (keep_any (R := R) (R0 := R0) (m := m) hL hA ⟨_, rfl, HLS.out⟩ (fun k hk => Nat.lt_of_lt_of_le (H0.out k hk) HB3.out.size) (by omega) m.round)
                clear hL hA hp hmb3
                unfold encM iv at KP
                rw [hkk] at KP
                have x9 := HNS.out.nc.c9
                have hw3 := HB3.out.size
                go_upto_region 13 with (go_at_call 76; refine IP.out.mono ?_; rintro e wq ⟨rfl, hwq⟩; rw [hwq]; clear hwq wq)
                go_region_law (go_simp; go_at_call 77; (with_reducible refine (KP.out).mono ?_); rintro e w4 ⟨rfl, hkl, hch⟩; have HKL := Lib.hid hkl; have HCH := Lib.hid hch; clear hkl hch)
                all_goals (
                  go_wp2
                  refine bodyPost_end (results_none rfl _ _ _) rfl ⟨rfl, p, fun k => R k ∨ New w3.drew w4 k, ?_, ?_, ?_⟩
                  · rw [HE.out]
                    exact HNS.out.drew.props_new (fun k hk hn => HCH.out.block k hk hn) (fun k hk => .inl hk) (fun k hk => by
                      rcases hk with hk | hk
                      · exact Nat.lt_of_lt_of_le (HNS.out.lt k hk) HCH.out.size
                      · exact hk.2) _ HKL.out
                  · exact (Chg.of_below HB3.out.drew (fun k q1 q2 => by omega)).trans (HCH.out.mono (fun k _ hk => by subst hk; exact .inl (H.out.maps.own p.props (by simp [Ptr.maps]))))
                  · refine ⟨fun k hk => .inl hk, fun k hk => ?_⟩
                    rcases hk with hk | hk
                    · exact .inl hk
                    · have h1 : w3.heap.size ≤ k := hk.1
                      exact .inr (by omega))
        · have HE := Lib.hid (rcv_ask HBD.out.symm HKS.out hd)
          rw [hd] at ID
          clear hd hkk DONE
          go_wp2_with (first
            | (go_at_call 63; refine ID.out.mono ?_; rintro e w2 ⟨rfl, hb⟩; have HB2 := Lib.hid (HB1.out.trans (hb.mono HB1.out.size)); have HR2 := (hb.block mb (Array.getElem?_eq_some_iff.1 HRM.out).1).trans HRM.out; clear hb c0 c1 c2 c3 c4 c5 c6 c7 fz; obtain ⟨c0, c1, c2, c3, c4, c5, c6, c7, fz⟩ := MRow.of HR2; rw [HKK.out] at c0; clear HR2)
            | (go_at_call 74; refine (AK.out _ HB2.out).mono ?_; rintro e w3 ⟨rfl, ht⟩; have HT := Lib.hid ht; clear ht))
          refine bodyPost_ret (results_none rfl _ _ _) rfl ⟨rfl, ?_⟩
          rw [HE.out]
          exact Turned.after HB2.out HT.out
      · have AK := Lib.hid (fun W (hW : Below w.heap.size w W) => ask_any (R := R) (R0 := R0) (m := m) (H.out.below hW) ⟨_, rfl, HL.out.below H0.out hW⟩ HI.out.n1 ⟨HPL.out.1, by have := HPL.out.2.1; omega⟩ ⟨HPL.out.2.2.1, by have := HPL.out.2.2.2.1; omega⟩)
        have HKK := Lib.hid hkk
        unfold encM iv pv at AK
        rw [hkk] at AK c0
        rcases hd : s.isDec m.height with _ | _
        · have HGO := Lib.hid (rcv_go HBD.out.symm HKS.out hd)
          rw [hd] at ID
          clear hd
          go_upto_region 9 with (go_at_call 63; refine ID.out.mono ?_; rintro e w2 ⟨rfl, hb⟩; have HB2 := Lib.hid (HB1.out.trans (hb.mono HB1.out.size)); have HR2 := Lib.hid ((hb.block mb (Array.getElem?_eq_some_iff.1 HRM.out).1).trans HRM.out); clear hb)
          clear c0 c1 c2 c3 c4 c5 c6 c7 fz
          obtain ⟨c0, c1, c2, c3, c4, c5, c6, c7, fz⟩ := MRow.of HR2.out
          rw [hkk] at c0
          have d0 := (H.out.below HB2.out).nc.c0
          go_region
          obtain ⟨w3, hw3⟩ : ∃ w3, w3 = w2.drew := ⟨_, rfl⟩
          have HB3 := Lib.hid (show Below w.heap.size w w3 from by rw [hw3]; exact HB2.out.drew)
          have HR3 := Lib.hid (show w3.heap[mb]? = some (.cells (encM m (.slice ao m.list.length cap)) 36 (0, 0)) from by rw [hw3]; exact HR2.out)
          rw [← hw3]
          clear hw3 c0 c1 c2 c3 c4 c5 c6 c7 fz d0 HR2 HB2 AK ID
          obtain ⟨c0, c1, c2, c3, c4, c5, c6, c7, fz⟩ := MRow.of HR3.out
          rw [hkk] at c0
          by_cases hlt : m.height < s.height
          · have hlt2 : decide (m.height < s.height) = true := by simpa using hlt
            have HD := Lib.hid (DONE.out (by rw [HGO.out, if_pos hlt]) _ HB3.out)
            clear DONE
            go_wp2
            exact bodyPost_ret (results_none rfl _ _ _) rfl ⟨rfl, HD.out⟩
          · have hlt2 : decide (m.height < s.height) = false := by simpa using hlt
            clear DONE
            · skip
              have PU := Lib.hid (fun W (hW : Below w.heap.size w W) => put_any (R := R) (R0 := R0) (m := m) (H.out.below hW) ⟨_, rfl, HL.out.below H0.out hW⟩ (fun k hk => Nat.lt_of_lt_of_le (H0.out k hk) hW.size) hl (by rw [hkk]; rfl) HVA.out HFR.out)
              have HE := Lib.hid (show s.receive m (validB m) = s.putVote m from by rw [HGO.out, if_neg hlt, if_pos (by omega)])
              unfold encM iv pv at PU
              rw [hkk] at PU
              clear hkk
              go_wp2_with (go_at_call 75; refine (PU.out _ HB3.out).mono ?_; rintro e w4 ⟨rfl, ht⟩; have HT := Lib.hid ht; clear ht)
              refine bodyPost_end (results_none rfl _ _ _) rfl ⟨rfl, ?_⟩
              rw [HE.out]
              exact Turned.after HB3.out HT.out
        · have HE := Lib.hid (rcv_ask HBD.out.symm HKS.out hd)
          rw [hd] at ID
          clear hd hkk DONE
          go_wp2_with (first
            | (go_at_call 63; refine ID.out.mono ?_; rintro e w2 ⟨rfl, hb⟩; have HB2 := Lib.hid (HB1.out.trans (hb.mono HB1.out.size)); have HR2 := (hb.block mb (Array.getElem?_eq_some_iff.1 HRM.out).1).trans HRM.out; clear hb c0 c1 c2 c3 c4 c5 c6 c7 fz; obtain ⟨c0, c1, c2, c3, c4, c5, c6, c7, fz⟩ := MRow.of HR2; rw [HKK.out] at c0; clear HR2)
            | (go_at_call 74; refine (AK.out _ HB2.out).mono ?_; rintro e w3 ⟨rfl, ht⟩; have HT := Lib.hid ht; clear ht))
          refine bodyPost_ret (results_none rfl _ _ _) rfl ⟨rfl, ?_⟩
          rw [HE.out]
          exact Turned.after HB2.out HT.out
      · have AK := Lib.hid (fun W (hW : Below w.heap.size w W) => ask_any (R := R) (R0 := R0) (m := m) (H.out.below hW) ⟨_, rfl, HL.out.below H0.out hW⟩ HI.out.n1 ⟨HPL.out.1, by have := HPL.out.2.1; omega⟩ ⟨HPL.out.2.2.1, by have := HPL.out.2.2.2.1; omega⟩)
        have HKK := Lib.hid hkk
        unfold encM iv pv at AK
        rw [hkk] at AK c0
        rcases hd : s.isDec m.height with _ | _
        · have HGO := Lib.hid (rcv_go HBD.out.symm HKS.out hd)
          rw [hd] at ID
          clear hd
          go_upto_region 9 with (go_at_call 63; refine ID.out.mono ?_; rintro e w2 ⟨rfl, hb⟩; have HB2 := Lib.hid (HB1.out.trans (hb.mono HB1.out.size)); have HR2 := Lib.hid ((hb.block mb (Array.getElem?_eq_some_iff.1 HRM.out).1).trans HRM.out); clear hb)
          clear c0 c1 c2 c3 c4 c5 c6 c7 fz
          obtain ⟨c0, c1, c2, c3, c4, c5, c6, c7, fz⟩ := MRow.of HR2.out
          rw [hkk] at c0
          have d0 := (H.out.below HB2.out).nc.c0
          go_region
          obtain ⟨w3, hw3⟩ : ∃ w3, w3 = w2.drew := ⟨_, rfl⟩
          have HB3 := Lib.hid (show Below w.heap.size w w3 from by rw [hw3]; exact HB2.out.drew)
          have HR3 := Lib.hid (show w3.heap[mb]? = some (.cells (encM m (.slice ao m.list.length cap)) 36 (0, 0)) from by rw [hw3]; exact HR2.out)
          rw [← hw3]
          clear hw3 c0 c1 c2 c3 c4 c5 c6 c7 fz d0 HR2 HB2 AK ID
          obtain ⟨c0, c1, c2, c3, c4, c5, c6, c7, fz⟩ := MRow.of HR3.out
          rw [hkk] at c0
          by_cases hlt : m.height < s.height
          · have hlt2 : decide (m.height < s.height) = true := by simpa using hlt
            have HD := Lib.hid (DONE.out (by rw [HGO.out, if_pos hlt]) _ HB3.out)
            clear DONE
            go_wp2
            exact bodyPost_ret (results_none rfl _ _ _) rfl ⟨rfl, HD.out⟩
          · have hlt2 : decide (m.height < s.height) = false := by simpa using hlt
            clear DONE
            · skip
              have PU := Lib.hid (fun W (hW : Below w.heap.size w W) => put_any (R := R) (R0 := R0) (m := m) (H.out.below hW) ⟨_, rfl, HL.out.below H0.out hW⟩ (fun k hk => Nat.lt_of_lt_of_le (H0.out k hk) hW.size) hl (by rw [hkk]; rfl) HVA.out HFR.out)
              have HE := Lib.hid (show s.receive m (validB m) = s.putVote m from by rw [HGO.out, if_neg hlt, if_pos (by omega)])
              unfold encM iv pv at PU
              rw [hkk] at PU
              clear hkk
              go_wp2_with (go_at_call 75; refine (PU.out _ HB3.out).mono ?_; rintro e w4 ⟨rfl, ht⟩; have HT := Lib.hid ht; clear ht)
              refine bodyPost_end (results_none rfl _ _ _) rfl ⟨rfl, ?_⟩
              rw [HE.out]
              exact Turned.after HB3.out HT.out
        · have HE := Lib.hid (rcv_ask HBD.out.symm HKS.out hd)
          rw [hd] at ID
          clear hd hkk DONE
          go_wp2_with (first
            | (go_at_call 63; refine ID.out.mono ?_; rintro e w2 ⟨rfl, hb⟩; have HB2 := Lib.hid (HB1.out.trans (hb.mono HB1.out.size)); have HR2 := (hb.block mb (Array.getElem?_eq_some_iff.1 HRM.out).1).trans HRM.out; clear hb c0 c1 c2 c3 c4 c5 c6 c7 fz; obtain ⟨c0, c1, c2, c3, c4, c5, c6, c7, fz⟩ := MRow.of HR2; rw [HKK.out] at c0; clear HR2)
            | (go_at_call 74; refine (AK.out _ HB2.out).mono ?_; rintro e w3 ⟨rfl, ht⟩; have HT := Lib.hid ht; clear ht))
          refine bodyPost_ret (results_none rfl _ _ _) rfl ⟨rfl, ?_⟩
          rw [HE.out]
          exact Turned.after HB2.out HT.out
      · have AK := Lib.hid (fun W (hW : Below w.heap.size w W) => ask_any (R := R) (R0 := R0) (m := m) (H.out.below hW) ⟨_, rfl, HL.out.below H0.out hW⟩ HI.out.n1 ⟨HPL.out.1, by have := HPL.out.2.1; omega⟩ ⟨HPL.out.2.2.1, by have := HPL.out.2.2.2.1; omega⟩)
        have HKK := Lib.hid hkk
        unfold encM iv pv at AK
        rw [hkk] at AK c0
        rcases hd : s.isDec m.height with _ | _
        · have HGO := Lib.hid (rcv_go HBD.out.symm HKS.out hd)
          rw [hd] at ID
          clear hd
          go_upto_region 9 with (go_at_call 63; refine ID.out.mono ?_; rintro e w2 ⟨rfl, hb⟩; have HB2 := Lib.hid (HB1.out.trans (hb.mono HB1.out.size)); have HR2 := Lib.hid ((hb.block mb (Array.getElem?_eq_some_iff.1 HRM.out).1).trans HRM.out); clear hb)
          clear c0 c1 c2 c3 c4 c5 c6 c7 fz
          obtain ⟨c0, c1, c2, c3, c4, c5, c6, c7, fz⟩ := MRow.of HR2.out
          rw [hkk] at c0
          have d0 := (H.out.below HB2.out).nc.c0
          go_region
          obtain ⟨w3, hw3⟩ : ∃ w3, w3 = w2.drew := ⟨_, rfl⟩
          have HB3 := Lib.hid (show Below w.heap.size w w3 from by rw [hw3]; exact HB2.out.drew)
          have HR3 := Lib.hid (show w3.heap[mb]? = some (.cells (encM m (.slice ao m.list.length cap)) 36 (0, 0)) from by rw [hw3]; exact HR2.out)
          rw [← hw3]
          clear hw3 c0 c1 c2 c3 c4 c5 c6 c7 fz d0 HR2 HB2 AK ID
          obtain ⟨c0, c1, c2, c3, c4, c5, c6, c7, fz⟩ := MRow.of HR3.out
          rw [hkk] at c0
          by_cases hlt : m.height < s.height
          · have hlt2 : decide (m.height < s.height) = true := by simpa using hlt
            have HD := Lib.hid (DONE.out (by rw [HGO.out, if_pos hlt]) _ HB3.out)
            clear DONE
            go_wp2
            exact bodyPost_ret (results_none rfl _ _ _) rfl ⟨rfl, HD.out⟩
          · have hlt2 : decide (m.height < s.height) = false := by simpa using hlt
            clear DONE
            · skip
              have PU := Lib.hid (fun W (hW : Below w.heap.size w W) => put_any (R := R) (R0 := R0) (m := m) (H.out.below hW) ⟨_, rfl, HL.out.below H0.out hW⟩ (fun k hk => Nat.lt_of_lt_of_le (H0.out k hk) hW.size) hl (by rw [hkk]; rfl) HVA.out HFR.out)
              have HE := Lib.hid (show s.receive m (validB m) = s.putVote m from by rw [HGO.out, if_neg hlt, if_pos (by omega)])
              unfold encM iv pv at PU
              rw [hkk] at PU
              clear hkk
              go_wp2_with (go_at_call 75; refine (PU.out _ HB3.out).mono ?_; rintro e w4 ⟨rfl, ht⟩; have HT := Lib.hid ht; clear ht)
              refine bodyPost_end (results_none rfl _ _ _) rfl ⟨rfl, ?_⟩
              rw [HE.out]
              exact Turned.after HB3.out HT.out
        · have HE := Lib.hid (rcv_ask HBD.out.symm HKS.out hd)
          rw [hd] at ID
          clear hd hkk DONE
          go_wp2_with (first
            | (go_at_call 63; refine ID.out.mono ?_; rintro e w2 ⟨rfl, hb⟩; have HB2 := Lib.hid (HB1.out.trans (hb.mono HB1.out.size)); have HR2 := (hb.block mb (Array.getElem?_eq_some_iff.1 HRM.out).1).trans HRM.out; clear hb c0 c1 c2 c3 c4 c5 c6 c7 fz; obtain ⟨c0, c1, c2, c3, c4, c5, c6, c7, fz⟩ := MRow.of HR2; rw [HKK.out] at c0; clear HR2)
            | (go_at_call 74; refine (AK.out _ HB2.out).mono ?_; rintro e w3 ⟨rfl, ht⟩; have HT := Lib.hid ht; clear ht))
          refine bodyPost_ret (results_none rfl _ _ _) rfl ⟨rfl, ?_⟩
          rw [HE.out]
          exact Turned.after HB2.out HT.out
    · have k3 : (m.kind == 3) = false := by simp; omega
      have k4 : (m.kind == 4) = false := by simp; omega
      have k6 : (m.kind == 6) = false := by simp; omega
      have k5 : (m.kind == 5) = false := by simp; omega
      have HD := Lib.hid (DONE.out (rcv_kind hks) w1 HB1.out)
      clear DONE hks
      go_wp2
      exact bodyPost_ret (results_none rfl _ _ _) rfl ⟨rfl, HD.out⟩
  · have HD := Lib.hid (DONE.out (rcv_bad HBD.out.symm) w1 HB1.out)
    clear DONE
    go_wp2
    exact bodyPost_ret (results_none rfl _ _ _) rfl ⟨rfl, HD.out⟩
end

end Go.Proofs.YtifcdjmcoibblaaGreatDoor
