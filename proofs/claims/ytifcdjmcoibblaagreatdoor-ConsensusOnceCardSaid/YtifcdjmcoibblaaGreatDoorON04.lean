/-
  ONCE: the walk.
-/
import Derived.Test.YtifcdjmcoibblaaGreatDoorON03
import Derived.Test.YtifcdjmcoibblaaGreatDoorON02
import Derived.Deep.CutBlock

/-! ONCE: the walk. -/
namespace Go.Proofs.YtifcdjmcoibblaaGreatDoor
set_option linter.unusedVariables false
set_option linter.unusedSimpArgs false
set_option linter.unusedSectionVars false
open Go.RowKit

theorem fam_digest {wl w : World} {v : Value} {j : Nat} (hj : j < 4) (r1 : LRow (New w wl) wl v (fam j)) : Calls Tryz.prog 26 #[v] wl fun e w' => e = .returned (.string (digV (fam j))) ∧ Below wl.heap.size wl w' := by
  obtain ⟨a3, c3, rfl, _, hrow3⟩ := r1.row
  rw [digV_asc (asc_fam (Nat.lt_of_lt_of_le hj (by decide)))]
  exact rdigest_any a3 _ c3 (fam j) wl rfl fam_len hrow3 (asc_fam (Nat.lt_of_lt_of_le hj (by decide)))
/-- the notes behind the messages ms, if they are noted -/
def noteN (nt : Bool) (cs : List CastB) (ms : List MsgB) : Bool × List CastB :=
  match nt with
  | true => noteL false (false, cs) ms
  | false => (false, cs)
theorem noteN_nil (nt : Bool) (cs : List CastB) : noteN nt cs [] = (false, cs) := by cases nt <;> rfl
theorem noteN_step (nt : Bool) (cs : List CastB) (ms : List MsgB) (i : Nat) (m : MsgB) (hm : ms[i]? = some m) :
    ((nt && (m.kind != 6)) = true → noteN nt cs (ms.take (i + 1)) = noteC false (noteN nt cs (ms.take i)).1 (noteN nt cs (ms.take i)).2 m) ∧ ((nt && (m.kind != 6)) = false → noteN nt cs (ms.take (i + 1)) = noteN nt cs (ms.take i)) := by
  obtain ⟨hl, he⟩ := List.getElem?_eq_some_iff.1 hm
  rw [List.take_succ_eq_append_getElem hl, he]
  cases nt with
  | false => exact ⟨fun h => (by cases h), fun _ => rfl⟩
  | true =>
    have e : ∀ l, noteN true cs l = noteL false (false, cs) l := fun _ => rfl
    rw [e, e, noteL_append]
    generalize noteL false (false, cs) (ms.take i) = x
    have e2 : noteL false x [m] = if m.kind = 6 then x else noteC false x.1 x.2 m := rfl
    rw [e2]
    refine ⟨fun h => ?_, fun h => ?_⟩
    · rw [if_neg (by simpa using h)]
    · rw [if_pos (by simpa using h)]
theorem noteN_len (nt : Bool) (cs : List CastB) (ms : List MsgB) (i : Nat) : (noteN nt cs (ms.take i)).2.length ≤ cs.length + i := by
  cases nt with
  | false => show cs.length ≤ _; omega
  | true =>
    have := noteL_len false (ms.take i) (false, cs)
    have h2 : (ms.take i).length ≤ i := by rw [List.length_take]; omega
    show (noteL false (false, cs) (ms.take i)).2.length ≤ _
    simp only at this
    omega
theorem OnY.broken {base : Nat} {w1 W : World} {x nb : Nat} {n : Int} {s : StB} {cs : List CastB} {br : Bool} {A : Nat → Prop} (h : OnY base w1 x nb n s cs br A W) : W.cell? ⟨nb, 8, none⟩ = some (.bool br) := by
  obtain ⟨Rx, cv, h1, _⟩ := h
  rw [cell_of_row W nb 8 _ _ _ h1.row]; rfl
theorem OnY.start {base : Nat} {w1 W W' : World} {x : Nat} {n : Int} {s : StB} {Rx : Nat → Nat → Prop} (h : Flk GA base w1 [x] [s] Rx W) {nb : Nat} (hb : Below W.heap.size W W') (hn : W.heap.size ≤ nb) (hr : W'.heap[nb]? = some (.cells (netRow n 0 0 0 (.slice none 0 0) (.slice none 0 0) (.slice none 0 0) (.slice none 0 0) false) 50 (0, 0))) :
    OnY base w1 x nb n s [] false (fun _ => False) W' :=
  ⟨Rx, .slice none 0 0, ⟨h.later hb, ⟨(Array.getElem?_eq_some_iff.1 hr).1, fun hk => by have := h.net.lt hk; omega⟩, Nat.le_trans h.size hn, hr, World.ownsRow_nil _ _ _ _, fun g hg => by simp [Value.ownBlock] at hg⟩, fun k hk => hk.elim⟩

section
variable (site n : Int) (w : World) (ao : Option Addr) (cap : Nat) (os : List OpR)
set_option maxRecDepth 100000 in
set_option maxHeartbeats 8000000 in
theorem onceL_any (hn1 : -9223372036854775808 ≤ n) (hn2 : n ≤ 9223372036854775807) (hk1 : -9223372036854775808 ≤ site) (hk2 : site ≤ 9223372036854775807) (hlen : os.length ≤ 9223372036854775807) (hrow : OpsAt w w.heap.size ao os) (hG : Glob w) :
    Calls Tryz.prog 4 #[.int .i64 site, .int .i64 n, .slice ao os.length cap] w fun e w' => e = .returned (.bool true) ∧ Below w.heap.size w w' := by
  have HGL := Lib.hid hG
  have SN := Lib.hid (sane_any w hG)
  obtain ⟨N1, hN1, hpn⟩ := pickZ_nat n 7 (by omega)
  obtain ⟨N, hN⟩ : ∃ N : Nat, N = 1 + N1 := ⟨_, rfl⟩
  obtain ⟨me, hme, hpk⟩ := pickZ_nat site N (by omega)
  have PN := Lib.hid (show ∀ W, Calls Tryz.prog 14 #[.int .i64 n, .int .i64 7] W fun e w' => e = .returned (.int .i64 (N1 : Int)) ∧ w' = W from fun W => (pick_any n 7 W hn1 hn2 (by omega) (by omega)).mono fun e w' q => ⟨by rw [q.1]; exact congrArg _ (congrArg _ hpn), q.2.symm⟩)
  have PK := Lib.hid (show ∀ W, Calls Tryz.prog 14 #[.int .i64 site, .int .i64 (N : Int)] W fun e w' => e = .returned (.int .i64 (me : Int)) ∧ w' = W from fun W => (pick_any site (N : Int) W hk1 hk2 (by omega) (by omega)).mono fun e w' q => ⟨by rw [q.1]; exact congrArg _ (congrArg _ hpk), q.2.symm⟩)
  have nn1 : (N1 : Int) < 7 := by omega
  have ew0 : IntKind.wrap .i64 (1 + (N1 : Int)) = (N : Int) := by rw [IntKind.wrap_i64]; omega
  have n1 : 1 ≤ (N : Int) := by omega
  have n7 : (N : Int) ≤ 7 := by omega
  have me0 : (0 : Int) ≤ (me : Int) := by omega
  have meN : (me : Int) < (N : Int) := by omega
  have HROW := Lib.hid hrow
  obtain ⟨len, hln⟩ : ∃ len, len = os.length := ⟨_, rfl⟩
  have HLN := Lib.hid hln
  rw [← hln] at hlen ⊢
  have len0 : (0 : Int) ≤ (len : Int) := by omega
  have len9 : (len : Int) ≤ 9223372036854775807 := by omega
  clear hG hpn hpk hN hrow hln hlen hme hN1
  go_enter Tryz.func4, Tryz.ntmps4
  go_upto_region 3 with (first
    | (go_at_call 13; (with_reducible refine SN.out.mono ?_); rintro e w1 ⟨rfl, hb1⟩; have HB1 := Lib.hid hb1; clear hb1)
    | (go_at_call 14; (with_reducible refine (PN.out _).mono ?_); rintro e wq ⟨rfl, hwq⟩; rw [hwq]; clear hwq wq))
  clear SN
  have HG1 := Lib.hid (show Glob w1 from by
    obtain ⟨t, ht⟩ := HGL.out
    exact ⟨t, (HB1.out.block 0 (Array.getElem?_eq_some_iff.1 ht).1).trans ht⟩)
  have HP1 := Lib.hid (show 0 < w1.heap.size from by
    obtain ⟨t, ht⟩ := HG1.out
    exact (Array.getElem?_eq_some_iff.1 ht).1)
  have HR1 := Lib.hid (show OpsAt w1 w1.heap.size ao os from fun j z hz => by
    obtain ⟨h0, g, off, e, hg, hc⟩ := (HROW.out.later HB1.out) j z hz
    exact ⟨h0, g, off, e, Nat.lt_of_lt_of_le hg HB1.out.size, hc⟩)
  have NW := Lib.hid (flk_new (G := GA) (Flk.nil HP1.out HG1.out) (id := (me : Int)) (n := (N : Int)) n1 n7 me0 meN)
  unfold pv at NW
  go_upto_region 6 with (first
    | (go_at_call 14; (with_reducible refine (PK.out _).mono ?_); rintro e wq ⟨rfl, hwq⟩; rw [hwq]; clear hwq wq)
    | (go_at_call 15; (with_reducible refine NW.out.mono ?_); rintro e w2 ⟨x, R2, rfl, h2, hb2⟩; have F2 := Lib.hid (show Flk GA w1.heap.size w1 [x] [newS (me : Int) (N : Int)] R2 w2 from h2); clear h2 hb2))
  obtain ⟨nb, hnb⟩ : ∃ nb, nb = w2.heap.size := ⟨_, rfl⟩
  go_upto_region 7 with (fail)
  obtain ⟨w3, hw3⟩ : ∃ w3, w3 = w2.alloc (.cells #[.int .i64 (N : Int), .int .i64 0, .slice none 0 0, .int .i64 0, .int .i64 0, .slice none 0 0, .slice none 0 0, .slice none 0 0, .bool false] 50) := ⟨_, rfl⟩
  have HY3 := Lib.hid (show OnY w1.heap.size w1 x nb (N : Int) (newS (me : Int) (N : Int)) [] false (fun _ => False) w3 from OnY.start F2.out (W' := w3) (nb := nb) (by rw [hw3]; exact (Below.refl _ _).alloc (Nat.le_refl _) _) (Nat.le_of_eq hnb.symm) (by rw [hw3, hnb]; exact World.alloc_heap_new w2 _))
  rw [← hnb, ← hw3]
  clear hnb hw3 F2 NW
  go_wp2_with (go_at_call 14; (with_reducible refine (PK.out _).mono ?_); rintro e wq ⟨rfl, hwq⟩; rw [hwq]; clear hwq wq)
  go_loopw [14, 12, 13] (fun iv dv kv wr => ∃ (j : Nat) (s : StB) (cs : List CastB) (A : Nat → Prop) (kb : Bool), j ≤ len ∧ j ≤ 80 ∧ iv = .int .i64 (j : Int) ∧ kv = .bool kb ∧ OnY w1.heap.size w1 x nb (N : Int) s cs false A wr ∧ OnceI szB GA (me : Int) (N : Int) s cs ∧ s.ticks ≤ 13 * j ∧ cs.length ≤ 52000 * j ∧ (kb = true → ∃ v, getA 0 s.decs = some v ∧ LRow A wr dv v.list)) (fun iv _ _ _ => 80 - (intOf iv).toNat)
  case atStart => exact ⟨0, newS (me : Int) (N : Int), [], fun _ => False, false, Nat.zero_le _, Nat.zero_le _, rfl, rfl, HY3.out, OnceI.start szB_nil GA me0 meN n7, (by show (0 : Int) ≤ _; omega), Nat.zero_le _, fun h => (by cases h)⟩
  case round =>
    clear HY3
    obtain ⟨j, s, cs, A, kb, hj, hj8, rfl, rfl, hy, ho, ht, hc, hd⟩ := hrel
    have HY := Lib.hid hy
    have HO := Lib.hid ho
    have HT := Lib.hid ht
    have HC := Lib.hid hc
    have HD := Lib.hid hd
    have j0 : (0 : Int) ≤ (j : Int) := by omega
    clear hy ho ht hc hd
    by_cases hjn : j < len
    · have j1 : (j : Int) < (len : Int) := by omega
      by_cases hj80 : j < 80
      · have j2 : (j : Int) < 80 := by omega
        obtain ⟨o, hoj⟩ : ∃ o, os[j]? = some o := ⟨os[j]'(by rw [← HLN.out]; exact hjn), List.getElem?_eq_getElem _⟩
        obtain ⟨hok, g, off, rfl, hgl, hoc⟩ := (HR1.out.later HY.out.below) j o hoj
        have HOK := Lib.hid hok
        have e0 := hoc 0 _ rfl
        have e1 := hoc 1 _ rfl
        have e2 := hoc 2 _ rfl
        have e3 := hoc 3 _ rfl
        have e4 := hoc 4 _ rfl
        have e5 := hoc 5 _ rfl
        have e6 := hoc 6 _ rfl
        have e7 := hoc 7 _ rfl
        have e8 := hoc 8 _ rfl
        have e9 := hoc 9 _ rfl
        have e10 := hoc 10 _ rfl
        have e11 := hoc 11 _ rfl
        have e12 := hoc 12 _ rfl
        simp only [Nat.add_zero] at e0
        clear hoc hok hgl
        go_upto_region 14 with (fail)
        obtain ⟨ob, hob⟩ : ∃ ob, ob = wr.heap.size := ⟨_, rfl⟩
        obtain ⟨wo, hwo⟩ : ∃ wo, wo = wr.alloc (.cells #[.int .i64 o.kd, .int .i64 o.a, .int .i64 o.b, .int .i64 o.c, .int .i64 o.d, .int .i64 o.x0, .int .i64 o.x1, .int .i64 o.x2, .int .i64 o.x3, .int .i64 o.x4, .int .i64 o.x5, .string o.xd, .slice o.xa o.xn o.xc] 52) := ⟨_, rfl⟩
        have HRO := Lib.hid (show wo.heap[ob]? = some (.cells #[.int .i64 o.kd, .int .i64 o.a, .int .i64 o.b, .int .i64 o.c, .int .i64 o.d, .int .i64 o.x0, .int .i64 o.x1, .int .i64 o.x2, .int .i64 o.x3, .int .i64 o.x4, .int .i64 o.x5, .string o.xd, .slice o.xa o.xn o.xc] 52 (0, 0)) from by rw [hwo, hob]; exact World.alloc_heap_new wr _)
        have HBO := Lib.hid (show Below wr.heap.size wr wo from by rw [hwo]; exact (Below.refl _ wr).alloc (Nat.le_refl _) _)
        have HOB := Lib.hid (show New wr wo ob from ⟨Nat.le_of_eq hob.symm, (Array.getElem?_eq_some_iff.1 HRO.out).1⟩)
        rw [← hob, ← hwo]
        clear hwo hob e0 e1 e2 e3 e4 e5 e6 e7 e8 e9 e10 e11 e12
        have HYO := Lib.hid (HY.out.grow HBO.out)
        have HGT := Lib.hid (show ∀ W cs' br B, OnY w1.heap.size w1 x nb (N : Int) s cs' br B W → Calls Tryz.prog 24 #[.pointer (some ⟨x, 0, none⟩)] W fun e w' => e = .returned (.int .i64 0) ∧ w' = W from fun W cs' br B h => by
          have q := z_height h
          rw [HO.out.height] at q
          exact q)
        have RND := Lib.hid (show Calls Tryz.prog 23 #[.pointer (some ⟨x, 0, none⟩)] wo fun e w' => e = .returned (.int .i64 s.round) ∧ w' = wo from z_round HYO.out)
        have DEC := Lib.hid (z_dec HYO.out)
        unfold pv at DEC
        obtain ⟨dn, hdn⟩ : ∃ dn, s.isDec 0 = dn := ⟨_, rfl⟩
        rw [hdn] at DEC
        have HDN := Lib.hid hdn
        clear hdn
        go_upto_region 17 with (first
          | (go_at_call 24; (with_reducible refine (HGT.out _ _ _ _ HYO.out).mono ?_); rintro e wq ⟨rfl, hwq⟩; rw [hwq]; clear hwq wq)
          | (go_at_call 23; (with_reducible refine RND.out.mono ?_); rintro e wq ⟨rfl, hwq⟩; rw [hwq]; clear hwq wq)
          | (go_at_call 21; (with_reducible refine DEC.out.mono ?_); rintro e w2 ⟨⟨u0, rfl, hu0⟩, hb2⟩; have HB2 := Lib.hid hb2; clear hu0 hb2))
        have HY2 := Lib.hid ((HYO.out.later HB2.out).less (B := fun k => A k ∨ k = ob) (fun k hk => by
          rcases hk with hk | rfl
          · exact .inl hk
          · exact .inr HOB.out))
        have HR2 := Lib.hid ((HB2.out.block ob (Array.getElem?_eq_some_iff.1 HRO.out).1).trans HRO.out)
        have HK2 := Lib.hid (show KeepA A wr w2 from (HY.out.keepB HBO.out).trans ((HYO.out.less (fun k hk => .inl hk)).keepB HB2.out) (fun k hk => hk))
        obtain ⟨q, hq12, hq⟩ := pickZ_nat o.kd 12 (by omega)
        have PQ := Lib.hid (show ∀ W, Calls Tryz.prog 14 #[.int .i64 o.kd, .int .i64 12] W fun e w' => e = .returned (.int .i64 (q : Int)) ∧ w' = W from fun W => (pick_any o.kd 12 W HOK.out.kd.1 HOK.out.kd.2 (by omega) (by omega)).mono fun e w' h => ⟨by rw [h.1]; exact congrArg _ (congrArg _ hq), h.2.symm⟩)
        have q0 : (0 : Int) ≤ (q : Int) := by omega
        have q12 : (q : Int) < 12 := by omega
        clear hq
        have o0 := cell_of_row w2 ob 0 _ _ _ HR2.out
        simp at o0
        clear HYO HRO HBO RND DEC HGT
        go_cut [78] (fun t wc => t = .int .i64 (q : Int) ∧ wc = w2)
        case first =>
          go_wp2_with (go_at_call 14; (with_reducible refine (PQ.out _).mono ?_); rintro e wq ⟨rfl, hwq⟩; rw [hwq]; clear hwq wq)
          go_meet
          exact ⟨rfl, rfl⟩
        case rest =>
        obtain ⟨rfl, hw⟩ := hcut
        rw [hw]
        clear hw o0
        go_upto_block 2 with (fail)
        go_cut [] (fun wc => ∃ (s' : StB) (cs' : List CastB) (A' : Nat → Prop), (∀ k, A k → A' k) ∧ OnY w1.heap.size w1 x nb (N : Int) s' cs' false A' wc ∧ OnceI szB GA (me : Int) (N : Int) s' cs' ∧ s'.ticks ≤ 13 * ((j : Int) + 1) ∧ cs'.length ≤ 52000 * (j + 1) ∧ s.round ≤ s'.round ∧ (∀ v, getA 0 s.decs = some v → getA 0 s'.decs = some v) ∧ KeepA A w2 wc)
        case first =>
          clear PK PN HD
          have HOL := Lib.hid ((Array.getElem?_eq_some_iff.1 HR2.out).1)
          have RR := Lib.hid (show ∀ W : World, W.heap[ob]? = w2.heap[ob]? → W.cell? ⟨ob, 1, none⟩ = some (.int .i64 o.a) ∧ W.cell? ⟨ob, 2, none⟩ = some (.int .i64 o.b) ∧ W.cell? ⟨ob, 4, none⟩ = some (.int .i64 o.d) from fun W hW => by
            have hr := hW.trans HR2.out
            refine ⟨?_, ?_, ?_⟩
            · rw [cell_of_row W ob 1 _ _ _ hr]; rfl
            · rw [cell_of_row W ob 2 _ _ _ hr]; rfl
            · rw [cell_of_row W ob 4 _ _ _ hr]; rfl)
          obtain ⟨jd, hjd, hpd⟩ := pickZ_nat o.d 4 (by omega)
          have PD := Lib.hid (show ∀ W, Calls Tryz.prog 14 #[.int .i64 o.d, .int .i64 4] W fun e w' => e = .returned (.int .i64 (jd : Int)) ∧ w' = W from fun W => (pick_any o.d 4 W HOK.out.d.1 HOK.out.d.2 (by omega) (by omega)).mono fun e w' h => ⟨by rw [h.1]; exact congrArg _ (congrArg _ hpd), h.2.symm⟩)
          have HJD := Lib.hid hjd
          have jd0 : (0 : Int) ≤ (jd : Int) := by omega
          have jd4 : (jd : Int) < 4 := by omega
          clear hpd
          by_cases h0 : q = 0
          · have y0 : ((q : Int) == 0) = true := by simp; omega
            as_aux_lemma =>
              clear h0
              go_upto_region 32 with (fail)
              refine wp_region_held_drew (S := fun W => W.cell? ⟨ob, 4, none⟩ = some (.int .i64 o.d)) (by kernel_rfl) ((RR.out _ rfl).2.2) (fun hHeld => ?_)
              refine wpAnyH_take (i := 0) (oi := _) (v := ?v1) rfl (by kernel_rfl) (by kernel_rfl) (by kernel_rfl) (fun _ _ _ h => h) (Or.inl ⟨by kernel_rfl, ?h1⟩) (by assumption) ?r1
              case h1 => (intro w hSw; (try dsimp only at hSw); (first | (go_simp; done) | (go_simp; with_reducible rfl)))
              try simp only [Act.put, List.getElem_toArray, List.getElem_cons_succ, List.getElem_cons_zero, List.setIfInBounds_toArray, List.set_cons_zero, List.set_cons_succ]
              refine wpAnyH_take (i := 2) (oi := _) (v := ?v2) rfl (by kernel_rfl) (by kernel_rfl) (by kernel_rfl) (fun _ _ _ h => h) (Or.inl ⟨by kernel_rfl, ?h2⟩) (by assumption) ?r2
              case h2 => (intro w hSw; (try dsimp only at hSw); (first | (go_simp; done) | (go_simp; with_reducible rfl)))
              try simp only [Act.put, List.getElem_toArray, List.getElem_cons_succ, List.getElem_cons_zero, List.setIfInBounds_toArray, List.set_cons_zero, List.set_cons_succ]
              refine wpAnyH_take (i := 3) (oi := _) (v := ?v3) rfl (by kernel_rfl) (by kernel_rfl) (by kernel_rfl) (fun _ _ _ h => h) (Or.inl ⟨by kernel_rfl, ?h3⟩) (by assumption) ?r3
              case h3 => (intro w hSw; (try dsimp only at hSw); (first | (go_simp; done) | (go_simp; with_reducible rfl)))
              try simp only [Act.put, List.getElem_toArray, List.getElem_cons_succ, List.getElem_cons_zero, List.setIfInBounds_toArray, List.set_cons_zero, List.set_cons_succ]
              refine wpAnyH_ready (rs := [1]) (by kernel_rfl) (by simp) ?_
              refine AllReadyH.cons (o := _) rfl (fun K hK => ?_) AllReadyH.nil
              go_simp
              go_at_call 17
              (with_reducible refine (lists_any _).mono ?_)
              rintro e wl ⟨gl, rfl, hbl, hll⟩
              obtain ⟨vl, c1, r1⟩ := hll.cell jd HJD.out
              rw [lst_fam HJD.out] at r1
              have BL := Lib.hid ((Below.refl _ w2).drew.trans hbl)
              have ROW := Lib.hid (BL.out.block ob HOL.out)
              have BG := Lib.hid (z_begin (HY2.out.later BL.out) r1 (fun k hk => hk.2) fam_len (GA.fam (Nat.lt_of_lt_of_le HJD.out (by decide))))
              unfold pv at BG
              clear hll r1 hbl
              clear hHeld
              go_wp2_with fail
              refine hK.out _ _ ((RR.out _ ROW.out).2.2) (fun hHeld => ?_)
              clear hK K
              try simp only [Act.put, List.getElem_toArray, List.getElem_cons_succ, List.getElem_cons_zero, List.setIfInBounds_toArray, List.set_cons_zero, List.set_cons_succ]
              refine wpAnyH_ready (rs := [4]) (by kernel_rfl) (by simp) ?_
              refine AllReadyH.cons (o := _) rfl (fun K hK => ?_) AllReadyH.nil
              go_simp
              go_at_call 14
              (with_reducible refine (PD.out _).mono ?_)
              rintro e wq ⟨rfl, hwq⟩
              rw [hwq]
              clear hwq wq
              clear hHeld
              go_wp2_with fail
              refine hK.out _ _ ((RR.out _ ROW.out).2.2) (fun hHeld => ?_)
              clear hK K
              try simp only [Act.put, List.getElem_toArray, List.getElem_cons_succ, List.getElem_cons_zero, List.setIfInBounds_toArray, List.set_cons_zero, List.set_cons_succ]
              refine wpAnyH_take (i := 5) (oi := _) (v := ?v4) rfl (by kernel_rfl) (by kernel_rfl) (by kernel_rfl) (fun _ _ _ h => h) (Or.inl ⟨by kernel_rfl, ?h4⟩) (by assumption) ?r4
              case h4 => (intro w hSw; (try dsimp only at hSw); (first | (go_simp; done) | (go_simp; with_reducible rfl)))
              try simp only [Act.put, List.getElem_toArray, List.getElem_cons_succ, List.getElem_cons_zero, List.setIfInBounds_toArray, List.set_cons_zero, List.set_cons_succ]
              refine wpAnyH_ready (rs := [6]) (by kernel_rfl) (by simp) ?_
              refine AllReadyH.cons (o := _) rfl (fun K hK => ?_) AllReadyH.nil
              go_simp
              clear hHeld
              go_wp2_with fail
              refine hK.out _ _ ((RR.out _ ROW.out).2.2) (fun hHeld => ?_)
              clear hK K
              try simp only [Act.put, List.getElem_toArray, List.getElem_cons_succ, List.getElem_cons_zero, List.setIfInBounds_toArray, List.set_cons_zero, List.set_cons_succ]
              refine wpAnyH_ready (rs := [7]) (by kernel_rfl) (by simp) ?_
              refine AllReadyH.cons (o := _) rfl (fun K hK => ?_) AllReadyH.nil
              go_simp
              go_at_call 16
              (with_reducible refine BG.out.mono ?_)
              rintro e w8 ⟨⟨u8, rfl⟩, hy8, hk8⟩
              have HY8 := Lib.hid hy8
              have HK8 := Lib.hid hk8
              have ROW8 := Lib.hid ((hk8.2 ob (.inr rfl)).trans ROW.out)
              clear hy8 hk8
              clear hHeld
              go_wp2_with fail
              refine hK.out _ _ ((RR.out _ ROW8.out).2.2) (fun hHeld => ?_)
              clear hK K
              try simp only [Act.put, List.getElem_toArray, List.getElem_cons_succ, List.getElem_cons_zero, List.setIfInBounds_toArray, List.set_cons_zero, List.set_cons_succ]
              refine wpAnyH_done (by kernel_rfl) ?_ _
              go_wp2_with fail
              go_meet
              obtain ⟨b1, b2, b3⟩ := OnceI.begin (GFam.sz GA.gf) HO.out (ascS (fam jd)) (d := digV (fam jd)) (l := fam jd) (fun _ => GA.fam (Nat.lt_of_lt_of_le HJD.out (by decide)))
              obtain ⟨ow, ac, b4⟩ := begin_zero s HO.out.height (ascS (fam jd)) (digV (fam jd)) (fam jd)
              refine ⟨_, cs, _, fun k hk => .inl hk, HY8.out, b1, ?_, ?_, by rw [b2]; omega, fun v hv => by rw [b3]; exact hv, ?_⟩
              · rw [b4]; have := HT.out; show s.ticks ≤ _; omega
              · have := HC.out; omega
              · exact ((HY2.out.keepB BL.out).trans HK8.out (fun k hk => hk)) |> fun h => ⟨h.1, fun k hk => h.2 k (.inl hk)⟩
          · have y0 : ((q : Int) == 0) = false := by simp; omega
            by_cases h3 : q = 3
            · have y1 : ((q : Int) == 3) = true := by simp; omega
              as_aux_lemma =>
                clear h0 h3
                go_upto_region 34 with (fail)
                refine wp_region_held_drew (S := fun W => W.cell? ⟨ob, 4, none⟩ = some (.int .i64 o.d)) (by kernel_rfl) ((RR.out _ rfl).2.2) (fun hHeld => ?_)
                refine wpAnyH_take (i := 0) (oi := _) (v := ?v5) rfl (by kernel_rfl) (by kernel_rfl) (by kernel_rfl) (fun _ _ _ h => h) (Or.inl ⟨by kernel_rfl, ?h5⟩) (by assumption) ?r5
                case h5 => (intro w hSw; (try dsimp only at hSw); (first | (go_simp; done) | (go_simp; with_reducible rfl)))
                try simp only [Act.put, List.getElem_toArray, List.getElem_cons_succ, List.getElem_cons_zero, List.setIfInBounds_toArray, List.set_cons_zero, List.set_cons_succ]
                refine wpAnyH_take (i := 2) (oi := _) (v := ?v6) rfl (by kernel_rfl) (by kernel_rfl) (by kernel_rfl) (fun _ _ _ h => h) (Or.inl ⟨by kernel_rfl, ?h6⟩) (by assumption) ?r6
                case h6 => (intro w hSw; (try dsimp only at hSw); (first | (go_simp; done) | (go_simp; with_reducible rfl)))
                try simp only [Act.put, List.getElem_toArray, List.getElem_cons_succ, List.getElem_cons_zero, List.setIfInBounds_toArray, List.set_cons_zero, List.set_cons_succ]
                refine wpAnyH_take (i := 3) (oi := _) (v := ?v7) rfl (by kernel_rfl) (by kernel_rfl) (by kernel_rfl) (fun _ _ _ h => h) (Or.inl ⟨by kernel_rfl, ?h7⟩) (by assumption) ?r7
                case h7 => (intro w hSw; (try dsimp only at hSw); (first | (go_simp; done) | (go_simp; with_reducible rfl)))
                try simp only [Act.put, List.getElem_toArray, List.getElem_cons_succ, List.getElem_cons_zero, List.setIfInBounds_toArray, List.set_cons_zero, List.set_cons_succ]
                refine wpAnyH_ready (rs := [1]) (by kernel_rfl) (by simp) ?_
                refine AllReadyH.cons (o := _) rfl (fun K hK => ?_) AllReadyH.nil
                go_simp
                go_at_call 17
                (with_reducible refine (lists_any _).mono ?_)
                rintro e wl ⟨gl, rfl, hbl, hll⟩
                obtain ⟨vl, c1, r1⟩ := hll.cell jd HJD.out
                rw [lst_fam HJD.out] at r1
                have BL := Lib.hid ((Below.refl _ w2).drew.trans hbl)
                have ROW := Lib.hid (BL.out.block ob HOL.out)
                have DG := Lib.hid (fam_digest HJD.out r1)
                clear hll r1 hbl
                clear hHeld
                go_wp2_with fail
                refine hK.out _ _ ((RR.out _ ROW.out).2.2) (fun hHeld => ?_)
                clear hK K
                try simp only [Act.put, List.getElem_toArray, List.getElem_cons_succ, List.getElem_cons_zero, List.setIfInBounds_toArray, List.set_cons_zero, List.set_cons_succ]
                refine wpAnyH_ready (rs := [4]) (by kernel_rfl) (by simp) ?_
                refine AllReadyH.cons (o := _) rfl (fun K hK => ?_) AllReadyH.nil
                go_simp
                go_at_call 14
                (with_reducible refine (PD.out _).mono ?_)
                rintro e wq ⟨rfl, hwq⟩
                rw [hwq]
                clear hwq wq
                clear hHeld
                go_wp2_with fail
                refine hK.out _ _ ((RR.out _ ROW.out).2.2) (fun hHeld => ?_)
                clear hK K
                try simp only [Act.put, List.getElem_toArray, List.getElem_cons_succ, List.getElem_cons_zero, List.setIfInBounds_toArray, List.set_cons_zero, List.set_cons_succ]
                refine wpAnyH_take (i := 5) (oi := _) (v := ?v8) rfl (by kernel_rfl) (by kernel_rfl) (by kernel_rfl) (fun _ _ _ h => h) (Or.inl ⟨by kernel_rfl, ?h8⟩) (by assumption) ?r8
                case h8 => (intro w hSw; (try dsimp only at hSw); (first | (go_simp; done) | (go_simp; with_reducible rfl)))
                try simp only [Act.put, List.getElem_toArray, List.getElem_cons_succ, List.getElem_cons_zero, List.setIfInBounds_toArray, List.set_cons_zero, List.set_cons_succ]
                refine wpAnyH_ready (rs := [6]) (by kernel_rfl) (by simp) ?_
                refine AllReadyH.cons (o := _) rfl (fun K hK => ?_) AllReadyH.nil
                go_simp
                clear hHeld
                go_wp2_with fail
                refine hK.out _ _ ((RR.out _ ROW.out).2.2) (fun hHeld => ?_)
                clear hK K
                try simp only [Act.put, List.getElem_toArray, List.getElem_cons_succ, List.getElem_cons_zero, List.setIfInBounds_toArray, List.set_cons_zero, List.set_cons_succ]
                refine wpAnyH_ready (rs := [7]) (by kernel_rfl) (by simp) ?_
                refine AllReadyH.cons (o := _) rfl (fun K hK => ?_) AllReadyH.nil
                go_simp
                go_at_call 26
                (with_reducible refine DG.out.mono ?_)
                rintro e w9 ⟨rfl, hb9⟩
                have BM := Lib.hid (BL.out.trans (hb9.mono BL.out.size))
                have ROW9 := Lib.hid (BM.out.block ob HOL.out)
                have BG := Lib.hid (z_accept (HY2.out.later BM.out) (digV (fam jd)))
                unfold pv at BG
                clear hb9
                clear hHeld
                go_wp2_with fail
                refine hK.out _ _ ((RR.out _ ROW9.out).2.2) (fun hHeld => ?_)
                clear hK K
                try simp only [Act.put, List.getElem_toArray, List.getElem_cons_succ, List.getElem_cons_zero, List.setIfInBounds_toArray, List.set_cons_zero, List.set_cons_succ]
                refine wpAnyH_ready (rs := [8]) (by kernel_rfl) (by simp) ?_
                refine AllReadyH.cons (o := _) rfl (fun K hK => ?_) AllReadyH.nil
                go_simp
                go_at_call 25
                (with_reducible refine BG.out.mono ?_)
                rintro e w8 ⟨rfl, hy8, hk8⟩
                have HY8 := Lib.hid hy8
                have HK8 := Lib.hid hk8
                have ROW8 := Lib.hid ((hk8.2 ob (.inr rfl)).trans ROW9.out)
                clear hy8 hk8
                clear hHeld
                go_wp2_with fail
                refine hK.out _ _ ((RR.out _ ROW8.out).2.2) (fun hHeld => ?_)
                clear hK K
                try simp only [Act.put, List.getElem_toArray, List.getElem_cons_succ, List.getElem_cons_zero, List.setIfInBounds_toArray, List.set_cons_zero, List.set_cons_succ]
                refine wpAnyH_done (by kernel_rfl) ?_ _
                go_wp2_with fail
                go_meet
                refine ⟨_, cs, _, fun k hk => .inl hk, HY8.out, OnceI.accept HO.out _ HY8.out.fit.ok.inv, ?_, ?_, Int.le_refl _, fun v hv => hv, ?_⟩
                · have := HT.out; show s.ticks ≤ _; omega
                · have := HC.out; omega
                · exact ((HY2.out.keepB BM.out).trans HK8.out (fun k hk => hk)) |> fun h => ⟨h.1, fun k hk => h.2 k (.inl hk)⟩
            · have y1 : ((q : Int) == 3) = false := by simp; omega
              by_cases h47 : 4 ≤ q ∧ q ≤ 7
              · have t0 := HOK.out
                as_aux_lemma =>
                  have MS := Lib.hid (message_any o.kd o.a o.b o.c o.d o.x0 o.x1 o.x2 o.x3 o.x4 o.x5 o.xd o.xa o.xn o.xc (N : Int) (me : Int) w2 t0.a t0.b t0.c t0.d ⟨n1, n7⟩ HY2.out.gl)
                  unfold opV at MS
                  have o0 := cell_of_row w2 ob 0 _ _ _ HR2.out
                  have o1 := cell_of_row w2 ob 1 _ _ _ HR2.out
                  have o2 := cell_of_row w2 ob 2 _ _ _ HR2.out
                  have o3 := cell_of_row w2 ob 3 _ _ _ HR2.out
                  have o4 := cell_of_row w2 ob 4 _ _ _ HR2.out
                  have o5 := cell_of_row w2 ob 5 _ _ _ HR2.out
                  have o6 := cell_of_row w2 ob 6 _ _ _ HR2.out
                  have o7 := cell_of_row w2 ob 7 _ _ _ HR2.out
                  have o8 := cell_of_row w2 ob 8 _ _ _ HR2.out
                  have o9 := cell_of_row w2 ob 9 _ _ _ HR2.out
                  have o10 := cell_of_row w2 ob 10 _ _ _ HR2.out
                  have o11 := cell_of_row w2 ob 11 _ _ _ HR2.out
                  have o12 := cell_of_row w2 ob 12 _ _ _ HR2.out
                  simp at o0 o1 o2 o3 o4 o5 o6 o7 o8 o9 o10 o11 o12
                  obtain ⟨g4, hg4⟩ : ∃ b, ((q : Int) == 4) = b := ⟨_, rfl⟩
                  obtain ⟨g5, hg5⟩ : ∃ b, ((q : Int) == 5) = b := ⟨_, rfl⟩
                  obtain ⟨g6, hg6⟩ : ∃ b, ((q : Int) == 6) = b := ⟨_, rfl⟩
                  have z7 : g4 = false → g5 = false → g6 = false → ((q : Int) == 7) = true := fun a b c => by
                    rw [← hg4] at a; rw [← hg5] at b; rw [← hg6] at c
                    simp at a b c ⊢; omega
                  have H47 := Lib.hid h47
                  have Z7 := Lib.hid z7
                  clear t0 h0 h3 h47 z7
                  go_upto_region 35 with (fail)
                  go_cut [181] (fun t wc => t = .bool g4 ∧ wc = w2)
                  case first =>
                    go_wp2_with fail
                    go_meet
                    exact ⟨rfl, rfl⟩
                  case rest =>
                  obtain ⟨rfl, hw⟩ := hcut
                  rw [hw]
                  clear hw
                  go_upto_if 181 with (fail)
                  go_cut [181] (fun t wc => t = .bool true ∧ wc = w2)
                  case first =>
                    have Z7 := Z7.out
                    rcases g4 with _ | _
                    · rcases g5 with _ | _
                      · rcases g6 with _ | _
                        · have z8 := Z7 rfl rfl rfl
                          clear Z7
                          go_wp2_with fail
                          go_meet
                          exact ⟨rfl, rfl⟩
                        · clear Z7
                          go_wp2_with fail
                          go_meet
                          exact ⟨rfl, rfl⟩
                      · clear Z7
                        go_wp2_with fail
                        go_meet
                        exact ⟨rfl, rfl⟩
                    · clear Z7
                      go_wp2_with fail
                      go_meet
                      exact ⟨rfl, rfl⟩
                  case rest =>
                  obtain ⟨rfl, hw⟩ := hcut
                  rw [hw]
                  clear hw Z7 hg4 hg5 hg6
                  go_upto_region 40 with (go_at_call 27; (with_reducible refine MS.out.mono ?_); rintro e w6 ⟨m, sl, rfl, hl6, hlaw, hb6⟩; obtain ⟨aol, capl, rfl, _⟩ := id hl6; have HL6 := Lib.hid hl6; have HLAW := Lib.hid hlaw; have HB6 := Lib.hid hb6; unfold encM iv; clear hl6 hlaw hb6)
                  clear o0 o1 o2 o3 o4 o5 o6 o7 o8 o9 o10 o11 o12 MS
                  obtain ⟨mb, hmb⟩ : ∃ mb, mb = w6.heap.size := ⟨_, rfl⟩
                  obtain ⟨w7, hw7⟩ : ∃ w7, w7 = w6.alloc (.cells #[.int .i64 m.kind, .int .i64 m.frm, .int .i64 m.to, .int .i64 m.height, .int .i64 m.round, .int .i64 m.valid, .string m.dig, .slice aol m.list.length capl] 36) := ⟨_, rfl⟩
                  have HR7 := Lib.hid (show w7.heap[mb]? = some (.cells #[.int .i64 m.kind, .int .i64 m.frm, .int .i64 m.to, .int .i64 m.height, .int .i64 m.round, .int .i64 m.valid, .string m.dig, .slice aol m.list.length capl] 36 (0, 0)) from by rw [hw7, hmb]; exact World.alloc_heap_new w6 _)
                  have HB7 := Lib.hid (show Below w6.heap.size w6 w7 from by rw [hw7]; exact (Below.refl _ w6).alloc (Nat.le_refl _) _)
                  have HMB := Lib.hid (show w6.heap.size ≤ mb ∧ mb < w7.heap.size from ⟨Nat.le_of_eq hmb.symm, (Array.getElem?_eq_some_iff.1 HR7.out).1⟩)
                  rw [← hmb, ← hw7]
                  clear hmb hw7
                  have m3 := cell_of_row w7 mb 3 _ _ _ HR7.out
                  have mf := fun o => frozen_of_row w7 mb o _ _ HR7.out
                  simp at m3
                  have HB27 := Lib.hid (HB6.out.trans (HB7.out.mono HB6.out.size))
                  have HY7 := Lib.hid ((HY2.out.grow HB27.out).set (b := mb) (.inr ⟨Nat.le_trans HB6.out.size HMB.out.1, HMB.out.2⟩) 3 (.int .i64 0))
                  go_upto_region 41 with (fail)
                  obtain ⟨w8, hw8⟩ : ∃ w8, w8 = w7.setCell ⟨mb, 3, none⟩ (.int .i64 0) := ⟨_, rfl⟩
                  have HR8 := Lib.hid (show w8.heap[mb]? = some (.cells #[.int .i64 m.kind, .int .i64 m.frm, .int .i64 m.to, .int .i64 0, .int .i64 m.round, .int .i64 m.valid, .string m.dig, .slice aol m.list.length capl] 36 (0, 0)) from by rw [hw8]; exact heap_setC HR7.out _)
                  have HB8 := Lib.hid (show Below w2.heap.size w2 w8 from by rw [hw8]; exact HB27.out.setCell (Nat.le_trans HB6.out.size HMB.out.1) _)
                  have HL8 := Lib.hid (show LRow (fun k => k < w8.heap.size) w8 (.slice aol m.list.length capl) m.list from by
                    have hz : w8.heap.size = w7.heap.size := by rw [hw8]; simp [World.setCell]
                    refine (HL6.out.kept (w' := w8) (fun g cur fr hr _ => ?_)).mono (fun k hk => ?_)
                    · rw [hw8, Below.heap_setCell _ ⟨mb, 3, none⟩ _ g (fun e => by
                        have e : g = mb := e
                        have := hr.2; have := HMB.out.1; omega)]
                      exact HB7.out.block g hr.2
                    · have := hk.2; have := HB7.out.size; show k < w8.heap.size; omega)
                  have HY8 := Lib.hid (show OnY w1.heap.size w1 x nb (N : Int) s cs false (fun k => (A k ∨ k = ob) ∨ New w2 w7 k) w8 from by rw [hw8]; exact HY7.out.1)
                  rw [← hw8]
                  clear hw8 m3 mf
                  have m0 := cell_of_row w8 mb 0 _ _ _ HR8.out
                  have m1 := cell_of_row w8 mb 1 _ _ _ HR8.out
                  have m2 := cell_of_row w8 mb 2 _ _ _ HR8.out
                  have m3 := cell_of_row w8 mb 3 _ _ _ HR8.out
                  have m4 := cell_of_row w8 mb 4 _ _ _ HR8.out
                  have m5 := cell_of_row w8 mb 5 _ _ _ HR8.out
                  have m6 := cell_of_row w8 mb 6 _ _ _ HR8.out
                  have m7 := cell_of_row w8 mb 7 _ _ _ HR8.out
                  simp at m0 m1 m2 m3 m4 m5 m6 m7
                  have HGA := Lib.hid (show (m.kind = 3 → GA m.dig m.list) ∧ m.list.length ≤ 60 from by
                    refine ⟨fun hk => ?_, ?_⟩
                    · obtain ⟨⟨i, hi, a1, a2⟩, _⟩ := HLAW.out.prop hk
                      rw [a1, a2]; exact GA.fam (Nat.lt_of_lt_of_le hi (by decide))
                    · by_cases hk : m.kind = 3
                      · obtain ⟨⟨i, hi, a1, a2⟩, _⟩ := HLAW.out.prop hk
                        rw [a1]; exact fam_len
                      · rw [(HLAW.out.vote hk).2.1]; exact Nat.zero_le _)
                  have RV := Lib.hid (z_recv HY8.out (m := { m with height := 0 }) (v := .agg (encM { m with height := 0 } (.slice aol m.list.length capl))) ⟨_, rfl, HL8.out⟩ (fun k hk => hk) HGA.out.2 (fun _ => HGA.out.1))
                  unfold encM iv pv at RV
                  go_wp2_with (go_at_call 20; (with_reducible refine RV.out.mono ?_); rintro e w9 ⟨rfl, hy9, hk9⟩; have HY9 := Lib.hid hy9; have HK9 := Lib.hid hk9; clear hy9 hk9)
                  go_meet
                  obtain ⟨r1, r2, r3, r4, r5, r6, r7, r8⟩ := receive_kept s { m with height := 0 } (validB { m with height := 0 })
                  refine ⟨_, cs, _, fun k hk => .inl (.inl hk), HY9.out, OnceI.receive HO.out rfl (fun a b => (okM_of_valid a b).1) (fun a b => (okM_of_valid a b).2) (fun _ b => HGA.out.1 b), ?_, ?_, by rw [r6]; exact Int.le_refl _, fun v hv => by rw [r4]; exact hv, ?_⟩
                  · rw [receive_ticks]; have := HT.out; omega
                  · have := HC.out; omega
                  · exact ((HY2.out.keepB HB8.out).trans HK9.out (fun k hk => .inl hk)) |> fun h => ⟨h.1, fun k hk => h.2 k (.inl hk)⟩
              · have y4 : ((q : Int) == 4) = false := by simp; omega
                as_aux_lemma =>
                  have y5 : ((q : Int) == 5) = false := by simp; omega
                  have y6 : ((q : Int) == 6) = false := by simp; omega
                  have y7 : ((q : Int) == 7) = false := by simp; omega
                  obtain ⟨pa, hpa4, hpa⟩ := pickZ_nat o.a 4 (by omega)
                  obtain ⟨pb, hpb5, hpb⟩ := pickZ_nat o.b 5 (by omega)
                  have PA := Lib.hid (show ∀ W, Calls Tryz.prog 14 #[.int .i64 o.a, .int .i64 4] W fun e w' => e = .returned (.int .i64 (pa : Int)) ∧ w' = W from fun W => (pick_any o.a 4 W HOK.out.a.1 HOK.out.a.2 (by omega) (by omega)).mono fun e w' h => ⟨by rw [h.1]; exact congrArg _ (congrArg _ hpa), h.2.symm⟩)
                  have PB := Lib.hid (show ∀ W, Calls Tryz.prog 14 #[.int .i64 o.b, .int .i64 5] W fun e w' => e = .returned (.int .i64 (pb : Int)) ∧ w' = W from fun W => (pick_any o.b 5 W HOK.out.b.1 HOK.out.b.2 (by omega) (by omega)).mono fun e w' h => ⟨by rw [h.1]; exact congrArg _ (congrArg _ hpb), h.2.symm⟩)
                  obtain ⟨P, hP⟩ : ∃ P, P = pa * pb := ⟨_, rfl⟩
                  have P12 : P ≤ 12 := by
                    rw [hP]
                    exact Nat.le_trans (Nat.mul_le_mul (show pa ≤ 3 by omega) (show pb ≤ 4 by omega)) (by decide)
                  have mP : (pa : Int) * (pb : Int) = (P : Int) := by rw [hP]; exact (Int.natCast_mul pa pb).symm
                  have ewP : IntKind.wrap .i64 (P : Int) = (P : Int) := by rw [IntKind.wrap_i64]; omega
                  clear h0 h3 h47 hpa hpb hP hpa4 hpb5
                  go_wp2_with fail
                  go_loopw [21, 19] (fun kv dv wk => ∃ (k : Nat) (s1 : StB) (cs1 : List CastB) (A1 : Nat → Prop) (b1 : Bool), k ≤ P + 1 ∧ kv = .int .i64 (k : Int) ∧ dv = .bool b1 ∧ (∀ a, A a ∨ a = ob → A1 a) ∧ OnY w1.heap.size w1 x nb (N : Int) s1 cs1 false A1 wk ∧ OnceI szB GA (me : Int) (N : Int) s1 cs1 ∧ s1.ticks ≤ 13 * j + k ∧ cs1.length ≤ 52000 * j + 4000 * k ∧ s.round ≤ s1.round ∧ (∀ v, getA 0 s.decs = some v → getA 0 s1.decs = some v) ∧ KeepA (fun a => A a ∨ a = ob) w2 wk ∧ (b1 = false → s1.isDec 0 = false)) (fun kv _ _ => P + 1 - (intOf kv).toNat)
                  case atStart => exact ⟨0, s, cs, fun k => A k ∨ k = ob, dn, Nat.zero_le _, rfl, rfl, fun _ h => h, HY2.out, HO.out, by have := HT.out; omega, by have := HC.out; omega, Int.le_refl _, fun v hv => hv, KeepA.refl _ _, fun h => by rw [HDN.out, h]⟩
                  case round =>
                    obtain ⟨k, s1, cs1, A1, b1, hk, rfl, rfl, hA1, hy1, ho1, ht1, hc1, hr1, hd1, hk1, hb1⟩ := hrel
                    have HY1 := Lib.hid hy1
                    have HO1 := Lib.hid ho1
                    have HN1 := Lib.hid (And.intro ht1 (And.intro hc1 (And.intro hr1 hd1)))
                    have HK1 := Lib.hid hk1
                    have HA1 := Lib.hid hA1
                    have HB1' := Lib.hid hb1
                    have k0 : (0 : Int) ≤ (k : Int) := by omega
                    clear hA1 hy1 ho1 ht1 hc1 hr1 hd1 hk1 hb1
                    by_cases hkP : k ≤ P
                    · have k1 : (k : Int) ≤ (P : Int) := by omega
                      have ROW1 := Lib.hid (HK1.out.2 ob (.inr rfl))
                      go_upto_region 19 with (fail)
                      go_cut [87] (fun t wc => t = .bool true ∧ Below wr.heap.size wr wc)
                      case first =>
                        go_region_held3 (fun W => W.cell? ⟨ob, 1, none⟩ = some (.int .i64 o.a) ∧ W.cell? ⟨ob, 2, none⟩ = some (.int .i64 o.b))
                          (first | (exact ⟨(RR.out _ ROW1.out).1, (RR.out _ ROW1.out).2.1⟩) | assumption)
                          (first
                            | (go_at_call 14; (with_reducible refine (PA.out _).mono ?_); rintro e wq ⟨rfl, rfl⟩)
                            | (go_at_call 14; (with_reducible refine (PB.out _).mono ?_); rintro e wq ⟨rfl, rfl⟩))
                        all_goals (
                          go_wp2_with fail
                          go_meet
                          exact ⟨rfl, (Below.refl _ _).drew⟩)
                      case rest =>
                      obtain ⟨rfl, hbk⟩ := hcut
                      obtain ⟨wk, rfl⟩ : ∃ wk : World, wk = wc := ⟨_, rfl⟩
                      have HYK := Lib.hid (HY1.out.later hbk)
                      have HKK := Lib.hid (HK1.out.trans (HY1.out.keepB hbk) HA1.out)
                      have TK := Lib.hid (z_tick HYK.out (by have := HN1.out.1; omega))
                      unfold pv at TK
                      clear hbk ROW1
                      go_upto_region 22 with (go_at_call 18; (with_reducible refine TK.out.mono ?_); rintro e wt ⟨v7, A2, rfl, hA2, hy2, hk2, ho2⟩; obtain ⟨ao7, cap7, rfl⟩ := out_slice ho2; have HA2 := Lib.hid hA2; have HYT := Lib.hid hy2; have HKT := Lib.hid hk2; have HOT := Lib.hid ho2; clear hA2 hy2 hk2 ho2)
                      have DEC3 := Lib.hid (z_dec HYT.out)
                      unfold pv at DEC3
                      obtain ⟨d3, hd3⟩ : ∃ d3, s1.tick.1.isDec 0 = d3 := ⟨_, rfl⟩
                      rw [hd3] at DEC3
                      have HD3 := Lib.hid hd3
                      obtain ⟨nm, hnm⟩ : ∃ nm, nm = s1.tick.2.length := ⟨_, rfl⟩
                      have HNM := Lib.hid hnm
                      have nm0 : (0 : Int) ≤ (nm : Int) := by omega
                      have nm9 : (nm : Int) ≤ 4000 := by have := tick_lenO HYK.out.fit; omega
                      rw [← hnm] at HOT ⊢
                      clear hd3 hnm
                      go_upto_region 23 with (go_at_call 21; (with_reducible refine DEC3.out.mono ?_); rintro e w10 ⟨⟨u10, rfl, hu10⟩, hb10⟩; have HB10 := Lib.hid hb10; clear hu10 hb10)
                      obtain ⟨ms, hms⟩ : ∃ ms, ms = s1.tick.2 := ⟨_, rfl⟩
                      have HMS := Lib.hid hms
                      rw [← hms] at HOT HNM
                      clear hms
                      have HY10 := Lib.hid (HYT.out.later HB10.out)
                      have HO10 := Lib.hid (HOT.out.later HB10.out)
                      obtain ⟨nt, hnt⟩ : ∃ nt, (!b1 && !d3) = nt := ⟨_, rfl⟩
                      have HNT := Lib.hid hnt
                      clear hnt
                      go_wp2_with fail
                      go_loopw [25] (fun jv wj => ∃ i : Nat, i ≤ nm ∧ jv = .int .i64 (i : Int) ∧ OnY w1.heap.size w1 x nb (N : Int) s1.tick.1 (noteN nt cs1 (ms.take i)).2 (noteN nt cs1 (ms.take i)).1 A2 wj ∧ KeepA A2 w10 wj) (fun jv _ => nm - (intOf jv).toNat)
                      case atStart => exact ⟨0, Nat.zero_le _, rfl, by rw [List.take_zero, noteN_nil]; exact HY10.out, KeepA.refl _ _⟩
                      case round =>
                        obtain ⟨i, hi, rfl, hyi, hki⟩ := hrel
                        have HYI := Lib.hid hyi
                        have HKI := Lib.hid hki
                        have i0 : (0 : Int) ≤ (i : Int) := by omega
                        clear hyi hki
                        by_cases hin : i < nm
                        · have i1 : (i : Int) < (nm : Int) := by omega
                          as_aux_lemma =>
                            obtain ⟨m, hm⟩ : ∃ m, ms[i]? = some m := ⟨ms[i]'(by rw [← HNM.out]; exact hin), List.getElem?_eq_getElem _⟩
                            have OM : OutM szB GA (me : Int) (N : Int) m := by
                              have q := Fit.out GA.gf HYK.out.fit m (by rw [← HMS.out]; exact List.mem_of_getElem? hm)
                              rw [HO1.out.id, HO1.out.nn] at q
                              exact q
                            obtain ⟨hv, hl60, _⟩ := out_valid GA.gf OM me0 meN n7
                            have mf := OM.frm
                            have tz0 := OM.t0
                            have tzN := OM.t1
                            obtain ⟨tz, htz⟩ : ∃ tz, tz = m.to := ⟨_, rfl⟩
                            rw [← htz] at tz0 tzN
                            have hor := HO10.out.kept (W' := wr) HKI.out.1 (fun k _ _ hz => HKI.out.2 k (Classical.not_not.1 hz))
                            obtain ⟨b, off, lo, lc, rfl, hce, hlr⟩ := hor.nth hm
                            have henc : encM m (.slice lo m.list.length lc) = #[.int .i64 m.kind, .int .i64 (me : Int), .int .i64 tz, .int .i64 m.height, .int .i64 m.round, .int .i64 m.valid, .string m.dig, .slice lo m.list.length lc] := by unfold encM iv; rw [mf, htz]
                            rw [henc] at hce
                            have e0 := hce 0 _ rfl
                            have e1 := hce 1 _ rfl
                            have e2 := hce 2 _ rfl
                            have e3 := hce 3 _ rfl
                            have e4 := hce 4 _ rfl
                            have e5 := hce 5 _ rfl
                            have e6 := hce 6 _ rfl
                            have e7 := hce 7 _ rfl
                            simp only [Nat.add_zero] at e0
                            have KEEP := Lib.hid (show ∀ W, Below wr.heap.size wr W → W.cell? ⟨b, off + i * 8, none⟩ = some (.int .i64 m.kind) ∧ W.cell? ⟨b, off + i * 8 + 1, none⟩ = some (.int .i64 (me : Int)) ∧ W.cell? ⟨b, off + i * 8 + 2, none⟩ = some (.int .i64 tz) ∧ W.cell? ⟨b, off + i * 8 + 3, none⟩ = some (.int .i64 m.height) ∧ W.cell? ⟨b, off + i * 8 + 4, none⟩ = some (.int .i64 m.round) ∧ W.cell? ⟨b, off + i * 8 + 5, none⟩ = some (.int .i64 m.valid) ∧ W.cell? ⟨b, off + i * 8 + 6, none⟩ = some (.string m.dig) ∧ W.cell? ⟨b, off + i * 8 + 7, none⟩ = some (.slice lo m.list.length lc) from fun W hW => by
                              have up : ∀ {a : Addr} {u : Value}, wr.cell? a = some u → W.cell? a = some u := fun {a u} h => by
                                rw [World.cell?_of_block (w := wr) (hW.block a.block (World.block_lt_of_cell? _ _ h))]; exact h
                              exact ⟨up e0, up e1, up e2, up e3, up e4, up e5, up e6, up e7⟩)
                            have HVA := Lib.hid (show Calls Tryz.prog 19 #[.agg #[.int .i64 m.kind, .int .i64 (me : Int), .int .i64 tz, .int .i64 m.height, .int .i64 m.round, .int .i64 m.valid, .string m.dig, .slice lo m.list.length lc]] wr fun e w' => e = .returned (.bool true) ∧ Below wr.heap.size wr w' from by
                              rw [← henc]
                              refine (valid_any (R := NewZ (fun k => ¬ A2 k) wk wr) (m := m) (v := .agg (encM m (.slice lo m.list.length lc))) ⟨_, rfl, hlr⟩ (fun c hc => hc.1.2) hl60 (fun _ => HYI.out.gl)).mono ?_
                              rintro e w' ⟨q1, q2⟩
                              exact ⟨by rw [q1, hv], q2⟩)
                            have HNO := Lib.hid (noteN_step nt cs1 ms i m hm)
                            have HNL := Lib.hid (show (noteN nt cs1 (ms.take i)).2.length ≤ 1000000000 from by
                              have q1 := noteN_len nt cs1 ms i
                              have q2 := HN1.out.2.1
                              omega)
                            have HNT2 := Lib.hid (show ∀ W, Below wr.heap.size wr W → Calls Tryz.prog 28 #[.pointer (some ⟨nb, 0, none⟩), .agg #[.int .i64 m.kind, .int .i64 (me : Int), .int .i64 tz, .int .i64 m.height, .int .i64 m.round, .int .i64 m.valid, .string m.dig, .slice lo m.list.length lc]] W fun e w' => e = .returned (.tuple #[]) ∧ OnY w1.heap.size w1 x nb (N : Int) s1.tick.1 (noteC false (noteN nt cs1 (ms.take i)).1 (noteN nt cs1 (ms.take i)).2 m).2 (noteC false (noteN nt cs1 (ms.take i)).1 (noteN nt cs1 (ms.take i)).2 m).1 A2 w' ∧ KeepA A2 wr w' from fun W hW => by
                              rw [← henc]
                              refine (z_note (HYI.out.later hW) m lo lc HNL.out).mono ?_
                              rintro e w' ⟨q1, q2, q3⟩
                              exact ⟨q1, q2, (HYI.out.keepB hW).trans q3 (fun _ h => h)⟩)
                            obtain ⟨g6, hg6⟩ : ∃ g, (m.kind != 6) = g := ⟨_, rfl⟩
                            rw [hg6] at HNO
                            obtain ⟨mk, hmk⟩ : ∃ mk, mk = m.kind := ⟨_, rfl⟩
                            rw [← hmk] at hg6 HNT2 HVA KEEP e0
                            have x1 : ((me : Int) != (me : Int)) = false := bne_self_eq_false _
                            have x2 : ¬ tz < 0 := by omega
                            have x3 : ¬ (N : Int) ≤ tz := by omega
                            clear OM hv hl60 mf htz hor hce hlr henc hm hmk tz0 tzN
                            go_upto_region 26 with (fail)
                            go_cut [135] (fun t wc => t = .bool false ∧ Below wr.heap.size wr wc)
                            case first =>
                              go_wp2_with (go_at_call 19; (with_reducible refine HVA.out.mono ?_); rintro e w11 ⟨rfl, hb⟩; have E1 := Lib.hid hb; obtain ⟨f0, f1, f2, _⟩ := KEEP.out _ hb; clear hb)
                              go_meet
                              exact ⟨by simp [x2, x3], E1.out⟩
                            case rest =>
                            obtain ⟨rfl, hb11⟩ := hcut
                            obtain ⟨w11, rfl⟩ : ∃ w11 : World, w11 = wc := ⟨_, rfl⟩
                            obtain ⟨f0, f1, f2, f3, f4, f5, f6, f7⟩ := KEEP.out _ hb11
                            have HB11 := Lib.hid hb11
                            have NT3 := Lib.hid (HNT2.out _ hb11)
                            clear hb11 e0 e1 e2 e3 e4 e5 e6 e7
                            go_upto_if 135 with (fail)
                            go_upto_region 28 with (fail)
                            go_cut [149] (fun t wc => t = .bool (nt && g6) ∧ wc = w11)
                            case first =>
                              rcases b1 with _ | _
                              · rcases d3 with _ | _
                                · have hnt : nt = true := HNT.out.symm
                                  have HE := Lib.hid (show (nt && g6) = g6 from by rw [hnt]; rfl)
                                  clear hnt
                                  go_wp2_with fail
                                  go_meet
                                  exact ⟨by rw [HE.out], rfl⟩
                                · have hnt : nt = false := HNT.out.symm
                                  have HE := Lib.hid (show (nt && g6) = false from by rw [hnt]; rfl)
                                  clear hnt
                                  go_wp2_with fail
                                  go_meet
                                  exact ⟨by rw [HE.out], rfl⟩
                              · have hnt : nt = false := HNT.out.symm
                                have HE := Lib.hid (show (nt && g6) = false from by rw [hnt]; rfl)
                                clear hnt
                                go_wp2_with fail
                                go_meet
                                exact ⟨by rw [HE.out], rfl⟩
                            case rest =>
                            obtain ⟨rfl, hw⟩ := hcut
                            rw [hw]
                            clear hw
                            obtain ⟨ng, hng⟩ : ∃ ng, (nt && g6) = ng := ⟨_, rfl⟩
                            rw [hng] at HNO ⊢
                            clear hng hg6
                            rcases ng with _ | _
                            · have HEN := Lib.hid (HNO.out.2 rfl)
                              have HYE := Lib.hid (HYI.out.later HB11.out)
                              have HKE := Lib.hid (HKI.out.trans (HYI.out.keepB HB11.out) (fun _ h => h))
                              rw [← HEN.out] at HYE
                              go_wp2_with fail
                              go_roundw
                              case rel => exact ⟨i + 1, by omega, by go_num, HYE.out, HKE.out⟩
                              case measure => simp [intOf]; omega
                            · have HEN := Lib.hid (HNO.out.1 rfl)
                              rw [← HEN.out] at NT3
                              go_wp2_with (go_at_call 28; (with_reducible refine NT3.out.mono ?_); rintro e w12 ⟨rfl, hy12, hk12⟩; have HY12 := Lib.hid hy12; have HK12 := Lib.hid hk12; clear hy12 hk12)
                              go_roundw
                              case rel => exact ⟨i + 1, by omega, by go_num, HY12.out, HKI.out.trans HK12.out (fun _ h => h)⟩
                              case measure => simp [intOf]; omega
                        · have i1 : ¬ (i : Int) < (nm : Int) := by omega
                          as_aux_lemma =>
                            have e9 : ms.take i = ms := List.take_of_length_le (by rw [← HNM.out]; omega)
                            have HNO := Lib.hid (show (noteN nt cs1 ms).1 = false ∧ OnceI szB GA (me : Int) (N : Int) s1.tick.1 (noteN nt cs1 ms).2 ∧ (noteN nt cs1 ms).2.length ≤ cs1.length + nm from by
                              by_cases h : b1 = false ∧ d3 = false
                              · have hnt : nt = true := by rw [← HNT.out, h.1, h.2]; rfl
                                have q := HO1.out.tick.2 (HB1'.out h.1) (by rw [HD3.out]; exact h.2)
                                rw [← HMS.out] at q
                                have e : noteN nt cs1 ms = noteL false (false, cs1) ms := by rw [hnt]; rfl
                                rw [e]
                                exact ⟨q.1, q.2, by have := noteL_len false ms (false, cs1); rw [HNM.out]; exact this⟩
                              · have hnt : nt = false := by rw [← HNT.out]; exact (by decide : ∀ b d : Bool, ¬ (b = false ∧ d = false) → (!b && !d) = false) b1 d3 h
                                have e : noteN nt cs1 ms = (false, cs1) := by rw [hnt]; rfl
                                rw [e]
                                exact ⟨rfl, HO1.out.tick.1, by simp⟩)
                            have HYE := Lib.hid (show OnY w1.heap.size w1 x nb (N : Int) s1.tick.1 (noteN nt cs1 ms).2 false A2 wr from by
                              have q := HYI.out
                              rw [e9, HNO.out.1] at q
                              exact q)
                            have HTK := Lib.hid (tick_keep HO1.out.inv)
                            have HKE := Lib.hid ((HKK.out.trans HKT.out (fun a ha => HA1.out a ha)).trans (((HYT.out.keepB HB10.out).trans HKI.out (fun _ h => h))) (fun a ha => HA2.out a (HA1.out a ha)))
                            clear e9
                            rcases b1 with _ | _ <;> (
                              go_wp2_with fail
                              go_roundw
                              case rel =>
                                obtain ⟨t1, t2, t3, t4⟩ := HN1.out
                                have u1 := HTK.out.ticks
                                have u2 := HTK.out.round
                                have u3 := HNO.out.2.2
                                refine ⟨k + 1, s1.tick.1, (noteN nt cs1 ms).2, A2, _, by omega, by go_num, rfl, fun a ha => HA2.out a (HA1.out a ha), HYE.out, HNO.out.2.1, by omega, by omega, by omega, fun v hv => HTK.out.decs 0 v (t4 v hv), HKE.out, fun h => ?_⟩
                                rw [HD3.out]; first | exact h | (simp at h; done) | simpa using h
                              case measure => simp [intOf]; omega)
                    · have k1 : ¬ (k : Int) ≤ (P : Int) := by omega
                      as_aux_lemma =>
                        have ROW1 := Lib.hid (HK1.out.2 ob (.inr rfl))
                        go_upto_region 19 with (fail)
                        go_region_held3 (fun W => W.cell? ⟨ob, 1, none⟩ = some (.int .i64 o.a) ∧ W.cell? ⟨ob, 2, none⟩ = some (.int .i64 o.b))
                          (first | (exact ⟨(RR.out _ ROW1.out).1, (RR.out _ ROW1.out).2.1⟩) | assumption)
                          (first
                            | (go_at_call 14; (with_reducible refine (PA.out _).mono ?_); rintro e wq ⟨rfl, rfl⟩)
                            | (go_at_call 14; (with_reducible refine (PB.out _).mono ?_); rintro e wq ⟨rfl, rfl⟩))
                        all_goals (
                          go_wp2_with fail
                          go_meet
                          obtain ⟨t1, t2, t3, t4⟩ := HN1.out
                          exact ⟨s1, cs1, A1, fun a ha => HA1.out a (.inl ha), HY1.out.later (Below.refl _ _).drew, HO1.out, by omega, by omega, t3, t4, HK1.out.1, fun a ha => HK1.out.2 a (.inl ha)⟩)
        case rest =>
        obtain ⟨s', cs', A', hA, hy4, ho4, ht4, hc4, hr4, hd4, hk4⟩ := hcut
        as_aux_lemma =>
          obtain ⟨w4, rfl⟩ : ∃ w4 : World, w4 = wc := ⟨_, rfl⟩
          have HY4 := Lib.hid hy4
          have HO4 := Lib.hid ho4
          have HT4 := Lib.hid (And.intro ht4 hc4)
          have HD4 := Lib.hid hd4
          have HK4 := Lib.hid (HK2.out.trans hk4 (fun k hk => hk))
          have HAA := Lib.hid hA
          have r4 : ¬ s'.round < s.round := by omega
          have DEC2 := Lib.hid (z_dec HY4.out)
          unfold pv at DEC2
          obtain ⟨d2, hd2⟩ : ∃ d2, s'.isDec 0 = d2 := ⟨_, rfl⟩
          rw [hd2] at DEC2
          have HD2 := Lib.hid hd2
          clear hy4 ho4 ht4 hc4 hr4 hd4 hk4 hA hd2 HY2 HR2 HK2 PQ HB2 HY
          go_upto_region 43 with (go_at_call 21; (with_reducible refine DEC2.out.mono ?_); rintro e w5 ⟨⟨u5, rfl, hu5⟩, hb5⟩; have HB5 := Lib.hid hb5; have HU5 := Lib.hid hu5; clear hu5 hb5)
          have HY5 := Lib.hid (HY4.out.grow HB5.out)
          have n8 := HY5.out.broken
          have HGT2 := Lib.hid (show Calls Tryz.prog 24 #[.pointer (some ⟨x, 0, none⟩)] w5 fun e w' => e = .returned (.int .i64 0) ∧ w' = w5 from by
            have q := z_height HY5.out
            rw [HO4.out.height] at q
            exact q)
          have RND2 := Lib.hid (show Calls Tryz.prog 23 #[.pointer (some ⟨x, 0, none⟩)] w5 fun e w' => e = .returned (.int .i64 s'.round) ∧ w' = w5 from z_round HY5.out)
          go_cut [226] (fun t wc => t = .bool false ∧ Below w5.heap.size w5 wc)
          case first =>
            rcases kb with _ | _
            · go_wp2_with (first
                | (go_at_call 24; (with_reducible refine HGT2.out.mono ?_); rintro e wq ⟨rfl, hwq⟩; rw [hwq]; clear hwq wq)
                | (go_at_call 23; (with_reducible refine RND2.out.mono ?_); rintro e wq ⟨rfl, hwq⟩; rw [hwq]; clear hwq wq))
              go_meet
              exact ⟨by rw [decide_eq_false (Int.not_lt.2 r4)], Below.refl _ _⟩
            · obtain ⟨v, hv, hlv⟩ := HD.out rfl
              have hv2 := HD4.out v hv
              have e2 : d2 = true := by
                rw [← HD2.out]
                unfold NS.isDec
                rw [hv2]; rfl
              subst e2
              have hr5 := HU5.out v hv2
              have hr6 := hlv.kept (w' := w5) (fun g cur fr hr _ => (HB5.out.block g (HY4.out.lt (HAA.out g hr))).trans (HK4.out.2 g hr))
              have hl6 : v.list.length ≤ 60 := GA.law.len _ _ (HY4.out.fit.ok.gi.dg (0, v) (getA_mem hv2))
              obtain ⟨ao5, cap5, rfl, _⟩ := id hr5
              obtain ⟨ao6, cap6, rfl, _⟩ := id hr6
              have SM := Lib.hid (same_rows ao5 ao6 cap5 cap6 v.list w5 hl6 hr5 hr6)
              clear hv hlv hv2 hr5 hr6 hl6
              go_wp2_with (first
                | (go_at_call 24; (with_reducible refine HGT2.out.mono ?_); rintro e wq ⟨rfl, hwq⟩; rw [hwq]; clear hwq wq)
                | (go_at_call 23; (with_reducible refine RND2.out.mono ?_); rintro e wq ⟨rfl, hwq⟩; rw [hwq]; clear hwq wq)
                | (go_at_call 22; (with_reducible refine SM.out.mono ?_); rintro e w6 ⟨rfl, hb6⟩; have HB6 := Lib.hid hb6; clear hb6))
              go_meet
              exact ⟨by rw [decide_eq_false (Int.not_lt.2 r4)], HB6.out⟩
          case rest =>
          obtain ⟨rfl, hb6⟩ := hcut
          have HB6 := Lib.hid hb6
          clear hb6 n8
          go_wp2_with fail
          go_roundw
          case rel =>
            refine ⟨j + 1, s', cs', _, d2, by omega, by omega, by go_num, rfl, HY5.out.later HB6.out, HO4.out, by have := HT4.out.1; omega, HT4.out.2, fun h => ?_⟩
            have e := HD2.out
            rw [h] at e
            unfold NS.isDec at e
            rcases hg : getA 0 s'.decs with _ | v
            · rw [hg] at e; cases e
            · exact ⟨v, rfl, ((HU5.out v hg).kept (fun g cur fr hr _ => HB6.out.block g hr.2)).mono (fun k hk => .inr hk)⟩
          case measure => simp [intOf]; omega
      · have j2 : ¬ (j : Int) < 80 := by omega
        go_wp2_with fail
        go_ret
        exact ⟨rfl, HB1.out.trans (HY.out.below.mono HB1.out.size)⟩
    · have j1 : ¬ (j : Int) < (len : Int) := by omega
      go_wp2_with fail
      go_ret
      exact ⟨rfl, HB1.out.trans (HY.out.below.mono HB1.out.size)⟩
end

end Go.Proofs.YtifcdjmcoibblaaGreatDoor
