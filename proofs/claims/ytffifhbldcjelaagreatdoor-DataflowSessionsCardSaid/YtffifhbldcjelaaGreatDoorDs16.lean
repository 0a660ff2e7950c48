/-
  Flows: Put. Flows: Put, walked. A flow, for the laws: what each call does to it.
-/
import Derived.Test.YtffifhbldcjelaaGreatDoorDs15
import Derived.BigRegion
import Derived.Test.YtffifhbldcjelaaGreatDoorDs14

/-! Flows: Put. -/
namespace Go.Proofs.YtffifhbldcjelaaGreatDoor
set_option linter.unusedVariables false
set_option linter.unusedSimpArgs false
open Go.RowKit

theorem updF_ins {x : En} {g : En → En} (hg : (g x).nm = x.nm) : ∀ {F : List En}, (∀ e ∈ F, e.nm ≠ x.nm) → updF (insF x F) x.nm g = insF (g x) F
  | [], _ => by simp [insF, updF]
  | a :: r, h => by
    have h1 := h a (by simp)
    unfold insF
    rw [hg]
    by_cases hlt : ltB x.nm a.nm
    · rw [if_pos hlt, if_pos hlt]
      unfold updF
      simp only [List.map_cons, if_true]
      rw [if_neg h1]
      congr 2
      conv => rhs; rw [← List.map_id r]
      exact List.map_congr_left fun y hy => by rw [if_neg (h y (by simp [hy]))]; rfl
    · rw [if_neg hlt, if_neg hlt]
      have ih := updF_ins hg (F := r) (fun e he => h e (by simp [he]))
      unfold updF at ih ⊢
      simp only [List.map_cons]
      rw [if_neg h1, ih]

theorem updF_upd (F : List En) (n : ByteArray) (g h : En → En) (hg : ∀ e, e.nm = n → (g e).nm = n) : updF (updF F n g) n h = updF F n (fun e => h (g e)) := by
  unfold updF
  rw [List.map_map]
  refine List.map_congr_left fun e he => ?_
  show (if (if e.nm = n then g e else e).nm = n then h (if e.nm = n then g e else e) else (if e.nm = n then g e else e)) = if e.nm = n then h (g e) else e
  by_cases hq : e.nm = n
  · rw [if_pos hq, if_pos (hg e hq), if_pos hq]
  · rw [if_neg hq, if_neg hq, if_neg hq]

theorem updF_one {F : List En} (hs : SortedF F) {e : En} (he : e ∈ F) (g : En → En) : updF F e.nm (fun _ => g e) = updF F e.nm g := by
  unfold updF
  refine List.map_congr_left fun x hx => ?_
  by_cases hq : x.nm = e.nm
  · rw [if_pos hq, if_pos hq, hs.inj x hx e he hq]
  · rw [if_neg hq, if_neg hq]

theorem atF_upd {F : List En} (hs : SortedF F) {e : En} {n : ByteArray} (he : atF F n = some e) (g : En → En) (hg : ∀ e, (g e).nm = e.nm) : atF (updF F n g) n = some (g e) := by
  obtain ⟨h1, h2⟩ := atF_some he
  have hs2 : SortedF (updF F n g) := by
    unfold SortedF updF
    refine List.pairwise_map.2 (hs.imp (fun {a b} hlt => ?_))
    have key : ∀ x : En, (if x.nm = n then g x else x).nm = x.nm := fun x => by split; exact hg x; rfl
    rw [key, key]; exact hlt
  have := atF_mem hs2 (e := g e) (List.mem_map.2 ⟨e, h1, by rw [if_pos h2]⟩)
  rw [hg, h2] at this; exact this

theorem chgF_same {F : List En} {n v : ByteArray} {e : En} (he : atF F n = some e) (hv : e.val = v) : chgF F n v = F := by unfold chgF; rw [he]; simp [hv]

section
variable {B : Nat} {W : World} {f M : Nat} {bl rb : ByteArray → Nat} {sl : ByteArray → Value} {F : List En}

theorem RowP.later {W W' : World} {v : Value} {ps : List Nat} (h : RowP W v ps) (hb : Below W.heap.size W W') : RowP W' v ps := h.kept (fun g _ _ hg => hb.block g (lt_of_blk hg))

/-- behind resolve, at a known node -/
theorem put_known (h : Rep B W f M bl rb sl F) (hG : Good F) (hF : F.length ≤ 1000) {n v : ByteArray} {e : En} (he : atF F n = some e) (l : List ByteArray) (hin : ∀ r ∈ sortU l, ∃ d ∈ F, d.nm = r) (hl2 : (sortU l).length ≤ 1000) (ao : Option Addr) (cap : Nat) (hrow : RowP W (.slice ao (sortU l).length cap) ((sortU l).map bl)) :
    Calls Tryz.prog 23 #[.pointer (some ⟨bl n, 0, none⟩), .slice ao (sortU l).length cap] W fun e' w1 => e' = .returned (.tuple #[]) ∧ Mv B W w1 ∧
      w1.cell? ⟨bl n, 3, none⟩ = some (.bool e.stale) ∧ w1.frozen? ⟨bl n, 3, none⟩ = false ∧ Calls Tryz.prog 20 #[.pointer (some ⟨bl n, 0, none⟩), .string v] (w1.setCell ⟨bl n, 3, none⟩ (.bool false)) fun e' w2 => e' = .returned (.tuple #[]) ∧ ∃ sl', Rep B w2 f M bl rb sl' (chgF (updF F n fun e => { e with rds := sortU l, stale := false }) n v) ∧ Mv B W w2 := by
  obtain ⟨heF, hen⟩ := atF_some he
  subst hen
  refine (read_any h hG.closed heF rfl ao _ cap (sortU l) hrow hin (asc_nodup (sortU_sorted l)) (Nat.le_trans (hG.rlen e heF) hF) hl2).mono ?_
  · rintro e' w1 ⟨rfl, hr, hm⟩
    have he1 : atF (updF F e.nm fun x => { x with rds := sortU l }) e.nm = some { e with rds := sortU l } := atF_upd h.srt he (fun x => { x with rds := sortU l }) (fun _ => rfl)
    obtain ⟨h1, h2⟩ := atF_some he1
    obtain ⟨c0, c1, c2, c3, c4, c5, fz⟩ := hr.cells he1
    obtain ⟨r1, m1⟩ := hr.setOne h1 3 (.bool false) { e with rds := sortU l, stale := false } rfl rfl rfl
    have hF2 : updF (updF F e.nm fun x => { x with rds := sortU l }) e.nm (fun _ => ({ e with rds := sortU l, stale := false } : En)) = updF F e.nm fun e => { e with rds := sortU l, stale := false } := by
      rw [updF_upd F e.nm (fun x => { x with rds := sortU l }) _ (fun e he => he)]
      exact updF_one h.srt heF (fun e => { e with rds := sortU l, stale := false })
    dsimp only at r1 m1
    rw [hF2] at r1
    have he2 : atF (updF F e.nm fun e => { e with rds := sortU l, stale := false }) e.nm = some { e with rds := sortU l, stale := false } := atF_upd h.srt he (fun e => { e with rds := sortU l, stale := false }) (fun _ => rfl)
    refine ⟨rfl, hm, c3, fz 3, (change_any r1 he2 v).mono ?_⟩
    rintro e' w2 ⟨rfl, r2, m2⟩
    exact ⟨rfl, _, r2, (hm.trans m1).trans m2⟩

/-- behind resolve, at a new name -/
theorem put_new (h : Rep B W f M bl rb sl F) (hB : B ≤ W.heap.size) (hG : Good F) (hF : F.length ≤ 999) {n v : ByteArray} (he : atF F n = none) (l : List ByteArray) (hin : ∀ r ∈ sortU l, ∃ d ∈ F, d.nm = r) (hl2 : (sortU l).length ≤ 1000) (ao : Option Addr) (cap : Nat) (hrow : RowP W (.slice ao (sortU l).length cap) ((sortU l).map bl)) :
    Calls Tryz.prog 21 #[.pointer (some ⟨f, 0, none⟩), .string n, .string v] W fun e' w0 => ∃ b, e' = .returned (.pointer (some ⟨b, 0, none⟩)) ∧ w0.cell? ⟨b, 2, none⟩ = some (.bool false) ∧ w0.frozen? ⟨b, 2, none⟩ = false ∧
    Calls Tryz.prog 23 #[.pointer (some ⟨b, 0, none⟩), .slice ao (sortU l).length cap] (w0.setCell ⟨b, 2, none⟩ (.bool true)) fun e' w1 => e' = .returned (.tuple #[]) ∧
      w1.cell? ⟨b, 3, none⟩ = some (.bool false) ∧ w1.frozen? ⟨b, 3, none⟩ = false ∧ Calls Tryz.prog 20 #[.pointer (some ⟨b, 0, none⟩), .string v] (w1.setCell ⟨b, 3, none⟩ (.bool false)) fun e' w2 => e' = .returned (.tuple #[]) ∧ ∃ bl' rb' sl', Rep B w2 f M bl' rb' sl' (insF ⟨n, v, true, false, sortU l⟩ F) ∧ Mv B W w2 := by
  have hne := atF_none he
  have hnr := hG.closed.none he
  refine (add_any h hB n v he hnr).mono ?_
  rintro e' w0 ⟨rfl, hr, hm, hsz⟩
  have hx1 : (⟨n, v, false, false, []⟩ : En) ∈ insF ⟨n, v, false, false, []⟩ F := mem_insF.2 (.inl rfl)
  have hce := cells_ent (hr.ent _ hx1)
  dsimp only at hce
  rw [upB_same] at hce
  obtain ⟨r1, m1⟩ := hr.setOne hx1 2 (.bool true) ⟨n, v, true, false, []⟩ rfl rfl rfl
  dsimp only at r1 m1
  have hF2 : updF (insF ⟨n, v, false, false, []⟩ F) n (fun _ => (⟨n, v, true, false, []⟩ : En)) = insF ⟨n, v, true, false, []⟩ F := updF_ins (x := ⟨n, v, false, false, []⟩) (g := fun _ => ⟨n, v, true, false, []⟩) rfl hne
  rw [hF2, upB_same] at r1
  rw [upB_same] at m1
  have hG2 : Good (insF ⟨n, v, true, false, []⟩ F) := hG.ins _ he List.Pairwise.nil (fun r hr => by cases hr) (fun q => by cases q)
  have he2 : atF (insF ⟨n, v, true, false, []⟩ F) n = some ⟨n, v, true, false, []⟩ := atF_mem (e := ⟨n, v, true, false, []⟩) hG2.srt (mem_insF.2 (.inl rfl))
  have hmap : (sortU l).map (upB bl n (W.heap.size + 1)) = (sortU l).map bl := List.map_congr_left (fun r hr => by
    obtain ⟨d, hd, hdn⟩ := hin r hr
    exact upB_other (by rw [← hdn]; exact hne d hd))
  have hrow2 : RowP (w0.setCell ⟨W.heap.size + 1, 2, none⟩ (.bool true)) (.slice ao (sortU l).length cap) ((sortU l).map (upB bl n (W.heap.size + 1))) := by
    rw [hmap]; exact hrow.mv (hm.trans m1)
  have hk := put_known r1 hG2 (by rw [insF_length]; omega) (v := v) he2 l (fun r hr => by
    obtain ⟨d, hd, hdn⟩ := hin r hr
    exact ⟨d, mem_insF.2 (.inr hd), hdn⟩) hl2 ao cap hrow2
  rw [upB_same] at hk
  refine ⟨_, rfl, hce.c2, hce.fz 2, hk.mono ?_⟩
  rintro e' w1 ⟨rfl, hm2, q3, q4, q5⟩
  refine ⟨rfl, q3, q4, q5.mono ?_⟩
  rintro e' w2 ⟨rfl, sl', r2, m2⟩
  have hF3 : updF (insF ⟨n, v, true, false, []⟩ F) n (fun e => { e with rds := sortU l, stale := false }) = insF ⟨n, v, true, false, sortU l⟩ F := updF_ins (x := ⟨n, v, true, false, []⟩) (g := fun e => { e with rds := sortU l, stale := false }) rfl hne
  rw [hF3] at r2
  have he3 : atF (insF ⟨n, v, true, false, sortU l⟩ F) n = some ⟨n, v, true, false, sortU l⟩ := by
    have hG3 : SortedF (insF ⟨n, v, true, false, sortU l⟩ F) := insF_sorted hG.srt hne
    exact atF_mem (e := ⟨n, v, true, false, sortU l⟩) hG3 (mem_insF.2 (.inl rfl))
  rw [chgF_same he3 rfl] at r2
  exact ⟨rfl, _, _, _, r2, (hm.trans m1).trans m2⟩
end

end Go.Proofs.YtffifhbldcjelaaGreatDoor

/-! Flows: Put, walked. -/
namespace Go.Proofs.YtffifhbldcjelaaGreatDoor
set_option linter.unusedVariables false
set_option linter.unusedSimpArgs false
open Go.RowKit

theorem resOk_in {F : List En} {n : ByteArray} {l : List ByteArray} (h : resOk F n l = true) : ∀ r ∈ l, ∃ d ∈ F, d.nm = r := fun r hr => by
  obtain ⟨d, hd, _⟩ := rdOk_in (resOk_mem h hr)
  exact ⟨d, atF_some hd⟩

section
variable {B : Nat} {W : World} {f M : Nat} {bl rb : ByteArray → Nat} {sl : ByteArray → Value} {F : List En}

theorem Rep.drew (h : Rep B W f M bl rb sl F) : Rep B W.drew f M bl rb sl F := h.kept (fun k _ => rfl)
theorem Mv.same {X Y Z : World} (h : Mv B X Y) (h2 : Below Y.heap.size Y Z) : Mv B X Z := h.trans (Mv.of_below h2)

set_option maxRecDepth 100000 in
set_option maxHeartbeats 4000000 in
theorem put_any (h : Rep B W f M bl rb sl F) (hB : B ≤ W.heap.size) (hG : Good F) (hF : F.length ≤ 999) (n v : ByteArray) (ao : Option Addr) (ln cap : Nat) (l : List ByteArray) (hln : l.length = ln) (hn : ln ≤ 1000) (hrow : RowK 1 encT W ao l) :
    Calls Tryz.prog 7 #[.pointer (some ⟨f, 0, none⟩), .agg #[.string n, .slice ao ln cap], .string v] W (StP B W f M (putF F n l v) (if putOk F n l = true then 0 else 200)) := by
  have hsl : (sortU l).length ≤ 1000 := by
    have h1 : (sortU l).length ≤ l.length := by rw [← compact_sortU, List.length_map]; exact Nat.le_trans (Lib.compact_length_le _) (by rw [sortedL_len]; exact Nat.le_refl _)
    omega
  obtain ⟨W1, hW1⟩ : ∃ W1 : World, W.alloc (.cells #[.string n, .slice ao ln cap] 31) = W1 := ⟨_, rfl⟩
  have hb0 : W1.heap[W.heap.size]? = some (.cells #[.string n, .slice ao ln cap] 31 (0, 0)) := by rw [← hW1]; exact World.alloc_heap_new W _
  have hB1 : Below W.heap.size W W1 := by rw [← hW1]; exact (Below.refl _ W).alloc (Nat.le_refl _) _
  have hn0 : W1.cell? ⟨W.heap.size, 0, none⟩ = some (.string n) := cell_blk hb0 rfl
  have hn1 : W1.cell? ⟨W.heap.size, 1, none⟩ = some (.slice ao ln cap) := cell_blk hb0 rfl
  have hc := (h.later hB1).cellM
  have hr2 := (h.later hB1).drew
  have hB2 : Below W.heap.size W W1.drew := hB1.drew
  have hBs : B ≤ W1.drew.heap.size := Nat.le_trans hB hB2.size
  have H2 := Lib.hid hr2
  have M2 := Lib.hid (Mv.of_below (B := B) hB2)
  have RM := Lib.hid (room_any hr2 (by omega))
  have RS := Lib.hid (resolve_any hr2 hG (by omega) n ao ln cap l hln hn (hrow.later hB2))
  rcases he : atF F n with _ | e
  · have hl := hr2.look_miss he true
    rcases hne : n.toList.isEmpty with _ | _
    · have hn2 : (n.toList == []) = false := by rcases hh : n.toList with _ | ⟨a, r⟩ <;> simp_all
      have hok : putOk F n l = resOk F n (sortU l) := by unfold putOk; rw [hne, he, resOk_sort]; rfl
      rcases hf : resOk F n (sortU l) with _ | _
      · rw [hf] at hok
        have hok2 : ¬ putOk F n l = true := by rw [hok]; simp
        have hsf : putF F n l v = F := by unfold putF; rw [if_neg hok2]
        rw [if_neg hok2, hsf]
        have RSF := Lib.hid (RS.out.mono (R' := fun e w' => e = .returned (.tuple #[.slice none 0 0, .bool false]) ∧ Below W1.drew.heap.size W1.drew w') fun e w' ⟨hb, hor⟩ => by
          rcases hor with ⟨h1, _⟩ | ⟨_, h2⟩
          · rw [hf] at h1; cases h1
          · exact ⟨h2, hb⟩)
        clear h he hok hok2 hsf hf hG hrow hB1 hB2 hr2 hb0 hBs hB hln hne RS
        go_enter Tryz.func7, Tryz.ntmps7
        go_wp2
        go_region
        go_wp2_with (first
          | (go_at_call 19; refine RM.out.mono ?_; rintro e w' ⟨rfl, rfl⟩)
          | (go_at_call 22; refine RSF.out.mono ?_; rintro e w3 ⟨rfl, hb3⟩; have HB3 := Lib.hid hb3; clear hb3))
        go_ret
        exact ⟨_, _, _, rfl, H2.out.later HB3.out, M2.out.same HB3.out⟩
      · rw [hf] at hok
        have hsf : putF F n l v = insF ⟨n, v, true, false, sortU l⟩ F := by unfold putF; rw [if_pos hok, he]
        rw [if_pos hok, hsf]
        have RST := Lib.hid (RS.out.mono (R' := fun e w' => ∃ ao' cap', e = .returned (.tuple #[.slice ao' (sortU l).length cap', .bool true]) ∧ Below W1.drew.heap.size W1.drew w' ∧ RowP w' (.slice ao' (sortU l).length cap') ((sortU l).map bl)) fun e w' ⟨hb, hor⟩ => by
          rcases hor with ⟨_, ao', cap', h2, h3⟩ | ⟨h1, _⟩
          · exact ⟨ao', cap', h2, hb, h3⟩
          · rw [hf] at h1; cases h1)
        have NEW := Lib.hid (fun (w' : World) (hb : Below W1.drew.heap.size W1.drew w') (ao' : Option Addr) (cap' : Nat) (hrw : RowP w' (.slice ao' (sortU l).length cap') ((sortU l).map bl)) => put_new (v := v) (H2.out.later hb) (Nat.le_trans hBs hb.size) hG hF he l (resOk_in hf) hsl ao' cap' hrw)
        have FIN := Lib.hid (show ∀ w' w2 bl' rb' sl', Below W1.drew.heap.size W1.drew w' → Rep B w2 f M bl' rb' sl' (insF ⟨n, v, true, false, sortU l⟩ F) → Mv B w' w2 → StP B W f M (insF ⟨n, v, true, false, sortU l⟩ F) 0 (.returned (.int .i64 0)) w2 from fun w' w2 bl' rb' sl' hb h1 h2 => ⟨_, _, _, rfl, h1, (M2.out.same hb).trans h2⟩)
        have KC := Lib.hid (show ∀ w', Below W1.drew.heap.size W1.drew w' → w'.cell? ⟨W.heap.size, 0, none⟩ = some (.string n) from fun w' hb => by rw [hb.cell (p := ⟨W.heap.size, 0, none⟩) (lt_of_blk hb0)]; exact hn0)
        obtain ⟨q, hq⟩ : ∃ q, (sortU l).length = q := ⟨_, rfl⟩
        rw [hq] at RST NEW
        clear h he hok hsf hf hG hrow hB1 hB2 hr2 hb0 hBs hB hln hne RS hq
        go_enter Tryz.func7, Tryz.ntmps7
        go_wp2
        go_region
        go_wp2_with (first
          | (go_at_call 19; refine RM.out.mono ?_; rintro e w' ⟨rfl, rfl⟩)
          | (go_at_call 22; refine RST.out.mono ?_; rintro e w3 ⟨ao', cap', rfl, hb3, hrw⟩; have HB3 := Lib.hid hb3; have hk3 := KC.out w3 hb3; have AD := Lib.hid (NEW.out w3 hb3 ao' cap' hrw); clear hb3 hrw)
          | (go_at_call 21; refine AD.out.mono ?_; rintro e w4 ⟨b4, rfl, hc4, hf4, hrd⟩; have RD := Lib.hid hrd; clear hrd)
          | (go_at_call 23; refine RD.out.mono ?_; rintro e w5 ⟨rfl, hc5, hf5, hch⟩; have CH := Lib.hid hch; clear hch)
          | (go_at_call 20; refine CH.out.mono ?_; rintro e w6 ⟨rfl, hr6⟩; have R6 := Lib.hid hr6; clear hr6))
        go_ret
        obtain ⟨bl', rb', sl', h1, h2⟩ := R6.out
        exact FIN.out w3 w6 bl' rb' sl' HB3.out h1 h2
    · have hn2 : (n.toList == []) = true := by rcases hh : n.toList with _ | ⟨a, r⟩ <;> simp_all
      have hok : ¬ putOk F n l = true := by unfold putOk; rw [hne]; simp
      have hsf : putF F n l v = F := by unfold putF; rw [if_neg hok]
      rw [if_neg hok, hsf]
      clear h he hok hsf hG hrow hB1 hB2 hr2 hb0 hBs hB hln hne RM RS
      go_enter Tryz.func7, Tryz.ntmps7
      go_wp2
      go_region
      go_wp2
      go_ret
      exact ⟨_, _, _, rfl, H2.out, M2.out⟩
  · have hl := hr2.look_hit he true
    obtain ⟨c0, c1, c2, c3, c4, c5, fz⟩ := hr2.cells he
    rcases hne : n.toList.isEmpty with _ | _
    · have hn2 : (n.toList == []) = false := by rcases hh : n.toList with _ | ⟨a, r⟩ <;> simp_all
      rcases hnd : e.node with _ | _
      · have hok : ¬ putOk F n l = true := by unfold putOk; rw [hne, he]; simp [hnd]
        have hsf : putF F n l v = F := by unfold putF; rw [if_neg hok]
        rw [if_neg hok, hsf]
        rw [hnd] at c2
        clear h he hok hsf hG hrow hB1 hB2 hr2 hb0 hBs hB hln hne RM RS c0 c1 c3 c4 c5 fz hnd
        go_enter Tryz.func7, Tryz.ntmps7
        go_wp2
        go_region
        go_wp2
        go_ret
        exact ⟨_, _, _, rfl, H2.out, M2.out⟩
      · have hok : putOk F n l = resOk F n (sortU l) := by unfold putOk; rw [hne, he, resOk_sort]; simp [hnd]
        rw [hnd] at c2
        rcases hf : resOk F n (sortU l) with _ | _
        · rw [hf] at hok
          have hok2 : ¬ putOk F n l = true := by rw [hok]; simp
          have hsf : putF F n l v = F := by unfold putF; rw [if_neg hok2]
          rw [if_neg hok2, hsf]
          have RSF := Lib.hid (RS.out.mono (R' := fun e w' => e = .returned (.tuple #[.slice none 0 0, .bool false]) ∧ Below W1.drew.heap.size W1.drew w') fun e w' ⟨hb, hor⟩ => by
            rcases hor with ⟨h1, _⟩ | ⟨_, h2⟩
            · rw [hf] at h1; cases h1
            · exact ⟨h2, hb⟩)
          clear h he hok hok2 hsf hf hG hrow hB1 hB2 hr2 hb0 hBs hB hln hne RS c0 c1 c3 c4 c5 fz hnd RM
          go_enter Tryz.func7, Tryz.ntmps7
          go_wp2
          go_region
          go_wp2_with (go_at_call 22; refine RSF.out.mono ?_; rintro e w3 ⟨rfl, hb3⟩; have HB3 := Lib.hid hb3; clear hb3)
          go_ret
          exact ⟨_, _, _, rfl, H2.out.later HB3.out, M2.out.same HB3.out⟩
        · rw [hf] at hok
          have hsf : putF F n l v = chgF (updF F n fun e => { e with rds := sortU l, stale := false }) n v := by unfold putF; rw [if_pos hok, he]
          rw [if_pos hok, hsf]
          have RST := Lib.hid (RS.out.mono (R' := fun e w' => ∃ ao' cap', e = .returned (.tuple #[.slice ao' (sortU l).length cap', .bool true]) ∧ Below W1.drew.heap.size W1.drew w' ∧ RowP w' (.slice ao' (sortU l).length cap') ((sortU l).map bl)) fun e w' ⟨hb, hor⟩ => by
            rcases hor with ⟨_, ao', cap', h2, h3⟩ | ⟨h1, _⟩
            · exact ⟨ao', cap', h2, hb, h3⟩
            · rw [hf] at h1; cases h1)
          have NEW := Lib.hid (fun (w' : World) (hb : Below W1.drew.heap.size W1.drew w') (ao' : Option Addr) (cap' : Nat) (hrw : RowP w' (.slice ao' (sortU l).length cap') ((sortU l).map bl)) => put_known (v := v) (H2.out.later hb) hG (by omega) he l (resOk_in hf) hsl ao' cap' hrw)
          have FIN := Lib.hid (show ∀ w' w2 sl', Below W1.drew.heap.size W1.drew w' → Rep B w2 f M bl rb sl' (chgF (updF F n fun e => { e with rds := sortU l, stale := false }) n v) → Mv B w' w2 → StP B W f M (chgF (updF F n fun e => { e with rds := sortU l, stale := false }) n v) 0 (.returned (.int .i64 0)) w2 from fun w' w2 sl' hb h1 h2 => ⟨_, _, _, rfl, h1, (M2.out.same hb).trans h2⟩)
          obtain ⟨q, hq⟩ : ∃ q, (sortU l).length = q := ⟨_, rfl⟩
          rw [hq] at RST NEW
          clear h he hok hsf hf hG hrow hB1 hB2 hr2 hb0 hBs hB hln hne RS hq c0 c1 c3 c4 c5 fz hnd RM
          go_enter Tryz.func7, Tryz.ntmps7
          go_wp2
          go_region
          go_wp2_with (first
            | (go_at_call 22; refine RST.out.mono ?_; rintro e w3 ⟨ao', cap', rfl, hb3, hrw⟩; have HB3 := Lib.hid hb3; have RD := Lib.hid (NEW.out w3 hb3 ao' cap' hrw); clear hb3 hrw)
            | (go_at_call 23; refine RD.out.mono ?_; rintro e w5 ⟨rfl, hm5, hc5, hf5, hch⟩; have CH := Lib.hid hch; clear hch)
            | (go_at_call 20; refine CH.out.mono ?_; rintro e w6 ⟨rfl, hr6⟩; have R6 := Lib.hid hr6; clear hr6))
          go_ret
          obtain ⟨sl', h1, h2⟩ := R6.out
          exact FIN.out w3 w6 sl' HB3.out h1 h2
    · have hn2 : (n.toList == []) = true := by rcases hh : n.toList with _ | ⟨a, r⟩ <;> simp_all
      have hok : ¬ putOk F n l = true := by unfold putOk; rw [hne]; simp
      have hsf : putF F n l v = F := by unfold putF; rw [if_neg hok]
      rw [if_neg hok, hsf]
      clear h he hok hsf hG hrow hB1 hB2 hr2 hb0 hBs hB hln hne RM RS c0 c1 c2 c3 c4 c5 fz
      go_enter Tryz.func7, Tryz.ntmps7
      go_wp2
      go_region
      go_wp2
      go_ret
      exact ⟨_, _, _, rfl, H2.out, M2.out⟩
end

end Go.Proofs.YtffifhbldcjelaaGreatDoor

/-! A flow, for the laws: what each call does to it. -/
namespace Go.Proofs.YtffifhbldcjelaaGreatDoor
set_option linter.unusedVariables false
set_option linter.unusedSimpArgs false
open Go.RowKit

/-- block f bears the flow F, of at most k names -/
structure Flo (B : Nat) (W : World) (f : Nat) (F : List En) (k : Nat) : Prop where
  rep : ∃ M bl rb sl, Rep B W f M bl rb sl F
  good : Good F
  len : F.length ≤ k
  base : B ≤ W.heap.size

section
variable {B : Nat} {W : World} {f k : Nat} {F : List En}

theorem Flo.later {W' : World} (h : Flo B W f F k) (hb : Below W.heap.size W W') : Flo B W' f F k := by
  obtain ⟨M, bl, rb, sl, hr⟩ := h.rep
  exact ⟨⟨M, bl, rb, sl, hr.later hb⟩, h.good, h.len, Nat.le_trans h.base hb.size⟩
theorem Flo.drew (h : Flo B W f F k) : Flo B W.drew f F k := h.later ((Below.refl _ W).drew)
theorem Flo.more {k' : Nat} (h : Flo B W f F k) (hk : k ≤ k') : Flo B W f F k' := ⟨h.rep, h.good, Nat.le_trans h.len hk, h.base⟩

theorem fnew (W : World) : Calls Tryz.prog 5 #[] W fun e w' => ∃ f, e = .returned (.pointer (some ⟨f, 0, none⟩)) ∧ Flo W.heap.size w' f [] 0 ∧ Below W.heap.size W w' :=
  (new_any W).mono fun e w' ⟨f, M, h1, h2, h3, _⟩ => ⟨f, h1, ⟨⟨_, _, _, _, h2⟩, good_nil, Nat.le_refl _, h3.size⟩, h3⟩

theorem updF_len (F : List En) (n : ByteArray) (g : En → En) : (updF F n g).length = F.length := by unfold updF; simp
theorem chgF_len (F : List En) (n v : ByteArray) : (chgF F n v).length = F.length := by
  unfold chgF
  split
  · split
    · rfl
    · unfold markF; rw [List.length_map, updF_len]
  · rfl
theorem setF_len (F : List En) (n v : ByteArray) : (setF F n v).length ≤ F.length + 1 := by
  unfold setF
  split
  · split
    · rw [chgF_len]; omega
    · rw [insF_length]; exact Nat.le_refl _
  · omega
theorem putF_len (F : List En) (n : ByteArray) (l : List ByteArray) (v : ByteArray) : (putF F n l v).length ≤ F.length + 1 := by
  unfold putF
  split
  · split
    · rw [chgF_len, updF_len]; omega
    · rw [insF_length]; exact Nat.le_refl _
  · omega
theorem dropF_len (F : List En) (n : ByteArray) : (dropF F n).length ≤ F.length := by
  unfold dropF outF
  split
  · exact List.length_filter_le _ _
  · exact Nat.le_refl _

theorem Flo.set (h : Flo B W f F k) (hk : k ≤ 900) (n v : ByteArray) :
    Calls Tryz.prog 6 #[.pointer (some ⟨f, 0, none⟩), .string n, .string v] W fun e w' => e = .returned (.int .i64 (if setOk F n = true then 0 else 200)) ∧ Flo B w' f (setF F n v) (k + 1) ∧ Mv B W w' := by
  obtain ⟨M, bl, rb, sl, hr⟩ := h.rep
  refine (set_any hr h.base h.good.closed (Nat.le_trans h.len (by omega)) n v).mono ?_
  rintro e w' ⟨bl', rb', sl', rfl, h1, h2⟩
  exact ⟨rfl, ⟨⟨_, _, _, _, h1⟩, h.good.setF n v, Nat.le_trans (setF_len F n v) (by have := h.len; omega), Nat.le_trans h.base h2.size⟩, h2⟩

theorem Flo.put (h : Flo B W f F k) (hk : k ≤ 900) (n v : ByteArray) (ao : Option Addr) (ln cap : Nat) (l : List ByteArray) (hln : l.length = ln) (hn : ln ≤ 1000) (hrow : RowK 1 encT W ao l) :
    Calls Tryz.prog 7 #[.pointer (some ⟨f, 0, none⟩), .agg #[.string n, .slice ao ln cap], .string v] W fun e w' => e = .returned (.int .i64 (if putOk F n l = true then 0 else 200)) ∧ Flo B w' f (putF F n l v) (k + 1) ∧ Mv B W w' := by
  obtain ⟨M, bl, rb, sl, hr⟩ := h.rep
  refine (put_any hr h.base h.good (Nat.le_trans h.len (by omega)) n v ao ln cap l hln hn hrow).mono ?_
  rintro e w' ⟨bl', rb', sl', rfl, h1, h2⟩
  exact ⟨rfl, ⟨⟨_, _, _, _, h1⟩, h.good.putF n l v, Nat.le_trans (putF_len F n l v) (by have := h.len; omega), Nat.le_trans h.base h2.size⟩, h2⟩

theorem Flo.drop (h : Flo B W f F k) (hk : k ≤ 900) (n : ByteArray) :
    Calls Tryz.prog 18 #[.pointer (some ⟨f, 0, none⟩), .string n] W fun e w' => e = .returned (.int .i64 (if dropOk F n = true then 0 else 200)) ∧ Flo B w' f (dropF F n) k ∧ Mv B W w' := by
  obtain ⟨M, bl, rb, sl, hr⟩ := h.rep
  refine (drop_any hr h.good.closed (Nat.le_trans h.len (by omega)) (fun e he => Nat.le_trans (h.good.rlen e he) (Nat.le_trans h.len (by omega))) n).mono ?_
  rintro e w' ⟨bl', rb', sl', rfl, h1, h2⟩
  exact ⟨rfl, ⟨⟨_, _, _, _, h1⟩, h.good.dropF n, Nat.le_trans (dropF_len F n) h.len, Nat.le_trans h.base h2.size⟩, h2⟩

theorem Flo.value (h : Flo B W f F k) (n : ByteArray) :
    Calls Tryz.prog 13 #[.pointer (some ⟨f, 0, none⟩), .string n] W fun e w' => e = .returned (.tuple #[.string (valF F n).1, .bool (valF F n).2]) ∧ W = w' := by
  obtain ⟨M, bl, rb, sl, hr⟩ := h.rep
  exact value_any hr n

theorem Flo.flen (h : Flo B W f F k) (hk : k ≤ 900) : Calls Tryz.prog 16 #[.pointer (some ⟨f, 0, none⟩)] W fun e w' => e = .returned (.int .i64 F.length) ∧ W = w' := by
  obtain ⟨M, bl, rb, sl, hr⟩ := h.rep
  exact len_any hr (Nat.le_trans h.len (by omega))

theorem Flo.reads (h : Flo B W f F k) (hk : k ≤ 900) (n : ByteArray) : Calls Tryz.prog 17 #[.pointer (some ⟨f, 0, none⟩), .string n] W (SlcK 1 encT W (readsF F n)) := by
  obtain ⟨M, bl, rb, sl, hr⟩ := h.rep
  exact reads_any hr h.good.closed (fun e he => Nat.le_trans (h.good.rlen e he) (Nat.le_trans h.len (by omega))) n

theorem Flo.stale (h : Flo B W f F k) (hk : k ≤ 900) (h12 : (F.filter (·.stale)).length ≤ 12) : Calls Tryz.prog 11 #[.pointer (some ⟨f, 0, none⟩)] W (SlcT W (staleF F)) := by
  obtain ⟨M, bl, rb, sl, hr⟩ := h.rep
  exact stale_any hr h.good (Nat.le_trans h.len (by omega)) h12
end

/-! what a row of the caller's own keeps -/
theorem ownsRow_mv {B : Nat} {w w' : World} {base e size n : Nat} {v : Value} {xs : List Value} (h : w.ownsRow base e size v n xs) (he : e ≠ 58) (hm : Mv B w w') : w'.ownsRow base e size v n xs := by
  obtain ⟨h1, h2 | ⟨g, cap, cur, h3, h4, h5, h6⟩⟩ := h
  · exact ⟨h1, .inl h2⟩
  · refine ⟨h1, .inr ⟨g, cap, cur, h3, h4, (hm.block g (lt_of_blk h5) (fun c => ?_)).trans h5, h6⟩⟩
    rcases c.2 with ⟨es, c', q⟩ | ⟨cs, fr', q⟩
    · rw [h5] at q; cases q
    · rw [h5] at q; cases q; exact he rfl

theorem SlcT.at {w w' : World} {l : List ByteArray} {e : Ending} (h : SlcT w l e w') : ∃ ao cap, e = .returned (.slice ao l.length cap) ∧ w'.ownsRow w.heap.size 9 1 (.slice ao l.length cap) l.length (l.flatMap encT) ∧ RowK 1 encT w' ao l ∧ Below w.heap.size w w' := by
  obtain ⟨v, rfl, h1, h2⟩ := h
  obtain ⟨ao, cap, rfl, _, h3⟩ := rowK_of_owns encT_len (by decide) h1
  exact ⟨ao, cap, rfl, h1, h3, h2⟩

/-! calls at no flow -/
theorem nset (n v : Value) (W : World) (hn : ∃ s, n = .string s) (hv : ∃ s, v = .string s) : Calls Tryz.prog 6 #[.pointer none, n, v] W fun e w' => e = .returned (.int .i64 1) ∧ W = w' := by
  obtain ⟨s, rfl⟩ := hn
  obtain ⟨t, rfl⟩ := hv
  go_enter Tryz.func6, Tryz.ntmps6
  go_wp2
  go_ret
  exact ⟨rfl, rfl⟩
theorem nput (n v : ByteArray) (ao : Option Addr) (ln cap : Nat) (W : World) : Calls Tryz.prog 7 #[.pointer none, .agg #[.string n, .slice ao ln cap], .string v] W fun e w' => e = .returned (.int .i64 1) ∧ Below W.heap.size W w' := by
  have B1 := Lib.hid ((Below.refl W.heap.size W).alloc (Nat.le_refl _) (.cells #[.string n, .slice ao ln cap] 31))
  go_enter Tryz.func7, Tryz.ntmps7
  go_wp2
  go_ret
  exact ⟨rfl, B1.out⟩
theorem ndrop (n : ByteArray) (W : World) : Calls Tryz.prog 18 #[.pointer none, .string n] W fun e w' => e = .returned (.int .i64 1) ∧ W = w' := by
  go_enter Tryz.func18, Tryz.ntmps18
  go_wp2
  go_ret
  exact ⟨rfl, rfl⟩
theorem nvalue (n : ByteArray) (W : World) : Calls Tryz.prog 13 #[.pointer none, .string n] W fun e w' => e = .returned (.tuple #[.string (ByteArray.mk #[]), .bool false]) ∧ W = w' := by
  go_enter Tryz.func13, Tryz.ntmps13
  go_wp2
  go_ret2
  exact ⟨rfl, rfl⟩
theorem nlen (W : World) : Calls Tryz.prog 16 #[.pointer none] W fun e w' => e = .returned (.int .i64 0) ∧ W = w' := by
  go_enter Tryz.func16, Tryz.ntmps16
  go_wp2
  go_ret
  exact ⟨rfl, rfl⟩
theorem nreads (n : ByteArray) (W : World) : Calls Tryz.prog 17 #[.pointer none, .string n] W fun e w' => e = .returned (.slice none 0 0) ∧ W = w' := by
  go_enter Tryz.func17, Tryz.ntmps17
  go_wp2
  go_ret
  exact ⟨rfl, rfl⟩
theorem nstale (W : World) : Calls Tryz.prog 11 #[.pointer none] W fun e w' => e = .returned (.slice none 0 0) ∧ W = w' := by
  go_enter Tryz.func11, Tryz.ntmps11
  go_wp2
  go_ret
  exact ⟨rfl, rfl⟩

end Go.Proofs.YtffifhbldcjelaaGreatDoor
