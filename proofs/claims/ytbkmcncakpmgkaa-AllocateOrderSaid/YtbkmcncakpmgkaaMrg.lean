/-
  Merge: the walk.
-/
import Derived.Test.YtbkmcncakpmgkaaPro
namespace Go.Proofs.Ytbkmcncakpmgkaa
set_option linter.unusedVariables false
open Go.ChangeShapes Go.WideShapes Go.ChangeAt Go.RowKit Go.Maps

def S64 (l : List (Int × Int)) : Prop := ∀ s ∈ l, (Lit.int .i64 s.1).wf = true

theorem merge_snoc (l : List (Int × Int)) (s : Int × Int) : mergeA (l ++ [s]) = mStep (mergeA l) s := by
  unfold mergeA; rw [List.foldl_append]; rfl

theorem merge_bd' (l : List (Int × Int)) : AmtLe (1000000000000000 * l.length) (mergeA l) ∧ (mergeA l).length ≤ l.length := by
  have := merge_bd l l.length (Nat.le_refl _)
  rwa [List.take_length] at this

/-- one of two -/
def nth2 {α : Type} (a b : α) (j : Nat) : α := if j = 0 then a else b

set_option maxRecDepth 100000 in
set_option maxHeartbeats 4000000 in
theorem merge_any (ao bo : Option Addr) (ca cb na nb : Nat) (a b : List (Int × Int)) (w : World) (ha : na ≤ 1000) (hb : nb ≤ 1000) (hla : a.length = na) (hlb : b.length = nb) (hra : RowK 2 encS w ao a) (hrb : RowK 2 encS w bo b) (hSa : S64 a) (hSb : S64 b) :
    Calls Try.prog 15 #[.slice ao na ca, .slice bo nb cb] w (SlcK 2 encS w (tidyL (mergeA (a ++ b)))) := by
  have hmm := @run_makeMap Try.prog
  have MADE := Lib.hid (show OwnsM ((w.alloc (.map #[] 0)).alloc (.cells #[.slice ao na ca, .slice bo nb cb] 23)) w.heap.size 0 (mergeA []) from (OwnsM.made w).kept (Below.heap_alloc _ _ _ (by simp)))
  have CELLS := Lib.hid (show ((w.alloc (.map #[] 0)).alloc (.cells #[.slice ao na ca, .slice bo nb cb] 23)).cell? ⟨w.heap.size + 1, 0, none⟩ = some (.slice ao na ca) ∧ ((w.alloc (.map #[] 0)).alloc (.cells #[.slice ao na ca, .slice bo nb cb] 23)).cell? ⟨w.heap.size + 1, 1, none⟩ = some (.slice bo nb cb) from
    ⟨cell_box _ _ _ 0 _ rfl _ (by simp), cell_box _ _ _ 1 _ rfl _ (by simp)⟩)
  have BEL0 := Lib.hid (show Below w.heap.size w ((w.alloc (.map #[] 0)).alloc (.cells #[.slice ao na ca, .slice bo nb cb] 23)) from ((Below.refl _ w).alloc (Nat.le_refl _) _).alloc (by simp) _)
  have hsz0 : ((w.alloc (.map #[] 0)).alloc (.cells #[.slice ao na ca, .slice bo nb cb] 23)).heap.size = w.heap.size + 2 := by simp
  have HSZ0 := Lib.hid hsz0
  have HLA := Lib.hid hla
  have HLB := Lib.hid hlb
  have HRA := Lib.hid hra
  have HRB := Lib.hid hrb
  have HSA := Lib.hid hSa
  have HSB := Lib.hid hSb
  clear hla hlb hra hrb hSa hSb hsz0
  go_enter Try.func15, Try.ntmps15
  go_wp2
  obtain ⟨W1, hW1⟩ : ∃ W1, (w.alloc (.map #[] 0)).alloc (.cells #[.slice ao na ca, .slice bo nb cb] 23) = W1 := ⟨_, rfl⟩
  rw [hW1] at MADE CELLS BEL0 HSZ0 ⊢
  clear hW1
  go_loopw [15] (fun i wr => ∃ j : Nat, i = .int .i64 j ∧ j ≤ 2 ∧ OwnsM wr w.heap.size (if j = 0 then 0 else if j = 1 then na else na + nb) (mergeA (if j = 0 then [] else if j = 1 then a else a ++ b)) ∧ Chg (fun k => k = w.heap.size) W1 wr) (fun i _ => 2 - (intOf i).toNat)
  case atStart => exact ⟨0, rfl, by omega, MADE.out, Chg.refl _ _⟩
  case round =>
    obtain ⟨j, rfl, hj, hown, hch⟩ := hrel
    have OW := Lib.hid hown
    have CH := Lib.hid hch
    have hcs := hch.size
    clear hown hch
    by_cases hlt : j < 2
    · obtain ⟨so, sn, sc, cl, pf, cnt, hcell, hcl, hrow, hS, hpf, hpf2, hcn, hcn2, hsn, hpl⟩ : ∃ (so : Option Addr) (sn sc : Nat) (cl pf : List (Int × Int)) (cnt : Nat), wr.cell? ⟨w.heap.size + 1, j, none⟩ = some (.slice so sn sc) ∧ cl.length = sn ∧ RowK 2 encS w so cl ∧ S64 cl ∧ (if j = 0 then [] else if j = 1 then a else a ++ b) = pf ∧ (if j + 1 = 0 then [] else if j + 1 = 1 then a else a ++ b) = pf ++ cl ∧
          (if j = 0 then 0 else if j = 1 then na else na + nb) = cnt ∧ (if j + 1 = 0 then 0 else if j + 1 = 1 then na else na + nb) = cnt + sn ∧ sn ≤ 1000 ∧ (cnt ≤ 1000 ∧ pf.length ≤ 1000) := by
        have hj2 : j = 0 ∨ j = 1 := by omega
        rcases hj2 with rfl | rfl
        · exact ⟨ao, na, ca, a, [], 0, CH.out.cell CELLS.out.1 (by dsimp only; omega), HLA.out, HRA.out, HSA.out, rfl, by simp, rfl, by simp, ha, by omega, by simp⟩
        · exact ⟨bo, nb, cb, b, a, na, CH.out.cell CELLS.out.2 (by dsimp only; omega), HLB.out, HRB.out, HSB.out, by simp, by simp, by simp, by simp, hb, ha, by rw [HLA.out]; exact ha⟩
      rw [hpf, hcn] at OW
      have HCL := Lib.hid hcl
      have HROW := Lib.hid hrow
      have HS := Lib.hid hS
      have HPF2 := Lib.hid hpf2
      have HCN2 := Lib.hid hcn2
      have hjd : decide ((j : Int) < 2) = true := decide_eq_true (by omega)
      clear hcl hrow hS hpf hpf2 hcn hcn2
      obtain ⟨wo, rfl⟩ : ∃ wo : World, wo = wr := ⟨_, rfl⟩
      go_wp2
      go_loopw [21] (fun i wr => ∃ k : Nat, i = .int .i64 k ∧ k ≤ sn ∧ OwnsM wr w.heap.size (cnt + k) (mergeA (pf ++ cl.take k)) ∧ Chg (fun x => x = w.heap.size) W1 wr) (fun i _ => sn - (intOf i).toNat)
      case atStart => exact ⟨0, rfl, Nat.zero_le _, by simpa using OW.out, CH.out⟩
      case round =>
        rename_i wi
        obtain ⟨k, rfl, hk, hown, hch⟩ := hrel
        have OK := Lib.hid hown
        have CK := Lib.hid hch
        have hks := hch.size
        clear hown hch
        by_cases hkl : k < sn
        · have hkc : k < cl.length := by rw [HCL.out]; exact hkl
          obtain ⟨sb, off, rfl, hbl, c0, c1⟩ := HROW.out.share hkc
          have low : ∀ o v, w.cell? ⟨sb, o, none⟩ = some v → wr.cell? ⟨sb, o, none⟩ = some v := fun o v h => by
            have h1 : W1.cell? ⟨sb, o, none⟩ = some v := by rw [BEL0.out.cell (p := ⟨sb, o, none⟩) hbl]; exact h
            exact CK.out.cell h1 (by dsimp only; omega)
          have e0 := low _ _ c0
          have e1 := low _ _ c1
          have HT := Lib.hid (show mergeA (pf ++ cl.take (k + 1)) = mStep (mergeA (pf ++ cl.take k)) cl[k] by rw [List.take_succ_eq_append_getElem hkc, ← List.append_assoc, merge_snoc])
          have hwf := HS.out cl[k] (List.getElem_mem hkc)
          have hbd := merge_bd' (pf ++ cl.take k)
          have hll : (pf ++ cl.take k).length ≤ 2000 := by rw [List.length_append, List.length_take]; omega
          obtain ⟨u, hu⟩ : ∃ u, cl[k] = u := ⟨_, rfl⟩
          rw [hu] at e0 e1 HT hwf
          obtain ⟨r, y⟩ := u
          dsimp only at e0 e1 hwf
          have HC := Lib.hid (fun W => sound_any r y W)
          have HUB := Lib.hid (@sound_bd (r, y))
          have HW := Lib.hid (show mStep (mergeA (pf ++ cl.take k)) (r, y) = if soundB (r, y) = true then addGo r y false (mergeA (pf ++ cl.take k)) else mergeA (pf ++ cl.take k) from rfl)
          clear hu c0 c1 low
          rcases hcb : soundB (r, y) with _ | _
          · have HN := Lib.hid (show mergeA (pf ++ cl.take (k + 1)) = mergeA (pf ++ cl.take k) by rw [HT.out, HW.out, if_neg (by rw [hcb]; simp)])
            rw [hcb] at HC
            clear hcb hwf hbd
            go_wp2_with (go_at_call 27; refine (HC.out _).mono ?_; rintro e w3 ⟨rfl, hb3⟩; have HB3 := Lib.hid hb3; clear hb3)
            go_roundw
            case rel =>
              have hB := HB3.out
              refine ⟨k + 1, by go_num, by omega, ?_, (CK.out.trans (Chg.alloc _ _ _)).trans (Chg.of_below hB (fun x h1 h2 => by omega))⟩
              rw [HN.out]
              exact ((OK.out.kept (Below.heap_alloc _ _ _ OK.out.lt)).later hB).mono (by omega)
            case measure => simp [intOf]; omega
          · have hub := HUB.out hcb
            dsimp only at hub
            have HN := Lib.hid (show mergeA (pf ++ cl.take (k + 1)) = addGo r y false (mergeA (pf ++ cl.take k)) by rw [HT.out, HW.out, if_pos hcb])
            rw [hcb] at HC
            have hkey := keyOf_int_mk Try.underlying3 hwf
            have hgb := getL_bd hbd.1 (by omega) r
            have hput := md_put OK.out.2 r y
            have hasc := asc_add OK.out.2 r y
            obtain ⟨L, hL⟩ : ∃ L, mergeA (pf ++ cl.take k) = L := ⟨_, rfl⟩
            rw [hL] at hgb hput hasc HN OK
            obtain ⟨G, hG⟩ : ∃ G, getL L r = G := ⟨_, rfl⟩
            rw [hG] at hgb hput
            have HGL := Lib.hid hG
            have HPUT := Lib.hid hput
            have HASC := Lib.hid hasc
            have hG2 : G + y ≤ 9223372036854775807 := by omega
            have hG3 : 0 ≤ G + y := by omega
            clear hcb hbd hput hasc hG hL
            go_wp2_with (first | (go_at_call 27; refine (HC.out _).mono ?_; rintro e w3 ⟨rfl, hb3⟩; have HB3 := Lib.hid hb3; have O3 := Lib.hid ((OK.out.kept (Below.heap_alloc wr (.cells #[.int .i64 r, .int .i64 y] 47) _ OK.out.lt)).later hb3); have hlk := (O3.out.look r hwf).1; rw [HGL.out] at hlk; have g0 : w3.cell? ⟨wr.heap.size, 0, none⟩ = some (.int .i64 r) := (by rw [hb3.cell (p := ⟨wr.heap.size, 0, none⟩) (by simp)]; exact cell_box wr _ _ 0 _ rfl _ rfl); have g1 : w3.cell? ⟨wr.heap.size, 1, none⟩ = some (.int .i64 y) := (by rw [hb3.cell (p := ⟨wr.heap.size, 1, none⟩) (by simp)]; exact cell_box wr _ _ 1 _ rfl _ rfl); clear hb3) | (at_mapUpdate; refine wpList_mapUpdate_own _ rfl _ _ _ 57 rfl 3 3 keyed Try.underlying57 _ w.heap.size (cnt + k) _ rfl O3.out.1 (by unfold maxLen; omega) _ _ _ rfl rfl hkey _ [] (plainElem_int Try.underlying3 (WalkArith.wf_i64 (by omega))) ?_; intro w6 hown6 hgr6))
            rw [HPUT.out] at hown6
            have R : OwnsM w6 w.heap.size (cnt + (k + 1)) (mergeA (pf ++ cl.take (k + 1))) ∧ Chg (fun x => x = w.heap.size) W1 w6 := by
              refine ⟨by rw [HN.out]; exact ⟨hown6, HASC.out⟩, ((CK.out.trans (Chg.alloc _ _ _)).trans (Chg.of_below HB3.out (fun x h1 h2 => by omega))).trans (Chg.grown hgr6 (fun j e => by cases e; exact .inl rfl))⟩
            have RR := Lib.hid R
            clear R hown6 hgr6
            go_wp2
            go_roundw
            case rel => exact ⟨k + 1, by go_num, by omega, RR.out.1, RR.out.2⟩
            case measure => simp [intOf]; omega
        · have HN := Lib.hid (show cl.take k = cl from List.take_of_length_le (by rw [HCL.out]; omega))
          have hks' : k = sn := by omega
          go_wp2
          go_roundw
          case rel =>
            refine ⟨j + 1, by go_num, by omega, ?_, CK.out⟩
            rw [HPF2.out, HCN2.out]
            have := OK.out
            rw [HN.out, hks'] at this
            exact this
          case measure => simp [intOf]; omega
    · have hj2 : j = 2 := by omega
      have O2 := Lib.hid (show OwnsM wr w.heap.size (na + nb) (mergeA (a ++ b)) by have := OW.out; rw [hj2] at this; simpa using this)
      have HSH := Lib.hid (shares_any w.heap.size (na + nb) (mergeA (a ++ b)) wr (by have := (merge_bd' (a ++ b)).2; rw [List.length_append, HLA.out, HLB.out] at this; omega) O2.out)
      clear OW
      go_wp2_with (go_at_call 29; refine HSH.out.mono ?_; rintro e w7 ⟨ao7, cp7, rfl, hcp7, hrow7, hb7⟩; have R7 := Lib.hid hrow7; have P7 := Lib.hid hcp7; have B7 := Lib.hid hb7; clear hrow7 hcp7 hb7)
      go_ret
      refine ⟨ao7, cp7, rfl, P7.out, R7.out, BEL0.out.trans ((CH.out.below (by have := HSZ0.out; omega) (fun k h => by omega)).trans (B7.out.mono (by have := HSZ0.out; omega)))⟩

end Go.Proofs.Ytbkmcncakpmgkaa
