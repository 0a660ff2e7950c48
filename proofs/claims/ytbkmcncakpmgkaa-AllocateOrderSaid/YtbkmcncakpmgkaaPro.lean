/-
  ProRata: the walk.
-/
import Derived.Test.YtbkmcncakpmgkaaDivW
namespace Go.Proofs.Ytbkmcncakpmgkaa
set_option linter.unusedVariables false
open Go.ChangeShapes Go.WideShapes Go.ChangeAt Go.RowKit Go.Shelf Go.Maps Go.Sort

attribute [local go_sem] Oper.semAt_some

/-- the keys of usages lie in int's range -/
def U64 (l : List Us) : Prop := ∀ u ∈ l, (Lit.int .i64 u.acc).wf = true ∧ (Lit.int .i64 u.rcd).wf = true

def wgtStep (o : List (Int × Int)) (u : Us) : List (Int × Int) := addGo u.rcd (u.val + u.held) false o
def wgU (l : List Us) : List (Int × Int) := l.foldl wgtStep []

theorem wgU_snoc (l : List Us) (u : Us) : wgU (l ++ [u]) = addGo u.rcd (u.val + u.held) false (wgU l) := by
  unfold wgU; rw [List.foldl_append]; rfl

theorem wgU_cnt (l : List Us) (acc : List (Int × Int)) : (cntL l).foldl wgtStep acc = l.foldl (wStep true 0) acc := by
  induction l generalizing acc with
  | nil => rfl
  | cons u t ih =>
    unfold cntL at ih ⊢
    by_cases h : countsB u = true
    · rw [List.filter_cons_of_pos h, List.foldl_cons, List.foldl_cons, ih]
      congr 1
      unfold wStep; rw [if_pos ⟨h, .inl rfl⟩]; rfl
    · rw [List.filter_cons_of_neg h, List.foldl_cons, ih]
      congr 1
      unfold wStep; rw [if_neg (fun q => h q.1)]
theorem wgU_weights (l : List Us) : wgU (cntL l) = weightsL true 0 l := wgU_cnt l []

theorem wgU_bd {xs : List Us} (hc : ∀ u ∈ xs, countsB u = true) : AmtLe (2000000000 * xs.length) (wgU xs) ∧ (wgU xs).length ≤ xs.length ∧ Asc (wgU xs) := by
  suffices H : ∀ (k : Nat), k ≤ xs.length → AmtLe (2000000000 * k) (wgU (xs.take k)) ∧ (wgU (xs.take k)).length ≤ k ∧ Asc (wgU (xs.take k)) by
    have := H xs.length (Nat.le_refl _)
    rwa [List.take_length] at this
  intro k
  induction k with
  | zero => exact fun _ => ⟨fun s hs => by simp [wgU] at hs, by simp [wgU], by simp [wgU, Asc]⟩
  | succ k ih =>
    intro hk
    obtain ⟨h1, h2, h3⟩ := ih (by omega)
    have hb := counts_bd (hc xs[k] (List.getElem_mem _))
    rw [List.take_succ_eq_append_getElem (by omega), wgU_snoc]
    refine ⟨(addGo_amt (by omega) (by omega) _ _ h1).mono (by push_cast; omega), ?_, asc_add h3 _ _⟩
    have := addGo_len xs[k].rcd (xs[k].val + xs[k].held) (wgU (xs.take k)) false
    simp at this; omega

theorem cnt_mem {l : List Us} {u : Us} (h : u ∈ cntL l) : u ∈ l ∧ countsB u = true := List.mem_filter.1 h
theorem cnt_len (l : List Us) : (cntL l).length ≤ l.length := List.length_filter_le _ _

/-- a row behind the turn of a block that is no cells -/
theorem RowK.put {α : Type} {k : Nat} {enc : α → List Value} {W : World} {ao : Option Addr} {l : List α} (h : RowK k enc W ao l) {D : Nat} {ds : Option (List Deferred)} (hD : W.heap[D]? = some (.deferred ds)) (o' : Obj) : RowK k enc (W.putObj D o') ao l := fun i x hx => by
  obtain ⟨b, off, e, h1, h2⟩ := h i x hx
  refine ⟨b, off, e, by rw [World.putObj_size]; exact h1, fun j v hv => ?_⟩
  have hc := h2 j v hv
  have hne : b ≠ D := fun e => by subst e; simp [World.cell?, hD] at hc
  rw [World.cell?_of_block (w := W) (World.putObj_heap_other hne)]; exact hc

set_option maxRecDepth 100000 in
set_option maxHeartbeats 4000000 in
theorem prorata_any (t : Int) (uo : Option Addr) (cap m : Nat) (l : List Us) (w : World) (hm : m ≤ 1000) (hl : l.length = m) (hr : RowK 4 encU w uo l) (hU : U64 l) :
    Calls Try.prog 20 #[.int .i64 t, .slice uo m cap] w (SlcK 2 encS w (tidyL (addAll [] (divL t (weightsL true 0 l))))) := by
  have HR := Lib.hid hr
  have HU := Lib.hid hU
  have HL := Lib.hid hl
  have HUB := Lib.hid (show ∀ k off, uo = some ⟨k, off, none⟩ → l ≠ [] → k < w.heap.size from fun k off e hne => by
    rcases l with _ | ⟨u, r⟩
    · exact absurd rfl hne
    · obtain ⟨b', off', e', hb', _⟩ := hr 0 u rfl
      rw [e] at e'; cases e'; exact hb')
  clear hr hU hl
  have hmm := @run_makeMap Try.prog
  suffices H : ∀ n, CallsIn Fence.wide n Try.prog 20 #[.int .i64 t, .slice uo m cap] w (SlcK 2 encS w (tidyL (addAll [] (divL t (weightsL true 0 l))))) from (callsIn_wide (n := 5)).1 (H 5)
  intro n
  refine callsIn_of_wp_marks Try.func20 rfl trivial ?_ rfl
  simp only [Try.ntmps20, List.size_toArray, List.length_cons, List.length_nil, Nat.reduceAdd, Nat.reduceSub, Array.replicate_succ, Array.replicate_zero, List.push_toArray, List.append_toArray, List.nil_append, List.cons_append]
  gi_wp2
  refine wide_call (counting_any _ _ _ _) ?_
  rintro e w' ⟨rfl, rfl⟩
  gi_wp2
  obtain ⟨W2, hW2⟩ : ∃ W2, (((w.alloc (.map #[] 0)).alloc (.map #[] 0)).alloc (.cells #[.map (some w.heap.size)] 57)).alloc (.cells #[.slice uo m cap] 22) = W2 := ⟨_, rfl⟩
  have hs2 : W2.heap.size = w.heap.size + 4 := by rw [← hW2]; simp
  have B2 := Lib.hid (show Below w.heap.size w W2 by rw [← hW2]; exact ((((Below.refl _ w).alloc (Nat.le_refl _) _).alloc (by simp) _).alloc (by simp; omega) _).alloc (by simp; omega) _)
  have MW := Lib.hid (show OwnsM W2 w.heap.size 0 [] by
    rw [← hW2]
    refine (OwnsM.made w).kept ?_
    rw [Below.heap_alloc _ _ _ (by simp only [World.size_alloc]; omega), Below.heap_alloc _ _ _ (by simp only [World.size_alloc]; omega), Below.heap_alloc _ _ _ (by simp only [World.size_alloc]; omega)])
  have MO := Lib.hid (show OwnsM W2 (w.heap.size + 1) 0 [] by
    rw [← hW2]
    have := OwnsM.made (w.alloc (.map #[] 0))
    simp only [World.size_alloc] at this
    refine this.kept ?_
    rw [Below.heap_alloc _ _ _ (by simp only [World.size_alloc]; omega), Below.heap_alloc _ _ _ (by simp only [World.size_alloc]; omega)])
  have BX := Lib.hid (show W2.cell? ⟨w.heap.size + 1 + 1, 0, none⟩ = some (.map (some w.heap.size)) by rw [← hW2]; exact cell_up (cell_box _ _ _ 0 _ rfl _ (by simp)) _)
  have BC := Lib.hid (show W2.cell? ⟨w.heap.size + 1 + 1 + 1, 0, none⟩ = some (.slice uo m cap) by rw [← hW2]; exact cell_box _ _ _ 0 _ rfl _ (by simp))
  rw [hW2]
  have HS2 := Lib.hid hs2
  clear hW2 hs2
  refine wpIn_range_all (gf := 41) (lb := #[.pointer (some ⟨w.heap.size + 1 + 1 + 1, 0, none⟩)]) rfl (enters_of Try.func41 (by kernel_rfl) rfl)
    (cnt_all _ (w.heap.size + 1 + 1 + 1) uo cap m l W2 (by omega) HL.out (HR.out.later B2.out) BC.out) (fun _ => rfl)
    (fun pre O W => (∀ k, O k ↔ k = w.heap.size) ∧ OwnsM W w.heap.size pre.length (wgU pre) ∧ Chg (fun k => k = w.heap.size) W2 W) (fun k => k = w.heap.size) ?hO0 ?hI ?h0
    (fun pre x a' O W => ∃ Bu, W2.heap.size ≤ Bu ∧ a' = { tmps := #[.int .i64 t, .slice uo m cap, undef, undef, .slice none 0 0, .pointer (some ⟨w.heap.size + 1 + 1, 0, none⟩), .map (some (w.heap.size + 1)), .pointer (some ⟨Bu, 0, none⟩), .int .i64 (x.val + x.held), .map (some w.heap.size), .map (some (w.heap.size + 1)), .slice uo m cap, .func (.func 41) #[] #[.pointer (some ⟨w.heap.size + 1 + 1 + 1, 0, none⟩)], .agg #[.int .i64 x.acc, .int .i64 x.rcd, .int .i64 x.val, .int .i64 x.held], .int .i64 (x.val + x.held), undef, undef, undef, undef, undef, undef, undef, undef, undef, undef, undef, undef], defers := [] } ∧
      (∀ k, O k ↔ k = w.heap.size ∨ k = Bu) ∧ W.heap[Bu]? = some (.cells #[.int .i64 x.acc, .int .i64 x.rcd, .int .i64 x.val, .int .i64 x.held] 42 (0, 0)) ∧ OwnsM W w.heap.size pre.length (wgU pre) ∧ Chg (fun k => k = w.heap.size) W2 W) ?hM ?assign ?body ?done
  case hO0 =>
    rintro k rfl
    exact ⟨by have := HS2.out; omega, fun ⟨h1, off, h2⟩ => by have := HUB.out _ off h2 (fun e => by rw [← HL.out, e] at h1; simp at h1); omega⟩
  case hI =>
    rintro s O A A' C ⟨h1, h2, h3⟩ hc hC
    exact ⟨h1, h2.kept (hc.block _ h2.lt (fun c => (hC _ c).2 ((h1 _).2 rfl))), h3.trans (hc.mono (fun k _ h => .inr (hC k h).1))⟩
  case h0 => exact ⟨fun k => Iff.rfl, MW.out, Chg.refl _ _⟩
  case hM =>
    rintro s x a' O A A' C ⟨Bu, h1, h2, h3, h4, h5, h6⟩ hc hC
    exact ⟨Bu, h1, h2, h3, by rw [hc.block _ (Array.getElem?_eq_some_iff.1 h4).1 (fun c => (hC _ c).2 ((h3 _).2 (.inr rfl)))]; exact h4, h5.kept (hc.block _ h5.lt (fun c => (hC _ c).2 ((h3 _).2 (.inl rfl)))), h6.trans (hc.mono (fun k _ h => .inr (hC k h).1))⟩
  case assign =>
    rintro l' pre ⟨ua, ur, uv, uh⟩ rest O W K hx ⟨h1, h2, h3⟩ hK
    dsimp only [encC]
    gi_wp2
    refine hK _ (fun k => k = w.heap.size ∨ k = W.heap.size) _ ⟨W.heap.size, h3.size, rfl, fun k => Iff.rfl, World.alloc_heap_new W _, h2.kept (Below.heap_alloc _ _ _ h2.lt), h3.trans (Chg.alloc _ _ _)⟩ (Chg.alloc _ _ _) ?_
    rintro k (rfl | rfl)
    · exact .inl ((h1 _).2 rfl)
    · exact .inr (Nat.le_refl _)
  case body =>
    rintro l' pre ⟨ua, ur, uv, uh⟩ rest a' O W hx ⟨Bu, hBu, rfl, hO, hbu, hown, hch⟩
    dsimp only
    have hmem : (⟨ua, ur, uv, uh⟩ : Us) ∈ cntL l := by rw [hx]; simp
    obtain ⟨hml, hcb⟩ := cnt_mem hmem
    have hcd := counts_bd hcb
    dsimp only at hcd
    have hwf : (Lit.int .i64 ur).wf = true := (HU.out _ hml).2
    have hkey := keyOf_int_mk Try.underlying3 hwf
    have hbw := wgU_bd (xs := pre) (fun u hu => (cnt_mem (l := l) (by rw [hx]; simp [hu])).2)
    have hpl : pre.length ≤ 1000 := by
      have h1 := cnt_len l
      rw [hx, HL.out] at h1
      simp at h1; omega
    have hlk := (hown.look ur hwf).1
    have hgb := getL_bd hbw.1 (by omega) ur
    have hput := md_put hown.2 ur (uv + uh)
    have hasc := asc_add hown.2 ur (uv + uh)
    have c5 : W.cell? ⟨w.heap.size + 1 + 1, 0, none⟩ = some (.map (some w.heap.size)) := hch.cell BX.out (by dsimp only; omega)
    have cb : W.cell? ⟨Bu, 1, none⟩ = some (.int .i64 ur) := by simp [World.cell?, hbu]
    have HNX := Lib.hid (wgU_snoc pre ⟨ua, ur, uv, uh⟩)
    obtain ⟨G, hG⟩ : ∃ G, getL (wgU pre) ur = G := ⟨_, rfl⟩
    rw [hG] at hlk hgb hput
    have OW := Lib.hid hown
    have HPUT := Lib.hid hput
    have HASC := Lib.hid hasc
    have HCH := Lib.hid hch
    have HOO := Lib.hid hO
    have hG2 : G + (uv + uh) ≤ 9223372036854775807 := by omega
    have hG3 : 0 ≤ G + (uv + uh) := by omega
    clear hmem hml hcb hx hbw hown hput hasc hG hch hO hwf
    gi_wp2_with (gi_at_mapUpdate; refine wpListIn_mapUpdate_own _ rfl _ _ _ 57 rfl 3 3 keyed Try.underlying57 _ w.heap.size pre.length _ rfl OW.out.1 (by unfold maxLen; omega) _ _ _ rfl rfl hkey _ [] (plainElem_int Try.underlying3 (WalkArith.wf_i64 (by omega))) ?_; intro w6 hown6 hgr6)
    rw [HPUT.out] at hown6
    refine ⟨fun k => k = w.heap.size, ⟨fun k => Iff.rfl, ?_, HCH.out.trans (Chg.grown hgr6 (fun j e => by cases e; exact .inl rfl))⟩, Chg.grown hgr6 (fun j e => by cases e; exact (HOO.out _).2 (.inl rfl)), fun k hk => .inl ((HOO.out _).2 (.inl hk))⟩
    rw [HNX.out, List.length_append]
    exact ⟨hown6, HASC.out⟩
  case done =>
    rintro D O W hD hnD ⟨hO, hown, hch⟩ hK
    have hW2 := HS2.out
    have hcs := hch.size
    have hbw := wgU_bd (xs := cntL l) (fun u hu => (cnt_mem hu).2)
    have hcl := cnt_len l
    rw [HL.out] at hcl
    have c5 : W.cell? ⟨w.heap.size + 1 + 1, 0, none⟩ = some (.map (some w.heap.size)) := hch.cell BX.out (by dsimp only; omega)
    have mo : OwnsM W (w.heap.size + 1) 0 [] := MO.out.kept (hch.block _ MO.out.lt (by omega))
    have hDW : D < W.heap.size := (Array.getElem?_eq_some_iff.1 hK).1
    have bel : Below w.heap.size w W := B2.out.trans (hch.below (by omega) (fun k h => by omega))
    have HK := Lib.hid hK
    have MOO := Lib.hid mo
    have BEL := Lib.hid bel
    have hw2 : wgU (cntL l) = weightsL true 0 l := wgU_weights l
    have HDV := Lib.hid (adivide_any t (some w.heap.size) (w.heap.size + 1) 0 (cntL l).length [] (wgU (cntL l)) W hown (by simp) mo (by omega) (by omega) 0 (by omega) (fun s hs => by simp at hs) (by omega) (hbw.1.i64 (by omega)))
    rw [hw2] at HDV
    have HDB := Lib.hid (show (addAll [] (divL t (weightsL true 0 l))).length ≤ 1000000 by
      have h1 := (addAll_bd (B := 0) (by omega) (out := []) (fun s hs => by simp at hs) (div_bd t (weightsL true 0 l)) (divL t (weightsL true 0 l)).length (Nat.le_refl _)).2
      rw [List.take_length] at h1
      have h2 := div_len_le t (weightsL true 0 l)
      rw [← hw2] at h2
      simp only [List.length_nil] at h1
      rw [← hw2] at h1 ⊢
      omega)
    clear hO hown hch hbw hcl mo bel hK hnD hw2
    gi_wp2
    refine wide_call HDV.out ?_
    rintro e w6 ⟨rfl, hown6, hch6⟩
    have O6 := Lib.hid hown6
    have C6 := Lib.hid hch6
    have HSH := Lib.hid (shares_any (w.heap.size + 1) _ _ w6 HDB.out hown6)
    have h6s := hch6.size
    clear hown6 hch6
    gi_wp2
    refine wide_call HSH.out ?_
    rintro e w7 ⟨ao, cp, rfl, hcp, hrow, hbel⟩
    have hK7 : w7.heap[D]? = some (.deferred (some [])) := by
      rw [hbel.block D (by omega), C6.out.block D hDW (by omega)]; exact HK.out
    have R7 := Lib.hid hrow
    have B7 := Lib.hid hbel
    have P7 := Lib.hid hcp
    have HK7 := Lib.hid hK7
    clear hrow hbel hcp hK7
    gi_wp2
    refine ⟨by simp, .inl ⟨_, _, rfl, run_takeDeferred HK7.out, ?_⟩⟩
    refine ⟨_, results_tmp rfl _ _ _, ao, cp, rfl, P7.out, R7.out.put HK7.out _, ?_⟩
    refine BEL.out.trans ((C6.out.below BEL.out.size (fun k h => by omega)).trans ((B7.out.mono (by omega)).trans ?_))
    exact (Chg.put w7 D _ (C := fun k => k = D) rfl).below (by have := B7.out.size; omega) (fun k h => by omega)

end Go.Proofs.Ytbkmcncakpmgkaa
