/-
  Fair shares: the plain law.
-/
import Derived.Test.YtbkmcncakpmgkaaNlA
namespace Go.Proofs.Ytbkmcncakpmgkaa
set_option linter.unusedVariables false
open Go.ChangeShapes Go.WideShapes Go.ChangeAt Go.RowKit

theorem getL_add {l : List (Int × Int)} (ha : Asc l) (r n x : Int) : getL (addGo r n false l) x = getL l x + if x = r then n else 0 := by
  induction l with
  | nil => 
    simp only [addGo, Bool.false_eq_true, if_false, getL]
    by_cases c : x = r
    · rw [if_pos c.symm, if_pos c]; omega
    · rw [if_neg (fun q => c q.symm), if_neg c]; rfl
  | cons s t ih =>
    obtain ⟨h1, h2⟩ := List.pairwise_cons.1 ha
    rw [addGo]
    by_cases c1 : r < s.1
    · rw [if_pos ⟨rfl, c1⟩, if_neg (by omega), decide_eq_true c1, Bool.or_true, Bool.true_or, addGo_true (fun p hp => by have := h1 p hp; omega)]
      simp only [List.singleton_append]
      by_cases c : x = r
      · have hno : getL (s :: t) x = 0 := getL_no (fun p hp => by rcases List.mem_cons.1 hp with rfl | hp; omega; have := h1 p hp; omega)
        rw [hno, if_pos c]
        unfold getL; rw [if_pos c.symm]; dsimp only; omega
      · rw [if_neg c]
        conv => lhs; unfold getL
        rw [if_neg (fun q => c q.symm)]; omega
    · by_cases c2 : s.1 = r
      · rw [if_neg (fun q => c1 q.2), if_pos c2, decide_eq_true c2, Bool.or_true, addGo_true (fun p hp => by have := h1 p hp; omega), List.nil_append]
        unfold getL
        by_cases c : x = r
        · dsimp only; rw [if_pos (by omega), if_pos (by omega), if_pos c]
        · dsimp only; rw [if_neg (by omega), if_neg (by omega), if_neg c]; omega
      · rw [if_neg (fun q => c1 q.2), if_neg c2, decide_eq_false c1, decide_eq_false c2, Bool.or_false, Bool.or_false, List.nil_append]
        unfold getL
        by_cases c : s.1 = x
        · rw [if_pos c, if_pos c, if_neg (by omega)]; omega
        · rw [if_neg c, if_neg c, ih h2]

def wtS (x : Int) (w : Int) (u : Us) : Int := if u.rcd = x then w + u.val + u.held else w
def wtX (x : Int) (l : List Us) : Int := l.foldl (wtS x) 0
theorem wtX_take (x : Int) (l : List Us) (k : Nat) (h : k < l.length) : wtX x (l.take (k + 1)) = wtS x (wtX x (l.take k)) l[k] := by
  unfold wtX; rw [List.take_succ_eq_append_getElem h, List.foldl_append]; rfl

def SmallU (l : List Us) : Prop := ∀ u ∈ l, (0 ≤ u.acc ∧ u.acc < 6) ∧ (0 ≤ u.rcd ∧ u.rcd < 8) ∧ (0 ≤ u.val ∧ u.val < 50) ∧ (0 ≤ u.held ∧ u.held < 9)

theorem wtX_bd (x : Int) (l : List Us) (hs : SmallU l) : ∀ k, k ≤ l.length → 0 ≤ wtX x (l.take k) ∧ wtX x (l.take k) ≤ 60 * k
  | 0, _ => by simp [wtX]
  | k + 1, h => by
    obtain ⟨h1, h2⟩ := wtX_bd x l hs k (by omega)
    have hu := hs l[k] (List.getElem_mem _)
    rw [wtX_take x l k h]
    unfold wtS
    split
    · push_cast; omega
    · push_cast; omega

theorem weights_get (x : Int) (l : List Us) (hs : SmallU l) : ∀ k, k ≤ l.length → getL (weightsL true 0 (l.take k)) x = wtX x (l.take k)
  | 0, _ => by simp [weightsL, wtX, getL]
  | k + 1, h => by
    have ih := weights_get x l hs k (by omega)
    have ha := (weights_sum true 0 l k (by omega)).1
    have hu := hs l[k] (List.getElem_mem _)
    rw [wtX_take x l k h, weights_take true 0 l k h]
    unfold wStep wtS
    by_cases c : countsB l[k] = true
    · rw [if_pos ⟨c, .inl rfl⟩, getL_add ha, ih]
      by_cases e : l[k].rcd = x
      · rw [if_pos e, if_pos e.symm]; omega
      · rw [if_neg e, if_neg (fun q => e q.symm)]; omega
    · rw [if_neg (fun q => c q.1), ih]
      have h0 : ¬ 0 < l[k].val + l[k].held := fun q => c (decide_eq_true ⟨by omega, by omega, by omega, by omega, q⟩)
      split <;> omega

def lastS (x : Int) (g : Int) (s : Int × Int) : Int := if s.1 = x then s.2 else g
def lastL (x : Int) (l : List (Int × Int)) : Int := l.foldl (lastS x) 0
theorem lastL_take (x : Int) (l : List (Int × Int)) (k : Nat) (h : k < l.length) : lastL x (l.take (k + 1)) = lastS x (lastL x (l.take k)) l[k] := by
  unfold lastL; rw [List.take_succ_eq_append_getElem h, List.foldl_append]; rfl

theorem last_no (x : Int) : ∀ (l : List (Int × Int)) (g : Int), (∀ p ∈ l, p.1 ≠ x) → l.foldl (lastS x) g = g
  | [], g, _ => rfl
  | s :: t, g, h => by
    rw [List.foldl_cons, last_no x t _ (fun p hp => h p (by simp [hp]))]
    unfold lastS; rw [if_neg (h s (by simp))]

theorem last_get (x : Int) : ∀ (l : List (Int × Int)) (g : Int), Asc l → (∃ p ∈ l, p.1 = x) → l.foldl (lastS x) g = getL l x
  | [], g, _, h => by obtain ⟨p, hp, _⟩ := h; simp at hp
  | s :: t, g, ha, h => by
    obtain ⟨h1, h2⟩ := List.pairwise_cons.1 ha
    rw [List.foldl_cons]
    unfold getL
    by_cases c : s.1 = x
    · rw [if_pos c, last_no x t _ (fun p hp => by have := h1 p hp; omega)]
      unfold lastS; rw [if_pos c]
    · rw [if_neg c]
      refine last_get x t _ h2 ?_
      obtain ⟨p, hp, e⟩ := h
      rcases List.mem_cons.1 hp with rfl | hp
      · exact absurd e c
      · exact ⟨p, hp, e⟩

theorem lastL_get (x : Int) {l : List (Int × Int)} (ha : Asc l) : lastL x l = getL l x := by
  by_cases c : ∃ p ∈ l, p.1 = x
  · exact last_get x l 0 ha c
  · have hn : ∀ p ∈ l, p.1 ≠ x := fun p hp q => c ⟨p, hp, q⟩
    rw [getL_no hn]; exact last_no x l 0 hn

theorem getL_tidy {B : Int} (x : Int) : ∀ {l : List (Int × Int)}, AmtLe B l → Asc l → getL (tidyL l) x = getL l x
  | [], _, _ => rfl
  | s :: t, h, ha => by
    obtain ⟨h1, h2⟩ := List.pairwise_cons.1 ha
    have hs := h s (by simp)
    have ih := getL_tidy x (l := t) (fun p hp => h p (by simp [hp])) h2
    unfold tidyL at ih ⊢
    by_cases c : 0 < s.2
    · rw [List.filter_cons_of_pos (by simpa using c)]
      unfold getL; rw [ih]
    · rw [List.filter_cons_of_neg (by simpa using c), ih]
      conv => rhs; unfold getL
      split
      · rw [getL_no (fun p hp => by have := h1 p hp; omega)]; omega
      · rfl

theorem addGo_end (r n : Int) : ∀ (l : List (Int × Int)), (∀ p ∈ l, p.1 < r) → addGo r n false l = l ++ [(r, n)]
  | [], _ => rfl
  | s :: t, h => by
    have := h s (by simp)
    rw [addGo, if_neg (by omega), if_neg (by omega), decide_eq_false (by omega), decide_eq_false (by omega)]
    simp only [Bool.or_false, List.nil_append, List.cons_append]
    rw [addGo_end r n t (fun p hp => h p (by simp [hp]))]

theorem addAll_app : ∀ (d out : List (Int × Int)), Asc (out ++ d) → addAll out d = out ++ d
  | [], out, _ => by simp [addAll]
  | s :: t, out, h => by
    have e : addAll out (s :: t) = addAll (addGo s.1 s.2 false out) t := rfl
    have hlt : ∀ p ∈ out, p.1 < s.1 := fun p hp => (List.pairwise_append.1 h).2.2 p hp s (by simp)
    rw [e, addGo_end s.1 s.2 out hlt]
    have e2 : out ++ s :: t = (out ++ [(s.1, s.2)]) ++ t := by simp
    rw [e2] at h ⊢
    exact addAll_app t _ h

theorem zip_fst : ∀ (l : List (Int × Int)) (p : List Int), (List.zipWith (fun (s : Int × Int) (p : Int) => (s.1, p)) l p).map (·.1) = (l.map (·.1)).take p.length
  | _, [] => by simp
  | [], _ :: _ => by simp
  | s :: l, x :: p => by simp [zip_fst l p]

theorem asc_div (t : Int) {ws : List (Int × Int)} (h : Asc ws) : Asc (divL t ws) := by
  have h1 : (ws.map (·.1)).Pairwise (· < ·) := List.pairwise_map.2 h
  have h2 : ((divL t ws).map (·.1)).Pairwise (· < ·) := by
    unfold divL; rw [zip_fst]; exact h1.sublist (List.take_sublist _ _)
  exact List.pairwise_map.1 h2

theorem addAll_div (t : Int) {ws : List (Int × Int)} (h : Asc ws) : addAll [] (divL t ws) = divL t ws := addAll_app _ [] (asc_div t h)

/-- where a key stands -/
theorem look {t : Int} {ws : List (Int × Int)} (h : Asc ws) (hb : apB t (amts ws) = true) (x : Int) : (∃ i, i < (amts ws).length ∧ getL ws x = (amts ws).getD i 0 ∧ getL (divL t ws) x = (App.app t (amts ws)).getD i 0) ∨ (getL ws x = 0 ∧ getL (divL t ws) x = 0) := by
  by_cases c : ∃ p ∈ ws, p.1 = x
  · obtain ⟨p, hp, rfl⟩ := c
    obtain ⟨i, hi, rfl⟩ := List.getElem_of_mem hp
    have ev : apV t (amts ws) = App.app t (amts ws) := by unfold apV; rw [if_pos hb]
    have hia : i < (App.app t (amts ws)).length := by rw [App.app_length, amts_len]; exact hi
    have ed : (divL t ws)[i]? = some (ws[i].1, (App.app t (amts ws))[i]) := by
      unfold divL
      rw [ev, List.getElem?_zipWith, List.getElem?_eq_getElem hi, List.getElem?_eq_getElem hia]
    refine .inl ⟨i, by rw [amts_len]; exact hi, ?_, ?_⟩
    · rw [getL_mem h hp]; simp [amts, hi]
    · have h2 := getL_mem (asc_div t h) (List.mem_of_getElem? ed)
      dsimp only at h2
      rw [h2]; simp [hia]
  · have hn : ∀ p ∈ ws, p.1 ≠ x := fun p hp q => c ⟨p, hp, q⟩
    refine .inr ⟨getL_no hn, getL_no fun p hp => ?_⟩
    have h1 : p.1 ∈ (divL t ws).map (·.1) := List.mem_map_of_mem hp
    unfold divL at h1
    rw [zip_fst] at h1
    obtain ⟨q, hq, e⟩ := List.mem_map.1 (List.mem_of_mem_take h1)
    rw [← e]; exact hn q hq

theorem fair_div {t : Int} {ws : List (Int × Int)} (h : Asc ws) {B : Int} (hA : AmtLe B ws) (x y : Int) :
    (getL ws x = 0 → getL (divL t ws) x = 0) ∧ (getL ws y < getL ws x → getL (divL t ws) y ≤ getL (divL t ws) x) ∧ (getL ws x = getL ws y → getL (divL t ws) x - getL (divL t ws) y ≤ 1 ∧ getL (divL t ws) y - getL (divL t ws) x ≤ 1) := by
  by_cases hb : apB t (amts ws) = true
  · have ok := (apB_iff.1 hb).1
    have hn := app_nonneg ok
    have hn' := amt_pos hA
    rcases look h hb x with ⟨i, hi, ex, gx⟩ | ⟨ex, gx⟩ <;> rcases look h hb y with ⟨j, hj, ey, gy⟩ | ⟨ey, gy⟩ <;> rw [ex, ey, gx, gy]
    · refine ⟨fun q => App.app_zero ok hi q, fun q => App.app_fair ok hi hj q, fun q => ?_⟩
      rcases Nat.lt_trichotomy i j with c | c | c
      · rcases App.app_equal (t := t) hj c q.symm with e | e <;> omega
      · subst c; omega
      · rcases App.app_equal (t := t) hi c q with e | e <;> omega
    · have := getD_le_sum hn i
      refine ⟨fun q => App.app_zero ok hi q, fun q => this.1, fun q => ?_⟩
      rw [App.app_zero ok hi q]; omega
    · have := getD_le_sum hn' j
      refine ⟨fun _ => rfl, fun q => by omega, fun q => ?_⟩
      rw [App.app_zero ok hj q.symm]; omega
    · omega
  · have e : divL t ws = [] := by unfold divL apV; rw [if_neg hb]; simp
    rw [e]
    simp [getL]

theorem pro_fair {t : Int} (h0 : 0 ≤ t) (h1 : t ≤ 1000000000000000) (us : List Us) (n : Nat) (hl : us.length = n) (hn : n ≤ 40) (hU : U64 us) (hs : SmallU us) (x y : Int) :
    ∃ (A : List (Int × Int)) (na : Nat), A.length = na ∧ na ≤ 1000 ∧ Asc A ∧ (∀ s ∈ A, 0 < s.2 ∧ s.2 ≤ 1000000000000000) ∧
      ((wtX x us = 0 → lastL x A = 0) ∧ (wtX y us < wtX x us → lastL y A ≤ lastL x A) ∧ (wtX x us = wtX y us → lastL x A - lastL y A ≤ 1 ∧ lastL y A - lastL x A ≤ 1)) ∧
      (0 ≤ lastL x A ∧ lastL x A ≤ 1000000000000000) ∧ (0 ≤ lastL y A ∧ lastL y A ≤ 1000000000000000) ∧
      ∀ W uo uc, RowK 4 encU W uo us → Calls Try.prog 20 #[.int .i64 t, .slice uo n uc] W fun e w' => ∃ ao ac, e = .returned (.slice ao na ac) ∧ RowK 2 encS w' ao A ∧ Below W.heap.size W w' := by
  have hw := weights_bd true 0 us us.length (Nat.le_refl _)
  rw [List.take_length] at hw
  have ha := (weights_all true 0 us).1
  have hd := div_len_le t (weightsL true 0 us)
  have hb := div_bd t (weightsL true 0 us)
  have hasc : Asc (tidyL (divL t (weightsL true 0 us))) := (asc_div t ha).filter _
  have ex : ∀ z, lastL z (tidyL (divL t (weightsL true 0 us))) = getL (divL t (weightsL true 0 us)) z := fun z => by rw [lastL_get z hasc, getL_tidy z hb (asc_div t ha)]
  have ew : ∀ z, wtX z us = getL (weightsL true 0 us) z := fun z => by
    have := weights_get z us hs us.length (Nat.le_refl _)
    rw [List.take_length] at this; exact this.symm
  refine ⟨tidyL (divL t (weightsL true 0 us)), _, rfl, ?_, hasc, fun s hs => ?_, ?_, ?_, ?_, fun W uo uc hr => (prorata_any t uo uc n us W (by omega) hl hr hU).mono fun e w' hh => ?_⟩
  · have := List.length_filter_le (fun s : Int × Int => decide (0 < s.2)) (divL t (weightsL true 0 us))
    unfold tidyL; omega
  · obtain ⟨h1, h2⟩ := List.mem_filter.1 hs
    exact ⟨of_decide_eq_true h2, (hb s h1).2⟩
  · rw [ex, ex, ew, ew]; exact fair_div ha hw.1 x y
  · rw [ex]; exact getL_bd hb (by omega) x
  · rw [ex]; exact getL_bd hb (by omega) y
  · rw [addAll_div t ha] at hh
    obtain ⟨uo, uc, h1, _, h3, h4⟩ := hh
    exact ⟨uo, uc, h1, h3, h4⟩

end Go.Proofs.Ytbkmcncakpmgkaa
