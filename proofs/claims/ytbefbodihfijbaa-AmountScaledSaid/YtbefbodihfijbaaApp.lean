/-
  The contract of amount.Apportion: the parts by largest remainders, or nothing.
-/
import Derived.Test.YtbefbodihfijbaaAppWorld
import Derived.Test.YtbefbodihfijbaaSumMath
namespace Go.Proofs.Ytbefbodihfijbaa
set_option linter.unusedVariables false
open Go.ChangeShapes Go.WideShapes Go.ChangeAt Go.RowKit

theorem ov_quo (T y U : Nat) (hy : y ≤ U) (hU : 1 ≤ U) (hT : T ≤ 1000000000000000) : ovQ (T * y) U = T * y / U ∧ ovR (T * y) U = T * y % U := by
  have h1 : T * y / U ≤ T * U / U := Nat.div_le_div_right (Nat.mul_le_mul_left _ hy)
  rw [Nat.mul_div_cancel _ (by omega)] at h1
  have h2 : T * y / U ≤ 4611686018427387903 := by omega
  unfold ovQ ovR
  rw [if_pos h2, if_pos h2]; exact ⟨rfl, rfl⟩

theorem getD_le_sum {l : List Int} (h : ∀ x ∈ l, 0 ≤ x) (k : Nat) : 0 ≤ l.getD k 0 ∧ l.getD k 0 ≤ l.sum := by
  have hs := sum_nonneg l h
  by_cases hk : k < l.length
  · have h1 := take_sum_le l (k + 1) h
    rw [take_sum_succ l k hk] at h1
    have h2 := sum_nonneg (l.take k) fun x hx => h x (List.mem_of_mem_take hx)
    have h3 := h _ (getD_mem hk)
    omega
  · have : l.getD k 0 = 0 := by simp [List.getElem?_eq_none (Nat.le_of_not_lt hk)]
    omega

theorem quo_nonneg {t : Int} {l : List Int} (h : App.Ok t l) : ∀ x ∈ App.quo t l, 0 ≤ x := by
  intro x hx
  simp only [App.quo, List.mem_map] at hx
  obtain ⟨w, hw, rfl⟩ := hx
  exact Int.ediv_nonneg (Int.mul_nonneg h.t0 (h.pos w hw)) (by have := h.sum1; omega)

/-- what is left behind k rounds -/
def LoopA (t : Int) (l : List Int) (k : Nat) (z : Int) : Prop := z = t - ((App.quo t l).take k).sum
theorem LoopA.start (t : Int) (l : List Int) : LoopA t l 0 t := by unfold LoopA; simp
theorem LoopA.bd {t z : Int} {l : List Int} {k : Nat} (h : LoopA t l k z) (ok : App.Ok t l) : 0 ≤ z ∧ z ≤ t := by
  unfold LoopA at h
  have h1 := take_sum_le (App.quo t l) k (quo_nonneg ok)
  have h2 := sum_nonneg ((App.quo t l).take k) fun x hx => quo_nonneg ok x (List.mem_of_mem_take hx)
  have h3 := (App.left_eq ok).1
  omega
theorem LoopA.next {t z : Int} {l : List Int} {k : Nat} (h : LoopA t l k z) (hk : k < l.length) : LoopA t l (k + 1) (z - (App.quo t l).getD k 0) := by
  unfold LoopA at *
  rw [take_sum_succ _ _ (by rw [App.quo_length]; exact hk)]; omega
theorem LoopA.last {t z : Int} {l : List Int} {k : Nat} (h : LoopA t l k z) (hk : l.length ≤ k) (ok : App.Ok t l) : z = (App.left t l : Nat) := by
  unfold LoopA at h
  rw [List.take_of_length_le (by rw [App.quo_length]; exact hk)] at h
  rw [h, (App.left_eq ok).1]

/-- Apportion's two results -/
def apB (t : Int) (l : List Int) : Bool := okS 1000000000000000 l && decide (0 < l.sum) && decide (0 ≤ t) && decide (t ≤ 1000000000000000)
def apV (t : Int) (l : List Int) : List Int := if apB t l = true then App.app t l else []

theorem apB_iff {t : Int} {l : List Int} : apB t l = true ↔ App.Ok t l ∧ l.sum ≤ 1000000000000000 ∧ t ≤ 1000000000000000 := by
  unfold apB
  simp only [Bool.and_eq_true, decide_eq_true_eq, okS_iff]
  exact ⟨fun ⟨⟨⟨⟨a, b⟩, c⟩, d⟩, e⟩ => ⟨⟨d, a, by omega⟩, b, e⟩, fun ⟨⟨d, a, c⟩, b, e⟩ => ⟨⟨⟨⟨a, b⟩, by omega⟩, d⟩, e⟩⟩

/-- the result of an Apportion: a slice that reads as l, in new memory -/
def Parts (w : World) (l : List Int) (b : Bool) (e : Ending) (w' : World) : Prop :=
  ∃ (ao : Option Addr) (cap : Nat), e = .returned (.tuple #[.slice ao l.length cap, .bool b]) ∧ ((ao = none → cap = 0) ∧ l.length ≤ cap) ∧ Row w' ao l ∧ Below w.heap.size w w'

def fA (t : Int) (l : List Int) (k i : Nat) : Int := if i < k then (App.quo t l).getD i 0 else 0
def gA (t : Int) (l : List Int) (k i : Nat) : Int × Int := if i < k then ((i : Int), (App.rem t l).getD i 0) else (0, 0)
def fB (t : Int) (l : List Int) (k i : Nat) : Int := (App.bump (App.quo t l) (App.rem t l) k).getD i 0
def gB (t : Int) (l : List Int) (i : Nat) : Int × Int := ((((App.ord (App.rem t l)).getD i 0 : Nat) : Int), (App.rem t l).getD ((App.ord (App.rem t l)).getD i 0) 0)

theorem fA_next (t : Int) (l : List Int) (k i : Nat) : fA t l (k + 1) i = if k = i then (App.quo t l).getD k 0 else fA t l k i := by
  unfold fA
  by_cases h : k = i
  · subst h; rw [if_pos rfl, if_pos (by omega)]
  · rw [if_neg h]
    by_cases h2 : i < k
    · rw [if_pos h2, if_pos (by omega)]
    · rw [if_neg h2, if_neg (by omega)]
theorem gA_next (t : Int) (l : List Int) (k i : Nat) : gA t l (k + 1) i = if k = i then ((k : Int), (App.rem t l).getD k 0) else gA t l k i := by
  unfold gA
  by_cases h : k = i
  · subst h; rw [if_pos rfl, if_pos (by omega)]
  · rw [if_neg h]
    by_cases h2 : i < k
    · rw [if_pos h2, if_pos (by omega)]
    · rw [if_neg h2, if_neg (by omega)]

theorem set_getD (a : List Int) (k i : Nat) (v : Int) (hk : k < a.length) : (a.set k v).getD i 0 = if k = i then v else a.getD i 0 := by
  rw [List.getD_eq_getElem?_getD, List.getD_eq_getElem?_getD]
  by_cases h : k = i
  · subst h; rw [if_pos rfl, List.getElem?_set_self hk]; rfl
  · rw [if_neg h, List.getElem?_set_ne h]

theorem fB_next (t : Int) (l : List Int) (k i : Nat) (hk : k < l.length) : fB t l (k + 1) i = if (App.ord (App.rem t l)).getD k 0 = i then fB t l k ((App.ord (App.rem t l)).getD k 0) + 1 else fB t l k i := by
  have h := ord_rank (App.rem t l) k (by rw [App.rem_length]; exact hk)
  have hq : (App.quo t l).length = (App.rem t l).length := by rw [App.quo_length, App.rem_length]
  unfold fB
  rw [← App.bump_succ hq h.2 h.1]
  exact set_getD _ _ _ _ (by rw [App.bump_length, hq]; exact h.2)

theorem fB_bd {t : Int} {l : List Int} (ok : App.Ok t l) (k i : Nat) : 0 ≤ fB t l k i ∧ fB t l k i ≤ t + 1 := by
  unfold fB
  have hq := getD_le_sum (quo_nonneg ok) i
  have hs := (App.left_eq ok).1
  by_cases h : i < (App.quo t l).length
  · rw [App.bump_getD h]; split <;> omega
  · have : (App.bump (App.quo t l) (App.rem t l) k).getD i 0 = 0 := by
      rw [List.getD_eq_getElem?_getD, List.getElem?_eq_none (by rw [App.bump_length]; omega)]; rfl
    have := ok.t0
    omega

end Go.Proofs.Ytbefbodihfijbaa
