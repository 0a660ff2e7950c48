import Derived.Test.YtgbnhngaeefmkaaFlowP
import Derived.Sort.OwnSorted
import Derived.Lib.SmallJoins
import Derived.Lib.SlicesCompact
import Derived.Lib.RowBridge

/-! Compact of a sorted list of names: ascending, each once. -/
namespace Go.Proofs.Ytgbnhngaeefmkaa
set_option linter.unusedVariables false
open Go.Lib Go.Sort

theorem bytes_lt_of {a b : List UInt8} (h : a ≤ b) (hne : a ≠ b) : a < b := by
  rcases Decidable.em (a < b) with h1 | h1
  · exact h1
  · exact absurd (List.le_antisymm h (List.not_lt.1 h1)) hne

/-- of the first m of a sorted list: what is kept -/
theorem compactUpTo_asc {d : Array (List UInt8)} (hs : d.toList.Pairwise (· ≤ ·)) : ∀ m, m ≤ d.size → (compactUpTo d m).Pairwise (· < ·) ∧ (∀ x, x ∈ compactUpTo d m ↔ ∃ i, i < m ∧ d[i]! = x)
  | 0, _ => ⟨by simp [compactUpTo], fun x => by simp [compactUpTo]⟩
  | m + 1, hm => by
    obtain ⟨h1, h2⟩ := compactUpTo_asc hs m (by omega)
    have hle : ∀ i j, i < j → j < d.size → d[i]! ≤ d[j]! := fun i j hij hj => by
      have := List.pairwise_iff_getElem.1 hs i j (by simp; omega) (by simpa using hj) hij
      rw [getElem!_pos d i (by omega), getElem!_pos d j hj]
      simpa using this
    rw [compactUpTo_succ]
    by_cases hk : keeps d m = true
    · rw [if_pos hk]
      refine ⟨List.pairwise_append.2 ⟨h1, by simp, fun a ha b hb => ?_⟩, fun x => ?_⟩
      · rw [List.mem_singleton] at hb
        subst hb
        obtain ⟨i, hi, rfl⟩ := (h2 a).1 ha
        unfold keeps at hk
        rw [decide_eq_true_eq] at hk
        rcases hk with hk | hk
        · omega
        · have h3 := bytes_lt_of (hle (m - 1) m (by omega) (by omega)) (fun e => hk e.symm)
          rcases Nat.lt_or_ge i (m - 1) with q | q
          · exact List.lt_of_le_of_lt (hle i (m - 1) q (by omega)) h3
          · have : i = m - 1 := by omega
            rw [this]; exact h3
      · rw [List.mem_append, h2, List.mem_singleton]
        constructor
        · rintro (⟨i, hi, e⟩ | e)
          · exact ⟨i, by omega, e⟩
          · exact ⟨m, by omega, e.symm⟩
        · rintro ⟨i, hi, e⟩
          rcases Nat.lt_or_ge i m with q | q
          · exact .inl ⟨i, q, e⟩
          · have : i = m := by omega
            subst this; exact .inr e.symm
    · rw [if_neg hk, List.append_nil]
      refine ⟨h1, fun x => ?_⟩
      rw [h2]
      constructor
      · rintro ⟨i, hi, e⟩; exact ⟨i, by omega, e⟩
      · rintro ⟨i, hi, e⟩
        rcases Nat.lt_or_ge i m with q | q
        · exact ⟨i, q, e⟩
        · have : i = m := by omega
          subst this
          unfold keeps at hk
          rw [decide_eq_true_eq] at hk
          have hi0 : ¬ i = 0 := fun e => hk (.inl e)
          have he : d[i]! = d[i - 1]! := Classical.byContradiction fun e => hk (.inr e)
          exact ⟨i - 1, by omega, by rw [← he]; exact e⟩

def unB (l : List UInt8) : ByteArray := ⟨l.toArray⟩
theorem unB_data (s : ByteArray) : unB s.data.toList = s := by cases s; simp [unB]
theorem data_unB (l : List UInt8) : (unB l).data.toList = l := by simp [unB]
theorem ltB_data (a b : ByteArray) : ltB a b ↔ a.data.toList < b.data.toList := by unfold ltB; rw [Go.ByteArray.toList_eq, Go.ByteArray.toList_eq]

def rows (xs : List ByteArray) : List (List UInt8) := xs.map (·.data.toList)
def sortedL (xs : List ByteArray) : List (List UInt8) := (rows xs).mergeSort fun x y => decide (x ≤ y)

theorem sortedL_len (xs : List ByteArray) : (sortedL xs).length = xs.length := by unfold sortedL rows; rw [List.length_mergeSort, List.length_map]
theorem sortedL_mem (xs : List ByteArray) (x : List UInt8) : x ∈ sortedL xs ↔ x ∈ rows xs := by unfold sortedL; rw [List.mem_mergeSort]
theorem sortedL_asc (xs : List ByteArray) : (sortedL xs).Pairwise (· ≤ ·) := by
  have := List.pairwise_mergeSort (le := fun x y : List UInt8 => decide (x ≤ y)) (fun a b c h1 h2 => by
    rw [decide_eq_true_eq] at *; exact List.le_trans h1 h2) (fun a b => by
    rw [Bool.or_eq_true, decide_eq_true_eq, decide_eq_true_eq]; exact List.le_total a b) (rows xs)
  exact this.imp (fun h => by simpa using h)

/-- slices.Compact(slices.Sorted(..)) -/
theorem compact_sortU (xs : List ByteArray) : (compact (sortedL xs)).map unB = sortU xs := by
  obtain ⟨h1, h2⟩ := compactUpTo_asc (d := (sortedL xs).toArray) (by simpa using sortedL_asc xs) (sortedL xs).length (by simp)
  refine asc_ext (List.pairwise_map.2 (h1.imp (fun {a b} h => by rw [ltB_data, data_unB, data_unB]; exact h))) (sortU_sorted xs) (fun z => ?_)
  rw [mem_sortU, List.mem_map]
  have hmem : ∀ y, y ∈ compact (sortedL xs) ↔ y ∈ sortedL xs := fun y => by
    unfold compact
    rw [h2, List.mem_iff_getElem]
    constructor
    · rintro ⟨i, hi, e⟩
      exact ⟨i, hi, by rw [getElem!_pos _ i (by simpa using hi)] at e; simpa using e⟩
    · rintro ⟨i, hi, e⟩
      exact ⟨i, hi, by rw [getElem!_pos _ i (by simpa using hi)]; simpa using e⟩
  constructor
  · rintro ⟨y, hy, rfl⟩
    rw [hmem, sortedL_mem] at hy
    obtain ⟨x, hx, rfl⟩ := List.mem_map.1 hy
    rw [unB_data]; exact hx
  · intro hz
    exact ⟨z.data.toList, by rw [hmem, sortedL_mem]; exact List.mem_map.2 ⟨z, hz, rfl⟩, unB_data z⟩

theorem flat_encT (l : List ByteArray) : l.flatMap encT = l.map Value.string := by
  induction l with
  | nil => rfl
  | cons a r ih => rw [List.flatMap_cons, ih]; rfl

theorem rows_enc (xs : List ByteArray) : xs.flatMap encT = (rows xs).map encStr := by rw [flat_encT]; exact Go.Joins.strings_enc xs
theorem enc_rows (ys : List (List UInt8)) : ys.map encStr = (ys.map unB).flatMap encT := by
  have e : rows (ys.map unB) = ys := by
    unfold rows; rw [List.map_map]
    conv => rhs; rw [← List.map_id ys]
    exact List.map_congr_left fun y _ => data_unB y
  rw [rows_enc, e]

end Go.Proofs.Ytgbnhngaeefmkaa
