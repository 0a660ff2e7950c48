import Derived.WalkKit

/-! Insertion into a sorted list, as the code goes: from the end. -/
namespace Go.Proofs.Ytgbnhngaeefmkaa
set_option linter.unusedVariables false

def insAt {α : Type} (s : List α) (x : α) (j : Nat) : List α := s.take j ++ x :: s.drop j

theorem insAt_len {α : Type} (s : List α) (x : α) (j : Nat) : (insAt s x j).length = s.length + 1 := by simp [insAt]; omega
theorem insAt_at {α : Type} (s : List α) (x : α) (j : Nat) (h : j ≤ s.length) : (insAt s x j)[j]? = some x := by
  unfold insAt
  rw [List.getElem?_append_right (by simp; omega)]
  simp [Nat.min_eq_left h]
theorem insAt_before {α : Type} (s : List α) (x : α) (j : Nat) (h : j + 1 ≤ s.length) : (insAt s x (j + 1))[j]? = s[j]? := by
  unfold insAt
  rw [List.getElem?_append_left (by simp; omega), List.getElem?_take_of_lt (by omega)]

/-- the swap of j and j + 1 brings x one place down -/
theorem insAt_swap {α : Type} (s : List α) (x y : α) (j : Nat) (h : j < s.length) (hy : s[j] = y) : ((insAt s x (j + 1)).set (j + 1) y).set j x = insAt s x j := by
  unfold insAt
  have e1 : s.take (j + 1) = s.take j ++ [y] := by rw [List.take_succ_eq_append_getElem h, hy]
  have e2 : s.drop j = y :: s.drop (j + 1) := by rw [List.drop_eq_getElem_cons h, hy]
  have hl : (s.take j).length = j := by simp; omega
  rw [e1, e2, List.append_assoc, List.set_append_right _ _ (by omega), hl]
  simp only [Nat.add_sub_cancel_left, List.cons_append, List.nil_append, List.set_cons_succ, List.set_cons_zero]
  rw [List.set_append_right _ _ (by omega), hl, Nat.sub_self, List.set_cons_zero]

theorem insAt_perm {α : Type} (s : List α) (x : α) (j : Nat) : (insAt s x j).Perm (x :: s) := by
  unfold insAt
  exact (List.perm_middle).trans (List.Perm.cons x (by rw [List.take_append_drop]))

/-- the place is found: sorted -/
theorem insAt_sorted {α : Type} {lt : α → α → Prop} (htr : ∀ a b c, lt a b → lt b c → lt a c) {s : List α} {x : α} {j : Nat} (hs : s.Pairwise lt) (h1 : ∀ y ∈ s.take j, lt y x) (h2 : ∀ y ∈ s.drop j, lt x y) : (insAt s x j).Pairwise lt := by
  unfold insAt
  rw [List.pairwise_append]
  refine ⟨hs.sublist (List.take_sublist _ _), List.pairwise_cons.2 ⟨h2, hs.sublist (List.drop_sublist _ _)⟩, fun a ha b hb => ?_⟩
  rcases List.mem_cons.1 hb with rfl | hb
  · exact h1 a ha
  · exact htr a x b (h1 a ha) (h2 b hb)

/-- all before the last one that is less are less -/
theorem take_lt {α : Type} {lt : α → α → Prop} (htr : ∀ a b c, lt a b → lt b c → lt a c) {s : List α} {x : α} {j : Nat} (hj : j < s.length) (hs : s.Pairwise lt) (h : lt s[j] x) : ∀ y ∈ s.take (j + 1), lt y x := by
  intro y hy
  obtain ⟨i, hi, rfl⟩ := List.mem_iff_getElem.1 hy
  rw [List.length_take] at hi
  rw [List.getElem_take]
  rcases Nat.lt_or_ge i j with q | q
  · exact htr _ _ _ (List.pairwise_iff_getElem.1 hs i j (by omega) hj q) h
  · have : i = j := by omega
    subst this; exact h

end Go.Proofs.Ytgbnhngaeefmkaa
