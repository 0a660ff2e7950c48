import Derived.Test.YtgbnhngaeefmkaaFl14
import Derived.RegionTactic
import Derived.BigRegion

/-! Flows: insertion sort of at most twelve names. -/
namespace Go.Proofs.Ytgbnhngaeefmkaa
set_option linter.unusedVariables false
set_option linter.unusedSimpArgs false
open Go.RowKit Go.Shelf Go.Lib

/-- the order of stale names -/
def ltE (F : List En) (rk : ByteArray → Nat) (x y : En) : Prop := cmpE F rk x.nm y.nm < 0

theorem cmpE_iff (F : List En) (rk : ByteArray → Nat) (x y : ByteArray) : cmpE F rk x y < 0 ↔ (dp F rk x < dp F rk y ∨ (dp F rk x = dp F rk y ∧ ltB x y)) := by
  have hc : ∀ a b : Nat, Lib.compareInt a b = if a < b then -1 else if b < a then 1 else 0 := fun a b => by
    unfold Lib.compareInt
    by_cases h1 : a < b
    · rw [if_pos (by omega), if_pos h1]
    · rw [if_neg (by omega), if_neg h1]
      by_cases h2 : b < a
      · rw [if_pos (by omega), if_pos h2]
      · rw [if_neg (by omega), if_neg h2]
  unfold cmpE orZ
  rw [hc]
  rcases Nat.lt_trichotomy (dp F rk x) (dp F rk y) with h | h | h
  · simp [h]
  · rw [h]
    simp only [Nat.lt_irrefl, if_false, if_true, true_and, false_or]
    unfold cmpB
    by_cases h1 : ltB x y
    · simp [h1]
    · simp only [h1, if_false, iff_false]; split <;> omega
  · have h1 : ¬ dp F rk x < dp F rk y := by omega
    have h2 : ¬ dp F rk x = dp F rk y := by omega
    simp [h, h1, h2]

theorem ltE_trans (F : List En) (rk : ByteArray → Nat) (a b c : En) (h1 : ltE F rk a b) (h2 : ltE F rk b c) : ltE F rk a c := by
  unfold ltE at *
  rw [cmpE_iff] at *
  rcases h1 with h1 | ⟨h1, q1⟩ <;> rcases h2 with h2 | ⟨h2, q2⟩
  · exact .inl (by omega)
  · exact .inl (by omega)
  · exact .inl (by omega)
  · exact .inr ⟨by omega, ltB_trans q1 q2⟩
theorem ltE_tot (F : List En) (rk : ByteArray → Nat) {a b : En} (hne : a.nm ≠ b.nm) (h : ¬ ltE F rk a b) : ltE F rk b a := by
  unfold ltE at *
  rw [cmpE_iff] at *
  rcases Nat.lt_trichotomy (dp F rk a.nm) (dp F rk b.nm) with q | q | q
  · exact absurd (.inl q) h
  · rcases ltB_tri a.nm b.nm with r | r | r
    · exact absurd (.inr ⟨q, r⟩) h
    · exact absurd r hne
    · exact .inr ⟨q.symm, r⟩
  · exact .inl q

end Go.Proofs.Ytgbnhngaeefmkaa
