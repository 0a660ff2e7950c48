/-
  Contracts of the small functions of package amount and of the law's helper pick: what each returns.
-/
import Derived.Test.YtbefbodihfijbaaRows
import Derived.WalkKit
import Derived.ProofKit
import Derived.OpenShut
import Derived.Below
import Derived.IntWalk
import Derived.Lib.Hide
import Derived.Outline
namespace Go.Proofs.Ytbefbodihfijbaa
set_option linter.unusedVariables false
open Go.ChangeShapes Go.WideShapes Go.ChangeAt Go.RowKit

def pickZ (c n : Int) : Int := (if c < 0 then -(c + 1) else c) % n

theorem pickZ_lo (c n : Int) (hn : 0 < n) : 0 ≤ pickZ c n := Int.emod_nonneg _ (by omega)
theorem pickZ_hi (c n : Int) (hn : 0 < n) : pickZ c n < n := Int.emod_lt_of_pos _ hn

theorem pick_any (c n : Int) (w : World) (h1 : -9223372036854775808 ≤ c) (h2 : c ≤ 9223372036854775807) (h3 : 1 ≤ n) (h4 : n ≤ 9223372036854775807) :
    Calls Try.prog 13 #[.int .i64 c, .int .i64 n] w fun e w' => e = .returned (.int .i64 (pickZ c n)) ∧ w = w' := by
  by_cases h : c < 0
  · have hp : pickZ c n = -((c + 1).tmod n) := by
      unfold pickZ; rw [if_pos h, ← Int.neg_tmod, Int.tmod_eq_emod_of_nonneg (by omega)]
    have HP := Lib.hid hp
    clear hp
    have hn0 : (n == 0) = false := beq_eq_false_iff_ne.2 (by omega)
    go_enter Try.func13, Try.ntmps13
    go_wp2
    go_ret
    exact ⟨by rw [HP.out]; rfl, rfl⟩
  · have hp : pickZ c n = c % n := by unfold pickZ; rw [if_neg h]
    have HP := Lib.hid hp
    clear hp
    have hn0 : (n == 0) = false := beq_eq_false_iff_ne.2 (by omega)
    go_enter Try.func13, Try.ntmps13
    go_wp2
    go_ret
    exact ⟨by rw [HP.out]; rfl, rfl⟩

/-- Cents -/
theorem cents_pos (n : Int) (w : World) (h1 : 0 ≤ n) (h2 : n ≤ 9223372036854775807) :
    Calls Try.prog 23 #[.int .i64 n] w fun e w' => e = .returned (.tuple #[.int .i64 (n - n % 10000), .int .i64 (n % 10000)]) ∧ w = w' := by
  go_enter Try.func23, Try.ntmps23
  go_wp2
  go_ret2
  exact ⟨rfl, rfl⟩
theorem cents_neg (n : Int) (w : World) (h1 : n < 0) (h2 : -9223372036854775808 ≤ n) :
    Calls Try.prog 23 #[.int .i64 n] w fun e w' => e = .returned (.tuple #[.int .i64 0, .int .i64 n]) ∧ w = w' := by
  go_enter Try.func23, Try.ntmps23
  go_wp2
  go_ret2
  exact ⟨rfl, rfl⟩
theorem rcents_pos (n : Int) (w : World) (h1 : 0 ≤ n) (h2 : n ≤ 9223372036854775807) :
    Calls Try.prog 24 #[.int .i64 n] w fun e w' => e = .returned (.tuple #[.int .i64 (n / 10000 * 10000), .int .i64 (n % 10000)]) ∧ w = w' := by
  go_enter Try.func24, Try.ntmps24
  go_wp2
  go_ret2
  exact ⟨rfl, rfl⟩
theorem rcents_neg (n : Int) (w : World) (h1 : n < 0) (h2 : -9223372036854775808 ≤ n) :
    Calls Try.prog 24 #[.int .i64 n] w fun e w' => e = .returned (.tuple #[.int .i64 0, .int .i64 n]) ∧ w = w' := by
  go_enter Try.func24, Try.ntmps24
  go_wp2
  go_ret2
  exact ⟨rfl, rfl⟩

/-- the closure of none: n < least -/
theorem none1 (n m : Int) (g : Nat) (w : World) (hc : w.cell? ⟨g, 0, none⟩ = some (.int .i64 m)) :
    Calls Try.prog 35 #[.int .i64 n, .pointer (some ⟨g, 0, none⟩)] w fun e w' => e = .returned (.bool (decide (n < m))) ∧ w = w' := by
  go_enter Try.func35, Try.ntmps35
  go_wp2
  go_ret
  exact ⟨rfl, rfl⟩

def noneB (a b : Int) : Bool := !(decide (a < 0) || decide (b < 0))

set_option maxHeartbeats 400000 in
theorem none_any (a b : Int) (g : Nat) (w : World) (c0 : w.cell? ⟨g, 0, none⟩ = some (.int .i64 a)) (c1 : w.cell? ⟨g, 1, none⟩ = some (.int .i64 b)) (hg : g < w.heap.size) :
    Calls Try.prog 28 #[.int .i64 0, .slice (some ⟨g, 0, none⟩) 2 2] w fun e w' => e = .returned (.bool (noneB a b)) ∧ Below w.heap.size w w' := by
  have hB : ∀ (W : World) (o : Obj), Below W.heap.size W (W.alloc o) := fun W o => (Below.refl _ _).alloc (Nat.le_refl _) _
  by_cases h1 : a < 0
  · have hp : noneB a b = false := by simp [noneB, h1]
    have HP := Lib.hid hp
    clear hp
    go_enter Try.func28, Try.ntmps28
    go_wp2
    refine wp_loop_rounds 1 ?_
    rw [rounds_succ]
    go_wp2
    go_ret
    exact ⟨by rw [HP.out]; rfl, hB _ _⟩
  · by_cases h2 : b < 0
    · have hp : noneB a b = false := by simp [noneB, h2]
      have HP := Lib.hid hp
      clear hp
      go_enter Try.func28, Try.ntmps28
      go_wp2
      refine wp_loop_rounds 2 ?_
      rw [rounds_succ]
      go_wp2
      rw [rounds_succ]
      go_wp2
      go_ret
      exact ⟨by rw [HP.out]; rfl, hB _ _⟩
    · have hp : noneB a b = true := by simp [noneB]; omega
      have HP := Lib.hid hp
      clear hp
      go_enter Try.func28, Try.ntmps28
      go_wp2
      refine wp_loop_rounds 3 ?_
      rw [rounds_succ]
      go_wp2
      rw [rounds_succ]
      go_wp2
      rw [rounds_succ]
      go_wp2
      go_ret
      exact ⟨by rw [HP.out]; rfl, hB _ _⟩

end Go.Proofs.Ytbefbodihfijbaa
