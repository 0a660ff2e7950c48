/-
  Contracts of the small functions of package amount and of the law's helper pick: what each returns.
-/
import Derived.Test.YtbkmcncakpmgkaaRows
import Derived.WalkKit
import Derived.ProofKit
import Derived.OpenShut
import Derived.Below
import Derived.IntWalk
import Derived.Lib.Hide
import Derived.Outline
namespace Go.Proofs.Ytbkmcncakpmgkaa
set_option linter.unusedVariables false
open Go.ChangeShapes Go.WideShapes Go.ChangeAt Go.RowKit

def pickZ (c n : Int) : Int := (if c < 0 then -(c + 1) else c) % n

theorem pickZ_lo (c n : Int) (hn : 0 < n) : 0 ≤ pickZ c n := Int.emod_nonneg _ (by omega)
theorem pickZ_hi (c n : Int) (hn : 0 < n) : pickZ c n < n := Int.emod_lt_of_pos _ hn

theorem pick_any (c n : Int) (w : World) (h1 : -9223372036854775808 ≤ c) (h2 : c ≤ 9223372036854775807) (h3 : 1 ≤ n) (h4 : n ≤ 9223372036854775807) :
    Calls Try.prog 17 #[.int .i64 c, .int .i64 n] w fun e w' => e = .returned (.int .i64 (pickZ c n)) ∧ w = w' := by
  by_cases h : c < 0
  · have hp : pickZ c n = -((c + 1).tmod n) := by
      unfold pickZ; rw [if_pos h, ← Int.neg_tmod, Int.tmod_eq_emod_of_nonneg (by omega)]
    have HP := Lib.hid hp
    clear hp
    have hn0 : (n == 0) = false := beq_eq_false_iff_ne.2 (by omega)
    go_enter Try.func17, Try.ntmps17
    go_wp2
    go_ret
    exact ⟨by rw [HP.out]; rfl, rfl⟩
  · have hp : pickZ c n = c % n := by unfold pickZ; rw [if_neg h]
    have HP := Lib.hid hp
    clear hp
    have hn0 : (n == 0) = false := beq_eq_false_iff_ne.2 (by omega)
    go_enter Try.func17, Try.ntmps17
    go_wp2
    go_ret
    exact ⟨by rw [HP.out]; rfl, rfl⟩

def noneB (a b : Int) : Bool := !(decide (a < 0) || decide (b < 0))

end Go.Proofs.Ytbkmcncakpmgkaa
