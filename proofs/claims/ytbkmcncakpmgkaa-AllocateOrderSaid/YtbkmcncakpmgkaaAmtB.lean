/-
  Contracts of package amount's product, over, MulDiv and Percent: what each returns.
-/
import Derived.Test.YtbkmcncakpmgkaaDivB
import Derived.WalkSmall
namespace Go.Proofs.Ytbkmcncakpmgkaa
set_option linter.unusedVariables false
open Go.ChangeShapes Go.WideShapes Go.ChangeAt Go.RowKit

def hiW (n : Nat) : Nat := n / 18446744073709551616
def loW (n : Nat) : Nat := n % 18446744073709551616
theorem hilo (n : Nat) : hiW n * 18446744073709551616 + loW n = n := by unfold hiW loW; omega
theorem loW_le (n : Nat) : loW n ≤ 18446744073709551615 := by unfold loW; omega

set_option maxHeartbeats 400000 in
theorem product_any (a b : Nat) (w : World) (h1 : a ≤ 9223372036854775807) (h2 : b ≤ 9223372036854775807) :
    Calls Try.prog 44 #[.int .i64 a, .int .i64 b] w fun e w' => e = .returned (.agg #[.int .u64 (hiW (a * b) : Nat), .int .u64 (loW (a * b) : Nat)]) ∧ Below w.heap.size w w' := by
  have hm := Try.bits_Mul64 a b (by omega) (by omega)
  change ∀ w, Calls Try.prog _ _ w fun e w' => e = .returned (.tuple #[.int .u64 (hiW (a * b) : Nat), .int .u64 (loW (a * b) : Nat)]) ∧ w' = w at hm
  have HM := Lib.hid hm
  clear hm
  generalize hiW (a * b) = hi at *
  generalize loW (a * b) = lo at *
  go_enter Try.func44, Try.ntmps44
  go_wp2_with fail
  refine (HM.out _).mono ?_
  rintro e w' ⟨rfl, rfl⟩
  go_wp2_with fail
  exact bodyPost_ret (v := .agg #[.int .u64 hi, .int .u64 lo]) (by simp [results, Try.results44, go_sem]) rfl ⟨rfl, (Below.refl _ _).alloc (Nat.le_refl _) _⟩

/-- the quotient, 0 where it is too great -/
def ovQ (n c : Nat) : Nat := if n / c ≤ 4611686018427387903 then n / c else 0
def ovR (n c : Nat) : Nat := if n / c ≤ 4611686018427387903 then n % c else 0
def ovB (n c : Nat) : Bool := decide (n / c ≤ 4611686018427387903)

theorem ov_hi {hi lo c : Nat} (h : c ≤ hi) (hc : 1 ≤ c) : ¬ (hi * 18446744073709551616 + lo) / c ≤ 4611686018427387903 := by
  have : 18446744073709551616 ≤ (hi * 18446744073709551616 + lo) / c := by
    rw [Nat.le_div_iff_mul_le (by omega)]
    have : 18446744073709551616 * c ≤ 18446744073709551616 * hi := Nat.mul_le_mul_left _ h
    omega
  omega

set_option maxHeartbeats 400000 in
theorem over_any (hi lo c : Nat) (w : World) (h1 : hi ≤ 9223372036854775807) (h2 : lo ≤ 18446744073709551615) (h3 : 1 ≤ c) (h4 : c ≤ 9223372036854775807) :
    Calls Try.prog 45 #[.agg #[.int .u64 hi, .int .u64 lo], .int .i64 c] w fun e w' => e = .returned (.tuple #[.int .i64 (ovQ (hi * 18446744073709551616 + lo) c : Nat), .int .i64 (ovR (hi * 18446744073709551616 + lo) c : Nat), .bool (ovB (hi * 18446744073709551616 + lo) c)]) ∧ Below w.heap.size w w' := by
  by_cases hc : c ≤ hi
  · have hov := ov_hi (lo := lo) hc h3
    have e1 : ovQ (hi * 18446744073709551616 + lo) c = 0 := by unfold ovQ; rw [if_neg hov]
    have e2 : ovR (hi * 18446744073709551616 + lo) c = 0 := by unfold ovR; rw [if_neg hov]
    have e3 : ovB (hi * 18446744073709551616 + lo) c = false := by unfold ovB; exact decide_eq_false hov
    rw [e1, e2, e3]
    clear hov e1 e2 e3
    go_enter Try.func45, Try.ntmps45
    go_wp2_with fail
    go_ret3
    exact ⟨rfl, (Below.refl _ _).alloc (Nat.le_refl _) _⟩
  · have hd := fun w => div_any hi lo c w (by omega) h2 h4
    have HD := Lib.hid hd
    clear hd
    have hr : (hi * 18446744073709551616 + lo) % c < c := Nat.mod_lt _ (by omega)
    by_cases hq : (hi * 18446744073709551616 + lo) / c ≤ 4611686018427387903
    · have e1 : ovQ (hi * 18446744073709551616 + lo) c = (hi * 18446744073709551616 + lo) / c := by unfold ovQ; rw [if_pos hq]
      have e2 : ovR (hi * 18446744073709551616 + lo) c = (hi * 18446744073709551616 + lo) % c := by unfold ovR; rw [if_pos hq]
      have e3 : ovB (hi * 18446744073709551616 + lo) c = true := by unfold ovB; exact decide_eq_true hq
      rw [e1, e2, e3]
      clear e1 e2 e3
      generalize (hi * 18446744073709551616 + lo) / c = Q at *
      generalize (hi * 18446744073709551616 + lo) % c = R at *
      go_enter Try.func45, Try.ntmps45
      go_wp2_with fail
      refine (HD.out _).mono ?_
      rintro e w' ⟨rfl, n, rfl⟩
      go_wp2_with fail
      go_ret3
      exact ⟨rfl, below_drewN ((Below.refl _ _).alloc (Nat.le_refl _) _) n⟩
    · have e1 : ovQ (hi * 18446744073709551616 + lo) c = 0 := by unfold ovQ; rw [if_neg hq]
      have e2 : ovR (hi * 18446744073709551616 + lo) c = 0 := by unfold ovR; rw [if_neg hq]
      have e3 : ovB (hi * 18446744073709551616 + lo) c = false := by unfold ovB; exact decide_eq_false hq
      rw [e1, e2, e3]
      clear e1 e2 e3
      generalize (hi * 18446744073709551616 + lo) / c = Q at *
      generalize (hi * 18446744073709551616 + lo) % c = R at *
      go_enter Try.func45, Try.ntmps45
      go_wp2_with fail
      refine (HD.out _).mono ?_
      rintro e w' ⟨rfl, n, rfl⟩
      go_wp2_with fail
      go_ret3
      exact ⟨rfl, below_drewN ((Below.refl _ _).alloc (Nat.le_refl _) _) n⟩

/-- MulDiv's two results -/
def mdB (a b c : Int) : Bool := decide (0 ≤ a) && decide (0 ≤ b) && decide (1 ≤ c) && decide (a * b / c ≤ 4611686018427387903)
def mdV (a b c : Int) : Int := if mdB a b c = true then a * b / c else 0

theorem md_no {a b c : Int} (h : a < 0 ∨ b < 0 ∨ c < 1) : mdB a b c = false ∧ mdV a b c = 0 := by
  have e : mdB a b c = false := by
    unfold mdB; simp; omega
  exact ⟨e, by unfold mdV; rw [e]; simp⟩

theorem md_ov (a b c : Nat) (hc : 1 ≤ c) : mdB a b c = ovB (a * b) c ∧ mdV a b c = (ovQ (a * b) c : Nat) := by
  have e0 : (a : Int) * b / c = ((a * b / c : Nat) : Int) := by rw [Int.natCast_ediv, Int.natCast_mul]
  have e : mdB a b c = ovB (a * b) c := by
    unfold mdB ovB; rw [e0, Bool.eq_iff_iff]; simp; omega
  refine ⟨e, ?_⟩
  unfold mdV ovQ
  rw [e]; unfold ovB; simp only [decide_eq_true_eq]
  split
  · exact e0
  · rfl

theorem hiW_le (a b : Nat) (h1 : a ≤ 9223372036854775807) (h2 : b ≤ 9223372036854775807) : hiW (a * b) ≤ 9223372036854775807 := by
  unfold hiW
  have : a * b ≤ 9223372036854775807 * 9223372036854775807 := Nat.mul_le_mul h1 h2
  omega

/-- product and over, one behind the other -/
theorem over_product (a b c : Nat) (w : World) (h1 : a ≤ 9223372036854775807) (h2 : b ≤ 9223372036854775807) (h3 : 1 ≤ c) (h4 : c ≤ 9223372036854775807) :
    Calls Try.prog 45 #[.agg #[.int .u64 (hiW (a * b) : Nat), .int .u64 (loW (a * b) : Nat)], .int .i64 c] w fun e w' => e = .returned (.tuple #[.int .i64 (ovQ (a * b) c : Nat), .int .i64 (ovR (a * b) c : Nat), .bool (ovB (a * b) c)]) ∧ Below w.heap.size w w' := by
  have h := over_any (hiW (a * b)) (loW (a * b)) c w (hiW_le a b h1 h2) (loW_le _) h3 h4
  rwa [hilo] at h

theorem bch {B C : Nat} {a b c : World} (h1 : Below B a b) (h2 : Below C b c) (h : B ≤ C) : Below B a c := h1.trans (h2.mono h)

/-- Percent's result -/
def pctV (t s : Int) : Int := if 0 ≤ t ∧ t ≤ 1000000000000000 ∧ 0 ≤ s ∧ s ≤ 1000000 then t * s / 1000000 else 0

theorem pct_md {t s : Int} (h : 0 ≤ t ∧ t ≤ 1000000000000000 ∧ 0 ≤ s ∧ s ≤ 1000000) : mdV t s 1000000 = pctV t s := by
  have e : t * s ≤ 1000000000000000 * 1000000 := Int.mul_le_mul h.2.1 h.2.2.2 h.2.2.1 (by omega)
  have : mdB t s 1000000 = true := by unfold mdB; simp; omega
  unfold mdV pctV; rw [if_pos this, if_pos h]

end Go.Proofs.Ytbkmcncakpmgkaa
