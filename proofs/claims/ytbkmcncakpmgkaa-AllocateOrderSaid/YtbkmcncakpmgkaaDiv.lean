/-
  The contract of bits.Div64 where the divisor is less than 2^63 and greater than the high word: quotient and remainder.
-/
import Derived.Test.YtbkmcncakpmgkaaShelf
import Derived.Test.YtbkmcncakpmgkaaMath
import Derived.Test.YtbkmcncakpmgkaaAmtA
import Derived.Deep.QuietTactic
import Derived.BigQuiet
namespace Go.Proofs.Ytbkmcncakpmgkaa
set_option linter.unusedVariables false
open Go.ChangeShapes Go.WideShapes Go.ChangeAt Go.RowKit

theorem div_low (lo y : Int) (w : World) (h1 : 0 ≤ lo) (h2 : lo ≤ 18446744073709551615) (h3 : 1 ≤ y) (h4 : y ≤ 9223372036854775807) :
    Calls Try.prog 56 #[.int .u64 0, .int .u64 lo, .int .u64 y] w fun e w' => e = .returned (.tuple #[.int .u64 (lo / y), .int .u64 (lo % y)]) ∧ ∃ n, w' = w.drewN n := by
  have hy0 : (y == 0) = false := beq_eq_false_iff_ne.2 (by omega)
  have hy1 : decide (y ≤ 0) = false := by simp; omega
  go_enter Try.func56, Try.ntmps56
  go_wp2_with fail
  go_quiet (fail)
  go_wp2_with fail
  go_ret2
  exact ⟨rfl, _, rfl⟩

theorem mulFits (q : Int) (y : Nat) (h0 : 0 ≤ q) (hq : q < 4294967296) (hy : y < 4294967296) : IntKind.u64.wrap (q * y) = q * y := by
  obtain ⟨k, rfl⟩ := Int.eq_ofNat_of_zero_le h0
  have h : k * y ≤ 4294967295 * 4294967295 := Nat.mul_le_mul (by omega) (by omega)
  rw [DivMath.wrap_u64, ← Int.natCast_mul]
  omega

def QOk (U u y1 y0 : Nat) (Q : Int) : Prop := Q = ((U * 4294967296 + u) / (y1 * 4294967296 + y0) : Nat)
def InvZ (U u y1 y0 : Nat) (a b : Int) : Prop := 0 ≤ a ∧ 0 ≤ b ∧ DivMath.Inv U u y1 y0 a.toNat b.toNat

theorem big {U u y1 y0 : Nat} {a b m : Int} (D : DivMath.Dig U u y1 y0) (I : InvZ U u y1 y0 a b) (hm : a * (y0 : Int) = m) (t : 4294967296 ≤ a ∨ 4294967296 * b + u < m) :
    1 ≤ a ∧ (b + y1 < 4294967296 → InvZ U u y1 y0 (a - 1) (b + y1)) ∧ (4294967296 ≤ b + y1 → a - 1 = ((U * 4294967296 + u) / (y1 * 4294967296 + y0) : Nat)) := by
  obtain ⟨h1, h2, h3⟩ := I
  obtain ⟨k, rfl⟩ := Int.eq_ofNat_of_zero_le h1
  obtain ⟨l, rfl⟩ := Int.eq_ofNat_of_zero_le h2
  rw [Int.toNat_natCast, Int.toNat_natCast] at h3
  have t' : 4294967296 ≤ k ∨ 4294967296 * l + u < k * y0 := by
    rcases t with t | t
    · left; omega
    · right; rw [← Int.natCast_mul] at hm; omega
  have hb := DivMath.toobig D h3 t'
  have hk : 1 ≤ k := Nat.lt_of_le_of_lt (Nat.zero_le _) hb
  refine ⟨by omega, fun hr => ⟨by omega, by omega, ?_⟩, fun hr => ?_⟩
  · rw [show ((k : Int) - 1).toNat = k - 1 by omega, show ((l : Int) + y1).toNat = l + y1 by omega]
    exact DivMath.next D h3 t' (by omega)
  · rw [← DivMath.last D h3 t' (by omega)]; omega

theorem small {U u y1 y0 : Nat} {a b m : Int} (D : DivMath.Dig U u y1 y0) (I : InvZ U u y1 y0 a b) (hm : a * (y0 : Int) = m) (t : m ≤ 4294967296 * b + u) :
    a = ((U * 4294967296 + u) / (y1 * 4294967296 + y0) : Nat) := by
  obtain ⟨h1, h2, h3⟩ := I
  obtain ⟨k, rfl⟩ := Int.eq_ofNat_of_zero_le h1
  obtain ⟨l, rfl⟩ := Int.eq_ofNat_of_zero_le h2
  rw [Int.toNat_natCast, Int.toNat_natCast] at h3
  rw [← DivMath.exact_ D h3 (by rw [← Int.natCast_mul] at hm; omega)]

set_option maxRecDepth 100000 in
set_option maxHeartbeats 4000000 in
theorem div_core (hi lo y s Y U V y1 y0 u1 u0 R1 R0 : Nat) (q r Q1 q2 r2 Q0 : Int) (w : World) (h0 : 1 ≤ hi) (h1 : hi < y) (h2 : lo ≤ 18446744073709551615) (h4 : y ≤ 9223372036854775807) (s1 : 1 ≤ s) (s2 : s ≤ 62)
    (e1 : IntKind.u64.wrap (64 - (Lib.bitLen y : Int)) = (s : Int)) (e2 : min s 64 = s) (e2' : min (64 - s) 64 = 64 - s) (e3 : IntKind.u64.wrap ((y : Int) * 2 ^ s) = (Y : Int))
    (f1 : bits .or .u64 (IntKind.u64.wrap ((hi : Int) * 2 ^ s)) ((lo : Int) / 2 ^ (64 - s)) = (U : Int)) (f3 : IntKind.u64.wrap ((lo : Int) * 2 ^ s) = (V : Int))
    (g1 : (Y : Int) / 4294967296 = y1) (g0 : bits .and .u64 (Y : Int) 4294967295 = y0) (k1 : (V : Int) / 4294967296 = u1) (k0 : bits .and .u64 (V : Int) 4294967295 = u0)
    (hY : Y < 18446744073709551616) (hU : U < 18446744073709551616) (hV : V < 18446744073709551616) (D : DivMath.Dig U u1 y1 y0) (D2 : DivMath.Dig R1 u0 y1 y0)
    (b1 : 2147483648 ≤ y1) (b1' : y1 < 4294967296) (b0 : y0 < 4294967296) (c1 : u1 < 4294967296) (c0 : u0 < 4294967296)
    (q1 : (U : Int) / (y1 : Int) = q) (r1 : IntKind.u64.wrap ((U : Int) - IntKind.u64.wrap (q * y1)) = r) (I : InvZ U u1 y1 y0 q r) (bq0 : 0 ≤ q) (bq : q ≤ 8589934592) (br0 : 0 ≤ r) (br : r < 4294967296)
    (HQ1 : QOk U u1 y1 y0 Q1) (bQ10 : 0 ≤ Q1) (bQ1 : Q1 < 4294967296) (bR1 : R1 < 18446744073709551616)
    (rr1 : IntKind.u64.wrap (IntKind.u64.wrap (IntKind.u64.wrap ((U : Int) * 4294967296) + u1) - IntKind.u64.wrap (Q1 * Y)) = R1)
    (q2' : (R1 : Int) / (y1 : Int) = q2) (r2' : IntKind.u64.wrap ((R1 : Int) - IntKind.u64.wrap (q2 * y1)) = r2) (I2 : InvZ R1 u0 y1 y0 q2 r2) (bq20 : 0 ≤ q2) (bq2 : q2 ≤ 8589934592) (br20 : 0 ≤ r2) (br2 : r2 < 4294967296)
    (HQ0 : QOk R1 u0 y1 y0 Q0) (bQ00 : 0 ≤ Q0) (bQ0 : Q0 < 4294967296) (bR0 : R0 < 18446744073709551616)
    (rr0 : IntKind.u64.wrap (IntKind.u64.wrap (IntKind.u64.wrap ((R1 : Int) * 4294967296) + u0) - IntKind.u64.wrap (Q0 * Y)) = R0) :
    Calls Try.prog 56 #[.int .u64 hi, .int .u64 lo, .int .u64 y] w fun e w' => e = .returned (.tuple #[.int .u64 (Q1 * 4294967296 + Q0), .int .u64 ((R0 : Int) / 2 ^ s)]) ∧ ∃ n, w' = w.drewN n := by
  have hy0 : ((y : Int) == 0) = false := beq_eq_false_iff_ne.2 (by omega)
  have hy1 : decide (y ≤ hi) = false := by simp; omega
  have hy2 : ((hi : Int) == 0) = false := beq_eq_false_iff_ne.2 (by omega)
  have hy3 : ((y1 : Int) == 0) = false := beq_eq_false_iff_ne.2 (by omega)
  go_enter Try.func56, Try.ntmps56
  go_wp2_with (go_at_call 69; refine (Try.bits_LeadingZeros64 _ _ (by omega) (by omega)).mono ?_; rintro e w' ⟨rfl, rfl⟩)
  go_loop [15, 16] (fun a b => ∃ q r : Int, InvZ U u1 y1 y0 q r ∧ 0 ≤ q ∧ q ≤ 8589934592 ∧ 0 ≤ r ∧ r < 4294967296 ∧ a = .int .u64 q ∧ b = .int .u64 r) (fun _ b => 4294967296 - (intOf b).toNat)
  case atStart => exact ⟨q, r, I, bq0, bq, br0, br, rfl, rfl⟩
  case round =>
    clear I q1 r1 bq br e1 e3 f1 f3 g1 g0 k1 k0
    obtain ⟨a, b, I, ba0, bq, bb0, br, rfl, rfl⟩ := hrel
    obtain ⟨m, hm⟩ : ∃ m, m = a * (y0 : Int) := ⟨_, rfl⟩
    by_cases ta : 4294967296 ≤ a
    · obtain ⟨hq, hn, hl⟩ := big D I hm.symm (.inl ta)
      by_cases hr : b + y1 < 4294967296
      · have N := hn hr
        clear hm hn hl
        go_wp2_with fail
        go_round
        case rel => exact ⟨a - 1, b + y1, N, by omega, by omega, by omega, by omega, rfl, rfl⟩
        case measure => simp [intOf]; omega
      · have L' : a - 1 = Q1 := (hl (by omega)).trans HQ1.symm
        clear hm hn hl
        go_wp2_with fail
        clear L' I
        go_loop [18, 16] (fun a b => ∃ q r : Int, InvZ R1 u0 y1 y0 q r ∧ 0 ≤ q ∧ q ≤ 8589934592 ∧ 0 ≤ r ∧ r < 4294967296 ∧ a = .int .u64 q ∧ b = .int .u64 r) (fun _ b => 4294967296 - (intOf b).toNat)
        case atStart => exact ⟨q2, r2, I2, by omega, bq2, by omega, br2, rfl, rfl⟩
        case round =>
          clear I2 q2' r2' bq2 br2
          obtain ⟨c, d, I, bc0, bq, bd0, br, rfl, rfl⟩ := hrel
          obtain ⟨m, hm⟩ : ∃ m, m = c * (y0 : Int) := ⟨_, rfl⟩
          by_cases ta : 4294967296 ≤ c
          · obtain ⟨hq, hn, hl⟩ := big D2 I hm.symm (.inl ta)
            by_cases hr : d + y1 < 4294967296
            · have N := hn hr
              clear hm hn hl
              go_wp2_with fail
              go_round
              case rel => exact ⟨c - 1, d + y1, N, by omega, by omega, by omega, by omega, rfl, rfl⟩
              case measure => simp [intOf]; omega
            · have L' : c - 1 = Q0 := (hl (by omega)).trans HQ0.symm
              clear hm hn hl
              go_wp2_with fail
              go_ret2
              exact ⟨rfl, 0, rfl⟩
          · have mf : IntKind.u64.wrap (c * (y0 : Int)) = m := (mulFits c y0 (by omega) (by omega) b0).trans hm.symm
            have hm' := hm
            by_cases tb : 4294967296 * d + u0 < m
            · obtain ⟨hq, hn, hl⟩ := big D2 I hm.symm (.inr tb)
              by_cases hr : d + y1 < 4294967296
              · have N := hn hr
                clear hm hm' hn hl
                go_wp2_with fail
                go_round
                case rel => exact ⟨c - 1, d + y1, N, by omega, by omega, by omega, by omega, rfl, rfl⟩
                case measure => simp [intOf]; omega
              · have L' : c - 1 = Q0 := (hl (by omega)).trans HQ0.symm
                clear hm hm' hn hl
                go_wp2_with fail
                go_ret2
                exact ⟨rfl, 0, rfl⟩
            · have L : c = Q0 := (small D2 I hm.symm (by omega)).trans HQ0.symm
              clear hm hm'
              subst L
              go_wp2_with fail
              go_ret2
              exact ⟨rfl, 0, rfl⟩
    · have mf : IntKind.u64.wrap (a * (y0 : Int)) = m := (mulFits a y0 (by omega) (by omega) b0).trans hm.symm
      have hm' := hm
      by_cases tb : 4294967296 * b + u1 < m
      · obtain ⟨hq, hn, hl⟩ := big D I hm.symm (.inr tb)
        by_cases hr : b + y1 < 4294967296
        · have N := hn hr
          clear hm hm' hn hl
          go_wp2_with fail
          go_round
          case rel => exact ⟨a - 1, b + y1, N, by omega, by omega, by omega, by omega, rfl, rfl⟩
          case measure => simp [intOf]; omega
        · have L' : a - 1 = Q1 := (hl (by omega)).trans HQ1.symm
          clear hm hm' hn hl
          go_wp2_with fail
          clear L' I
          go_loop [18, 16] (fun a b => ∃ q r : Int, InvZ R1 u0 y1 y0 q r ∧ 0 ≤ q ∧ q ≤ 8589934592 ∧ 0 ≤ r ∧ r < 4294967296 ∧ a = .int .u64 q ∧ b = .int .u64 r) (fun _ b => 4294967296 - (intOf b).toNat)
          case atStart => exact ⟨q2, r2, I2, by omega, bq2, by omega, br2, rfl, rfl⟩
          case round =>
            clear I2 q2' r2' bq2 br2
            obtain ⟨c, d, I, bc0, bq, bd0, br, rfl, rfl⟩ := hrel
            obtain ⟨m, hm⟩ : ∃ m, m = c * (y0 : Int) := ⟨_, rfl⟩
            by_cases ta : 4294967296 ≤ c
            · obtain ⟨hq, hn, hl⟩ := big D2 I hm.symm (.inl ta)
              by_cases hr : d + y1 < 4294967296
              · have N := hn hr
                clear hm hn hl
                go_wp2_with fail
                go_round
                case rel => exact ⟨c - 1, d + y1, N, by omega, by omega, by omega, by omega, rfl, rfl⟩
                case measure => simp [intOf]; omega
              · have L' : c - 1 = Q0 := (hl (by omega)).trans HQ0.symm
                clear hm hn hl
                go_wp2_with fail
                go_ret2
                exact ⟨rfl, 0, rfl⟩
            · have mf : IntKind.u64.wrap (c * (y0 : Int)) = m := (mulFits c y0 (by omega) (by omega) b0).trans hm.symm
              have hm' := hm
              by_cases tb : 4294967296 * d + u0 < m
              · obtain ⟨hq, hn, hl⟩ := big D2 I hm.symm (.inr tb)
                by_cases hr : d + y1 < 4294967296
                · have N := hn hr
                  clear hm hm' hn hl
                  go_wp2_with fail
                  go_round
                  case rel => exact ⟨c - 1, d + y1, N, by omega, by omega, by omega, by omega, rfl, rfl⟩
                  case measure => simp [intOf]; omega
                · have L' : c - 1 = Q0 := (hl (by omega)).trans HQ0.symm
                  clear hm hm' hn hl
                  go_wp2_with fail
                  go_ret2
                  exact ⟨rfl, 0, rfl⟩
              · have L : c = Q0 := (small D2 I hm.symm (by omega)).trans HQ0.symm
                clear hm hm'
                subst L
                go_wp2_with fail
                go_ret2
                exact ⟨rfl, 0, rfl⟩
      · have L : a = Q1 := (small D I hm.symm (by omega)).trans HQ1.symm
        clear hm hm'
        subst L
        go_wp2_with fail
        clear I
        go_loop [18, 16] (fun a b => ∃ q r : Int, InvZ R1 u0 y1 y0 q r ∧ 0 ≤ q ∧ q ≤ 8589934592 ∧ 0 ≤ r ∧ r < 4294967296 ∧ a = .int .u64 q ∧ b = .int .u64 r) (fun _ b => 4294967296 - (intOf b).toNat)
        case atStart => exact ⟨q2, r2, I2, by omega, bq2, by omega, br2, rfl, rfl⟩
        case round =>
          clear I2 q2' r2' bq2 br2
          obtain ⟨c, d, I, bc0, bq, bd0, br, rfl, rfl⟩ := hrel
          obtain ⟨m, hm⟩ : ∃ m, m = c * (y0 : Int) := ⟨_, rfl⟩
          by_cases ta : 4294967296 ≤ c
          · obtain ⟨hq, hn, hl⟩ := big D2 I hm.symm (.inl ta)
            by_cases hr : d + y1 < 4294967296
            · have N := hn hr
              clear hm hn hl
              go_wp2_with fail
              go_round
              case rel => exact ⟨c - 1, d + y1, N, by omega, by omega, by omega, by omega, rfl, rfl⟩
              case measure => simp [intOf]; omega
            · have L' : c - 1 = Q0 := (hl (by omega)).trans HQ0.symm
              clear hm hn hl
              go_wp2_with fail
              go_ret2
              exact ⟨rfl, 0, rfl⟩
          · have mf : IntKind.u64.wrap (c * (y0 : Int)) = m := (mulFits c y0 (by omega) (by omega) b0).trans hm.symm
            have hm' := hm
            by_cases tb : 4294967296 * d + u0 < m
            · obtain ⟨hq, hn, hl⟩ := big D2 I hm.symm (.inr tb)
              by_cases hr : d + y1 < 4294967296
              · have N := hn hr
                clear hm hm' hn hl
                go_wp2_with fail
                go_round
                case rel => exact ⟨c - 1, d + y1, N, by omega, by omega, by omega, by omega, rfl, rfl⟩
                case measure => simp [intOf]; omega
              · have L' : c - 1 = Q0 := (hl (by omega)).trans HQ0.symm
                clear hm hm' hn hl
                go_wp2_with fail
                go_ret2
                exact ⟨rfl, 0, rfl⟩
            · have L : c = Q0 := (small D2 I hm.symm (by omega)).trans HQ0.symm
              clear hm hm'
              subst L
              go_wp2_with fail
              go_ret2
              exact ⟨rfl, 0, rfl⟩

end Go.Proofs.Ytbkmcncakpmgkaa
