/-
  bits.Div64 returns quotient and remainder, where the divisor is greater than the high word and less than 2^63.
-/
import Derived.Test.YtbkmcncakpmgkaaDiv
namespace Go.Proofs.Ytbkmcncakpmgkaa
set_option linter.unusedVariables false
open Go.ChangeShapes Go.WideShapes Go.ChangeAt Go.RowKit

theorem remFits (U u Y Q R : Nat) (hY0 : 0 < Y) (hY : Y < 18446744073709551616) (hU : U < Y) (hu : u < 4294967296) (hQ : Q = (U * 4294967296 + u) / Y) (hR : R = (U * 4294967296 + u) % Y) :
    IntKind.u64.wrap (IntKind.u64.wrap (IntKind.u64.wrap ((U : Int) * 4294967296) + u) - IntKind.u64.wrap ((Q : Int) * Y)) = (R : Int) := by
  have e := Nat.div_add_mod (U * 4294967296 + u) Y
  have l := Nat.mod_lt (U * 4294967296 + u) hY0
  rw [← hQ, ← hR, Nat.mul_comm] at e
  rw [← hR] at l
  rw [DivMath.wrap_u64, DivMath.wrap_u64, DivMath.wrap_u64, DivMath.wrap_u64, ← Int.natCast_mul]
  generalize Q * Y = z at *
  omega

theorem wholeR (n y k u1 u0 u32 Y R1 R0 : Nat) (hy : 0 < y) (hk : 0 < k) (hY : Y = y * k) (hU : n * k = u32 * 18446744073709551616 + u1 * 4294967296 + u0)
    (hR1 : R1 = (u32 * 4294967296 + u1) % Y) (hR0 : R0 = (R1 * 4294967296 + u0) % Y) :
    (u32 * 4294967296 + u1) / Y * 4294967296 + (R1 * 4294967296 + u0) / Y = n / y ∧ R0 / k = n % y := by
  subst hY hR1 hR0
  exact DivMath.whole n y k u1 u0 u32 hy hk hU

theorem firstFits (U y1 : Nat) (hU : U < 18446744073709551616) (hy : 0 < y1) :
    IntKind.u64.wrap ((U : Int) - IntKind.u64.wrap (((U / y1 : Nat) : Int) * y1)) = ((U % y1 : Nat) : Int) := by
  have e := Nat.div_add_mod U y1
  rw [Nat.mul_comm] at e
  rw [DivMath.wrap_u64, DivMath.wrap_u64, ← Int.natCast_mul]
  generalize U / y1 * y1 = z at *
  generalize U % y1 = r at *
  omega

/-- what the division's walk asks, and what it comes to -/
structure DivData (hi lo y s Y U V y1 y0 u1 u0 R1 R0 : Nat) (q r Q1 q2 r2 Q0 : Int) : Prop where
  x_s1 : 1 ≤ s
  x_s2 : s ≤ 62
  x_e1 : IntKind.u64.wrap (64 - (Lib.bitLen y : Int)) = (s : Int)
  x_e2 : min s 64 = s
  x_e2_ : min (64 - s) 64 = 64 - s
  x_e3 : IntKind.u64.wrap ((y : Int) * 2 ^ s) = (Y : Int)
  x_f1 : bits .or .u64 (IntKind.u64.wrap ((hi : Int) * 2 ^ s)) ((lo : Int) / 2 ^ (64 - s)) = (U : Int)
  x_f3 : IntKind.u64.wrap ((lo : Int) * 2 ^ s) = (V : Int)
  x_g1 : (Y : Int) / 4294967296 = y1
  x_g0 : bits .and .u64 (Y : Int) 4294967295 = y0
  x_k1 : (V : Int) / 4294967296 = u1
  x_k0 : bits .and .u64 (V : Int) 4294967295 = u0
  x_hY : Y < 18446744073709551616
  x_hU : U < 18446744073709551616
  x_hV : V < 18446744073709551616
  x_D : DivMath.Dig U u1 y1 y0
  x_D2 : DivMath.Dig R1 u0 y1 y0
  x_b1 : 2147483648 ≤ y1
  x_b1_ : y1 < 4294967296
  x_b0 : y0 < 4294967296
  x_c1 : u1 < 4294967296
  x_c0 : u0 < 4294967296
  x_q1 : (U : Int) / (y1 : Int) = q
  x_r1 : IntKind.u64.wrap ((U : Int) - IntKind.u64.wrap (q * y1)) = r
  x_I : InvZ U u1 y1 y0 q r
  x_bq0 : 0 ≤ q
  x_bq : q ≤ 8589934592
  x_br0 : 0 ≤ r
  x_br : r < 4294967296
  x_HQ1 : QOk U u1 y1 y0 Q1
  x_bQ10 : 0 ≤ Q1
  x_bQ1 : Q1 < 4294967296
  x_bR1 : R1 < 18446744073709551616
  x_rr1 : IntKind.u64.wrap (IntKind.u64.wrap (IntKind.u64.wrap ((U : Int) * 4294967296) + u1) - IntKind.u64.wrap (Q1 * Y)) = R1
  x_q2_ : (R1 : Int) / (y1 : Int) = q2
  x_r2_ : IntKind.u64.wrap ((R1 : Int) - IntKind.u64.wrap (q2 * y1)) = r2
  x_I2 : InvZ R1 u0 y1 y0 q2 r2
  x_bq20 : 0 ≤ q2
  x_bq2 : q2 ≤ 8589934592
  x_br20 : 0 ≤ r2
  x_br2 : r2 < 4294967296
  x_HQ0 : QOk R1 u0 y1 y0 Q0
  x_bQ00 : 0 ≤ Q0
  x_bQ0 : Q0 < 4294967296
  x_bR0 : R0 < 18446744073709551616
  x_rr0 : IntKind.u64.wrap (IntKind.u64.wrap (IntKind.u64.wrap ((R1 : Int) * 4294967296) + u0) - IntKind.u64.wrap (Q0 * Y)) = R0
  x_quo : Q1 * 4294967296 + Q0 = ((hi * 18446744073709551616 + lo) / y : Nat)
  x_rem : (R0 : Int) / 2 ^ s = ((hi * 18446744073709551616 + lo) % y : Nat)

theorem div_data2 (hi lo y s U V Y R1 R0 : Nat) (h0 : 1 ≤ hi) (h1 : hi < y) (h2 : lo ≤ 18446744073709551615) (h4 : y ≤ 9223372036854775807) (s1 : 1 ≤ s) (s2 : s ≤ 62)
    (e1 : IntKind.u64.wrap (64 - (Lib.bitLen y : Int)) = (s : Int)) (e3 : IntKind.u64.wrap ((y : Int) * 2 ^ s) = (Y : Int))
    (f1 : bits .or .u64 (IntKind.u64.wrap ((hi : Int) * 2 ^ s)) ((lo : Int) / 2 ^ (64 - s)) = (U : Int)) (f3 : IntKind.u64.wrap ((lo : Int) * 2 ^ s) = (V : Int))
    (sy1 : 9223372036854775808 ≤ Y) (sy2 : Y < 18446744073709551616) (f2 : U < Y) (hV : V < 18446744073709551616)
    (hR1 : R1 = (U * 4294967296 + V / 4294967296) % Y) (hR0 : R0 = (R1 * 4294967296 + V % 4294967296) % Y)
    (W1 : (U * 4294967296 + V / 4294967296) / Y * 4294967296 + (R1 * 4294967296 + V % 4294967296) / Y = (hi * 18446744073709551616 + lo) / y) (W2 : R0 / 2 ^ s = (hi * 18446744073709551616 + lo) % y) :
    ∃ (s Y U V y1 y0 u1 u0 R1 R0 : Nat) (q r Q1 q2 r2 Q0 : Int), DivData hi lo y s Y U V y1 y0 u1 u0 R1 R0 q r Q1 q2 r2 Q0 := by
  have hY0 : 0 < Y := by omega
  have hm : R1 < Y := by rw [hR1]; exact Nat.mod_lt _ hY0
  have hm2 : R0 < Y := by rw [hR0]; exact Nat.mod_lt _ hY0
  obtain ⟨Q1, hQ1⟩ : ∃ Q1, Q1 = (U * 4294967296 + V / 4294967296) / Y := ⟨_, rfl⟩
  obtain ⟨Q0, hQ0⟩ : ∃ Q0, Q0 = (R1 * 4294967296 + V % 4294967296) / Y := ⟨_, rfl⟩
  rw [← hQ1, ← hQ0] at W1
  obtain ⟨u1, hu1⟩ : ∃ u1, u1 = V / 4294967296 := ⟨_, rfl⟩
  obtain ⟨u0, hu0⟩ : ∃ u0, u0 = V % 4294967296 := ⟨_, rfl⟩
  obtain ⟨y1, hy1⟩ : ∃ y1, y1 = Y / 4294967296 := ⟨_, rfl⟩
  obtain ⟨y0, hy0⟩ : ∃ y0, y0 = Y % 4294967296 := ⟨_, rfl⟩
  have hlu1 : u1 < 4294967296 := by omega
  have hlu0 : u0 < 4294967296 := by omega
  have hYs : Y = y1 * 4294967296 + y0 := by omega
  have hb1 : 2147483648 ≤ y1 := by omega
  have hb2 : y1 < 4294967296 := by omega
  have hb3 : y0 < 4294967296 := by omega
  rw [← hu1] at hR1 hQ1
  rw [← hu0] at hR0 hQ0
  have rr1 := remFits U u1 Y Q1 R1 hY0 sy2 f2 hlu1 hQ1 hR1
  have rr0 := remFits R1 u0 Y Q0 R0 hY0 sy2 hm hlu0 hQ0 hR0
  have gq1 : (u1 : Int) = (V : Int) / 4294967296 := by omega
  have gq0 : (u0 : Int) = ((V % 4294967296 : Nat) : Int) := by omega
  have gy1 : (y1 : Int) = (Y : Int) / 4294967296 := by omega
  have gy0 : (y0 : Int) = ((Y % 4294967296 : Nat) : Int) := by omega
  have k0 := DivMath.low_of V hV
  have g0 := DivMath.low_of Y sy2
  rw [← gq0] at k0
  rw [← gy0] at g0
  clear gq0 gy0 hu1 hu0 hy1 hy0
  have D : DivMath.Dig U u1 y1 y0 := ⟨hb1, hb2, hb3, hlu1, by omega⟩
  have D2 : DivMath.Dig R1 u0 y1 y0 := ⟨hb1, hb2, hb3, hlu0, by omega⟩
  have g1l := DivMath.digit_lt D
  have g0l := DivMath.digit_lt D2
  rw [← hYs, ← hQ1] at g1l
  rw [← hYs, ← hQ0] at g0l
  have I := DivMath.start D
  have I2 := DivMath.start D2
  have ok1 : QOk U u1 y1 y0 (Q1 : Int) := by unfold QOk; rw [← hYs, ← hQ1]
  have ok0 : QOk R1 u0 y1 y0 (Q0 : Int) := by unfold QOk; rw [← hYs, ← hQ0]
  have ff1 := firstFits U y1 (by omega) (by omega)
  have ff0 := firstFits R1 y1 (by omega) (by omega)
  have z1 : (Q1 : Int) * 4294967296 + (Q0 : Int) = ((hi * 18446744073709551616 + lo) / y : Nat) := by
    rw [← W1]; omega
  have z2 : (R0 : Int) / 2 ^ s = ((hi * 18446744073709551616 + lo) % y : Nat) := by
    rw [← W2, Int.natCast_ediv R0 (2 ^ s), Int.natCast_pow]; rfl
  have iq := I.qlt
  have ir := I.rlt
  have iq2 := I2.qlt
  have ir2 := I2.rlt
  have d1 : (U : Int) / (y1 : Int) = ((U / y1 : Nat) : Int) := (Int.natCast_ediv _ _).symm
  have d2 : (R1 : Int) / (y1 : Int) = ((R1 / y1 : Nat) : Int) := (Int.natCast_ediv _ _).symm
  generalize U / y1 = q at *
  generalize U % y1 = r at *
  generalize R1 / y1 = q2 at *
  generalize R1 % y1 = r2 at *
  clear hR1 hR0 hQ1 hQ0 W1 W2
  refine ⟨s, Y, U, V, y1, y0, u1, u0, R1, R0, q, r, Q1, q2, r2, Q0, ?_⟩
  exact ⟨s1, s2, e1, (by omega), (by omega), e3, f1, f3, gy1.symm, g0, gq1.symm, k0, sy2, (by omega), hV, D, D2, hb1, hb2, hb3, hlu1, hlu0, d1, ff1, ⟨by omega, by omega, I⟩, (by omega), (Int.ofNat_le.2 iq), (by omega), (Int.ofNat_lt.2 ir), ok1, (by omega), (by omega), (by omega), rr1, d2, ff0, ⟨by omega, by omega, I2⟩, (by omega), (Int.ofNat_le.2 iq2), (by omega), (Int.ofNat_lt.2 ir2), ok0, (by omega), (by omega), (by omega), rr0, z1, z2⟩

theorem div_data (hi lo y : Nat) (h0 : 1 ≤ hi) (h1 : hi < y) (h2 : lo ≤ 18446744073709551615) (h4 : y ≤ 9223372036854775807) :
    ∃ (s Y U V y1 y0 u1 u0 R1 R0 : Nat) (q r Q1 q2 r2 Q0 : Int), DivData hi lo y s Y U V y1 y0 u1 u0 R1 R0 q r Q1 q2 r2 Q0 := by
  obtain ⟨s, s1, s2, sl, sy1, sy2⟩ := DivMath.shift_of y (by omega) h4
  obtain ⟨f1, f2, f3, f4⟩ := DivMath.high_of hi lo y s s1 s2 sy2 h1 h2
  have e1 : IntKind.u64.wrap (64 - (Lib.bitLen y : Int)) = (s : Int) := by rw [sl, DivMath.wrap_u64]; omega
  have e3 : IntKind.u64.wrap ((y : Int) * 2 ^ s) = ((y * 2 ^ s : Nat) : Int) := by
    have : ((y : Int) * 2 ^ s) = ((y * 2 ^ s : Nat) : Int) := by rw [Int.natCast_mul, Int.natCast_pow]; rfl
    rw [DivMath.wrap_u64, this]; omega
  have hV : lo * 2 ^ s % 18446744073709551616 < 18446744073709551616 := Nat.mod_lt _ (by omega)
  have hk : 0 < 2 ^ s := Nat.two_pow_pos _
  generalize hi * 2 ^ s + lo / 2 ^ (64 - s) = U at *
  generalize lo * 2 ^ s % 18446744073709551616 = V at *
  have hVs : V / 4294967296 * 4294967296 + V % 4294967296 = V := by omega
  obtain ⟨Y, hY⟩ : ∃ Y, Y = y * 2 ^ s := ⟨_, rfl⟩
  rw [← hY] at sy1 sy2 e3 f2
  obtain ⟨R1, hR1⟩ : ∃ R1, R1 = (U * 4294967296 + V / 4294967296) % Y := ⟨_, rfl⟩
  obtain ⟨R0, hR0⟩ : ∃ R0, R0 = (R1 * 4294967296 + V % 4294967296) % Y := ⟨_, rfl⟩
  have W := wholeR (hi * 18446744073709551616 + lo) y (2 ^ s) (V / 4294967296) (V % 4294967296) U Y R1 R0 (by omega) hk hY (by rw [f4, Nat.add_assoc, hVs]) hR1 hR0
  exact div_data2 hi lo y s U V Y R1 R0 h0 h1 h2 h4 s1 s2 e1 e3 f1 f3 sy1 sy2 f2 hV hR1 hR0 W.1 W.2

theorem div_high (hi lo y : Nat) (w : World) (h0 : 1 ≤ hi) (h1 : hi < y) (h2 : lo ≤ 18446744073709551615) (h4 : y ≤ 9223372036854775807) :
    Calls Try.prog 56 #[.int .u64 hi, .int .u64 lo, .int .u64 y] w fun e w' => e = .returned (.tuple #[.int .u64 ((hi * 18446744073709551616 + lo) / y : Nat), .int .u64 ((hi * 18446744073709551616 + lo) % y : Nat)]) ∧ ∃ n, w' = w.drewN n := by
  obtain ⟨s, Y, U, V, y1, y0, u1, u0, R1, R0, q, r, Q1, q2, r2, Q0, D⟩ := div_data hi lo y h0 h1 h2 h4
  have core := div_core hi lo y s Y U V y1 y0 u1 u0 R1 R0 q r Q1 q2 r2 Q0 w h0 h1 h2 h4 D.x_s1 D.x_s2 D.x_e1 D.x_e2 D.x_e2_ D.x_e3 D.x_f1 D.x_f3 D.x_g1 D.x_g0 D.x_k1 D.x_k0 D.x_hY D.x_hU D.x_hV D.x_D D.x_D2 D.x_b1 D.x_b1_ D.x_b0 D.x_c1 D.x_c0 D.x_q1 D.x_r1 D.x_I D.x_bq0 D.x_bq D.x_br0 D.x_br D.x_HQ1 D.x_bQ10 D.x_bQ1 D.x_bR1 D.x_rr1 D.x_q2_ D.x_r2_ D.x_I2 D.x_bq20 D.x_bq2 D.x_br20 D.x_br2 D.x_HQ0 D.x_bQ00 D.x_bQ0 D.x_bR0 D.x_rr0
  rw [D.x_quo, D.x_rem] at core
  exact core

/-- bits.Div64: quotient and remainder, the divisor greater than the high word and less than 2^63 -/
theorem div_any (hi lo y : Nat) (w : World) (h1 : hi < y) (h2 : lo ≤ 18446744073709551615) (h4 : y ≤ 9223372036854775807) :
    Calls Try.prog 56 #[.int .u64 hi, .int .u64 lo, .int .u64 y] w fun e w' => e = .returned (.tuple #[.int .u64 ((hi * 18446744073709551616 + lo) / y : Nat), .int .u64 ((hi * 18446744073709551616 + lo) % y : Nat)]) ∧ ∃ n, w' = w.drewN n := by
  rcases Nat.eq_zero_or_pos hi with h | h
  · subst h
    refine (div_low lo y w (by omega) (by omega) (by omega) (by omega)).mono fun e w' ⟨he, hw⟩ => ⟨?_, hw⟩
    rw [he, Nat.zero_mul, Nat.zero_add]
    rfl
  · exact div_high hi lo y w h h1 h2 h4

end Go.Proofs.Ytbkmcncakpmgkaa
