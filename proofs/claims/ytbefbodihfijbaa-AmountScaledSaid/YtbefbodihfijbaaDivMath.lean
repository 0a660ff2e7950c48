/-
  Plain arithmetic of a division of 128 bits by 64 bits, digit by digit (no program in sight).
-/
import Derived.Lib.BitFns
import Derived.Laws.MathBits
import Derived.Laws.Bits64b
import Derived.IntWalk
namespace Go.Proofs.Ytbefbodihfijbaa.DivMath
open Go.Lib

theorem bitLenAux_bd : ∀ (f x : Nat), x < 2 ^ f → x < 2 ^ (bitLenAux f x) ∧ (x ≠ 0 → 2 ^ (bitLenAux f x) ≤ 2 * x)
  | 0, x, h => by simp [bitLenAux] at *; omega
  | f + 1, x, h => by
    unfold bitLenAux
    by_cases h0 : x = 0
    · simp [h0]
    · have h2 : x / 2 < 2 ^ f := by rw [Nat.pow_succ] at h; omega
      obtain ⟨a, b⟩ := bitLenAux_bd f (x / 2) h2
      rw [if_neg h0, Nat.add_comm 1, Nat.pow_succ]
      refine ⟨by omega, fun _ => ?_⟩
      by_cases h3 : x / 2 = 0
      · have : x = 1 := by omega
        subst this
        have e : bitLenAux f (1 / 2) = 0 := by cases f <;> simp [bitLenAux]
        rw [e]; decide
      · have := b h3
        omega

/-- how far y is shifted -/
theorem shift_of (y : Nat) (h1 : 2 ≤ y) (h2 : y ≤ 9223372036854775807) :
    ∃ s : Nat, 1 ≤ s ∧ s ≤ 62 ∧ Lib.bitLen y = 64 - s ∧ 9223372036854775808 ≤ y * 2 ^ s ∧ y * 2 ^ s < 18446744073709551616 := by
  obtain ⟨a, b⟩ := bitLenAux_bd 64 y (by omega)
  have b := b (by omega)
  have l1 : Lib.bitLen y ≤ 63 := bitLen_le y 63 (by omega) (by omega)
  change y < 2 ^ Lib.bitLen y at a
  change 2 ^ Lib.bitLen y ≤ 2 * y at b
  generalize Lib.bitLen y = n at *
  have l2 : 2 ≤ n := by
    rcases Nat.lt_or_ge n 2 with h | h
    · have : 2 ^ n ≤ 2 ^ 1 := Nat.pow_le_pow_right (by omega) (by omega)
      omega
    · exact h
  refine ⟨64 - n, by omega, by omega, by omega, ?_, ?_⟩
  · have e : 2 ^ n * 2 ^ (64 - n) = 18446744073709551616 := by rw [← Nat.pow_add, show n + (64 - n) = 64 by omega]
    have : 2 ^ n * 2 ^ (64 - n) ≤ 2 * y * 2 ^ (64 - n) := Nat.mul_le_mul_right _ b
    rw [e, Nat.mul_assoc] at this
    omega
  · have e : 2 ^ n * 2 ^ (64 - n) = 18446744073709551616 := by rw [← Nat.pow_add, show n + (64 - n) = 64 by omega]
    have : y * 2 ^ (64 - n) < 2 ^ n * 2 ^ (64 - n) := Nat.mul_lt_mul_of_pos_right a (Nat.two_pow_pos _)
    omega

theorem wrap_u64 (n : Int) : IntKind.u64.wrap n = n % 18446744073709551616 := by
  simp [IntKind.wrap, IntKind.signed, IntKind.bits]

/-- the high word of the shifted number -/
theorem high_of (hi lo y s : Nat) (h1 : 1 ≤ s) (h2 : s ≤ 62) (hy : y * 2 ^ s < 18446744073709551616) (hhi : hi < y) (hlo : lo ≤ 18446744073709551615) :
    bits .or .u64 (IntKind.u64.wrap ((hi : Int) * 2 ^ s)) ((lo : Int) / 2 ^ (64 - s)) = ((hi * 2 ^ s + lo / 2 ^ (64 - s) : Nat) : Int) ∧
    hi * 2 ^ s + lo / 2 ^ (64 - s) < y * 2 ^ s ∧
    IntKind.u64.wrap ((lo : Int) * 2 ^ s) = ((lo * 2 ^ s % 18446744073709551616 : Nat) : Int) ∧
    (hi * 18446744073709551616 + lo) * 2 ^ s = (hi * 2 ^ s + lo / 2 ^ (64 - s)) * 18446744073709551616 + lo * 2 ^ s % 18446744073709551616 := by
  have e : 2 ^ s * 2 ^ (64 - s) = 18446744073709551616 := by rw [← Nat.pow_add, show s + (64 - s) = 64 by omega]
  have hp : 0 < 2 ^ s := Nat.two_pow_pos _
  have hq : 0 < 2 ^ (64 - s) := Nat.two_pow_pos _
  have hle : (hi + 1) * 2 ^ s ≤ y * 2 ^ s := Nat.mul_le_mul_right _ hhi
  rw [Nat.add_mul] at hle
  have hl : lo / 2 ^ (64 - s) < 2 ^ s := by rw [Nat.div_lt_iff_lt_mul hq, e]; omega
  have hhs : hi * 2 ^ s < 18446744073709551616 := by omega
  have c1 : ((hi : Int) * 2 ^ s) = ((hi * 2 ^ s : Nat) : Int) := by rw [Int.natCast_mul, Int.natCast_pow]; first | rfl | done
  have c2 : ((lo : Int) * 2 ^ s) = ((lo * 2 ^ s : Nat) : Int) := by rw [Int.natCast_mul, Int.natCast_pow]; rfl
  have c3 : ((lo : Int) / 2 ^ (64 - s)) = ((lo / 2 ^ (64 - s) : Nat) : Int) := by rw [Int.natCast_ediv, Int.natCast_pow]; rfl
  refine ⟨?_, by omega, ?_, ?_⟩
  · rw [wrap_u64, c1, c3]
    rw [show (((hi * 2 ^ s : Nat) : Int) % 18446744073709551616) = ((hi * 2 ^ s : Nat) : Int) by omega]
    rw [bits_or_u64_nat _ _ hhs (by omega)]
    congr 1
    rw [← Nat.shiftLeft_eq, Nat.shiftLeft_add_eq_or_of_lt hl]
  · rw [wrap_u64, c2]; rfl
  · have m : lo * 2 ^ s / 18446744073709551616 = lo / 2 ^ (64 - s) := by
      rw [← e, Nat.mul_comm lo, Nat.mul_div_mul_left _ _ hp]
    have d := Nat.div_add_mod (lo * 2 ^ s) 18446744073709551616
    rw [m] at d
    rw [Nat.add_mul, Nat.add_mul, Nat.mul_right_comm]
    generalize lo * 2 ^ s = A at *
    generalize lo / 2 ^ (64 - s) = B at *
    generalize hi * 2 ^ s = C at *
    omega

/-- the low half of a word -/
theorem low_of (z : Nat) (h : z < 18446744073709551616) : bits .and .u64 (z : Int) 4294967295 = ((z % 4294967296 : Nat) : Int) := by
  rw [and_low32 z (by omega) (by omega)]; rfl


/-- One digit: what the estimate must meet. b = 2^32. -/
structure Dig (u d y1 y0 : Nat) : Prop where
  hy1 : 2147483648 ≤ y1
  hy1' : y1 < 4294967296
  hy0 : y0 < 4294967296
  hd : d < 4294967296
  hu : u < y1 * 4294967296 + y0

/-- the loop's invariant -/
structure Inv (u d y1 y0 q r : Nat) : Prop where
  sum : q * y1 + r = u
  up : (u * 4294967296 + d) / (y1 * 4294967296 + y0) ≤ q
  rlt : r < 4294967296
  qlt : q ≤ 8589934592

theorem start {u d y1 y0 : Nat} (h : Dig u d y1 y0) : Inv u d y1 y0 (u / y1) (u % y1) := by
  have hy := h.hy1
  have hpos : 0 < y1 := by omega
  refine ⟨?_, ?_, ?_, ?_⟩
  · rw [Nat.mul_comm]; exact Nat.div_add_mod u y1
  · rw [Nat.le_div_iff_mul_le hpos]
    have h1 : (u * 4294967296 + d) / (y1 * 4294967296 + y0) * (y1 * 4294967296 + y0) ≤ u * 4294967296 + d := Nat.div_mul_le_self _ _
    have h2 : (u * 4294967296 + d) / (y1 * 4294967296 + y0) * (y1 * 4294967296) ≤ (u * 4294967296 + d) / (y1 * 4294967296 + y0) * (y1 * 4294967296 + y0) := Nat.mul_le_mul_left _ (by omega)
    generalize (u * 4294967296 + d) / (y1 * 4294967296 + y0) = Q at h1 h2 ⊢
    rw [← Nat.mul_assoc] at h2
    have := h.hd
    omega
  · have := Nat.mod_lt u hpos
    have := h.hy1'
    omega
  · have h0 := h.hy0
    have hu := h.hu
    have h1' := h.hy1'
    have : u < 18446744073709551616 := by omega
    have : u / y1 ≤ u / 2147483648 := Nat.div_le_div_left hy (by omega)
    omega

theorem mulY (q y1 y0 : Nat) : q * (y1 * 4294967296 + y0) = q * y1 * 4294967296 + q * y0 := by
  rw [Nat.mul_add, Nat.mul_assoc]

/-- the test is true: the true digit is less than q -/
theorem toobig {u d y1 y0 q r : Nat} (h : Dig u d y1 y0) (i : Inv u d y1 y0 q r) (t : 4294967296 ≤ q ∨ 4294967296 * r + d < q * y0) :
    (u * 4294967296 + d) / (y1 * 4294967296 + y0) < q := by
  have hy := h.hy1
  rw [Nat.div_lt_iff_lt_mul (by omega)]
  rcases t with t | t
  · have h1 : 4294967296 * (y1 * 4294967296 + y0) ≤ q * (y1 * 4294967296 + y0) := Nat.mul_le_mul_right _ t
    have := h.hu; have := h.hd
    omega
  · rw [mulY]
    have := i.sum
    have e : q * y1 = u - r := by omega
    rw [e]
    omega

/-- the test is false, q is a digit: q is the true digit -/
theorem exact_ {u d y1 y0 q r : Nat} (h : Dig u d y1 y0) (i : Inv u d y1 y0 q r) (t : q * y0 ≤ 4294967296 * r + d) :
    q = (u * 4294967296 + d) / (y1 * 4294967296 + y0) := by
  refine Nat.le_antisymm ?_ i.up
  have hy := h.hy1
  rw [Nat.le_div_iff_mul_le (by omega), mulY]
  have := i.sum
  have e : q * y1 = u - r := by omega
  rw [e]
  omega

/-- a round: q - 1, r + y1, while that is less than b -/
theorem next {u d y1 y0 q r : Nat} (h : Dig u d y1 y0) (i : Inv u d y1 y0 q r) (t : 4294967296 ≤ q ∨ 4294967296 * r + d < q * y0) (hr : r + y1 < 4294967296) :
    Inv u d y1 y0 (q - 1) (r + y1) := by
  have hb := toobig h i t
  have hq : 1 ≤ q := Nat.lt_of_le_of_lt (Nat.zero_le _) hb
  have hs := i.sum
  refine ⟨?_, Nat.le_sub_one_of_lt hb, hr, by have := i.qlt; omega⟩
  have : (q - 1) * y1 + y1 = q * y1 := by
    rw [← Nat.succ_mul]; congr 1; omega
  omega

/-- the break: r + y1 is b or more: q - 1 is the true digit -/
theorem last {u d y1 y0 q r : Nat} (h : Dig u d y1 y0) (i : Inv u d y1 y0 q r) (t : 4294967296 ≤ q ∨ 4294967296 * r + d < q * y0) (hr : 4294967296 ≤ r + y1) :
    q - 1 = (u * 4294967296 + d) / (y1 * 4294967296 + y0) := by
  have hb := toobig h i t
  have hq1 : 1 ≤ q := Nat.lt_of_le_of_lt (Nat.zero_le _) hb
  have hs := i.sum
  have hy := h.hy1
  have hy' := h.hy1'
  have hy0 := h.hy0
  have hu := h.hu
  have hr2 := i.rlt
  have e : (q - 1) * y1 + (r + y1) = u := by
    have : (q - 1) * y1 + y1 = q * y1 := by
      rw [← Nat.succ_mul]; congr 1; omega
    omega
  refine Nat.le_antisymm ?_ (Nat.le_sub_one_of_lt hb)
  have hq : q - 1 < 4294967296 := by
    rcases Nat.lt_or_ge (q - 1) 4294967296 with h1 | h1
    · exact h1
    · have : 4294967296 * y1 ≤ (q - 1) * y1 := Nat.mul_le_mul_right _ h1
      omega
  have h2 : (q - 1) * y0 ≤ 4294967295 * 4294967295 := Nat.mul_le_mul (by omega) (by omega)
  rw [Nat.le_div_iff_mul_le (by omega), mulY]
  have : (q - 1) * y1 = u - (r + y1) := by omega
  rw [this]
  omega

theorem digit_lt {u d y1 y0 : Nat} (h : Dig u d y1 y0) : (u * 4294967296 + d) / (y1 * 4294967296 + y0) < 4294967296 := by
  have := h.hy1; have := h.hu; have := h.hd
  rw [Nat.div_lt_iff_lt_mul (by omega)]
  omega

theorem key0 (n y k u1 u0 u32 q1 r1 q0 r0 b : Nat) (hU : n * k = u32 * (b * b) + u1 * b + u0)
    (e1 : y * k * q1 + r1 = u32 * b + u1) (e0 : y * k * q0 + r0 = r1 * b + u0) : n * k = (y * (q1 * b + q0)) * k + r0 := by
  grind

theorem whole1 (n y k c r0 : Nat) (hy : 0 < y) (hk : 0 < k) (key : n * k = (y * c) * k + r0) (l0 : r0 < y * k) :
    c = n / y ∧ r0 / k = n % y := by
  have hle : y * c ≤ n := by
    refine Nat.le_of_mul_le_mul_right (c := k) ?_ hk
    omega
  obtain ⟨t, ht⟩ := Nat.le.dest hle
  have hr : r0 = t * k := by
    rw [← ht, Nat.add_mul] at key; omega
  have hty : t < y := by
    refine Nat.lt_of_mul_lt_mul_right (a := k) ?_
    omega
  refine ⟨?_, ?_⟩
  · rw [← ht, Nat.mul_add_div hy, Nat.div_eq_of_lt hty]; rfl
  · rw [hr, Nat.mul_div_cancel _ hk, ← ht, Nat.mul_add_mod, Nat.mod_eq_of_lt hty]

theorem whole0 (n y k u1 u0 u32 q1 r1 q0 r0 : Nat) (hy : 0 < y) (hk : 0 < k) (hU : n * k = u32 * 18446744073709551616 + u1 * 4294967296 + u0)
    (e1 : y * k * q1 + r1 = u32 * 4294967296 + u1) (e0 : y * k * q0 + r0 = r1 * 4294967296 + u0) (l0 : r0 < y * k) :
    q1 * 4294967296 + q0 = n / y ∧ r0 / k = n % y :=
  whole1 n y k _ r0 hy hk (key0 n y k u1 u0 u32 q1 r1 q0 r0 4294967296 hU e1 e0) l0

/-- the whole: two digits, and the shift taken back -/
theorem whole (n y k u1 u0 u32 : Nat) (hy : 0 < y) (hk : 0 < k) (hU : n * k = u32 * 18446744073709551616 + u1 * 4294967296 + u0) :
    (u32 * 4294967296 + u1) / (y * k) * 4294967296 + ((u32 * 4294967296 + u1) % (y * k) * 4294967296 + u0) / (y * k) = n / y ∧
    ((u32 * 4294967296 + u1) % (y * k) * 4294967296 + u0) % (y * k) / k = n % y :=
  whole0 n y k u1 u0 u32 _ _ _ _ hy hk hU (Nat.div_add_mod _ _) (Nat.div_add_mod _ _) (Nat.mod_lt _ (Nat.mul_pos hy hk))

/-- arithmetic that wraps at 2^64 finds the remainder -/
theorem wraps (a b c d m : Nat) (h : a * b + c = d * m + (a * b + c - d * m)) (hl : a * b + c - d * m < 18446744073709551616) :
    ((((a * b % 18446744073709551616 : Nat) : Int) + c) % 18446744073709551616 - ((d * m % 18446744073709551616 : Nat) : Int)) % 18446744073709551616 = ((a * b + c - d * m : Nat) : Int) := by
  generalize a * b = x at *
  generalize d * m = z at *
  omega

end Go.Proofs.Ytbefbodihfijbaa.DivMath
