import Derived.Lib.BitFns
import Derived.Laws.MathBits
import Derived.Laws.Bits64b
import Derived.IntWalk

/-! Plain arithmetic of a division of 128 bits by 64 bits, digit by digit (no program in sight). -/
namespace Go.Proofs.Ytbkmcncakpmgkaa.DivMath
open Go.Lib

theorem bitLenAux_bd : ∀ (f x : Nat), x < 2 ^ f → x < 2 ^ (bitLenAux f x) ∧ (x ≠ 0 → 2 ^ (bitLenAux f x) ≤ 2 * x)
  | 0, x, h => by simp [bitLenAux] at *; omega
  | f + 1, x, h => by
    unfold bitLenAux
    by_cases h0 : x = 0
    · simp [h0]
    · have h2 : x / 2 < 2 ^ f := by rw [Nat.pow_succ] at h; omega
      obtain ⟨a, b⟩ := bitLenAux_bd f (x / 2) h2
      rw [if_neg h0, Nat.add_comm 1, Nat.pow_succ]
      refine ⟨by omega, fun _ => ?_⟩
      by_cases h3 : x / 2 = 0
      · have : x = 1 := by omega
        subst this
        have e : bitLenAux f (1 / 2) = 0 := by cases f <;> simp [bitLenAux]
        rw [e]; decide
      · have := b h3
        omega

/-- how far y is shifted -/
theorem shift_of (y : Nat) (h1 : 2 ≤ y) (h2 : y ≤ 9223372036854775807) :
    ∃ s : Nat, 1 ≤ s ∧ s ≤ 62 ∧ Lib.bitLen y = 64 - s ∧ 9223372036854775808 ≤ y * 2 ^ s ∧ y * 2 ^ s < 18446744073709551616 := by
  obtain ⟨a, b⟩ := bitLenAux_bd 64 y (by omega)
  have b := b (by omega)
  have l1 : Lib.bitLen y ≤ 63 := bitLen_le y 63 (by omega) (by omega)
  change y < 2 ^ Lib.bitLen y at a
  change 2 ^ Lib.bitLen y ≤ 2 * y at b
  generalize Lib.bitLen y = n at *
  have l2 : 2 ≤ n := by
    rcases Nat.lt_or_ge n 2 with h | h
    · have : 2 ^ n ≤ 2 ^ 1 := Nat.pow_le_pow_right (by omega) (by omega)
      omega
    · exact h
  refine ⟨64 - n, by omega, by omega, by omega, ?_, ?_⟩
  · have e : 2 ^ n * 2 ^ (64 - n) = 18446744073709551616 := by rw [← Nat.pow_add, show n + (64 - n) = 64 by omega]
    have : 2 ^ n * 2 ^ (64 - n) ≤ 2 * y * 2 ^ (64 - n) := Nat.mul_le_mul_right _ b
    rw [e, Nat.mul_assoc] at this
    omega
  · have e : 2 ^ n * 2 ^ (64 - n) = 18446744073709551616 := by rw [← Nat.pow_add, show n + (64 - n) = 64 by omega]
    have : y * 2 ^ (64 - n) < 2 ^ n * 2 ^ (64 - n) := Nat.mul_lt_mul_of_pos_right a (Nat.two_pow_pos _)
    omega

theorem wrap_u64 (n : Int) : IntKind.u64.wrap n = n % 18446744073709551616 := by
  simp [IntKind.wrap, IntKind.signed, IntKind.bits]

/-- the high word of the shifted number -/
theorem high_of (hi lo y s : Nat) (h1 : 1 ≤ s) (h2 : s ≤ 62) (hy : y * 2 ^ s < 18446744073709551616) (hhi : hi < y) (hlo : lo ≤ 18446744073709551615) :
    bits .or .u64 (IntKind.u64.wrap ((hi : Int) * 2 ^ s)) ((lo : Int) / 2 ^ (64 - s)) = ((hi * 2 ^ s + lo / 2 ^ (64 - s) : Nat) : Int) ∧
    hi * 2 ^ s + lo / 2 ^ (64 - s) < y * 2 ^ s ∧
    IntKind.u64.wrap ((lo : Int) * 2 ^ s) = ((lo * 2 ^ s % 18446744073709551616 : Nat) : Int) ∧
    (hi * 18446744073709551616 + lo) * 2 ^ s = (hi * 2 ^ s + lo / 2 ^ (64 - s)) * 18446744073709551616 + lo * 2 ^ s % 18446744073709551616 := by
  have e : 2 ^ s * 2 ^ (64 - s) = 18446744073709551616 := by rw [← Nat.pow_add, show s + (64 - s) = 64 by omega]
  have hp : 0 < 2 ^ s := Nat.two_pow_pos _
  have hq : 0 < 2 ^ (64 - s) := Nat.two_pow_pos _
  have hle : (hi + 1) * 2 ^ s ≤ y * 2 ^ s := Nat.mul_le_mul_right _ hhi
  rw [Nat.add_mul] at hle
  have hl : lo / 2 ^ (64 - s) < 2 ^ s := by rw [Nat.div_lt_iff_lt_mul hq, e]; omega
  have hhs : hi * 2 ^ s < 18446744073709551616 := by omega
  have c1 : ((hi : Int) * 2 ^ s) = ((hi * 2 ^ s : Nat) : Int) := by rw [Int.natCast_mul, Int.natCast_pow]; first | rfl | done
  have c2 : ((lo : Int) * 2 ^ s) = ((lo * 2 ^ s : Nat) : Int) := by rw [Int.natCast_mul, Int.natCast_pow]; rfl
  have c3 : ((lo : Int) / 2 ^ (64 - s)) = ((lo / 2 ^ (64 - s) : Nat) : Int) := by rw [Int.natCast_ediv, Int.natCast_pow]; rfl
  refine ⟨?_, by omega, ?_, ?_⟩
  · rw [wrap_u64, c1, c3]
    rw [show (((hi * 2 ^ s : Nat) : Int) % 18446744073709551616) = ((hi * 2 ^ s : Nat) : Int) by omega]
    rw [bits_or_u64_nat _ _ hhs (by omega)]
    congr 1
    rw [← Nat.shiftLeft_eq, Nat.shiftLeft_add_eq_or_of_lt hl]
  · rw [wrap_u64, c2]; rfl
  · have m : lo * 2 ^ s / 18446744073709551616 = lo / 2 ^ (64 - s) := by
      rw [← e, Nat.mul_comm lo, Nat.mul_div_mul_left _ _ hp]
    have d := Nat.div_add_mod (lo * 2 ^ s) 18446744073709551616
    rw [m] at d
    rw [Nat.add_mul, Nat.add_mul, Nat.mul_right_comm]
    generalize lo * 2 ^ s = A at *
    generalize lo / 2 ^ (64 - s) = B at *
    generalize hi * 2 ^ s = C at *
    omega

/-- the low half of a word -/
theorem low_of (z : Nat) (h : z < 18446744073709551616) : bits .and .u64 (z : Int) 4294967295 = ((z % 4294967296 : Nat) : Int) := by
  rw [and_low32 z (by omega) (by omega)]; rfl


/-- One digit: what the estimate must meet. b = 2^32. -/
structure Dig (u d y1 y0 : Nat) : Prop where
  hy1 : 2147483648 ≤ y1
  hy1' : y1 < 4294967296
  hy0 : y0 < 4294967296
  hd : d < 4294967296
  hu : u < y1 * 4294967296 + y0

/-- the loop's invariant -/
structure Inv (u d y1 y0 q r : Nat) : Prop where
  sum : q * y1 + r = u
  up : (u * 4294967296 + d) / (y1 * 4294967296 + y0) ≤ q
  rlt : r < 4294967296
  qlt : q ≤ 8589934592

theorem start {u d y1 y0 : Nat} (h : Dig u d y1 y0) : Inv u d y1 y0 (u / y1) (u % y1) := by
  have hy := h.hy1
  have hpos : 0 < y1 := by omega
  refine ⟨?_, ?_, ?_, ?_⟩
  · rw [Nat.mul_comm]; exact Nat.div_add_mod u y1
  · rw [Nat.le_div_iff_mul_le hpos]
    have h1 : (u * 4294967296 + d) / (y1 * 4294967296 + y0) * (y1 * 4294967296 + y0) ≤ u * 4294967296 + d := Nat.div_mul_le_self _ _
    have h2 : (u * 4294967296 + d) / (y1 * 4294967296 + y0) * (y1 * 4294967296) ≤ (u * 4294967296 + d) / (y1 * 4294967296 + y0) * (y1 * 4294967296 + y0) := Nat.mul_le_mul_left _ (by omega)
    generalize (u * 4294967296 + d) / (y1 * 4294967296 + y0) = Q at h1 h2 ⊢
    rw [← Nat.mul_assoc] at h2
    have := h.hd
    omega
  · have := Nat.mod_lt u hpos
    have := h.hy1'
    omega
  · have h0 := h.hy0
    have hu := h.hu
    have h1' := h.hy1'
    have : u < 18446744073709551616 := by omega
    have : u / y1 ≤ u / 2147483648 := Nat.div_le_div_left hy (by omega)
    omega

theorem mulY (q y1 y0 : Nat) : q * (y1 * 4294967296 + y0) = q * y1 * 4294967296 + q * y0 := by
  rw [Nat.mul_add, Nat.mul_assoc]

/-- the test is true: the true digit is less than q -/
theorem toobig {u d y1 y0 q r : Nat} (h : Dig u d y1 y0) (i : Inv u d y1 y0 q r) (t : 4294967296 ≤ q ∨ 4294967296 * r + d < q * y0) :
    (u * 4294967296 + d) / (y1 * 4294967296 + y0) < q := by
  have hy := h.hy1
  rw [Nat.div_lt_iff_lt_mul (by omega)]
  rcases t with t | t
  · have h1 : 4294967296 * (y1 * 4294967296 + y0) ≤ q * (y1 * 4294967296 + y0) := Nat.mul_le_mul_right _ t
    have := h.hu; have := h.hd
    omega
  · rw [mulY]
    have := i.sum
    have e : q * y1 = u - r := by omega
    rw [e]
    omega

/-- the test is false, q is a digit: q is the true digit -/
theorem exact_ {u d y1 y0 q r : Nat} (h : Dig u d y1 y0) (i : Inv u d y1 y0 q r) (t : q * y0 ≤ 4294967296 * r + d) :
    q = (u * 4294967296 + d) / (y1 * 4294967296 + y0) := by
  refine Nat.le_antisymm ?_ i.up
  have hy := h.hy1
  rw [Nat.le_div_iff_mul_le (by omega), mulY]
  have := i.sum
  have e : q * y1 = u - r := by omega
  rw [e]
  omega

/-- a round: q - 1, r + y1, while that is less than b -/
theorem next {u d y1 y0 q r : Nat} (h : Dig u d y1 y0) (i : Inv u d y1 y0 q r) (t : 4294967296 ≤ q ∨ 4294967296 * r + d < q * y0) (hr : r + y1 < 4294967296) :
    Inv u d y1 y0 (q - 1) (r + y1) := by
  have hb := toobig h i t
  have hq : 1 ≤ q := Nat.lt_of_le_of_lt (Nat.zero_le _) hb
  have hs := i.sum
  refine ⟨?_, Nat.le_sub_one_of_lt hb, hr, by have := i.qlt; omega⟩
  have : (q - 1) * y1 + y1 = q * y1 := by
    rw [← Nat.succ_mul]; congr 1; omega
  omega

/-- the break: r + y1 is b or more: q - 1 is the true digit -/
theorem last {u d y1 y0 q r : Nat} (h : Dig u d y1 y0) (i : Inv u d y1 y0 q r) (t : 4294967296 ≤ q ∨ 4294967296 * r + d < q * y0) (hr : 4294967296 ≤ r + y1) :
    q - 1 = (u * 4294967296 + d) / (y1 * 4294967296 + y0) := by
  have hb := toobig h i t
  have hq1 : 1 ≤ q := Nat.lt_of_le_of_lt (Nat.zero_le _) hb
  have hs := i.sum
  have hy := h.hy1
  have hy' := h.hy1'
  have hy0 := h.hy0
  have hu := h.hu
  have hr2 := i.rlt
  have e : (q - 1) * y1 + (r + y1) = u := by
    have : (q - 1) * y1 + y1 = q * y1 := by
      rw [← Nat.succ_mul]; congr 1; omega
    omega
  refine Nat.le_antisymm ?_ (Nat.le_sub_one_of_lt hb)
  have hq : q - 1 < 4294967296 := by
    rcases Nat.lt_or_ge (q - 1) 4294967296 with h1 | h1
    · exact h1
    · have : 4294967296 * y1 ≤ (q - 1) * y1 := Nat.mul_le_mul_right _ h1
      omega
  have h2 : (q - 1) * y0 ≤ 4294967295 * 4294967295 := Nat.mul_le_mul (by omega) (by omega)
  rw [Nat.le_div_iff_mul_le (by omega), mulY]
  have : (q - 1) * y1 = u - (r + y1) := by omega
  rw [this]
  omega

theorem digit_lt {u d y1 y0 : Nat} (h : Dig u d y1 y0) : (u * 4294967296 + d) / (y1 * 4294967296 + y0) < 4294967296 := by
  have := h.hy1; have := h.hu; have := h.hd
  rw [Nat.div_lt_iff_lt_mul (by omega)]
  omega

theorem key0 (n y k u1 u0 u32 q1 r1 q0 r0 b : Nat) (hU : n * k = u32 * (b * b) + u1 * b + u0)
    (e1 : y * k * q1 + r1 = u32 * b + u1) (e0 : y * k * q0 + r0 = r1 * b + u0) : n * k = (y * (q1 * b + q0)) * k + r0 := by
  grind

theorem whole1 (n y k c r0 : Nat) (hy : 0 < y) (hk : 0 < k) (key : n * k = (y * c) * k + r0) (l0 : r0 < y * k) :
    c = n / y ∧ r0 / k = n % y := by
  have hle : y * c ≤ n := by
    refine Nat.le_of_mul_le_mul_right (c := k) ?_ hk
    omega
  obtain ⟨t, ht⟩ := Nat.le.dest hle
  have hr : r0 = t * k := by
    rw [← ht, Nat.add_mul] at key; omega
  have hty : t < y := by
    refine Nat.lt_of_mul_lt_mul_right (a := k) ?_
    omega
  refine ⟨?_, ?_⟩
  · rw [← ht, Nat.mul_add_div hy, Nat.div_eq_of_lt hty]; rfl
  · rw [hr, Nat.mul_div_cancel _ hk, ← ht, Nat.mul_add_mod, Nat.mod_eq_of_lt hty]

theorem whole0 (n y k u1 u0 u32 q1 r1 q0 r0 : Nat) (hy : 0 < y) (hk : 0 < k) (hU : n * k = u32 * 18446744073709551616 + u1 * 4294967296 + u0)
    (e1 : y * k * q1 + r1 = u32 * 4294967296 + u1) (e0 : y * k * q0 + r0 = r1 * 4294967296 + u0) (l0 : r0 < y * k) :
    q1 * 4294967296 + q0 = n / y ∧ r0 / k = n % y :=
  whole1 n y k _ r0 hy hk (key0 n y k u1 u0 u32 q1 r1 q0 r0 4294967296 hU e1 e0) l0

/-- the whole: two digits, and the shift taken back -/
theorem whole (n y k u1 u0 u32 : Nat) (hy : 0 < y) (hk : 0 < k) (hU : n * k = u32 * 18446744073709551616 + u1 * 4294967296 + u0) :
    (u32 * 4294967296 + u1) / (y * k) * 4294967296 + ((u32 * 4294967296 + u1) % (y * k) * 4294967296 + u0) / (y * k) = n / y ∧
    ((u32 * 4294967296 + u1) % (y * k) * 4294967296 + u0) % (y * k) / k = n % y :=
  whole0 n y k u1 u0 u32 _ _ _ _ hy hk hU (Nat.div_add_mod _ _) (Nat.div_add_mod _ _) (Nat.mod_lt _ (Nat.mul_pos hy hk))

/-- arithmetic that wraps at 2^64 finds the remainder -/
theorem wraps (a b c d m : Nat) (h : a * b + c = d * m + (a * b + c - d * m)) (hl : a * b + c - d * m < 18446744073709551616) :
    ((((a * b % 18446744073709551616 : Nat) : Int) + c) % 18446744073709551616 - ((d * m % 18446744073709551616 : Nat) : Int)) % 18446744073709551616 = ((a * b + c - d * m : Nat) : Int) := by
  generalize a * b = x at *
  generalize d * m = z at *
  omega

end Go.Proofs.Ytbkmcncakpmgkaa.DivMath

/-! Plain arithmetic of the method of largest remainders (no program in sight): ranks of rests, the parts, and what is promised of them. -/
namespace Go.Proofs.Ytbkmcncakpmgkaa.App

/-- i comes before j: a greater rest, or the same rest and a smaller index -/
def less (r : List Int) (i j : Nat) : Bool := decide (r.getD j 0 < r.getD i 0) || (decide (r.getD i 0 = r.getD j 0) && decide (i < j))

theorem less_iff {r : List Int} {i j : Nat} : less r i j = true ↔ r.getD j 0 < r.getD i 0 ∨ (r.getD i 0 = r.getD j 0 ∧ i < j) := by
  unfold less; simp only [Bool.or_eq_true, Bool.and_eq_true, decide_eq_true_eq]

theorem less_irrefl (r : List Int) (i : Nat) : less r i i = false := by
  rw [Bool.eq_false_iff]; intro h; rw [less_iff] at h; omega
theorem less_trans {r : List Int} {i j k : Nat} (h1 : less r i j = true) (h2 : less r j k = true) : less r i k = true := by
  rw [less_iff] at *; omega
theorem less_total {r : List Int} {i j : Nat} (h : i ≠ j) : less r i j = true ∨ less r j i = true := by
  rw [less_iff, less_iff]; omega
theorem less_asymm {r : List Int} {i j : Nat} (h1 : less r i j = true) : less r j i = false := by
  rw [Bool.eq_false_iff]; intro h; rw [less_iff] at *; omega

/-- how many come before i -/
def rank (r : List Int) (i : Nat) : Nat := (List.range r.length).countP (fun j => less r j i)

theorem countP_lt {α : Type} {p q : α → Bool} : ∀ {l : List α}, (∀ x ∈ l, p x = true → q x = true) → (∃ x ∈ l, p x = false ∧ q x = true) → l.countP p < l.countP q
  | [], _, h => by simp at h
  | a :: l, h, ⟨x, hx, h1, h2⟩ => by
    have hm : l.countP p ≤ l.countP q := List.countP_mono_left fun y hy => h y (List.mem_cons_of_mem _ hy)
    rw [List.countP_cons, List.countP_cons]
    rcases List.mem_cons.1 hx with rfl | hx
    · simp [h1, h2]; omega
    · have ih := countP_lt (l := l) (fun y hy => h y (List.mem_cons_of_mem _ hy)) ⟨x, hx, h1, h2⟩
      have ha := h a (List.mem_cons_self ..)
      cases hp : p a
      · simp; omega
      · simp [ha hp]; omega

theorem rank_lt {r : List Int} {i j : Nat} (hi : i < r.length) (h : less r i j = true) : rank r i < rank r j := by
  unfold rank
  refine countP_lt (fun x _ hx => less_trans hx h) ⟨i, by simpa using hi, less_irrefl r i, h⟩

theorem rank_inj {r : List Int} {i j : Nat} (hi : i < r.length) (hj : j < r.length) (h : rank r i = rank r j) : i = j := by
  rcases Nat.decEq i j with h0 | h0
  · rcases less_total (r := r) h0 with h1 | h1
    · have := rank_lt hi h1; omega
    · have := rank_lt hj h1; omega
  · exact h0

theorem less_of_rank {r : List Int} {i j : Nat} (hj : j < r.length) (h : rank r i < rank r j) : less r i j = true := by
  have h0 : i ≠ j := by intro e; subst e; omega
  rcases less_total (r := r) h0 with h1 | h1
  · exact h1
  · have := rank_lt hj h1; omega

/-- the indices in their order -/
def ord (r : List Int) : List Nat := (List.range r.length).mergeSort (fun i j => !less r j i)

theorem ord_perm (r : List Int) : (ord r).Perm (List.range r.length) := List.mergeSort_perm _ _

theorem ord_length (r : List Int) : (ord r).length = r.length := by rw [(ord_perm r).length_eq, List.length_range]

theorem ord_pairwise (r : List Int) : (ord r).Pairwise (fun i j => less r i j = true) := by
  have h1 : (ord r).Pairwise (fun i j => (!less r j i) = true) := by
    apply List.pairwise_mergeSort
    · intro a b c h1 h2
      simp only [Bool.not_eq_true'] at *
      rw [Bool.eq_false_iff] at *
      intro h; rw [ne_eq, less_iff] at *; omega
    · intro a b
      simp only [Bool.or_eq_true, Bool.not_eq_true']
      rcases h : less r b a with _ | _
      · left; rfl
      · right; exact less_asymm h
  have h2 : (ord r).Pairwise (fun i j => i ≠ j) := (ord_perm r).nodup_iff.2 List.nodup_range
  refine (h1.and h2).imp ?_
  intro a b ⟨h, hne⟩
  simp only [Bool.not_eq_true'] at h
  rcases less_total (r := r) hne with h3 | h3
  · exact h3
  · rw [h] at h3; cases h3

theorem countP_sorted {α : Type} (p : α → α → Bool) (irr : ∀ x, p x x = false) (as : ∀ x y, p x y = true → p y x = false) :
    ∀ (l : List α) (_ : l.Pairwise (fun x y => p x y = true)) (k : Nat) (hk : k < l.length), l.countP (fun x => p x l[k]) = k
  | a :: l, h, 0, hk => by
    rw [List.pairwise_cons] at h
    rw [List.countP_eq_zero]
    intro x hx
    rcases List.mem_cons.1 hx with rfl | hx
    · simp [irr]
    · simpa using as _ _ (h.1 x hx)
  | a :: l, h, k + 1, hk => by
    rw [List.pairwise_cons] at h
    have hk' : k < l.length := by simpa using hk
    have ih := countP_sorted p irr as l h.2 k hk'
    rw [List.countP_cons]
    simp only [List.getElem_cons_succ]
    rw [ih, if_pos (h.1 _ (List.getElem_mem hk'))]

theorem rank_ord (r : List Int) (k : Nat) (hk : k < (ord r).length) : rank r (ord r)[k] = k := by
  unfold rank
  rw [← (ord_perm r).countP_eq]
  exact countP_sorted (fun i j => less r i j) (less_irrefl r) (fun _ _ h => less_asymm h) _ (ord_pairwise r) k hk

theorem ord_lt (r : List Int) (k : Nat) (hk : k < (ord r).length) : (ord r)[k] < r.length := by
  have := (ord_perm r).mem_iff.1 (List.getElem_mem hk)
  simpa using this

theorem rank_surj {r : List Int} {k : Nat} (hk : k < r.length) : ∃ i, i < r.length ∧ rank r i = k := by
  have h : k < (ord r).length := by rw [ord_length]; exact hk
  exact ⟨_, ord_lt r k h, rank_ord r k h⟩

/-- the first m of the order get one more -/
def bump (q r : List Int) (m : Nat) : List Int := (List.range q.length).map fun i => q.getD i 0 + if rank r i < m then 1 else 0

/-- the rests of the first m of the order are gone -/
def hide (r : List Int) (m : Nat) : List Int := (List.range r.length).map fun i => if rank r i < m then -1 else r.getD i 0

theorem bump_length (q r : List Int) (m : Nat) : (bump q r m).length = q.length := by simp [bump]
theorem hide_length (r : List Int) (m : Nat) : (hide r m).length = r.length := by simp [hide]

theorem bump_getD {q r : List Int} {m i : Nat} (h : i < q.length) : (bump q r m).getD i 0 = q.getD i 0 + if rank r i < m then 1 else 0 := by
  simp [bump, h]
theorem hide_getD {r : List Int} {m i : Nat} (h : i < r.length) : (hide r m).getD i 0 = if rank r i < m then -1 else r.getD i 0 := by
  simp [hide, h]

theorem ext_getD {a b : List Int} (h : a.length = b.length) (h2 : ∀ i, i < a.length → a.getD i 0 = b.getD i 0) : a = b := by
  apply List.ext_getElem h
  intro i h1 h3
  have := h2 i h1
  simpa [h1, h3] using this

theorem bump_zero (q r : List Int) : bump q r 0 = q := by
  apply ext_getD (bump_length ..)
  intro i hi; rw [bump_length] at hi; rw [bump_getD hi]; simp
theorem hide_zero (r : List Int) : hide r 0 = r := by
  apply ext_getD (hide_length ..)
  intro i hi; rw [hide_length] at hi; rw [hide_getD hi]; simp

theorem bump_succ {q r : List Int} {k i : Nat} (hl : q.length = r.length) (hi : i < r.length) (hr : rank r i = k) :
    (bump q r k).set i ((bump q r k).getD i 0 + 1) = bump q r (k + 1) := by
  apply ext_getD (by simp [bump_length])
  intro j hj
  have hj' : j < q.length := by simpa [bump_length] using hj
  have hi' : i < q.length := by omega
  rw [bump_getD hj']
  by_cases e : i = j
  · subst e
    rw [List.getD_eq_getElem?_getD, List.getElem?_set_self (by simpa [bump_length] using hi')]
    rw [Option.getD_some, bump_getD hi', hr]; simp
  · rw [List.getD_eq_getElem?_getD, List.getElem?_set_ne e, ← List.getD_eq_getElem?_getD, bump_getD hj']
    have : rank r j ≠ k := fun h => e (rank_inj hi (by omega) (by omega))
    congr 1
    by_cases h : rank r j < k
    · rw [if_pos h, if_pos (by omega)]
    · rw [if_neg h, if_neg (by omega)]

theorem hide_succ {r : List Int} {k i : Nat} (hi : i < r.length) (hr : rank r i = k) :
    (hide r k).set i (-1) = hide r (k + 1) := by
  apply ext_getD (by simp [hide_length])
  intro j hj
  have hj' : j < r.length := by simpa [hide_length] using hj
  rw [hide_getD hj']
  by_cases e : i = j
  · subst e
    rw [List.getD_eq_getElem?_getD, List.getElem?_set_self (by simpa [hide_length] using hi)]
    rw [Option.getD_some, hr]; simp
  · rw [List.getD_eq_getElem?_getD, List.getElem?_set_ne e, ← List.getD_eq_getElem?_getD, hide_getD hj']
    have : rank r j ≠ k := fun h => e (rank_inj hi (by omega) (by omega))
    by_cases h : rank r j < k
    · rw [if_pos h, if_pos (by omega)]
    · rw [if_neg h, if_neg (by omega)]

/-- b is the first of the greatest among the first i -/
def Best (l : List Int) (i b : Nat) : Prop := b < i ∧ (∀ j, j < i → l.getD j 0 ≤ l.getD b 0) ∧ (∀ j, j < b → l.getD j 0 < l.getD b 0)

theorem best_one (l : List Int) : Best l 1 0 := by
  refine ⟨by omega, fun j hj => ?_, fun j hj => by omega⟩
  have : j = 0 := by omega
  subst this; omega
theorem best_keep {l : List Int} {i b : Nat} (h : Best l i b) (hc : l.getD i 0 ≤ l.getD b 0) : Best l (i + 1) b :=
  ⟨by have := h.1; omega, fun j hj => by
    rcases Nat.lt_or_ge j i with h1 | h1
    · exact h.2.1 j h1
    · have : j = i := by omega
      subst this; exact hc, h.2.2⟩
theorem best_take {l : List Int} {i b : Nat} (h : Best l i b) (hc : l.getD b 0 < l.getD i 0) : Best l (i + 1) i :=
  ⟨by omega, fun j hj => by
    rcases Nat.lt_or_ge j i with h1 | h1
    · have := h.2.1 j h1; omega
    · have : j = i := by omega
      subst this; omega, fun j hj => by have := h.2.1 j hj; omega⟩

theorem best_rank {r : List Int} {k b : Nat} (hn : ∀ i, i < r.length → 0 ≤ r.getD i 0) (hk : k < r.length) (h : Best (hide r k) r.length b) : rank r b = k := by
  obtain ⟨hb, h1, h2⟩ := h
  obtain ⟨x, hx, rx⟩ := rank_surj hk
  have e1 := h1 x hx
  rw [hide_getD hx, hide_getD hb, rx, if_neg (by omega)] at e1
  have := hn x hx
  have hbk : k ≤ rank r b := by
    rcases Nat.lt_or_ge (rank r b) k with h3 | h3
    · rw [if_pos h3] at e1; omega
    · exact h3
  rw [if_neg (by omega)] at e1
  rcases Nat.lt_or_ge k (rank r b) with h3 | h3
  · rw [← rx] at h3
    have h4 := less_of_rank hb h3
    rw [less_iff] at h4
    rcases h4 with h4 | ⟨h4, h5⟩
    · omega
    · have := h2 x h5
      rw [hide_getD hx, hide_getD hb, rx, if_neg (by omega), if_neg (by omega)] at this
      omega
  · omega

/-- how many are chosen -/
theorem sum_perm {α : Type} (f : α → Int) {a b : List α} (h : a.Perm b) : (a.map f).sum = (b.map f).sum := by
  induction h with
  | nil => rfl
  | cons x _ ih => simp [ih]
  | swap x y l => simp; omega
  | trans _ _ i1 i2 => rw [i1, i2]

theorem sum_range_lt (m : Nat) : ∀ n, m ≤ n → ((List.range n).map fun k => if k < m then (1 : Int) else 0).sum = m
  | 0, h => by have : m = 0 := by omega
               subst this; rfl
  | n + 1, h => by
    rw [List.range_succ, List.map_append, List.sum_append]
    rcases Nat.lt_or_ge n m with h1 | h1
    · have : m = n + 1 := by omega
      subst this
      have e : ((List.range n).map fun k => if k < n + 1 then (1 : Int) else 0) = (List.range n).map fun k => if k < n then (1 : Int) else 0 := by
        apply List.map_congr_left
        intro a ha
        have : a < n := by simpa using ha
        rw [if_pos this, if_pos (by omega)]
      rw [e, sum_range_lt n n (Nat.le_refl _)]; simp
    · rw [sum_range_lt m n h1]; simp; omega

theorem map_rank_ord (r : List Int) : (ord r).map (rank r) = List.range r.length := by
  apply List.ext_getElem (by simp [ord_length])
  intro i h1 h2
  simp only [List.getElem_map, List.getElem_range]
  exact rank_ord r i (by simpa using h1)

theorem chosen_sum (r : List Int) (m : Nat) (h : m ≤ r.length) : ((List.range r.length).map fun i => if rank r i < m then (1 : Int) else 0).sum = m := by
  rw [← sum_perm _ (ord_perm r)]
  have : (ord r).map (fun i => if rank r i < m then (1 : Int) else 0) = ((ord r).map (rank r)).map (fun k => if k < m then (1 : Int) else 0) := by
    rw [List.map_map]; rfl
  rw [this, map_rank_ord, sum_range_lt m _ h]

theorem sum_add {α : Type} (f g : α → Int) (l : List α) : (l.map fun x => f x + g x).sum = (l.map f).sum + (l.map g).sum := by
  induction l with
  | nil => rfl
  | cons a l ih => simp [ih]; omega

theorem range_getD (q : List Int) : (List.range q.length).map (fun i => q.getD i 0) = q := by
  apply ext_getD (by simp)
  intro i hi
  have : i < q.length := by simpa using hi
  simp [this]

theorem bump_sum {q r : List Int} {m : Nat} (hl : q.length = r.length) (h : m ≤ r.length) : (bump q r m).sum = q.sum + m := by
  unfold bump
  rw [sum_add, range_getD, hl, chosen_sum r m h]

/-- quotients and rests -/
def quo (t : Int) (l : List Int) : List Int := l.map fun w => t * w / l.sum
def rem (t : Int) (l : List Int) : List Int := l.map fun w => t * w % l.sum
def left (t : Int) (l : List Int) : Nat := (t - (quo t l).sum).toNat
def app (t : Int) (l : List Int) : List Int := bump (quo t l) (rem t l) (left t l)

theorem quo_length (t : Int) (l : List Int) : (quo t l).length = l.length := by simp [quo]
theorem rem_length (t : Int) (l : List Int) : (rem t l).length = l.length := by simp [rem]
theorem app_length (t : Int) (l : List Int) : (app t l).length = l.length := by simp [app, bump_length, quo_length]

theorem quo_getD {t : Int} {l : List Int} {i : Nat} (h : i < l.length) : (quo t l).getD i 0 = t * l.getD i 0 / l.sum := by
  simp [quo, h]
theorem rem_getD {t : Int} {l : List Int} {i : Nat} (h : i < l.length) : (rem t l).getD i 0 = t * l.getD i 0 % l.sum := by
  simp [rem, h]

theorem sums (t W : Int) (l : List Int) : W * (l.map fun w => t * w / W).sum + (l.map fun w => t * w % W).sum = t * l.sum := by
  induction l with
  | nil => simp
  | cons a l ih =>
    simp only [List.map_cons, List.sum_cons, Int.mul_add]
    have := Int.mul_ediv_add_emod (t * a) W
    omega

def nz (r : List Int) : Nat := r.countP (fun x => decide (x ≠ 0))

theorem sum_rem_le (W : Int) (hW : 0 < W) : ∀ (r : List Int), (∀ x ∈ r, 0 ≤ x ∧ x < W) → 0 ≤ r.sum ∧ r.sum ≤ W * nz r
  | [], _ => by simp [nz]
  | a :: r, h => by
    have ih := sum_rem_le W hW r fun x hx => h x (List.mem_cons_of_mem _ hx)
    have ha := h a (List.mem_cons_self ..)
    unfold nz at *
    rw [List.countP_cons, List.sum_cons]
    by_cases h0 : a = 0
    · subst h0; simpa using ih
    · rw [if_pos (by simpa using h0)]
      rw [Int.natCast_add, Int.mul_add]
      have : W * ((1 : Nat) : Int) = W := by simp
      omega

structure Ok (t : Int) (l : List Int) : Prop where
  t0 : 0 ≤ t
  pos : ∀ x ∈ l, 0 ≤ x
  sum1 : 1 ≤ l.sum

theorem rem_bd {t : Int} {l : List Int} (h : Ok t l) : ∀ x ∈ rem t l, 0 ≤ x ∧ x < l.sum := by
  intro x hx
  have := h.sum1
  simp only [rem, List.mem_map] at hx
  obtain ⟨w, _, rfl⟩ := hx
  exact ⟨Int.emod_nonneg _ (by omega), Int.emod_lt_of_pos _ (by omega)⟩

theorem left_eq {t : Int} {l : List Int} (h : Ok t l) : (left t l : Int) = t - (quo t l).sum ∧ left t l ≤ nz (rem t l) ∧ 0 ≤ (quo t l).sum := by
  have s := sums t l.sum l
  have b := sum_rem_le l.sum (by have := h.sum1; omega) (rem t l) (rem_bd h)
  change l.sum * (quo t l).sum + (rem t l).sum = t * l.sum at s
  have h1 := h.sum1
  have hd : l.sum * (t - (quo t l).sum) = (rem t l).sum := by rw [Int.mul_sub, Int.mul_comm l.sum t]; omega
  have h0 : 0 ≤ t - (quo t l).sum := by
    rcases Int.lt_or_le (t - (quo t l).sum) 0 with h2 | h2
    · have := Int.mul_neg_of_pos_of_neg (show 0 < l.sum by omega) h2; omega
    · exact h2
  have hn : t - (quo t l).sum ≤ nz (rem t l) := by
    refine Int.le_of_mul_le_mul_left (a := l.sum) ?_ (by omega)
    rw [hd]; exact b.2
  have hq : 0 ≤ (quo t l).sum := by
    have : ∀ (m : List Int), (∀ x ∈ m, 0 ≤ x) → 0 ≤ m.sum := by
      intro m
      induction m with
      | nil => simp
      | cons a m ih => intro hm; simp only [List.sum_cons]; have := ih fun x hx => hm x (List.mem_cons_of_mem _ hx); have := hm a (List.mem_cons_self ..); omega
    apply this
    intro x hx
    simp only [quo, List.mem_map] at hx
    obtain ⟨w, hw, rfl⟩ := hx
    exact Int.ediv_nonneg (Int.mul_nonneg h.t0 (h.pos w hw)) (by omega)
  unfold left
  refine ⟨by omega, by omega, hq⟩

theorem nz_le (r : List Int) : nz r ≤ r.length := List.countP_le_length

theorem left_le {t : Int} {l : List Int} (h : Ok t l) : left t l ≤ l.length := by
  have := (left_eq h).2.1; have := nz_le (rem t l); rw [rem_length] at this; omega

/-- who has no rest comes behind all that have one -/
theorem countP_range (p : Int → Bool) (r : List Int) : (List.range r.length).countP (fun j => p (r.getD j 0)) = r.countP p := by
  have : (List.range r.length).countP (fun j => p (r.getD j 0)) = ((List.range r.length).map (fun i => r.getD i 0)).countP p := by
    rw [List.countP_map]; rfl
  rw [this, range_getD]

theorem rank_zero {r : List Int} {i : Nat} (hn : ∀ x ∈ r, 0 ≤ x) (h : r.getD i 0 = 0) : nz r ≤ rank r i := by
  unfold nz rank
  rw [← countP_range]
  apply List.countP_mono_left
  intro j hj h1
  have hj' : j < r.length := by simpa using hj
  have : 0 ≤ r.getD j 0 := by
    apply hn; rw [List.getD_eq_getElem?_getD, List.getElem?_eq_getElem hj', Option.getD_some]; exact List.getElem_mem hj'
  rw [less_iff, h]
  simp only [decide_eq_true_eq] at h1
  omega

theorem rem_pos {t : Int} {l : List Int} (h : Ok t l) : ∀ x ∈ rem t l, 0 ≤ x := fun x hx => (rem_bd h x hx).1

theorem chosen_nz {t : Int} {l : List Int} (h : Ok t l) {i : Nat} (hc : rank (rem t l) i < left t l) : (rem t l).getD i 0 ≠ 0 := by
  intro h0
  have := rank_zero (rem_pos h) h0
  have := (left_eq h).2.1
  omega

/-- NOTHING IS LOST -/
theorem app_sum {t : Int} {l : List Int} (h : Ok t l) : (app t l).sum = t := by
  unfold app
  have h1 := left_eq h
  rw [bump_sum (by rw [quo_length, rem_length]) (by rw [rem_length]; exact left_le h)]
  omega

theorem app_getD {t : Int} {l : List Int} {i : Nat} (hi : i < l.length) : (app t l).getD i 0 = t * l.getD i 0 / l.sum + if rank (rem t l) i < left t l then 1 else 0 := by
  unfold app
  rw [bump_getD (by rw [quo_length]; exact hi), quo_getD hi]

theorem app_quota {t : Int} {l : List Int} (h : Ok t l) {i : Nat} (hi : i < l.length) :
    (app t l).getD i 0 = t * l.getD i 0 / l.sum ∨ ((app t l).getD i 0 = t * l.getD i 0 / l.sum + 1 ∧ t * l.getD i 0 % l.sum ≠ 0) := by
  rw [app_getD hi]
  by_cases hc : rank (rem t l) i < left t l
  · right
    have := chosen_nz h hc
    rw [rem_getD hi] at this
    exact ⟨by rw [if_pos hc], this⟩
  · left; rw [if_neg hc]; omega

theorem app_zero {t : Int} {l : List Int} (h : Ok t l) {i : Nat} (hi : i < l.length) (h0 : l.getD i 0 = 0) : (app t l).getD i 0 = 0 := by
  rcases app_quota h hi with e | ⟨_, e⟩
  · rw [e, h0]; simp
  · rw [h0] at e; simp at e

/-- A GREATER WEIGHT NEVER HAS A SMALLER PART -/
theorem app_fair {t : Int} {l : List Int} (h : Ok t l) {i k : Nat} (hi : i < l.length) (hk : k < l.length) (hw : l.getD k 0 < l.getD i 0) : (app t l).getD k 0 ≤ (app t l).getD i 0 := by
  have h1 := h.sum1
  have e1 := Int.mul_ediv_add_emod (t * l.getD i 0) l.sum
  have e2 := Int.mul_ediv_add_emod (t * l.getD k 0) l.sum
  have r1 := rem_getD (t := t) hi
  have r2 := rem_getD (t := t) hk
  have hm : t * l.getD k 0 ≤ t * l.getD i 0 := Int.mul_le_mul_of_nonneg_left (by omega) h.t0
  have hq : t * l.getD k 0 / l.sum ≤ t * l.getD i 0 / l.sum := Int.ediv_le_ediv (by omega) hm
  rw [app_getD hi, app_getD hk]
  rcases Int.lt_or_le (t * l.getD k 0 / l.sum) (t * l.getD i 0 / l.sum) with h2 | h2
  · split <;> split <;> omega
  · have eq : t * l.getD k 0 / l.sum = t * l.getD i 0 / l.sum := by omega
    rw [eq] at e2 ⊢
    by_cases hc : rank (rem t l) k < left t l
    · have ht : t ≠ 0 := by
        intro h0
        have := chosen_nz h hc
        rw [r2, h0] at this; simp at this
      have hlt : t * l.getD k 0 < t * l.getD i 0 := Int.mul_lt_mul_of_pos_left hw (by have := h.t0; omega)
      have hless : less (rem t l) i k = true := by rw [less_iff, r1, r2]; left; omega
      have := rank_lt (by rw [rem_length]; exact hi) hless
      rw [if_pos hc, if_pos (by omega)]; omega
    · rw [if_neg hc]; split <;> omega

/-- OF EQUAL WEIGHTS THE EARLIER ONE HAS THE SAME PART, OR ONE MORE -/
theorem app_equal {t : Int} {l : List Int} {i k : Nat} (hi : i < l.length) (hk : k < i) (hw : l.getD i 0 = l.getD k 0) :
    (app t l).getD k 0 = (app t l).getD i 0 ∨ (app t l).getD k 0 = (app t l).getD i 0 + 1 := by
  have hk' : k < l.length := by omega
  rw [app_getD hi, app_getD hk', hw]
  by_cases hc : rank (rem t l) i < left t l
  · have hless : less (rem t l) k i = true := by rw [less_iff, rem_getD hi, rem_getD hk', hw]; right; exact ⟨rfl, hk⟩
    have := rank_lt (by rw [rem_length]; exact hk') hless
    rw [if_pos hc, if_pos (by omega)]; left; rfl
  · rw [if_neg hc]
    split
    · right; omega
    · left; rfl

/-- MULTIPLYING ALL WEIGHTS CHANGES NOTHING -/
theorem sum_scale (c : Int) (l : List Int) : (l.map fun w => c * w).sum = c * l.sum := by
  induction l with
  | nil => simp
  | cons a l ih => simp only [List.map_cons, List.sum_cons, ih, Int.mul_add]

theorem scale_div (c a b : Int) (hc : 0 < c) : c * a / (c * b) = a / b := Int.mul_ediv_mul_of_pos _ _ hc
theorem scale_mod (c a b : Int) (hc : 0 < c) : c * a % (c * b) = c * (a % b) := Int.mul_emod_mul_of_pos _ _ hc

theorem rank_congr {r s : List Int} (hl : r.length = s.length) {i : Nat} (h : ∀ j, j < r.length → less r j i = less s j i) : rank r i = rank s i := by
  unfold rank
  rw [← hl]
  apply List.countP_congr
  intro j hj
  rw [h j (by simpa using hj)]

theorem app_scale {c : Int} (hc : 1 ≤ c) (t : Int) (l : List Int) : app t (l.map fun w => c * w) = app t l := by
  have hq : quo t (l.map fun w => c * w) = quo t l := by
    unfold quo
    rw [sum_scale, List.map_map]
    apply List.map_congr_left
    intro w _
    show t * (c * w) / (c * l.sum) = _
    rw [Int.mul_left_comm, scale_div _ _ _ (by omega)]
  have hr : rem t (l.map fun w => c * w) = (rem t l).map fun x => c * x := by
    unfold rem
    rw [sum_scale, List.map_map, List.map_map]
    apply List.map_congr_left
    intro w _
    show t * (c * w) % (c * l.sum) = c * (t * w % l.sum)
    rw [Int.mul_left_comm, scale_mod _ _ _ (by omega)]
  unfold app
  have hleft : left t (l.map fun w => c * w) = left t l := by unfold left; rw [hq]
  rw [hleft, hq, hr]
  unfold bump
  apply List.map_congr_left
  intro i hi
  have hi' : i < l.length := by simpa [quo_length] using hi
  have g : ∀ j, ((rem t l).map fun x => c * x).getD j 0 = c * (rem t l).getD j 0 := by
    intro j
    rw [List.getD_eq_getElem?_getD, List.getD_eq_getElem?_getD, List.getElem?_map]
    cases (rem t l)[j]? <;> simp
  rw [rank_congr (r := (rem t l).map fun x => c * x) (s := rem t l) (by simp)]
  intro j _
  rw [Bool.eq_iff_iff, less_iff, less_iff, g, g]
  have a1 : c * (rem t l).getD i 0 < c * (rem t l).getD j 0 ↔ (rem t l).getD i 0 < (rem t l).getD j 0 := Int.mul_lt_mul_left (by omega)
  have a2 : c * (rem t l).getD j 0 = c * (rem t l).getD i 0 ↔ (rem t l).getD j 0 = (rem t l).getD i 0 := Int.mul_eq_mul_left_iff (by omega)
  rw [a1, a2]

/-- A WEIGHT OF 0 CHANGES NO OTHER PART -/
theorem ins_getD (a b : List Int) (x : Int) (j : Nat) : (a ++ x :: b).getD (if j < a.length then j else j + 1) 0 = (a ++ b).getD j 0 := by
  rw [List.getD_eq_getElem?_getD, List.getD_eq_getElem?_getD]
  by_cases h : j < a.length
  · rw [if_pos h, List.getElem?_append_left h, List.getElem?_append_left h]
  · rw [if_neg h, List.getElem?_append_right (by omega), List.getElem?_append_right (by omega)]
    rw [show j + 1 - a.length = (j - a.length) + 1 by omega, List.getElem?_cons_succ]

def sh (n j : Nat) : Nat := if j < n then j else j + 1

theorem range_ins (n m : Nat) : (List.range (n + (m + 1))).Perm (n :: (List.range (n + m)).map (sh n)) := by
  have e1 : List.range (n + (m + 1)) = List.range n ++ n :: (List.range m).map (fun j => n + 1 + j) := by
    rw [List.range_add, List.range_succ_eq_map, List.map_cons, List.map_map]
    congr 2
    apply List.map_congr_left
    intro x _; simp; omega
  have e2 : (List.range (n + m)).map (sh n) = List.range n ++ (List.range m).map (fun j => n + 1 + j) := by
    rw [List.range_add, List.map_append, List.map_map]
    congr 1
    · conv => rhs; rw [← List.map_id (List.range n)]
      apply List.map_congr_left
      intro x hx
      have : x < n := by simpa using hx
      simp [sh, this]
    · apply List.map_congr_left
      intro x _
      show sh n (n + x) = n + 1 + x
      unfold sh; rw [if_neg (by omega)]; omega
  rw [e1, e2]
  exact List.perm_middle

theorem sh_lt (n i j : Nat) : sh n i < sh n j ↔ i < j := by unfold sh; split <;> split <;> omega

theorem rank_ins (a b : List Int) (i : Nat) (hpos : 0 < (a ++ b).getD i 0) : rank (a ++ 0 :: b) (sh a.length i) = rank (a ++ b) i := by
  unfold rank
  have hl : (a ++ 0 :: b).length = a.length + (b.length + 1) := by simp
  rw [hl, (range_ins a.length b.length).countP_eq, List.countP_cons, List.countP_map]
  have e : less (a ++ 0 :: b) a.length (sh a.length i) = false := by
    rw [Bool.eq_false_iff]; intro h; rw [less_iff] at h
    rw [show (a ++ 0 :: b).getD (sh a.length i) 0 = (a ++ b).getD i 0 from ins_getD a b 0 i] at h
    have : (a ++ 0 :: b).getD a.length 0 = 0 := by simp
    rw [this] at h; omega
  rw [if_neg (by simp [e]), Nat.add_zero, List.length_append]
  apply List.countP_congr
  intro j _
  show less (a ++ 0 :: b) (sh a.length j) (sh a.length i) = true ↔ _
  rw [less_iff, less_iff, show (a ++ 0 :: b).getD (sh a.length i) 0 = (a ++ b).getD i 0 from ins_getD a b 0 i,
    show (a ++ 0 :: b).getD (sh a.length j) 0 = (a ++ b).getD j 0 from ins_getD a b 0 j, sh_lt]

theorem app_ins {t : Int} {a b : List Int} (h : Ok t (a ++ b)) :
    Ok t (a ++ 0 :: b) ∧ (app t (a ++ 0 :: b)).getD a.length 0 = 0 ∧ (app t (a ++ 0 :: b)).take a.length ++ (app t (a ++ 0 :: b)).drop (a.length + 1) = app t (a ++ b) := by
  have hs : (a ++ 0 :: b).sum = (a ++ b).sum := by simp
  have hok : Ok t (a ++ 0 :: b) := by
    refine ⟨h.t0, ?_, by rw [hs]; exact h.sum1⟩
    intro x hx
    have hp := h.pos
    simp only [List.mem_append, List.mem_cons] at hx hp
    rcases hx with hx | rfl | hx
    · exact hp x (.inl hx)
    · omega
    · exact hp x (.inr hx)
  have hlen : a.length < (a ++ 0 :: b).length := by simp
  refine ⟨hok, app_zero hok hlen (by simp), ?_⟩
  have hl2 : (app t (a ++ 0 :: b)).length = a.length + (b.length + 1) := by rw [app_length]; simp
  have hlr : left t (a ++ 0 :: b) = left t (a ++ b) := by
    unfold left quo
    rw [hs]
    simp
  have hr : rem t (a ++ 0 :: b) = (a.map fun w => t * w % (a ++ b).sum) ++ 0 :: (b.map fun w => t * w % (a ++ b).sum) := by
    unfold rem; rw [hs]; simp
  have hr2 : rem t (a ++ b) = (a.map fun w => t * w % (a ++ b).sum) ++ (b.map fun w => t * w % (a ++ b).sum) := by
    unfold rem; simp
  apply ext_getD
  · rw [app_length, List.length_append, List.length_take, List.length_drop, hl2, List.length_append]; omega
  intro j hj
  have hj' : j < (a ++ b).length := by
    rw [List.length_append, List.length_take, List.length_drop, hl2] at hj
    rw [List.length_append]; omega
  have hsh : sh a.length j < (a ++ 0 :: b).length := by
    rw [List.length_append] at hj' ⊢
    rw [List.length_cons]; unfold sh; split <;> omega
  have e1 : ((app t (a ++ 0 :: b)).take a.length ++ (app t (a ++ 0 :: b)).drop (a.length + 1)).getD j 0 = (app t (a ++ 0 :: b)).getD (sh a.length j) 0 := by
    rw [List.getD_eq_getElem?_getD, List.getD_eq_getElem?_getD]
    unfold sh
    by_cases hja : j < a.length
    · rw [if_pos hja, List.getElem?_append_left (by rw [List.length_take, hl2]; omega), List.getElem?_take_of_lt hja]
    · rw [if_neg hja, List.getElem?_append_right (by rw [List.length_take, hl2]; omega), List.getElem?_drop, List.length_take, hl2]
      congr 2; omega
  rw [e1, app_getD hsh, app_getD hj', show (a ++ 0 :: b).getD (sh a.length j) 0 = (a ++ b).getD j 0 from ins_getD a b 0 j, hs, hlr]
  congr 1
  by_cases h0 : (rem t (a ++ b)).getD j 0 = 0
  · have n1 : ¬ rank (rem t (a ++ b)) j < left t (a ++ b) := fun hc => chosen_nz h hc h0
    have n2 : ¬ rank (rem t (a ++ 0 :: b)) (sh a.length j) < left t (a ++ b) := fun hc => by
      rw [← hlr] at hc
      have := chosen_nz hok hc
      apply this
      rw [rem_getD hsh, show (a ++ 0 :: b).getD (sh a.length j) 0 = (a ++ b).getD j 0 from ins_getD a b 0 j, hs]
      rw [rem_getD hj'] at h0; exact h0
    rw [if_neg n1, if_neg n2]
  · have hp : 0 ≤ (rem t (a ++ b)).getD j 0 := by
      rw [rem_getD hj']; exact Int.emod_nonneg _ (by have := h.sum1; omega)
    have : rank (rem t (a ++ 0 :: b)) (sh a.length j) = rank (rem t (a ++ b)) j := by
      rw [hr, hr2]
      rw [hr2] at h0 hp
      have := rank_ins (a.map fun w => t * w % (a ++ b).sum) (b.map fun w => t * w % (a ++ b).sum) j (by omega)
      rw [List.length_map] at this
      exact this
    rw [this]

end Go.Proofs.Ytbkmcncakpmgkaa.App

/-! Plain arithmetic of sums of lists (no program in sight). -/
namespace Go.Proofs.Ytbkmcncakpmgkaa

/-- none is negative, and the sum is at most M -/
def okS (M : Int) (l : List Int) : Bool := l.all (fun x => decide (0 ≤ x)) && decide (l.sum ≤ M)

theorem okS_iff {M : Int} {l : List Int} : okS M l = true ↔ (∀ x ∈ l, 0 ≤ x) ∧ l.sum ≤ M := by
  unfold okS; simp

theorem take_sum_succ (l : List Int) (k : Nat) (h : k < l.length) : (l.take (k + 1)).sum = (l.take k).sum + l.getD k 0 := by
  rw [List.take_succ_eq_append_getElem h, List.sum_append]
  simp [h]

theorem sum_nonneg : ∀ (l : List Int), (∀ x ∈ l, 0 ≤ x) → 0 ≤ l.sum
  | [], _ => by simp
  | a :: l, h => by
    have := sum_nonneg l fun x hx => h x (List.mem_cons_of_mem _ hx)
    have := h a (List.mem_cons_self ..)
    rw [List.sum_cons]; omega

theorem take_sum_le (l : List Int) (k : Nat) (h : ∀ x ∈ l, 0 ≤ x) : (l.take k).sum ≤ l.sum := by
  have e : (l.take k ++ l.drop k).sum = l.sum := by rw [List.take_append_drop]
  rw [List.sum_append] at e
  have := sum_nonneg (l.drop k) fun x hx => h x (List.mem_of_mem_drop hx)
  omega

theorem getD_mem {l : List Int} {k : Nat} (h : k < l.length) : l.getD k 0 ∈ l := by
  rw [List.getD_eq_getElem?_getD, List.getElem?_eq_getElem h, Option.getD_some]; exact List.getElem_mem h

/-- the loop stops at a negative number, or where the sum would be too great -/
theorem okS_no {M : Int} {l : List Int} {k : Nat} (h : k < l.length) (t : l.getD k 0 < 0 ∨ M - (l.take k).sum < l.getD k 0) : okS M l = false := by
  rw [Bool.eq_false_iff]
  intro ho
  rw [okS_iff] at ho
  have h1 := ho.1 _ (getD_mem h)
  have h2 := take_sum_le l (k + 1) ho.1
  rw [take_sum_succ l k h] at h2
  have := ho.2
  omega

/-- what the loop knows -/
def Pre (M : Int) (l : List Int) (k : Nat) : Prop := (∀ x ∈ l.take k, 0 ≤ x) ∧ 0 ≤ (l.take k).sum ∧ (l.take k).sum ≤ M

theorem Pre.start {M : Int} (h : 0 ≤ M) (l : List Int) : Pre M l 0 := ⟨by simp, by simp, by simpa using h⟩
theorem Pre.next {M : Int} {l : List Int} {k : Nat} (p : Pre M l k) (h : k < l.length) (h0 : 0 ≤ l.getD k 0) (h1 : l.getD k 0 ≤ M - (l.take k).sum) : Pre M l (k + 1) := by
  obtain ⟨p1, p2, p3⟩ := p
  refine ⟨?_, ?_, ?_⟩
  · rw [List.take_succ_eq_append_getElem h]
    intro x hx
    rcases List.mem_append.1 hx with hx | hx
    · exact p1 x hx
    · simp at hx; subst hx; simpa [h] using h0
  · rw [take_sum_succ l k h]; omega
  · rw [take_sum_succ l k h]; omega
theorem Pre.last {M : Int} {l : List Int} {k : Nat} (p : Pre M l k) (h : l.length ≤ k) : okS M l = true ∧ (l.take k).sum = l.sum := by
  rw [List.take_of_length_le h]
  obtain ⟨p1, p2, p3⟩ := p
  rw [List.take_of_length_le h] at p1 p3
  exact ⟨okS_iff.2 ⟨p1, p3⟩, rfl⟩

/-- the loop's relation: the sum of the first k, none of them negative -/
def SumIs (M : Int) (l : List Int) (k : Nat) (z : Int) : Prop := Pre M l k ∧ z = (l.take k).sum
theorem SumIs.start {M : Int} (h : 0 ≤ M) (l : List Int) : SumIs M l 0 0 := ⟨Pre.start h l, by simp⟩
theorem SumIs.bd {M : Int} {l : List Int} {k : Nat} {z : Int} (h : SumIs M l k z) : 0 ≤ z ∧ z ≤ M := by obtain ⟨p, rfl⟩ := h; exact p.2
theorem SumIs.no {M : Int} {l : List Int} {k : Nat} {z x : Int} (h : SumIs M l k z) (hk : k < l.length) (hx : x = l.getD k 0) (t : x < 0 ∨ M - z < x) : okS M l = false := by
  obtain ⟨p, rfl⟩ := h; subst hx; exact okS_no hk t
theorem SumIs.next {M : Int} {l : List Int} {k : Nat} {z x : Int} (h : SumIs M l k z) (hk : k < l.length) (hx : x = l.getD k 0) (h0 : 0 ≤ x) (h1 : x ≤ M - z) : SumIs M l (k + 1) (z + x) := by
  obtain ⟨p, rfl⟩ := h; subst hx; exact ⟨p.next hk h0 h1, (take_sum_succ l k hk).symm⟩
theorem SumIs.last {M : Int} {l : List Int} {k : Nat} {z : Int} (h : SumIs M l k z) (hk : l.length ≤ k) : okS M l = true ∧ l.sum = z := by
  obtain ⟨p, rfl⟩ := h; have := p.last hk; exact ⟨this.1, this.2.symm⟩

/-- Sum's two results -/
def sumB (l : List Int) : Bool := okS 4611686018427387903 l
def sumV (l : List Int) : Int := if sumB l = true then l.sum else 0
/-- weigh's two results -/
def wgB (l : List Int) : Bool := okS 1000000000000000 l && decide (0 < l.sum)
def wgV (l : List Int) : Int := if okS 1000000000000000 l = true then l.sum else 0

theorem sum_no {l : List Int} (h : okS 4611686018427387903 l = false) : sumB l = false ∧ sumV l = 0 := by
  unfold sumV sumB; rw [h]; simp
theorem sum_yes {l : List Int} (h : okS 4611686018427387903 l = true) : sumB l = true ∧ sumV l = l.sum := by
  unfold sumV sumB; rw [h]; simp
theorem wg_no {l : List Int} (h : okS 1000000000000000 l = false) : wgB l = false ∧ wgV l = 0 := by
  unfold wgV wgB; rw [h]; simp
theorem wg_yes {l : List Int} (h : okS 1000000000000000 l = true) : wgB l = decide (0 < l.sum) ∧ wgV l = l.sum := by
  unfold wgV wgB; rw [h]; simp

end Go.Proofs.Ytbkmcncakpmgkaa

/-! Plain arithmetic of the reference's division, bit by bit (no program in sight). -/
namespace Go.Proofs.Ytbkmcncakpmgkaa

/-- quotient and rest of (the bits of a from j on) * b by c -/
def BitIs (a b c j q r : Nat) : Prop := q * c + r = a / 2 ^ j * b ∧ r < c

theorem BitIs.start (a b c : Nat) (ha : a ≤ 9223372036854775807) (hc : 1 ≤ c) : BitIs a b c 63 0 0 := by
  have : a / 2 ^ 63 = 0 := Nat.div_eq_of_lt (by omega)
  unfold BitIs; rw [this]; omega

theorem half (a j : Nat) : a / 2 ^ j = 2 * (a / 2 ^ (j + 1)) + a / 2 ^ j % 2 := by
  rw [Nat.pow_succ, ← Nat.div_div_eq_div_mul]; omega

theorem bit0 {a b c j q r : Nat} (h : BitIs a b c (j + 1) q r) (hb : a / 2 ^ j % 2 = 0) :
    (c ≤ 2 * r → BitIs a b c j (2 * q + 1) (2 * r - c)) ∧ (2 * r < c → BitIs a b c j (2 * q) (2 * r)) := by
  obtain ⟨h1, h2⟩ := h
  have e := half a j
  rw [hb, Nat.add_zero] at e
  unfold BitIs
  rw [e, Nat.mul_assoc, ← h1, Nat.add_mul, Nat.mul_assoc, Nat.mul_add]
  exact ⟨fun h => ⟨by omega, by omega⟩, fun h => ⟨by omega, by omega⟩⟩

theorem bit1 {a b c j q r B R : Nat} (h : BitIs a b c (j + 1) q r) (hb : a / 2 ^ j % 2 = 1) (hB : B * c + R = b) (hR : R < c) :
    (c ≤ 2 * r → c ≤ 2 * r - c + R → BitIs a b c j (2 * q + 1 + B + 1) (2 * r - c + R - c)) ∧ (c ≤ 2 * r → 2 * r - c + R < c → BitIs a b c j (2 * q + 1 + B) (2 * r - c + R)) ∧
    (2 * r < c → c ≤ 2 * r + R → BitIs a b c j (2 * q + B + 1) (2 * r + R - c)) ∧ (2 * r < c → 2 * r + R < c → BitIs a b c j (2 * q + B) (2 * r + R)) := by
  obtain ⟨h1, h2⟩ := h
  have e := half a j
  rw [hb] at e
  have e2 : (2 * (a / 2 ^ (j + 1)) + 1) * b = 2 * (q * c + r) + (B * c + R) := by
    rw [h1, hB, Nat.add_mul, Nat.mul_assoc]; omega
  unfold BitIs
  rw [e, e2]
  simp only [Nat.add_mul, Nat.mul_assoc, Nat.mul_add]
  generalize q * c = x at *
  generalize B * c = y at *
  exact ⟨fun _ _ => ⟨by omega, by omega⟩, fun _ _ => ⟨by omega, by omega⟩, fun _ _ => ⟨by omega, by omega⟩, fun _ _ => ⟨by omega, by omega⟩⟩

theorem BitIs.val {a b c j q r : Nat} (h : BitIs a b c j q r) : q = a / 2 ^ j * b / c ∧ r = a / 2 ^ j * b % c := by
  obtain ⟨h1, h2⟩ := h
  rw [← h1]
  constructor
  · rw [Nat.mul_comm, Nat.mul_add_div (by omega), Nat.div_eq_of_lt h2]; rfl
  · rw [Nat.mul_comm, Nat.mul_add_mod, Nat.mod_eq_of_lt h2]

theorem BitIs.last {a b c q r : Nat} (h : BitIs a b c 0 q r) : q = a * b / c ∧ r = a * b % c := by
  have := h.val; simpa using this

theorem BitIs.great {a b c j q r : Nat} (h : BitIs a b c j q r) (hq : 4611686018427387903 < q) : ¬ a * b / c ≤ 4611686018427387903 := by
  have h1 := h.val.1
  have h2 : a / 2 ^ j * b / c ≤ a * b / c := Nat.div_le_div_right (Nat.mul_le_mul_right _ (Nat.div_le_self _ _))
  omega

end Go.Proofs.Ytbkmcncakpmgkaa
