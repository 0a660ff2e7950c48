/-
  Contracts of package amount's product, over, MulDiv and Percent: what each returns.
-/
import Derived.Test.YtbefbodihfijbaaDivB
import Derived.WalkSmall
namespace Go.Proofs.Ytbefbodihfijbaa
set_option linter.unusedVariables false
open Go.ChangeShapes Go.WideShapes Go.ChangeAt Go.RowKit

def hiW (n : Nat) : Nat := n / 18446744073709551616
def loW (n : Nat) : Nat := n % 18446744073709551616
theorem hilo (n : Nat) : hiW n * 18446744073709551616 + loW n = n := by unfold hiW loW; omega
theorem loW_le (n : Nat) : loW n ≤ 18446744073709551615 := by unfold loW; omega

set_option maxHeartbeats 400000 in
theorem product_any (a b : Nat) (w : World) (h1 : a ≤ 9223372036854775807) (h2 : b ≤ 9223372036854775807) :
    Calls Try.prog 29 #[.int .i64 a, .int .i64 b] w fun e w' => e = .returned (.agg #[.int .u64 (hiW (a * b) : Nat), .int .u64 (loW (a * b) : Nat)]) ∧ Below w.heap.size w w' := by
  have hm := Try.bits_Mul64 a b (by omega) (by omega)
  change ∀ w, Calls Try.prog _ _ w fun e w' => e = .returned (.tuple #[.int .u64 (hiW (a * b) : Nat), .int .u64 (loW (a * b) : Nat)]) ∧ w' = w at hm
  have HM := Lib.hid hm
  clear hm
  generalize hiW (a * b) = hi at *
  generalize loW (a * b) = lo at *
  go_enter Try.func29, Try.ntmps29
  go_wp2_with fail
  refine (HM.out _).mono ?_
  rintro e w' ⟨rfl, rfl⟩
  go_wp2_with fail
  exact bodyPost_ret (v := .agg #[.int .u64 hi, .int .u64 lo]) (by simp [results, Try.results29, go_sem]) rfl ⟨rfl, (Below.refl _ _).alloc (Nat.le_refl _) _⟩

/-- the quotient, 0 where it is too great -/
def ovQ (n c : Nat) : Nat := if n / c ≤ 4611686018427387903 then n / c else 0
def ovR (n c : Nat) : Nat := if n / c ≤ 4611686018427387903 then n % c else 0
def ovB (n c : Nat) : Bool := decide (n / c ≤ 4611686018427387903)

theorem ov_hi {hi lo c : Nat} (h : c ≤ hi) (hc : 1 ≤ c) : ¬ (hi * 18446744073709551616 + lo) / c ≤ 4611686018427387903 := by
  have : 18446744073709551616 ≤ (hi * 18446744073709551616 + lo) / c := by
    rw [Nat.le_div_iff_mul_le (by omega)]
    have : 18446744073709551616 * c ≤ 18446744073709551616 * hi := Nat.mul_le_mul_left _ h
    omega
  omega

set_option maxHeartbeats 400000 in
theorem over_any (hi lo c : Nat) (w : World) (h1 : hi ≤ 9223372036854775807) (h2 : lo ≤ 18446744073709551615) (h3 : 1 ≤ c) (h4 : c ≤ 9223372036854775807) :
    Calls Try.prog 30 #[.agg #[.int .u64 hi, .int .u64 lo], .int .i64 c] w fun e w' => e = .returned (.tuple #[.int .i64 (ovQ (hi * 18446744073709551616 + lo) c : Nat), .int .i64 (ovR (hi * 18446744073709551616 + lo) c : Nat), .bool (ovB (hi * 18446744073709551616 + lo) c)]) ∧ Below w.heap.size w w' := by
  by_cases hc : c ≤ hi
  · have hov := ov_hi (lo := lo) hc h3
    have e1 : ovQ (hi * 18446744073709551616 + lo) c = 0 := by unfold ovQ; rw [if_neg hov]
    have e2 : ovR (hi * 18446744073709551616 + lo) c = 0 := by unfold ovR; rw [if_neg hov]
    have e3 : ovB (hi * 18446744073709551616 + lo) c = false := by unfold ovB; exact decide_eq_false hov
    rw [e1, e2, e3]
    clear hov e1 e2 e3
    go_enter Try.func30, Try.ntmps30
    go_wp2_with fail
    go_ret3
    exact ⟨rfl, (Below.refl _ _).alloc (Nat.le_refl _) _⟩
  · have hd := fun w => div_any hi lo c w (by omega) h2 h4
    have HD := Lib.hid hd
    clear hd
    have hr : (hi * 18446744073709551616 + lo) % c < c := Nat.mod_lt _ (by omega)
    by_cases hq : (hi * 18446744073709551616 + lo) / c ≤ 4611686018427387903
    · have e1 : ovQ (hi * 18446744073709551616 + lo) c = (hi * 18446744073709551616 + lo) / c := by unfold ovQ; rw [if_pos hq]
      have e2 : ovR (hi * 18446744073709551616 + lo) c = (hi * 18446744073709551616 + lo) % c := by unfold ovR; rw [if_pos hq]
      have e3 : ovB (hi * 18446744073709551616 + lo) c = true := by unfold ovB; exact decide_eq_true hq
      rw [e1, e2, e3]
      clear e1 e2 e3
      generalize (hi * 18446744073709551616 + lo) / c = Q at *
      generalize (hi * 18446744073709551616 + lo) % c = R at *
      go_enter Try.func30, Try.ntmps30
      go_wp2_with fail
      refine (HD.out _).mono ?_
      rintro e w' ⟨rfl, n, rfl⟩
      go_wp2_with fail
      go_ret3
      exact ⟨rfl, below_drewN ((Below.refl _ _).alloc (Nat.le_refl _) _) n⟩
    · have e1 : ovQ (hi * 18446744073709551616 + lo) c = 0 := by unfold ovQ; rw [if_neg hq]
      have e2 : ovR (hi * 18446744073709551616 + lo) c = 0 := by unfold ovR; rw [if_neg hq]
      have e3 : ovB (hi * 18446744073709551616 + lo) c = false := by unfold ovB; exact decide_eq_false hq
      rw [e1, e2, e3]
      clear e1 e2 e3
      generalize (hi * 18446744073709551616 + lo) / c = Q at *
      generalize (hi * 18446744073709551616 + lo) % c = R at *
      go_enter Try.func30, Try.ntmps30
      go_wp2_with fail
      refine (HD.out _).mono ?_
      rintro e w' ⟨rfl, n, rfl⟩
      go_wp2_with fail
      go_ret3
      exact ⟨rfl, below_drewN ((Below.refl _ _).alloc (Nat.le_refl _) _) n⟩

theorem none_yes (a b : Int) (g : Nat) (w : World) (ha : 0 ≤ a) (hb : 0 ≤ b) (c0 : w.cell? ⟨g, 0, none⟩ = some (.int .i64 a)) (c1 : w.cell? ⟨g, 1, none⟩ = some (.int .i64 b)) (hg : g < w.heap.size) :
    Calls Try.prog 28 #[.int .i64 0, .slice (some ⟨g, 0, none⟩) 2 2] w fun e w' => e = .returned (.bool true) ∧ Below w.heap.size w w' := by
  have h := none_any a b g w c0 c1 hg
  have e : noneB a b = true := by simp [noneB]; omega
  rwa [e] at h
theorem none_no (a b : Int) (g : Nat) (w : World) (h : a < 0 ∨ b < 0) (c0 : w.cell? ⟨g, 0, none⟩ = some (.int .i64 a)) (c1 : w.cell? ⟨g, 1, none⟩ = some (.int .i64 b)) (hg : g < w.heap.size) :
    Calls Try.prog 28 #[.int .i64 0, .slice (some ⟨g, 0, none⟩) 2 2] w fun e w' => e = .returned (.bool false) ∧ Below w.heap.size w w' := by
  have h1 := none_any a b g w c0 c1 hg
  have e : noneB a b = false := by simp [noneB]; omega
  rwa [e] at h1

/-- MulDiv's two results -/
def mdB (a b c : Int) : Bool := decide (0 ≤ a) && decide (0 ≤ b) && decide (1 ≤ c) && decide (a * b / c ≤ 4611686018427387903)
def mdV (a b c : Int) : Int := if mdB a b c = true then a * b / c else 0

theorem md_no {a b c : Int} (h : a < 0 ∨ b < 0 ∨ c < 1) : mdB a b c = false ∧ mdV a b c = 0 := by
  have e : mdB a b c = false := by
    unfold mdB; simp; omega
  exact ⟨e, by unfold mdV; rw [e]; simp⟩

theorem md_ov (a b c : Nat) (hc : 1 ≤ c) : mdB a b c = ovB (a * b) c ∧ mdV a b c = (ovQ (a * b) c : Nat) := by
  have e0 : (a : Int) * b / c = ((a * b / c : Nat) : Int) := by rw [Int.natCast_ediv, Int.natCast_mul]
  have e : mdB a b c = ovB (a * b) c := by
    unfold mdB ovB; rw [e0, Bool.eq_iff_iff]; simp; omega
  refine ⟨e, ?_⟩
  unfold mdV ovQ
  rw [e]; unfold ovB; simp only [decide_eq_true_eq]
  split
  · exact e0
  · rfl

theorem hiW_le (a b : Nat) (h1 : a ≤ 9223372036854775807) (h2 : b ≤ 9223372036854775807) : hiW (a * b) ≤ 9223372036854775807 := by
  unfold hiW
  have : a * b ≤ 9223372036854775807 * 9223372036854775807 := Nat.mul_le_mul h1 h2
  omega

/-- product and over, one behind the other -/
theorem over_product (a b c : Nat) (w : World) (h1 : a ≤ 9223372036854775807) (h2 : b ≤ 9223372036854775807) (h3 : 1 ≤ c) (h4 : c ≤ 9223372036854775807) :
    Calls Try.prog 30 #[.agg #[.int .u64 (hiW (a * b) : Nat), .int .u64 (loW (a * b) : Nat)], .int .i64 c] w fun e w' => e = .returned (.tuple #[.int .i64 (ovQ (a * b) c : Nat), .int .i64 (ovR (a * b) c : Nat), .bool (ovB (a * b) c)]) ∧ Below w.heap.size w w' := by
  have h := over_any (hiW (a * b)) (loW (a * b)) c w (hiW_le a b h1 h2) (loW_le _) h3 h4
  rwa [hilo] at h

theorem bch {B C : Nat} {a b c : World} (h1 : Below B a b) (h2 : Below C b c) (h : B ≤ C) : Below B a c := h1.trans (h2.mono h)

set_option maxHeartbeats 400000 in
theorem muldiv_any (a b c : Int) (w : World) (a1 : -9223372036854775808 ≤ a) (a2 : a ≤ 9223372036854775807) (b1 : -9223372036854775808 ≤ b) (b2 : b ≤ 9223372036854775807) (c1 : -9223372036854775808 ≤ c) (c2 : c ≤ 9223372036854775807) :
    Calls Try.prog 14 #[.int .i64 a, .int .i64 b, .int .i64 c] w fun e w' => e = .returned (.tuple #[.int .i64 (mdV a b c), .bool (mdB a b c)]) ∧ Below w.heap.size w w' := by
  have hB : Below w.heap.size w (w.alloc (.cells #[.int .i64 a, .int .i64 b] 3)) := (Below.refl _ _).alloc (Nat.le_refl _) _
  by_cases hab : a < 0 ∨ b < 0
  · obtain ⟨e1, e2⟩ := md_no (a := a) (b := b) (c := c) (by omega)
    rw [e1, e2]
    clear e1 e2
    have hn := fun g w => none_no a b g w hab
    have HN := Lib.hid hn
    clear hn hab
    go_enter Try.func14, Try.ntmps14
    go_wp2_with fail
    refine (HN.out w.heap.size _ (by simp) (by simp) (by simp)).mono ?_
    rintro e w' ⟨rfl, hb⟩
    go_wp2_with fail
    go_ret2
    exact ⟨rfl, bch hB hb (by simp)⟩
  · by_cases hc : c < 1
    · obtain ⟨e1, e2⟩ := md_no (a := a) (b := b) (c := c) (by omega)
      rw [e1, e2]
      clear e1 e2
      have hn := fun g w => none_yes a b g w (by omega) (by omega)
      have HN := Lib.hid hn
      clear hn hab
      go_enter Try.func14, Try.ntmps14
      go_wp2_with fail
      refine (HN.out w.heap.size _ (by simp) (by simp) (by simp)).mono ?_
      rintro e w' ⟨rfl, hb⟩
      go_wp2_with fail
      go_ret2
      exact ⟨rfl, bch hB hb (by simp)⟩
    · obtain ⟨x, rfl⟩ := Int.eq_ofNat_of_zero_le (show 0 ≤ a by omega)
      obtain ⟨y, rfl⟩ := Int.eq_ofNat_of_zero_le (show 0 ≤ b by omega)
      obtain ⟨z, rfl⟩ := Int.eq_ofNat_of_zero_le (show 0 ≤ c by omega)
      obtain ⟨e1, e2⟩ := md_ov x y z (by omega)
      rw [e1, e2]
      clear e1 e2
      have hn := fun g w => none_yes (x : Int) (y : Int) g w (by omega) (by omega)
      have HN := Lib.hid hn
      have hp := fun w => product_any x y w (by omega) (by omega)
      have HP := Lib.hid hp
      have ho := fun w => over_product x y z w (by omega) (by omega) (by omega) (by omega)
      have HO := Lib.hid ho
      clear hn hp ho
      generalize hiW (x * y) = hi at *
      generalize loW (x * y) = lo at *
      generalize ovQ (x * y) z = Q at *
      generalize ovR (x * y) z = R at *
      generalize ovB (x * y) z = O at *
      go_enter Try.func14, Try.ntmps14
      go_wp2_with fail
      refine (HN.out w.heap.size _ (by simp) (by simp) (by simp)).mono ?_
      rintro e w' ⟨rfl, hb⟩
      go_wp2_with fail
      refine (HP.out _).mono ?_
      rintro e w2 ⟨rfl, hb2⟩
      go_wp2_with fail
      refine (HO.out _).mono ?_
      rintro e w3 ⟨rfl, hb3⟩
      go_wp2_with fail
      go_ret2
      exact ⟨rfl, bch (bch (bch hB hb (by simp)) hb2 (by have := hb.size; simp at this; omega)) hb3 (by have := hb.size; have := hb2.size; simp at *; omega)⟩

/-- Percent's result -/
def pctV (t s : Int) : Int := if 0 ≤ t ∧ t ≤ 1000000000000000 ∧ 0 ≤ s ∧ s ≤ 1000000 then t * s / 1000000 else 0

theorem pct_md {t s : Int} (h : 0 ≤ t ∧ t ≤ 1000000000000000 ∧ 0 ≤ s ∧ s ≤ 1000000) : mdV t s 1000000 = pctV t s := by
  have e : t * s ≤ 1000000000000000 * 1000000 := Int.mul_le_mul h.2.1 h.2.2.2 h.2.2.1 (by omega)
  have : mdB t s 1000000 = true := by unfold mdB; simp; omega
  unfold mdV pctV; rw [if_pos this, if_pos h]

set_option maxHeartbeats 400000 in
theorem percent_any (t s : Int) (w : World) (a1 : -9223372036854775808 ≤ t) (a2 : t ≤ 9223372036854775807) (b1 : -9223372036854775808 ≤ s) (b2 : s ≤ 9223372036854775807) :
    Calls Try.prog 16 #[.int .i64 t, .int .i64 s] w fun e w' => e = .returned (.int .i64 (pctV t s)) ∧ Below w.heap.size w w' := by
  have hB : Below w.heap.size w (w.alloc (.cells #[.int .i64 t, .int .i64 s] 3)) := (Below.refl _ _).alloc (Nat.le_refl _) _
  by_cases hab : t < 0 ∨ s < 0
  · have e1 : pctV t s = 0 := by unfold pctV; rw [if_neg (by omega)]
    rw [e1]
    clear e1
    have hn := fun g w => none_no t s g w hab
    have HN := Lib.hid hn
    clear hn hab
    go_enter Try.func16, Try.ntmps16
    go_wp2_with fail
    refine (HN.out w.heap.size _ (by simp) (by simp) (by simp)).mono ?_
    rintro e w' ⟨rfl, hb⟩
    go_wp2_with fail
    go_ret
    exact ⟨rfl, bch hB hb (by simp)⟩
  · have hn := fun g w => none_yes t s g w (by omega) (by omega)
    have HN := Lib.hid hn
    clear hn
    by_cases hc : t ≤ 1000000000000000
    · by_cases hd : s ≤ 1000000
      · have e1 := pct_md (t := t) (s := s) (by omega)
        have hm := fun w => muldiv_any t s 1000000 w a1 a2 b1 b2 (by omega) (by omega)
        rw [e1] at hm
        have HM := Lib.hid hm
        clear e1 hm hab
        generalize mdB t s 1000000 = O at *
        generalize pctV t s = R at *
        go_enter Try.func16, Try.ntmps16
        go_wp2_with fail
        refine (HN.out w.heap.size _ (by simp) (by simp) (by simp)).mono ?_
        rintro e w' ⟨rfl, hb⟩
        go_wp2_with fail
        refine (HM.out _).mono ?_
        rintro e w2 ⟨rfl, hb2⟩
        go_wp2_with fail
        go_ret
        exact ⟨rfl, bch (bch hB hb (by simp)) hb2 (by have := hb.size; simp at this; omega)⟩
      · have e1 : pctV t s = 0 := by unfold pctV; rw [if_neg (by omega)]
        rw [e1]
        clear e1 hab
        go_enter Try.func16, Try.ntmps16
        go_wp2_with fail
        refine (HN.out w.heap.size _ (by simp) (by simp) (by simp)).mono ?_
        rintro e w' ⟨rfl, hb⟩
        go_wp2_with fail
        go_ret
        exact ⟨rfl, bch hB hb (by simp)⟩
    · have e1 : pctV t s = 0 := by unfold pctV; rw [if_neg (by omega)]
      rw [e1]
      clear e1 hab
      go_enter Try.func16, Try.ntmps16
      go_wp2_with fail
      refine (HN.out w.heap.size _ (by simp) (by simp) (by simp)).mono ?_
      rintro e w' ⟨rfl, hb⟩
      go_wp2_with fail
      go_ret
      exact ⟨rfl, bch hB hb (by simp)⟩

end Go.Proofs.Ytbefbodihfijbaa
