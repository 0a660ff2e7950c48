/-
  The walk of the law AmountPercent: it returns true.
-/
import Derived.Test.YtbefbodihfijbaaSane
namespace Go.Proofs.Ytbefbodihfijbaa.amountPercent
set_option linter.unusedVariables false
open Go.ChangeShapes Go.WideShapes Go.ChangeAt Go.RowKit Go.Proofs.Ytbefbodihfijbaa

theorem wfb {n : Int} (h : (Lit.int .i64 n).wf = true) : -9223372036854775808 ≤ n ∧ n ≤ 9223372036854775807 := bounds_i64 h

theorem pc_in {t s : Int} (t0 : 0 ≤ t) (t1 : t ≤ 1000000000000000) (s0 : 0 ≤ s) (s1 : s ≤ 1000000) : pctV t s = t * s / 1000000 := by
  unfold pctV; rw [if_pos ⟨t0, t1, s0, s1⟩]

/-- a share and the rest of the whole -/
theorem pc_split (t s : Int) : t * s / 1000000 + t * (1000000 - s) / 1000000 = t ∨ t * s / 1000000 + t * (1000000 - s) / 1000000 = t - 1 := by
  rw [Int.mul_sub]; generalize t * s = x; omega

theorem pc_mono {t t' s s' : Int} (h1 : t' ≤ t) (h2 : s' ≤ s) (h3 : 0 ≤ s') (h4 : 0 ≤ t) : t' * s' / 1000000 ≤ t * s / 1000000 := by
  have : t' * s' ≤ t * s := Int.mul_le_mul h1 h2 h3 h4
  generalize t' * s' = x at *; generalize t * s = y at *; omega

theorem pc_call (t s r : Int) (w : World) (t0 : 0 ≤ t) (t1 : t ≤ 1000000000000000) (s0 : 0 ≤ s) (s1 : s ≤ 1000000) (hr : t * s / 1000000 = r) :
    Calls Try.prog 16 #[.int .i64 t, .int .i64 s] w fun e w' => e = .returned (.int .i64 r) ∧ Below w.heap.size w w' := by
  have h := percent_any t s w (by omega) (by omega) (by omega) (by omega)
  rwa [pc_in t0 t1 s0 s1, hr] at h

set_option maxHeartbeats 1000000 in
set_option maxRecDepth 100000 in
theorem walk (a0 : Int) (a1 : Int) (a2 : Int) (a3 : Int) (w0 : (Lit.int .i64 a0).wf = true) (w1 : (Lit.int .i64 a1).wf = true) (w2 : (Lit.int .i64 a2).wf = true) (w3 : (Lit.int .i64 a3).wf = true) (w : World) :
    Calls Try.prog 10 #[.int .i64 a0, .int .i64 a1, .int .i64 a2, .int .i64 a3] w fun e w' => e = .returned (.bool true) ∧ Below w.heap.size w w' := by
  have b0 := wfb w0
  have b1 := wfb w1
  have b2 := wfb w2
  have b3 := wfb w3
  clear w0 w1 w2 w3
  have P0 := Lib.hid (pick_any a0 1000000000000001)
  have P2 := Lib.hid (pick_any a2 1000001)
  have l0 := pickZ_lo a0 1000000000000001 (by omega)
  have l2 := pickZ_lo a2 1000001 (by omega)
  have m0 := pickZ_hi a0 1000000000000001 (by omega)
  have m2 := pickZ_hi a2 1000001 (by omega)
  generalize pickZ a0 1000000000000001 = t at *
  generalize pickZ a2 1000001 = s at *
  have P1 := Lib.hid (pick_any a1 (t + 1))
  have P3 := Lib.hid (pick_any a3 (s + 1))
  have l1 := pickZ_lo a1 (t + 1) (by omega)
  have l3 := pickZ_lo a3 (s + 1) (by omega)
  have m1 := pickZ_hi a1 (t + 1) (by omega)
  have m3 := pickZ_hi a3 (s + 1) (by omega)
  generalize pickZ a1 (t + 1) = t' at *
  generalize pickZ a3 (s + 1) = s' at *
  have h1 := pc_split t s
  have h2 := pc_mono (t := t) (t' := t') (s := s) (s' := s) (by omega) (by omega) (by omega) (by omega)
  have h3 := pc_mono (t := t) (t' := t) (s := s) (s' := s') (by omega) (by omega) (by omega) (by omega)
  have h4 : 0 ≤ t * s / 1000000 := Int.ediv_nonneg (Int.mul_nonneg l0 l2) (by omega)
  have h5 : 0 ≤ t * (1000000 - s) / 1000000 := Int.ediv_nonneg (Int.mul_nonneg l0 (by omega)) (by omega)
  have C1 := Lib.hid (fun w => pc_call t s _ w l0 (by omega) l2 (by omega) rfl)
  have C2 := Lib.hid (fun w => pc_call t (1000000 - s) _ w l0 (by omega) (by omega) (by omega) rfl)
  have C3 := Lib.hid (fun w => pc_call t' s _ w l1 (by omega) l2 (by omega) rfl)
  have C4 := Lib.hid (fun w => pc_call t s' _ w l0 (by omega) l3 (by omega) rfl)
  have C5 := Lib.hid (fun w => pc_call t 1000000 t w l0 (by omega) (by omega) (by omega) (Int.mul_ediv_cancel _ (by omega)))
  have C6 := Lib.hid (fun w => pc_call t 0 0 w l0 (by omega) (by omega) (by omega) (by simp))
  generalize t * s / 1000000 = a at *
  generalize t * (1000000 - s) / 1000000 = b at *
  generalize t' * s / 1000000 = c at *
  generalize t * s' / 1000000 = d at *
  have e1 : (a + b == t || a + b == t - 1) = true := by simp; exact h1
  have E1 := Lib.hid e1
  have s2 : a + b ≤ t := by omega
  rcases h1 with h1 | h1
  · have q1 : (a + b == t) = true := beq_iff_eq.2 h1
    clear h1 e1
    go_enter Try.func10, Try.ntmps10
    go_wp2_with fail
    refine (sane_any _).mono ?_
    rintro e w1 ⟨rfl, hb1⟩
    go_wp2_with fail
    refine (P0.out _ (by omega) (by omega) (by omega) (by omega)).mono ?_
    rintro e w2 ⟨rfl, rfl⟩
    go_wp2_with fail
    refine (P2.out _ (by omega) (by omega) (by omega) (by omega)).mono ?_
    rintro e w2 ⟨rfl, rfl⟩
    go_wp2_with fail
    refine (C1.out _).mono ?_
    rintro e w2 ⟨rfl, hb2⟩
    go_wp2_with fail
    refine (C2.out _).mono ?_
    rintro e w3 ⟨rfl, hb3⟩
    go_wp2_with fail
    refine (P1.out _ (by omega) (by omega) (by omega) (by omega)).mono ?_
    rintro e w4 ⟨rfl, rfl⟩
    go_wp2_with fail
    refine (C3.out _).mono ?_
    rintro e w4 ⟨rfl, hb4⟩
    go_wp2_with fail
    refine (P3.out _ (by omega) (by omega) (by omega) (by omega)).mono ?_
    rintro e w5 ⟨rfl, rfl⟩
    go_wp2_with fail
    refine (C4.out _).mono ?_
    rintro e w5 ⟨rfl, hb5⟩
    go_wp2_with fail
    refine (C5.out _).mono ?_
    rintro e w6 ⟨rfl, hb6⟩
    go_wp2_with fail
    refine (C6.out _).mono ?_
    rintro e w7 ⟨rfl, hb7⟩
    go_wp2_with fail
    go_ret
    have z1 := hb1.size
    have z2 := hb2.size
    have z3 := hb3.size
    have z4 := hb4.size
    have z5 := hb5.size
    have z6 := hb6.size
    exact ⟨rfl, bch (bch (bch (bch (bch (bch hb1 hb2 (by omega)) hb3 (by omega)) hb4 (by omega)) hb5 (by omega)) hb6 (by omega)) hb7 (by omega)⟩
  · have q1 : (a + b == t) = false := beq_eq_false_iff_ne.2 (by omega)
    have q2 : (a + b == t - 1) = true := beq_iff_eq.2 h1
    clear h1 e1
    go_enter Try.func10, Try.ntmps10
    go_wp2_with fail
    refine (sane_any _).mono ?_
    rintro e w1 ⟨rfl, hb1⟩
    go_wp2_with fail
    refine (P0.out _ (by omega) (by omega) (by omega) (by omega)).mono ?_
    rintro e w2 ⟨rfl, rfl⟩
    go_wp2_with fail
    refine (P2.out _ (by omega) (by omega) (by omega) (by omega)).mono ?_
    rintro e w2 ⟨rfl, rfl⟩
    go_wp2_with fail
    refine (C1.out _).mono ?_
    rintro e w2 ⟨rfl, hb2⟩
    go_wp2_with fail
    refine (C2.out _).mono ?_
    rintro e w3 ⟨rfl, hb3⟩
    go_wp2_with fail
    refine (P1.out _ (by omega) (by omega) (by omega) (by omega)).mono ?_
    rintro e w4 ⟨rfl, rfl⟩
    go_wp2_with fail
    refine (C3.out _).mono ?_
    rintro e w4 ⟨rfl, hb4⟩
    go_wp2_with fail
    refine (P3.out _ (by omega) (by omega) (by omega) (by omega)).mono ?_
    rintro e w5 ⟨rfl, rfl⟩
    go_wp2_with fail
    refine (C4.out _).mono ?_
    rintro e w5 ⟨rfl, hb5⟩
    go_wp2_with fail
    refine (C5.out _).mono ?_
    rintro e w6 ⟨rfl, hb6⟩
    go_wp2_with fail
    refine (C6.out _).mono ?_
    rintro e w7 ⟨rfl, hb7⟩
    go_wp2_with fail
    go_ret
    have z1 := hb1.size
    have z2 := hb2.size
    have z3 := hb3.size
    have z4 := hb4.size
    have z5 := hb5.size
    have z6 := hb6.size
    exact ⟨rfl, bch (bch (bch (bch (bch (bch hb1 hb2 (by omega)) hb3 (by omega)) hb4 (by omega)) hb5 (by omega)) hb6 (by omega)) hb7 (by omega)⟩

end Go.Proofs.Ytbefbodihfijbaa.amountPercent
