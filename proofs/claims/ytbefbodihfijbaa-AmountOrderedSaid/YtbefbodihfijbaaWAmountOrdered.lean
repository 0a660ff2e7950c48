/-
  The walk of the law AmountOrdered: it returns true.
-/
import Derived.Test.YtbefbodihfijbaaSane
namespace Go.Proofs.Ytbefbodihfijbaa.amountOrdered
set_option linter.unusedVariables false
open Go.ChangeShapes Go.WideShapes Go.ChangeAt Go.RowKit Go.Proofs.Ytbefbodihfijbaa

theorem wfb {n : Int} (h : (Lit.int .i64 n).wf = true) : -9223372036854775808 ≤ n ∧ n ≤ 9223372036854775807 := bounds_i64 h

theorem md_comm (a b c : Int) : mdB a b c = mdB b a c ∧ mdV a b c = mdV b a c := by
  have e : mdB a b c = mdB b a c := by unfold mdB; rw [Int.mul_comm a b, Bool.and_comm (decide (0 ≤ a)) (decide (0 ≤ b))]
  exact ⟨e, by unfold mdV; rw [e, Int.mul_comm a b]⟩

theorem md_iff {a b c : Int} (ha : 0 ≤ a) (hb : 0 ≤ b) (hc : 1 ≤ c) : mdB a b c = decide (a * b / c ≤ 4611686018427387903) := by
  unfold mdB; rw [decide_eq_true ha, decide_eq_true hb, decide_eq_true hc]; rfl

theorem div_less {x c c' : Int} (hx : 0 ≤ x) (h1 : 1 ≤ c') (h2 : c' ≤ c) : x / c ≤ x / c' := by
  rw [Int.le_ediv_iff_mul_le (by omega)]
  have h3 : x / c * c ≤ x := Int.ediv_mul_le x (by omega)
  have h4 : 0 ≤ x / c := Int.ediv_nonneg hx (by omega)
  have h5 : x / c * c' ≤ x / c * c := Int.mul_le_mul_of_nonneg_left h2 h4
  omega

/-- what follows where a greater one is in range -/
theorem md_le {a b c a' b' c' : Int} (ha : 0 ≤ a) (hb : 0 ≤ b) (hc : 1 ≤ c) (ha' : 0 ≤ a') (hb' : 0 ≤ b') (hc' : 1 ≤ c') (h : a * b / c ≤ a' * b' / c') (ho : mdB a' b' c' = true) : mdB a b c = true ∧ mdV a b c ≤ mdV a' b' c' := by
  rw [md_iff ha' hb' hc', decide_eq_true_eq] at ho
  have e1 : mdB a b c = true := by rw [md_iff ha hb hc, decide_eq_true_eq]; omega
  have e2 : mdB a' b' c' = true := by rw [md_iff ha' hb' hc', decide_eq_true_eq]; exact ho
  refine ⟨e1, ?_⟩
  unfold mdV; rw [if_pos e1, if_pos e2]; exact h

set_option maxHeartbeats 2000000 in
set_option maxRecDepth 100000 in
theorem core (a0 a1 a2 a3 a4 a b more c less q s t : Int) (ok one two : Bool) (w : World) (k0 : -9223372036854775808 ≤ a0 ∧ a0 ≤ 9223372036854775807) (k1 : -9223372036854775808 ≤ a1 ∧ a1 ≤ 9223372036854775807) (k2 : -9223372036854775808 ≤ a2 ∧ a2 ≤ 9223372036854775807) (k3 : -9223372036854775808 ≤ a3 ∧ a3 ≤ 9223372036854775807) (k4 : -9223372036854775808 ≤ a4 ∧ a4 ≤ 9223372036854775807)
    (P0 : Hid (∀ w, Calls Try.prog 13 #[.int .i64 a0, .int .i64 1000000000000001] w fun e w' => e = .returned (.int .i64 a) ∧ w = w'))
    (P1 : Hid (∀ w, Calls Try.prog 13 #[.int .i64 a1, .int .i64 1000000000000001] w fun e w' => e = .returned (.int .i64 b) ∧ w = w'))
    (P2 : Hid (∀ w, Calls Try.prog 13 #[.int .i64 a2, .int .i64 1000000000000001] w fun e w' => e = .returned (.int .i64 more) ∧ w = w'))
    (P3 : Hid (∀ w, Calls Try.prog 13 #[.int .i64 a3, .int .i64 1000000000000000] w fun e w' => e = .returned (.int .i64 c) ∧ w = w'))
    (P4 : Hid (∀ w, Calls Try.prog 13 #[.int .i64 a4, .int .i64 (1 + c)] w fun e w' => e = .returned (.int .i64 less) ∧ w = w'))
    (C1 : Hid (∀ w, Calls Try.prog 14 #[.int .i64 a, .int .i64 b, .int .i64 (1 + c)] w fun e w' => e = .returned (.tuple #[.int .i64 q, .bool ok]) ∧ Below w.heap.size w w'))
    (C2 : Hid (∀ w, Calls Try.prog 14 #[.int .i64 b, .int .i64 a, .int .i64 (1 + c)] w fun e w' => e = .returned (.tuple #[.int .i64 q, .bool ok]) ∧ Below w.heap.size w w'))
    (C3 : Hid (∀ w, Calls Try.prog 14 #[.int .i64 (a + more), .int .i64 b, .int .i64 (1 + c)] w fun e w' => e = .returned (.tuple #[.int .i64 s, .bool one]) ∧ Below w.heap.size w w'))
    (C4 : Hid (∀ w, Calls Try.prog 14 #[.int .i64 a, .int .i64 b, .int .i64 (1 + c - less)] w fun e w' => e = .returned (.tuple #[.int .i64 t, .bool two]) ∧ Below w.heap.size w w'))
    (l0 : 0 ≤ a) (m0 : a ≤ 1000000000000000) (l2 : 0 ≤ more) (m2 : more ≤ 1000000000000000) (l3 : 0 ≤ c) (m3 : c ≤ 1000000000000000) (l4 : 0 ≤ less) (m4 : less ≤ c)
    (h1 : one = true → ok = true ∧ q ≤ s) (h2 : two = true → ok = true ∧ q ≤ t) :
    Calls Try.prog 6 #[.int .i64 a0, .int .i64 a1, .int .i64 a2, .int .i64 a3, .int .i64 a4] w fun e w' => e = .returned (.bool true) ∧ Below w.heap.size w w' := by
  have hq : (q != q) = false := by simp
  have ho : (ok != ok) = false := by simp
  rcases one with _ | _ <;> rcases two with _ | _ <;> simp only [Bool.false_eq_true, false_implies, forall_const] at h1 h2
  all_goals
    rcases ok with _ | _
    all_goals first | (exact Bool.noConfusion h1.1) | (exact Bool.noConfusion h2.1) | skip
  all_goals
    go_enter Try.func6, Try.ntmps6
    go_wp2_with fail
    refine (sane_any _).mono ?_
    rintro e w1 ⟨rfl, hb1⟩
    go_wp2_with fail
    refine (P0.out _).mono ?_
    rintro e w2 ⟨rfl, rfl⟩
    go_wp2_with fail
    refine (P1.out _).mono ?_
    rintro e w2 ⟨rfl, rfl⟩
    go_wp2_with fail
    refine (P3.out _).mono ?_
    rintro e w2 ⟨rfl, rfl⟩
    go_wp2_with fail
    refine (P2.out _).mono ?_
    rintro e w2 ⟨rfl, rfl⟩
    go_wp2_with fail
    refine (P4.out _).mono ?_
    rintro e w2 ⟨rfl, rfl⟩
    go_wp2_with fail
    refine (C1.out _).mono ?_
    rintro e w2 ⟨rfl, hb2⟩
    go_wp2_with fail
    refine (C2.out _).mono ?_
    rintro e w3 ⟨rfl, hb3⟩
    go_wp2_with fail
    refine (C3.out _).mono ?_
    rintro e w4 ⟨rfl, hb4⟩
    go_wp2_with fail
    refine (C4.out _).mono ?_
    rintro e w5 ⟨rfl, hb5⟩
    go_wp2_with fail
    go_ret
    have z1 := hb1.size
    have z2 := hb2.size
    have z3 := hb3.size
    have z4 := hb4.size
    exact ⟨rfl, bch (bch (bch (bch hb1 hb2 (by omega)) hb3 (by omega)) hb4 (by omega)) hb5 (by omega)⟩

theorem walk (a0 : Int) (a1 : Int) (a2 : Int) (a3 : Int) (a4 : Int) (w0 : (Lit.int .i64 a0).wf = true) (w1 : (Lit.int .i64 a1).wf = true) (w2 : (Lit.int .i64 a2).wf = true) (w3 : (Lit.int .i64 a3).wf = true) (w4 : (Lit.int .i64 a4).wf = true) (w : World) :
    Calls Try.prog 6 #[.int .i64 a0, .int .i64 a1, .int .i64 a2, .int .i64 a3, .int .i64 a4] w fun e w' => e = .returned (.bool true) ∧ Below w.heap.size w w' := by
  have b0 := wfb w0
  have b1 := wfb w1
  have b2 := wfb w2
  have b3 := wfb w3
  have b4 := wfb w4
  have l0 := pickZ_lo a0 1000000000000001 (by omega)
  have l1 := pickZ_lo a1 1000000000000001 (by omega)
  have l2 := pickZ_lo a2 1000000000000001 (by omega)
  have l3 := pickZ_lo a3 1000000000000000 (by omega)
  have m0 := pickZ_hi a0 1000000000000001 (by omega)
  have m1 := pickZ_hi a1 1000000000000001 (by omega)
  have m2 := pickZ_hi a2 1000000000000001 (by omega)
  have m3 := pickZ_hi a3 1000000000000000 (by omega)
  have P0 := Lib.hid (fun w => pick_any a0 1000000000000001 w b0.1 b0.2 (by omega) (by omega))
  have P1 := Lib.hid (fun w => pick_any a1 1000000000000001 w b1.1 b1.2 (by omega) (by omega))
  have P2 := Lib.hid (fun w => pick_any a2 1000000000000001 w b2.1 b2.2 (by omega) (by omega))
  have P3 := Lib.hid (fun w => pick_any a3 1000000000000000 w b3.1 b3.2 (by omega) (by omega))
  generalize pickZ a0 1000000000000001 = a at *
  generalize pickZ a1 1000000000000001 = b at *
  generalize pickZ a2 1000000000000001 = more at *
  generalize pickZ a3 1000000000000000 = c at *
  have l4 := pickZ_lo a4 (1 + c) (by omega)
  have m4 := pickZ_hi a4 (1 + c) (by omega)
  have P4 := Lib.hid (fun w => pick_any a4 (1 + c) w b4.1 b4.2 (by omega) (by omega))
  generalize pickZ a4 (1 + c) = less at *
  have C1 := Lib.hid (fun w => muldiv_any a b (1 + c) w (by omega) (by omega) (by omega) (by omega) (by omega) (by omega))
  have C2 := fun w => muldiv_any b a (1 + c) w (by omega) (by omega) (by omega) (by omega) (by omega) (by omega)
  have C3 := Lib.hid (fun w => muldiv_any (a + more) b (1 + c) w (by omega) (by omega) (by omega) (by omega) (by omega) (by omega))
  have C4 := Lib.hid (fun w => muldiv_any a b (1 + c - less) w (by omega) (by omega) (by omega) (by omega) (by omega) (by omega))
  obtain ⟨e1, e2⟩ := md_comm b a (1 + c)
  rw [e1, e2] at C2
  have C2 := Lib.hid C2
  have x0 : 0 ≤ a * b := Int.mul_nonneg l0 l1
  have g1 : a * b / (1 + c) ≤ (a + more) * b / (1 + c) := Int.ediv_le_ediv (by omega) (Int.mul_le_mul_of_nonneg_right (by omega) l1)
  have g2 : a * b / (1 + c) ≤ a * b / (1 + c - less) := div_less x0 (by omega) (by omega)
  have h1 := fun h => md_le (a := a) (b := b) (c := 1 + c) (a' := a + more) (b' := b) (c' := 1 + c) l0 l1 (by omega) (by omega) l1 (by omega) g1 h
  have h2 := fun h => md_le (a := a) (b := b) (c := 1 + c) (a' := a) (b' := b) (c' := 1 + c - less) l0 l1 (by omega) l0 l1 (by omega) g2 h
  exact core a0 a1 a2 a3 a4 a b more c less _ _ _ _ _ _ w b0 b1 b2 b3 b4 P0 P1 P2 P3 P4 C1 C2 C3 C4 l0 (by omega) l2 (by omega) l3 (by omega) l4 (by omega) h1 h2

end Go.Proofs.Ytbefbodihfijbaa.amountOrdered
