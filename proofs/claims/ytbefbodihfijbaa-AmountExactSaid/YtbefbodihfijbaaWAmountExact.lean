/-
  The walk of the law AmountExact: it returns true.
-/
import Derived.Test.YtbefbodihfijbaaSane
namespace Go.Proofs.Ytbefbodihfijbaa.amountExact
set_option linter.unusedVariables false
open Go.ChangeShapes Go.WideShapes Go.ChangeAt Go.RowKit Go.Proofs.Ytbefbodihfijbaa

theorem wfb {n : Int} (h : (Lit.int .i64 n).wf = true) : -9223372036854775808 ≤ n ∧ n ≤ 9223372036854775807 := bounds_i64 h

theorem md_small {a b c : Int} (ha : 0 ≤ a) (hb : 0 ≤ b) (hc : 1 ≤ c) (h : a * b / c ≤ 4611686018427387903) : mdB a b c = true ∧ mdV a b c = a * b / c := by
  have e : mdB a b c = true := by unfold mdB; simp; omega
  exact ⟨e, by unfold mdV; rw [if_pos e]⟩

theorem md_exact (a b c : Int) (w : World) (a0 : 0 ≤ a) (a1 : a ≤ 2147483647) (b0 : 0 ≤ b) (b1 : b ≤ 2147483647) (c0 : 1 ≤ c) (c1 : c ≤ 2147483648) :
    Calls Try.prog 14 #[.int .i64 a, .int .i64 b, .int .i64 c] w fun e w' => e = .returned (.tuple #[.int .i64 (a * b / c), .bool true]) ∧ Below w.heap.size w w' := by
  have h1 : a * b ≤ 2147483647 * 2147483647 := Int.mul_le_mul a1 b1 b0 (by omega)
  have h0 : 0 ≤ a * b := Int.mul_nonneg a0 b0
  have h2 : a * b / c ≤ a * b := Int.ediv_le_self _ h0
  have h := muldiv_any a b c w (by omega) (by omega) (by omega) (by omega) (by omega) (by omega)
  obtain ⟨e1, e2⟩ := md_small a0 b0 c0 (show a * b / c ≤ 4611686018427387903 by omega)
  rwa [e1, e2] at h

theorem md_back (a b : Int) (w : World) (a0 : 0 ≤ a) (a1 : a ≤ 4611686018427387903) (b0 : 1 ≤ b) (b1 : b ≤ 4611686018427387904) :
    Calls Try.prog 14 #[.int .i64 a, .int .i64 b, .int .i64 b] w fun e w' => e = .returned (.tuple #[.int .i64 a, .bool true]) ∧ Below w.heap.size w w' := by
  have h2 : a * b / b = a := Int.mul_ediv_cancel _ (by omega)
  have h := muldiv_any a b b w (by omega) (by omega) (by omega) (by omega) (by omega) (by omega)
  obtain ⟨e1, e2⟩ := md_small a0 (show 0 ≤ b by omega) b0 (show a * b / b ≤ 4611686018427387903 by omega)
  rwa [e1, e2, h2] at h

set_option maxHeartbeats 1000000 in
set_option maxRecDepth 100000 in
theorem walk (a0 : Int) (a1 : Int) (a2 : Int) (a3 : Int) (w0 : (Lit.int .i64 a0).wf = true) (w1 : (Lit.int .i64 a1).wf = true) (w2 : (Lit.int .i64 a2).wf = true) (w3 : (Lit.int .i64 a3).wf = true) (w : World) :
    Calls Try.prog 5 #[.int .i64 a0, .int .i64 a1, .int .i64 a2, .int .i64 a3] w fun e w' => e = .returned (.bool true) ∧ Below w.heap.size w w' := by
  have b0 := wfb w0
  have b1 := wfb w1
  have b2 := wfb w2
  have b3 := wfb w3
  clear w0 w1 w2 w3
  have P0 := Lib.hid (pick_any a0 2147483648)
  have P1 := Lib.hid (pick_any a1 2147483648)
  have P2 := Lib.hid (pick_any a2 2147483648)
  have P3 := Lib.hid (pick_any a3 4611686018427387903)
  have l0 := pickZ_lo a0 2147483648 (by omega)
  have l1 := pickZ_lo a1 2147483648 (by omega)
  have l2 := pickZ_lo a2 2147483648 (by omega)
  have l3 := pickZ_lo a3 4611686018427387903 (by omega)
  have m0 := pickZ_hi a0 2147483648 (by omega)
  have m1 := pickZ_hi a1 2147483648 (by omega)
  have m2 := pickZ_hi a2 2147483648 (by omega)
  have m3 := pickZ_hi a3 4611686018427387903 (by omega)
  generalize pickZ a0 2147483648 = a at *
  generalize pickZ a1 2147483648 = b at *
  generalize pickZ a2 2147483648 = c at *
  generalize pickZ a3 4611686018427387903 = d at *
  have p0 : 0 ≤ a * b := Int.mul_nonneg l0 l1
  have p1 : a * b ≤ 2147483647 * 2147483647 := Int.mul_le_mul (by omega) (by omega) l1 (by omega)
  have p1' : a * b ≤ 4611686014132420609 := by omega
  have hc0 : (1 + c == 0) = false := beq_eq_false_iff_ne.2 (by omega)
  clear p1
  go_enter Try.func5, Try.ntmps5
  go_wp2_with fail
  refine (sane_any _).mono ?_
  rintro e w1 ⟨rfl, hb1⟩
  go_wp2_with fail
  refine (P0.out _ (by omega) (by omega) (by omega) (by omega)).mono ?_
  rintro e w2 ⟨rfl, rfl⟩
  go_wp2_with fail
  refine (P1.out _ (by omega) (by omega) (by omega) (by omega)).mono ?_
  rintro e w2 ⟨rfl, rfl⟩
  go_wp2_with fail
  refine (P2.out _ (by omega) (by omega) (by omega) (by omega)).mono ?_
  rintro e w2 ⟨rfl, rfl⟩
  go_wp2_with fail
  refine (P3.out _ (by omega) (by omega) (by omega) (by omega)).mono ?_
  rintro e w2 ⟨rfl, rfl⟩
  go_wp2_with fail
  refine (md_exact a b (1 + c) _ (by omega) (by omega) (by omega) (by omega) (by omega) (by omega)).mono ?_
  rintro e w2 ⟨rfl, hb2⟩
  go_wp2_with fail
  refine (md_back (d + 1) (1 + c) _ (by omega) (by omega) (by omega) (by omega)).mono ?_
  rintro e w3 ⟨rfl, hb3⟩
  go_wp2_with fail
  refine (md_back (1 + c) (d + 1) _ (by omega) (by omega) (by omega) (by omega)).mono ?_
  rintro e w4 ⟨rfl, hb4⟩
  go_wp2_with fail
  go_ret
  exact ⟨rfl, bch (bch (bch hb1 hb2 hb1.size) hb3 (Nat.le_trans hb1.size hb2.size)) hb4 (Nat.le_trans hb1.size (Nat.le_trans hb2.size hb3.size))⟩

end Go.Proofs.Ytbefbodihfijbaa.amountExact
