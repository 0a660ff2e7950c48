/-
  The fixed examples of the statements: sane returns true.
-/
import Derived.Test.YtbefbodihfijbaaAppWalk
import Derived.Test.YtbefbodihfijbaaRefB
namespace Go.Proofs.Ytbefbodihfijbaa
set_option linter.unusedVariables false
open Go.ChangeShapes Go.WideShapes Go.ChangeAt Go.RowKit

theorem i64s_of {l : List Int} (h : ∀ x ∈ l, -9223372036854775808 ≤ x ∧ x ≤ 9223372036854775807) : I64s l := fun i => by
  by_cases hi : i < l.length
  · exact h _ (getD_mem hi)
  · have : l.getD i 0 = 0 := by simp [List.getElem?_eq_none (Nat.le_of_not_lt hi)]
    omega

theorem row3 (w : World) (g : Nat) (a b c : Int) (hg : g < w.heap.size) (c0 : w.cell? ⟨g, 0, none⟩ = some (.int .i64 a)) (c1 : w.cell? ⟨g, 1, none⟩ = some (.int .i64 b)) (c2 : w.cell? ⟨g, 2, none⟩ = some (.int .i64 c)) : Row w (some ⟨g, 0, none⟩) [a, b, c] := by
  intro i hi
  refine ⟨g, 0, rfl, hg, ?_⟩
  rw [Nat.zero_add]
  match i, hi with
  | 0, _ => exact c0
  | 1, _ => exact c1
  | 2, _ => exact c2
theorem row2 (w : World) (g : Nat) (a b : Int) (hg : g < w.heap.size) (c0 : w.cell? ⟨g, 0, none⟩ = some (.int .i64 a)) (c1 : w.cell? ⟨g, 1, none⟩ = some (.int .i64 b)) : Row w (some ⟨g, 0, none⟩) [a, b] := by
  intro i hi
  refine ⟨g, 0, rfl, hg, ?_⟩
  rw [Nat.zero_add]
  match i, hi with
  | 0, _ => exact c0
  | 1, _ => exact c1

theorem sane_md1 : mdV 1000000000000000 999999 1000000 = 999999000000000 ∧ mdB 1000000000000000 999999 1000000 = true := by decide +kernel
theorem sane_md2 : mdB 7 3 0 = false ∧ mdV 7 3 0 = 0 := by decide +kernel
theorem sane_ap1 : apV 100 [1, 1, 1] = [34, 33, 33] ∧ apB 100 [1, 1, 1] = true := by decide +kernel
theorem sane_ap2 : apV 5 [0, 0] = [] ∧ apB 5 [0, 0] = false := by decide +kernel
theorem sane_su : sumV [1, 2, 3] = 6 ∧ sumB [1, 2, 3] = true := by decide +kernel
theorem sane_pc : pctV 999 500000 = 499 := by decide +kernel

theorem s_md1 (w : World) : Calls Try.prog 14 #[.int .i64 1000000000000000, .int .i64 999999, .int .i64 1000000] w fun e w' => e = .returned (.tuple #[.int .i64 999999000000000, .bool true]) ∧ Below w.heap.size w w' := by
  have h := muldiv_any 1000000000000000 999999 1000000 w (by omega) (by omega) (by omega) (by omega) (by omega) (by omega)
  rwa [sane_md1.1, sane_md1.2] at h
theorem s_md2 (w : World) : Calls Try.prog 14 #[.int .i64 7, .int .i64 3, .int .i64 0] w fun e w' => e = .returned (.tuple #[.int .i64 0, .bool false]) ∧ Below w.heap.size w w' := by
  have h := muldiv_any 7 3 0 w (by omega) (by omega) (by omega) (by omega) (by omega) (by omega)
  rwa [sane_md2.1, sane_md2.2] at h
theorem s_ap1 (w : World) (g : Nat) (hg : g < w.heap.size) (c0 : w.cell? ⟨g, 0, none⟩ = some (.int .i64 1)) (c1 : w.cell? ⟨g, 1, none⟩ = some (.int .i64 1)) (c2 : w.cell? ⟨g, 2, none⟩ = some (.int .i64 1)) :
    Calls Try.prog 20 #[.int .i64 100, .slice (some ⟨g, 0, none⟩) 3 3] w (Parts w [34, 33, 33] true) := by
  have h := apportion_any 100 (some ⟨g, 0, none⟩) 3 3 [1, 1, 1] w (by omega) rfl (row3 w g 1 1 1 hg c0 c1 c2) (i64s_of (by simp))
  rwa [sane_ap1.1, sane_ap1.2] at h
theorem s_ap2 (w : World) (g : Nat) (hg : g < w.heap.size) (c0 : w.cell? ⟨g, 0, none⟩ = some (.int .i64 0)) (c1 : w.cell? ⟨g, 1, none⟩ = some (.int .i64 0)) :
    Calls Try.prog 20 #[.int .i64 5, .slice (some ⟨g, 0, none⟩) 2 2] w (Parts w [] false) := by
  have h := apportion_any 5 (some ⟨g, 0, none⟩) 2 2 [0, 0] w (by omega) rfl (row2 w g 0 0 hg c0 c1) (i64s_of (by simp))
  rwa [sane_ap2.1, sane_ap2.2] at h
theorem s_su (w : World) (g : Nat) (hg : g < w.heap.size) (c0 : w.cell? ⟨g, 0, none⟩ = some (.int .i64 1)) (c1 : w.cell? ⟨g, 1, none⟩ = some (.int .i64 2)) (c2 : w.cell? ⟨g, 2, none⟩ = some (.int .i64 3)) :
    Calls Try.prog 25 #[.slice (some ⟨g, 0, none⟩) 3 3] w fun e w' => e = .returned (.tuple #[.int .i64 6, .bool true]) ∧ w = w' := by
  have h := sum_any (some ⟨g, 0, none⟩) 3 [1, 2, 3] w (by simp) (row3 w g 1 2 3 hg c0 c1 c2) (i64s_of (by simp))
  rwa [sane_su.1, sane_su.2] at h
theorem s_pc (w : World) : Calls Try.prog 16 #[.int .i64 999, .int .i64 500000] w fun e w' => e = .returned (.int .i64 499) ∧ Below w.heap.size w w' := by
  have h := percent_any 999 500000 w (by omega) (by omega) (by omega) (by omega)
  rwa [sane_pc] at h
theorem s_sm (w : World) (ao : Option Addr) (cap g : Nat) (hr : Row w ao [34, 33, 33]) (hg : g < w.heap.size) (c0 : w.cell? ⟨g, 0, none⟩ = some (.int .i64 34)) (c1 : w.cell? ⟨g, 1, none⟩ = some (.int .i64 33)) (c2 : w.cell? ⟨g, 2, none⟩ = some (.int .i64 33)) :
    Calls Try.prog 22 #[.slice ao 3 cap, .slice (some ⟨g, 0, none⟩) 3 3] w fun e w' => e = .returned (.bool true) ∧ ∃ n, w' = w.drewN n := by
  have h := same_any ao (some ⟨g, 0, none⟩) cap 3 [34, 33, 33] [34, 33, 33] 3 3 w rfl rfl (by omega) hr (row3 w g 34 33 33 hg c0 c1 c2)
  rwa [decide_eq_true rfl] at h

set_option maxHeartbeats 1000000 in
set_option maxRecDepth 100000 in
theorem sane_any (w : World) : Calls Try.prog 12 #[] w fun e w' => e = .returned (.bool true) ∧ Below w.heap.size w w' := by
  go_enter Try.func12, Try.ntmps12
  go_wp2_with fail
  refine (s_md1 _).mono ?_
  rintro e w1 ⟨rfl, hb1⟩
  go_wp2_with fail
  refine (s_md2 _).mono ?_
  rintro e w2 ⟨rfl, hb2⟩
  go_wp2_with fail
  refine (s_ap1 _ w2.heap.size (by simp) (by simp) (by simp) (by simp)).mono ?_
  rintro e w3 ⟨ao, cap, rfl, _, hr3, hb3⟩
  go_wp2_with fail
  refine (s_ap2 _ w3.heap.size (by simp) (by simp) (by simp)).mono ?_
  rintro e w4 ⟨ao4, cap4, rfl, _, hr4, hb4⟩
  go_wp2_with fail
  refine (cents_pos 25001 _ (by omega) (by omega)).mono ?_
  rintro e w5 ⟨rfl, rfl⟩
  go_wp2_with fail
  refine (s_su _ w4.heap.size (by simp) (by simp) (by simp) (by simp)).mono ?_
  rintro e w5 ⟨rfl, rfl⟩
  have hA : ∀ (W : World) (o : Obj), Below W.heap.size W (W.alloc o) := fun W o => (Below.refl _ _).alloc (Nat.le_refl _) _
  have hr := ((((hr3.later (hA _ _)).later hb4).later (hA _ (.cells #[.int .i64 1, .int .i64 2, .int .i64 3] 3))).later (hA _ (.cells #[.int .i64 34, .int .i64 33, .int .i64 33] 3)))
  have HR := Lib.hid hr
  have HA := Lib.hid hA
  clear hr hr3 hr4 hA
  go_wp2_with fail
  refine (s_sm _ ao cap (w4.heap.size + 1) HR.out (by simp) (by simp) (by simp) (by simp)).mono ?_
  rintro e w6 ⟨rfl, n6, rfl⟩
  go_wp2_with fail
  refine (s_pc _).mono ?_
  rintro e w7 ⟨rfl, hb7⟩
  go_wp2_with fail
  go_ret
  refine ⟨rfl, ?_⟩
  have z1 := hb1.size
  have z2 := hb2.size
  have z3 := hb3.size
  have z4 := hb4.size
  simp at z3 z4
  exact bch (below_drewN (bch (bch (bch (bch (bch (bch (bch hb1 hb2 z1) (HA.out _ _) (by omega)) hb3 (by simp; omega)) (HA.out _ _) (by omega)) hb4 (by simp; omega)) (HA.out _ _) (by omega)) (HA.out _ _) (by simp; omega)) n6) hb7 (by simp [World.drewN]; omega)

end Go.Proofs.Ytbefbodihfijbaa
