import Derived.Test.YtbkmcncakpmgkaaAmtB
import Derived.Test.YtbkmcncakpmgkaaMath
import Derived.Test.YtbkmcncakpmgkaaAmtC

/-! Contracts of the reference's Divide, MulDiv and Percent: what each returns. -/
namespace Go.Proofs.Ytbkmcncakpmgkaa
set_option linter.unusedVariables false
open Go.ChangeShapes Go.WideShapes Go.ChangeAt Go.RowKit

theorem ov_great {a b c j q r : Nat} (h : BitIs a b c j q r) (hq : 4611686018427387903 < q) : ovQ (a * b) c = 0 ∧ ovR (a * b) c = 0 ∧ ovB (a * b) c = false := by
  have := h.great hq
  unfold ovQ ovR ovB
  rw [if_neg this, if_neg this]; exact ⟨rfl, rfl, decide_eq_false this⟩
theorem ov_last {a b c q r : Nat} (h : BitIs a b c 0 q r) (hq : q ≤ 4611686018427387903) : ovQ (a * b) c = q ∧ ovR (a * b) c = r ∧ ovB (a * b) c = true := by
  obtain ⟨e1, e2⟩ := h.last
  have : a * b / c ≤ 4611686018427387903 := by omega
  unfold ovQ ovR ovB
  rw [if_pos this, if_pos this]; exact ⟨e1.symm, e2.symm, decide_eq_true this⟩

set_option maxHeartbeats 1000000 in
set_option maxRecDepth 100000 in
theorem divide_any (a b c : Nat) (w : World) (h1 : a ≤ 9223372036854775807) (h2 : b ≤ 9223372036854775807) (h3 : 1 ≤ c) (h4 : c ≤ 9223372036854775807) :
    Calls Try.prog 49 #[.int .i64 a, .int .i64 b, .int .i64 c] w fun e w' => e = .returned (.tuple #[.int .i64 (ovQ (a * b) c : Nat), .int .i64 (ovR (a * b) c : Nat), .bool (ovB (a * b) c)]) ∧ w = w' := by
  have hc0 : ((c : Int) == 0) = false := beq_eq_false_iff_ne.2 (by omega)
  obtain ⟨B, hB⟩ : ∃ B, B = b / c := ⟨_, rfl⟩
  obtain ⟨R, hR⟩ : ∃ R, R = b % c := ⟨_, rfl⟩
  have hBR : B * c + R = b := by rw [hB, hR, Nat.mul_comm]; exact Nat.div_add_mod b c
  have hRc : R < c := by rw [hR]; exact Nat.mod_lt _ (by omega)
  have hBb : B ≤ b := by rw [hB]; exact Nat.div_le_self _ _
  have HBR := Lib.hid hBR
  have zB : (b : Int) / (c : Int) = (B : Int) := by rw [hB, Int.natCast_ediv]
  have zR : (b : Int) % (c : Int) = (R : Int) := by rw [hR, Int.natCast_emod]
  clear hB hR hBR
  go_enter Try.func49, Try.ntmps49
  go_wp2
  go_loop [10, 11, 12] (fun x y i => ∃ j q r : Nat, j ≤ 63 ∧ BitIs a b c j q r ∧ q ≤ 4611686018427387903 ∧ r < c ∧ x = .int .u64 q ∧ y = .int .u64 r ∧ i = .int .i64 ((j : Int) - 1)) (fun _ _ i => (intOf i + 1).toNat)
  case atStart => exact ⟨63, 0, 0, by omega, BitIs.start a b c h1 h3, by omega, by omega, rfl, rfl, rfl⟩
  case round =>
    obtain ⟨j, q, r, hj, hbit, hq, hr, rfl, rfl, rfl⟩ := hrel
    rcases j with _ | j
    · have HL := Lib.hid (ov_last hbit hq)
      clear hbit
      go_wp2
      go_ret3
      exact ⟨by rw [HL.out.1, HL.out.2.1, HL.out.2.2]; rfl, rfl⟩
    · rw [show ((j + 1 : Nat) : Int) - 1 = (j : Int) from by omega]
      obtain ⟨A, hA⟩ : ∃ A, A = a / 2 ^ j := ⟨_, rfl⟩
      have zA : (a : Int) / 2 ^ j = (A : Int) := by rw [hA, Int.natCast_ediv, Int.natCast_pow]; rfl
      have hAa : A ≤ a := by rw [hA]; exact Nat.div_le_self _ _
      have HA := Lib.hid hA
      clear hA
      by_cases bt : A % 2 = 1
      · have f := bit1 hbit (by rw [← HA.out]; exact bt) HBR.out hRc
        obtain ⟨f1, f2, f3, f4⟩ := f
        have F1 := Lib.hid f1
        have F2 := Lib.hid f2
        have F3 := Lib.hid f3
        have F4 := Lib.hid f4
        have tb : ((A : Int) % 2 == 1) = true := beq_iff_eq.2 (by omega)
        clear f1 f2 f3 f4 hbit bt
        by_cases t1 : c ≤ 2 * r
        · by_cases t2 : c ≤ 2 * r - c + R
          · have hn := F1.out t1 t2
            by_cases hg : (4611686018427387903 : Int) < 2 * (q : Int) + 1 + (B : Int) + 1
            · have HF := Lib.hid (ov_great hn (by omega))
              clear hn
              go_wp2
              go_ret3
              exact ⟨by rw [HF.out.1, HF.out.2.1, HF.out.2.2]; rfl, rfl⟩
            · go_wp2
              go_round
              case rel => exact ⟨j, 2 * q + 1 + B + 1, 2 * r - c + R - c, by omega, hn, by omega, by omega, by go_num, by go_num, by go_num⟩
              case measure => first | (simp [intOf]; done) | (simp [intOf]; omega)
          · have t2' : 2 * r - c + R < c := by omega
            have hn := F2.out t1 t2'
            by_cases hg : (4611686018427387903 : Int) < 2 * (q : Int) + 1 + (B : Int)
            · have HF := Lib.hid (ov_great hn (by omega))
              clear hn
              go_wp2
              go_ret3
              exact ⟨by rw [HF.out.1, HF.out.2.1, HF.out.2.2]; rfl, rfl⟩
            · go_wp2
              go_round
              case rel => exact ⟨j, 2 * q + 1 + B, 2 * r - c + R, by omega, hn, by omega, by omega, by go_num, by go_num, by go_num⟩
              case measure => first | (simp [intOf]; done) | (simp [intOf]; omega)
        · have t1' : 2 * r < c := by omega
          by_cases t2 : c ≤ 2 * r + R
          · have hn := F3.out t1' t2
            by_cases hg : (4611686018427387903 : Int) < 2 * (q : Int) + (B : Int) + 1
            · have HF := Lib.hid (ov_great hn (by omega))
              clear hn
              go_wp2
              go_ret3
              exact ⟨by rw [HF.out.1, HF.out.2.1, HF.out.2.2]; rfl, rfl⟩
            · go_wp2
              go_round
              case rel => exact ⟨j, 2 * q + B + 1, 2 * r + R - c, by omega, hn, by omega, by omega, by go_num, by go_num, by go_num⟩
              case measure => first | (simp [intOf]; done) | (simp [intOf]; omega)
          · have t2' : 2 * r + R < c := by omega
            have hn := F4.out t1' t2'
            by_cases hg : (4611686018427387903 : Int) < 2 * (q : Int) + (B : Int)
            · have HF := Lib.hid (ov_great hn (by omega))
              clear hn
              go_wp2
              go_ret3
              exact ⟨by rw [HF.out.1, HF.out.2.1, HF.out.2.2]; rfl, rfl⟩
            · go_wp2
              go_round
              case rel => exact ⟨j, 2 * q + B, 2 * r + R, by omega, hn, by omega, by omega, by go_num, by go_num, by go_num⟩
              case measure => first | (simp [intOf]; done) | (simp [intOf]; omega)
      · have f := bit0 hbit (by rw [← HA.out]; omega)
        obtain ⟨f1, f2⟩ := f
        have F1 := Lib.hid f1
        have F2 := Lib.hid f2
        have tb : ((A : Int) % 2 == 1) = false := beq_eq_false_iff_ne.2 (by omega)
        clear f1 f2 hbit bt
        by_cases t1 : c ≤ 2 * r
        · have hn := F1.out t1
          by_cases hg : (4611686018427387903 : Int) < 2 * (q : Int) + 1
          · have HF := Lib.hid (ov_great hn (by omega))
            clear hn
            go_wp2
            go_ret3
            exact ⟨by rw [HF.out.1, HF.out.2.1, HF.out.2.2]; rfl, rfl⟩
          · go_wp2
            go_round
            case rel => exact ⟨j, 2 * q + 1, 2 * r - c, by omega, hn, by omega, by omega, by go_num, by go_num, by go_num⟩
            case measure => first | (simp [intOf]; done) | (simp [intOf]; omega)
        · have t1' : 2 * r < c := by omega
          have hn := F2.out t1'
          by_cases hg : (4611686018427387903 : Int) < 2 * (q : Int)
          · have HF := Lib.hid (ov_great hn (by omega))
            clear hn
            go_wp2
            go_ret3
            exact ⟨by rw [HF.out.1, HF.out.2.1, HF.out.2.2]; rfl, rfl⟩
          · go_wp2
            go_round
            case rel => exact ⟨j, 2 * q, 2 * r, by omega, hn, by omega, by omega, by go_num, by go_num, by go_num⟩
            case measure => first | (simp [intOf]; done) | (simp [intOf]; omega)

end Go.Proofs.Ytbkmcncakpmgkaa

/-! Contracts of the reference's MulDiv, Percent and Same: what each returns. -/
namespace Go.Proofs.Ytbkmcncakpmgkaa
set_option linter.unusedVariables false
open Go.ChangeShapes Go.WideShapes Go.ChangeAt Go.RowKit

theorem eq_of_take {a b : List Int} (h : a.length = b.length) (h2 : ∀ i, i < a.length → a.getD i 0 = b.getD i 0) : a = b := by
  apply List.ext_getElem h
  intro i h1 h3
  have := h2 i h1
  simpa [h1, h3] using this

end Go.Proofs.Ytbkmcncakpmgkaa
