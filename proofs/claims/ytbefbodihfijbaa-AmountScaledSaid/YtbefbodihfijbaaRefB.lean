/-
  Contracts of the reference's MulDiv, Percent and Same: what each returns.
-/
import Derived.Test.YtbefbodihfijbaaRef
import Derived.Test.YtbefbodihfijbaaAmtC
namespace Go.Proofs.Ytbefbodihfijbaa
set_option linter.unusedVariables false
open Go.ChangeShapes Go.WideShapes Go.ChangeAt Go.RowKit

set_option maxHeartbeats 400000 in
theorem rmuldiv_any (a b c : Int) (w : World) (a1 : -9223372036854775808 ≤ a) (a2 : a ≤ 9223372036854775807) (b1 : -9223372036854775808 ≤ b) (b2 : b ≤ 9223372036854775807) (c1 : -9223372036854775808 ≤ c) (c2 : c ≤ 9223372036854775807) :
    Calls Try.prog 15 #[.int .i64 a, .int .i64 b, .int .i64 c] w fun e w' => e = .returned (.tuple #[.int .i64 (mdV a b c), .bool (mdB a b c)]) ∧ w = w' := by
  by_cases ha : a < 0
  · have HM := Lib.hid (md_no (a := a) (b := b) (c := c) (by omega))
    go_enter Try.func15, Try.ntmps15
    go_wp2
    go_ret2
    exact ⟨by rw [HM.out.1, HM.out.2]; rfl, rfl⟩
  by_cases hb : b < 0
  · have HM := Lib.hid (md_no (a := a) (b := b) (c := c) (by omega))
    go_enter Try.func15, Try.ntmps15
    go_wp2
    go_ret2
    exact ⟨by rw [HM.out.1, HM.out.2]; rfl, rfl⟩
  by_cases hc : c < 1
  · have HM := Lib.hid (md_no (a := a) (b := b) (c := c) (by omega))
    go_enter Try.func15, Try.ntmps15
    go_wp2
    go_ret2
    exact ⟨by rw [HM.out.1, HM.out.2]; rfl, rfl⟩
  obtain ⟨x, rfl⟩ := Int.eq_ofNat_of_zero_le (show 0 ≤ a by omega)
  obtain ⟨y, rfl⟩ := Int.eq_ofNat_of_zero_le (show 0 ≤ b by omega)
  obtain ⟨z, rfl⟩ := Int.eq_ofNat_of_zero_le (show 0 ≤ c by omega)
  obtain ⟨e1, e2⟩ := md_ov x y z (by omega)
  rw [e1, e2]
  clear e1 e2
  have hd := fun w => divide_any x y z w (by omega) (by omega) (by omega) (by omega)
  have HD := Lib.hid hd
  clear hd
  generalize ovQ (x * y) z = Q at *
  generalize ovR (x * y) z = R at *
  generalize ovB (x * y) z = O at *
  go_enter Try.func15, Try.ntmps15
  go_wp2_with fail
  refine (HD.out _).mono ?_
  rintro e w' ⟨rfl, rfl⟩
  go_wp2_with fail
  go_ret2
  exact ⟨rfl, rfl⟩

set_option maxHeartbeats 400000 in
theorem rpercent_any (t s : Int) (w : World) (a1 : -9223372036854775808 ≤ t) (a2 : t ≤ 9223372036854775807) (b1 : -9223372036854775808 ≤ s) (b2 : s ≤ 9223372036854775807) :
    Calls Try.prog 17 #[.int .i64 t, .int .i64 s] w fun e w' => e = .returned (.int .i64 (pctV t s)) ∧ w = w' := by
  by_cases h1 : t < 0
  · have e1 : pctV t s = 0 := by unfold pctV; rw [if_neg (by omega)]
    rw [e1]
    clear e1
    go_enter Try.func17, Try.ntmps17
    go_wp2
    go_ret
    exact ⟨rfl, rfl⟩
  by_cases h2 : 1000000000000000 < t
  · have e1 : pctV t s = 0 := by unfold pctV; rw [if_neg (by omega)]
    rw [e1]
    clear e1
    go_enter Try.func17, Try.ntmps17
    go_wp2
    go_ret
    exact ⟨rfl, rfl⟩
  by_cases h3 : s < 0
  · have e1 : pctV t s = 0 := by unfold pctV; rw [if_neg (by omega)]
    rw [e1]
    clear e1
    go_enter Try.func17, Try.ntmps17
    go_wp2
    go_ret
    exact ⟨rfl, rfl⟩
  by_cases h4 : 1000000 < s
  · have e1 : pctV t s = 0 := by unfold pctV; rw [if_neg (by omega)]
    rw [e1]
    clear e1
    go_enter Try.func17, Try.ntmps17
    go_wp2
    go_ret
    exact ⟨rfl, rfl⟩
  have e1 := pct_md (t := t) (s := s) (by omega)
  have hm := fun w => rmuldiv_any t s 1000000 w a1 a2 b1 b2 (by omega) (by omega)
  rw [e1] at hm
  have HM := Lib.hid hm
  clear e1 hm
  generalize mdB t s 1000000 = O at *
  generalize pctV t s = R at *
  go_enter Try.func17, Try.ntmps17
  go_wp2_with fail
  refine (HM.out _).mono ?_
  rintro e w' ⟨rfl, rfl⟩
  go_wp2_with fail
  go_ret
  exact ⟨rfl, rfl⟩

theorem eq_of_take {a b : List Int} (h : a.length = b.length) (h2 : ∀ i, i < a.length → a.getD i 0 = b.getD i 0) : a = b := by
  apply List.ext_getElem h
  intro i h1 h3
  have := h2 i h1
  simpa [h1, h3] using this

/-- Same: two slices that read as lists -/
theorem same_short (ao bo : Option Addr) (cap cap' : Nat) (a b : List Int) (w : World) (hne : a.length ≠ b.length) :
    Calls Try.prog 22 #[.slice ao a.length cap, .slice bo b.length cap'] w fun e w' => e = .returned (.bool (decide (a = b))) ∧ ∃ n, w' = w.drewN n := by
  have e1 : decide (a = b) = false := decide_eq_false fun h => hne (by rw [h])
  rw [e1]
  have h1 : ((a.length : Int) != (b.length : Int)) = true := by rw [bne_iff_ne]; omega
  have h2 : (a.length != b.length) = true := by rw [bne_iff_ne]; omega
  clear e1
  go_enter Try.func22, Try.ntmps22
  go_wp2
  go_ret
  exact ⟨rfl, 0, rfl⟩

set_option maxHeartbeats 400000 in
theorem same_long (ao bo : Option Addr) (cap cap' : Nat) (a b : List Int) (n : Nat) (w : World) (ha : a.length = n) (hb : b.length = n) (hl : n ≤ 4611686018427387903) (hra : Row w ao a) (hrb : Row w bo b) :
    Calls Try.prog 22 #[.slice ao n cap, .slice bo n cap'] w fun e w' => e = .returned (.bool (decide (a = b))) ∧ ∃ n, w' = w.drewN n := by
  have HA := Lib.hid ha
  have HB := Lib.hid hb
  have HRA := Lib.hid hra
  have HRB := Lib.hid hrb
  clear ha hb hra hrb
  have h1 : ((n : Int) != (n : Int)) = false := by simp
  have h2 : (n != n) = false := by simp
  go_enter Try.func22, Try.ntmps22
  go_wp2
  go_loopw [5] (fun i wr => ∃ k m : Nat, k ≤ n ∧ (∀ j, j < k → a.getD j 0 = b.getD j 0) ∧ i = .int .i64 k ∧ wr = w.drewN m) (fun i _ => n - (intOf i).toNat)
  case atStart => exact ⟨0, 0, Nat.zero_le _, fun j hj => by omega, rfl, rfl⟩
  case round =>
    obtain ⟨k, m, hk, hp, rfl, rfl⟩ := hrel
    have HP := Lib.hid hp
    clear hp
    by_cases hlt : k < n
    · obtain ⟨ba, oa, rfl, hba, hca⟩ := HRA.out k (by rw [HA.out]; exact hlt)
      obtain ⟨bb, ob, rfl, hbb, hcb⟩ := HRB.out k (by rw [HB.out]; exact hlt)
      obtain ⟨x, hx⟩ : ∃ x, x = a.getD k 0 := ⟨_, rfl⟩
      obtain ⟨y, hy⟩ : ∃ y, y = b.getD k 0 := ⟨_, rfl⟩
      rw [← hx] at hca
      rw [← hy] at hcb
      have HX := Lib.hid hx
      have HY := Lib.hid hy
      clear hx hy
      by_cases e : x = y
      · have hq : (x != y) = false := by simp [e]
        have HE := Lib.hid e
        clear e
        go_wp2
        go_quiet (fail)
        go_wp2
        go_roundw
        case rel =>
          refine ⟨k + 1, m + nq, by omega, ?_, by go_num, by first | rfl | simp [World.drewN_drewN]⟩
          intro j hj
          rcases Nat.lt_or_ge j k with h | h
          · exact HP.out j h
          · have : j = k := by omega
            subst this; rw [← HX.out, ← HY.out]; exact HE.out
        case measure => simp [intOf]; omega
      · have hq : (x != y) = true := by rw [bne_iff_ne]; exact e
        have e1 : decide (a = b) = false := decide_eq_false fun h => e (by rw [HX.out, HY.out, h])
        have HF := Lib.hid e1
        clear e1 e
        go_wp2
        go_quiet (fail)
        go_wp2
        go_ret
        exact ⟨by rw [HF.out]; rfl, m + nq, by first | rfl | simp [World.drewN_drewN]⟩
    · have e1 : decide (a = b) = true := decide_eq_true (eq_of_take (by rw [HA.out, HB.out]) fun i hi => HP.out i (by rw [HA.out] at hi; omega))
      have HF := Lib.hid e1
      clear e1
      go_wp2
      go_ret
      exact ⟨by rw [HF.out]; rfl, m, rfl⟩

/-- Same: two slices that read as lists -/
theorem same_any (ao bo : Option Addr) (cap cap' : Nat) (a b : List Int) (n n' : Nat) (w : World) (ha : a.length = n) (hb : b.length = n') (hl : n ≤ 4611686018427387903) (hra : Row w ao a) (hrb : Row w bo b) :
    Calls Try.prog 22 #[.slice ao n cap, .slice bo n' cap'] w fun e w' => e = .returned (.bool (decide (a = b))) ∧ ∃ n, w' = w.drewN n := by
  subst ha hb
  by_cases h : a.length = b.length
  · have := same_long ao bo cap cap' a b a.length w rfl h.symm hl hra hrb
    rw [← h]; exact this
  · exact same_short ao bo cap cap' a b w h

end Go.Proofs.Ytbefbodihfijbaa
