import Derived.Test.YtgbnhngaeefmkaaFl9
import Derived.Sort.Walk0
import Derived.Deep.QuietTactic
import Derived.BigQuiet

/-! cmp.Compare of strings; the reference's Same. -/
namespace Go.Proofs.Ytgbnhngaeefmkaa
set_option linter.unusedVariables false
set_option linter.unusedSimpArgs false
open Go.RowKit

def cmpB (x y : ByteArray) : Int := if ltB x y then -1 else if x = y then 0 else 1

theorem less_t {x y : ByteArray} (h : ltB x y) : Op.bytesLess x.toList y.toList = true := by rw [bytesLess_eq]; exact decide_eq_true h
theorem less_f {x y : ByteArray} (h : ¬ ltB x y) : Op.bytesLess x.toList y.toList = false := by rw [bytesLess_eq]; exact decide_eq_false h

theorem cmpS_any (x y : ByteArray) (W : World) : Calls Try.prog 52 #[.string x, .string y] W fun e w' => e = .returned (.int .i64 (cmpB x y)) ∧ W = w' := by
  have hx : (x.toList != x.toList) = false := by simp
  have hy : (y.toList != y.toList) = false := by simp
  rcases ltB_tri x y with h | h | h
  · have h1 := less_t h
    have HV := Lib.hid (show cmpB x y = -1 by unfold cmpB; rw [if_pos h])
    clear h
    go_enter Try.func52, Try.ntmps52
    go_wp2
    go_ret
    rw [HV.out]; exact ⟨rfl, rfl⟩
  · subst h
    have h1 := less_f (ltB_irr x)
    have h2 : (x.toList == x.toList) = true := by simp
    have HV := Lib.hid (show cmpB x x = 0 by unfold cmpB; rw [if_neg (ltB_irr x), if_pos rfl])
    go_enter Try.func52, Try.ntmps52
    go_wp2
    go_ret
    rw [HV.out]; exact ⟨rfl, rfl⟩
  · have hn : ¬ ltB x y := fun q => ltB_irr x (ltB_trans q h)
    have hne : x ≠ y := fun q => by rw [q] at h; exact ltB_irr y h
    have h1 := less_f hn
    have h2 : (x.toList == y.toList) = false := (Lib.bytes_beq_false_iff _ _).2 hne
    have HV := Lib.hid (show cmpB x y = 1 by unfold cmpB; rw [if_neg hn, if_neg hne])
    clear h hn hne
    go_enter Try.func52, Try.ntmps52
    go_wp2
    go_ret
    rw [HV.out]; exact ⟨rfl, rfl⟩

theorem below_dn (w : World) (n : Nat) : Below w.heap.size w (w.drewN n) := ⟨rfl, rfl, rfl, Nat.le_refl _, fun _ _ => rfl⟩

/-- Same: two lists of strings -/
def sameB (a b : List ByteArray) : Bool := decide (a = b)

set_option maxRecDepth 100000 in
set_option maxHeartbeats 1000000 in
theorem same_any (ao bo : Option Addr) (ca cb na nb : Nat) (a b : List ByteArray) (W : World) (hna : a.length = na) (hnb : b.length = nb) (hn : na ≤ 1000000) (ha : RowK 1 encT W ao a) (hb : RowK 1 encT W bo b) :
    Calls Try.prog 20 #[.slice ao na ca, .slice bo nb cb] W fun e w' => e = .returned (.bool (sameB a b)) ∧ Below W.heap.size W w' := by
  have HA := Lib.hid ha
  have HB := Lib.hid hb
  have HNA := Lib.hid hna
  have HNB := Lib.hid hnb
  by_cases hl : na = nb
  · subst hl
    have q0 : ((na : Int) != (na : Int)) = false := by simp
    clear ha hb hna hnb
    go_enter Try.func20, Try.ntmps20
    go_wp2
    go_loopw [5] (fun i wr => ∃ k : Nat, k ≤ na ∧ i = .int .i64 k ∧ a.take k = b.take k ∧ Below W.heap.size W wr) (fun i _ => na - (intOf i).toNat)
    case atStart => exact ⟨0, Nat.zero_le _, rfl, by simp, Below.refl _ _⟩
    case round =>
      obtain ⟨k, hk, rfl, htk, hbl⟩ := hrel
      have TK := Lib.hid htk
      have BL := Lib.hid hbl
      clear htk hbl
      by_cases hlt : k < na
      · have hka : k < a.length := by rw [HNA.out]; exact hlt
        have hkb : k < b.length := by rw [HNB.out]; exact hlt
        obtain ⟨b1, o1, rfl, _, e1⟩ := (HA.out.later BL.out).str hka
        obtain ⟨b2, o2, rfl, _, e2⟩ := (HB.out.later BL.out).str hkb
        have HT := Lib.hid (show a[k] = b[k] → a.take (k + 1) = b.take (k + 1) from fun q => by rw [List.take_succ_eq_append_getElem hka, List.take_succ_eq_append_getElem hkb, TK.out, q])
        have HF := Lib.hid (show a[k] ≠ b[k] → sameB a b = false from fun q => by unfold sameB; exact decide_eq_false (fun e => q (by subst e; rfl)))
        obtain ⟨x, hx⟩ : ∃ x, a[k] = x := ⟨_, rfl⟩
        obtain ⟨y, hy⟩ : ∃ y, b[k] = y := ⟨_, rfl⟩
        rw [hx] at e1 HT HF
        rw [hy] at e2 HT HF
        have k0 : (0 : Int) ≤ (k : Int) := by omega
        have k1 : (k : Int) < (na : Int) := by omega
        have NX := Lib.hid (fun (n' : Nat) => BL.out.trans ((below_dn wr n').mono BL.out.size))
        clear hx hy hka hkb
        by_cases hxy : x = y
        · have q1 : (x.toList == y.toList) = true := by rw [hxy]; simp
          have T2 := Lib.hid (HT.out hxy)
          clear hxy
          go_wp2
          go_quiet (fail)
          go_wp2
          go_roundw
          case rel => exact ⟨k + 1, by omega, by go_num, T2.out, NX.out _⟩
          case measure => simp [intOf]; omega
        · have q1 : (x.toList == y.toList) = false := (Lib.bytes_beq_false_iff _ _).2 hxy
          have F2 := Lib.hid (HF.out hxy)
          clear hxy
          go_wp2
          go_quiet (fail)
          go_wp2
          go_ret
          rw [F2.out]
          exact ⟨rfl, NX.out _⟩
      · have hs : sameB a b = true := by
          have h := TK.out
          rw [List.take_of_length_le (by rw [HNA.out]; omega), List.take_of_length_le (by rw [HNB.out]; omega)] at h
          unfold sameB; exact decide_eq_true h
        have HS := Lib.hid hs
        clear hs
        go_wp2
        go_ret
        rw [HS.out]
        exact ⟨rfl, BL.out⟩
  · have q0 : ((na : Int) != (nb : Int)) = true := by simp; omega
    have HS := Lib.hid (show sameB a b = false by unfold sameB; exact decide_eq_false (fun e => hl (by rw [← hna, ← hnb, e])))
    clear ha hb hna hnb
    go_enter Try.func20, Try.ntmps20
    go_wp2
    go_ret
    rw [HS.out]
    exact ⟨rfl, Below.refl _ _⟩

end Go.Proofs.Ytgbnhngaeefmkaa
