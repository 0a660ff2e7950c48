/-
  The walk of the law AllocateUsagesMatchReference: it returns true.
-/
import Derived.Test.YtbkmcncakpmgkaaRUsg
import Derived.Test.YtbkmcncakpmgkaaNlA
import Derived.Deep.QuietTactic
import Derived.BigQuiet
import Derived.IntWalk
namespace Go.Proofs.Ytbkmcncakpmgkaa.allocateUsagesMatchReference
set_option linter.unusedVariables false
set_option linter.unusedSimpArgs false
open Go.ChangeShapes Go.WideShapes Go.ChangeAt Go.RowKit Go.Proofs.Ytbkmcncakpmgkaa

set_option maxRecDepth 100000 in
set_option maxHeartbeats 4000000 in
theorem walk (a0 : Option Addr) (len0 cap0 : Nat) (W : World) (h0 : IsRowK 9 W a0 len0 cap0) :
    Calls Try.prog 4 #[.slice a0 len0 cap0] W fun e W' => e = .returned (.bool true) ∧ Below W.heap.size W W' := by
  obtain ⟨l, hl, hr, hw, hcap, hm, hnone⟩ := h0.streams
  obtain ⟨np, hnp⟩ : ∃ np, np = min len0 60 := ⟨_, rfl⟩
  have hnp60 : np ≤ 60 := by omega
  have hnpl : np ≤ len0 := by omega
  have HR := Lib.hid (hr.take np)
  have HT := Lib.hid (show T64 (l.take np) from fun s hs => hw s (List.mem_of_mem_take hs))
  have HL := Lib.hid (show (l.take np).length = np by rw [List.length_take]; omega)
  have hmin : min (len0 : Int) 60 = np := by omega
  have FACT := Lib.hid (usL_facts (l.take np) np (by rw [HL.out]; exact Nat.le_refl _))
  clear hnp hl hr hw h0 hnone
  obtain ⟨us, hus⟩ : ∃ us, usL (l.take np) = us := ⟨_, rfl⟩
  obtain ⟨n, hn⟩ : ∃ n, us.length = n := ⟨_, rfl⟩
  have hn60 : n ≤ np := by
    have := FACT.out.2.1
    rw [List.take_of_length_le (by rw [HL.out]; exact Nat.le_refl _), hus, hn] at this; exact this
  have HU := Lib.hid hus
  have HN := Lib.hid hn
  clear hus hn FACT
  go_enter Try.func4, Try.ntmps4
  go_wp2_with fail
  refine (sane_any _).mono ?_
  rintro e w1 ⟨rfl, hb1⟩
  have B1 := Lib.hid hb1
  clear hb1
  go_wp2_with fail
  refine (usages_any a0 _ np (l.take np) _ (by omega) HL.out (HR.out.later B1.out) HT.out).mono ?_
  rintro e w2 ⟨ao, ac, rfl, hc2, hr2, hb2⟩
  rw [HU.out] at hr2 ⊢
  rw [HN.out]
  have R2 := Lib.hid hr2
  have B2 := Lib.hid (bch B1.out hb2 B1.out.size)
  clear hc2 hr2 hb2
  go_wp2_with fail
  refine (rusages_any a0 _ np (l.take np) _ (by omega) HL.out (HR.out.later B2.out)).mono ?_
  rintro e w3 ⟨bo, bc, rfl, hc3, hr3, hb3⟩
  rw [HU.out] at hr3 ⊢
  rw [HN.out]
  have R3 := Lib.hid hr3
  have R3' := Lib.hid (R2.out.later hb3)
  have B3 := Lib.hid (bch B2.out hb3 B2.out.size)
  clear hc3 hr3 hb3
  have q0 : ((n : Int) != (n : Int)) = false := by simp
  go_wp2
  go_loopw [7] (fun i wr => ∃ k : Nat, k ≤ n ∧ i = .int .i64 k ∧ Below w3.heap.size w3 wr) (fun i _ => n - (intOf i).toNat)
  case atStart => exact ⟨0, Nat.zero_le _, rfl, Below.refl _ _⟩
  case round =>
    obtain ⟨k, hk, rfl, hb⟩ := hrel
    have HB := Lib.hid hb
    clear hb
    by_cases hlt : k < n
    · have hku : k < us.length := by rw [HN.out]; exact hlt
      obtain ⟨b, o, rfl, _, c0, c1, c2, c3⟩ := (R3'.out.later HB.out).usage hku
      obtain ⟨b', o', rfl, _, d0, d1, d2, d3⟩ := (R3.out.later HB.out).usage hku
      obtain ⟨x, hx⟩ : ∃ x, us[k] = x := ⟨_, rfl⟩
      rw [hx] at c0 c1 c2 c3 d0 d1 d2 d3
      clear hx
      obtain ⟨xa, xr, xv, xh⟩ := x
      dsimp only at c0 c1 c2 c3 d0 d1 d2 d3
      have k0 : (0 : Int) ≤ (k : Int) := by omega
      have k1 : (k : Int) < (n : Int) := by omega
      have NX := Lib.hid (fun (n' : Nat) => HB.out.trans ((below_dn wr n').mono HB.out.size))
      go_wp2
      go_quiet (fail)
      go_wp2
      go_roundw
      case rel => exact ⟨k + 1, by omega, by go_num, NX.out _⟩
      case measure => simp [intOf]; omega
    · go_wp2
      go_ret
      exact ⟨rfl, bch B3.out HB.out B3.out.size⟩

end Go.Proofs.Ytbkmcncakpmgkaa.allocateUsagesMatchReference
