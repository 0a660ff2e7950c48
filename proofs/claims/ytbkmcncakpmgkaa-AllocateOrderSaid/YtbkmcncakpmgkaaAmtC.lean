/-
  Contracts of Sum (the program's and the reference's) and of the reference's weigh: what each returns for a slice that reads as a list.
-/
import Derived.Test.YtbkmcncakpmgkaaAmtA
import Derived.Test.YtbkmcncakpmgkaaMath
import Derived.WalkSmall
import Derived.Deep.QuietTactic
import Derived.BigQuiet
namespace Go.Proofs.Ytbkmcncakpmgkaa
set_option linter.unusedVariables false
open Go.ChangeShapes Go.WideShapes Go.ChangeAt Go.RowKit

/-- the slice at ao reads as l -/
def Row (w : World) (ao : Option Addr) (l : List Int) : Prop :=
  ∀ i, i < l.length → ∃ b off, ao = some ⟨b, off, none⟩ ∧ b < w.heap.size ∧ w.cell? ⟨b, off + i, none⟩ = some (.int .i64 (l.getD i 0))

def I64s (l : List Int) : Prop := ∀ i, -9223372036854775808 ≤ l.getD i 0 ∧ l.getD i 0 ≤ 9223372036854775807

theorem Row.nil (w : World) (ao : Option Addr) : Row w ao [] := fun i h => by simp at h

theorem Row.later {w w' : World} {ao : Option Addr} {l : List Int} (h : Row w ao l) (hb : Below w.heap.size w w') : Row w' ao l := fun i hi => by
  obtain ⟨b, off, e, h1, h2⟩ := h i hi
  exact ⟨b, off, e, Nat.lt_of_lt_of_le h1 hb.size, by rw [hb.cell (p := ⟨b, off + i, none⟩) h1]; exact h2⟩

theorem Row.laterB {B : Nat} {w w' : World} {b off : Nat} {l : List Int} (h : Row w (some ⟨b, off, none⟩) l) (hb : Below B w w') (hB : b < B) (hs : w.heap.size ≤ w'.heap.size) : Row w' (some ⟨b, off, none⟩) l := fun i hi => by
  obtain ⟨b', off', e, h1, h2⟩ := h i hi
  simp only [Option.some.injEq, Addr.mk.injEq, and_true] at e
  obtain ⟨rfl, rfl⟩ := e
  exact ⟨b, off, rfl, Nat.lt_of_lt_of_le h1 hs, by rw [hb.cell (p := ⟨b, off + i, none⟩) hB]; exact h2⟩

set_option maxHeartbeats 400000 in
theorem sum_any (ao : Option Addr) (cap : Nat) (l : List Int) (w : World) (hl : l.length ≤ 4611686018427387903) (hr : Row w ao l) (h64 : I64s l) :
    Calls Try.prog 43 #[.slice ao l.length cap] w fun e w' => e = .returned (.tuple #[.int .i64 (sumV l), .bool (sumB l)]) ∧ w = w' := by
  have HR := Lib.hid hr
  have H64 := Lib.hid h64
  clear hr h64
  go_enter Try.func43, Try.ntmps43
  go_wp2
  go_loop [4, 9] (fun s i => ∃ (k : Nat) (z : Int), k ≤ l.length ∧ SumIs 4611686018427387903 l k z ∧ i = .int .i64 k ∧ s = .int .i64 z) (fun _ i => l.length - (intOf i).toNat)
  case atStart => exact ⟨0, 0, Nat.zero_le _, SumIs.start (by omega) l, rfl, rfl⟩
  case round =>
    obtain ⟨k, z, hk, hp, rfl, rfl⟩ := hrel
    have hz := hp.bd
    by_cases hlt : k < l.length
    · obtain ⟨b, off, rfl, hb, hc⟩ := HR.out k hlt
      have h64 := H64.out k
      obtain ⟨x, hxe⟩ : ∃ x, x = l.getD k 0 := ⟨_, rfl⟩
      rw [← hxe] at hc h64
      have HXE := Lib.hid hxe
      clear hxe
      by_cases h0 : x < 0
      · have HN := Lib.hid (sum_no (hp.no hlt HXE.out (.inl h0)))
        go_wp2
        go_ret2
        exact ⟨by rw [HN.out.1, HN.out.2]; rfl, rfl⟩
      · by_cases h1 : 4611686018427387903 - z < x
        · have HN := Lib.hid (sum_no (hp.no hlt HXE.out (.inr h1)))
          go_wp2
          go_ret2
          exact ⟨by rw [HN.out.1, HN.out.2]; rfl, rfl⟩
        · have hx := hp.next hlt HXE.out (by omega) (by omega)
          go_wp2
          go_round
          case rel => exact ⟨k + 1, _, by omega, hx, by go_num, rfl⟩
          case measure => simp [intOf]; omega
    · have HN := Lib.hid (hp.last (by omega))
      have HM := Lib.hid (sum_yes HN.out.1)
      go_wp2
      go_ret2
      exact ⟨by rw [HM.out.1, HM.out.2, HN.out.2]; rfl, rfl⟩

set_option maxHeartbeats 400000 in
theorem weigh_any (ao : Option Addr) (cap : Nat) (l : List Int) (w : World) (hl : l.length ≤ 4611686018427387903) (hr : Row w ao l) (h64 : I64s l) :
    Calls Try.prog 48 #[.slice ao l.length cap] w fun e w' => e = .returned (.tuple #[.int .i64 (wgV l), .bool (wgB l)]) ∧ w = w' := by
  have HR := Lib.hid hr
  have H64 := Lib.hid h64
  clear hr h64
  go_enter Try.func48, Try.ntmps48
  go_wp2
  go_loop [4, 5] (fun s i => ∃ (k : Nat) (z : Int), k ≤ l.length ∧ SumIs 1000000000000000 l k z ∧ i = .int .i64 k ∧ s = .int .i64 z) (fun _ i => l.length - (intOf i).toNat)
  case atStart => exact ⟨0, 0, Nat.zero_le _, SumIs.start (by omega) l, rfl, rfl⟩
  case round =>
    obtain ⟨k, z, hk, hp, rfl, rfl⟩ := hrel
    have hz := hp.bd
    by_cases hlt : k < l.length
    · obtain ⟨b, off, rfl, hb, hc⟩ := HR.out k hlt
      have h64 := H64.out k
      obtain ⟨x, hxe⟩ : ∃ x, x = l.getD k 0 := ⟨_, rfl⟩
      rw [← hxe] at hc h64
      have HXE := Lib.hid hxe
      clear hxe
      by_cases h0 : x < 0
      · have HN := Lib.hid (wg_no (hp.no hlt HXE.out (.inl h0)))
        go_wp2
        go_ret2
        exact ⟨by rw [HN.out.1, HN.out.2]; rfl, rfl⟩
      · by_cases h1 : 1000000000000000 - z < x
        · have HN := Lib.hid (wg_no (hp.no hlt HXE.out (.inr h1)))
          go_wp2
          go_ret2
          exact ⟨by rw [HN.out.1, HN.out.2]; rfl, rfl⟩
        · have hx := hp.next hlt HXE.out (by omega) (by omega)
          go_wp2
          go_round
          case rel => exact ⟨k + 1, _, by omega, hx, by go_num, rfl⟩
          case measure => simp [intOf]; omega
    · have HN := Lib.hid (hp.last (by omega))
      have HM := Lib.hid (wg_yes HN.out.1)
      go_wp2
      go_ret2
      exact ⟨by rw [HM.out.1, HM.out.2, HN.out.2]; rfl, rfl⟩

end Go.Proofs.Ytbkmcncakpmgkaa
