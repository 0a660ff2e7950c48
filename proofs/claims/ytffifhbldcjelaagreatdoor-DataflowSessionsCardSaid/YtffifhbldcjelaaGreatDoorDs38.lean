/-
  What a law is told of a slice of facts; the walk of DataflowSessions in the words of its frame. (Printed by gen_opnf.py.)
-/
import Derived.Test.YtffifhbldcjelaaGreatDoorDs37
import Derived.WalkKit
import Derived.ProofKit
import Derived.OpenShut
import Derived.Deep.Slices
import Derived.ChangeArms
import Derived.DataReads
import Derived.ChangeSlices
import Derived.ChangeSame
import Derived.Lib.LaidTab

/-! What a law is told of a slice of facts; the walk of DataflowSessions in the words of its frame. (Printed by gen_opnf.py.) -/
namespace Go.Proofs.YtffifhbldcjelaaGreatDoor
set_option linter.unusedVariables false
open Go.ChangeShapes Go.WideShapes Go.ChangeAt Go.RowKit

theorem eighteen {cs : List Value} (h : cs.length = 18) : ∃ c0 c1 c2 c3 c4 c5 c6 c7 c8 c9 c10 c11 c12 c13 c14 c15 c16 c17 : Value, cs = [c0, c1, c2, c3, c4, c5, c6, c7, c8, c9, c10, c11, c12, c13, c14, c15, c16, c17] := by
  match cs, h with
  | [c0, c1, c2, c3, c4, c5, c6, c7, c8, c9, c10, c11, c12, c13, c14, c15, c16, c17], _ => exact ⟨c0, c1, c2, c3, c4, c5, c6, c7, c8, c9, c10, c11, c12, c13, c14, c15, c16, c17, rfl⟩

section
variable {H : Type} {enc : TypeId × Value → H} {W : World} {base : Nat} {sp : Nat → Bool} {held : Bool}
set_option maxRecDepth 100000 in
/-- the cells of a fact that came in -/
theorem fact_in {fuel : Nat} {cs : List Value} {x : DataW H × List MemPlace} (h : DataW.trod enc Tryz.prog W base sp held fuel 38 cs = some x) : ∃ f : PF, cs = encP f := by
  obtain ⟨xs, n', _, _, hlen, hxs, hfld⟩ := DataW.trod_struct Tryz.underlying38 h
  have hc18 : Tryz.prog.cellsOf 38 = 18 := by kernel_rfl
  have ci : Tryz.prog.cellsOf 3 = 1 := by kernel_rfl
  have cs1 : Tryz.prog.cellsOf 9 = 1 := by kernel_rfl
  rw [hc18] at hlen
  obtain ⟨c0, c1, c2, c3, c4, c5, c6, c7, c8, c9, c10, c11, c12, c13, c14, c15, c16, c17, rfl⟩ := eighteen hlen
  have x18 : xs.length = 18 := hxs
  have g0 : DataW.trod enc Tryz.prog W base sp held n' 3 ((List.drop 0 [c0, c1, c2, c3, c4, c5, c6, c7, c8, c9, c10, c11, c12, c13, c14, c15, c16, c17]).take (Tryz.prog.cellsOf 3)) = xs[0]? := hfld 0 _ rfl
  rw [List.getElem?_eq_getElem (by omega), ci] at g0
  have g1 : DataW.trod enc Tryz.prog W base sp held n' 3 ((List.drop 1 [c0, c1, c2, c3, c4, c5, c6, c7, c8, c9, c10, c11, c12, c13, c14, c15, c16, c17]).take (Tryz.prog.cellsOf 3)) = xs[1]? := hfld 1 _ rfl
  rw [List.getElem?_eq_getElem (by omega), ci] at g1
  have g2 : DataW.trod enc Tryz.prog W base sp held n' 3 ((List.drop 2 [c0, c1, c2, c3, c4, c5, c6, c7, c8, c9, c10, c11, c12, c13, c14, c15, c16, c17]).take (Tryz.prog.cellsOf 3)) = xs[2]? := hfld 2 _ rfl
  rw [List.getElem?_eq_getElem (by omega), ci] at g2
  have g3 : DataW.trod enc Tryz.prog W base sp held n' 3 ((List.drop 3 [c0, c1, c2, c3, c4, c5, c6, c7, c8, c9, c10, c11, c12, c13, c14, c15, c16, c17]).take (Tryz.prog.cellsOf 3)) = xs[3]? := hfld 3 _ rfl
  rw [List.getElem?_eq_getElem (by omega), ci] at g3
  have g4 : DataW.trod enc Tryz.prog W base sp held n' 3 ((List.drop 4 [c0, c1, c2, c3, c4, c5, c6, c7, c8, c9, c10, c11, c12, c13, c14, c15, c16, c17]).take (Tryz.prog.cellsOf 3)) = xs[4]? := hfld 4 _ rfl
  rw [List.getElem?_eq_getElem (by omega), ci] at g4
  have g5 : DataW.trod enc Tryz.prog W base sp held n' 3 ((List.drop 5 [c0, c1, c2, c3, c4, c5, c6, c7, c8, c9, c10, c11, c12, c13, c14, c15, c16, c17]).take (Tryz.prog.cellsOf 3)) = xs[5]? := hfld 5 _ rfl
  rw [List.getElem?_eq_getElem (by omega), ci] at g5
  have g6 : DataW.trod enc Tryz.prog W base sp held n' 3 ((List.drop 6 [c0, c1, c2, c3, c4, c5, c6, c7, c8, c9, c10, c11, c12, c13, c14, c15, c16, c17]).take (Tryz.prog.cellsOf 3)) = xs[6]? := hfld 6 _ rfl
  rw [List.getElem?_eq_getElem (by omega), ci] at g6
  have g7 : DataW.trod enc Tryz.prog W base sp held n' 3 ((List.drop 7 [c0, c1, c2, c3, c4, c5, c6, c7, c8, c9, c10, c11, c12, c13, c14, c15, c16, c17]).take (Tryz.prog.cellsOf 3)) = xs[7]? := hfld 7 _ rfl
  rw [List.getElem?_eq_getElem (by omega), ci] at g7
  have g8 : DataW.trod enc Tryz.prog W base sp held n' 3 ((List.drop 8 [c0, c1, c2, c3, c4, c5, c6, c7, c8, c9, c10, c11, c12, c13, c14, c15, c16, c17]).take (Tryz.prog.cellsOf 3)) = xs[8]? := hfld 8 _ rfl
  rw [List.getElem?_eq_getElem (by omega), ci] at g8
  have g9 : DataW.trod enc Tryz.prog W base sp held n' 3 ((List.drop 9 [c0, c1, c2, c3, c4, c5, c6, c7, c8, c9, c10, c11, c12, c13, c14, c15, c16, c17]).take (Tryz.prog.cellsOf 3)) = xs[9]? := hfld 9 _ rfl
  rw [List.getElem?_eq_getElem (by omega), ci] at g9
  have g10 : DataW.trod enc Tryz.prog W base sp held n' 3 ((List.drop 10 [c0, c1, c2, c3, c4, c5, c6, c7, c8, c9, c10, c11, c12, c13, c14, c15, c16, c17]).take (Tryz.prog.cellsOf 3)) = xs[10]? := hfld 10 _ rfl
  rw [List.getElem?_eq_getElem (by omega), ci] at g10
  have g11 : DataW.trod enc Tryz.prog W base sp held n' 3 ((List.drop 11 [c0, c1, c2, c3, c4, c5, c6, c7, c8, c9, c10, c11, c12, c13, c14, c15, c16, c17]).take (Tryz.prog.cellsOf 3)) = xs[11]? := hfld 11 _ rfl
  rw [List.getElem?_eq_getElem (by omega), ci] at g11
  have g12 : DataW.trod enc Tryz.prog W base sp held n' 3 ((List.drop 12 [c0, c1, c2, c3, c4, c5, c6, c7, c8, c9, c10, c11, c12, c13, c14, c15, c16, c17]).take (Tryz.prog.cellsOf 3)) = xs[12]? := hfld 12 _ rfl
  rw [List.getElem?_eq_getElem (by omega), ci] at g12
  have g13 : DataW.trod enc Tryz.prog W base sp held n' 3 ((List.drop 13 [c0, c1, c2, c3, c4, c5, c6, c7, c8, c9, c10, c11, c12, c13, c14, c15, c16, c17]).take (Tryz.prog.cellsOf 3)) = xs[13]? := hfld 13 _ rfl
  rw [List.getElem?_eq_getElem (by omega), ci] at g13
  have g14 : DataW.trod enc Tryz.prog W base sp held n' 3 ((List.drop 14 [c0, c1, c2, c3, c4, c5, c6, c7, c8, c9, c10, c11, c12, c13, c14, c15, c16, c17]).take (Tryz.prog.cellsOf 3)) = xs[14]? := hfld 14 _ rfl
  rw [List.getElem?_eq_getElem (by omega), ci] at g14
  have g15 : DataW.trod enc Tryz.prog W base sp held n' 3 ((List.drop 15 [c0, c1, c2, c3, c4, c5, c6, c7, c8, c9, c10, c11, c12, c13, c14, c15, c16, c17]).take (Tryz.prog.cellsOf 3)) = xs[15]? := hfld 15 _ rfl
  rw [List.getElem?_eq_getElem (by omega), ci] at g15
  have g16 : DataW.trod enc Tryz.prog W base sp held n' 3 ((List.drop 16 [c0, c1, c2, c3, c4, c5, c6, c7, c8, c9, c10, c11, c12, c13, c14, c15, c16, c17]).take (Tryz.prog.cellsOf 3)) = xs[16]? := hfld 16 _ rfl
  rw [List.getElem?_eq_getElem (by omega), ci] at g16
  have g17 : DataW.trod enc Tryz.prog W base sp held n' 9 ((List.drop 17 [c0, c1, c2, c3, c4, c5, c6, c7, c8, c9, c10, c11, c12, c13, c14, c15, c16, c17]).take (Tryz.prog.cellsOf 9)) = xs[17]? := hfld 17 _ rfl
  rw [List.getElem?_eq_getElem (by omega), cs1] at g17
  obtain ⟨z0, e0, _, _⟩ := DataW.trod_int Tryz.underlying3 g0
  simp at e0
  subst e0
  obtain ⟨z1, e1, _, _⟩ := DataW.trod_int Tryz.underlying3 g1
  simp at e1
  subst e1
  obtain ⟨z2, e2, _, _⟩ := DataW.trod_int Tryz.underlying3 g2
  simp at e2
  subst e2
  obtain ⟨z3, e3, _, _⟩ := DataW.trod_int Tryz.underlying3 g3
  simp at e3
  subst e3
  obtain ⟨z4, e4, _, _⟩ := DataW.trod_int Tryz.underlying3 g4
  simp at e4
  subst e4
  obtain ⟨z5, e5, _, _⟩ := DataW.trod_int Tryz.underlying3 g5
  simp at e5
  subst e5
  obtain ⟨z6, e6, _, _⟩ := DataW.trod_int Tryz.underlying3 g6
  simp at e6
  subst e6
  obtain ⟨z7, e7, _, _⟩ := DataW.trod_int Tryz.underlying3 g7
  simp at e7
  subst e7
  obtain ⟨z8, e8, _, _⟩ := DataW.trod_int Tryz.underlying3 g8
  simp at e8
  subst e8
  obtain ⟨z9, e9, _, _⟩ := DataW.trod_int Tryz.underlying3 g9
  simp at e9
  subst e9
  obtain ⟨z10, e10, _, _⟩ := DataW.trod_int Tryz.underlying3 g10
  simp at e10
  subst e10
  obtain ⟨z11, e11, _, _⟩ := DataW.trod_int Tryz.underlying3 g11
  simp at e11
  subst e11
  obtain ⟨z12, e12, _, _⟩ := DataW.trod_int Tryz.underlying3 g12
  simp at e12
  subst e12
  obtain ⟨z13, e13, _, _⟩ := DataW.trod_int Tryz.underlying3 g13
  simp at e13
  subst e13
  obtain ⟨z14, e14, _, _⟩ := DataW.trod_int Tryz.underlying3 g14
  simp at e14
  subst e14
  obtain ⟨z15, e15, _, _⟩ := DataW.trod_int Tryz.underlying3 g15
  simp at e15
  subst e15
  obtain ⟨z16, e16, _, _⟩ := DataW.trod_int Tryz.underlying3 g16
  simp at e16
  subst e16
  obtain ⟨z17, e17, _, _⟩ := DataW.trod_string Tryz.underlying9 g17
  simp at e17
  subst e17
  exact ⟨⟨fun i => match i with | 0 => z0 | 1 => z1 | 2 => z2 | 3 => z3 | 4 => z4 | 5 => z5 | 6 => z6 | 7 => z7 | 8 => z8 | 9 => z9 | 10 => z10 | 11 => z11 | 12 => z12 | 13 => z13 | 14 => z14 | 15 => z15 | _ => z16, z17⟩, rfl⟩

theorem facts_open {a : Option Addr} {len cap : Nat} {d : DataW H} {p : List MemPlace} (h : DataW.Trod enc Tryz.prog W base sp held 22 (.slice a len cap) d p) :
    ∃ L : List PF, L.length = len ∧ len ≤ 9223372036854775807 ∧ RowK 18 encP W a L := by
  obtain ⟨fuel, h⟩ := h
  rcases Go.Deep.open_slice Tryz.underlying22 h with ⟨hcs, _⟩ | ⟨x, l, c, m, n, D, Pl, hcs, _, hl, hm, hmm, _, hi⟩
  · simp [Value.cells] at hcs
    obtain ⟨rfl, rfl, rfl⟩ := hcs
    exact ⟨[], rfl, by omega, RowK.nil _ _ _ _⟩
  · simp [Value.cells] at hcs
    obtain ⟨rfl, rfl, rfl⟩ := hcs
    have hc18 : Tryz.prog.cellsOf 38 = 18 := by kernel_rfl
    have hch : ∀ i, ∃ f : PF, i < len → ∀ j v, (encP f)[j]? = some v → W.cell? (x.add (i * 18 + j)) = some v := fun i => by
      by_cases hil : i < len
      · have him : i < m := by rw [hmm]; split <;> omega
        obtain ⟨cs, h1, h2⟩ := hi i him
        rw [hc18] at h1
        obtain ⟨_, hlen, hcell⟩ := World.cells?_some h1
        obtain ⟨f, hs⟩ := fact_in h2
        refine ⟨f, fun _ j v hv => ?_⟩
        have hj : j < 18 := by have := (List.getElem?_eq_some_iff.1 hv).1; simpa [encP] using this
        have e1 : x.add (i * 18 + j) = (x.add (i * 18)).add j := by
          unfold Addr.add
          by_cases c1 : i * 18 = 0 <;> by_cases c2 : j = 0 <;> simp [c1, c2, Nat.add_assoc]
        rw [e1, hcell j hj, hs]; exact hv
      · exact ⟨⟨fun _ => 0, ⟨#[]⟩⟩, fun h => absurd h hil⟩
    refine ⟨(List.range len).map fun i => (hch i).choose, by simp, by unfold maxLen at hm; omega, fun i f hf => ?_⟩
    have hil : i < len := by have := (List.getElem?_eq_some_iff.1 hf).1; simpa using this
    have es : f = (hch i).choose := by
      rw [List.getElem?_map, List.getElem?_range hil, Option.map_some] at hf
      exact (Option.some.inj hf).symm
    subst es
    have hcell := (hch i).choose_spec hil
    have c0 := hcell 0 _ rfl
    obtain ⟨b, off, spot⟩ := x
    have hsn : spot = none := by
      have q := (hch 0).choose_spec (by omega) 0 _ rfl
      have e0 : (Addr.add ⟨b, off, spot⟩ (0 * 18 + 0)) = ⟨b, off, spot⟩ := by simp [Addr.add]
      rw [e0] at q
      simpa using World.cell?_spot q
    subst hsn
    have ea : ∀ k, (Addr.add ⟨b, off, none⟩ k) = ⟨b, off + k, none⟩ := fun k => by unfold Addr.add; split <;> simp_all
    refine ⟨b, off, rfl, ?_, fun j v hv => ?_⟩
    · rw [ea] at c0; exact World.block_lt_of_cell? _ _ c0
    · have := hcell j v hv
      rw [ea] at this
      rw [Nat.add_assoc]; exact this
end
/-- what the months' table says -/
theorem lens_of {W : World} {t : TypeId × (Nat × Nat)} (h : W.heap[0]? = some (.cells #[.int .i64 31, .int .i64 28, .int .i64 31, .int .i64 30, .int .i64 31, .int .i64 30, .int .i64 31, .int .i64 31, .int .i64 30, .int .i64 31, .int .i64 30, .int .i64 31] t.1 t.2)) : LensAt W ∧ 0 < W.heap.size := by
  refine ⟨fun i hi => ?_, blk_lt h⟩
  have hc : ∀ (z : Int), (#[.int .i64 31, .int .i64 28, .int .i64 31, .int .i64 30, .int .i64 31, .int .i64 30, .int .i64 31, .int .i64 31, .int .i64 30, .int .i64 31, .int .i64 30, .int .i64 31] : Array Value)[i]? = some (.int .i64 z) → W.cell? ⟨0, i, none⟩ = some (.int .i64 z) := fun z hz => cell_blk h hz
  match i, hi with
  | 0, _ => exact ⟨31, by decide, by decide, hc _ rfl⟩
  | 1, _ => exact ⟨28, by decide, by decide, hc _ rfl⟩
  | 2, _ => exact ⟨31, by decide, by decide, hc _ rfl⟩
  | 3, _ => exact ⟨30, by decide, by decide, hc _ rfl⟩
  | 4, _ => exact ⟨31, by decide, by decide, hc _ rfl⟩
  | 5, _ => exact ⟨30, by decide, by decide, hc _ rfl⟩
  | 6, _ => exact ⟨31, by decide, by decide, hc _ rfl⟩
  | 7, _ => exact ⟨31, by decide, by decide, hc _ rfl⟩
  | 8, _ => exact ⟨30, by decide, by decide, hc _ rfl⟩
  | 9, _ => exact ⟨31, by decide, by decide, hc _ rfl⟩
  | 10, _ => exact ⟨30, by decide, by decide, hc _ rfl⟩
  | 11, _ => exact ⟨31, by decide, by decide, hc _ rfl⟩

theorem sessionsF (ao : Option Addr) (len cap : Nat) (L : List PF) (w : World) (hl : L.length = len) (hlen : len ≤ 9223372036854775807) (hrow : RowK 18 encP w ao L) (hG : LensAt w ∧ 0 < w.heap.size) :
    Calls Tryz.prog 3 #[.slice ao len cap] w fun e w' => e = .returned (.bool true) ∧ Below w.heap.size w w' := sessions_any L ao len cap w hl hrow hG.1 hG.2 hlen

end Go.Proofs.YtffifhbldcjelaaGreatDoor
