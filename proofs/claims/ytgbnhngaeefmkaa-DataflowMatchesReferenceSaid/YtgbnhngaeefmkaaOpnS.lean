import Derived.Test.YtgbnhngaeefmkaaPlR
import Derived.Deep.Slices
import Derived.ChangeArms
import Derived.DataReads
import Derived.ChangeSlices
import Derived.ChangeSame

/-! What a law is told of the steps that came in. -/
namespace Go.Proofs.Ytgbnhngaeefmkaa
set_option linter.unusedVariables false
open Go.ChangeShapes Go.WideShapes Go.ChangeAt Go.RowKit

section
variable {H : Type} {enc : TypeId × Value → H} {W : World} {base : Nat} {sp : Nat → Bool} {held : Bool}

theorem i64_wf {z : Int} (h : (Lit.int .i64 z).wf = true) : I64 z := by
  have := bounds_i64 h; exact this

/-- a slice of integers that came in -/
theorem ints_in {t : TypeId} {fuel : Nat} {cs : List Value} {x : DataW H × List MemPlace} (ht : Try.prog.underlying t = some (.slice 3)) (h : DataW.trod enc Try.prog W base sp held fuel t cs = some x) :
    ∃ ao ln cap zs, cs = [.slice ao ln cap] ∧ zs.length = ln ∧ ln ≤ 9223372036854775807 ∧ RowK 1 encI W ao zs ∧ (∀ z ∈ zs, I64 z) ∧ ((ao = none → cap = 0) ∧ ln ≤ cap) := by
  rcases open_ints ht Try.underlying3 (by kernel_rfl) h with ⟨rfl, _⟩ | ⟨a, ln, cap, zs, rfl, _, hl, hm, hz, _, hc, hw⟩
  · exact ⟨none, 0, 0, [], rfl, rfl, by omega, RowK.nil _ _ _ _, (fun z hz => by cases hz), ⟨fun _ => rfl, Nat.le_refl _⟩⟩
  · have hzl : ln ≤ zs.length := by rw [hz]; split <;> omega
    refine ⟨some a, ln, cap, zs.take ln, rfl, by rw [List.length_take]; omega, by unfold maxLen at hm; omega, fun i z hz' => ?_, fun z hz' => i64_wf (hw z (List.mem_of_mem_take hz')), ⟨(fun h => by cases h), hl⟩⟩
    have hi : i < ln := by have := (List.getElem?_eq_some_iff.1 hz').1; rw [List.length_take] at this; omega
    have c0 := hc i (by omega)
    obtain ⟨b, off, spot⟩ := a
    have hs : spot = none := by
      have c1 := hc 0 (by omega)
      have e0 : (Addr.add ⟨b, off, spot⟩ 0) = ⟨b, off, spot⟩ := by simp [Addr.add]
      rw [e0] at c1
      simpa using World.cell?_spot c1
    subst hs
    have e1 : (Addr.add ⟨b, off, none⟩ i) = ⟨b, off + i, none⟩ := by unfold Addr.add; split <;> simp_all
    rw [e1] at c0
    refine ⟨b, off, rfl, World.block_lt_of_cell? _ _ c0, fun j v hv => ?_⟩
    have hj : j = 0 := by
      have := (List.getElem?_eq_some_iff.1 hv).1
      simp [encI] at this; exact this
    subst hj
    simp [encI] at hv
    subst hv
    rw [Nat.mul_one, Nat.add_zero, c0]
    rw [List.getElem?_take_of_lt hi] at hz'
    simp [List.getD_eq_getElem?_getD, hz']

theorem four {cs : List Value} (h : cs.length = 4) : ∃ a b c d, cs = [a, b, c, d] := by
  match cs, h with
  | [a, b, c, d], _ => exact ⟨a, b, c, d, rfl⟩

set_option maxRecDepth 100000 in
/-- the cells of a step -/
theorem step_in {fuel : Nat} {cs : List Value} {x : DataW H × List MemPlace} (h : DataW.trod enc Try.prog W base sp held fuel 34 cs = some x) : ∃ s : StepV, cs = encStep s ∧ StepOk W s := by
  obtain ⟨xs, n', _, _, hlen, hxs, hfld⟩ := DataW.trod_struct Try.underlying34 h
  have hc4 : Try.prog.cellsOf 34 = 4 := by kernel_rfl
  have ci : Try.prog.cellsOf 3 = 1 := by kernel_rfl
  have cl : Try.prog.cellsOf 32 = 1 := by kernel_rfl
  rw [hc4] at hlen
  obtain ⟨c0, c1, c2, c3, rfl⟩ := four hlen
  have x4 : xs.length = 4 := hxs
  have g0 : DataW.trod enc Try.prog W base sp held n' 3 ((List.drop 0 [c0, c1, c2, c3]).take (Try.prog.cellsOf 3)) = xs[0]? := hfld 0 _ rfl
  have g1 : DataW.trod enc Try.prog W base sp held n' 3 ((List.drop 1 [c0, c1, c2, c3]).take (Try.prog.cellsOf 3)) = xs[1]? := hfld 1 _ rfl
  have g2 : DataW.trod enc Try.prog W base sp held n' 3 ((List.drop 2 [c0, c1, c2, c3]).take (Try.prog.cellsOf 3)) = xs[2]? := hfld 2 _ rfl
  have g3 : DataW.trod enc Try.prog W base sp held n' 32 ((List.drop 3 [c0, c1, c2, c3]).take (Try.prog.cellsOf 32)) = xs[3]? := hfld 3 _ rfl
  rw [List.getElem?_eq_getElem (by omega)] at g0 g1 g2 g3
  rw [ci] at g0 g1 g2
  rw [cl] at g3
  obtain ⟨z0, e0, _, w0⟩ := DataW.trod_int Try.underlying3 g0
  obtain ⟨z1, e1, _, w1⟩ := DataW.trod_int Try.underlying3 g1
  obtain ⟨z2, e2, _, w2⟩ := DataW.trod_int Try.underlying3 g2
  obtain ⟨ao, ln, cap, zs, e3, q1, q2, q3, q4, _⟩ := ints_in Try.underlying32 g3
  simp at e0 e1 e2 e3
  subst e0; subst e1; subst e2; subst e3
  exact ⟨⟨z0, z1, z2, ao, ln, cap, zs⟩, rfl, q1, q2, q3, i64_wf w0, i64_wf w1, i64_wf w2, q4⟩

theorem steps_in {a : Option Addr} {len cap : Nat} {d : DataW H} {p : List MemPlace} (h : DataW.Trod enc Try.prog W base sp held 22 (.slice a len cap) d p) :
    ∃ l : List StepV, l.length = len ∧ len ≤ 9223372036854775807 ∧ RowK 4 encStep W a l ∧ ∀ s ∈ l, StepOk W s := by
  obtain ⟨fuel, h⟩ := h
  rcases Go.Deep.open_slice Try.underlying22 h with ⟨hcs, _⟩ | ⟨x, l, c, m, n, D, Pl, hcs, _, hl, hm, hmm, _, hi⟩
  · simp [Value.cells] at hcs
    obtain ⟨rfl, rfl, rfl⟩ := hcs
    exact ⟨[], rfl, by omega, RowK.nil _ _ _ _, fun s hs => by cases hs⟩
  · simp [Value.cells] at hcs
    obtain ⟨rfl, rfl, rfl⟩ := hcs
    have hc4 : Try.prog.cellsOf 34 = 4 := by kernel_rfl
    have hch : ∀ i, ∃ s : StepV, i < len → StepOk W s ∧ ∀ j v, (encStep s)[j]? = some v → W.cell? (x.add (i * 4 + j)) = some v := fun i => by
      by_cases hil : i < len
      · have him : i < m := by rw [hmm]; split <;> omega
        obtain ⟨cs, h1, h2⟩ := hi i him
        rw [hc4] at h1
        obtain ⟨_, hlen, hcell⟩ := World.cells?_some h1
        obtain ⟨s, hs, hok⟩ := step_in h2
        refine ⟨s, fun _ => ⟨hok, fun j v hv => ?_⟩⟩
        have hj : j < 4 := by have := (List.getElem?_eq_some_iff.1 hv).1; simpa [encStep] using this
        have e1 : x.add (i * 4 + j) = (x.add (i * 4)).add j := by
          unfold Addr.add
          by_cases c1 : i * 4 = 0 <;> by_cases c2 : j = 0 <;> simp [c1, c2, Nat.add_assoc]
        rw [e1, hcell j hj, hs]; exact hv
      · exact ⟨⟨0, 0, 0, none, 0, 0, []⟩, fun h => absurd h hil⟩
    refine ⟨(List.range len).map fun i => (hch i).choose, by simp, by unfold maxLen at hm; omega, fun i s hs => ?_, fun s hs => ?_⟩
    · have hil : i < len := by have := (List.getElem?_eq_some_iff.1 hs).1; simpa using this
      have es : s = (hch i).choose := by
        rw [List.getElem?_map, List.getElem?_range hil, Option.map_some] at hs
        exact (Option.some.inj hs).symm
      subst es
      obtain ⟨_, hcell⟩ := (hch i).choose_spec hil
      have c0 := hcell 0 _ rfl
      obtain ⟨b, off, spot⟩ := x
      have hsn : spot = none := by
        have q := ((hch 0).choose_spec (by omega)).2 0 _ rfl
        have e0 : (Addr.add ⟨b, off, spot⟩ (0 * 4 + 0)) = ⟨b, off, spot⟩ := by simp [Addr.add]
        rw [e0] at q
        simpa using World.cell?_spot q
      subst hsn
      have ea : ∀ k, (Addr.add ⟨b, off, none⟩ k) = ⟨b, off + k, none⟩ := fun k => by unfold Addr.add; split <;> simp_all
      refine ⟨b, off, rfl, ?_, fun j v hv => ?_⟩
      · rw [ea] at c0; exact World.block_lt_of_cell? _ _ c0
      · have := hcell j v hv
        rw [ea] at this
        rw [Nat.add_assoc]; exact this
    · obtain ⟨i, hi', rfl⟩ := List.mem_map.1 hs
      exact ((hch i).choose_spec (List.mem_range.1 hi')).1
end

end Go.Proofs.Ytgbnhngaeefmkaa
