import Derived.Test.YtgbnhngaeefmkaaOpnS
import Derived.Test.YtgbnhngaeefmkaaNetA
import Derived.OpenShut

/-! What a law is told of gates, and of arrays of integers, that came in. -/
namespace Go.Proofs.Ytgbnhngaeefmkaa
set_option linter.unusedVariables false
open Go.ChangeShapes Go.WideShapes Go.ChangeAt Go.RowKit

def encZ2 (p : Int × Int) : List Value := [.int .i64 p.1, .int .i64 p.2]
def encZ3 (p : Int × Int × Int) : List Value := [.int .i64 p.1, .int .i64 p.2.1, .int .i64 p.2.2]

/-- a slice of things of k cells -/
theorem row_in {α : Type} [Inhabited α] {W : World} {k : Nat} {enc : α → List Value} {ok : α → Prop} (hk : ∀ s, (enc s).length = k) (hk0 : 0 < k) {x : Addr} {len m : Nat} (hm : len ≤ m) (hi : ∀ i, i < m → ∃ (bs : Nat) (cs : List Value), W.cells? bs (x.add (i * k)) k = some cs ∧ ∃ s : α, cs = enc s ∧ ok s) :
    ∃ l : List α, l.length = len ∧ RowK k enc W (some x) l ∧ ∀ s ∈ l, ok s := by
  have hch : ∀ i, ∃ s : α, i < len → ok s ∧ ∀ j v, (enc s)[j]? = some v → W.cell? (x.add (i * k + j)) = some v := fun i => by
    by_cases hil : i < len
    · obtain ⟨bs, cs, h1, s, h2, h3⟩ := hi i (by omega)
      obtain ⟨_, hlen, hcell⟩ := World.cells?_some h1
      refine ⟨s, fun _ => ⟨h3, fun j v hv => ?_⟩⟩
      have hj : j < k := by have := (List.getElem?_eq_some_iff.1 hv).1; rw [hk] at this; exact this
      have e1 : x.add (i * k + j) = (x.add (i * k)).add j := by
        unfold Addr.add
        by_cases c1 : i * k = 0 <;> by_cases c2 : j = 0 <;> simp [c1, c2, Nat.add_assoc]
      rw [e1, hcell j hj, h2]; exact hv
    · exact ⟨default, fun h => absurd h hil⟩
  refine ⟨(List.range len).map fun i => (hch i).choose, by simp, fun i s hs => ?_, fun s hs => ?_⟩
  · have hil : i < len := by have := (List.getElem?_eq_some_iff.1 hs).1; simpa using this
    have es : s = (hch i).choose := by
      rw [List.getElem?_map, List.getElem?_range hil, Option.map_some] at hs
      exact (Option.some.inj hs).symm
    subst es
    obtain ⟨_, hcell⟩ := (hch i).choose_spec hil
    have hone : ∀ s : α, ∃ v, (enc s)[0]? = some v := fun s => ⟨_, List.getElem?_eq_getElem (by rw [hk]; exact hk0)⟩
    obtain ⟨v0, hv0⟩ := hone (hch i).choose
    have c0 := hcell 0 _ hv0
    obtain ⟨b, off, spot⟩ := x
    have hsn : spot = none := by
      obtain ⟨v1, hv1⟩ := hone (hch 0).choose
      have q := ((hch 0).choose_spec (by omega)).2 0 _ hv1
      have e0 : (Addr.add ⟨b, off, spot⟩ (0 * k + 0)) = ⟨b, off, spot⟩ := by simp [Addr.add]
      rw [e0] at q
      simpa using World.cell?_spot q
    subst hsn
    have ea : ∀ k, (Addr.add ⟨b, off, none⟩ k) = ⟨b, off + k, none⟩ := fun k => by unfold Addr.add; split <;> simp_all
    refine ⟨b, off, rfl, ?_, fun j v hv => ?_⟩
    · rw [ea] at c0; exact World.block_lt_of_cell? _ _ c0
    · have := hcell j v hv
      rw [ea] at this
      rw [Nat.add_assoc]; exact this
  · obtain ⟨i, hi', rfl⟩ := List.mem_map.1 hs
    exact ((hch i).choose_spec (List.mem_range.1 hi')).1

section
variable {H : Type} {enc : TypeId × Value → H} {W : World} {base : Nat} {sp : Nat → Bool} {held : Bool}

theorem two {cs : List Value} (h : cs.length = 2) : ∃ a b, cs = [a, b] := by
  match cs, h with
  | [a, b], _ => exact ⟨a, b, rfl⟩
theorem three {cs : List Value} (h : cs.length = 3) : ∃ a b c, cs = [a, b, c] := by
  match cs, h with
  | [a, b, c], _ => exact ⟨a, b, c, rfl⟩

set_option maxRecDepth 100000 in
theorem gate_in {fuel : Nat} {cs : List Value} {x : DataW H × List MemPlace} (h : DataW.trod enc Try.prog W base sp held fuel 104 cs = some x) : ∃ g : GateV, cs = encGate g ∧ GateOk W g := by
  obtain ⟨xs, n', _, _, hlen, hxs, hfld⟩ := DataW.trod_struct Try.underlying104 h
  have hc2 : Try.prog.cellsOf 104 = 2 := by kernel_rfl
  have ci : Try.prog.cellsOf 3 = 1 := by kernel_rfl
  have cl : Try.prog.cellsOf 32 = 1 := by kernel_rfl
  rw [hc2] at hlen
  obtain ⟨c0, c1, rfl⟩ := two hlen
  have x2 : xs.length = 2 := hxs
  have g0 : DataW.trod enc Try.prog W base sp held n' 32 ((List.drop 0 [c0, c1]).take (Try.prog.cellsOf 32)) = xs[0]? := hfld 0 _ rfl
  have g1 : DataW.trod enc Try.prog W base sp held n' 3 ((List.drop 1 [c0, c1]).take (Try.prog.cellsOf 3)) = xs[1]? := hfld 1 _ rfl
  rw [List.getElem?_eq_getElem (by omega)] at g0 g1
  rw [ci] at g1
  rw [cl] at g0
  obtain ⟨ao, ln, cap, zs, e0, q1, q2, q3, q4, _⟩ := ints_in Try.underlying32 g0
  obtain ⟨z1, e1, _, w1⟩ := DataW.trod_int Try.underlying3 g1
  simp at e0 e1
  subst e0; subst e1
  exact ⟨⟨ao, ln, cap, zs, z1⟩, rfl, q1, q2, q3, i64_wf w1, q4⟩

instance : Inhabited GateV := ⟨⟨none, 0, 0, [], 0⟩⟩

theorem gates_in {a : Option Addr} {len cap : Nat} {d : DataW H} {p : List MemPlace} (h : DataW.Trod enc Try.prog W base sp held 51 (.slice a len cap) d p) :
    ∃ gs : List GateV, GatesK W gs a len := by
  obtain ⟨fuel, h⟩ := h
  rcases Go.Deep.open_slice Try.underlying51 h with ⟨hcs, _⟩ | ⟨x, l, c, m, n, D, Pl, hcs, _, hl, hm, hmm, _, hi⟩
  · simp [Value.cells] at hcs
    obtain ⟨rfl, rfl, rfl⟩ := hcs
    exact ⟨[], rfl, by omega, RowK.nil _ _ _ _, fun s hs => by cases hs⟩
  · simp [Value.cells] at hcs
    obtain ⟨rfl, rfl, rfl⟩ := hcs
    have hc2 : Try.prog.cellsOf 104 = 2 := by kernel_rfl
    obtain ⟨gs, h1, h2, h3⟩ := row_in (enc := encGate) (ok := GateOk W) (k := 2) (len := len) (fun _ => rfl) (by omega) (show len ≤ m by rw [hmm]; split <;> omega) (fun i him => by
      obtain ⟨cs, h1, h2⟩ := hi i him
      rw [hc2] at h1
      exact ⟨_, cs, h1, gate_in h2⟩)
    exact ⟨gs, h1, by unfold maxLen at hm; omega, h2, h3⟩

set_option maxRecDepth 100000 in
theorem pair_in {fuel : Nat} {cs : List Value} {x : DataW H × List MemPlace} (h : DataW.trod enc Try.prog W base sp held fuel 68 cs = some x) : ∃ s : Int × Int, cs = encZ2 s ∧ I64 s.1 ∧ I64 s.2 := by
  obtain ⟨xs, n', _, _, hlen, hxs, hfld⟩ := DataW.trod_array Try.underlying68 h
  have hc2 : Try.prog.cellsOf 68 = 2 := by kernel_rfl
  have ci : Try.prog.cellsOf 3 = 1 := by kernel_rfl
  rw [hc2] at hlen
  obtain ⟨c0, c1, rfl⟩ := two hlen
  have g0 := hfld 0 (by omega)
  have g1 := hfld 1 (by omega)
  rw [ci, List.getElem?_eq_getElem (by omega)] at g0 g1
  obtain ⟨z0, e0, _, w0⟩ := DataW.trod_int Try.underlying3 g0
  obtain ⟨z1, e1, _, w1⟩ := DataW.trod_int Try.underlying3 g1
  simp at e0 e1
  subst e0; subst e1
  exact ⟨(z0, z1), rfl, i64_wf w0, i64_wf w1⟩

theorem pairs_in {a : Option Addr} {len cap : Nat} {d : DataW H} {p : List MemPlace} (h : DataW.Trod enc Try.prog W base sp held 67 (.slice a len cap) d p) :
    ∃ l : List (Int × Int), l.length = len ∧ len ≤ 9223372036854775807 ∧ RowK 2 encZ2 W a l ∧ ∀ s ∈ l, I64 s.1 ∧ I64 s.2 := by
  obtain ⟨fuel, h⟩ := h
  rcases Go.Deep.open_slice Try.underlying67 h with ⟨hcs, _⟩ | ⟨x, l, c, m, n, D, Pl, hcs, _, hl, hm, hmm, _, hi⟩
  · simp [Value.cells] at hcs
    obtain ⟨rfl, rfl, rfl⟩ := hcs
    exact ⟨[], rfl, by omega, RowK.nil _ _ _ _, fun s hs => by cases hs⟩
  · simp [Value.cells] at hcs
    obtain ⟨rfl, rfl, rfl⟩ := hcs
    have hc2 : Try.prog.cellsOf 68 = 2 := by kernel_rfl
    obtain ⟨gs, h1, h2, h3⟩ := row_in (enc := encZ2) (ok := fun s => I64 s.1 ∧ I64 s.2) (k := 2) (len := len) (fun _ => rfl) (by omega) (show len ≤ m by rw [hmm]; split <;> omega) (fun i him => by
      obtain ⟨cs, h1, h2⟩ := hi i him
      rw [hc2] at h1
      obtain ⟨s, q1, q2⟩ := pair_in h2
      exact ⟨_, cs, h1, s, q1, q2⟩)
    exact ⟨gs, h1, by unfold maxLen at hm; omega, h2, h3⟩

set_option maxRecDepth 100000 in
theorem triple_in {fuel : Nat} {cs : List Value} {x : DataW H × List MemPlace} (h : DataW.trod enc Try.prog W base sp held fuel 57 cs = some x) : ∃ s : Int × Int × Int, cs = encZ3 s ∧ I64 s.1 ∧ I64 s.2.1 ∧ I64 s.2.2 := by
  obtain ⟨xs, n', _, _, hlen, hxs, hfld⟩ := DataW.trod_array Try.underlying57 h
  have hc3 : Try.prog.cellsOf 57 = 3 := by kernel_rfl
  have ci : Try.prog.cellsOf 3 = 1 := by kernel_rfl
  rw [hc3] at hlen
  obtain ⟨c0, c1, c2, rfl⟩ := three hlen
  have g0 := hfld 0 (by omega)
  have g1 := hfld 1 (by omega)
  have g2 := hfld 2 (by omega)
  rw [ci, List.getElem?_eq_getElem (by omega)] at g0 g1 g2
  obtain ⟨z0, e0, _, w0⟩ := DataW.trod_int Try.underlying3 g0
  obtain ⟨z1, e1, _, w1⟩ := DataW.trod_int Try.underlying3 g1
  obtain ⟨z2, e2, _, w2⟩ := DataW.trod_int Try.underlying3 g2
  simp at e0 e1 e2
  subst e0; subst e1; subst e2
  exact ⟨(z0, z1, z2), rfl, i64_wf w0, i64_wf w1, i64_wf w2⟩

theorem triples_in {a : Option Addr} {len cap : Nat} {d : DataW H} {p : List MemPlace} (h : DataW.Trod enc Try.prog W base sp held 52 (.slice a len cap) d p) :
    ∃ l : List (Int × Int × Int), l.length = len ∧ len ≤ 9223372036854775807 ∧ RowK 3 encZ3 W a l ∧ ∀ s ∈ l, I64 s.1 ∧ I64 s.2.1 ∧ I64 s.2.2 := by
  obtain ⟨fuel, h⟩ := h
  rcases Go.Deep.open_slice Try.underlying52 h with ⟨hcs, _⟩ | ⟨x, l, c, m, n, D, Pl, hcs, _, hl, hm, hmm, _, hi⟩
  · simp [Value.cells] at hcs
    obtain ⟨rfl, rfl, rfl⟩ := hcs
    exact ⟨[], rfl, by omega, RowK.nil _ _ _ _, fun s hs => by cases hs⟩
  · simp [Value.cells] at hcs
    obtain ⟨rfl, rfl, rfl⟩ := hcs
    have hc3 : Try.prog.cellsOf 57 = 3 := by kernel_rfl
    obtain ⟨gs, h1, h2, h3⟩ := row_in (enc := encZ3) (ok := fun s => I64 s.1 ∧ I64 s.2.1 ∧ I64 s.2.2) (k := 3) (len := len) (fun _ => rfl) (by omega) (show len ≤ m by rw [hmm]; split <;> omega) (fun i him => by
      obtain ⟨cs, h1, h2⟩ := hi i him
      rw [hc3] at h1
      obtain ⟨s, q1, q2⟩ := triple_in h2
      exact ⟨_, cs, h1, s, q1, q2⟩)
    exact ⟨gs, h1, by unfold maxLen at hm; omega, h2, h3⟩
end

end Go.Proofs.Ytgbnhngaeefmkaa
