/-
  What a law is told of a slice of integers that came in, and what follows from it.
-/
import Derived.Test.YtbefbodihfijbaaSane
import Derived.Test.YtbefbodihfijbaaCut
namespace Go.Proofs.Ytbefbodihfijbaa
set_option linter.unusedVariables false
open Go.ChangeShapes Go.WideShapes Go.ChangeAt Go.RowKit

/-- it is nil; or it leads to a row of 'cap' cells, the numbers 'zs' (the first 'len' are its elements, the rest its spare room), each fitting its kind. -/
def IsRow (k : IntKind) (w : World) (a : Option Addr) (len cap : Nat) (zs : List Int) : Prop :=
  (a = none ∧ len = 0 ∧ cap = 0 ∧ zs = []) ∨
  ∃ x, a = some x ∧ len ≤ cap ∧ cap ≤ maxLen ∧ zs.length = cap ∧ (∀ i, i < zs.length → w.cell? (x.add i) = some (.int k (zs.getD i 0))) ∧ ∀ n ∈ zs, (Lit.int k n).wf = true

theorem wfb {n : Int} (h : (Lit.int .i64 n).wf = true) : -9223372036854775808 ≤ n ∧ n ≤ 9223372036854775807 := bounds_i64 h

theorem IsRow.row {w : World} {a : Option Addr} {len cap : Nat} {zs : List Int} (h : IsRow .i64 w a len cap zs) :
    ∃ l : List Int, l.length = len ∧ len ≤ cap ∧ len ≤ 9223372036854775807 ∧ (a = none → cap = 0) ∧ Row w a l ∧ I64s l := by
  rcases h with ⟨rfl, rfl, rfl, rfl⟩ | ⟨x, rfl, h1, h2, h3, h4, h5⟩
  · exact ⟨[], rfl, Nat.le_refl _, by omega, fun _ => rfl, Row.nil _ _, i64s_of (by simp)⟩
  · refine ⟨zs.take len, by rw [List.length_take]; omega, h1, by unfold maxLen at h2; omega, (fun h => by cases h), ?_, i64s_of fun y hy => wfb (h5 y (List.mem_of_mem_take hy))⟩
    intro i hi
    rw [List.length_take] at hi
    obtain ⟨b, off, rfl, hc⟩ := ints_at h4 (by omega)
    have c := hc i (by omega)
    have hb := World.block_lt_of_cell? _ _ c
    refine ⟨b, off, rfl, hb, ?_⟩
    rw [c]
    simp only [List.getD_eq_getElem?_getD, List.getElem?_take_of_lt (show i < len by omega)]

end Go.Proofs.Ytbefbodihfijbaa
