/-
  No cell of these rows narrows 'for every input' (looked for: loops, veiled, ifaces, maps, wideKeys, modest, calm, conditions, laid).
  DERIVED. THE GIVEN ROWS OF THIS SEAT. 5 by the template 'for every input the law returns true; each argument reads behind the call as it read before'; 0 by the template 'total and deterministic' (their statements: YtgbnhngaeefmkaaTotals.lean).
  GIVEN WITH THE SEED: the statements are not yours to turn. If you find one false, say at which input.
  Laid BY PROGRAM, IN A SANDBOX (cutbox-rows.mjs): the forced cells as the released guide's own fill.sh prints them over the translation b1f7ff22e38f5aa2… (all of the seat's roots in one cut). By AI agents, Wed Nov 11 2026. No macro, syntax, notation, axiom, sorry.
-/
import Derived.Test.YtgbnhngaeefmkaaChecked
import GoSem.Claim
import GoSem.ClaimJoined
import GoSem.ClaimMapViews
import Derived.JoinedTies
import Derived.KernelRfl
namespace Go.Proofs.Ytgbnhngaeefmkaa
/- THE CELL 'sum', in the pinned program and in every row, IS THE sha256 OF THE DUMP (.gsa) THAT YtgbnhngaeefmkaaProg.lean LOADS. Nothing in Lean hashes anything: it is a label: what it is worth is what the hold of that sum in a sandbox is worth. -/
noncomputable def Try.pinned : Pinned := { name := "ytgbnhngaeefmkaa", sum := "b1f7ff22e38f5aa25b0b823f450893d808e889287c92b7ed792dff9556ec350b", checked := Try.checked }
namespace Rows
def none {H : Type} : Left H := { results := [], args := [] }

/-- 'royaltylaw20.DataflowMatchesReference': WHATEVER THE INPUT: true; the input reads as it did. -/
def dataflowMatchesReferenceSpec : ChangeSpec := { name := "dataflowMatchesReference", fn := fun _ => fun
  | [d] => { results := [.lit (.bool true)], args := [d] }
  | _ => none }
def dataflowMatchesReferenceRow : OpenClaim := { program := "ytgbnhngaeefmkaa", sum := "b1f7ff22e38f5aa25b0b823f450893d808e889287c92b7ed792dff9556ec350b", func := "royalty/royaltylaw20.DataflowMatchesReference", spec := "dataflowMatchesReference", unfollowed := true, recurses := true, apart := false }
def DataflowMatchesReferenceSaid : Prop := dataflowMatchesReferenceRow.holds Try.pinned (OpenSpec.ofChange dataflowMatchesReferenceSpec)

/-- ITS FALSE NEIGHBOUR: 'it returns false'. Refute it at one input. -/
def dataflowMatchesReferenceWrong : ChangeSpec := { name := "dataflowMatchesReference", fn := fun _ => fun
  | [d] => { results := [.lit (.bool false)], args := [d] }
  | _ => none }
def DataflowMatchesReferenceWrongFalsely : Prop := dataflowMatchesReferenceRow.holds Try.pinned (OpenSpec.ofChange dataflowMatchesReferenceWrong)

/-- 'royaltylaw20.DataflowFromNothing': WHATEVER THE INPUT: true; the input reads as it did. -/
def dataflowFromNothingSpec : ChangeSpec := { name := "dataflowFromNothing", fn := fun _ => fun
  | [d1, d2] => { results := [.lit (.bool true)], args := [d1, d2] }
  | _ => none }
def dataflowFromNothingRow : OpenClaim := { program := "ytgbnhngaeefmkaa", sum := "b1f7ff22e38f5aa25b0b823f450893d808e889287c92b7ed792dff9556ec350b", func := "royalty/royaltylaw20.DataflowFromNothing", spec := "dataflowFromNothing", unfollowed := true, recurses := true, apart := false }
def DataflowFromNothingSaid : Prop := dataflowFromNothingRow.holds Try.pinned (OpenSpec.ofChange dataflowFromNothingSpec)

/-- ITS FALSE NEIGHBOUR: 'it returns false'. Refute it at one input. -/
def dataflowFromNothingWrong : ChangeSpec := { name := "dataflowFromNothing", fn := fun _ => fun
  | [d1, d2] => { results := [.lit (.bool false)], args := [d1, d2] }
  | _ => none }
def DataflowFromNothingWrongFalsely : Prop := dataflowFromNothingRow.holds Try.pinned (OpenSpec.ofChange dataflowFromNothingWrong)

/-- 'royaltylaw20.DataflowLeast': WHATEVER THE INPUT: true; the input reads as it did. -/
def dataflowLeastSpec : ChangeSpec := { name := "dataflowLeast", fn := fun _ => fun
  | [d1, d2] => { results := [.lit (.bool true)], args := [d1, d2] }
  | _ => none }
def dataflowLeastRow : OpenClaim := { program := "ytgbnhngaeefmkaa", sum := "b1f7ff22e38f5aa25b0b823f450893d808e889287c92b7ed792dff9556ec350b", func := "royalty/royaltylaw20.DataflowLeast", spec := "dataflowLeast", unfollowed := true, recurses := true, apart := false }
def DataflowLeastSaid : Prop := dataflowLeastRow.holds Try.pinned (OpenSpec.ofChange dataflowLeastSpec)

/-- ITS FALSE NEIGHBOUR: 'it returns false'. Refute it at one input. -/
def dataflowLeastWrong : ChangeSpec := { name := "dataflowLeast", fn := fun _ => fun
  | [d1, d2] => { results := [.lit (.bool false)], args := [d1, d2] }
  | _ => none }
def DataflowLeastWrongFalsely : Prop := dataflowLeastRow.holds Try.pinned (OpenSpec.ofChange dataflowLeastWrong)

/-- 'royaltylaw20.DataflowOrder': WHATEVER THE INPUT: true; the input reads as it did. -/
def dataflowOrderSpec : ChangeSpec := { name := "dataflowOrder", fn := fun _ => fun
  | [d1, d2] => { results := [.lit (.bool true)], args := [d1, d2] }
  | _ => none }
def dataflowOrderRow : OpenClaim := { program := "ytgbnhngaeefmkaa", sum := "b1f7ff22e38f5aa25b0b823f450893d808e889287c92b7ed792dff9556ec350b", func := "royalty/royaltylaw20.DataflowOrder", spec := "dataflowOrder", unfollowed := true, recurses := true, apart := false }
def DataflowOrderSaid : Prop := dataflowOrderRow.holds Try.pinned (OpenSpec.ofChange dataflowOrderSpec)

/-- ITS FALSE NEIGHBOUR: 'it returns false'. Refute it at one input. -/
def dataflowOrderWrong : ChangeSpec := { name := "dataflowOrder", fn := fun _ => fun
  | [d1, d2] => { results := [.lit (.bool false)], args := [d1, d2] }
  | _ => none }
def DataflowOrderWrongFalsely : Prop := dataflowOrderRow.holds Try.pinned (OpenSpec.ofChange dataflowOrderWrong)

/-- 'royaltylaw20.DataflowRefuses': WHATEVER THE INPUT: true; the input reads as it did. -/
def dataflowRefusesSpec : ChangeSpec := { name := "dataflowRefuses", fn := fun _ => fun
  | [d1, d2] => { results := [.lit (.bool true)], args := [d1, d2] }
  | _ => none }
def dataflowRefusesRow : OpenClaim := { program := "ytgbnhngaeefmkaa", sum := "b1f7ff22e38f5aa25b0b823f450893d808e889287c92b7ed792dff9556ec350b", func := "royalty/royaltylaw20.DataflowRefuses", spec := "dataflowRefuses", unfollowed := true, recurses := true, apart := false }
def DataflowRefusesSaid : Prop := dataflowRefusesRow.holds Try.pinned (OpenSpec.ofChange dataflowRefusesSpec)

/-- ITS FALSE NEIGHBOUR: 'it returns false'. Refute it at one input. -/
def dataflowRefusesWrong : ChangeSpec := { name := "dataflowRefuses", fn := fun _ => fun
  | [d1, d2] => { results := [.lit (.bool false)], args := [d1, d2] }
  | _ => none }
def DataflowRefusesWrongFalsely : Prop := dataflowRefusesRow.holds Try.pinned (OpenSpec.ofChange dataflowRefusesWrong)

/- THE SECOND FORM. 'bulk': how many values and letters a reading holds, each counted each time it is reached (what is shared counts as often as it is met; a slice's spare places count too). A statement '..UptoSaid' is the law's where the arguments, and the package variables that the reading takes, are together of bulk at most 1048576: NARROWER than '..Said'. Prove '..Said' where nothing that the law and all that it calls make is longer than what came in: it says more and counts as full. Else prove '..UptoSaid'. A law counts once. -/
mutual
def uptoBulk {H : Type} : DataW H → Nat
  | .lit (.string bytes) => bytes.length + 1
  | .lit _ => 1
  | .nil => 1
  | .ptr d => uptoBulk d + 1
  | .slice elems spare => uptoBulkAll elems + uptoBulkAll spare + 1
  | .agg parts => uptoBulkAll parts + 1
  | .iface _ d => uptoBulk d + 1
  | .map entries => uptoBulkEntries entries + 1
  | .held _ => 1
def uptoBulkAll {H : Type} : List (DataW H) → Nat
  | [] => 0
  | d :: r => uptoBulk d + uptoBulkAll r
def uptoBulkEntries {H : Type} : List (Lit × DataW H) → Nat
  | [] => 0
  | x :: r => uptoBulkEntry x + uptoBulkEntries r
def uptoBulkEntry {H : Type} : Lit × DataW H → Nat
  | (.string bytes, d) => bytes.length + uptoBulk d + 1
  | (_, d) => uptoBulk d + 1
 end
def uptoSmall : (H : Type) → List (DataW H) → Bool := fun _ ds => decide (uptoBulkAll ds ≤ 1048576)
def OpenSpec.upto (s : _root_.Go.ChangeSpec) : _root_.Go.OpenSpec := { _root_.Go.OpenSpec.ofChange s with cond := some uptoSmall }

/-- 'royaltylaw20.DataflowMatchesReference', WHERE WHAT IT READS IS OF BULK AT MOST 1048576: true; the input reads as it did. -/
def dataflowMatchesReferenceUptoRow : OpenClaim := { program := "ytgbnhngaeefmkaa", sum := "b1f7ff22e38f5aa25b0b823f450893d808e889287c92b7ed792dff9556ec350b", func := "royalty/royaltylaw20.DataflowMatchesReference", spec := "dataflowMatchesReference", unfollowed := true, recurses := true, apart := false, narrowed := true }
def DataflowMatchesReferenceUptoSaid : Prop := dataflowMatchesReferenceUptoRow.holds Try.pinned (OpenSpec.upto dataflowMatchesReferenceSpec)

/-- 'royaltylaw20.DataflowFromNothing', WHERE WHAT IT READS IS OF BULK AT MOST 1048576: true; the input reads as it did. -/
def dataflowFromNothingUptoRow : OpenClaim := { program := "ytgbnhngaeefmkaa", sum := "b1f7ff22e38f5aa25b0b823f450893d808e889287c92b7ed792dff9556ec350b", func := "royalty/royaltylaw20.DataflowFromNothing", spec := "dataflowFromNothing", unfollowed := true, recurses := true, apart := false, narrowed := true }
def DataflowFromNothingUptoSaid : Prop := dataflowFromNothingUptoRow.holds Try.pinned (OpenSpec.upto dataflowFromNothingSpec)

/-- 'royaltylaw20.DataflowLeast', WHERE WHAT IT READS IS OF BULK AT MOST 1048576: true; the input reads as it did. -/
def dataflowLeastUptoRow : OpenClaim := { program := "ytgbnhngaeefmkaa", sum := "b1f7ff22e38f5aa25b0b823f450893d808e889287c92b7ed792dff9556ec350b", func := "royalty/royaltylaw20.DataflowLeast", spec := "dataflowLeast", unfollowed := true, recurses := true, apart := false, narrowed := true }
def DataflowLeastUptoSaid : Prop := dataflowLeastUptoRow.holds Try.pinned (OpenSpec.upto dataflowLeastSpec)

/-- 'royaltylaw20.DataflowOrder', WHERE WHAT IT READS IS OF BULK AT MOST 1048576: true; the input reads as it did. -/
def dataflowOrderUptoRow : OpenClaim := { program := "ytgbnhngaeefmkaa", sum := "b1f7ff22e38f5aa25b0b823f450893d808e889287c92b7ed792dff9556ec350b", func := "royalty/royaltylaw20.DataflowOrder", spec := "dataflowOrder", unfollowed := true, recurses := true, apart := false, narrowed := true }
def DataflowOrderUptoSaid : Prop := dataflowOrderUptoRow.holds Try.pinned (OpenSpec.upto dataflowOrderSpec)

/-- 'royaltylaw20.DataflowRefuses', WHERE WHAT IT READS IS OF BULK AT MOST 1048576: true; the input reads as it did. -/
def dataflowRefusesUptoRow : OpenClaim := { program := "ytgbnhngaeefmkaa", sum := "b1f7ff22e38f5aa25b0b823f450893d808e889287c92b7ed792dff9556ec350b", func := "royalty/royaltylaw20.DataflowRefuses", spec := "dataflowRefuses", unfollowed := true, recurses := true, apart := false, narrowed := true }
def DataflowRefusesUptoSaid : Prop := dataflowRefusesUptoRow.holds Try.pinned (OpenSpec.upto dataflowRefusesSpec)

end Rows
end Go.Proofs.Ytgbnhngaeefmkaa
