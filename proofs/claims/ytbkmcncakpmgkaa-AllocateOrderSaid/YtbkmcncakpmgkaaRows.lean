/-
  No cell of these rows narrows 'for every input' (looked for: loops, veiled, ifaces, maps, wideKeys, modest, calm, conditions, laid).
  DERIVED. THE GIVEN ROWS OF THIS SEAT. 6 by the template 'for every input the law returns true; each argument reads behind the call as it read before'; 0 by the template 'total and deterministic' (their statements: YtbkmcncakpmgkaaTotals.lean).
  GIVEN WITH THE SEED: the statements are not yours to turn. If you find one false, say at which input.
  Laid BY PROGRAM, IN A SANDBOX (cutbox-rows.mjs): the forced cells as the released guide's own fill.sh prints them over the translation 244ad24162c06854… (all of the seat's roots in one cut). By AI agents, Wed Nov 11 2026. No macro, syntax, notation, axiom, sorry.
-/
import Derived.Test.YtbkmcncakpmgkaaChecked
import GoSem.Claim
import GoSem.ClaimJoined
import GoSem.ClaimMapViews
import Derived.JoinedTies
import Derived.KernelRfl
namespace Go.Proofs.Ytbkmcncakpmgkaa
/- THE CELL 'sum', in the pinned program and in every row, IS THE sha256 OF THE DUMP (.gsa) THAT YtbkmcncakpmgkaaProg.lean LOADS. Nothing in Lean hashes anything: it is a label: what it is worth is what the hold of that sum in a sandbox is worth. -/
noncomputable def Try.pinned : Pinned := { name := "ytbkmcncakpmgkaa", sum := "244ad24162c068549e422a68d6fc7a56d4af3708a31b6f4b921d0e7e3fc137e7", checked := Try.checked }
namespace Rows
def none {H : Type} : Left H := { results := [], args := [] }

/-- 'royaltylaw13.AllocateMatchesReference': WHATEVER THE INPUT: true; the input reads as it did. -/
def allocateMatchesReferenceSpec : ChangeSpec := { name := "allocateMatchesReference", fn := fun _ => fun
  | [d1, d2, d3, d4] => { results := [.lit (.bool true)], args := [d1, d2, d3, d4] }
  | _ => none }
def allocateMatchesReferenceRow : OpenClaim := { program := "ytbkmcncakpmgkaa", sum := "244ad24162c068549e422a68d6fc7a56d4af3708a31b6f4b921d0e7e3fc137e7", func := "royalty/royaltylaw13.AllocateMatchesReference", spec := "allocateMatchesReference", unfollowed := true, recurses := true, named := ["math/bits.divideError", "math/bits.overflowError"], plainKeys := false, apart := false }
def AllocateMatchesReferenceSaid : Prop := allocateMatchesReferenceRow.holds Try.pinned (OpenSpec.ofChange allocateMatchesReferenceSpec)

/-- ITS FALSE NEIGHBOUR: 'it returns false'. Refute it at one input. -/
def allocateMatchesReferenceWrong : ChangeSpec := { name := "allocateMatchesReference", fn := fun _ => fun
  | [d1, d2, d3, d4] => { results := [.lit (.bool false)], args := [d1, d2, d3, d4] }
  | _ => none }
def AllocateMatchesReferenceWrongFalsely : Prop := allocateMatchesReferenceRow.holds Try.pinned (OpenSpec.ofChange allocateMatchesReferenceWrong)

/-- 'royaltylaw13.AllocateUsagesMatchReference': WHATEVER THE INPUT: true; the input reads as it did. -/
def allocateUsagesMatchReferenceSpec : ChangeSpec := { name := "allocateUsagesMatchReference", fn := fun _ => fun
  | [d] => { results := [.lit (.bool true)], args := [d] }
  | _ => none }
def allocateUsagesMatchReferenceRow : OpenClaim := { program := "ytbkmcncakpmgkaa", sum := "244ad24162c068549e422a68d6fc7a56d4af3708a31b6f4b921d0e7e3fc137e7", func := "royalty/royaltylaw13.AllocateUsagesMatchReference", spec := "allocateUsagesMatchReference", unfollowed := true, recurses := true, named := ["math/bits.divideError", "math/bits.overflowError"], plainKeys := false, apart := false }
def AllocateUsagesMatchReferenceSaid : Prop := allocateUsagesMatchReferenceRow.holds Try.pinned (OpenSpec.ofChange allocateUsagesMatchReferenceSpec)

/-- ITS FALSE NEIGHBOUR: 'it returns false'. Refute it at one input. -/
def allocateUsagesMatchReferenceWrong : ChangeSpec := { name := "allocateUsagesMatchReference", fn := fun _ => fun
  | [d] => { results := [.lit (.bool false)], args := [d] }
  | _ => none }
def AllocateUsagesMatchReferenceWrongFalsely : Prop := allocateUsagesMatchReferenceRow.holds Try.pinned (OpenSpec.ofChange allocateUsagesMatchReferenceWrong)

/-- 'royaltylaw13.AllocateNothingLost': WHATEVER THE INPUT: true; the input reads as it did. -/
def allocateNothingLostSpec : ChangeSpec := { name := "allocateNothingLost", fn := fun _ => fun
  | [d1, d2, d3, d4] => { results := [.lit (.bool true)], args := [d1, d2, d3, d4] }
  | _ => none }
def allocateNothingLostRow : OpenClaim := { program := "ytbkmcncakpmgkaa", sum := "244ad24162c068549e422a68d6fc7a56d4af3708a31b6f4b921d0e7e3fc137e7", func := "royalty/royaltylaw13.AllocateNothingLost", spec := "allocateNothingLost", unfollowed := true, recurses := true, named := ["math/bits.divideError", "math/bits.overflowError"], plainKeys := false, apart := false }
def AllocateNothingLostSaid : Prop := allocateNothingLostRow.holds Try.pinned (OpenSpec.ofChange allocateNothingLostSpec)

/-- ITS FALSE NEIGHBOUR: 'it returns false'. Refute it at one input. -/
def allocateNothingLostWrong : ChangeSpec := { name := "allocateNothingLost", fn := fun _ => fun
  | [d1, d2, d3, d4] => { results := [.lit (.bool false)], args := [d1, d2, d3, d4] }
  | _ => none }
def AllocateNothingLostWrongFalsely : Prop := allocateNothingLostRow.holds Try.pinned (OpenSpec.ofChange allocateNothingLostWrong)

/-- 'royaltylaw13.AllocateAlone': WHATEVER THE INPUT: true; the input reads as it did. -/
def allocateAloneSpec : ChangeSpec := { name := "allocateAlone", fn := fun _ => fun
  | [d1, d2, d3] => { results := [.lit (.bool true)], args := [d1, d2, d3] }
  | _ => none }
def allocateAloneRow : OpenClaim := { program := "ytbkmcncakpmgkaa", sum := "244ad24162c068549e422a68d6fc7a56d4af3708a31b6f4b921d0e7e3fc137e7", func := "royalty/royaltylaw13.AllocateAlone", spec := "allocateAlone", unfollowed := true, recurses := true, named := ["math/bits.divideError", "math/bits.overflowError"], plainKeys := false, apart := false }
def AllocateAloneSaid : Prop := allocateAloneRow.holds Try.pinned (OpenSpec.ofChange allocateAloneSpec)

/-- ITS FALSE NEIGHBOUR: 'it returns false'. Refute it at one input. -/
def allocateAloneWrong : ChangeSpec := { name := "allocateAlone", fn := fun _ => fun
  | [d1, d2, d3] => { results := [.lit (.bool false)], args := [d1, d2, d3] }
  | _ => none }
def AllocateAloneWrongFalsely : Prop := allocateAloneRow.holds Try.pinned (OpenSpec.ofChange allocateAloneWrong)

/-- 'royaltylaw13.AllocateOrder': WHATEVER THE INPUT: true; the input reads as it did. -/
def allocateOrderSpec : ChangeSpec := { name := "allocateOrder", fn := fun _ => fun
  | [d1, d2, d3, d4, d5] => { results := [.lit (.bool true)], args := [d1, d2, d3, d4, d5] }
  | _ => none }
def allocateOrderRow : OpenClaim := { program := "ytbkmcncakpmgkaa", sum := "244ad24162c068549e422a68d6fc7a56d4af3708a31b6f4b921d0e7e3fc137e7", func := "royalty/royaltylaw13.AllocateOrder", spec := "allocateOrder", unfollowed := true, recurses := true, named := ["math/bits.divideError", "math/bits.overflowError"], plainKeys := false, apart := false }
def AllocateOrderSaid : Prop := allocateOrderRow.holds Try.pinned (OpenSpec.ofChange allocateOrderSpec)

/-- ITS FALSE NEIGHBOUR: 'it returns false'. Refute it at one input. -/
def allocateOrderWrong : ChangeSpec := { name := "allocateOrder", fn := fun _ => fun
  | [d1, d2, d3, d4, d5] => { results := [.lit (.bool false)], args := [d1, d2, d3, d4, d5] }
  | _ => none }
def AllocateOrderWrongFalsely : Prop := allocateOrderRow.holds Try.pinned (OpenSpec.ofChange allocateOrderWrong)

/-- 'royaltylaw13.AllocateFair': WHATEVER THE INPUT: true; the input reads as it did. -/
def allocateFairSpec : ChangeSpec := { name := "allocateFair", fn := fun _ => fun
  | [d1, d2, d3, d4] => { results := [.lit (.bool true)], args := [d1, d2, d3, d4] }
  | _ => none }
def allocateFairRow : OpenClaim := { program := "ytbkmcncakpmgkaa", sum := "244ad24162c068549e422a68d6fc7a56d4af3708a31b6f4b921d0e7e3fc137e7", func := "royalty/royaltylaw13.AllocateFair", spec := "allocateFair", unfollowed := true, recurses := true, named := ["math/bits.divideError", "math/bits.overflowError"], plainKeys := false, apart := false }
def AllocateFairSaid : Prop := allocateFairRow.holds Try.pinned (OpenSpec.ofChange allocateFairSpec)

/-- ITS FALSE NEIGHBOUR: 'it returns false'. Refute it at one input. -/
def allocateFairWrong : ChangeSpec := { name := "allocateFair", fn := fun _ => fun
  | [d1, d2, d3, d4] => { results := [.lit (.bool false)], args := [d1, d2, d3, d4] }
  | _ => none }
def AllocateFairWrongFalsely : Prop := allocateFairRow.holds Try.pinned (OpenSpec.ofChange allocateFairWrong)

/- THE SECOND FORM. 'bulk': how many values and letters a reading holds, each counted each time it is reached (what is shared counts as often as it is met; a slice's spare places count too). A statement '..UptoSaid' is the law's where the arguments, and the package variables that the reading takes, are together of bulk at most 1048576: NARROWER than '..Said'. Prove '..Said' where nothing that the law and all that it calls make is longer than what came in: it says more and counts as full. Else prove '..UptoSaid'. A law counts once. -/
mutual
def uptoBulk {H : Type} : DataW H → Nat
  | .lit (.string bytes) => bytes.length + 1
  | .lit _ => 1
  | .nil => 1
  | .ptr d => uptoBulk d + 1
  | .slice elems spare => uptoBulkAll elems + uptoBulkAll spare + 1
  | .agg parts => uptoBulkAll parts + 1
  | .iface _ d => uptoBulk d + 1
  | .map entries => uptoBulkEntries entries + 1
  | .held _ => 1
def uptoBulkAll {H : Type} : List (DataW H) → Nat
  | [] => 0
  | d :: r => uptoBulk d + uptoBulkAll r
def uptoBulkEntries {H : Type} : List (Lit × DataW H) → Nat
  | [] => 0
  | x :: r => uptoBulkEntry x + uptoBulkEntries r
def uptoBulkEntry {H : Type} : Lit × DataW H → Nat
  | (.string bytes, d) => bytes.length + uptoBulk d + 1
  | (_, d) => uptoBulk d + 1
 end
def uptoSmall : (H : Type) → List (DataW H) → Bool := fun _ ds => decide (uptoBulkAll ds ≤ 1048576)
def OpenSpec.upto (s : _root_.Go.ChangeSpec) : _root_.Go.OpenSpec := { _root_.Go.OpenSpec.ofChange s with cond := some uptoSmall }

/-- 'royaltylaw13.AllocateMatchesReference', WHERE WHAT IT READS IS OF BULK AT MOST 1048576: true; the input reads as it did. -/
def allocateMatchesReferenceUptoRow : OpenClaim := { program := "ytbkmcncakpmgkaa", sum := "244ad24162c068549e422a68d6fc7a56d4af3708a31b6f4b921d0e7e3fc137e7", func := "royalty/royaltylaw13.AllocateMatchesReference", spec := "allocateMatchesReference", unfollowed := true, recurses := true, named := ["math/bits.divideError", "math/bits.overflowError"], plainKeys := false, apart := false, narrowed := true }
def AllocateMatchesReferenceUptoSaid : Prop := allocateMatchesReferenceUptoRow.holds Try.pinned (OpenSpec.upto allocateMatchesReferenceSpec)

/-- 'royaltylaw13.AllocateUsagesMatchReference', WHERE WHAT IT READS IS OF BULK AT MOST 1048576: true; the input reads as it did. -/
def allocateUsagesMatchReferenceUptoRow : OpenClaim := { program := "ytbkmcncakpmgkaa", sum := "244ad24162c068549e422a68d6fc7a56d4af3708a31b6f4b921d0e7e3fc137e7", func := "royalty/royaltylaw13.AllocateUsagesMatchReference", spec := "allocateUsagesMatchReference", unfollowed := true, recurses := true, named := ["math/bits.divideError", "math/bits.overflowError"], plainKeys := false, apart := false, narrowed := true }
def AllocateUsagesMatchReferenceUptoSaid : Prop := allocateUsagesMatchReferenceUptoRow.holds Try.pinned (OpenSpec.upto allocateUsagesMatchReferenceSpec)

/-- 'royaltylaw13.AllocateNothingLost', WHERE WHAT IT READS IS OF BULK AT MOST 1048576: true; the input reads as it did. -/
def allocateNothingLostUptoRow : OpenClaim := { program := "ytbkmcncakpmgkaa", sum := "244ad24162c068549e422a68d6fc7a56d4af3708a31b6f4b921d0e7e3fc137e7", func := "royalty/royaltylaw13.AllocateNothingLost", spec := "allocateNothingLost", unfollowed := true, recurses := true, named := ["math/bits.divideError", "math/bits.overflowError"], plainKeys := false, apart := false, narrowed := true }
def AllocateNothingLostUptoSaid : Prop := allocateNothingLostUptoRow.holds Try.pinned (OpenSpec.upto allocateNothingLostSpec)

/-- 'royaltylaw13.AllocateAlone', WHERE WHAT IT READS IS OF BULK AT MOST 1048576: true; the input reads as it did. -/
def allocateAloneUptoRow : OpenClaim := { program := "ytbkmcncakpmgkaa", sum := "244ad24162c068549e422a68d6fc7a56d4af3708a31b6f4b921d0e7e3fc137e7", func := "royalty/royaltylaw13.AllocateAlone", spec := "allocateAlone", unfollowed := true, recurses := true, named := ["math/bits.divideError", "math/bits.overflowError"], plainKeys := false, apart := false, narrowed := true }
def AllocateAloneUptoSaid : Prop := allocateAloneUptoRow.holds Try.pinned (OpenSpec.upto allocateAloneSpec)

/-- 'royaltylaw13.AllocateOrder', WHERE WHAT IT READS IS OF BULK AT MOST 1048576: true; the input reads as it did. -/
def allocateOrderUptoRow : OpenClaim := { program := "ytbkmcncakpmgkaa", sum := "244ad24162c068549e422a68d6fc7a56d4af3708a31b6f4b921d0e7e3fc137e7", func := "royalty/royaltylaw13.AllocateOrder", spec := "allocateOrder", unfollowed := true, recurses := true, named := ["math/bits.divideError", "math/bits.overflowError"], plainKeys := false, apart := false, narrowed := true }
def AllocateOrderUptoSaid : Prop := allocateOrderUptoRow.holds Try.pinned (OpenSpec.upto allocateOrderSpec)

/-- 'royaltylaw13.AllocateFair', WHERE WHAT IT READS IS OF BULK AT MOST 1048576: true; the input reads as it did. -/
def allocateFairUptoRow : OpenClaim := { program := "ytbkmcncakpmgkaa", sum := "244ad24162c068549e422a68d6fc7a56d4af3708a31b6f4b921d0e7e3fc137e7", func := "royalty/royaltylaw13.AllocateFair", spec := "allocateFair", unfollowed := true, recurses := true, named := ["math/bits.divideError", "math/bits.overflowError"], plainKeys := false, apart := false, narrowed := true }
def AllocateFairUptoSaid : Prop := allocateFairUptoRow.holds Try.pinned (OpenSpec.upto allocateFairSpec)

end Rows
end Go.Proofs.Ytbkmcncakpmgkaa
