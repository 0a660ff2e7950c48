/-
  DERIVED. GIVEN WITH THE SEED: THE CARDS: each row of YtffifhbldcjelaaGreatDoorRows.lean that lists a variable, with what it lists TIED to the program's text (the seventh form; the later family's looks); each row that meets fmt, with fmt's text TOLD by the authors' own Lean function (tested against real Go, not proved from fmt's source: count such statements apart). THE CARD IS WHAT COUNTS. Prove the row's statement (the work); the ties are given (YtffifhbldcjelaaGreatDoorTie.lean); close each card by the builder's one call (the guide's Derived/Test/ToyasCard.lean, 'card_holds'). Laid BY PROGRAM, IN A SANDBOX (cutbox-door.mjs). By AI agents, Wed Nov 11 2026. No macro, syntax, notation, axiom, sorry.
-/
import Derived.Test.YtffifhbldcjelaaGreatDoorRows
import GoSem.ClaimSeven
namespace Go.Proofs.YtffifhbldcjelaaGreatDoor
namespace Rows

/-- THE TIED CARD OF 'royaltylaw20.DataflowSessions'. -/
def dataflowSessionsCard : Claim7 := { stood := { row := dataflowSessionsRow, standIns := [], harness := (true, "0413cf214901266103804efee6ca605cfc92cf536f3169c05ae3e97ce7e747d3"), looks := false }, kinds := [], alts := [], laidByText := true, laidKinds := [.data], laidTests := true, laidLooks := .later }
def DataflowSessionsCardSaid : Prop := Claim7.holds Tryz.pinned (.plain (OpenSpec.ofChange dataflowSessionsSpec)) dataflowSessionsCard

/-- THE SECOND FORM's CARD OF 'royaltylaw20.DataflowSessions'. -/
def dataflowSessionsUptoCard : Claim7 := { stood := { row := dataflowSessionsUptoRow, standIns := [], harness := (true, "0413cf214901266103804efee6ca605cfc92cf536f3169c05ae3e97ce7e747d3"), looks := false }, kinds := [], alts := [], laidByText := true, laidKinds := [.data], laidTests := true, laidLooks := .later }
def DataflowSessionsUptoCardSaid : Prop := Claim7.holds Tryz.pinned (.plain (OpenSpec.upto dataflowSessionsSpec)) dataflowSessionsUptoCard
end Rows
end Go.Proofs.YtffifhbldcjelaaGreatDoor
