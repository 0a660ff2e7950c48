/-
  DERIVED. GIVEN WITH THE SEED: THE CARDS: each row of YtifcdjmcoibblaaGreatDoorRows.lean that lists a variable, with what it lists TIED to the program's text (the seventh form; the later family's looks); each row that meets fmt, with fmt's text TOLD by the authors' own Lean function (tested against real Go, not proved from fmt's source: count such statements apart). THE CARD IS WHAT COUNTS. Prove the row's statement (the work); the ties are given (YtifcdjmcoibblaaGreatDoorTie.lean); close each card by the builder's one call (the guide's Derived/Test/ToyasCard.lean, 'card_holds'). Laid BY PROGRAM, IN A SANDBOX (cutbox-door.mjs). By AI agents, Wed Nov 11 2026. No macro, syntax, notation, axiom, sorry.
-/
import Derived.Test.YtifcdjmcoibblaaGreatDoorRows
import GoSem.ClaimSeven
namespace Go.Proofs.YtifcdjmcoibblaaGreatDoor
namespace Rows

/-- THE TIED CARD OF 'royaltylaw26.ConsensusQuick'. -/
def consensusQuickCard : Claim7 := { stood := { row := consensusQuickRow, standIns := [], harness := (true, "7fb8c4f644023c9ccff02c015d81f3ee9fbd2ba08f9c51227df3ba6b9cd91ef4"), looks := true }, kinds := [], alts := [], laidByText := true, laidKinds := [.data], laidTests := true, laidLooks := .later }
def ConsensusQuickCardSaid : Prop := Claim7.holds Tryz.pinned (.plain (OpenSpec.ofChange consensusQuickSpec)) consensusQuickCard

/-- THE TIED CARD OF 'royaltylaw26.ConsensusOnce'. -/
def consensusOnceCard : Claim7 := { stood := { row := consensusOnceRow, standIns := [], harness := (true, "7fb8c4f644023c9ccff02c015d81f3ee9fbd2ba08f9c51227df3ba6b9cd91ef4"), looks := true }, kinds := [], alts := [], laidByText := true, laidKinds := [.data], laidTests := true, laidLooks := .later }
def ConsensusOnceCardSaid : Prop := Claim7.holds Tryz.pinned (.plain (OpenSpec.ofChange consensusOnceSpec)) consensusOnceCard

/-- THE TIED CARD OF 'royaltylaw26.ConsensusLocked'. -/
def consensusLockedCard : Claim7 := { stood := { row := consensusLockedRow, standIns := [], harness := (true, "7fb8c4f644023c9ccff02c015d81f3ee9fbd2ba08f9c51227df3ba6b9cd91ef4"), looks := true }, kinds := [], alts := [], laidByText := true, laidKinds := [.data], laidTests := true, laidLooks := .later }
def ConsensusLockedCardSaid : Prop := Claim7.holds Tryz.pinned (.plain (OpenSpec.ofChange consensusLockedSpec)) consensusLockedCard

/-- THE TIED CARD OF 'royaltylaw26.ConsensusAnswers'. -/
def consensusAnswersCard : Claim7 := { stood := { row := consensusAnswersRow, standIns := [], harness := (true, "7fb8c4f644023c9ccff02c015d81f3ee9fbd2ba08f9c51227df3ba6b9cd91ef4"), looks := true }, kinds := [], alts := [], laidByText := true, laidKinds := [.data], laidTests := true, laidLooks := .later }
def ConsensusAnswersCardSaid : Prop := Claim7.holds Tryz.pinned (.plain (OpenSpec.ofChange consensusAnswersSpec)) consensusAnswersCard

/-- THE TIED CARD OF 'royaltylaw26.ConsensusSilent'. -/
def consensusSilentCard : Claim7 := { stood := { row := consensusSilentRow, standIns := [], harness := (true, "7fb8c4f644023c9ccff02c015d81f3ee9fbd2ba08f9c51227df3ba6b9cd91ef4"), looks := true }, kinds := [], alts := [], laidByText := true, laidKinds := [.data], laidTests := true, laidLooks := .later }
def ConsensusSilentCardSaid : Prop := Claim7.holds Tryz.pinned (.plain (OpenSpec.ofChange consensusSilentSpec)) consensusSilentCard

/-- THE TIED CARD OF 'royaltylaw26.ConsensusFacts'. -/
def consensusFactsCard : Claim7 := { stood := { row := consensusFactsRow, standIns := [], harness := (true, "7fb8c4f644023c9ccff02c015d81f3ee9fbd2ba08f9c51227df3ba6b9cd91ef4"), looks := true }, kinds := [], alts := [], laidByText := true, laidKinds := [.data], laidTests := true, laidLooks := .later }
def ConsensusFactsCardSaid : Prop := Claim7.holds Tryz.pinned (.plain (OpenSpec.ofChange consensusFactsSpec)) consensusFactsCard

/-- THE TIED CARD OF 'royaltylaw26.ConsensusMatchesReference'. -/
def consensusMatchesReferenceCard : Claim7 := { stood := { row := consensusMatchesReferenceRow, standIns := [], harness := (true, "7fb8c4f644023c9ccff02c015d81f3ee9fbd2ba08f9c51227df3ba6b9cd91ef4"), looks := true }, kinds := [], alts := [], laidByText := true, laidKinds := [.data], laidTests := true, laidLooks := .later }
def ConsensusMatchesReferenceCardSaid : Prop := Claim7.holds Tryz.pinned (.plain (OpenSpec.ofChange consensusMatchesReferenceSpec)) consensusMatchesReferenceCard

/-- THE TIED CARD OF 'royaltylaw26.ConsensusAgreement'. -/
def consensusAgreementCard : Claim7 := { stood := { row := consensusAgreementRow, standIns := [], harness := (true, "7fb8c4f644023c9ccff02c015d81f3ee9fbd2ba08f9c51227df3ba6b9cd91ef4"), looks := true }, kinds := [], alts := [], laidByText := true, laidKinds := [.data], laidTests := true, laidLooks := .later }
def ConsensusAgreementCardSaid : Prop := Claim7.holds Tryz.pinned (.plain (OpenSpec.ofChange consensusAgreementSpec)) consensusAgreementCard

/-- THE TIED CARD OF 'royaltylaw26.ConsensusCalm'. -/
def consensusCalmCard : Claim7 := { stood := { row := consensusCalmRow, standIns := [], harness := (true, "7fb8c4f644023c9ccff02c015d81f3ee9fbd2ba08f9c51227df3ba6b9cd91ef4"), looks := true }, kinds := [], alts := [], laidByText := true, laidKinds := [.data], laidTests := true, laidLooks := .later }
def ConsensusCalmCardSaid : Prop := Claim7.holds Tryz.pinned (.plain (OpenSpec.ofChange consensusCalmSpec)) consensusCalmCard

/-- THE TIED CARD OF 'royaltylaw26.ConsensusRefuses'. -/
def consensusRefusesCard : Claim7 := { stood := { row := consensusRefusesRow, standIns := [], harness := (true, "7fb8c4f644023c9ccff02c015d81f3ee9fbd2ba08f9c51227df3ba6b9cd91ef4"), looks := true }, kinds := [], alts := [], laidByText := true, laidKinds := [.data], laidTests := true, laidLooks := .later }
def ConsensusRefusesCardSaid : Prop := Claim7.holds Tryz.pinned (.plain (OpenSpec.ofChange consensusRefusesSpec)) consensusRefusesCard

/-- THE SECOND FORM's CARD OF 'royaltylaw26.ConsensusQuick'. -/
def consensusQuickUptoCard : Claim7 := { stood := { row := consensusQuickUptoRow, standIns := [], harness := (true, "7fb8c4f644023c9ccff02c015d81f3ee9fbd2ba08f9c51227df3ba6b9cd91ef4"), looks := true }, kinds := [], alts := [], laidByText := true, laidKinds := [.data], laidTests := true, laidLooks := .later }
def ConsensusQuickUptoCardSaid : Prop := Claim7.holds Tryz.pinned (.plain (OpenSpec.upto consensusQuickSpec)) consensusQuickUptoCard

/-- THE SECOND FORM's CARD OF 'royaltylaw26.ConsensusOnce'. -/
def consensusOnceUptoCard : Claim7 := { stood := { row := consensusOnceUptoRow, standIns := [], harness := (true, "7fb8c4f644023c9ccff02c015d81f3ee9fbd2ba08f9c51227df3ba6b9cd91ef4"), looks := true }, kinds := [], alts := [], laidByText := true, laidKinds := [.data], laidTests := true, laidLooks := .later }
def ConsensusOnceUptoCardSaid : Prop := Claim7.holds Tryz.pinned (.plain (OpenSpec.upto consensusOnceSpec)) consensusOnceUptoCard

/-- THE SECOND FORM's CARD OF 'royaltylaw26.ConsensusLocked'. -/
def consensusLockedUptoCard : Claim7 := { stood := { row := consensusLockedUptoRow, standIns := [], harness := (true, "7fb8c4f644023c9ccff02c015d81f3ee9fbd2ba08f9c51227df3ba6b9cd91ef4"), looks := true }, kinds := [], alts := [], laidByText := true, laidKinds := [.data], laidTests := true, laidLooks := .later }
def ConsensusLockedUptoCardSaid : Prop := Claim7.holds Tryz.pinned (.plain (OpenSpec.upto consensusLockedSpec)) consensusLockedUptoCard

/-- THE SECOND FORM's CARD OF 'royaltylaw26.ConsensusAnswers'. -/
def consensusAnswersUptoCard : Claim7 := { stood := { row := consensusAnswersUptoRow, standIns := [], harness := (true, "7fb8c4f644023c9ccff02c015d81f3ee9fbd2ba08f9c51227df3ba6b9cd91ef4"), looks := true }, kinds := [], alts := [], laidByText := true, laidKinds := [.data], laidTests := true, laidLooks := .later }
def ConsensusAnswersUptoCardSaid : Prop := Claim7.holds Tryz.pinned (.plain (OpenSpec.upto consensusAnswersSpec)) consensusAnswersUptoCard

/-- THE SECOND FORM's CARD OF 'royaltylaw26.ConsensusSilent'. -/
def consensusSilentUptoCard : Claim7 := { stood := { row := consensusSilentUptoRow, standIns := [], harness := (true, "7fb8c4f644023c9ccff02c015d81f3ee9fbd2ba08f9c51227df3ba6b9cd91ef4"), looks := true }, kinds := [], alts := [], laidByText := true, laidKinds := [.data], laidTests := true, laidLooks := .later }
def ConsensusSilentUptoCardSaid : Prop := Claim7.holds Tryz.pinned (.plain (OpenSpec.upto consensusSilentSpec)) consensusSilentUptoCard

/-- THE SECOND FORM's CARD OF 'royaltylaw26.ConsensusFacts'. -/
def consensusFactsUptoCard : Claim7 := { stood := { row := consensusFactsUptoRow, standIns := [], harness := (true, "7fb8c4f644023c9ccff02c015d81f3ee9fbd2ba08f9c51227df3ba6b9cd91ef4"), looks := true }, kinds := [], alts := [], laidByText := true, laidKinds := [.data], laidTests := true, laidLooks := .later }
def ConsensusFactsUptoCardSaid : Prop := Claim7.holds Tryz.pinned (.plain (OpenSpec.upto consensusFactsSpec)) consensusFactsUptoCard

/-- THE SECOND FORM's CARD OF 'royaltylaw26.ConsensusMatchesReference'. -/
def consensusMatchesReferenceUptoCard : Claim7 := { stood := { row := consensusMatchesReferenceUptoRow, standIns := [], harness := (true, "7fb8c4f644023c9ccff02c015d81f3ee9fbd2ba08f9c51227df3ba6b9cd91ef4"), looks := true }, kinds := [], alts := [], laidByText := true, laidKinds := [.data], laidTests := true, laidLooks := .later }
def ConsensusMatchesReferenceUptoCardSaid : Prop := Claim7.holds Tryz.pinned (.plain (OpenSpec.upto consensusMatchesReferenceSpec)) consensusMatchesReferenceUptoCard

/-- THE SECOND FORM's CARD OF 'royaltylaw26.ConsensusAgreement'. -/
def consensusAgreementUptoCard : Claim7 := { stood := { row := consensusAgreementUptoRow, standIns := [], harness := (true, "7fb8c4f644023c9ccff02c015d81f3ee9fbd2ba08f9c51227df3ba6b9cd91ef4"), looks := true }, kinds := [], alts := [], laidByText := true, laidKinds := [.data], laidTests := true, laidLooks := .later }
def ConsensusAgreementUptoCardSaid : Prop := Claim7.holds Tryz.pinned (.plain (OpenSpec.upto consensusAgreementSpec)) consensusAgreementUptoCard

/-- THE SECOND FORM's CARD OF 'royaltylaw26.ConsensusCalm'. -/
def consensusCalmUptoCard : Claim7 := { stood := { row := consensusCalmUptoRow, standIns := [], harness := (true, "7fb8c4f644023c9ccff02c015d81f3ee9fbd2ba08f9c51227df3ba6b9cd91ef4"), looks := true }, kinds := [], alts := [], laidByText := true, laidKinds := [.data], laidTests := true, laidLooks := .later }
def ConsensusCalmUptoCardSaid : Prop := Claim7.holds Tryz.pinned (.plain (OpenSpec.upto consensusCalmSpec)) consensusCalmUptoCard

/-- THE SECOND FORM's CARD OF 'royaltylaw26.ConsensusRefuses'. -/
def consensusRefusesUptoCard : Claim7 := { stood := { row := consensusRefusesUptoRow, standIns := [], harness := (true, "7fb8c4f644023c9ccff02c015d81f3ee9fbd2ba08f9c51227df3ba6b9cd91ef4"), looks := true }, kinds := [], alts := [], laidByText := true, laidKinds := [.data], laidTests := true, laidLooks := .later }
def ConsensusRefusesUptoCardSaid : Prop := Claim7.holds Tryz.pinned (.plain (OpenSpec.upto consensusRefusesSpec)) consensusRefusesUptoCard
end Rows
end Go.Proofs.YtifcdjmcoibblaaGreatDoor
