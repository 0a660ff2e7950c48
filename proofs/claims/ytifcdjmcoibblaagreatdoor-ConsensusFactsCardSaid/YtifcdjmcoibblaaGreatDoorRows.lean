/-
  NARROWER THAN 'FOR EVERY INPUT', by the rows' own cells (each row's printed sentence says how): ConsensusQuick: laid · ConsensusOnce: laid · ConsensusLocked: laid · ConsensusAnswers: laid · ConsensusSilent: laid · ConsensusFacts: laid · ConsensusMatchesReference: laid · ConsensusAgreement: laid · ConsensusCalm: laid · ConsensusRefuses: laid.
  DERIVED. THE GIVEN ROWS OF THIS SEAT. 10 by the template 'for every input the law returns true; each argument reads behind the call as it read before'; 0 by the template 'total and deterministic' (their statements: YtifcdjmcoibblaaGreatDoorTotals.lean).
  GIVEN WITH THE SEED: the statements are not yours to turn. If you find one false, say at which input.
  Laid BY PROGRAM, IN A SANDBOX (cutbox-rows.mjs): the forced cells as the released guide's own fill.sh prints them over the translation d1f708de30a51000… (all of the seat's roots in one cut). By AI agents, Wed Nov 11 2026. No macro, syntax, notation, axiom, sorry.
-/
import Derived.Test.YtifcdjmcoibblaaGreatDoorChecked
import GoSem.Claim
import GoSem.ClaimJoined
import GoSem.ClaimMapViews
import Derived.JoinedTies
import Derived.KernelRfl
namespace Go.Proofs.YtifcdjmcoibblaaGreatDoor
/- THE CELL 'sum', in the pinned program and in every row, IS THE sha256 OF THE DUMP (.gsa) THAT YtifcdjmcoibblaaGreatDoorProg.lean LOADS. Nothing in Lean hashes anything: it is a label: what it is worth is what the hold of that sum in a sandbox is worth. -/
noncomputable def Tryz.pinned : Pinned := { name := "ytifcdjmcoibblaagreatdoor", sum := "d1f708de30a51000a63ef349f3dbf6ed0c9fd9f8afd3dc4fe1d650ba7efdf2a4", checked := Tryz.checked }
namespace Rows
def none {H : Type} : Left H := { results := [], args := [] }

/- WHAT THE LISTED PACKAGE-LEVEL VARIABLES READ AS WHEN THE CALL BEGINS. Each datum BY PROGRAM (the guide's laid-datum.mjs) off the statement by which the dump's own 'gosem.cut.vars' lays the variable. In a bare row this is a premise. The card (YtifcdjmcoibblaaGreatDoorCards.lean) ties it to the program's text. -/
def laid_royalty_digest_round {H : Type} : DataW H := .agg [.lit (.int .u32 1116352408), .lit (.int .u32 1899447441), .lit (.int .u32 3049323471), .lit (.int .u32 3921009573), .lit (.int .u32 961987163), .lit (.int .u32 1508970993), .lit (.int .u32 2453635748), .lit (.int .u32 2870763221), .lit (.int .u32 3624381080), .lit (.int .u32 310598401), .lit (.int .u32 607225278), .lit (.int .u32 1426881987), .lit (.int .u32 1925078388), .lit (.int .u32 2162078206), .lit (.int .u32 2614888103), .lit (.int .u32 3248222580), .lit (.int .u32 3835390401), .lit (.int .u32 4022224774), .lit (.int .u32 264347078), .lit (.int .u32 604807628), .lit (.int .u32 770255983), .lit (.int .u32 1249150122), .lit (.int .u32 1555081692), .lit (.int .u32 1996064986), .lit (.int .u32 2554220882), .lit (.int .u32 2821834349), .lit (.int .u32 2952996808), .lit (.int .u32 3210313671), .lit (.int .u32 3336571891), .lit (.int .u32 3584528711), .lit (.int .u32 113926993), .lit (.int .u32 338241895), .lit (.int .u32 666307205), .lit (.int .u32 773529912), .lit (.int .u32 1294757372), .lit (.int .u32 1396182291), .lit (.int .u32 1695183700), .lit (.int .u32 1986661051), .lit (.int .u32 2177026350), .lit (.int .u32 2456956037), .lit (.int .u32 2730485921), .lit (.int .u32 2820302411), .lit (.int .u32 3259730800), .lit (.int .u32 3345764771), .lit (.int .u32 3516065817), .lit (.int .u32 3600352804), .lit (.int .u32 4094571909), .lit (.int .u32 275423344), .lit (.int .u32 430227734), .lit (.int .u32 506948616), .lit (.int .u32 659060556), .lit (.int .u32 883997877), .lit (.int .u32 958139571), .lit (.int .u32 1322822218), .lit (.int .u32 1537002063), .lit (.int .u32 1747873779), .lit (.int .u32 1955562222), .lit (.int .u32 2024104815), .lit (.int .u32 2227730452), .lit (.int .u32 2361852424), .lit (.int .u32 2428436474), .lit (.int .u32 2756734187), .lit (.int .u32 3204031479), .lit (.int .u32 3329325298)]

/-- 'royaltylaw26.ConsensusQuick': WHATEVER THE INPUT: true; the input reads as it did. -/
def consensusQuickSpec : ChangeSpec := { name := "consensusQuick", fn := fun _ => fun
  | [d1, d2] => { results := [.lit (.bool true)], args := [d1, d2] }
  | _ => none }
def consensusQuickRow : OpenClaim := { program := "ytifcdjmcoibblaagreatdoor", sum := "d1f708de30a51000a63ef349f3dbf6ed0c9fd9f8afd3dc4fe1d650ba7efdf2a4", func := "royalty/royaltylaw26.ConsensusQuick", spec := "consensusQuick", inPlace := ["internal/abi.NoEscape", "internal/bytealg.MakeNoZero"], unfollowed := true, recurses := true, named := ["royalty/digest.round"], plainKeys := false, apart := false, laid := [("royalty/digest.round", laid_royalty_digest_round)] }
def ConsensusQuickSaid : Prop := consensusQuickRow.holds Tryz.pinned (OpenSpec.ofChange consensusQuickSpec)

/-- ITS FALSE NEIGHBOUR: 'it returns false'. Refute it at one input. -/
def consensusQuickWrong : ChangeSpec := { name := "consensusQuick", fn := fun _ => fun
  | [d1, d2] => { results := [.lit (.bool false)], args := [d1, d2] }
  | _ => none }
def ConsensusQuickWrongFalsely : Prop := consensusQuickRow.holds Tryz.pinned (OpenSpec.ofChange consensusQuickWrong)

/-- 'royaltylaw26.ConsensusOnce': WHATEVER THE INPUT: true; the input reads as it did. -/
def consensusOnceSpec : ChangeSpec := { name := "consensusOnce", fn := fun _ => fun
  | [d1, d2, d3] => { results := [.lit (.bool true)], args := [d1, d2, d3] }
  | _ => none }
def consensusOnceRow : OpenClaim := { program := "ytifcdjmcoibblaagreatdoor", sum := "d1f708de30a51000a63ef349f3dbf6ed0c9fd9f8afd3dc4fe1d650ba7efdf2a4", func := "royalty/royaltylaw26.ConsensusOnce", spec := "consensusOnce", inPlace := ["internal/abi.NoEscape", "internal/bytealg.MakeNoZero"], unfollowed := true, recurses := true, named := ["royalty/digest.round"], plainKeys := false, apart := false, laid := [("royalty/digest.round", laid_royalty_digest_round)] }
def ConsensusOnceSaid : Prop := consensusOnceRow.holds Tryz.pinned (OpenSpec.ofChange consensusOnceSpec)

/-- ITS FALSE NEIGHBOUR: 'it returns false'. Refute it at one input. -/
def consensusOnceWrong : ChangeSpec := { name := "consensusOnce", fn := fun _ => fun
  | [d1, d2, d3] => { results := [.lit (.bool false)], args := [d1, d2, d3] }
  | _ => none }
def ConsensusOnceWrongFalsely : Prop := consensusOnceRow.holds Tryz.pinned (OpenSpec.ofChange consensusOnceWrong)

/-- 'royaltylaw26.ConsensusLocked': WHATEVER THE INPUT: true; the input reads as it did. -/
def consensusLockedSpec : ChangeSpec := { name := "consensusLocked", fn := fun _ => fun
  | [d1, d2, d3] => { results := [.lit (.bool true)], args := [d1, d2, d3] }
  | _ => none }
def consensusLockedRow : OpenClaim := { program := "ytifcdjmcoibblaagreatdoor", sum := "d1f708de30a51000a63ef349f3dbf6ed0c9fd9f8afd3dc4fe1d650ba7efdf2a4", func := "royalty/royaltylaw26.ConsensusLocked", spec := "consensusLocked", inPlace := ["internal/abi.NoEscape", "internal/bytealg.MakeNoZero"], unfollowed := true, recurses := true, named := ["royalty/digest.round"], plainKeys := false, apart := false, laid := [("royalty/digest.round", laid_royalty_digest_round)] }
def ConsensusLockedSaid : Prop := consensusLockedRow.holds Tryz.pinned (OpenSpec.ofChange consensusLockedSpec)

/-- ITS FALSE NEIGHBOUR: 'it returns false'. Refute it at one input. -/
def consensusLockedWrong : ChangeSpec := { name := "consensusLocked", fn := fun _ => fun
  | [d1, d2, d3] => { results := [.lit (.bool false)], args := [d1, d2, d3] }
  | _ => none }
def ConsensusLockedWrongFalsely : Prop := consensusLockedRow.holds Tryz.pinned (OpenSpec.ofChange consensusLockedWrong)

/-- 'royaltylaw26.ConsensusAnswers': WHATEVER THE INPUT: true; the input reads as it did. -/
def consensusAnswersSpec : ChangeSpec := { name := "consensusAnswers", fn := fun _ => fun
  | [d1, d2, d3] => { results := [.lit (.bool true)], args := [d1, d2, d3] }
  | _ => none }
def consensusAnswersRow : OpenClaim := { program := "ytifcdjmcoibblaagreatdoor", sum := "d1f708de30a51000a63ef349f3dbf6ed0c9fd9f8afd3dc4fe1d650ba7efdf2a4", func := "royalty/royaltylaw26.ConsensusAnswers", spec := "consensusAnswers", inPlace := ["internal/abi.NoEscape", "internal/bytealg.MakeNoZero"], unfollowed := true, recurses := true, named := ["royalty/digest.round"], plainKeys := false, apart := false, laid := [("royalty/digest.round", laid_royalty_digest_round)] }
def ConsensusAnswersSaid : Prop := consensusAnswersRow.holds Tryz.pinned (OpenSpec.ofChange consensusAnswersSpec)

/-- ITS FALSE NEIGHBOUR: 'it returns false'. Refute it at one input. -/
def consensusAnswersWrong : ChangeSpec := { name := "consensusAnswers", fn := fun _ => fun
  | [d1, d2, d3] => { results := [.lit (.bool false)], args := [d1, d2, d3] }
  | _ => none }
def ConsensusAnswersWrongFalsely : Prop := consensusAnswersRow.holds Tryz.pinned (OpenSpec.ofChange consensusAnswersWrong)

/-- 'royaltylaw26.ConsensusSilent': WHATEVER THE INPUT: true; the input reads as it did. -/
def consensusSilentSpec : ChangeSpec := { name := "consensusSilent", fn := fun _ => fun
  | [d1, d2] => { results := [.lit (.bool true)], args := [d1, d2] }
  | _ => none }
def consensusSilentRow : OpenClaim := { program := "ytifcdjmcoibblaagreatdoor", sum := "d1f708de30a51000a63ef349f3dbf6ed0c9fd9f8afd3dc4fe1d650ba7efdf2a4", func := "royalty/royaltylaw26.ConsensusSilent", spec := "consensusSilent", inPlace := ["internal/abi.NoEscape", "internal/bytealg.MakeNoZero", "maps.clone"], unfollowed := true, recurses := true, named := ["royalty/digest.round"], plainKeys := false, apart := false, laid := [("royalty/digest.round", laid_royalty_digest_round)] }
def ConsensusSilentSaid : Prop := consensusSilentRow.holds Tryz.pinned (OpenSpec.ofChange consensusSilentSpec)

/-- ITS FALSE NEIGHBOUR: 'it returns false'. Refute it at one input. -/
def consensusSilentWrong : ChangeSpec := { name := "consensusSilent", fn := fun _ => fun
  | [d1, d2] => { results := [.lit (.bool false)], args := [d1, d2] }
  | _ => none }
def ConsensusSilentWrongFalsely : Prop := consensusSilentRow.holds Tryz.pinned (OpenSpec.ofChange consensusSilentWrong)

/-- 'royaltylaw26.ConsensusFacts': WHATEVER THE INPUT: true; the input reads as it did. -/
def consensusFactsSpec : ChangeSpec := { name := "consensusFacts", fn := fun _ => fun
  | [d1, d2, d3] => { results := [.lit (.bool true)], args := [d1, d2, d3] }
  | _ => none }
def consensusFactsRow : OpenClaim := { program := "ytifcdjmcoibblaagreatdoor", sum := "d1f708de30a51000a63ef349f3dbf6ed0c9fd9f8afd3dc4fe1d650ba7efdf2a4", func := "royalty/royaltylaw26.ConsensusFacts", spec := "consensusFacts", inPlace := ["internal/abi.NoEscape", "internal/bytealg.MakeNoZero", "maps.clone"], unfollowed := true, recurses := true, named := ["royalty/digest.round"], plainKeys := false, apart := false, laid := [("royalty/digest.round", laid_royalty_digest_round)] }
def ConsensusFactsSaid : Prop := consensusFactsRow.holds Tryz.pinned (OpenSpec.ofChange consensusFactsSpec)

/-- ITS FALSE NEIGHBOUR: 'it returns false'. Refute it at one input. -/
def consensusFactsWrong : ChangeSpec := { name := "consensusFacts", fn := fun _ => fun
  | [d1, d2, d3] => { results := [.lit (.bool false)], args := [d1, d2, d3] }
  | _ => none }
def ConsensusFactsWrongFalsely : Prop := consensusFactsRow.holds Tryz.pinned (OpenSpec.ofChange consensusFactsWrong)

/-- 'royaltylaw26.ConsensusMatchesReference': WHATEVER THE INPUT: true; the input reads as it did. -/
def consensusMatchesReferenceSpec : ChangeSpec := { name := "consensusMatchesReference", fn := fun _ => fun
  | [d1, d2, d3] => { results := [.lit (.bool true)], args := [d1, d2, d3] }
  | _ => none }
def consensusMatchesReferenceRow : OpenClaim := { program := "ytifcdjmcoibblaagreatdoor", sum := "d1f708de30a51000a63ef349f3dbf6ed0c9fd9f8afd3dc4fe1d650ba7efdf2a4", func := "royalty/royaltylaw26.ConsensusMatchesReference", spec := "consensusMatchesReference", inPlace := ["internal/abi.NoEscape", "internal/bytealg.MakeNoZero", "maps.clone"], unfollowed := true, recurses := true, named := ["royalty/digest.round"], plainKeys := false, apart := false, laid := [("royalty/digest.round", laid_royalty_digest_round)] }
def ConsensusMatchesReferenceSaid : Prop := consensusMatchesReferenceRow.holds Tryz.pinned (OpenSpec.ofChange consensusMatchesReferenceSpec)

/-- ITS FALSE NEIGHBOUR: 'it returns false'. Refute it at one input. -/
def consensusMatchesReferenceWrong : ChangeSpec := { name := "consensusMatchesReference", fn := fun _ => fun
  | [d1, d2, d3] => { results := [.lit (.bool false)], args := [d1, d2, d3] }
  | _ => none }
def ConsensusMatchesReferenceWrongFalsely : Prop := consensusMatchesReferenceRow.holds Tryz.pinned (OpenSpec.ofChange consensusMatchesReferenceWrong)

/-- 'royaltylaw26.ConsensusAgreement': WHATEVER THE INPUT: true; the input reads as it did. -/
def consensusAgreementSpec : ChangeSpec := { name := "consensusAgreement", fn := fun _ => fun
  | [d1, d2] => { results := [.lit (.bool true)], args := [d1, d2] }
  | _ => none }
def consensusAgreementRow : OpenClaim := { program := "ytifcdjmcoibblaagreatdoor", sum := "d1f708de30a51000a63ef349f3dbf6ed0c9fd9f8afd3dc4fe1d650ba7efdf2a4", func := "royalty/royaltylaw26.ConsensusAgreement", spec := "consensusAgreement", inPlace := ["internal/abi.NoEscape", "internal/bytealg.MakeNoZero", "maps.clone"], unfollowed := true, recurses := true, named := ["royalty/digest.round"], plainKeys := false, apart := false, laid := [("royalty/digest.round", laid_royalty_digest_round)] }
def ConsensusAgreementSaid : Prop := consensusAgreementRow.holds Tryz.pinned (OpenSpec.ofChange consensusAgreementSpec)

/-- ITS FALSE NEIGHBOUR: 'it returns false'. Refute it at one input. -/
def consensusAgreementWrong : ChangeSpec := { name := "consensusAgreement", fn := fun _ => fun
  | [d1, d2] => { results := [.lit (.bool false)], args := [d1, d2] }
  | _ => none }
def ConsensusAgreementWrongFalsely : Prop := consensusAgreementRow.holds Tryz.pinned (OpenSpec.ofChange consensusAgreementWrong)

/-- 'royaltylaw26.ConsensusCalm': WHATEVER THE INPUT: true; the input reads as it did. -/
def consensusCalmSpec : ChangeSpec := { name := "consensusCalm", fn := fun _ => fun
  | [d1, d2, d3] => { results := [.lit (.bool true)], args := [d1, d2, d3] }
  | _ => none }
def consensusCalmRow : OpenClaim := { program := "ytifcdjmcoibblaagreatdoor", sum := "d1f708de30a51000a63ef349f3dbf6ed0c9fd9f8afd3dc4fe1d650ba7efdf2a4", func := "royalty/royaltylaw26.ConsensusCalm", spec := "consensusCalm", inPlace := ["internal/abi.NoEscape", "internal/bytealg.MakeNoZero", "maps.clone"], unfollowed := true, recurses := true, named := ["royalty/digest.round"], plainKeys := false, apart := false, laid := [("royalty/digest.round", laid_royalty_digest_round)] }
def ConsensusCalmSaid : Prop := consensusCalmRow.holds Tryz.pinned (OpenSpec.ofChange consensusCalmSpec)

/-- ITS FALSE NEIGHBOUR: 'it returns false'. Refute it at one input. -/
def consensusCalmWrong : ChangeSpec := { name := "consensusCalm", fn := fun _ => fun
  | [d1, d2, d3] => { results := [.lit (.bool false)], args := [d1, d2, d3] }
  | _ => none }
def ConsensusCalmWrongFalsely : Prop := consensusCalmRow.holds Tryz.pinned (OpenSpec.ofChange consensusCalmWrong)

/-- 'royaltylaw26.ConsensusRefuses': WHATEVER THE INPUT: true; the input reads as it did. -/
def consensusRefusesSpec : ChangeSpec := { name := "consensusRefuses", fn := fun _ => fun
  | [d1, d2, d3, d4] => { results := [.lit (.bool true)], args := [d1, d2, d3, d4] }
  | _ => none }
def consensusRefusesRow : OpenClaim := { program := "ytifcdjmcoibblaagreatdoor", sum := "d1f708de30a51000a63ef349f3dbf6ed0c9fd9f8afd3dc4fe1d650ba7efdf2a4", func := "royalty/royaltylaw26.ConsensusRefuses", spec := "consensusRefuses", inPlace := ["internal/abi.NoEscape", "internal/bytealg.MakeNoZero", "maps.clone"], unfollowed := true, recurses := true, named := ["royalty/digest.round"], plainKeys := false, apart := false, laid := [("royalty/digest.round", laid_royalty_digest_round)] }
def ConsensusRefusesSaid : Prop := consensusRefusesRow.holds Tryz.pinned (OpenSpec.ofChange consensusRefusesSpec)

/-- ITS FALSE NEIGHBOUR: 'it returns false'. Refute it at one input. -/
def consensusRefusesWrong : ChangeSpec := { name := "consensusRefuses", fn := fun _ => fun
  | [d1, d2, d3, d4] => { results := [.lit (.bool false)], args := [d1, d2, d3, d4] }
  | _ => none }
def ConsensusRefusesWrongFalsely : Prop := consensusRefusesRow.holds Tryz.pinned (OpenSpec.ofChange consensusRefusesWrong)

/- THE SECOND FORM. 'bulk': how many values and letters a reading holds, each counted each time it is reached (what is shared counts as often as it is met; a slice's spare places count too). A statement '..UptoSaid' is the law's where the arguments, and the package variables that the reading takes, are together of bulk at most 1048576: NARROWER than '..Said'. Prove '..Said' where nothing that the law and all that it calls make is longer than what came in: it says more and counts as full. Else prove '..UptoSaid'. A law counts once. -/
mutual
def uptoBulk {H : Type} : DataW H → Nat
  | .lit (.string bytes) => bytes.length + 1
  | .lit _ => 1
  | .nil => 1
  | .ptr d => uptoBulk d + 1
  | .slice elems spare => uptoBulkAll elems + uptoBulkAll spare + 1
  | .agg parts => uptoBulkAll parts + 1
  | .iface _ d => uptoBulk d + 1
  | .map entries => uptoBulkEntries entries + 1
  | .held _ => 1
def uptoBulkAll {H : Type} : List (DataW H) → Nat
  | [] => 0
  | d :: r => uptoBulk d + uptoBulkAll r
def uptoBulkEntries {H : Type} : List (Lit × DataW H) → Nat
  | [] => 0
  | x :: r => uptoBulkEntry x + uptoBulkEntries r
def uptoBulkEntry {H : Type} : Lit × DataW H → Nat
  | (.string bytes, d) => bytes.length + uptoBulk d + 1
  | (_, d) => uptoBulk d + 1
 end
def uptoSmall : (H : Type) → List (DataW H) → Bool := fun _ ds => decide (uptoBulkAll ds ≤ 1048576)
def OpenSpec.upto (s : _root_.Go.ChangeSpec) : _root_.Go.OpenSpec := { _root_.Go.OpenSpec.ofChange s with cond := some uptoSmall }

/-- 'royaltylaw26.ConsensusQuick', WHERE WHAT IT READS IS OF BULK AT MOST 1048576: true; the input reads as it did. -/
def consensusQuickUptoRow : OpenClaim := { program := "ytifcdjmcoibblaagreatdoor", sum := "d1f708de30a51000a63ef349f3dbf6ed0c9fd9f8afd3dc4fe1d650ba7efdf2a4", func := "royalty/royaltylaw26.ConsensusQuick", spec := "consensusQuick", inPlace := ["internal/abi.NoEscape", "internal/bytealg.MakeNoZero"], unfollowed := true, recurses := true, named := ["royalty/digest.round"], plainKeys := false, apart := false, laid := [("royalty/digest.round", laid_royalty_digest_round)], narrowed := true }
def ConsensusQuickUptoSaid : Prop := consensusQuickUptoRow.holds Tryz.pinned (OpenSpec.upto consensusQuickSpec)

/-- 'royaltylaw26.ConsensusOnce', WHERE WHAT IT READS IS OF BULK AT MOST 1048576: true; the input reads as it did. -/
def consensusOnceUptoRow : OpenClaim := { program := "ytifcdjmcoibblaagreatdoor", sum := "d1f708de30a51000a63ef349f3dbf6ed0c9fd9f8afd3dc4fe1d650ba7efdf2a4", func := "royalty/royaltylaw26.ConsensusOnce", spec := "consensusOnce", inPlace := ["internal/abi.NoEscape", "internal/bytealg.MakeNoZero"], unfollowed := true, recurses := true, named := ["royalty/digest.round"], plainKeys := false, apart := false, laid := [("royalty/digest.round", laid_royalty_digest_round)], narrowed := true }
def ConsensusOnceUptoSaid : Prop := consensusOnceUptoRow.holds Tryz.pinned (OpenSpec.upto consensusOnceSpec)

/-- 'royaltylaw26.ConsensusLocked', WHERE WHAT IT READS IS OF BULK AT MOST 1048576: true; the input reads as it did. -/
def consensusLockedUptoRow : OpenClaim := { program := "ytifcdjmcoibblaagreatdoor", sum := "d1f708de30a51000a63ef349f3dbf6ed0c9fd9f8afd3dc4fe1d650ba7efdf2a4", func := "royalty/royaltylaw26.ConsensusLocked", spec := "consensusLocked", inPlace := ["internal/abi.NoEscape", "internal/bytealg.MakeNoZero"], unfollowed := true, recurses := true, named := ["royalty/digest.round"], plainKeys := false, apart := false, laid := [("royalty/digest.round", laid_royalty_digest_round)], narrowed := true }
def ConsensusLockedUptoSaid : Prop := consensusLockedUptoRow.holds Tryz.pinned (OpenSpec.upto consensusLockedSpec)

/-- 'royaltylaw26.ConsensusAnswers', WHERE WHAT IT READS IS OF BULK AT MOST 1048576: true; the input reads as it did. -/
def consensusAnswersUptoRow : OpenClaim := { program := "ytifcdjmcoibblaagreatdoor", sum := "d1f708de30a51000a63ef349f3dbf6ed0c9fd9f8afd3dc4fe1d650ba7efdf2a4", func := "royalty/royaltylaw26.ConsensusAnswers", spec := "consensusAnswers", inPlace := ["internal/abi.NoEscape", "internal/bytealg.MakeNoZero"], unfollowed := true, recurses := true, named := ["royalty/digest.round"], plainKeys := false, apart := false, laid := [("royalty/digest.round", laid_royalty_digest_round)], narrowed := true }
def ConsensusAnswersUptoSaid : Prop := consensusAnswersUptoRow.holds Tryz.pinned (OpenSpec.upto consensusAnswersSpec)

/-- 'royaltylaw26.ConsensusSilent', WHERE WHAT IT READS IS OF BULK AT MOST 1048576: true; the input reads as it did. -/
def consensusSilentUptoRow : OpenClaim := { program := "ytifcdjmcoibblaagreatdoor", sum := "d1f708de30a51000a63ef349f3dbf6ed0c9fd9f8afd3dc4fe1d650ba7efdf2a4", func := "royalty/royaltylaw26.ConsensusSilent", spec := "consensusSilent", inPlace := ["internal/abi.NoEscape", "internal/bytealg.MakeNoZero", "maps.clone"], unfollowed := true, recurses := true, named := ["royalty/digest.round"], plainKeys := false, apart := false, laid := [("royalty/digest.round", laid_royalty_digest_round)], narrowed := true }
def ConsensusSilentUptoSaid : Prop := consensusSilentUptoRow.holds Tryz.pinned (OpenSpec.upto consensusSilentSpec)

/-- 'royaltylaw26.ConsensusFacts', WHERE WHAT IT READS IS OF BULK AT MOST 1048576: true; the input reads as it did. -/
def consensusFactsUptoRow : OpenClaim := { program := "ytifcdjmcoibblaagreatdoor", sum := "d1f708de30a51000a63ef349f3dbf6ed0c9fd9f8afd3dc4fe1d650ba7efdf2a4", func := "royalty/royaltylaw26.ConsensusFacts", spec := "consensusFacts", inPlace := ["internal/abi.NoEscape", "internal/bytealg.MakeNoZero", "maps.clone"], unfollowed := true, recurses := true, named := ["royalty/digest.round"], plainKeys := false, apart := false, laid := [("royalty/digest.round", laid_royalty_digest_round)], narrowed := true }
def ConsensusFactsUptoSaid : Prop := consensusFactsUptoRow.holds Tryz.pinned (OpenSpec.upto consensusFactsSpec)

/-- 'royaltylaw26.ConsensusMatchesReference', WHERE WHAT IT READS IS OF BULK AT MOST 1048576: true; the input reads as it did. -/
def consensusMatchesReferenceUptoRow : OpenClaim := { program := "ytifcdjmcoibblaagreatdoor", sum := "d1f708de30a51000a63ef349f3dbf6ed0c9fd9f8afd3dc4fe1d650ba7efdf2a4", func := "royalty/royaltylaw26.ConsensusMatchesReference", spec := "consensusMatchesReference", inPlace := ["internal/abi.NoEscape", "internal/bytealg.MakeNoZero", "maps.clone"], unfollowed := true, recurses := true, named := ["royalty/digest.round"], plainKeys := false, apart := false, laid := [("royalty/digest.round", laid_royalty_digest_round)], narrowed := true }
def ConsensusMatchesReferenceUptoSaid : Prop := consensusMatchesReferenceUptoRow.holds Tryz.pinned (OpenSpec.upto consensusMatchesReferenceSpec)

/-- 'royaltylaw26.ConsensusAgreement', WHERE WHAT IT READS IS OF BULK AT MOST 1048576: true; the input reads as it did. -/
def consensusAgreementUptoRow : OpenClaim := { program := "ytifcdjmcoibblaagreatdoor", sum := "d1f708de30a51000a63ef349f3dbf6ed0c9fd9f8afd3dc4fe1d650ba7efdf2a4", func := "royalty/royaltylaw26.ConsensusAgreement", spec := "consensusAgreement", inPlace := ["internal/abi.NoEscape", "internal/bytealg.MakeNoZero", "maps.clone"], unfollowed := true, recurses := true, named := ["royalty/digest.round"], plainKeys := false, apart := false, laid := [("royalty/digest.round", laid_royalty_digest_round)], narrowed := true }
def ConsensusAgreementUptoSaid : Prop := consensusAgreementUptoRow.holds Tryz.pinned (OpenSpec.upto consensusAgreementSpec)

/-- 'royaltylaw26.ConsensusCalm', WHERE WHAT IT READS IS OF BULK AT MOST 1048576: true; the input reads as it did. -/
def consensusCalmUptoRow : OpenClaim := { program := "ytifcdjmcoibblaagreatdoor", sum := "d1f708de30a51000a63ef349f3dbf6ed0c9fd9f8afd3dc4fe1d650ba7efdf2a4", func := "royalty/royaltylaw26.ConsensusCalm", spec := "consensusCalm", inPlace := ["internal/abi.NoEscape", "internal/bytealg.MakeNoZero", "maps.clone"], unfollowed := true, recurses := true, named := ["royalty/digest.round"], plainKeys := false, apart := false, laid := [("royalty/digest.round", laid_royalty_digest_round)], narrowed := true }
def ConsensusCalmUptoSaid : Prop := consensusCalmUptoRow.holds Tryz.pinned (OpenSpec.upto consensusCalmSpec)

/-- 'royaltylaw26.ConsensusRefuses', WHERE WHAT IT READS IS OF BULK AT MOST 1048576: true; the input reads as it did. -/
def consensusRefusesUptoRow : OpenClaim := { program := "ytifcdjmcoibblaagreatdoor", sum := "d1f708de30a51000a63ef349f3dbf6ed0c9fd9f8afd3dc4fe1d650ba7efdf2a4", func := "royalty/royaltylaw26.ConsensusRefuses", spec := "consensusRefuses", inPlace := ["internal/abi.NoEscape", "internal/bytealg.MakeNoZero", "maps.clone"], unfollowed := true, recurses := true, named := ["royalty/digest.round"], plainKeys := false, apart := false, laid := [("royalty/digest.round", laid_royalty_digest_round)], narrowed := true }
def ConsensusRefusesUptoSaid : Prop := consensusRefusesUptoRow.holds Tryz.pinned (OpenSpec.upto consensusRefusesSpec)

end Rows
end Go.Proofs.YtifcdjmcoibblaaGreatDoor
