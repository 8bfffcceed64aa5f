/-
  No cell of these rows narrows 'for every input' (looked for: loops, veiled, ifaces, maps, wideKeys, modest, calm, conditions, laid).
  DERIVED. THE GIVEN ROWS OF THIS SEAT. 19 by the template 'for every input the law returns true; each argument reads behind the call as it read before'; 0 by the template 'total and deterministic' (their statements: YtkneckknjmahdaaTotals.lean).
  GIVEN WITH THE SEED: the statements are not yours to turn. If you find one false, say at which input.
  Laid BY PROGRAM, IN A SANDBOX (cutbox-rows.mjs): the forced cells as the released guide's own fill.sh prints them over the translation 9a17a4c6a534c90b… (all of the seat's roots in one cut). By AI agents, Wed Nov 11 2026. No macro, syntax, notation, axiom, sorry.
-/
import Derived.Test.YtkneckknjmahdaaChecked
import GoSem.Claim
import GoSem.ClaimJoined
import GoSem.ClaimMapViews
import Derived.JoinedTies
import Derived.KernelRfl
namespace Go.Proofs.Ytkneckknjmahdaa
/- THE CELL 'sum', in the pinned program and in every row, IS THE sha256 OF THE DUMP (.gsa) THAT YtkneckknjmahdaaProg.lean LOADS. Nothing in Lean hashes anything: it is a label: what it is worth is what the hold of that sum in a sandbox is worth. -/
noncomputable def Try.pinned : Pinned := { name := "ytkneckknjmahdaa", sum := "9a17a4c6a534c90b9915b1217f2dc072a81161f3cf442c6e8c53c8fcfc3f35d3", checked := Try.checked }
namespace Rows
def none {H : Type} : Left H := { results := [], args := [] }

/-- 'laws.FnExactIsBarred': WHATEVER THE INPUT: true; the input reads as it did. -/
def fnExactIsBarredSpec : ChangeSpec := { name := "fnExactIsBarred", fn := fun _ => fun
  | [d1, d2, d3] => { results := [.lit (.bool true)], args := [d1, d2, d3] }
  | _ => none }
def fnExactIsBarredRow : OpenClaim := { program := "ytkneckknjmahdaa", sum := "9a17a4c6a534c90b9915b1217f2dc072a81161f3cf442c6e8c53c8fcfc3f35d3", func := "loop.example/g00597/laws.FnExactIsBarred", spec := "fnExactIsBarred", unfollowed := true, recurses := true, apart := false }
def FnExactIsBarredSaid : Prop := fnExactIsBarredRow.holds Try.pinned (OpenSpec.ofChange fnExactIsBarredSpec)

/-- ITS FALSE NEIGHBOUR: 'it returns false'. Refute it at one input. -/
def fnExactIsBarredWrong : ChangeSpec := { name := "fnExactIsBarred", fn := fun _ => fun
  | [d1, d2, d3] => { results := [.lit (.bool false)], args := [d1, d2, d3] }
  | _ => none }
def FnExactIsBarredWrongFalsely : Prop := fnExactIsBarredRow.holds Try.pinned (OpenSpec.ofChange fnExactIsBarredWrong)

/-- 'laws.FnExactIsEntitled': WHATEVER THE INPUT: true; the input reads as it did. -/
def fnExactIsEntitledSpec : ChangeSpec := { name := "fnExactIsEntitled", fn := fun _ => fun
  | [d1, d2, d3] => { results := [.lit (.bool true)], args := [d1, d2, d3] }
  | _ => none }
def fnExactIsEntitledRow : OpenClaim := { program := "ytkneckknjmahdaa", sum := "9a17a4c6a534c90b9915b1217f2dc072a81161f3cf442c6e8c53c8fcfc3f35d3", func := "loop.example/g00597/laws.FnExactIsEntitled", spec := "fnExactIsEntitled", apart := false }
def FnExactIsEntitledSaid : Prop := fnExactIsEntitledRow.holds Try.pinned (OpenSpec.ofChange fnExactIsEntitledSpec)

/-- ITS FALSE NEIGHBOUR: 'it returns false'. Refute it at one input. -/
def fnExactIsEntitledWrong : ChangeSpec := { name := "fnExactIsEntitled", fn := fun _ => fun
  | [d1, d2, d3] => { results := [.lit (.bool false)], args := [d1, d2, d3] }
  | _ => none }
def FnExactIsEntitledWrongFalsely : Prop := fnExactIsEntitledRow.holds Try.pinned (OpenSpec.ofChange fnExactIsEntitledWrong)

/-- 'laws.FnExactCurrentKey': WHATEVER THE INPUT: true; the input reads as it did. -/
def fnExactCurrentKeySpec : ChangeSpec := { name := "fnExactCurrentKey", fn := fun _ => fun
  | [d1, d2, d3, d4] => { results := [.lit (.bool true)], args := [d1, d2, d3, d4] }
  | _ => none }
def fnExactCurrentKeyRow : OpenClaim := { program := "ytkneckknjmahdaa", sum := "9a17a4c6a534c90b9915b1217f2dc072a81161f3cf442c6e8c53c8fcfc3f35d3", func := "loop.example/g00597/laws.FnExactCurrentKey", spec := "fnExactCurrentKey", apart := false }
def FnExactCurrentKeySaid : Prop := fnExactCurrentKeyRow.holds Try.pinned (OpenSpec.ofChange fnExactCurrentKeySpec)

/-- ITS FALSE NEIGHBOUR: 'it returns false'. Refute it at one input. -/
def fnExactCurrentKeyWrong : ChangeSpec := { name := "fnExactCurrentKey", fn := fun _ => fun
  | [d1, d2, d3, d4] => { results := [.lit (.bool false)], args := [d1, d2, d3, d4] }
  | _ => none }
def FnExactCurrentKeyWrongFalsely : Prop := fnExactCurrentKeyRow.holds Try.pinned (OpenSpec.ofChange fnExactCurrentKeyWrong)

/-- 'laws.FnExactBadSpans': WHATEVER THE INPUT: true; the input reads as it did. -/
def fnExactBadSpansSpec : ChangeSpec := { name := "fnExactBadSpans", fn := fun _ => fun
  | [d1, d2] => { results := [.lit (.bool true)], args := [d1, d2] }
  | _ => none }
def fnExactBadSpansRow : OpenClaim := { program := "ytkneckknjmahdaa", sum := "9a17a4c6a534c90b9915b1217f2dc072a81161f3cf442c6e8c53c8fcfc3f35d3", func := "loop.example/g00597/laws.FnExactBadSpans", spec := "fnExactBadSpans", unfollowed := true, recurses := true, apart := false }
def FnExactBadSpansSaid : Prop := fnExactBadSpansRow.holds Try.pinned (OpenSpec.ofChange fnExactBadSpansSpec)

/-- ITS FALSE NEIGHBOUR: 'it returns false'. Refute it at one input. -/
def fnExactBadSpansWrong : ChangeSpec := { name := "fnExactBadSpans", fn := fun _ => fun
  | [d1, d2] => { results := [.lit (.bool false)], args := [d1, d2] }
  | _ => none }
def FnExactBadSpansWrongFalsely : Prop := fnExactBadSpansRow.holds Try.pinned (OpenSpec.ofChange fnExactBadSpansWrong)

/-- 'laws.FnExactGoodSpans': WHATEVER THE INPUT: true; the input reads as it did. -/
def fnExactGoodSpansSpec : ChangeSpec := { name := "fnExactGoodSpans", fn := fun _ => fun
  | [d1, d2] => { results := [.lit (.bool true)], args := [d1, d2] }
  | _ => none }
def fnExactGoodSpansRow : OpenClaim := { program := "ytkneckknjmahdaa", sum := "9a17a4c6a534c90b9915b1217f2dc072a81161f3cf442c6e8c53c8fcfc3f35d3", func := "loop.example/g00597/laws.FnExactGoodSpans", spec := "fnExactGoodSpans", apart := false }
def FnExactGoodSpansSaid : Prop := fnExactGoodSpansRow.holds Try.pinned (OpenSpec.ofChange fnExactGoodSpansSpec)

/-- ITS FALSE NEIGHBOUR: 'it returns false'. Refute it at one input. -/
def fnExactGoodSpansWrong : ChangeSpec := { name := "fnExactGoodSpans", fn := fun _ => fun
  | [d1, d2] => { results := [.lit (.bool false)], args := [d1, d2] }
  | _ => none }
def FnExactGoodSpansWrongFalsely : Prop := fnExactGoodSpansRow.holds Try.pinned (OpenSpec.ofChange fnExactGoodSpansWrong)

/-- 'laws.FnExactKeyLine': WHATEVER THE INPUT: true; the input reads as it did. -/
def fnExactKeyLineSpec : ChangeSpec := { name := "fnExactKeyLine", fn := fun _ => fun
  | [d1, d2, d3, d4] => { results := [.lit (.bool true)], args := [d1, d2, d3, d4] }
  | _ => none }
def fnExactKeyLineRow : OpenClaim := { program := "ytkneckknjmahdaa", sum := "9a17a4c6a534c90b9915b1217f2dc072a81161f3cf442c6e8c53c8fcfc3f35d3", func := "loop.example/g00597/laws.FnExactKeyLine", spec := "fnExactKeyLine", apart := false }
def FnExactKeyLineSaid : Prop := fnExactKeyLineRow.holds Try.pinned (OpenSpec.ofChange fnExactKeyLineSpec)

/-- ITS FALSE NEIGHBOUR: 'it returns false'. Refute it at one input. -/
def fnExactKeyLineWrong : ChangeSpec := { name := "fnExactKeyLine", fn := fun _ => fun
  | [d1, d2, d3, d4] => { results := [.lit (.bool false)], args := [d1, d2, d3, d4] }
  | _ => none }
def FnExactKeyLineWrongFalsely : Prop := fnExactKeyLineRow.holds Try.pinned (OpenSpec.ofChange fnExactKeyLineWrong)

/-- 'laws.FnExactRenewalSpan': WHATEVER THE INPUT: true; the input reads as it did. -/
def fnExactRenewalSpanSpec : ChangeSpec := { name := "fnExactRenewalSpan", fn := fun _ => fun
  | [d1, d2, d3] => { results := [.lit (.bool true)], args := [d1, d2, d3] }
  | _ => none }
def fnExactRenewalSpanRow : OpenClaim := { program := "ytkneckknjmahdaa", sum := "9a17a4c6a534c90b9915b1217f2dc072a81161f3cf442c6e8c53c8fcfc3f35d3", func := "loop.example/g00597/laws.FnExactRenewalSpan", spec := "fnExactRenewalSpan", apart := false }
def FnExactRenewalSpanSaid : Prop := fnExactRenewalSpanRow.holds Try.pinned (OpenSpec.ofChange fnExactRenewalSpanSpec)

/-- ITS FALSE NEIGHBOUR: 'it returns false'. Refute it at one input. -/
def fnExactRenewalSpanWrong : ChangeSpec := { name := "fnExactRenewalSpan", fn := fun _ => fun
  | [d1, d2, d3] => { results := [.lit (.bool false)], args := [d1, d2, d3] }
  | _ => none }
def FnExactRenewalSpanWrongFalsely : Prop := fnExactRenewalSpanRow.holds Try.pinned (OpenSpec.ofChange fnExactRenewalSpanWrong)

/-- 'laws.FnExactOpenTimes': WHATEVER THE INPUT: true; the input reads as it did. -/
def fnExactOpenTimesSpec : ChangeSpec := { name := "fnExactOpenTimes", fn := fun _ => fun
  | [d1, d2] => { results := [.lit (.bool true)], args := [d1, d2] }
  | _ => none }
def fnExactOpenTimesRow : OpenClaim := { program := "ytkneckknjmahdaa", sum := "9a17a4c6a534c90b9915b1217f2dc072a81161f3cf442c6e8c53c8fcfc3f35d3", func := "loop.example/g00597/laws.FnExactOpenTimes", spec := "fnExactOpenTimes", unfollowed := true, recurses := true, apart := false }
def FnExactOpenTimesSaid : Prop := fnExactOpenTimesRow.holds Try.pinned (OpenSpec.ofChange fnExactOpenTimesSpec)

/-- ITS FALSE NEIGHBOUR: 'it returns false'. Refute it at one input. -/
def fnExactOpenTimesWrong : ChangeSpec := { name := "fnExactOpenTimes", fn := fun _ => fun
  | [d1, d2] => { results := [.lit (.bool false)], args := [d1, d2] }
  | _ => none }
def FnExactOpenTimesWrongFalsely : Prop := fnExactOpenTimesRow.holds Try.pinned (OpenSpec.ofChange fnExactOpenTimesWrong)

/-- 'laws.FnExactRenewalBreak': WHATEVER THE INPUT: true; the input reads as it did. -/
def fnExactRenewalBreakSpec : ChangeSpec := { name := "fnExactRenewalBreak", fn := fun _ => fun
  | [d1, d2, d3, d4] => { results := [.lit (.bool true)], args := [d1, d2, d3, d4] }
  | _ => none }
def fnExactRenewalBreakRow : OpenClaim := { program := "ytkneckknjmahdaa", sum := "9a17a4c6a534c90b9915b1217f2dc072a81161f3cf442c6e8c53c8fcfc3f35d3", func := "loop.example/g00597/laws.FnExactRenewalBreak", spec := "fnExactRenewalBreak", apart := false }
def FnExactRenewalBreakSaid : Prop := fnExactRenewalBreakRow.holds Try.pinned (OpenSpec.ofChange fnExactRenewalBreakSpec)

/-- ITS FALSE NEIGHBOUR: 'it returns false'. Refute it at one input. -/
def fnExactRenewalBreakWrong : ChangeSpec := { name := "fnExactRenewalBreak", fn := fun _ => fun
  | [d1, d2, d3, d4] => { results := [.lit (.bool false)], args := [d1, d2, d3, d4] }
  | _ => none }
def FnExactRenewalBreakWrongFalsely : Prop := fnExactRenewalBreakRow.holds Try.pinned (OpenSpec.ofChange fnExactRenewalBreakWrong)

/-- 'laws.FnExactCheckRenewal': WHATEVER THE INPUT: true; the input reads as it did. -/
def fnExactCheckRenewalSpec : ChangeSpec := { name := "fnExactCheckRenewal", fn := fun _ => fun
  | [d1, d2, d3, d4] => { results := [.lit (.bool true)], args := [d1, d2, d3, d4] }
  | _ => none }
def fnExactCheckRenewalRow : OpenClaim := { program := "ytkneckknjmahdaa", sum := "9a17a4c6a534c90b9915b1217f2dc072a81161f3cf442c6e8c53c8fcfc3f35d3", func := "loop.example/g00597/laws.FnExactCheckRenewal", spec := "fnExactCheckRenewal", apart := false }
def FnExactCheckRenewalSaid : Prop := fnExactCheckRenewalRow.holds Try.pinned (OpenSpec.ofChange fnExactCheckRenewalSpec)

/-- ITS FALSE NEIGHBOUR: 'it returns false'. Refute it at one input. -/
def fnExactCheckRenewalWrong : ChangeSpec := { name := "fnExactCheckRenewal", fn := fun _ => fun
  | [d1, d2, d3, d4] => { results := [.lit (.bool false)], args := [d1, d2, d3, d4] }
  | _ => none }
def FnExactCheckRenewalWrongFalsely : Prop := fnExactCheckRenewalRow.holds Try.pinned (OpenSpec.ofChange fnExactCheckRenewalWrong)

/-- 'laws.FnExactDocDigests': WHATEVER THE INPUT: true; the input reads as it did. -/
def fnExactDocDigestsSpec : ChangeSpec := { name := "fnExactDocDigests", fn := fun _ => fun
  | [d1, d2] => { results := [.lit (.bool true)], args := [d1, d2] }
  | _ => none }
def fnExactDocDigestsRow : OpenClaim := { program := "ytkneckknjmahdaa", sum := "9a17a4c6a534c90b9915b1217f2dc072a81161f3cf442c6e8c53c8fcfc3f35d3", func := "loop.example/g00597/laws.FnExactDocDigests", spec := "fnExactDocDigests", apart := false }
def FnExactDocDigestsSaid : Prop := fnExactDocDigestsRow.holds Try.pinned (OpenSpec.ofChange fnExactDocDigestsSpec)

/-- ITS FALSE NEIGHBOUR: 'it returns false'. Refute it at one input. -/
def fnExactDocDigestsWrong : ChangeSpec := { name := "fnExactDocDigests", fn := fun _ => fun
  | [d1, d2] => { results := [.lit (.bool false)], args := [d1, d2] }
  | _ => none }
def FnExactDocDigestsWrongFalsely : Prop := fnExactDocDigestsRow.holds Try.pinned (OpenSpec.ofChange fnExactDocDigestsWrong)

/-- 'laws.FnExactAddPiece': WHATEVER THE INPUT: true; the input reads as it did. -/
def fnExactAddPieceSpec : ChangeSpec := { name := "fnExactAddPiece", fn := fun _ => fun
  | [d1, d2] => { results := [.lit (.bool true)], args := [d1, d2] }
  | _ => none }
def fnExactAddPieceRow : OpenClaim := { program := "ytkneckknjmahdaa", sum := "9a17a4c6a534c90b9915b1217f2dc072a81161f3cf442c6e8c53c8fcfc3f35d3", func := "loop.example/g00597/laws.FnExactAddPiece", spec := "fnExactAddPiece", apart := false }
def FnExactAddPieceSaid : Prop := fnExactAddPieceRow.holds Try.pinned (OpenSpec.ofChange fnExactAddPieceSpec)

/-- ITS FALSE NEIGHBOUR: 'it returns false'. Refute it at one input. -/
def fnExactAddPieceWrong : ChangeSpec := { name := "fnExactAddPiece", fn := fun _ => fun
  | [d1, d2] => { results := [.lit (.bool false)], args := [d1, d2] }
  | _ => none }
def FnExactAddPieceWrongFalsely : Prop := fnExactAddPieceRow.holds Try.pinned (OpenSpec.ofChange fnExactAddPieceWrong)

/-- 'laws.FnExactAddRenewal': WHATEVER THE INPUT: true; the input reads as it did. -/
def fnExactAddRenewalSpec : ChangeSpec := { name := "fnExactAddRenewal", fn := fun _ => fun
  | [d1, d2] => { results := [.lit (.bool true)], args := [d1, d2] }
  | _ => none }
def fnExactAddRenewalRow : OpenClaim := { program := "ytkneckknjmahdaa", sum := "9a17a4c6a534c90b9915b1217f2dc072a81161f3cf442c6e8c53c8fcfc3f35d3", func := "loop.example/g00597/laws.FnExactAddRenewal", spec := "fnExactAddRenewal", apart := false }
def FnExactAddRenewalSaid : Prop := fnExactAddRenewalRow.holds Try.pinned (OpenSpec.ofChange fnExactAddRenewalSpec)

/-- ITS FALSE NEIGHBOUR: 'it returns false'. Refute it at one input. -/
def fnExactAddRenewalWrong : ChangeSpec := { name := "fnExactAddRenewal", fn := fun _ => fun
  | [d1, d2] => { results := [.lit (.bool false)], args := [d1, d2] }
  | _ => none }
def FnExactAddRenewalWrongFalsely : Prop := fnExactAddRenewalRow.holds Try.pinned (OpenSpec.ofChange fnExactAddRenewalWrong)

/-- 'laws.FnExactFirstFault': WHATEVER THE INPUT: true; the input reads as it did. -/
def fnExactFirstFaultSpec : ChangeSpec := { name := "fnExactFirstFault", fn := fun _ => fun
  | [d1, d2, d3, d4] => { results := [.lit (.bool true)], args := [d1, d2, d3, d4] }
  | _ => none }
def fnExactFirstFaultRow : OpenClaim := { program := "ytkneckknjmahdaa", sum := "9a17a4c6a534c90b9915b1217f2dc072a81161f3cf442c6e8c53c8fcfc3f35d3", func := "loop.example/g00597/laws.FnExactFirstFault", spec := "fnExactFirstFault", apart := false }
def FnExactFirstFaultSaid : Prop := fnExactFirstFaultRow.holds Try.pinned (OpenSpec.ofChange fnExactFirstFaultSpec)

/-- ITS FALSE NEIGHBOUR: 'it returns false'. Refute it at one input. -/
def fnExactFirstFaultWrong : ChangeSpec := { name := "fnExactFirstFault", fn := fun _ => fun
  | [d1, d2, d3, d4] => { results := [.lit (.bool false)], args := [d1, d2, d3, d4] }
  | _ => none }
def FnExactFirstFaultWrongFalsely : Prop := fnExactFirstFaultRow.holds Try.pinned (OpenSpec.ofChange fnExactFirstFaultWrong)

/-- 'laws.FnExactAllDocDigests': WHATEVER THE INPUT: true; the input reads as it did. -/
def fnExactAllDocDigestsSpec : ChangeSpec := { name := "fnExactAllDocDigests", fn := fun _ => fun
  | [d1, d2] => { results := [.lit (.bool true)], args := [d1, d2] }
  | _ => none }
def fnExactAllDocDigestsRow : OpenClaim := { program := "ytkneckknjmahdaa", sum := "9a17a4c6a534c90b9915b1217f2dc072a81161f3cf442c6e8c53c8fcfc3f35d3", func := "loop.example/g00597/laws.FnExactAllDocDigests", spec := "fnExactAllDocDigests", apart := false }
def FnExactAllDocDigestsSaid : Prop := fnExactAllDocDigestsRow.holds Try.pinned (OpenSpec.ofChange fnExactAllDocDigestsSpec)

/-- ITS FALSE NEIGHBOUR: 'it returns false'. Refute it at one input. -/
def fnExactAllDocDigestsWrong : ChangeSpec := { name := "fnExactAllDocDigests", fn := fun _ => fun
  | [d1, d2] => { results := [.lit (.bool false)], args := [d1, d2] }
  | _ => none }
def FnExactAllDocDigestsWrongFalsely : Prop := fnExactAllDocDigestsRow.holds Try.pinned (OpenSpec.ofChange fnExactAllDocDigestsWrong)

/-- 'laws.FnExactRedactedDigests': WHATEVER THE INPUT: true; the input reads as it did. -/
def fnExactRedactedDigestsSpec : ChangeSpec := { name := "fnExactRedactedDigests", fn := fun _ => fun
  | [d1, d2] => { results := [.lit (.bool true)], args := [d1, d2] }
  | _ => none }
def fnExactRedactedDigestsRow : OpenClaim := { program := "ytkneckknjmahdaa", sum := "9a17a4c6a534c90b9915b1217f2dc072a81161f3cf442c6e8c53c8fcfc3f35d3", func := "loop.example/g00597/laws.FnExactRedactedDigests", spec := "fnExactRedactedDigests", apart := false }
def FnExactRedactedDigestsSaid : Prop := fnExactRedactedDigestsRow.holds Try.pinned (OpenSpec.ofChange fnExactRedactedDigestsSpec)

/-- ITS FALSE NEIGHBOUR: 'it returns false'. Refute it at one input. -/
def fnExactRedactedDigestsWrong : ChangeSpec := { name := "fnExactRedactedDigests", fn := fun _ => fun
  | [d1, d2] => { results := [.lit (.bool false)], args := [d1, d2] }
  | _ => none }
def FnExactRedactedDigestsWrongFalsely : Prop := fnExactRedactedDigestsRow.holds Try.pinned (OpenSpec.ofChange fnExactRedactedDigestsWrong)

/-- 'laws.FnExactLinkHolds': WHATEVER THE INPUT: true; the input reads as it did. -/
def fnExactLinkHoldsSpec : ChangeSpec := { name := "fnExactLinkHolds", fn := fun _ => fun
  | [d1, d2, d3] => { results := [.lit (.bool true)], args := [d1, d2, d3] }
  | _ => none }
def fnExactLinkHoldsRow : OpenClaim := { program := "ytkneckknjmahdaa", sum := "9a17a4c6a534c90b9915b1217f2dc072a81161f3cf442c6e8c53c8fcfc3f35d3", func := "loop.example/g00597/laws.FnExactLinkHolds", spec := "fnExactLinkHolds", apart := false }
def FnExactLinkHoldsSaid : Prop := fnExactLinkHoldsRow.holds Try.pinned (OpenSpec.ofChange fnExactLinkHoldsSpec)

/-- ITS FALSE NEIGHBOUR: 'it returns false'. Refute it at one input. -/
def fnExactLinkHoldsWrong : ChangeSpec := { name := "fnExactLinkHolds", fn := fun _ => fun
  | [d1, d2, d3] => { results := [.lit (.bool false)], args := [d1, d2, d3] }
  | _ => none }
def FnExactLinkHoldsWrongFalsely : Prop := fnExactLinkHoldsRow.holds Try.pinned (OpenSpec.ofChange fnExactLinkHoldsWrong)

/-- 'laws.FnExactJoinEvidence': WHATEVER THE INPUT: true; the input reads as it did. -/
def fnExactJoinEvidenceSpec : ChangeSpec := { name := "fnExactJoinEvidence", fn := fun _ => fun
  | [d1, d2] => { results := [.lit (.bool true)], args := [d1, d2] }
  | _ => none }
def fnExactJoinEvidenceRow : OpenClaim := { program := "ytkneckknjmahdaa", sum := "9a17a4c6a534c90b9915b1217f2dc072a81161f3cf442c6e8c53c8fcfc3f35d3", func := "loop.example/g00597/laws.FnExactJoinEvidence", spec := "fnExactJoinEvidence", apart := false }
def FnExactJoinEvidenceSaid : Prop := fnExactJoinEvidenceRow.holds Try.pinned (OpenSpec.ofChange fnExactJoinEvidenceSpec)

/-- ITS FALSE NEIGHBOUR: 'it returns false'. Refute it at one input. -/
def fnExactJoinEvidenceWrong : ChangeSpec := { name := "fnExactJoinEvidence", fn := fun _ => fun
  | [d1, d2] => { results := [.lit (.bool false)], args := [d1, d2] }
  | _ => none }
def FnExactJoinEvidenceWrongFalsely : Prop := fnExactJoinEvidenceRow.holds Try.pinned (OpenSpec.ofChange fnExactJoinEvidenceWrong)

/-- 'laws.FnExactAllRedactedDigests': WHATEVER THE INPUT: true; the input reads as it did. -/
def fnExactAllRedactedDigestsSpec : ChangeSpec := { name := "fnExactAllRedactedDigests", fn := fun _ => fun
  | [d1, d2] => { results := [.lit (.bool true)], args := [d1, d2] }
  | _ => none }
def fnExactAllRedactedDigestsRow : OpenClaim := { program := "ytkneckknjmahdaa", sum := "9a17a4c6a534c90b9915b1217f2dc072a81161f3cf442c6e8c53c8fcfc3f35d3", func := "loop.example/g00597/laws.FnExactAllRedactedDigests", spec := "fnExactAllRedactedDigests", apart := false }
def FnExactAllRedactedDigestsSaid : Prop := fnExactAllRedactedDigestsRow.holds Try.pinned (OpenSpec.ofChange fnExactAllRedactedDigestsSpec)

/-- ITS FALSE NEIGHBOUR: 'it returns false'. Refute it at one input. -/
def fnExactAllRedactedDigestsWrong : ChangeSpec := { name := "fnExactAllRedactedDigests", fn := fun _ => fun
  | [d1, d2] => { results := [.lit (.bool false)], args := [d1, d2] }
  | _ => none }
def FnExactAllRedactedDigestsWrongFalsely : Prop := fnExactAllRedactedDigestsRow.holds Try.pinned (OpenSpec.ofChange fnExactAllRedactedDigestsWrong)

/- THE SECOND FORM. 'bulk': how many values and letters a reading holds, each counted each time it is reached (what is shared counts as often as it is met; a slice's spare places count too). A statement '..UptoSaid' is the law's where the arguments, and the package variables that the reading takes, are together of bulk at most 1048576: NARROWER than '..Said'. Prove '..Said' where nothing that the law and all that it calls make is longer than what came in: it says more and counts as full. Else prove '..UptoSaid'. A law counts once. -/
mutual
def uptoBulk {H : Type} : DataW H → Nat
  | .lit (.string bytes) => bytes.length + 1
  | .lit _ => 1
  | .nil => 1
  | .ptr d => uptoBulk d + 1
  | .slice elems spare => uptoBulkAll elems + uptoBulkAll spare + 1
  | .agg parts => uptoBulkAll parts + 1
  | .iface _ d => uptoBulk d + 1
  | .map entries => uptoBulkEntries entries + 1
  | .held _ => 1
def uptoBulkAll {H : Type} : List (DataW H) → Nat
  | [] => 0
  | d :: r => uptoBulk d + uptoBulkAll r
def uptoBulkEntries {H : Type} : List (Lit × DataW H) → Nat
  | [] => 0
  | x :: r => uptoBulkEntry x + uptoBulkEntries r
def uptoBulkEntry {H : Type} : Lit × DataW H → Nat
  | (.string bytes, d) => bytes.length + uptoBulk d + 1
  | (_, d) => uptoBulk d + 1
 end
def uptoSmall : (H : Type) → List (DataW H) → Bool := fun _ ds => decide (uptoBulkAll ds ≤ 1048576)
def OpenSpec.upto (s : _root_.Go.ChangeSpec) : _root_.Go.OpenSpec := { _root_.Go.OpenSpec.ofChange s with cond := some uptoSmall }

/-- 'laws.FnExactIsBarred', WHERE WHAT IT READS IS OF BULK AT MOST 1048576: true; the input reads as it did. -/
def fnExactIsBarredUptoRow : OpenClaim := { program := "ytkneckknjmahdaa", sum := "9a17a4c6a534c90b9915b1217f2dc072a81161f3cf442c6e8c53c8fcfc3f35d3", func := "loop.example/g00597/laws.FnExactIsBarred", spec := "fnExactIsBarred", unfollowed := true, recurses := true, apart := false, narrowed := true }
def FnExactIsBarredUptoSaid : Prop := fnExactIsBarredUptoRow.holds Try.pinned (OpenSpec.upto fnExactIsBarredSpec)

/-- 'laws.FnExactIsEntitled', WHERE WHAT IT READS IS OF BULK AT MOST 1048576: true; the input reads as it did. -/
def fnExactIsEntitledUptoRow : OpenClaim := { program := "ytkneckknjmahdaa", sum := "9a17a4c6a534c90b9915b1217f2dc072a81161f3cf442c6e8c53c8fcfc3f35d3", func := "loop.example/g00597/laws.FnExactIsEntitled", spec := "fnExactIsEntitled", apart := false, narrowed := true }
def FnExactIsEntitledUptoSaid : Prop := fnExactIsEntitledUptoRow.holds Try.pinned (OpenSpec.upto fnExactIsEntitledSpec)

/-- 'laws.FnExactCurrentKey', WHERE WHAT IT READS IS OF BULK AT MOST 1048576: true; the input reads as it did. -/
def fnExactCurrentKeyUptoRow : OpenClaim := { program := "ytkneckknjmahdaa", sum := "9a17a4c6a534c90b9915b1217f2dc072a81161f3cf442c6e8c53c8fcfc3f35d3", func := "loop.example/g00597/laws.FnExactCurrentKey", spec := "fnExactCurrentKey", apart := false, narrowed := true }
def FnExactCurrentKeyUptoSaid : Prop := fnExactCurrentKeyUptoRow.holds Try.pinned (OpenSpec.upto fnExactCurrentKeySpec)

/-- 'laws.FnExactBadSpans', WHERE WHAT IT READS IS OF BULK AT MOST 1048576: true; the input reads as it did. -/
def fnExactBadSpansUptoRow : OpenClaim := { program := "ytkneckknjmahdaa", sum := "9a17a4c6a534c90b9915b1217f2dc072a81161f3cf442c6e8c53c8fcfc3f35d3", func := "loop.example/g00597/laws.FnExactBadSpans", spec := "fnExactBadSpans", unfollowed := true, recurses := true, apart := false, narrowed := true }
def FnExactBadSpansUptoSaid : Prop := fnExactBadSpansUptoRow.holds Try.pinned (OpenSpec.upto fnExactBadSpansSpec)

/-- 'laws.FnExactGoodSpans', WHERE WHAT IT READS IS OF BULK AT MOST 1048576: true; the input reads as it did. -/
def fnExactGoodSpansUptoRow : OpenClaim := { program := "ytkneckknjmahdaa", sum := "9a17a4c6a534c90b9915b1217f2dc072a81161f3cf442c6e8c53c8fcfc3f35d3", func := "loop.example/g00597/laws.FnExactGoodSpans", spec := "fnExactGoodSpans", apart := false, narrowed := true }
def FnExactGoodSpansUptoSaid : Prop := fnExactGoodSpansUptoRow.holds Try.pinned (OpenSpec.upto fnExactGoodSpansSpec)

/-- 'laws.FnExactKeyLine', WHERE WHAT IT READS IS OF BULK AT MOST 1048576: true; the input reads as it did. -/
def fnExactKeyLineUptoRow : OpenClaim := { program := "ytkneckknjmahdaa", sum := "9a17a4c6a534c90b9915b1217f2dc072a81161f3cf442c6e8c53c8fcfc3f35d3", func := "loop.example/g00597/laws.FnExactKeyLine", spec := "fnExactKeyLine", apart := false, narrowed := true }
def FnExactKeyLineUptoSaid : Prop := fnExactKeyLineUptoRow.holds Try.pinned (OpenSpec.upto fnExactKeyLineSpec)

/-- 'laws.FnExactRenewalSpan', WHERE WHAT IT READS IS OF BULK AT MOST 1048576: true; the input reads as it did. -/
def fnExactRenewalSpanUptoRow : OpenClaim := { program := "ytkneckknjmahdaa", sum := "9a17a4c6a534c90b9915b1217f2dc072a81161f3cf442c6e8c53c8fcfc3f35d3", func := "loop.example/g00597/laws.FnExactRenewalSpan", spec := "fnExactRenewalSpan", apart := false, narrowed := true }
def FnExactRenewalSpanUptoSaid : Prop := fnExactRenewalSpanUptoRow.holds Try.pinned (OpenSpec.upto fnExactRenewalSpanSpec)

/-- 'laws.FnExactOpenTimes', WHERE WHAT IT READS IS OF BULK AT MOST 1048576: true; the input reads as it did. -/
def fnExactOpenTimesUptoRow : OpenClaim := { program := "ytkneckknjmahdaa", sum := "9a17a4c6a534c90b9915b1217f2dc072a81161f3cf442c6e8c53c8fcfc3f35d3", func := "loop.example/g00597/laws.FnExactOpenTimes", spec := "fnExactOpenTimes", unfollowed := true, recurses := true, apart := false, narrowed := true }
def FnExactOpenTimesUptoSaid : Prop := fnExactOpenTimesUptoRow.holds Try.pinned (OpenSpec.upto fnExactOpenTimesSpec)

/-- 'laws.FnExactRenewalBreak', WHERE WHAT IT READS IS OF BULK AT MOST 1048576: true; the input reads as it did. -/
def fnExactRenewalBreakUptoRow : OpenClaim := { program := "ytkneckknjmahdaa", sum := "9a17a4c6a534c90b9915b1217f2dc072a81161f3cf442c6e8c53c8fcfc3f35d3", func := "loop.example/g00597/laws.FnExactRenewalBreak", spec := "fnExactRenewalBreak", apart := false, narrowed := true }
def FnExactRenewalBreakUptoSaid : Prop := fnExactRenewalBreakUptoRow.holds Try.pinned (OpenSpec.upto fnExactRenewalBreakSpec)

/-- 'laws.FnExactCheckRenewal', WHERE WHAT IT READS IS OF BULK AT MOST 1048576: true; the input reads as it did. -/
def fnExactCheckRenewalUptoRow : OpenClaim := { program := "ytkneckknjmahdaa", sum := "9a17a4c6a534c90b9915b1217f2dc072a81161f3cf442c6e8c53c8fcfc3f35d3", func := "loop.example/g00597/laws.FnExactCheckRenewal", spec := "fnExactCheckRenewal", apart := false, narrowed := true }
def FnExactCheckRenewalUptoSaid : Prop := fnExactCheckRenewalUptoRow.holds Try.pinned (OpenSpec.upto fnExactCheckRenewalSpec)

/-- 'laws.FnExactDocDigests', WHERE WHAT IT READS IS OF BULK AT MOST 1048576: true; the input reads as it did. -/
def fnExactDocDigestsUptoRow : OpenClaim := { program := "ytkneckknjmahdaa", sum := "9a17a4c6a534c90b9915b1217f2dc072a81161f3cf442c6e8c53c8fcfc3f35d3", func := "loop.example/g00597/laws.FnExactDocDigests", spec := "fnExactDocDigests", apart := false, narrowed := true }
def FnExactDocDigestsUptoSaid : Prop := fnExactDocDigestsUptoRow.holds Try.pinned (OpenSpec.upto fnExactDocDigestsSpec)

/-- 'laws.FnExactAddPiece', WHERE WHAT IT READS IS OF BULK AT MOST 1048576: true; the input reads as it did. -/
def fnExactAddPieceUptoRow : OpenClaim := { program := "ytkneckknjmahdaa", sum := "9a17a4c6a534c90b9915b1217f2dc072a81161f3cf442c6e8c53c8fcfc3f35d3", func := "loop.example/g00597/laws.FnExactAddPiece", spec := "fnExactAddPiece", apart := false, narrowed := true }
def FnExactAddPieceUptoSaid : Prop := fnExactAddPieceUptoRow.holds Try.pinned (OpenSpec.upto fnExactAddPieceSpec)

/-- 'laws.FnExactAddRenewal', WHERE WHAT IT READS IS OF BULK AT MOST 1048576: true; the input reads as it did. -/
def fnExactAddRenewalUptoRow : OpenClaim := { program := "ytkneckknjmahdaa", sum := "9a17a4c6a534c90b9915b1217f2dc072a81161f3cf442c6e8c53c8fcfc3f35d3", func := "loop.example/g00597/laws.FnExactAddRenewal", spec := "fnExactAddRenewal", apart := false, narrowed := true }
def FnExactAddRenewalUptoSaid : Prop := fnExactAddRenewalUptoRow.holds Try.pinned (OpenSpec.upto fnExactAddRenewalSpec)

/-- 'laws.FnExactFirstFault', WHERE WHAT IT READS IS OF BULK AT MOST 1048576: true; the input reads as it did. -/
def fnExactFirstFaultUptoRow : OpenClaim := { program := "ytkneckknjmahdaa", sum := "9a17a4c6a534c90b9915b1217f2dc072a81161f3cf442c6e8c53c8fcfc3f35d3", func := "loop.example/g00597/laws.FnExactFirstFault", spec := "fnExactFirstFault", apart := false, narrowed := true }
def FnExactFirstFaultUptoSaid : Prop := fnExactFirstFaultUptoRow.holds Try.pinned (OpenSpec.upto fnExactFirstFaultSpec)

/-- 'laws.FnExactAllDocDigests', WHERE WHAT IT READS IS OF BULK AT MOST 1048576: true; the input reads as it did. -/
def fnExactAllDocDigestsUptoRow : OpenClaim := { program := "ytkneckknjmahdaa", sum := "9a17a4c6a534c90b9915b1217f2dc072a81161f3cf442c6e8c53c8fcfc3f35d3", func := "loop.example/g00597/laws.FnExactAllDocDigests", spec := "fnExactAllDocDigests", apart := false, narrowed := true }
def FnExactAllDocDigestsUptoSaid : Prop := fnExactAllDocDigestsUptoRow.holds Try.pinned (OpenSpec.upto fnExactAllDocDigestsSpec)

/-- 'laws.FnExactRedactedDigests', WHERE WHAT IT READS IS OF BULK AT MOST 1048576: true; the input reads as it did. -/
def fnExactRedactedDigestsUptoRow : OpenClaim := { program := "ytkneckknjmahdaa", sum := "9a17a4c6a534c90b9915b1217f2dc072a81161f3cf442c6e8c53c8fcfc3f35d3", func := "loop.example/g00597/laws.FnExactRedactedDigests", spec := "fnExactRedactedDigests", apart := false, narrowed := true }
def FnExactRedactedDigestsUptoSaid : Prop := fnExactRedactedDigestsUptoRow.holds Try.pinned (OpenSpec.upto fnExactRedactedDigestsSpec)

/-- 'laws.FnExactLinkHolds', WHERE WHAT IT READS IS OF BULK AT MOST 1048576: true; the input reads as it did. -/
def fnExactLinkHoldsUptoRow : OpenClaim := { program := "ytkneckknjmahdaa", sum := "9a17a4c6a534c90b9915b1217f2dc072a81161f3cf442c6e8c53c8fcfc3f35d3", func := "loop.example/g00597/laws.FnExactLinkHolds", spec := "fnExactLinkHolds", apart := false, narrowed := true }
def FnExactLinkHoldsUptoSaid : Prop := fnExactLinkHoldsUptoRow.holds Try.pinned (OpenSpec.upto fnExactLinkHoldsSpec)

/-- 'laws.FnExactJoinEvidence', WHERE WHAT IT READS IS OF BULK AT MOST 1048576: true; the input reads as it did. -/
def fnExactJoinEvidenceUptoRow : OpenClaim := { program := "ytkneckknjmahdaa", sum := "9a17a4c6a534c90b9915b1217f2dc072a81161f3cf442c6e8c53c8fcfc3f35d3", func := "loop.example/g00597/laws.FnExactJoinEvidence", spec := "fnExactJoinEvidence", apart := false, narrowed := true }
def FnExactJoinEvidenceUptoSaid : Prop := fnExactJoinEvidenceUptoRow.holds Try.pinned (OpenSpec.upto fnExactJoinEvidenceSpec)

/-- 'laws.FnExactAllRedactedDigests', WHERE WHAT IT READS IS OF BULK AT MOST 1048576: true; the input reads as it did. -/
def fnExactAllRedactedDigestsUptoRow : OpenClaim := { program := "ytkneckknjmahdaa", sum := "9a17a4c6a534c90b9915b1217f2dc072a81161f3cf442c6e8c53c8fcfc3f35d3", func := "loop.example/g00597/laws.FnExactAllRedactedDigests", spec := "fnExactAllRedactedDigests", apart := false, narrowed := true }
def FnExactAllRedactedDigestsUptoSaid : Prop := fnExactAllRedactedDigestsUptoRow.holds Try.pinned (OpenSpec.upto fnExactAllRedactedDigestsSpec)

end Rows
end Go.Proofs.Ytkneckknjmahdaa
