/-
  No cell of these rows narrows 'for every input' (looked for: loops, veiled, ifaces, maps, wideKeys, modest, calm, conditions, laid).
  DERIVED. THE GIVEN ROWS OF THIS SEAT. 23 by the template 'for every input the law returns true; each argument reads behind the call as it read before'; 0 by the template 'total and deterministic' (their statements: YtaeieogcibhhkaaTotals.lean).
  GIVEN WITH THE SEED: the statements are not yours to turn. If you find one false, say at which input.
  Laid BY PROGRAM, IN A SANDBOX (cutbox-rows.mjs): the forced cells as the released guide's own fill.sh prints them over the translation c717cb3f958f5f02… (all of the seat's roots in one cut). By AI agents, Wed Nov 11 2026. No macro, syntax, notation, axiom, sorry.
-/
import Derived.Test.YtaeieogcibhhkaaChecked
import GoSem.Claim
import GoSem.ClaimJoined
import GoSem.ClaimMapViews
import Derived.JoinedTies
import Derived.KernelRfl
namespace Go.Proofs.Ytaeieogcibhhkaa
/- THE CELL 'sum', in the pinned program and in every row, IS THE sha256 OF THE DUMP (.gsa) THAT YtaeieogcibhhkaaProg.lean LOADS. Nothing in Lean hashes anything: it is a label: what it is worth is what the hold of that sum in a sandbox is worth. -/
noncomputable def Try.pinned : Pinned := { name := "ytaeieogcibhhkaa", sum := "c717cb3f958f5f029e39b284a244afc994e4f1d014a65cefac75991fe48349b3", checked := Try.checked }
namespace Rows
def none {H : Type} : Left H := { results := [], args := [] }

/-- 'laws.FnExactLevelsOf': WHATEVER THE INPUT: true; the input reads as it did. -/
def fnExactLevelsOfSpec : ChangeSpec := { name := "fnExactLevelsOf", fn := fun _ => fun
  | [d] => { results := [.lit (.bool true)], args := [d] }
  | _ => none }
def fnExactLevelsOfRow : OpenClaim := { program := "ytaeieogcibhhkaa", sum := "c717cb3f958f5f029e39b284a244afc994e4f1d014a65cefac75991fe48349b3", func := "loop.example/g00597/laws.FnExactLevelsOf", spec := "fnExactLevelsOf", apart := false }
def FnExactLevelsOfSaid : Prop := fnExactLevelsOfRow.holds Try.pinned (OpenSpec.ofChange fnExactLevelsOfSpec)

/-- ITS FALSE NEIGHBOUR: 'it returns false'. Refute it at one input. -/
def fnExactLevelsOfWrong : ChangeSpec := { name := "fnExactLevelsOf", fn := fun _ => fun
  | [d] => { results := [.lit (.bool false)], args := [d] }
  | _ => none }
def FnExactLevelsOfWrongFalsely : Prop := fnExactLevelsOfRow.holds Try.pinned (OpenSpec.ofChange fnExactLevelsOfWrong)

/-- 'laws.FnExactPairDigest': WHATEVER THE INPUT: true; the input reads as it did. -/
def fnExactPairDigestSpec : ChangeSpec := { name := "fnExactPairDigest", fn := fun _ => fun
  | [d1, d2, d3] => { results := [.lit (.bool true)], args := [d1, d2, d3] }
  | _ => none }
def fnExactPairDigestRow : OpenClaim := { program := "ytaeieogcibhhkaa", sum := "c717cb3f958f5f029e39b284a244afc994e4f1d014a65cefac75991fe48349b3", func := "loop.example/g00597/laws.FnExactPairDigest", spec := "fnExactPairDigest", apart := false }
def FnExactPairDigestSaid : Prop := fnExactPairDigestRow.holds Try.pinned (OpenSpec.ofChange fnExactPairDigestSpec)

/-- ITS FALSE NEIGHBOUR: 'it returns false'. Refute it at one input. -/
def fnExactPairDigestWrong : ChangeSpec := { name := "fnExactPairDigest", fn := fun _ => fun
  | [d1, d2, d3] => { results := [.lit (.bool false)], args := [d1, d2, d3] }
  | _ => none }
def FnExactPairDigestWrongFalsely : Prop := fnExactPairDigestRow.holds Try.pinned (OpenSpec.ofChange fnExactPairDigestWrong)

/-- 'laws.FnExactStampPiece': WHATEVER THE INPUT: true; the input reads as it did. -/
def fnExactStampPieceSpec : ChangeSpec := { name := "fnExactStampPiece", fn := fun _ => fun
  | [d1, d2] => { results := [.lit (.bool true)], args := [d1, d2] }
  | _ => none }
def fnExactStampPieceRow : OpenClaim := { program := "ytaeieogcibhhkaa", sum := "c717cb3f958f5f029e39b284a244afc994e4f1d014a65cefac75991fe48349b3", func := "loop.example/g00597/laws.FnExactStampPiece", spec := "fnExactStampPiece", apart := false }
def FnExactStampPieceSaid : Prop := fnExactStampPieceRow.holds Try.pinned (OpenSpec.ofChange fnExactStampPieceSpec)

/-- ITS FALSE NEIGHBOUR: 'it returns false'. Refute it at one input. -/
def fnExactStampPieceWrong : ChangeSpec := { name := "fnExactStampPiece", fn := fun _ => fun
  | [d1, d2] => { results := [.lit (.bool false)], args := [d1, d2] }
  | _ => none }
def FnExactStampPieceWrongFalsely : Prop := fnExactStampPieceRow.holds Try.pinned (OpenSpec.ofChange fnExactStampPieceWrong)

/-- 'laws.FnExactStatusPiece': WHATEVER THE INPUT: true; the input reads as it did. -/
def fnExactStatusPieceSpec : ChangeSpec := { name := "fnExactStatusPiece", fn := fun _ => fun
  | [d] => { results := [.lit (.bool true)], args := [d] }
  | _ => none }
def fnExactStatusPieceRow : OpenClaim := { program := "ytaeieogcibhhkaa", sum := "c717cb3f958f5f029e39b284a244afc994e4f1d014a65cefac75991fe48349b3", func := "loop.example/g00597/laws.FnExactStatusPiece", spec := "fnExactStatusPiece", apart := false }
def FnExactStatusPieceSaid : Prop := fnExactStatusPieceRow.holds Try.pinned (OpenSpec.ofChange fnExactStatusPieceSpec)

/-- ITS FALSE NEIGHBOUR: 'it returns false'. Refute it at one input. -/
def fnExactStatusPieceWrong : ChangeSpec := { name := "fnExactStatusPiece", fn := fun _ => fun
  | [d] => { results := [.lit (.bool false)], args := [d] }
  | _ => none }
def FnExactStatusPieceWrongFalsely : Prop := fnExactStatusPieceRow.holds Try.pinned (OpenSpec.ofChange fnExactStatusPieceWrong)

/-- 'laws.FnExactMandatePiece': WHATEVER THE INPUT: true; the input reads as it did. -/
def fnExactMandatePieceSpec : ChangeSpec := { name := "fnExactMandatePiece", fn := fun _ => fun
  | [d] => { results := [.lit (.bool true)], args := [d] }
  | _ => none }
def fnExactMandatePieceRow : OpenClaim := { program := "ytaeieogcibhhkaa", sum := "c717cb3f958f5f029e39b284a244afc994e4f1d014a65cefac75991fe48349b3", func := "loop.example/g00597/laws.FnExactMandatePiece", spec := "fnExactMandatePiece", apart := false }
def FnExactMandatePieceSaid : Prop := fnExactMandatePieceRow.holds Try.pinned (OpenSpec.ofChange fnExactMandatePieceSpec)

/-- ITS FALSE NEIGHBOUR: 'it returns false'. Refute it at one input. -/
def fnExactMandatePieceWrong : ChangeSpec := { name := "fnExactMandatePiece", fn := fun _ => fun
  | [d] => { results := [.lit (.bool false)], args := [d] }
  | _ => none }
def FnExactMandatePieceWrongFalsely : Prop := fnExactMandatePieceRow.holds Try.pinned (OpenSpec.ofChange fnExactMandatePieceWrong)

/-- 'laws.FnExactKindOfPiece': WHATEVER THE INPUT: true; the input reads as it did. -/
def fnExactKindOfPieceSpec : ChangeSpec := { name := "fnExactKindOfPiece", fn := fun _ => fun
  | [d] => { results := [.lit (.bool true)], args := [d] }
  | _ => none }
def fnExactKindOfPieceRow : OpenClaim := { program := "ytaeieogcibhhkaa", sum := "c717cb3f958f5f029e39b284a244afc994e4f1d014a65cefac75991fe48349b3", func := "loop.example/g00597/laws.FnExactKindOfPiece", spec := "fnExactKindOfPiece", apart := false }
def FnExactKindOfPieceSaid : Prop := fnExactKindOfPieceRow.holds Try.pinned (OpenSpec.ofChange fnExactKindOfPieceSpec)

/-- ITS FALSE NEIGHBOUR: 'it returns false'. Refute it at one input. -/
def fnExactKindOfPieceWrong : ChangeSpec := { name := "fnExactKindOfPiece", fn := fun _ => fun
  | [d] => { results := [.lit (.bool false)], args := [d] }
  | _ => none }
def FnExactKindOfPieceWrongFalsely : Prop := fnExactKindOfPieceRow.holds Try.pinned (OpenSpec.ofChange fnExactKindOfPieceWrong)

/-- 'laws.FnExactCertPiece': WHATEVER THE INPUT: true; the input reads as it did. -/
def fnExactCertPieceSpec : ChangeSpec := { name := "fnExactCertPiece", fn := fun _ => fun
  | [d] => { results := [.lit (.bool true)], args := [d] }
  | _ => none }
def fnExactCertPieceRow : OpenClaim := { program := "ytaeieogcibhhkaa", sum := "c717cb3f958f5f029e39b284a244afc994e4f1d014a65cefac75991fe48349b3", func := "loop.example/g00597/laws.FnExactCertPiece", spec := "fnExactCertPiece", apart := false }
def FnExactCertPieceSaid : Prop := fnExactCertPieceRow.holds Try.pinned (OpenSpec.ofChange fnExactCertPieceSpec)

/-- ITS FALSE NEIGHBOUR: 'it returns false'. Refute it at one input. -/
def fnExactCertPieceWrong : ChangeSpec := { name := "fnExactCertPiece", fn := fun _ => fun
  | [d] => { results := [.lit (.bool false)], args := [d] }
  | _ => none }
def FnExactCertPieceWrongFalsely : Prop := fnExactCertPieceRow.holds Try.pinned (OpenSpec.ofChange fnExactCertPieceWrong)

/-- 'laws.FnExactSignPiece': WHATEVER THE INPUT: true; the input reads as it did. -/
def fnExactSignPieceSpec : ChangeSpec := { name := "fnExactSignPiece", fn := fun _ => fun
  | [d] => { results := [.lit (.bool true)], args := [d] }
  | _ => none }
def fnExactSignPieceRow : OpenClaim := { program := "ytaeieogcibhhkaa", sum := "c717cb3f958f5f029e39b284a244afc994e4f1d014a65cefac75991fe48349b3", func := "loop.example/g00597/laws.FnExactSignPiece", spec := "fnExactSignPiece", apart := false }
def FnExactSignPieceSaid : Prop := fnExactSignPieceRow.holds Try.pinned (OpenSpec.ofChange fnExactSignPieceSpec)

/-- ITS FALSE NEIGHBOUR: 'it returns false'. Refute it at one input. -/
def fnExactSignPieceWrong : ChangeSpec := { name := "fnExactSignPiece", fn := fun _ => fun
  | [d] => { results := [.lit (.bool false)], args := [d] }
  | _ => none }
def FnExactSignPieceWrongFalsely : Prop := fnExactSignPieceRow.holds Try.pinned (OpenSpec.ofChange fnExactSignPieceWrong)

/-- 'laws.FnExactPieceBefore': WHATEVER THE INPUT: true; the input reads as it did. -/
def fnExactPieceBeforeSpec : ChangeSpec := { name := "fnExactPieceBefore", fn := fun _ => fun
  | [d1, d2] => { results := [.lit (.bool true)], args := [d1, d2] }
  | _ => none }
def fnExactPieceBeforeRow : OpenClaim := { program := "ytaeieogcibhhkaa", sum := "c717cb3f958f5f029e39b284a244afc994e4f1d014a65cefac75991fe48349b3", func := "loop.example/g00597/laws.FnExactPieceBefore", spec := "fnExactPieceBefore", apart := false }
def FnExactPieceBeforeSaid : Prop := fnExactPieceBeforeRow.holds Try.pinned (OpenSpec.ofChange fnExactPieceBeforeSpec)

/-- ITS FALSE NEIGHBOUR: 'it returns false'. Refute it at one input. -/
def fnExactPieceBeforeWrong : ChangeSpec := { name := "fnExactPieceBefore", fn := fun _ => fun
  | [d1, d2] => { results := [.lit (.bool false)], args := [d1, d2] }
  | _ => none }
def FnExactPieceBeforeWrongFalsely : Prop := fnExactPieceBeforeRow.holds Try.pinned (OpenSpec.ofChange fnExactPieceBeforeWrong)

/-- 'laws.FnExactEqualPieces': WHATEVER THE INPUT: true; the input reads as it did. -/
def fnExactEqualPiecesSpec : ChangeSpec := { name := "fnExactEqualPieces", fn := fun _ => fun
  | [d1, d2] => { results := [.lit (.bool true)], args := [d1, d2] }
  | _ => none }
def fnExactEqualPiecesRow : OpenClaim := { program := "ytaeieogcibhhkaa", sum := "c717cb3f958f5f029e39b284a244afc994e4f1d014a65cefac75991fe48349b3", func := "loop.example/g00597/laws.FnExactEqualPieces", spec := "fnExactEqualPieces", apart := false }
def FnExactEqualPiecesSaid : Prop := fnExactEqualPiecesRow.holds Try.pinned (OpenSpec.ofChange fnExactEqualPiecesSpec)

/-- ITS FALSE NEIGHBOUR: 'it returns false'. Refute it at one input. -/
def fnExactEqualPiecesWrong : ChangeSpec := { name := "fnExactEqualPieces", fn := fun _ => fun
  | [d1, d2] => { results := [.lit (.bool false)], args := [d1, d2] }
  | _ => none }
def FnExactEqualPiecesWrongFalsely : Prop := fnExactEqualPiecesRow.holds Try.pinned (OpenSpec.ofChange fnExactEqualPiecesWrong)

/-- 'laws.FnExactTreeRoot': WHATEVER THE INPUT: true; the input reads as it did. -/
def fnExactTreeRootSpec : ChangeSpec := { name := "fnExactTreeRoot", fn := fun _ => fun
  | [d1, d2] => { results := [.lit (.bool true)], args := [d1, d2] }
  | _ => none }
def fnExactTreeRootRow : OpenClaim := { program := "ytaeieogcibhhkaa", sum := "c717cb3f958f5f029e39b284a244afc994e4f1d014a65cefac75991fe48349b3", func := "loop.example/g00597/laws.FnExactTreeRoot", spec := "fnExactTreeRoot", apart := false }
def FnExactTreeRootSaid : Prop := fnExactTreeRootRow.holds Try.pinned (OpenSpec.ofChange fnExactTreeRootSpec)

/-- ITS FALSE NEIGHBOUR: 'it returns false'. Refute it at one input. -/
def fnExactTreeRootWrong : ChangeSpec := { name := "fnExactTreeRoot", fn := fun _ => fun
  | [d1, d2] => { results := [.lit (.bool false)], args := [d1, d2] }
  | _ => none }
def FnExactTreeRootWrongFalsely : Prop := fnExactTreeRootRow.holds Try.pinned (OpenSpec.ofChange fnExactTreeRootWrong)

/-- 'laws.FnExactFollowPath': WHATEVER THE INPUT: true; the input reads as it did. -/
def fnExactFollowPathSpec : ChangeSpec := { name := "fnExactFollowPath", fn := fun _ => fun
  | [d1, d2, d3] => { results := [.lit (.bool true)], args := [d1, d2, d3] }
  | _ => none }
def fnExactFollowPathRow : OpenClaim := { program := "ytaeieogcibhhkaa", sum := "c717cb3f958f5f029e39b284a244afc994e4f1d014a65cefac75991fe48349b3", func := "loop.example/g00597/laws.FnExactFollowPath", spec := "fnExactFollowPath", apart := false }
def FnExactFollowPathSaid : Prop := fnExactFollowPathRow.holds Try.pinned (OpenSpec.ofChange fnExactFollowPathSpec)

/-- ITS FALSE NEIGHBOUR: 'it returns false'. Refute it at one input. -/
def fnExactFollowPathWrong : ChangeSpec := { name := "fnExactFollowPath", fn := fun _ => fun
  | [d1, d2, d3] => { results := [.lit (.bool false)], args := [d1, d2, d3] }
  | _ => none }
def FnExactFollowPathWrongFalsely : Prop := fnExactFollowPathRow.holds Try.pinned (OpenSpec.ofChange fnExactFollowPathWrong)

/-- 'laws.FnExactPieceStamp': WHATEVER THE INPUT: true; the input reads as it did. -/
def fnExactPieceStampSpec : ChangeSpec := { name := "fnExactPieceStamp", fn := fun _ => fun
  | [d] => { results := [.lit (.bool true)], args := [d] }
  | _ => none }
def fnExactPieceStampRow : OpenClaim := { program := "ytaeieogcibhhkaa", sum := "c717cb3f958f5f029e39b284a244afc994e4f1d014a65cefac75991fe48349b3", func := "loop.example/g00597/laws.FnExactPieceStamp", spec := "fnExactPieceStamp", apart := false }
def FnExactPieceStampSaid : Prop := fnExactPieceStampRow.holds Try.pinned (OpenSpec.ofChange fnExactPieceStampSpec)

/-- ITS FALSE NEIGHBOUR: 'it returns false'. Refute it at one input. -/
def fnExactPieceStampWrong : ChangeSpec := { name := "fnExactPieceStamp", fn := fun _ => fun
  | [d] => { results := [.lit (.bool false)], args := [d] }
  | _ => none }
def FnExactPieceStampWrongFalsely : Prop := fnExactPieceStampRow.holds Try.pinned (OpenSpec.ofChange fnExactPieceStampWrong)

/-- 'laws.FnExactPieceStatus': WHATEVER THE INPUT: true; the input reads as it did. -/
def fnExactPieceStatusSpec : ChangeSpec := { name := "fnExactPieceStatus", fn := fun _ => fun
  | [d] => { results := [.lit (.bool true)], args := [d] }
  | _ => none }
def fnExactPieceStatusRow : OpenClaim := { program := "ytaeieogcibhhkaa", sum := "c717cb3f958f5f029e39b284a244afc994e4f1d014a65cefac75991fe48349b3", func := "loop.example/g00597/laws.FnExactPieceStatus", spec := "fnExactPieceStatus", apart := false }
def FnExactPieceStatusSaid : Prop := fnExactPieceStatusRow.holds Try.pinned (OpenSpec.ofChange fnExactPieceStatusSpec)

/-- ITS FALSE NEIGHBOUR: 'it returns false'. Refute it at one input. -/
def fnExactPieceStatusWrong : ChangeSpec := { name := "fnExactPieceStatus", fn := fun _ => fun
  | [d] => { results := [.lit (.bool false)], args := [d] }
  | _ => none }
def FnExactPieceStatusWrongFalsely : Prop := fnExactPieceStatusRow.holds Try.pinned (OpenSpec.ofChange fnExactPieceStatusWrong)

/-- 'laws.FnExactPieceMandate': WHATEVER THE INPUT: true; the input reads as it did. -/
def fnExactPieceMandateSpec : ChangeSpec := { name := "fnExactPieceMandate", fn := fun _ => fun
  | [d] => { results := [.lit (.bool true)], args := [d] }
  | _ => none }
def fnExactPieceMandateRow : OpenClaim := { program := "ytaeieogcibhhkaa", sum := "c717cb3f958f5f029e39b284a244afc994e4f1d014a65cefac75991fe48349b3", func := "loop.example/g00597/laws.FnExactPieceMandate", spec := "fnExactPieceMandate", apart := false }
def FnExactPieceMandateSaid : Prop := fnExactPieceMandateRow.holds Try.pinned (OpenSpec.ofChange fnExactPieceMandateSpec)

/-- ITS FALSE NEIGHBOUR: 'it returns false'. Refute it at one input. -/
def fnExactPieceMandateWrong : ChangeSpec := { name := "fnExactPieceMandate", fn := fun _ => fun
  | [d] => { results := [.lit (.bool false)], args := [d] }
  | _ => none }
def FnExactPieceMandateWrongFalsely : Prop := fnExactPieceMandateRow.holds Try.pinned (OpenSpec.ofChange fnExactPieceMandateWrong)

/-- 'laws.FnExactPieceCert': WHATEVER THE INPUT: true; the input reads as it did. -/
def fnExactPieceCertSpec : ChangeSpec := { name := "fnExactPieceCert", fn := fun _ => fun
  | [d] => { results := [.lit (.bool true)], args := [d] }
  | _ => none }
def fnExactPieceCertRow : OpenClaim := { program := "ytaeieogcibhhkaa", sum := "c717cb3f958f5f029e39b284a244afc994e4f1d014a65cefac75991fe48349b3", func := "loop.example/g00597/laws.FnExactPieceCert", spec := "fnExactPieceCert", apart := false }
def FnExactPieceCertSaid : Prop := fnExactPieceCertRow.holds Try.pinned (OpenSpec.ofChange fnExactPieceCertSpec)

/-- ITS FALSE NEIGHBOUR: 'it returns false'. Refute it at one input. -/
def fnExactPieceCertWrong : ChangeSpec := { name := "fnExactPieceCert", fn := fun _ => fun
  | [d] => { results := [.lit (.bool false)], args := [d] }
  | _ => none }
def FnExactPieceCertWrongFalsely : Prop := fnExactPieceCertRow.holds Try.pinned (OpenSpec.ofChange fnExactPieceCertWrong)

/-- 'laws.FnExactPieceSign': WHATEVER THE INPUT: true; the input reads as it did. -/
def fnExactPieceSignSpec : ChangeSpec := { name := "fnExactPieceSign", fn := fun _ => fun
  | [d] => { results := [.lit (.bool true)], args := [d] }
  | _ => none }
def fnExactPieceSignRow : OpenClaim := { program := "ytaeieogcibhhkaa", sum := "c717cb3f958f5f029e39b284a244afc994e4f1d014a65cefac75991fe48349b3", func := "loop.example/g00597/laws.FnExactPieceSign", spec := "fnExactPieceSign", apart := false }
def FnExactPieceSignSaid : Prop := fnExactPieceSignRow.holds Try.pinned (OpenSpec.ofChange fnExactPieceSignSpec)

/-- ITS FALSE NEIGHBOUR: 'it returns false'. Refute it at one input. -/
def fnExactPieceSignWrong : ChangeSpec := { name := "fnExactPieceSign", fn := fun _ => fun
  | [d] => { results := [.lit (.bool false)], args := [d] }
  | _ => none }
def FnExactPieceSignWrongFalsely : Prop := fnExactPieceSignRow.holds Try.pinned (OpenSpec.ofChange fnExactPieceSignWrong)

/-- 'laws.FnTrees': WHATEVER THE INPUT: true; the input reads as it did. -/
def fnTreesSpec : ChangeSpec := { name := "fnTrees", fn := fun _ => fun
  | [d] => { results := [.lit (.bool true)], args := [d] }
  | _ => none }
def fnTreesRow : OpenClaim := { program := "ytaeieogcibhhkaa", sum := "c717cb3f958f5f029e39b284a244afc994e4f1d014a65cefac75991fe48349b3", func := "loop.example/g00597/laws.FnTrees", spec := "fnTrees", apart := false }
def FnTreesSaid : Prop := fnTreesRow.holds Try.pinned (OpenSpec.ofChange fnTreesSpec)

/-- ITS FALSE NEIGHBOUR: 'it returns false'. Refute it at one input. -/
def fnTreesWrong : ChangeSpec := { name := "fnTrees", fn := fun _ => fun
  | [d] => { results := [.lit (.bool false)], args := [d] }
  | _ => none }
def FnTreesWrongFalsely : Prop := fnTreesRow.holds Try.pinned (OpenSpec.ofChange fnTreesWrong)

/-- 'laws.FnExactPiecesDigest': WHATEVER THE INPUT: true; the input reads as it did. -/
def fnExactPiecesDigestSpec : ChangeSpec := { name := "fnExactPiecesDigest", fn := fun _ => fun
  | [d1, d2] => { results := [.lit (.bool true)], args := [d1, d2] }
  | _ => none }
def fnExactPiecesDigestRow : OpenClaim := { program := "ytaeieogcibhhkaa", sum := "c717cb3f958f5f029e39b284a244afc994e4f1d014a65cefac75991fe48349b3", func := "loop.example/g00597/laws.FnExactPiecesDigest", spec := "fnExactPiecesDigest", apart := false }
def FnExactPiecesDigestSaid : Prop := fnExactPiecesDigestRow.holds Try.pinned (OpenSpec.ofChange fnExactPiecesDigestSpec)

/-- ITS FALSE NEIGHBOUR: 'it returns false'. Refute it at one input. -/
def fnExactPiecesDigestWrong : ChangeSpec := { name := "fnExactPiecesDigest", fn := fun _ => fun
  | [d1, d2] => { results := [.lit (.bool false)], args := [d1, d2] }
  | _ => none }
def FnExactPiecesDigestWrongFalsely : Prop := fnExactPiecesDigestRow.holds Try.pinned (OpenSpec.ofChange fnExactPiecesDigestWrong)

/-- 'laws.FnExactLeafOf': WHATEVER THE INPUT: true; the input reads as it did. -/
def fnExactLeafOfSpec : ChangeSpec := { name := "fnExactLeafOf", fn := fun _ => fun
  | [d1, d2, d3, d4] => { results := [.lit (.bool true)], args := [d1, d2, d3, d4] }
  | _ => none }
def fnExactLeafOfRow : OpenClaim := { program := "ytaeieogcibhhkaa", sum := "c717cb3f958f5f029e39b284a244afc994e4f1d014a65cefac75991fe48349b3", func := "loop.example/g00597/laws.FnExactLeafOf", spec := "fnExactLeafOf", apart := false }
def FnExactLeafOfSaid : Prop := fnExactLeafOfRow.holds Try.pinned (OpenSpec.ofChange fnExactLeafOfSpec)

/-- ITS FALSE NEIGHBOUR: 'it returns false'. Refute it at one input. -/
def fnExactLeafOfWrong : ChangeSpec := { name := "fnExactLeafOf", fn := fun _ => fun
  | [d1, d2, d3, d4] => { results := [.lit (.bool false)], args := [d1, d2, d3, d4] }
  | _ => none }
def FnExactLeafOfWrongFalsely : Prop := fnExactLeafOfRow.holds Try.pinned (OpenSpec.ofChange fnExactLeafOfWrong)

/-- 'laws.FnExactTreePath': WHATEVER THE INPUT: true; the input reads as it did. -/
def fnExactTreePathSpec : ChangeSpec := { name := "fnExactTreePath", fn := fun _ => fun
  | [d1, d2, d3] => { results := [.lit (.bool true)], args := [d1, d2, d3] }
  | _ => none }
def fnExactTreePathRow : OpenClaim := { program := "ytaeieogcibhhkaa", sum := "c717cb3f958f5f029e39b284a244afc994e4f1d014a65cefac75991fe48349b3", func := "loop.example/g00597/laws.FnExactTreePath", spec := "fnExactTreePath", apart := false }
def FnExactTreePathSaid : Prop := fnExactTreePathRow.holds Try.pinned (OpenSpec.ofChange fnExactTreePathSpec)

/-- ITS FALSE NEIGHBOUR: 'it returns false'. Refute it at one input. -/
def fnExactTreePathWrong : ChangeSpec := { name := "fnExactTreePath", fn := fun _ => fun
  | [d1, d2, d3] => { results := [.lit (.bool false)], args := [d1, d2, d3] }
  | _ => none }
def FnExactTreePathWrongFalsely : Prop := fnExactTreePathRow.holds Try.pinned (OpenSpec.ofChange fnExactTreePathWrong)

/-- 'laws.FnExactEqualRenewals': WHATEVER THE INPUT: true; the input reads as it did. -/
def fnExactEqualRenewalsSpec : ChangeSpec := { name := "fnExactEqualRenewals", fn := fun _ => fun
  | [d1, d2] => { results := [.lit (.bool true)], args := [d1, d2] }
  | _ => none }
def fnExactEqualRenewalsRow : OpenClaim := { program := "ytaeieogcibhhkaa", sum := "c717cb3f958f5f029e39b284a244afc994e4f1d014a65cefac75991fe48349b3", func := "loop.example/g00597/laws.FnExactEqualRenewals", spec := "fnExactEqualRenewals", apart := false }
def FnExactEqualRenewalsSaid : Prop := fnExactEqualRenewalsRow.holds Try.pinned (OpenSpec.ofChange fnExactEqualRenewalsSpec)

/-- ITS FALSE NEIGHBOUR: 'it returns false'. Refute it at one input. -/
def fnExactEqualRenewalsWrong : ChangeSpec := { name := "fnExactEqualRenewals", fn := fun _ => fun
  | [d1, d2] => { results := [.lit (.bool false)], args := [d1, d2] }
  | _ => none }
def FnExactEqualRenewalsWrongFalsely : Prop := fnExactEqualRenewalsRow.holds Try.pinned (OpenSpec.ofChange fnExactEqualRenewalsWrong)

/-- 'laws.FnExactRenewalDigest': WHATEVER THE INPUT: true; the input reads as it did. -/
def fnExactRenewalDigestSpec : ChangeSpec := { name := "fnExactRenewalDigest", fn := fun _ => fun
  | [d1, d2] => { results := [.lit (.bool true)], args := [d1, d2] }
  | _ => none }
def fnExactRenewalDigestRow : OpenClaim := { program := "ytaeieogcibhhkaa", sum := "c717cb3f958f5f029e39b284a244afc994e4f1d014a65cefac75991fe48349b3", func := "loop.example/g00597/laws.FnExactRenewalDigest", spec := "fnExactRenewalDigest", apart := false }
def FnExactRenewalDigestSaid : Prop := fnExactRenewalDigestRow.holds Try.pinned (OpenSpec.ofChange fnExactRenewalDigestSpec)

/-- ITS FALSE NEIGHBOUR: 'it returns false'. Refute it at one input. -/
def fnExactRenewalDigestWrong : ChangeSpec := { name := "fnExactRenewalDigest", fn := fun _ => fun
  | [d1, d2] => { results := [.lit (.bool false)], args := [d1, d2] }
  | _ => none }
def FnExactRenewalDigestWrongFalsely : Prop := fnExactRenewalDigestRow.holds Try.pinned (OpenSpec.ofChange fnExactRenewalDigestWrong)

/- THE SECOND FORM. 'bulk': how many values and letters a reading holds, each counted each time it is reached (what is shared counts as often as it is met; a slice's spare places count too). A statement '..UptoSaid' is the law's where the arguments, and the package variables that the reading takes, are together of bulk at most 1048576: NARROWER than '..Said'. Prove '..Said' where nothing that the law and all that it calls make is longer than what came in: it says more and counts as full. Else prove '..UptoSaid'. A law counts once. -/
mutual
def uptoBulk {H : Type} : DataW H → Nat
  | .lit (.string bytes) => bytes.length + 1
  | .lit _ => 1
  | .nil => 1
  | .ptr d => uptoBulk d + 1
  | .slice elems spare => uptoBulkAll elems + uptoBulkAll spare + 1
  | .agg parts => uptoBulkAll parts + 1
  | .iface _ d => uptoBulk d + 1
  | .map entries => uptoBulkEntries entries + 1
  | .held _ => 1
def uptoBulkAll {H : Type} : List (DataW H) → Nat
  | [] => 0
  | d :: r => uptoBulk d + uptoBulkAll r
def uptoBulkEntries {H : Type} : List (Lit × DataW H) → Nat
  | [] => 0
  | x :: r => uptoBulkEntry x + uptoBulkEntries r
def uptoBulkEntry {H : Type} : Lit × DataW H → Nat
  | (.string bytes, d) => bytes.length + uptoBulk d + 1
  | (_, d) => uptoBulk d + 1
 end
def uptoSmall : (H : Type) → List (DataW H) → Bool := fun _ ds => decide (uptoBulkAll ds ≤ 1048576)
def OpenSpec.upto (s : _root_.Go.ChangeSpec) : _root_.Go.OpenSpec := { _root_.Go.OpenSpec.ofChange s with cond := some uptoSmall }

/-- 'laws.FnExactLevelsOf', WHERE WHAT IT READS IS OF BULK AT MOST 1048576: true; the input reads as it did. -/
def fnExactLevelsOfUptoRow : OpenClaim := { program := "ytaeieogcibhhkaa", sum := "c717cb3f958f5f029e39b284a244afc994e4f1d014a65cefac75991fe48349b3", func := "loop.example/g00597/laws.FnExactLevelsOf", spec := "fnExactLevelsOf", apart := false, narrowed := true }
def FnExactLevelsOfUptoSaid : Prop := fnExactLevelsOfUptoRow.holds Try.pinned (OpenSpec.upto fnExactLevelsOfSpec)

/-- 'laws.FnExactPairDigest', WHERE WHAT IT READS IS OF BULK AT MOST 1048576: true; the input reads as it did. -/
def fnExactPairDigestUptoRow : OpenClaim := { program := "ytaeieogcibhhkaa", sum := "c717cb3f958f5f029e39b284a244afc994e4f1d014a65cefac75991fe48349b3", func := "loop.example/g00597/laws.FnExactPairDigest", spec := "fnExactPairDigest", apart := false, narrowed := true }
def FnExactPairDigestUptoSaid : Prop := fnExactPairDigestUptoRow.holds Try.pinned (OpenSpec.upto fnExactPairDigestSpec)

/-- 'laws.FnExactStampPiece', WHERE WHAT IT READS IS OF BULK AT MOST 1048576: true; the input reads as it did. -/
def fnExactStampPieceUptoRow : OpenClaim := { program := "ytaeieogcibhhkaa", sum := "c717cb3f958f5f029e39b284a244afc994e4f1d014a65cefac75991fe48349b3", func := "loop.example/g00597/laws.FnExactStampPiece", spec := "fnExactStampPiece", apart := false, narrowed := true }
def FnExactStampPieceUptoSaid : Prop := fnExactStampPieceUptoRow.holds Try.pinned (OpenSpec.upto fnExactStampPieceSpec)

/-- 'laws.FnExactStatusPiece', WHERE WHAT IT READS IS OF BULK AT MOST 1048576: true; the input reads as it did. -/
def fnExactStatusPieceUptoRow : OpenClaim := { program := "ytaeieogcibhhkaa", sum := "c717cb3f958f5f029e39b284a244afc994e4f1d014a65cefac75991fe48349b3", func := "loop.example/g00597/laws.FnExactStatusPiece", spec := "fnExactStatusPiece", apart := false, narrowed := true }
def FnExactStatusPieceUptoSaid : Prop := fnExactStatusPieceUptoRow.holds Try.pinned (OpenSpec.upto fnExactStatusPieceSpec)

/-- 'laws.FnExactMandatePiece', WHERE WHAT IT READS IS OF BULK AT MOST 1048576: true; the input reads as it did. -/
def fnExactMandatePieceUptoRow : OpenClaim := { program := "ytaeieogcibhhkaa", sum := "c717cb3f958f5f029e39b284a244afc994e4f1d014a65cefac75991fe48349b3", func := "loop.example/g00597/laws.FnExactMandatePiece", spec := "fnExactMandatePiece", apart := false, narrowed := true }
def FnExactMandatePieceUptoSaid : Prop := fnExactMandatePieceUptoRow.holds Try.pinned (OpenSpec.upto fnExactMandatePieceSpec)

/-- 'laws.FnExactKindOfPiece', WHERE WHAT IT READS IS OF BULK AT MOST 1048576: true; the input reads as it did. -/
def fnExactKindOfPieceUptoRow : OpenClaim := { program := "ytaeieogcibhhkaa", sum := "c717cb3f958f5f029e39b284a244afc994e4f1d014a65cefac75991fe48349b3", func := "loop.example/g00597/laws.FnExactKindOfPiece", spec := "fnExactKindOfPiece", apart := false, narrowed := true }
def FnExactKindOfPieceUptoSaid : Prop := fnExactKindOfPieceUptoRow.holds Try.pinned (OpenSpec.upto fnExactKindOfPieceSpec)

/-- 'laws.FnExactCertPiece', WHERE WHAT IT READS IS OF BULK AT MOST 1048576: true; the input reads as it did. -/
def fnExactCertPieceUptoRow : OpenClaim := { program := "ytaeieogcibhhkaa", sum := "c717cb3f958f5f029e39b284a244afc994e4f1d014a65cefac75991fe48349b3", func := "loop.example/g00597/laws.FnExactCertPiece", spec := "fnExactCertPiece", apart := false, narrowed := true }
def FnExactCertPieceUptoSaid : Prop := fnExactCertPieceUptoRow.holds Try.pinned (OpenSpec.upto fnExactCertPieceSpec)

/-- 'laws.FnExactSignPiece', WHERE WHAT IT READS IS OF BULK AT MOST 1048576: true; the input reads as it did. -/
def fnExactSignPieceUptoRow : OpenClaim := { program := "ytaeieogcibhhkaa", sum := "c717cb3f958f5f029e39b284a244afc994e4f1d014a65cefac75991fe48349b3", func := "loop.example/g00597/laws.FnExactSignPiece", spec := "fnExactSignPiece", apart := false, narrowed := true }
def FnExactSignPieceUptoSaid : Prop := fnExactSignPieceUptoRow.holds Try.pinned (OpenSpec.upto fnExactSignPieceSpec)

/-- 'laws.FnExactPieceBefore', WHERE WHAT IT READS IS OF BULK AT MOST 1048576: true; the input reads as it did. -/
def fnExactPieceBeforeUptoRow : OpenClaim := { program := "ytaeieogcibhhkaa", sum := "c717cb3f958f5f029e39b284a244afc994e4f1d014a65cefac75991fe48349b3", func := "loop.example/g00597/laws.FnExactPieceBefore", spec := "fnExactPieceBefore", apart := false, narrowed := true }
def FnExactPieceBeforeUptoSaid : Prop := fnExactPieceBeforeUptoRow.holds Try.pinned (OpenSpec.upto fnExactPieceBeforeSpec)

/-- 'laws.FnExactEqualPieces', WHERE WHAT IT READS IS OF BULK AT MOST 1048576: true; the input reads as it did. -/
def fnExactEqualPiecesUptoRow : OpenClaim := { program := "ytaeieogcibhhkaa", sum := "c717cb3f958f5f029e39b284a244afc994e4f1d014a65cefac75991fe48349b3", func := "loop.example/g00597/laws.FnExactEqualPieces", spec := "fnExactEqualPieces", apart := false, narrowed := true }
def FnExactEqualPiecesUptoSaid : Prop := fnExactEqualPiecesUptoRow.holds Try.pinned (OpenSpec.upto fnExactEqualPiecesSpec)

/-- 'laws.FnExactTreeRoot', WHERE WHAT IT READS IS OF BULK AT MOST 1048576: true; the input reads as it did. -/
def fnExactTreeRootUptoRow : OpenClaim := { program := "ytaeieogcibhhkaa", sum := "c717cb3f958f5f029e39b284a244afc994e4f1d014a65cefac75991fe48349b3", func := "loop.example/g00597/laws.FnExactTreeRoot", spec := "fnExactTreeRoot", apart := false, narrowed := true }
def FnExactTreeRootUptoSaid : Prop := fnExactTreeRootUptoRow.holds Try.pinned (OpenSpec.upto fnExactTreeRootSpec)

/-- 'laws.FnExactFollowPath', WHERE WHAT IT READS IS OF BULK AT MOST 1048576: true; the input reads as it did. -/
def fnExactFollowPathUptoRow : OpenClaim := { program := "ytaeieogcibhhkaa", sum := "c717cb3f958f5f029e39b284a244afc994e4f1d014a65cefac75991fe48349b3", func := "loop.example/g00597/laws.FnExactFollowPath", spec := "fnExactFollowPath", apart := false, narrowed := true }
def FnExactFollowPathUptoSaid : Prop := fnExactFollowPathUptoRow.holds Try.pinned (OpenSpec.upto fnExactFollowPathSpec)

/-- 'laws.FnExactPieceStamp', WHERE WHAT IT READS IS OF BULK AT MOST 1048576: true; the input reads as it did. -/
def fnExactPieceStampUptoRow : OpenClaim := { program := "ytaeieogcibhhkaa", sum := "c717cb3f958f5f029e39b284a244afc994e4f1d014a65cefac75991fe48349b3", func := "loop.example/g00597/laws.FnExactPieceStamp", spec := "fnExactPieceStamp", apart := false, narrowed := true }
def FnExactPieceStampUptoSaid : Prop := fnExactPieceStampUptoRow.holds Try.pinned (OpenSpec.upto fnExactPieceStampSpec)

/-- 'laws.FnExactPieceStatus', WHERE WHAT IT READS IS OF BULK AT MOST 1048576: true; the input reads as it did. -/
def fnExactPieceStatusUptoRow : OpenClaim := { program := "ytaeieogcibhhkaa", sum := "c717cb3f958f5f029e39b284a244afc994e4f1d014a65cefac75991fe48349b3", func := "loop.example/g00597/laws.FnExactPieceStatus", spec := "fnExactPieceStatus", apart := false, narrowed := true }
def FnExactPieceStatusUptoSaid : Prop := fnExactPieceStatusUptoRow.holds Try.pinned (OpenSpec.upto fnExactPieceStatusSpec)

/-- 'laws.FnExactPieceMandate', WHERE WHAT IT READS IS OF BULK AT MOST 1048576: true; the input reads as it did. -/
def fnExactPieceMandateUptoRow : OpenClaim := { program := "ytaeieogcibhhkaa", sum := "c717cb3f958f5f029e39b284a244afc994e4f1d014a65cefac75991fe48349b3", func := "loop.example/g00597/laws.FnExactPieceMandate", spec := "fnExactPieceMandate", apart := false, narrowed := true }
def FnExactPieceMandateUptoSaid : Prop := fnExactPieceMandateUptoRow.holds Try.pinned (OpenSpec.upto fnExactPieceMandateSpec)

/-- 'laws.FnExactPieceCert', WHERE WHAT IT READS IS OF BULK AT MOST 1048576: true; the input reads as it did. -/
def fnExactPieceCertUptoRow : OpenClaim := { program := "ytaeieogcibhhkaa", sum := "c717cb3f958f5f029e39b284a244afc994e4f1d014a65cefac75991fe48349b3", func := "loop.example/g00597/laws.FnExactPieceCert", spec := "fnExactPieceCert", apart := false, narrowed := true }
def FnExactPieceCertUptoSaid : Prop := fnExactPieceCertUptoRow.holds Try.pinned (OpenSpec.upto fnExactPieceCertSpec)

/-- 'laws.FnExactPieceSign', WHERE WHAT IT READS IS OF BULK AT MOST 1048576: true; the input reads as it did. -/
def fnExactPieceSignUptoRow : OpenClaim := { program := "ytaeieogcibhhkaa", sum := "c717cb3f958f5f029e39b284a244afc994e4f1d014a65cefac75991fe48349b3", func := "loop.example/g00597/laws.FnExactPieceSign", spec := "fnExactPieceSign", apart := false, narrowed := true }
def FnExactPieceSignUptoSaid : Prop := fnExactPieceSignUptoRow.holds Try.pinned (OpenSpec.upto fnExactPieceSignSpec)

/-- 'laws.FnTrees', WHERE WHAT IT READS IS OF BULK AT MOST 1048576: true; the input reads as it did. -/
def fnTreesUptoRow : OpenClaim := { program := "ytaeieogcibhhkaa", sum := "c717cb3f958f5f029e39b284a244afc994e4f1d014a65cefac75991fe48349b3", func := "loop.example/g00597/laws.FnTrees", spec := "fnTrees", apart := false, narrowed := true }
def FnTreesUptoSaid : Prop := fnTreesUptoRow.holds Try.pinned (OpenSpec.upto fnTreesSpec)

/-- 'laws.FnExactPiecesDigest', WHERE WHAT IT READS IS OF BULK AT MOST 1048576: true; the input reads as it did. -/
def fnExactPiecesDigestUptoRow : OpenClaim := { program := "ytaeieogcibhhkaa", sum := "c717cb3f958f5f029e39b284a244afc994e4f1d014a65cefac75991fe48349b3", func := "loop.example/g00597/laws.FnExactPiecesDigest", spec := "fnExactPiecesDigest", apart := false, narrowed := true }
def FnExactPiecesDigestUptoSaid : Prop := fnExactPiecesDigestUptoRow.holds Try.pinned (OpenSpec.upto fnExactPiecesDigestSpec)

/-- 'laws.FnExactLeafOf', WHERE WHAT IT READS IS OF BULK AT MOST 1048576: true; the input reads as it did. -/
def fnExactLeafOfUptoRow : OpenClaim := { program := "ytaeieogcibhhkaa", sum := "c717cb3f958f5f029e39b284a244afc994e4f1d014a65cefac75991fe48349b3", func := "loop.example/g00597/laws.FnExactLeafOf", spec := "fnExactLeafOf", apart := false, narrowed := true }
def FnExactLeafOfUptoSaid : Prop := fnExactLeafOfUptoRow.holds Try.pinned (OpenSpec.upto fnExactLeafOfSpec)

/-- 'laws.FnExactTreePath', WHERE WHAT IT READS IS OF BULK AT MOST 1048576: true; the input reads as it did. -/
def fnExactTreePathUptoRow : OpenClaim := { program := "ytaeieogcibhhkaa", sum := "c717cb3f958f5f029e39b284a244afc994e4f1d014a65cefac75991fe48349b3", func := "loop.example/g00597/laws.FnExactTreePath", spec := "fnExactTreePath", apart := false, narrowed := true }
def FnExactTreePathUptoSaid : Prop := fnExactTreePathUptoRow.holds Try.pinned (OpenSpec.upto fnExactTreePathSpec)

/-- 'laws.FnExactEqualRenewals', WHERE WHAT IT READS IS OF BULK AT MOST 1048576: true; the input reads as it did. -/
def fnExactEqualRenewalsUptoRow : OpenClaim := { program := "ytaeieogcibhhkaa", sum := "c717cb3f958f5f029e39b284a244afc994e4f1d014a65cefac75991fe48349b3", func := "loop.example/g00597/laws.FnExactEqualRenewals", spec := "fnExactEqualRenewals", apart := false, narrowed := true }
def FnExactEqualRenewalsUptoSaid : Prop := fnExactEqualRenewalsUptoRow.holds Try.pinned (OpenSpec.upto fnExactEqualRenewalsSpec)

/-- 'laws.FnExactRenewalDigest', WHERE WHAT IT READS IS OF BULK AT MOST 1048576: true; the input reads as it did. -/
def fnExactRenewalDigestUptoRow : OpenClaim := { program := "ytaeieogcibhhkaa", sum := "c717cb3f958f5f029e39b284a244afc994e4f1d014a65cefac75991fe48349b3", func := "loop.example/g00597/laws.FnExactRenewalDigest", spec := "fnExactRenewalDigest", apart := false, narrowed := true }
def FnExactRenewalDigestUptoSaid : Prop := fnExactRenewalDigestUptoRow.holds Try.pinned (OpenSpec.upto fnExactRenewalDigestSpec)

end Rows
end Go.Proofs.Ytaeieogcibhhkaa
