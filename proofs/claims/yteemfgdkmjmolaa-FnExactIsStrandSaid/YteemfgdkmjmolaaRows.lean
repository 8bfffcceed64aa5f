/-
  No cell of these rows narrows 'for every input' (looked for: loops, veiled, ifaces, maps, wideKeys, modest, calm, conditions, laid).
  DERIVED. THE GIVEN ROWS OF THIS SEAT. 17 by the template 'for every input the law returns true; each argument reads behind the call as it read before'; 0 by the template 'total and deterministic' (their statements: YteemfgdkmjmolaaTotals.lean).
  GIVEN WITH THE SEED: the statements are not yours to turn. If you find one false, say at which input.
  Laid BY PROGRAM, IN A SANDBOX (cutbox-rows.mjs): the forced cells as the released guide's own fill.sh prints them over the translation afaa5c33bd04a262… (all of the seat's roots in one cut). By AI agents, Wed Nov 11 2026. No macro, syntax, notation, axiom, sorry.
-/
import Derived.Test.YteemfgdkmjmolaaChecked
import GoSem.Claim
import GoSem.ClaimJoined
import GoSem.ClaimMapViews
import Derived.JoinedTies
import Derived.KernelRfl
namespace Go.Proofs.Yteemfgdkmjmolaa
/- THE CELL 'sum', in the pinned program and in every row, IS THE sha256 OF THE DUMP (.gsa) THAT YteemfgdkmjmolaaProg.lean LOADS. Nothing in Lean hashes anything: it is a label: what it is worth is what the hold of that sum in a sandbox is worth. -/
noncomputable def Try.pinned : Pinned := { name := "yteemfgdkmjmolaa", sum := "afaa5c33bd04a2621fc62998b7530f7cd401fe5dcb95477ac07c2d52544ec3f9", checked := Try.checked }
namespace Rows
def none {H : Type} : Left H := { results := [], args := [] }

/-- 'laws.FnExactIsBarred': WHATEVER THE INPUT: true; the input reads as it did. -/
def fnExactIsBarredSpec : ChangeSpec := { name := "fnExactIsBarred", fn := fun _ => fun
  | [d1, d2, d3] => { results := [.lit (.bool true)], args := [d1, d2, d3] }
  | _ => none }
def fnExactIsBarredRow : OpenClaim := { program := "yteemfgdkmjmolaa", sum := "afaa5c33bd04a2621fc62998b7530f7cd401fe5dcb95477ac07c2d52544ec3f9", func := "loop.example/g00597/laws.FnExactIsBarred", spec := "fnExactIsBarred", unfollowed := true, recurses := true, apart := false }
def FnExactIsBarredSaid : Prop := fnExactIsBarredRow.holds Try.pinned (OpenSpec.ofChange fnExactIsBarredSpec)

/-- ITS FALSE NEIGHBOUR: 'it returns false'. Refute it at one input. -/
def fnExactIsBarredWrong : ChangeSpec := { name := "fnExactIsBarred", fn := fun _ => fun
  | [d1, d2, d3] => { results := [.lit (.bool false)], args := [d1, d2, d3] }
  | _ => none }
def FnExactIsBarredWrongFalsely : Prop := fnExactIsBarredRow.holds Try.pinned (OpenSpec.ofChange fnExactIsBarredWrong)

/-- 'laws.FnExactIsEntitled': WHATEVER THE INPUT: true; the input reads as it did. -/
def fnExactIsEntitledSpec : ChangeSpec := { name := "fnExactIsEntitled", fn := fun _ => fun
  | [d1, d2, d3] => { results := [.lit (.bool true)], args := [d1, d2, d3] }
  | _ => none }
def fnExactIsEntitledRow : OpenClaim := { program := "yteemfgdkmjmolaa", sum := "afaa5c33bd04a2621fc62998b7530f7cd401fe5dcb95477ac07c2d52544ec3f9", func := "loop.example/g00597/laws.FnExactIsEntitled", spec := "fnExactIsEntitled", apart := false }
def FnExactIsEntitledSaid : Prop := fnExactIsEntitledRow.holds Try.pinned (OpenSpec.ofChange fnExactIsEntitledSpec)

/-- ITS FALSE NEIGHBOUR: 'it returns false'. Refute it at one input. -/
def fnExactIsEntitledWrong : ChangeSpec := { name := "fnExactIsEntitled", fn := fun _ => fun
  | [d1, d2, d3] => { results := [.lit (.bool false)], args := [d1, d2, d3] }
  | _ => none }
def FnExactIsEntitledWrongFalsely : Prop := fnExactIsEntitledRow.holds Try.pinned (OpenSpec.ofChange fnExactIsEntitledWrong)

/-- 'laws.FnExactIsFrame': WHATEVER THE INPUT: true; the input reads as it did. -/
def fnExactIsFrameSpec : ChangeSpec := { name := "fnExactIsFrame", fn := fun _ => fun
  | [d] => { results := [.lit (.bool true)], args := [d] }
  | _ => none }
def fnExactIsFrameRow : OpenClaim := { program := "yteemfgdkmjmolaa", sum := "afaa5c33bd04a2621fc62998b7530f7cd401fe5dcb95477ac07c2d52544ec3f9", func := "loop.example/g00597/laws.FnExactIsFrame", spec := "fnExactIsFrame", apart := false }
def FnExactIsFrameSaid : Prop := fnExactIsFrameRow.holds Try.pinned (OpenSpec.ofChange fnExactIsFrameSpec)

/-- ITS FALSE NEIGHBOUR: 'it returns false'. Refute it at one input. -/
def fnExactIsFrameWrong : ChangeSpec := { name := "fnExactIsFrame", fn := fun _ => fun
  | [d] => { results := [.lit (.bool false)], args := [d] }
  | _ => none }
def FnExactIsFrameWrongFalsely : Prop := fnExactIsFrameRow.holds Try.pinned (OpenSpec.ofChange fnExactIsFrameWrong)

/-- 'laws.FnExactCurrentKey': WHATEVER THE INPUT: true; the input reads as it did. -/
def fnExactCurrentKeySpec : ChangeSpec := { name := "fnExactCurrentKey", fn := fun _ => fun
  | [d1, d2, d3, d4] => { results := [.lit (.bool true)], args := [d1, d2, d3, d4] }
  | _ => none }
def fnExactCurrentKeyRow : OpenClaim := { program := "yteemfgdkmjmolaa", sum := "afaa5c33bd04a2621fc62998b7530f7cd401fe5dcb95477ac07c2d52544ec3f9", func := "loop.example/g00597/laws.FnExactCurrentKey", spec := "fnExactCurrentKey", apart := false }
def FnExactCurrentKeySaid : Prop := fnExactCurrentKeyRow.holds Try.pinned (OpenSpec.ofChange fnExactCurrentKeySpec)

/-- ITS FALSE NEIGHBOUR: 'it returns false'. Refute it at one input. -/
def fnExactCurrentKeyWrong : ChangeSpec := { name := "fnExactCurrentKey", fn := fun _ => fun
  | [d1, d2, d3, d4] => { results := [.lit (.bool false)], args := [d1, d2, d3, d4] }
  | _ => none }
def FnExactCurrentKeyWrongFalsely : Prop := fnExactCurrentKeyRow.holds Try.pinned (OpenSpec.ofChange fnExactCurrentKeyWrong)

/-- 'laws.FnExactBadSpans': WHATEVER THE INPUT: true; the input reads as it did. -/
def fnExactBadSpansSpec : ChangeSpec := { name := "fnExactBadSpans", fn := fun _ => fun
  | [d1, d2] => { results := [.lit (.bool true)], args := [d1, d2] }
  | _ => none }
def fnExactBadSpansRow : OpenClaim := { program := "yteemfgdkmjmolaa", sum := "afaa5c33bd04a2621fc62998b7530f7cd401fe5dcb95477ac07c2d52544ec3f9", func := "loop.example/g00597/laws.FnExactBadSpans", spec := "fnExactBadSpans", unfollowed := true, recurses := true, apart := false }
def FnExactBadSpansSaid : Prop := fnExactBadSpansRow.holds Try.pinned (OpenSpec.ofChange fnExactBadSpansSpec)

/-- ITS FALSE NEIGHBOUR: 'it returns false'. Refute it at one input. -/
def fnExactBadSpansWrong : ChangeSpec := { name := "fnExactBadSpans", fn := fun _ => fun
  | [d1, d2] => { results := [.lit (.bool false)], args := [d1, d2] }
  | _ => none }
def FnExactBadSpansWrongFalsely : Prop := fnExactBadSpansRow.holds Try.pinned (OpenSpec.ofChange fnExactBadSpansWrong)

/-- 'laws.FnExactCheckPiece': WHATEVER THE INPUT: true; the input reads as it did. -/
def fnExactCheckPieceSpec : ChangeSpec := { name := "fnExactCheckPiece", fn := fun _ => fun
  | [d1, d2] => { results := [.lit (.bool true)], args := [d1, d2] }
  | _ => none }
def fnExactCheckPieceRow : OpenClaim := { program := "yteemfgdkmjmolaa", sum := "afaa5c33bd04a2621fc62998b7530f7cd401fe5dcb95477ac07c2d52544ec3f9", func := "loop.example/g00597/laws.FnExactCheckPiece", spec := "fnExactCheckPiece", apart := false }
def FnExactCheckPieceSaid : Prop := fnExactCheckPieceRow.holds Try.pinned (OpenSpec.ofChange fnExactCheckPieceSpec)

/-- ITS FALSE NEIGHBOUR: 'it returns false'. Refute it at one input. -/
def fnExactCheckPieceWrong : ChangeSpec := { name := "fnExactCheckPiece", fn := fun _ => fun
  | [d1, d2] => { results := [.lit (.bool false)], args := [d1, d2] }
  | _ => none }
def FnExactCheckPieceWrongFalsely : Prop := fnExactCheckPieceRow.holds Try.pinned (OpenSpec.ofChange fnExactCheckPieceWrong)

/-- 'laws.FnExactGoodSpans': WHATEVER THE INPUT: true; the input reads as it did. -/
def fnExactGoodSpansSpec : ChangeSpec := { name := "fnExactGoodSpans", fn := fun _ => fun
  | [d1, d2] => { results := [.lit (.bool true)], args := [d1, d2] }
  | _ => none }
def fnExactGoodSpansRow : OpenClaim := { program := "yteemfgdkmjmolaa", sum := "afaa5c33bd04a2621fc62998b7530f7cd401fe5dcb95477ac07c2d52544ec3f9", func := "loop.example/g00597/laws.FnExactGoodSpans", spec := "fnExactGoodSpans", apart := false }
def FnExactGoodSpansSaid : Prop := fnExactGoodSpansRow.holds Try.pinned (OpenSpec.ofChange fnExactGoodSpansSpec)

/-- ITS FALSE NEIGHBOUR: 'it returns false'. Refute it at one input. -/
def fnExactGoodSpansWrong : ChangeSpec := { name := "fnExactGoodSpans", fn := fun _ => fun
  | [d1, d2] => { results := [.lit (.bool false)], args := [d1, d2] }
  | _ => none }
def FnExactGoodSpansWrongFalsely : Prop := fnExactGoodSpansRow.holds Try.pinned (OpenSpec.ofChange fnExactGoodSpansWrong)

/-- 'laws.FnExactKeyLine': WHATEVER THE INPUT: true; the input reads as it did. -/
def fnExactKeyLineSpec : ChangeSpec := { name := "fnExactKeyLine", fn := fun _ => fun
  | [d1, d2, d3, d4] => { results := [.lit (.bool true)], args := [d1, d2, d3, d4] }
  | _ => none }
def fnExactKeyLineRow : OpenClaim := { program := "yteemfgdkmjmolaa", sum := "afaa5c33bd04a2621fc62998b7530f7cd401fe5dcb95477ac07c2d52544ec3f9", func := "loop.example/g00597/laws.FnExactKeyLine", spec := "fnExactKeyLine", apart := false }
def FnExactKeyLineSaid : Prop := fnExactKeyLineRow.holds Try.pinned (OpenSpec.ofChange fnExactKeyLineSpec)

/-- ITS FALSE NEIGHBOUR: 'it returns false'. Refute it at one input. -/
def fnExactKeyLineWrong : ChangeSpec := { name := "fnExactKeyLine", fn := fun _ => fun
  | [d1, d2, d3, d4] => { results := [.lit (.bool false)], args := [d1, d2, d3, d4] }
  | _ => none }
def FnExactKeyLineWrongFalsely : Prop := fnExactKeyLineRow.holds Try.pinned (OpenSpec.ofChange fnExactKeyLineWrong)

/-- 'laws.FnExactFindPiece': WHATEVER THE INPUT: true; the input reads as it did. -/
def fnExactFindPieceSpec : ChangeSpec := { name := "fnExactFindPiece", fn := fun _ => fun
  | [d1, d2] => { results := [.lit (.bool true)], args := [d1, d2] }
  | _ => none }
def fnExactFindPieceRow : OpenClaim := { program := "yteemfgdkmjmolaa", sum := "afaa5c33bd04a2621fc62998b7530f7cd401fe5dcb95477ac07c2d52544ec3f9", func := "loop.example/g00597/laws.FnExactFindPiece", spec := "fnExactFindPiece", apart := false }
def FnExactFindPieceSaid : Prop := fnExactFindPieceRow.holds Try.pinned (OpenSpec.ofChange fnExactFindPieceSpec)

/-- ITS FALSE NEIGHBOUR: 'it returns false'. Refute it at one input. -/
def fnExactFindPieceWrong : ChangeSpec := { name := "fnExactFindPiece", fn := fun _ => fun
  | [d1, d2] => { results := [.lit (.bool false)], args := [d1, d2] }
  | _ => none }
def FnExactFindPieceWrongFalsely : Prop := fnExactFindPieceRow.holds Try.pinned (OpenSpec.ofChange fnExactFindPieceWrong)

/-- 'laws.FnExactRenewalSpan': WHATEVER THE INPUT: true; the input reads as it did. -/
def fnExactRenewalSpanSpec : ChangeSpec := { name := "fnExactRenewalSpan", fn := fun _ => fun
  | [d1, d2, d3] => { results := [.lit (.bool true)], args := [d1, d2, d3] }
  | _ => none }
def fnExactRenewalSpanRow : OpenClaim := { program := "yteemfgdkmjmolaa", sum := "afaa5c33bd04a2621fc62998b7530f7cd401fe5dcb95477ac07c2d52544ec3f9", func := "loop.example/g00597/laws.FnExactRenewalSpan", spec := "fnExactRenewalSpan", apart := false }
def FnExactRenewalSpanSaid : Prop := fnExactRenewalSpanRow.holds Try.pinned (OpenSpec.ofChange fnExactRenewalSpanSpec)

/-- ITS FALSE NEIGHBOUR: 'it returns false'. Refute it at one input. -/
def fnExactRenewalSpanWrong : ChangeSpec := { name := "fnExactRenewalSpan", fn := fun _ => fun
  | [d1, d2, d3] => { results := [.lit (.bool false)], args := [d1, d2, d3] }
  | _ => none }
def FnExactRenewalSpanWrongFalsely : Prop := fnExactRenewalSpanRow.holds Try.pinned (OpenSpec.ofChange fnExactRenewalSpanWrong)

/-- 'laws.FnExactIsStrand': WHATEVER THE INPUT: true; the input reads as it did. -/
def fnExactIsStrandSpec : ChangeSpec := { name := "fnExactIsStrand", fn := fun _ => fun
  | [d] => { results := [.lit (.bool true)], args := [d] }
  | _ => none }
def fnExactIsStrandRow : OpenClaim := { program := "yteemfgdkmjmolaa", sum := "afaa5c33bd04a2621fc62998b7530f7cd401fe5dcb95477ac07c2d52544ec3f9", func := "loop.example/g00597/laws.FnExactIsStrand", spec := "fnExactIsStrand", apart := false }
def FnExactIsStrandSaid : Prop := fnExactIsStrandRow.holds Try.pinned (OpenSpec.ofChange fnExactIsStrandSpec)

/-- ITS FALSE NEIGHBOUR: 'it returns false'. Refute it at one input. -/
def fnExactIsStrandWrong : ChangeSpec := { name := "fnExactIsStrand", fn := fun _ => fun
  | [d] => { results := [.lit (.bool false)], args := [d] }
  | _ => none }
def FnExactIsStrandWrongFalsely : Prop := fnExactIsStrandRow.holds Try.pinned (OpenSpec.ofChange fnExactIsStrandWrong)

/-- 'laws.FnExactEqualStrands': WHATEVER THE INPUT: true; the input reads as it did. -/
def fnExactEqualStrandsSpec : ChangeSpec := { name := "fnExactEqualStrands", fn := fun _ => fun
  | [d1, d2] => { results := [.lit (.bool true)], args := [d1, d2] }
  | _ => none }
def fnExactEqualStrandsRow : OpenClaim := { program := "yteemfgdkmjmolaa", sum := "afaa5c33bd04a2621fc62998b7530f7cd401fe5dcb95477ac07c2d52544ec3f9", func := "loop.example/g00597/laws.FnExactEqualStrands", spec := "fnExactEqualStrands", apart := false }
def FnExactEqualStrandsSaid : Prop := fnExactEqualStrandsRow.holds Try.pinned (OpenSpec.ofChange fnExactEqualStrandsSpec)

/-- ITS FALSE NEIGHBOUR: 'it returns false'. Refute it at one input. -/
def fnExactEqualStrandsWrong : ChangeSpec := { name := "fnExactEqualStrands", fn := fun _ => fun
  | [d1, d2] => { results := [.lit (.bool false)], args := [d1, d2] }
  | _ => none }
def FnExactEqualStrandsWrongFalsely : Prop := fnExactEqualStrandsRow.holds Try.pinned (OpenSpec.ofChange fnExactEqualStrandsWrong)

/-- 'laws.FnExactOpenTimes': WHATEVER THE INPUT: true; the input reads as it did. -/
def fnExactOpenTimesSpec : ChangeSpec := { name := "fnExactOpenTimes", fn := fun _ => fun
  | [d1, d2] => { results := [.lit (.bool true)], args := [d1, d2] }
  | _ => none }
def fnExactOpenTimesRow : OpenClaim := { program := "yteemfgdkmjmolaa", sum := "afaa5c33bd04a2621fc62998b7530f7cd401fe5dcb95477ac07c2d52544ec3f9", func := "loop.example/g00597/laws.FnExactOpenTimes", spec := "fnExactOpenTimes", unfollowed := true, recurses := true, apart := false }
def FnExactOpenTimesSaid : Prop := fnExactOpenTimesRow.holds Try.pinned (OpenSpec.ofChange fnExactOpenTimesSpec)

/-- ITS FALSE NEIGHBOUR: 'it returns false'. Refute it at one input. -/
def fnExactOpenTimesWrong : ChangeSpec := { name := "fnExactOpenTimes", fn := fun _ => fun
  | [d1, d2] => { results := [.lit (.bool false)], args := [d1, d2] }
  | _ => none }
def FnExactOpenTimesWrongFalsely : Prop := fnExactOpenTimesRow.holds Try.pinned (OpenSpec.ofChange fnExactOpenTimesWrong)

/-- 'laws.FnExactLeafAt': WHATEVER THE INPUT: true; the input reads as it did. -/
def fnExactLeafAtSpec : ChangeSpec := { name := "fnExactLeafAt", fn := fun _ => fun
  | [d1, d2, d3] => { results := [.lit (.bool true)], args := [d1, d2, d3] }
  | _ => none }
def fnExactLeafAtRow : OpenClaim := { program := "yteemfgdkmjmolaa", sum := "afaa5c33bd04a2621fc62998b7530f7cd401fe5dcb95477ac07c2d52544ec3f9", func := "loop.example/g00597/laws.FnExactLeafAt", spec := "fnExactLeafAt", apart := false }
def FnExactLeafAtSaid : Prop := fnExactLeafAtRow.holds Try.pinned (OpenSpec.ofChange fnExactLeafAtSpec)

/-- ITS FALSE NEIGHBOUR: 'it returns false'. Refute it at one input. -/
def fnExactLeafAtWrong : ChangeSpec := { name := "fnExactLeafAt", fn := fun _ => fun
  | [d1, d2, d3] => { results := [.lit (.bool false)], args := [d1, d2, d3] }
  | _ => none }
def FnExactLeafAtWrongFalsely : Prop := fnExactLeafAtRow.holds Try.pinned (OpenSpec.ofChange fnExactLeafAtWrong)

/-- 'laws.FnExactRenewalBreak': WHATEVER THE INPUT: true; the input reads as it did. -/
def fnExactRenewalBreakSpec : ChangeSpec := { name := "fnExactRenewalBreak", fn := fun _ => fun
  | [d1, d2, d3, d4] => { results := [.lit (.bool true)], args := [d1, d2, d3, d4] }
  | _ => none }
def fnExactRenewalBreakRow : OpenClaim := { program := "yteemfgdkmjmolaa", sum := "afaa5c33bd04a2621fc62998b7530f7cd401fe5dcb95477ac07c2d52544ec3f9", func := "loop.example/g00597/laws.FnExactRenewalBreak", spec := "fnExactRenewalBreak", apart := false }
def FnExactRenewalBreakSaid : Prop := fnExactRenewalBreakRow.holds Try.pinned (OpenSpec.ofChange fnExactRenewalBreakSpec)

/-- ITS FALSE NEIGHBOUR: 'it returns false'. Refute it at one input. -/
def fnExactRenewalBreakWrong : ChangeSpec := { name := "fnExactRenewalBreak", fn := fun _ => fun
  | [d1, d2, d3, d4] => { results := [.lit (.bool false)], args := [d1, d2, d3, d4] }
  | _ => none }
def FnExactRenewalBreakWrongFalsely : Prop := fnExactRenewalBreakRow.holds Try.pinned (OpenSpec.ofChange fnExactRenewalBreakWrong)

/-- 'laws.FnExactCheckRenewal': WHATEVER THE INPUT: true; the input reads as it did. -/
def fnExactCheckRenewalSpec : ChangeSpec := { name := "fnExactCheckRenewal", fn := fun _ => fun
  | [d1, d2, d3, d4] => { results := [.lit (.bool true)], args := [d1, d2, d3, d4] }
  | _ => none }
def fnExactCheckRenewalRow : OpenClaim := { program := "yteemfgdkmjmolaa", sum := "afaa5c33bd04a2621fc62998b7530f7cd401fe5dcb95477ac07c2d52544ec3f9", func := "loop.example/g00597/laws.FnExactCheckRenewal", spec := "fnExactCheckRenewal", apart := false }
def FnExactCheckRenewalSaid : Prop := fnExactCheckRenewalRow.holds Try.pinned (OpenSpec.ofChange fnExactCheckRenewalSpec)

/-- ITS FALSE NEIGHBOUR: 'it returns false'. Refute it at one input. -/
def fnExactCheckRenewalWrong : ChangeSpec := { name := "fnExactCheckRenewal", fn := fun _ => fun
  | [d1, d2, d3, d4] => { results := [.lit (.bool false)], args := [d1, d2, d3, d4] }
  | _ => none }
def FnExactCheckRenewalWrongFalsely : Prop := fnExactCheckRenewalRow.holds Try.pinned (OpenSpec.ofChange fnExactCheckRenewalWrong)

/-- 'laws.FnExactEqualEvidence': WHATEVER THE INPUT: true; the input reads as it did. -/
def fnExactEqualEvidenceSpec : ChangeSpec := { name := "fnExactEqualEvidence", fn := fun _ => fun
  | [d1, d2] => { results := [.lit (.bool true)], args := [d1, d2] }
  | _ => none }
def fnExactEqualEvidenceRow : OpenClaim := { program := "yteemfgdkmjmolaa", sum := "afaa5c33bd04a2621fc62998b7530f7cd401fe5dcb95477ac07c2d52544ec3f9", func := "loop.example/g00597/laws.FnExactEqualEvidence", spec := "fnExactEqualEvidence", apart := false }
def FnExactEqualEvidenceSaid : Prop := fnExactEqualEvidenceRow.holds Try.pinned (OpenSpec.ofChange fnExactEqualEvidenceSpec)

/-- ITS FALSE NEIGHBOUR: 'it returns false'. Refute it at one input. -/
def fnExactEqualEvidenceWrong : ChangeSpec := { name := "fnExactEqualEvidence", fn := fun _ => fun
  | [d1, d2] => { results := [.lit (.bool false)], args := [d1, d2] }
  | _ => none }
def FnExactEqualEvidenceWrongFalsely : Prop := fnExactEqualEvidenceRow.holds Try.pinned (OpenSpec.ofChange fnExactEqualEvidenceWrong)

/- THE SECOND FORM. 'bulk': how many values and letters a reading holds, each counted each time it is reached (what is shared counts as often as it is met; a slice's spare places count too). A statement '..UptoSaid' is the law's where the arguments, and the package variables that the reading takes, are together of bulk at most 1048576: NARROWER than '..Said'. Prove '..Said' where nothing that the law and all that it calls make is longer than what came in: it says more and counts as full. Else prove '..UptoSaid'. A law counts once. -/
mutual
def uptoBulk {H : Type} : DataW H → Nat
  | .lit (.string bytes) => bytes.length + 1
  | .lit _ => 1
  | .nil => 1
  | .ptr d => uptoBulk d + 1
  | .slice elems spare => uptoBulkAll elems + uptoBulkAll spare + 1
  | .agg parts => uptoBulkAll parts + 1
  | .iface _ d => uptoBulk d + 1
  | .map entries => uptoBulkEntries entries + 1
  | .held _ => 1
def uptoBulkAll {H : Type} : List (DataW H) → Nat
  | [] => 0
  | d :: r => uptoBulk d + uptoBulkAll r
def uptoBulkEntries {H : Type} : List (Lit × DataW H) → Nat
  | [] => 0
  | x :: r => uptoBulkEntry x + uptoBulkEntries r
def uptoBulkEntry {H : Type} : Lit × DataW H → Nat
  | (.string bytes, d) => bytes.length + uptoBulk d + 1
  | (_, d) => uptoBulk d + 1
 end
def uptoSmall : (H : Type) → List (DataW H) → Bool := fun _ ds => decide (uptoBulkAll ds ≤ 1048576)
def OpenSpec.upto (s : _root_.Go.ChangeSpec) : _root_.Go.OpenSpec := { _root_.Go.OpenSpec.ofChange s with cond := some uptoSmall }

/-- 'laws.FnExactIsBarred', WHERE WHAT IT READS IS OF BULK AT MOST 1048576: true; the input reads as it did. -/
def fnExactIsBarredUptoRow : OpenClaim := { program := "yteemfgdkmjmolaa", sum := "afaa5c33bd04a2621fc62998b7530f7cd401fe5dcb95477ac07c2d52544ec3f9", func := "loop.example/g00597/laws.FnExactIsBarred", spec := "fnExactIsBarred", unfollowed := true, recurses := true, apart := false, narrowed := true }
def FnExactIsBarredUptoSaid : Prop := fnExactIsBarredUptoRow.holds Try.pinned (OpenSpec.upto fnExactIsBarredSpec)

/-- 'laws.FnExactIsEntitled', WHERE WHAT IT READS IS OF BULK AT MOST 1048576: true; the input reads as it did. -/
def fnExactIsEntitledUptoRow : OpenClaim := { program := "yteemfgdkmjmolaa", sum := "afaa5c33bd04a2621fc62998b7530f7cd401fe5dcb95477ac07c2d52544ec3f9", func := "loop.example/g00597/laws.FnExactIsEntitled", spec := "fnExactIsEntitled", apart := false, narrowed := true }
def FnExactIsEntitledUptoSaid : Prop := fnExactIsEntitledUptoRow.holds Try.pinned (OpenSpec.upto fnExactIsEntitledSpec)

/-- 'laws.FnExactIsFrame', WHERE WHAT IT READS IS OF BULK AT MOST 1048576: true; the input reads as it did. -/
def fnExactIsFrameUptoRow : OpenClaim := { program := "yteemfgdkmjmolaa", sum := "afaa5c33bd04a2621fc62998b7530f7cd401fe5dcb95477ac07c2d52544ec3f9", func := "loop.example/g00597/laws.FnExactIsFrame", spec := "fnExactIsFrame", apart := false, narrowed := true }
def FnExactIsFrameUptoSaid : Prop := fnExactIsFrameUptoRow.holds Try.pinned (OpenSpec.upto fnExactIsFrameSpec)

/-- 'laws.FnExactCurrentKey', WHERE WHAT IT READS IS OF BULK AT MOST 1048576: true; the input reads as it did. -/
def fnExactCurrentKeyUptoRow : OpenClaim := { program := "yteemfgdkmjmolaa", sum := "afaa5c33bd04a2621fc62998b7530f7cd401fe5dcb95477ac07c2d52544ec3f9", func := "loop.example/g00597/laws.FnExactCurrentKey", spec := "fnExactCurrentKey", apart := false, narrowed := true }
def FnExactCurrentKeyUptoSaid : Prop := fnExactCurrentKeyUptoRow.holds Try.pinned (OpenSpec.upto fnExactCurrentKeySpec)

/-- 'laws.FnExactBadSpans', WHERE WHAT IT READS IS OF BULK AT MOST 1048576: true; the input reads as it did. -/
def fnExactBadSpansUptoRow : OpenClaim := { program := "yteemfgdkmjmolaa", sum := "afaa5c33bd04a2621fc62998b7530f7cd401fe5dcb95477ac07c2d52544ec3f9", func := "loop.example/g00597/laws.FnExactBadSpans", spec := "fnExactBadSpans", unfollowed := true, recurses := true, apart := false, narrowed := true }
def FnExactBadSpansUptoSaid : Prop := fnExactBadSpansUptoRow.holds Try.pinned (OpenSpec.upto fnExactBadSpansSpec)

/-- 'laws.FnExactCheckPiece', WHERE WHAT IT READS IS OF BULK AT MOST 1048576: true; the input reads as it did. -/
def fnExactCheckPieceUptoRow : OpenClaim := { program := "yteemfgdkmjmolaa", sum := "afaa5c33bd04a2621fc62998b7530f7cd401fe5dcb95477ac07c2d52544ec3f9", func := "loop.example/g00597/laws.FnExactCheckPiece", spec := "fnExactCheckPiece", apart := false, narrowed := true }
def FnExactCheckPieceUptoSaid : Prop := fnExactCheckPieceUptoRow.holds Try.pinned (OpenSpec.upto fnExactCheckPieceSpec)

/-- 'laws.FnExactGoodSpans', WHERE WHAT IT READS IS OF BULK AT MOST 1048576: true; the input reads as it did. -/
def fnExactGoodSpansUptoRow : OpenClaim := { program := "yteemfgdkmjmolaa", sum := "afaa5c33bd04a2621fc62998b7530f7cd401fe5dcb95477ac07c2d52544ec3f9", func := "loop.example/g00597/laws.FnExactGoodSpans", spec := "fnExactGoodSpans", apart := false, narrowed := true }
def FnExactGoodSpansUptoSaid : Prop := fnExactGoodSpansUptoRow.holds Try.pinned (OpenSpec.upto fnExactGoodSpansSpec)

/-- 'laws.FnExactKeyLine', WHERE WHAT IT READS IS OF BULK AT MOST 1048576: true; the input reads as it did. -/
def fnExactKeyLineUptoRow : OpenClaim := { program := "yteemfgdkmjmolaa", sum := "afaa5c33bd04a2621fc62998b7530f7cd401fe5dcb95477ac07c2d52544ec3f9", func := "loop.example/g00597/laws.FnExactKeyLine", spec := "fnExactKeyLine", apart := false, narrowed := true }
def FnExactKeyLineUptoSaid : Prop := fnExactKeyLineUptoRow.holds Try.pinned (OpenSpec.upto fnExactKeyLineSpec)

/-- 'laws.FnExactFindPiece', WHERE WHAT IT READS IS OF BULK AT MOST 1048576: true; the input reads as it did. -/
def fnExactFindPieceUptoRow : OpenClaim := { program := "yteemfgdkmjmolaa", sum := "afaa5c33bd04a2621fc62998b7530f7cd401fe5dcb95477ac07c2d52544ec3f9", func := "loop.example/g00597/laws.FnExactFindPiece", spec := "fnExactFindPiece", apart := false, narrowed := true }
def FnExactFindPieceUptoSaid : Prop := fnExactFindPieceUptoRow.holds Try.pinned (OpenSpec.upto fnExactFindPieceSpec)

/-- 'laws.FnExactRenewalSpan', WHERE WHAT IT READS IS OF BULK AT MOST 1048576: true; the input reads as it did. -/
def fnExactRenewalSpanUptoRow : OpenClaim := { program := "yteemfgdkmjmolaa", sum := "afaa5c33bd04a2621fc62998b7530f7cd401fe5dcb95477ac07c2d52544ec3f9", func := "loop.example/g00597/laws.FnExactRenewalSpan", spec := "fnExactRenewalSpan", apart := false, narrowed := true }
def FnExactRenewalSpanUptoSaid : Prop := fnExactRenewalSpanUptoRow.holds Try.pinned (OpenSpec.upto fnExactRenewalSpanSpec)

/-- 'laws.FnExactIsStrand', WHERE WHAT IT READS IS OF BULK AT MOST 1048576: true; the input reads as it did. -/
def fnExactIsStrandUptoRow : OpenClaim := { program := "yteemfgdkmjmolaa", sum := "afaa5c33bd04a2621fc62998b7530f7cd401fe5dcb95477ac07c2d52544ec3f9", func := "loop.example/g00597/laws.FnExactIsStrand", spec := "fnExactIsStrand", apart := false, narrowed := true }
def FnExactIsStrandUptoSaid : Prop := fnExactIsStrandUptoRow.holds Try.pinned (OpenSpec.upto fnExactIsStrandSpec)

/-- 'laws.FnExactEqualStrands', WHERE WHAT IT READS IS OF BULK AT MOST 1048576: true; the input reads as it did. -/
def fnExactEqualStrandsUptoRow : OpenClaim := { program := "yteemfgdkmjmolaa", sum := "afaa5c33bd04a2621fc62998b7530f7cd401fe5dcb95477ac07c2d52544ec3f9", func := "loop.example/g00597/laws.FnExactEqualStrands", spec := "fnExactEqualStrands", apart := false, narrowed := true }
def FnExactEqualStrandsUptoSaid : Prop := fnExactEqualStrandsUptoRow.holds Try.pinned (OpenSpec.upto fnExactEqualStrandsSpec)

/-- 'laws.FnExactOpenTimes', WHERE WHAT IT READS IS OF BULK AT MOST 1048576: true; the input reads as it did. -/
def fnExactOpenTimesUptoRow : OpenClaim := { program := "yteemfgdkmjmolaa", sum := "afaa5c33bd04a2621fc62998b7530f7cd401fe5dcb95477ac07c2d52544ec3f9", func := "loop.example/g00597/laws.FnExactOpenTimes", spec := "fnExactOpenTimes", unfollowed := true, recurses := true, apart := false, narrowed := true }
def FnExactOpenTimesUptoSaid : Prop := fnExactOpenTimesUptoRow.holds Try.pinned (OpenSpec.upto fnExactOpenTimesSpec)

/-- 'laws.FnExactLeafAt', WHERE WHAT IT READS IS OF BULK AT MOST 1048576: true; the input reads as it did. -/
def fnExactLeafAtUptoRow : OpenClaim := { program := "yteemfgdkmjmolaa", sum := "afaa5c33bd04a2621fc62998b7530f7cd401fe5dcb95477ac07c2d52544ec3f9", func := "loop.example/g00597/laws.FnExactLeafAt", spec := "fnExactLeafAt", apart := false, narrowed := true }
def FnExactLeafAtUptoSaid : Prop := fnExactLeafAtUptoRow.holds Try.pinned (OpenSpec.upto fnExactLeafAtSpec)

/-- 'laws.FnExactRenewalBreak', WHERE WHAT IT READS IS OF BULK AT MOST 1048576: true; the input reads as it did. -/
def fnExactRenewalBreakUptoRow : OpenClaim := { program := "yteemfgdkmjmolaa", sum := "afaa5c33bd04a2621fc62998b7530f7cd401fe5dcb95477ac07c2d52544ec3f9", func := "loop.example/g00597/laws.FnExactRenewalBreak", spec := "fnExactRenewalBreak", apart := false, narrowed := true }
def FnExactRenewalBreakUptoSaid : Prop := fnExactRenewalBreakUptoRow.holds Try.pinned (OpenSpec.upto fnExactRenewalBreakSpec)

/-- 'laws.FnExactCheckRenewal', WHERE WHAT IT READS IS OF BULK AT MOST 1048576: true; the input reads as it did. -/
def fnExactCheckRenewalUptoRow : OpenClaim := { program := "yteemfgdkmjmolaa", sum := "afaa5c33bd04a2621fc62998b7530f7cd401fe5dcb95477ac07c2d52544ec3f9", func := "loop.example/g00597/laws.FnExactCheckRenewal", spec := "fnExactCheckRenewal", apart := false, narrowed := true }
def FnExactCheckRenewalUptoSaid : Prop := fnExactCheckRenewalUptoRow.holds Try.pinned (OpenSpec.upto fnExactCheckRenewalSpec)

/-- 'laws.FnExactEqualEvidence', WHERE WHAT IT READS IS OF BULK AT MOST 1048576: true; the input reads as it did. -/
def fnExactEqualEvidenceUptoRow : OpenClaim := { program := "yteemfgdkmjmolaa", sum := "afaa5c33bd04a2621fc62998b7530f7cd401fe5dcb95477ac07c2d52544ec3f9", func := "loop.example/g00597/laws.FnExactEqualEvidence", spec := "fnExactEqualEvidence", apart := false, narrowed := true }
def FnExactEqualEvidenceUptoSaid : Prop := fnExactEqualEvidenceUptoRow.holds Try.pinned (OpenSpec.upto fnExactEqualEvidenceSpec)

end Rows
end Go.Proofs.Yteemfgdkmjmolaa
