/-
  No cell of these rows narrows 'for every input' (looked for: loops, veiled, ifaces, maps, wideKeys, modest, calm, conditions, laid).
  DERIVED. THE GIVEN ROWS OF THIS SEAT. 7 by the template 'for every input the law returns true; each argument reads behind the call as it read before'; 0 by the template 'total and deterministic' (their statements: YtfkdkblbhilghaaTotals.lean).
  GIVEN WITH THE SEED: the statements are not yours to turn. If you find one false, say at which input.
  Laid BY PROGRAM, IN A SANDBOX (cutbox-rows.mjs): the forced cells as the released guide's own fill.sh prints them over the translation e290862c2deb6f36… (all of the seat's roots in one cut). By AI agents, Wed Nov 11 2026. No macro, syntax, notation, axiom, sorry.
-/
import Derived.Test.YtfkdkblbhilghaaChecked
import GoSem.Claim
import GoSem.ClaimJoined
import GoSem.ClaimMapViews
import Derived.JoinedTies
import Derived.KernelRfl
namespace Go.Proofs.Ytfkdkblbhilghaa
/- THE CELL 'sum', in the pinned program and in every row, IS THE sha256 OF THE DUMP (.gsa) THAT YtfkdkblbhilghaaProg.lean LOADS. Nothing in Lean hashes anything: it is a label: what it is worth is what the hold of that sum in a sandbox is worth. -/
noncomputable def Try.pinned : Pinned := { name := "ytfkdkblbhilghaa", sum := "e290862c2deb6f363695785d2ee936df9e405fe6cd3186f2f264326971e4c059", checked := Try.checked }
namespace Rows
def none {H : Type} : Left H := { results := [], args := [] }

/-- 'laws.FnExactDocDigests': WHATEVER THE INPUT: true; the input reads as it did. -/
def fnExactDocDigestsSpec : ChangeSpec := { name := "fnExactDocDigests", fn := fun _ => fun
  | [d1, d2] => { results := [.lit (.bool true)], args := [d1, d2] }
  | _ => none }
def fnExactDocDigestsRow : OpenClaim := { program := "ytfkdkblbhilghaa", sum := "e290862c2deb6f363695785d2ee936df9e405fe6cd3186f2f264326971e4c059", func := "loop.example/g00597/laws.FnExactDocDigests", spec := "fnExactDocDigests", apart := false }
def FnExactDocDigestsSaid : Prop := fnExactDocDigestsRow.holds Try.pinned (OpenSpec.ofChange fnExactDocDigestsSpec)

/-- ITS FALSE NEIGHBOUR: 'it returns false'. Refute it at one input. -/
def fnExactDocDigestsWrong : ChangeSpec := { name := "fnExactDocDigests", fn := fun _ => fun
  | [d1, d2] => { results := [.lit (.bool false)], args := [d1, d2] }
  | _ => none }
def FnExactDocDigestsWrongFalsely : Prop := fnExactDocDigestsRow.holds Try.pinned (OpenSpec.ofChange fnExactDocDigestsWrong)

/-- 'laws.FnExactAddPiece': WHATEVER THE INPUT: true; the input reads as it did. -/
def fnExactAddPieceSpec : ChangeSpec := { name := "fnExactAddPiece", fn := fun _ => fun
  | [d1, d2] => { results := [.lit (.bool true)], args := [d1, d2] }
  | _ => none }
def fnExactAddPieceRow : OpenClaim := { program := "ytfkdkblbhilghaa", sum := "e290862c2deb6f363695785d2ee936df9e405fe6cd3186f2f264326971e4c059", func := "loop.example/g00597/laws.FnExactAddPiece", spec := "fnExactAddPiece", apart := false }
def FnExactAddPieceSaid : Prop := fnExactAddPieceRow.holds Try.pinned (OpenSpec.ofChange fnExactAddPieceSpec)

/-- ITS FALSE NEIGHBOUR: 'it returns false'. Refute it at one input. -/
def fnExactAddPieceWrong : ChangeSpec := { name := "fnExactAddPiece", fn := fun _ => fun
  | [d1, d2] => { results := [.lit (.bool false)], args := [d1, d2] }
  | _ => none }
def FnExactAddPieceWrongFalsely : Prop := fnExactAddPieceRow.holds Try.pinned (OpenSpec.ofChange fnExactAddPieceWrong)

/-- 'laws.FnExactAddRenewal': WHATEVER THE INPUT: true; the input reads as it did. -/
def fnExactAddRenewalSpec : ChangeSpec := { name := "fnExactAddRenewal", fn := fun _ => fun
  | [d1, d2] => { results := [.lit (.bool true)], args := [d1, d2] }
  | _ => none }
def fnExactAddRenewalRow : OpenClaim := { program := "ytfkdkblbhilghaa", sum := "e290862c2deb6f363695785d2ee936df9e405fe6cd3186f2f264326971e4c059", func := "loop.example/g00597/laws.FnExactAddRenewal", spec := "fnExactAddRenewal", apart := false }
def FnExactAddRenewalSaid : Prop := fnExactAddRenewalRow.holds Try.pinned (OpenSpec.ofChange fnExactAddRenewalSpec)

/-- ITS FALSE NEIGHBOUR: 'it returns false'. Refute it at one input. -/
def fnExactAddRenewalWrong : ChangeSpec := { name := "fnExactAddRenewal", fn := fun _ => fun
  | [d1, d2] => { results := [.lit (.bool false)], args := [d1, d2] }
  | _ => none }
def FnExactAddRenewalWrongFalsely : Prop := fnExactAddRenewalRow.holds Try.pinned (OpenSpec.ofChange fnExactAddRenewalWrong)

/-- 'laws.FnExactAllDocDigests': WHATEVER THE INPUT: true; the input reads as it did. -/
def fnExactAllDocDigestsSpec : ChangeSpec := { name := "fnExactAllDocDigests", fn := fun _ => fun
  | [d1, d2] => { results := [.lit (.bool true)], args := [d1, d2] }
  | _ => none }
def fnExactAllDocDigestsRow : OpenClaim := { program := "ytfkdkblbhilghaa", sum := "e290862c2deb6f363695785d2ee936df9e405fe6cd3186f2f264326971e4c059", func := "loop.example/g00597/laws.FnExactAllDocDigests", spec := "fnExactAllDocDigests", apart := false }
def FnExactAllDocDigestsSaid : Prop := fnExactAllDocDigestsRow.holds Try.pinned (OpenSpec.ofChange fnExactAllDocDigestsSpec)

/-- ITS FALSE NEIGHBOUR: 'it returns false'. Refute it at one input. -/
def fnExactAllDocDigestsWrong : ChangeSpec := { name := "fnExactAllDocDigests", fn := fun _ => fun
  | [d1, d2] => { results := [.lit (.bool false)], args := [d1, d2] }
  | _ => none }
def FnExactAllDocDigestsWrongFalsely : Prop := fnExactAllDocDigestsRow.holds Try.pinned (OpenSpec.ofChange fnExactAllDocDigestsWrong)

/-- 'laws.FnExactRedactedDigests': WHATEVER THE INPUT: true; the input reads as it did. -/
def fnExactRedactedDigestsSpec : ChangeSpec := { name := "fnExactRedactedDigests", fn := fun _ => fun
  | [d1, d2] => { results := [.lit (.bool true)], args := [d1, d2] }
  | _ => none }
def fnExactRedactedDigestsRow : OpenClaim := { program := "ytfkdkblbhilghaa", sum := "e290862c2deb6f363695785d2ee936df9e405fe6cd3186f2f264326971e4c059", func := "loop.example/g00597/laws.FnExactRedactedDigests", spec := "fnExactRedactedDigests", apart := false }
def FnExactRedactedDigestsSaid : Prop := fnExactRedactedDigestsRow.holds Try.pinned (OpenSpec.ofChange fnExactRedactedDigestsSpec)

/-- ITS FALSE NEIGHBOUR: 'it returns false'. Refute it at one input. -/
def fnExactRedactedDigestsWrong : ChangeSpec := { name := "fnExactRedactedDigests", fn := fun _ => fun
  | [d1, d2] => { results := [.lit (.bool false)], args := [d1, d2] }
  | _ => none }
def FnExactRedactedDigestsWrongFalsely : Prop := fnExactRedactedDigestsRow.holds Try.pinned (OpenSpec.ofChange fnExactRedactedDigestsWrong)

/-- 'laws.FnExactJoinEvidence': WHATEVER THE INPUT: true; the input reads as it did. -/
def fnExactJoinEvidenceSpec : ChangeSpec := { name := "fnExactJoinEvidence", fn := fun _ => fun
  | [d1, d2] => { results := [.lit (.bool true)], args := [d1, d2] }
  | _ => none }
def fnExactJoinEvidenceRow : OpenClaim := { program := "ytfkdkblbhilghaa", sum := "e290862c2deb6f363695785d2ee936df9e405fe6cd3186f2f264326971e4c059", func := "loop.example/g00597/laws.FnExactJoinEvidence", spec := "fnExactJoinEvidence", apart := false }
def FnExactJoinEvidenceSaid : Prop := fnExactJoinEvidenceRow.holds Try.pinned (OpenSpec.ofChange fnExactJoinEvidenceSpec)

/-- ITS FALSE NEIGHBOUR: 'it returns false'. Refute it at one input. -/
def fnExactJoinEvidenceWrong : ChangeSpec := { name := "fnExactJoinEvidence", fn := fun _ => fun
  | [d1, d2] => { results := [.lit (.bool false)], args := [d1, d2] }
  | _ => none }
def FnExactJoinEvidenceWrongFalsely : Prop := fnExactJoinEvidenceRow.holds Try.pinned (OpenSpec.ofChange fnExactJoinEvidenceWrong)

/-- 'laws.FnExactAllRedactedDigests': WHATEVER THE INPUT: true; the input reads as it did. -/
def fnExactAllRedactedDigestsSpec : ChangeSpec := { name := "fnExactAllRedactedDigests", fn := fun _ => fun
  | [d1, d2] => { results := [.lit (.bool true)], args := [d1, d2] }
  | _ => none }
def fnExactAllRedactedDigestsRow : OpenClaim := { program := "ytfkdkblbhilghaa", sum := "e290862c2deb6f363695785d2ee936df9e405fe6cd3186f2f264326971e4c059", func := "loop.example/g00597/laws.FnExactAllRedactedDigests", spec := "fnExactAllRedactedDigests", apart := false }
def FnExactAllRedactedDigestsSaid : Prop := fnExactAllRedactedDigestsRow.holds Try.pinned (OpenSpec.ofChange fnExactAllRedactedDigestsSpec)

/-- ITS FALSE NEIGHBOUR: 'it returns false'. Refute it at one input. -/
def fnExactAllRedactedDigestsWrong : ChangeSpec := { name := "fnExactAllRedactedDigests", fn := fun _ => fun
  | [d1, d2] => { results := [.lit (.bool false)], args := [d1, d2] }
  | _ => none }
def FnExactAllRedactedDigestsWrongFalsely : Prop := fnExactAllRedactedDigestsRow.holds Try.pinned (OpenSpec.ofChange fnExactAllRedactedDigestsWrong)

/- THE SECOND FORM. 'bulk': how many values and letters a reading holds, each counted each time it is reached (what is shared counts as often as it is met; a slice's spare places count too). A statement '..UptoSaid' is the law's where the arguments, and the package variables that the reading takes, are together of bulk at most 1048576: NARROWER than '..Said'. Prove '..Said' where nothing that the law and all that it calls make is longer than what came in: it says more and counts as full. Else prove '..UptoSaid'. A law counts once. -/
mutual
def uptoBulk {H : Type} : DataW H → Nat
  | .lit (.string bytes) => bytes.length + 1
  | .lit _ => 1
  | .nil => 1
  | .ptr d => uptoBulk d + 1
  | .slice elems spare => uptoBulkAll elems + uptoBulkAll spare + 1
  | .agg parts => uptoBulkAll parts + 1
  | .iface _ d => uptoBulk d + 1
  | .map entries => uptoBulkEntries entries + 1
  | .held _ => 1
def uptoBulkAll {H : Type} : List (DataW H) → Nat
  | [] => 0
  | d :: r => uptoBulk d + uptoBulkAll r
def uptoBulkEntries {H : Type} : List (Lit × DataW H) → Nat
  | [] => 0
  | x :: r => uptoBulkEntry x + uptoBulkEntries r
def uptoBulkEntry {H : Type} : Lit × DataW H → Nat
  | (.string bytes, d) => bytes.length + uptoBulk d + 1
  | (_, d) => uptoBulk d + 1
 end
def uptoSmall : (H : Type) → List (DataW H) → Bool := fun _ ds => decide (uptoBulkAll ds ≤ 1048576)
def OpenSpec.upto (s : _root_.Go.ChangeSpec) : _root_.Go.OpenSpec := { _root_.Go.OpenSpec.ofChange s with cond := some uptoSmall }

/-- 'laws.FnExactDocDigests', WHERE WHAT IT READS IS OF BULK AT MOST 1048576: true; the input reads as it did. -/
def fnExactDocDigestsUptoRow : OpenClaim := { program := "ytfkdkblbhilghaa", sum := "e290862c2deb6f363695785d2ee936df9e405fe6cd3186f2f264326971e4c059", func := "loop.example/g00597/laws.FnExactDocDigests", spec := "fnExactDocDigests", apart := false, narrowed := true }
def FnExactDocDigestsUptoSaid : Prop := fnExactDocDigestsUptoRow.holds Try.pinned (OpenSpec.upto fnExactDocDigestsSpec)

/-- 'laws.FnExactAddPiece', WHERE WHAT IT READS IS OF BULK AT MOST 1048576: true; the input reads as it did. -/
def fnExactAddPieceUptoRow : OpenClaim := { program := "ytfkdkblbhilghaa", sum := "e290862c2deb6f363695785d2ee936df9e405fe6cd3186f2f264326971e4c059", func := "loop.example/g00597/laws.FnExactAddPiece", spec := "fnExactAddPiece", apart := false, narrowed := true }
def FnExactAddPieceUptoSaid : Prop := fnExactAddPieceUptoRow.holds Try.pinned (OpenSpec.upto fnExactAddPieceSpec)

/-- 'laws.FnExactAddRenewal', WHERE WHAT IT READS IS OF BULK AT MOST 1048576: true; the input reads as it did. -/
def fnExactAddRenewalUptoRow : OpenClaim := { program := "ytfkdkblbhilghaa", sum := "e290862c2deb6f363695785d2ee936df9e405fe6cd3186f2f264326971e4c059", func := "loop.example/g00597/laws.FnExactAddRenewal", spec := "fnExactAddRenewal", apart := false, narrowed := true }
def FnExactAddRenewalUptoSaid : Prop := fnExactAddRenewalUptoRow.holds Try.pinned (OpenSpec.upto fnExactAddRenewalSpec)

/-- 'laws.FnExactAllDocDigests', WHERE WHAT IT READS IS OF BULK AT MOST 1048576: true; the input reads as it did. -/
def fnExactAllDocDigestsUptoRow : OpenClaim := { program := "ytfkdkblbhilghaa", sum := "e290862c2deb6f363695785d2ee936df9e405fe6cd3186f2f264326971e4c059", func := "loop.example/g00597/laws.FnExactAllDocDigests", spec := "fnExactAllDocDigests", apart := false, narrowed := true }
def FnExactAllDocDigestsUptoSaid : Prop := fnExactAllDocDigestsUptoRow.holds Try.pinned (OpenSpec.upto fnExactAllDocDigestsSpec)

/-- 'laws.FnExactRedactedDigests', WHERE WHAT IT READS IS OF BULK AT MOST 1048576: true; the input reads as it did. -/
def fnExactRedactedDigestsUptoRow : OpenClaim := { program := "ytfkdkblbhilghaa", sum := "e290862c2deb6f363695785d2ee936df9e405fe6cd3186f2f264326971e4c059", func := "loop.example/g00597/laws.FnExactRedactedDigests", spec := "fnExactRedactedDigests", apart := false, narrowed := true }
def FnExactRedactedDigestsUptoSaid : Prop := fnExactRedactedDigestsUptoRow.holds Try.pinned (OpenSpec.upto fnExactRedactedDigestsSpec)

/-- 'laws.FnExactJoinEvidence', WHERE WHAT IT READS IS OF BULK AT MOST 1048576: true; the input reads as it did. -/
def fnExactJoinEvidenceUptoRow : OpenClaim := { program := "ytfkdkblbhilghaa", sum := "e290862c2deb6f363695785d2ee936df9e405fe6cd3186f2f264326971e4c059", func := "loop.example/g00597/laws.FnExactJoinEvidence", spec := "fnExactJoinEvidence", apart := false, narrowed := true }
def FnExactJoinEvidenceUptoSaid : Prop := fnExactJoinEvidenceUptoRow.holds Try.pinned (OpenSpec.upto fnExactJoinEvidenceSpec)

/-- 'laws.FnExactAllRedactedDigests', WHERE WHAT IT READS IS OF BULK AT MOST 1048576: true; the input reads as it did. -/
def fnExactAllRedactedDigestsUptoRow : OpenClaim := { program := "ytfkdkblbhilghaa", sum := "e290862c2deb6f363695785d2ee936df9e405fe6cd3186f2f264326971e4c059", func := "loop.example/g00597/laws.FnExactAllRedactedDigests", spec := "fnExactAllRedactedDigests", apart := false, narrowed := true }
def FnExactAllRedactedDigestsUptoSaid : Prop := fnExactAllRedactedDigestsUptoRow.holds Try.pinned (OpenSpec.upto fnExactAllRedactedDigestsSpec)

end Rows
end Go.Proofs.Ytfkdkblbhilghaa
