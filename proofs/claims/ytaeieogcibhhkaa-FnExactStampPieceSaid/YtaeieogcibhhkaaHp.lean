/- What the laws' own helpers answer: marks of pieces. It proves nothing of a statement by itself. -/
import Derived.Test.YtaeieogcibhhkaaF4
import Derived.Test.YtaeieogcibhhkaaHt
import Derived.Test.YtaeieogcibhhkaaHe
import Derived.Test.YtaeieogcibhhkaaHs
import Derived.Test.YtaeieogcibhhkaaHm
set_option linter.unusedSimpArgs false
set_option linter.unusedVariables false
set_option maxRecDepth 100000
namespace Go.Proofs.Ytaeieogcibhhkaa
open Go.AL
theorem markPiece_ok (a c : Int) (l : List Int) (n : Int) (h0 : 0 ≤ n) (h1 : n ≤ 1152921504606846976) (hs : l.length ≤ 1073741824) : MutOK Try.prog 34 [some 3, none] [.rd ⟨I, a⟩, .obj (.arr 3 I l), .rd ⟨I, c⟩, .rd ⟨I, n⟩] (.rd I (n + l.length * 1 : Int)) [.arr 3 I (markL I n l.length)] := by
  refine fun_ofM (tb := tb) follows Try.func34 (by kernel_rfl) Try.ntmps34 rfl rfl (by simp [shOK]) rfl ?_
  intro cx hN hw
  simp (disch := exact eqId (by kernel_rfl)) only [go_sem, ↓reduceIte, Nat.reduceAdd, Nat.reduceMul, Nat.reduceLT, Nat.reduceBEq, Nat.reduceLeDiff, Nat.reduceEqDiff, Int.reduceToNat]
  refine callM_intro (markIntS_ok l n h0 h1 hs) ⟨⟨trivial, by decide⟩, rfl, rfl⟩ ?_
  simp (disch := exact eqId (by kernel_rfl)) only [go_sem, ↓reduceIte, Nat.reduceAdd, Nat.reduceMul, Nat.reduceLT, Nat.reduceBEq, Nat.reduceLeDiff, Nat.reduceEqDiff, Int.reduceToNat]
theorem heldPiece_ok (a c : Int) (m : Nat) (n : Int) (h0 : 0 ≤ n) (h1 : n ≤ 1152921504606846976) (hs : m ≤ 1073741824) : FunOK Try.prog 35 [⟨tPiece, (a, markL I n m, c, ())⟩, ⟨I, n⟩] (.rd I (n + m * 1 : Int)) := by
  refine fun_of (tb := tb) follows Try.func35 (by kernel_rfl) Try.ntmps35 rfl rfl rfl ?_
  intro cx hN hw
  simp (disch := exact eqId (by kernel_rfl)) only [go_sem, ↓reduceIte, Nat.reduceAdd, Nat.reduceMul, Nat.reduceLT, Nat.reduceBEq, Nat.reduceLeDiff, Nat.reduceEqDiff, Int.reduceToNat]
  repeat' (first | (refine And.intro ?_ ?_) | intro _ | (refine callQ_intro (heldIntS_ok m n h0 h1 hs) ?_; try (simp (disch := exact eqId (by kernel_rfl)) only [go_sem, ↓reduceIte, Nat.reduceAdd, Nat.reduceMul, Nat.reduceLT, Nat.reduceBEq, Nat.reduceLeDiff, Nat.reduceEqDiff, Int.reduceToNat])) | (refine callH_intro (fun hcc => heldIntS_ok m n h0 h1 hs) ?_; try (simp (disch := exact eqId (by kernel_rfl)) only [go_sem, ↓reduceIte, Nat.reduceAdd, Nat.reduceMul, Nat.reduceLT, Nat.reduceBEq, Nat.reduceLeDiff, Nat.reduceEqDiff, Int.reduceToNat])))
  all_goals (try omega)
end Go.Proofs.Ytaeieogcibhhkaa
