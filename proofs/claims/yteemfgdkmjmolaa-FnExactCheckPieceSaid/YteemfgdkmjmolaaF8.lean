/- What the functions of signed pieces answer, on both sides. It proves nothing of a statement by itself. -/
import Derived.Test.YteemfgdkmjmolaaF7
set_option linter.unusedSimpArgs false
set_option linter.unusedVariables false
set_option maxRecDepth 100000
namespace Go.Proofs.Yteemfgdkmjmolaa
open Go.AL
theorem pCert0 (p : tPiece.den) (h : ¬ kindF p.2.1 = 101) : (pieceCertF p).2 = false := by
  unfold pieceCertF
  split
  · rename_i hh
    first | exact absurd hh h | exact absurd hh.1 h
  · rfl
theorem pStatus0 (p : tPiece.den) (h : ¬ kindF p.2.1 = 102) : (pieceStatusF p).2 = false := by
  unfold pieceStatusF
  split
  · rename_i hh
    first | exact absurd hh h | exact absurd hh.1 h
  · rfl
theorem pStamp0 (p : tPiece.den) (h : ¬ kindF p.2.1 = 103) : (pieceStampF p).2 = false := by
  unfold pieceStampF
  split
  · rename_i hh
    first | exact absurd hh h | exact absurd hh.1 h
  · rfl
theorem pSign0 (p : tPiece.den) (h : ¬ kindF p.2.1 = 104) : (pieceSignF p).2 = false := by
  unfold pieceSignF
  split
  · rename_i hh
    first | exact absurd hh h | exact absurd hh.1 h
  · rfl
theorem pMandate0 (p : tPiece.den) (h : ¬ kindF p.2.1 = 105) : (pieceMandateF p).2 = false := by
  unfold pieceMandateF
  split
  · rename_i hh
    first | exact absurd hh h | exact absurd hh.1 h
  · rfl
def shapeF (p : tPiece.den) : Bool := (pieceCertF p).2 || (pieceStatusF p).2 || (pieceStampF p).2 || (pieceSignF p).2 || (pieceMandateF p).2
def cpF (l : List tKey.den) (p : tPiece.den) : Bool := shapeF p && cmF l p.1 p.2.1 p.2.2.1
theorem spec_l18Shape_ok (p : tPiece.den) : FunOK Try.prog 123 [⟨tPiece, p⟩] (.rd .bool (shapeF p)) := by
  refine fun_of (tb := tb) follows Try.func123 (by kernel_rfl) Try.ntmps123 rfl rfl rfl ?_
  intro cx hN hw
  simp (disch := exact eqId (by kernel_rfl)) only [go_sem, ↓reduceIte, Nat.reduceAdd, Nat.reduceMul, Nat.reduceLT, Nat.reduceBEq, Nat.reduceLeDiff, Nat.reduceEqDiff, Int.reduceToNat]
  repeat' (first | (refine And.intro ?_ ?_) | intro _ | (refine callQ_intro (spec_PieceCert_ok _) ?_; try (simp (disch := exact eqId (by kernel_rfl)) only [go_sem, ↓reduceIte, Nat.reduceAdd, Nat.reduceMul, Nat.reduceLT, Nat.reduceBEq, Nat.reduceLeDiff, Nat.reduceEqDiff, Int.reduceToNat])) | (refine callH_intro (fun hcc => spec_PieceCert_ok _) ?_; try (simp (disch := exact eqId (by kernel_rfl)) only [go_sem, ↓reduceIte, Nat.reduceAdd, Nat.reduceMul, Nat.reduceLT, Nat.reduceBEq, Nat.reduceLeDiff, Nat.reduceEqDiff, Int.reduceToNat])) | (refine callQ_intro (spec_PieceStatus_ok _) ?_; try (simp (disch := exact eqId (by kernel_rfl)) only [go_sem, ↓reduceIte, Nat.reduceAdd, Nat.reduceMul, Nat.reduceLT, Nat.reduceBEq, Nat.reduceLeDiff, Nat.reduceEqDiff, Int.reduceToNat])) | (refine callH_intro (fun hcc => spec_PieceStatus_ok _) ?_; try (simp (disch := exact eqId (by kernel_rfl)) only [go_sem, ↓reduceIte, Nat.reduceAdd, Nat.reduceMul, Nat.reduceLT, Nat.reduceBEq, Nat.reduceLeDiff, Nat.reduceEqDiff, Int.reduceToNat])) | (refine callQ_intro (spec_PieceStamp_ok _) ?_; try (simp (disch := exact eqId (by kernel_rfl)) only [go_sem, ↓reduceIte, Nat.reduceAdd, Nat.reduceMul, Nat.reduceLT, Nat.reduceBEq, Nat.reduceLeDiff, Nat.reduceEqDiff, Int.reduceToNat])) | (refine callH_intro (fun hcc => spec_PieceStamp_ok _) ?_; try (simp (disch := exact eqId (by kernel_rfl)) only [go_sem, ↓reduceIte, Nat.reduceAdd, Nat.reduceMul, Nat.reduceLT, Nat.reduceBEq, Nat.reduceLeDiff, Nat.reduceEqDiff, Int.reduceToNat])) | (refine callQ_intro (spec_PieceSign_ok _) ?_; try (simp (disch := exact eqId (by kernel_rfl)) only [go_sem, ↓reduceIte, Nat.reduceAdd, Nat.reduceMul, Nat.reduceLT, Nat.reduceBEq, Nat.reduceLeDiff, Nat.reduceEqDiff, Int.reduceToNat])) | (refine callH_intro (fun hcc => spec_PieceSign_ok _) ?_; try (simp (disch := exact eqId (by kernel_rfl)) only [go_sem, ↓reduceIte, Nat.reduceAdd, Nat.reduceMul, Nat.reduceLT, Nat.reduceBEq, Nat.reduceLeDiff, Nat.reduceEqDiff, Int.reduceToNat])) | (refine callQ_intro (spec_PieceMandate_ok _) ?_; try (simp (disch := exact eqId (by kernel_rfl)) only [go_sem, ↓reduceIte, Nat.reduceAdd, Nat.reduceMul, Nat.reduceLT, Nat.reduceBEq, Nat.reduceLeDiff, Nat.reduceEqDiff, Int.reduceToNat])) | (refine callH_intro (fun hcc => spec_PieceMandate_ok _) ?_; try (simp (disch := exact eqId (by kernel_rfl)) only [go_sem, ↓reduceIte, Nat.reduceAdd, Nat.reduceMul, Nat.reduceLT, Nat.reduceBEq, Nat.reduceLeDiff, Nat.reduceEqDiff, Int.reduceToNat])))
  all_goals (try rfl)
theorem spec_CheckPiece_ok (l : List tKey.den) (p : tPiece.den) (hs : p.2.1.length ≤ 1073741823) : FunOK Try.prog 49 [⟨(.list tKey), l⟩, ⟨tPiece, p⟩] (.rd .bool (cpF l p)) := by
  refine fun_of (tb := tb) follows Try.func49 (by kernel_rfl) Try.ntmps49 rfl rfl rfl ?_
  intro cx hN hw
  simp (disch := exact eqId (by kernel_rfl)) only [go_sem, ↓reduceIte, Nat.reduceAdd, Nat.reduceMul, Nat.reduceLT, Nat.reduceBEq, Nat.reduceLeDiff, Nat.reduceEqDiff, Int.reduceToNat]
  repeat' (first | (refine And.intro ?_ ?_) | intro _ | (refine callQ_intro (spec_l18Shape_ok _) ?_; try (simp (disch := exact eqId (by kernel_rfl)) only [go_sem, ↓reduceIte, Nat.reduceAdd, Nat.reduceMul, Nat.reduceLT, Nat.reduceBEq, Nat.reduceLeDiff, Nat.reduceEqDiff, Int.reduceToNat])) | (refine callH_intro (fun hcc => spec_l18Shape_ok _) ?_; try (simp (disch := exact eqId (by kernel_rfl)) only [go_sem, ↓reduceIte, Nat.reduceAdd, Nat.reduceMul, Nat.reduceLT, Nat.reduceBEq, Nat.reduceLeDiff, Nat.reduceEqDiff, Int.reduceToNat])) | (refine callQ_intro (spec_CheckMark_ok _ _ _ _ hs) ?_; try (simp (disch := exact eqId (by kernel_rfl)) only [go_sem, ↓reduceIte, Nat.reduceAdd, Nat.reduceMul, Nat.reduceLT, Nat.reduceBEq, Nat.reduceLeDiff, Nat.reduceEqDiff, Int.reduceToNat])) | (refine callH_intro (fun hcc => spec_CheckMark_ok _ _ _ _ hs) ?_; try (simp (disch := exact eqId (by kernel_rfl)) only [go_sem, ↓reduceIte, Nat.reduceAdd, Nat.reduceMul, Nat.reduceLT, Nat.reduceBEq, Nat.reduceLeDiff, Nat.reduceEqDiff, Int.reduceToNat])))
  all_goals (try rfl)
theorem impl_CheckPiece_ok (l : List tKey.den) (p : tPiece.den) (hs : p.2.1.length ≤ 1073741823) : FunOK Try.prog 51 [⟨(.list tKey), l⟩, ⟨tPiece, p⟩] (.rd .bool (cpF l p)) := by
  refine fun_of (tb := tb) follows Try.func51 (by kernel_rfl) Try.ntmps51 rfl rfl rfl ?_
  intro cx hN hw
  simp (disch := exact eqId (by kernel_rfl)) only [go_sem, ↓reduceIte, Nat.reduceAdd, Nat.reduceMul, Nat.reduceLT, Nat.reduceBEq, Nat.reduceLeDiff, Nat.reduceEqDiff, Int.reduceToNat]
  repeat' (first | (refine And.intro ?_ ?_) | intro _ | (refine callQ_intro (impl_KindOfPiece_ok _) ?_; try (simp (disch := exact eqId (by kernel_rfl)) only [go_sem, ↓reduceIte, Nat.reduceAdd, Nat.reduceMul, Nat.reduceLT, Nat.reduceBEq, Nat.reduceLeDiff, Nat.reduceEqDiff, Int.reduceToNat])) | (refine callH_intro (fun hcc => impl_KindOfPiece_ok _) ?_; try (simp (disch := exact eqId (by kernel_rfl)) only [go_sem, ↓reduceIte, Nat.reduceAdd, Nat.reduceMul, Nat.reduceLT, Nat.reduceBEq, Nat.reduceLeDiff, Nat.reduceEqDiff, Int.reduceToNat])) | (refine callQ_intro (impl_PieceCert_ok _) ?_; try (simp (disch := exact eqId (by kernel_rfl)) only [go_sem, ↓reduceIte, Nat.reduceAdd, Nat.reduceMul, Nat.reduceLT, Nat.reduceBEq, Nat.reduceLeDiff, Nat.reduceEqDiff, Int.reduceToNat])) | (refine callH_intro (fun hcc => impl_PieceCert_ok _) ?_; try (simp (disch := exact eqId (by kernel_rfl)) only [go_sem, ↓reduceIte, Nat.reduceAdd, Nat.reduceMul, Nat.reduceLT, Nat.reduceBEq, Nat.reduceLeDiff, Nat.reduceEqDiff, Int.reduceToNat])) | (refine callQ_intro (impl_PieceStatus_ok _) ?_; try (simp (disch := exact eqId (by kernel_rfl)) only [go_sem, ↓reduceIte, Nat.reduceAdd, Nat.reduceMul, Nat.reduceLT, Nat.reduceBEq, Nat.reduceLeDiff, Nat.reduceEqDiff, Int.reduceToNat])) | (refine callH_intro (fun hcc => impl_PieceStatus_ok _) ?_; try (simp (disch := exact eqId (by kernel_rfl)) only [go_sem, ↓reduceIte, Nat.reduceAdd, Nat.reduceMul, Nat.reduceLT, Nat.reduceBEq, Nat.reduceLeDiff, Nat.reduceEqDiff, Int.reduceToNat])) | (refine callQ_intro (impl_PieceStamp_ok _) ?_; try (simp (disch := exact eqId (by kernel_rfl)) only [go_sem, ↓reduceIte, Nat.reduceAdd, Nat.reduceMul, Nat.reduceLT, Nat.reduceBEq, Nat.reduceLeDiff, Nat.reduceEqDiff, Int.reduceToNat])) | (refine callH_intro (fun hcc => impl_PieceStamp_ok _) ?_; try (simp (disch := exact eqId (by kernel_rfl)) only [go_sem, ↓reduceIte, Nat.reduceAdd, Nat.reduceMul, Nat.reduceLT, Nat.reduceBEq, Nat.reduceLeDiff, Nat.reduceEqDiff, Int.reduceToNat])) | (refine callQ_intro (impl_PieceSign_ok _) ?_; try (simp (disch := exact eqId (by kernel_rfl)) only [go_sem, ↓reduceIte, Nat.reduceAdd, Nat.reduceMul, Nat.reduceLT, Nat.reduceBEq, Nat.reduceLeDiff, Nat.reduceEqDiff, Int.reduceToNat])) | (refine callH_intro (fun hcc => impl_PieceSign_ok _) ?_; try (simp (disch := exact eqId (by kernel_rfl)) only [go_sem, ↓reduceIte, Nat.reduceAdd, Nat.reduceMul, Nat.reduceLT, Nat.reduceBEq, Nat.reduceLeDiff, Nat.reduceEqDiff, Int.reduceToNat])) | (refine callQ_intro (impl_PieceMandate_ok _) ?_; try (simp (disch := exact eqId (by kernel_rfl)) only [go_sem, ↓reduceIte, Nat.reduceAdd, Nat.reduceMul, Nat.reduceLT, Nat.reduceBEq, Nat.reduceLeDiff, Nat.reduceEqDiff, Int.reduceToNat])) | (refine callH_intro (fun hcc => impl_PieceMandate_ok _) ?_; try (simp (disch := exact eqId (by kernel_rfl)) only [go_sem, ↓reduceIte, Nat.reduceAdd, Nat.reduceMul, Nat.reduceLT, Nat.reduceBEq, Nat.reduceLeDiff, Nat.reduceEqDiff, Int.reduceToNat])) | (refine callQ_intro (impl_CheckMark_ok _ _ _ _ hs) ?_; try (simp (disch := exact eqId (by kernel_rfl)) only [go_sem, ↓reduceIte, Nat.reduceAdd, Nat.reduceMul, Nat.reduceLT, Nat.reduceBEq, Nat.reduceLeDiff, Nat.reduceEqDiff, Int.reduceToNat])) | (refine callH_intro (fun hcc => impl_CheckMark_ok _ _ _ _ hs) ?_; try (simp (disch := exact eqId (by kernel_rfl)) only [go_sem, ↓reduceIte, Nat.reduceAdd, Nat.reduceMul, Nat.reduceLT, Nat.reduceBEq, Nat.reduceLeDiff, Nat.reduceEqDiff, Int.reduceToNat])))
  all_goals (try omega)
  all_goals (try (simp only [cpF, shapeF, pCert0 p (by omega), pStatus0 p (by omega), pStamp0 p (by omega), pSign0 p (by omega), pMandate0 p (by omega), Bool.false_or, Bool.or_false, Bool.false_and]; done))
  all_goals (try (have h0 : kindF p.2.1 = 101 := by omega
                  simp only [cpF, shapeF, pStatus0 p (by omega), pStamp0 p (by omega), pSign0 p (by omega), pMandate0 p (by omega), Bool.false_or, Bool.or_false]; done))
  all_goals (try (have h0 : kindF p.2.1 = 102 := by omega
                  simp only [cpF, shapeF, pCert0 p (by omega), pStamp0 p (by omega), pSign0 p (by omega), pMandate0 p (by omega), Bool.false_or, Bool.or_false]; done))
  all_goals (try (have h0 : kindF p.2.1 = 103 := by omega
                  simp only [cpF, shapeF, pCert0 p (by omega), pStatus0 p (by omega), pSign0 p (by omega), pMandate0 p (by omega), Bool.false_or, Bool.or_false]; done))
  all_goals (try (have h0 : kindF p.2.1 = 104 := by omega
                  simp only [cpF, shapeF, pCert0 p (by omega), pStatus0 p (by omega), pStamp0 p (by omega), pMandate0 p (by omega), Bool.false_or, Bool.or_false]; done))
  all_goals (try (have h0 : kindF p.2.1 = 105 := by omega
                  simp only [cpF, shapeF, pCert0 p (by omega), pStatus0 p (by omega), pStamp0 p (by omega), pSign0 p (by omega), Bool.false_or, Bool.or_false]; done))
end Go.Proofs.Yteemfgdkmjmolaa
