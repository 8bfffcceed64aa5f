/- What the functions of pieces answer, on both sides. It proves nothing of a statement by itself. -/
import Derived.Test.YteemfgdkmjmolaaF2
set_option linter.unusedSimpArgs false
set_option linter.unusedVariables false
set_option maxRecDepth 100000
namespace Go.Proofs.Yteemfgdkmjmolaa
open Go.AL
def kindC (l : List Int) : Prop := l.length ≠ 0 ∧ 101 ≤ l.getD 0 0 ∧ l.getD 0 0 ≤ 105 ∧ (l.length : Int) = [7, 5, 5, 9, 6].getD (l.getD 0 0 - 101).toNat 0
instance (l : List Int) : Decidable (kindC l) := by unfold kindC; infer_instance
def kindF (l : List Int) : Int := if kindC l then l.getD 0 0 else 0
theorem kind_len {l : List Int} {c : Int} (h : kindF l = c) (hc : c ≠ 0) : (l.length : Int) = [7, 5, 5, 9, 6].getD (c - 101).toNat 0 ∧ 101 ≤ c ∧ c ≤ 105 ∧ l.getD 0 0 = c := by
  unfold kindF at h
  by_cases hk : kindC l
  · rw [if_pos hk] at h
    obtain ⟨_, h2, h3, h4⟩ := hk
    rw [h] at h4 h2 h3
    exact ⟨h4, h2, h3, h⟩
  · rw [if_neg hk] at h; exact absurd h.symm hc
theorem kind101 {l : List Int} (h : kindF l = 101) : (l.length : Int) = 7 := (kind_len h (by decide)).1
theorem kind102 {l : List Int} (h : kindF l = 102) : (l.length : Int) = 5 := (kind_len h (by decide)).1
theorem kind103 {l : List Int} (h : kindF l = 103) : (l.length : Int) = 5 := (kind_len h (by decide)).1
theorem kind104 {l : List Int} (h : kindF l = 104) : (l.length : Int) = 9 := (kind_len h (by decide)).1
theorem kind105 {l : List Int} (h : kindF l = 105) : (l.length : Int) = 6 := (kind_len h (by decide)).1
theorem impl_KindOfPiece_ok (p : tPiece.den) : FunOK Try.prog 125 [⟨tPiece, p⟩] (.rd I (kindF p.2.1)) := by
  obtain ⟨a, l, b, u⟩ := p
  refine fun_of (tb := tb) follows Try.func125 (by kernel_rfl) Try.ntmps125 rfl rfl rfl ?_
  intro cx hN hw
  simp (disch := exact eqId (by kernel_rfl)) only [go_sem, ↓reduceIte, Nat.reduceAdd, Nat.reduceMul, Nat.reduceLT, Nat.reduceBEq, Nat.reduceLeDiff, Nat.reduceEqDiff, Int.reduceToNat]
  repeat' (first | (refine And.intro ?_ ?_) | intro _ | (refine callQ_intro (inRange_ok _ _ _) ?_; try (simp (disch := exact eqId (by kernel_rfl)) only [go_sem, ↓reduceIte, Nat.reduceAdd, Nat.reduceMul, Nat.reduceLT, Nat.reduceBEq, Nat.reduceLeDiff, Nat.reduceEqDiff, Int.reduceToNat])) | (refine callH_intro (fun hcc => inRange_ok _ _ _) ?_; try (simp (disch := exact eqId (by kernel_rfl)) only [go_sem, ↓reduceIte, Nat.reduceAdd, Nat.reduceMul, Nat.reduceLT, Nat.reduceBEq, Nat.reduceLeDiff, Nat.reduceEqDiff, Int.reduceToNat])))
  all_goals (try omega)
  all_goals rename_i h
  all_goals first
    | omega
    | (rw [wrap_i64 (by omega) (by omega)]; omega)
    | (refine Eq.symm (if_neg ?_); rintro ⟨h1, h2, h3, h4⟩; rw [wrap_i64 (by omega) (by omega)] at h; rcases h with h | h <;> simp_all <;> omega)
    | (refine Eq.symm (if_pos ?_); refine ⟨by omega, by omega, by omega, ?_⟩; rw [wrap_i64 (by omega) (by omega)] at h; simp_all; done)
    | (refine Eq.symm (if_neg ?_); rintro ⟨h1, h2, h3, h4⟩; rw [wrap_i64 (by omega) (by omega)] at h; exact h h4)
    | (refine Eq.symm (if_neg ?_); rintro ⟨h1, h2, h3, h4⟩; omega)
theorem spec_KindOfPiece_ok (p : tPiece.den) : FunOK Try.prog 240 [⟨tPiece, p⟩] (.rd I (kindF p.2.1)) := by
  obtain ⟨a, l, b, u⟩ := p
  refine fun_of (tb := tb) follows Try.func240 (by kernel_rfl) Try.ntmps240 rfl rfl rfl ?_
  intro cx hN hw
  simp (disch := exact eqId (by kernel_rfl)) only [go_sem, ↓reduceIte, Nat.reduceAdd, Nat.reduceMul, Nat.reduceLT, Nat.reduceBEq, Nat.reduceLeDiff, Nat.reduceEqDiff, Int.reduceToNat]
  repeat' (first | (refine And.intro ?_ ?_) | intro _ | (refine callQ_intro (l1In_ok _ _ _) ?_; try (simp (disch := exact eqId (by kernel_rfl)) only [go_sem, ↓reduceIte, Nat.reduceAdd, Nat.reduceMul, Nat.reduceLT, Nat.reduceBEq, Nat.reduceLeDiff, Nat.reduceEqDiff, Int.reduceToNat])) | (refine callH_intro (fun hcc => l1In_ok _ _ _) ?_; try (simp (disch := exact eqId (by kernel_rfl)) only [go_sem, ↓reduceIte, Nat.reduceAdd, Nat.reduceMul, Nat.reduceLT, Nat.reduceBEq, Nat.reduceLeDiff, Nat.reduceEqDiff, Int.reduceToNat])))
  all_goals (try omega)
  all_goals rename_i h
  all_goals first
    | omega
    | (rw [wrap_i64 (by omega) (by omega)]; omega)
    | (refine Eq.symm (if_neg ?_); rintro ⟨h1, h2, h3, h4⟩; rw [wrap_i64 (by omega) (by omega)] at h; rcases h with h | h <;> simp_all <;> omega)
    | (refine Eq.symm (if_pos ?_); refine ⟨by omega, by omega, by omega, ?_⟩; rw [wrap_i64 (by omega) (by omega)] at h; simp_all; done)
    | (refine Eq.symm (if_neg ?_); rintro ⟨h1, h2, h3, h4⟩; rw [wrap_i64 (by omega) (by omega)] at h; exact h h4)
    | (refine Eq.symm (if_neg ?_); rintro ⟨h1, h2, h3, h4⟩; omega)
def pieceCertF (p : tPiece.den) : tCert.den × Bool := if kindF p.2.1 = 101 ∧ p.2.1.getD 6 0 = p.1 then ((p.2.1.getD 1 0, p.2.1.getD 2 0, p.2.1.getD 3 0, p.2.1.getD 4 0, p.2.1.getD 5 0, p.2.1.getD 6 0, p.2.2.1, ()), true) else (tCert.dflt, false)
theorem impl_PieceCert_ok (p : tPiece.den) : FunOK Try.prog 126 [⟨tPiece, p⟩] (.tup [.rd tCert (pieceCertF p).1, .rd .bool (pieceCertF p).2]) := by
  refine fun_of (tb := tb) follows Try.func126 (by kernel_rfl) Try.ntmps126 rfl rfl rfl ?_
  intro cx hN hw
  simp (disch := exact eqId (by kernel_rfl)) only [go_sem, ↓reduceIte, Nat.reduceAdd, Nat.reduceMul, Nat.reduceLT, Nat.reduceBEq, Nat.reduceLeDiff, Nat.reduceEqDiff, Int.reduceToNat]
  repeat' (first | (refine And.intro ?_ ?_) | intro _ | (refine callQ_intro (impl_KindOfPiece_ok _) ?_; try (simp (disch := exact eqId (by kernel_rfl)) only [go_sem, ↓reduceIte, Nat.reduceAdd, Nat.reduceMul, Nat.reduceLT, Nat.reduceBEq, Nat.reduceLeDiff, Nat.reduceEqDiff, Int.reduceToNat])) | (refine callH_intro (fun hcc => impl_KindOfPiece_ok _) ?_; try (simp (disch := exact eqId (by kernel_rfl)) only [go_sem, ↓reduceIte, Nat.reduceAdd, Nat.reduceMul, Nat.reduceLT, Nat.reduceBEq, Nat.reduceLeDiff, Nat.reduceEqDiff, Int.reduceToNat])))
  all_goals rename_i h
  all_goals first
    | omega
    | (have := kind101 h; omega)
    | (have := kind101 h.1; omega)
    | (unfold pieceCertF; rw [if_neg (fun hc => by rcases h with h | h; exact h hc.1; exact h hc.2)]; done)
    | (unfold pieceCertF; rw [if_pos h]; done)
    | (unfold pieceCertF; rw [if_neg (fun hc => by rcases h with h | h; exact h hc.1; exact h hc.2)]; rfl)
    | (unfold pieceCertF; rw [if_pos h]; rfl)
theorem spec_PieceCert_ok (p : tPiece.den) : FunOK Try.prog 203 [⟨tPiece, p⟩] (.tup [.rd tCert (pieceCertF p).1, .rd .bool (pieceCertF p).2]) := by
  refine fun_of (tb := tb) follows Try.func203 (by kernel_rfl) Try.ntmps203 rfl rfl rfl ?_
  intro cx hN hw
  simp (disch := exact eqId (by kernel_rfl)) only [go_sem, ↓reduceIte, Nat.reduceAdd, Nat.reduceMul, Nat.reduceLT, Nat.reduceBEq, Nat.reduceLeDiff, Nat.reduceEqDiff, Int.reduceToNat]
  repeat' (first | (refine And.intro ?_ ?_) | intro _ | (refine callQ_intro (spec_KindOfPiece_ok _) ?_; try (simp (disch := exact eqId (by kernel_rfl)) only [go_sem, ↓reduceIte, Nat.reduceAdd, Nat.reduceMul, Nat.reduceLT, Nat.reduceBEq, Nat.reduceLeDiff, Nat.reduceEqDiff, Int.reduceToNat])) | (refine callH_intro (fun hcc => spec_KindOfPiece_ok _) ?_; try (simp (disch := exact eqId (by kernel_rfl)) only [go_sem, ↓reduceIte, Nat.reduceAdd, Nat.reduceMul, Nat.reduceLT, Nat.reduceBEq, Nat.reduceLeDiff, Nat.reduceEqDiff, Int.reduceToNat])))
  all_goals rename_i h
  all_goals first
    | omega
    | (have := kind101 h; omega)
    | (have := kind101 h.1; omega)
    | (unfold pieceCertF; rw [if_neg (fun hc => by rcases h with h | h; exact h hc.1; exact h hc.2)]; done)
    | (unfold pieceCertF; rw [if_pos h]; done)
    | (unfold pieceCertF; rw [if_neg (fun hc => by rcases h with h | h; exact h hc.1; exact h hc.2)]; rfl)
    | (unfold pieceCertF; rw [if_pos h]; rfl)
def pieceStatusF (p : tPiece.den) : tStatus.den × Bool := if kindF p.2.1 = 102 ∧ p.2.1.getD 4 0 = p.1 then ((p.2.1.getD 1 0, p.2.1.getD 2 0, p.2.1.getD 3 0, p.2.1.getD 4 0, p.2.2.1, ()), true) else (tStatus.dflt, false)
theorem impl_PieceStatus_ok (p : tPiece.den) : FunOK Try.prog 127 [⟨tPiece, p⟩] (.tup [.rd tStatus (pieceStatusF p).1, .rd .bool (pieceStatusF p).2]) := by
  refine fun_of (tb := tb) follows Try.func127 (by kernel_rfl) Try.ntmps127 rfl rfl rfl ?_
  intro cx hN hw
  simp (disch := exact eqId (by kernel_rfl)) only [go_sem, ↓reduceIte, Nat.reduceAdd, Nat.reduceMul, Nat.reduceLT, Nat.reduceBEq, Nat.reduceLeDiff, Nat.reduceEqDiff, Int.reduceToNat]
  repeat' (first | (refine And.intro ?_ ?_) | intro _ | (refine callQ_intro (impl_KindOfPiece_ok _) ?_; try (simp (disch := exact eqId (by kernel_rfl)) only [go_sem, ↓reduceIte, Nat.reduceAdd, Nat.reduceMul, Nat.reduceLT, Nat.reduceBEq, Nat.reduceLeDiff, Nat.reduceEqDiff, Int.reduceToNat])) | (refine callH_intro (fun hcc => impl_KindOfPiece_ok _) ?_; try (simp (disch := exact eqId (by kernel_rfl)) only [go_sem, ↓reduceIte, Nat.reduceAdd, Nat.reduceMul, Nat.reduceLT, Nat.reduceBEq, Nat.reduceLeDiff, Nat.reduceEqDiff, Int.reduceToNat])))
  all_goals rename_i h
  all_goals first
    | omega
    | (have := kind102 h; omega)
    | (have := kind102 h.1; omega)
    | (unfold pieceStatusF; rw [if_neg (fun hc => by rcases h with h | h; exact h hc.1; exact h hc.2)]; done)
    | (unfold pieceStatusF; rw [if_pos h]; done)
    | (unfold pieceStatusF; rw [if_neg (fun hc => by rcases h with h | h; exact h hc.1; exact h hc.2)]; rfl)
    | (unfold pieceStatusF; rw [if_pos h]; rfl)
theorem spec_PieceStatus_ok (p : tPiece.den) : FunOK Try.prog 204 [⟨tPiece, p⟩] (.tup [.rd tStatus (pieceStatusF p).1, .rd .bool (pieceStatusF p).2]) := by
  refine fun_of (tb := tb) follows Try.func204 (by kernel_rfl) Try.ntmps204 rfl rfl rfl ?_
  intro cx hN hw
  simp (disch := exact eqId (by kernel_rfl)) only [go_sem, ↓reduceIte, Nat.reduceAdd, Nat.reduceMul, Nat.reduceLT, Nat.reduceBEq, Nat.reduceLeDiff, Nat.reduceEqDiff, Int.reduceToNat]
  repeat' (first | (refine And.intro ?_ ?_) | intro _ | (refine callQ_intro (spec_KindOfPiece_ok _) ?_; try (simp (disch := exact eqId (by kernel_rfl)) only [go_sem, ↓reduceIte, Nat.reduceAdd, Nat.reduceMul, Nat.reduceLT, Nat.reduceBEq, Nat.reduceLeDiff, Nat.reduceEqDiff, Int.reduceToNat])) | (refine callH_intro (fun hcc => spec_KindOfPiece_ok _) ?_; try (simp (disch := exact eqId (by kernel_rfl)) only [go_sem, ↓reduceIte, Nat.reduceAdd, Nat.reduceMul, Nat.reduceLT, Nat.reduceBEq, Nat.reduceLeDiff, Nat.reduceEqDiff, Int.reduceToNat])))
  all_goals rename_i h
  all_goals first
    | omega
    | (have := kind102 h; omega)
    | (have := kind102 h.1; omega)
    | (unfold pieceStatusF; rw [if_neg (fun hc => by rcases h with h | h; exact h hc.1; exact h hc.2)]; done)
    | (unfold pieceStatusF; rw [if_pos h]; done)
    | (unfold pieceStatusF; rw [if_neg (fun hc => by rcases h with h | h; exact h hc.1; exact h hc.2)]; rfl)
    | (unfold pieceStatusF; rw [if_pos h]; rfl)
theorem impl_StampInts_ok (x : tStamp.den) : FunOK Try.prog 228 [⟨tStamp, x⟩] (.own 3 I [103, x.1, x.2.1, x.2.2.1, x.2.2.2.1]) := by
  refine fun_of (tb := tb) follows Try.func228 (by kernel_rfl) Try.ntmps228 rfl rfl rfl ?_
  intro cx hN hw
  simp (disch := exact eqId (by kernel_rfl)) only [go_sem, ↓reduceIte, Nat.reduceAdd, Nat.reduceMul, Nat.reduceLT, Nat.reduceBEq, Nat.reduceLeDiff, Nat.reduceEqDiff, Int.reduceToNat]
theorem spec_StampInts_ok (x : tStamp.den) : FunOK Try.prog 225 [⟨tStamp, x⟩] (.own 3 I [103, x.1, x.2.1, x.2.2.1, x.2.2.2.1]) := by
  refine fun_of (tb := tb) follows Try.func225 (by kernel_rfl) Try.ntmps225 rfl rfl rfl ?_
  intro cx hN hw
  simp (disch := exact eqId (by kernel_rfl)) only [go_sem, ↓reduceIte, Nat.reduceAdd, Nat.reduceMul, Nat.reduceLT, Nat.reduceBEq, Nat.reduceLeDiff, Nat.reduceEqDiff, Int.reduceToNat]
def pieceStampF (p : tPiece.den) : tStamp.den × Bool := if kindF p.2.1 = 103 then ((p.2.1.getD 1 0, p.2.1.getD 2 0, p.2.1.getD 3 0, p.2.1.getD 4 0, p.2.2.1, ()), true) else (tStamp.dflt, false)
theorem impl_PieceStamp_ok (p : tPiece.den) : FunOK Try.prog 128 [⟨tPiece, p⟩] (.tup [.rd tStamp (pieceStampF p).1, .rd .bool (pieceStampF p).2]) := by
  refine fun_of (tb := tb) follows Try.func128 (by kernel_rfl) Try.ntmps128 rfl rfl rfl ?_
  intro cx hN hw
  simp (disch := exact eqId (by kernel_rfl)) only [go_sem, ↓reduceIte, Nat.reduceAdd, Nat.reduceMul, Nat.reduceLT, Nat.reduceBEq, Nat.reduceLeDiff, Nat.reduceEqDiff, Int.reduceToNat]
  repeat' (first | (refine And.intro ?_ ?_) | intro _ | (refine callQ_intro (impl_KindOfPiece_ok _) ?_; try (simp (disch := exact eqId (by kernel_rfl)) only [go_sem, ↓reduceIte, Nat.reduceAdd, Nat.reduceMul, Nat.reduceLT, Nat.reduceBEq, Nat.reduceLeDiff, Nat.reduceEqDiff, Int.reduceToNat])) | (refine callH_intro (fun hcc => impl_KindOfPiece_ok _) ?_; try (simp (disch := exact eqId (by kernel_rfl)) only [go_sem, ↓reduceIte, Nat.reduceAdd, Nat.reduceMul, Nat.reduceLT, Nat.reduceBEq, Nat.reduceLeDiff, Nat.reduceEqDiff, Int.reduceToNat])))
  all_goals rename_i h
  all_goals first
    | omega
    | (have := kind103 h; omega)
    | (have := kind103 h.1; omega)
    | (unfold pieceStampF; rw [if_neg h]; done)
    | (unfold pieceStampF; rw [if_pos h]; done)
    | (unfold pieceStampF; rw [if_neg h]; rfl)
    | (unfold pieceStampF; rw [if_pos h]; rfl)
theorem spec_PieceStamp_ok (p : tPiece.den) : FunOK Try.prog 205 [⟨tPiece, p⟩] (.tup [.rd tStamp (pieceStampF p).1, .rd .bool (pieceStampF p).2]) := by
  refine fun_of (tb := tb) follows Try.func205 (by kernel_rfl) Try.ntmps205 rfl rfl rfl ?_
  intro cx hN hw
  simp (disch := exact eqId (by kernel_rfl)) only [go_sem, ↓reduceIte, Nat.reduceAdd, Nat.reduceMul, Nat.reduceLT, Nat.reduceBEq, Nat.reduceLeDiff, Nat.reduceEqDiff, Int.reduceToNat]
  repeat' (first | (refine And.intro ?_ ?_) | intro _ | (refine callQ_intro (spec_KindOfPiece_ok _) ?_; try (simp (disch := exact eqId (by kernel_rfl)) only [go_sem, ↓reduceIte, Nat.reduceAdd, Nat.reduceMul, Nat.reduceLT, Nat.reduceBEq, Nat.reduceLeDiff, Nat.reduceEqDiff, Int.reduceToNat])) | (refine callH_intro (fun hcc => spec_KindOfPiece_ok _) ?_; try (simp (disch := exact eqId (by kernel_rfl)) only [go_sem, ↓reduceIte, Nat.reduceAdd, Nat.reduceMul, Nat.reduceLT, Nat.reduceBEq, Nat.reduceLeDiff, Nat.reduceEqDiff, Int.reduceToNat])))
  all_goals rename_i h
  all_goals first
    | omega
    | (have := kind103 h; omega)
    | (have := kind103 h.1; omega)
    | (unfold pieceStampF; rw [if_neg h]; done)
    | (unfold pieceStampF; rw [if_pos h]; done)
    | (unfold pieceStampF; rw [if_neg h]; rfl)
    | (unfold pieceStampF; rw [if_pos h]; rfl)
def pieceSignF (p : tPiece.den) : tSignature.den × Bool := if kindF p.2.1 = 104 ∧ p.2.1.getD 1 0 = p.1 then ((p.2.1.getD 1 0, p.2.1.getD 2 0, p.2.1.getD 3 0, p.2.1.getD 4 0, p.2.1.getD 5 0, p.2.1.getD 6 0, p.2.1.getD 7 0, p.2.1.getD 8 0, p.2.2.1, ()), true) else (tSignature.dflt, false)
theorem impl_PieceSign_ok (p : tPiece.den) : FunOK Try.prog 129 [⟨tPiece, p⟩] (.tup [.rd tSignature (pieceSignF p).1, .rd .bool (pieceSignF p).2]) := by
  refine fun_of (tb := tb) follows Try.func129 (by kernel_rfl) Try.ntmps129 rfl rfl rfl ?_
  intro cx hN hw
  simp (disch := exact eqId (by kernel_rfl)) only [go_sem, ↓reduceIte, Nat.reduceAdd, Nat.reduceMul, Nat.reduceLT, Nat.reduceBEq, Nat.reduceLeDiff, Nat.reduceEqDiff, Int.reduceToNat]
  repeat' (first | (refine And.intro ?_ ?_) | intro _ | (refine callQ_intro (impl_KindOfPiece_ok _) ?_; try (simp (disch := exact eqId (by kernel_rfl)) only [go_sem, ↓reduceIte, Nat.reduceAdd, Nat.reduceMul, Nat.reduceLT, Nat.reduceBEq, Nat.reduceLeDiff, Nat.reduceEqDiff, Int.reduceToNat])) | (refine callH_intro (fun hcc => impl_KindOfPiece_ok _) ?_; try (simp (disch := exact eqId (by kernel_rfl)) only [go_sem, ↓reduceIte, Nat.reduceAdd, Nat.reduceMul, Nat.reduceLT, Nat.reduceBEq, Nat.reduceLeDiff, Nat.reduceEqDiff, Int.reduceToNat])))
  all_goals rename_i h
  all_goals first
    | omega
    | (have := kind104 h; omega)
    | (have := kind104 h.1; omega)
    | (unfold pieceSignF; rw [if_neg (fun hc => by rcases h with h | h; exact h hc.1; exact h hc.2)]; done)
    | (unfold pieceSignF; rw [if_pos h]; done)
    | (unfold pieceSignF; rw [if_neg (fun hc => by rcases h with h | h; exact h hc.1; exact h hc.2)]; rfl)
    | (unfold pieceSignF; rw [if_pos h]; rfl)
theorem spec_PieceSign_ok (p : tPiece.den) : FunOK Try.prog 206 [⟨tPiece, p⟩] (.tup [.rd tSignature (pieceSignF p).1, .rd .bool (pieceSignF p).2]) := by
  refine fun_of (tb := tb) follows Try.func206 (by kernel_rfl) Try.ntmps206 rfl rfl rfl ?_
  intro cx hN hw
  simp (disch := exact eqId (by kernel_rfl)) only [go_sem, ↓reduceIte, Nat.reduceAdd, Nat.reduceMul, Nat.reduceLT, Nat.reduceBEq, Nat.reduceLeDiff, Nat.reduceEqDiff, Int.reduceToNat]
  repeat' (first | (refine And.intro ?_ ?_) | intro _ | (refine callQ_intro (spec_KindOfPiece_ok _) ?_; try (simp (disch := exact eqId (by kernel_rfl)) only [go_sem, ↓reduceIte, Nat.reduceAdd, Nat.reduceMul, Nat.reduceLT, Nat.reduceBEq, Nat.reduceLeDiff, Nat.reduceEqDiff, Int.reduceToNat])) | (refine callH_intro (fun hcc => spec_KindOfPiece_ok _) ?_; try (simp (disch := exact eqId (by kernel_rfl)) only [go_sem, ↓reduceIte, Nat.reduceAdd, Nat.reduceMul, Nat.reduceLT, Nat.reduceBEq, Nat.reduceLeDiff, Nat.reduceEqDiff, Int.reduceToNat])))
  all_goals rename_i h
  all_goals first
    | omega
    | (have := kind104 h; omega)
    | (have := kind104 h.1; omega)
    | (unfold pieceSignF; rw [if_neg (fun hc => by rcases h with h | h; exact h hc.1; exact h hc.2)]; done)
    | (unfold pieceSignF; rw [if_pos h]; done)
    | (unfold pieceSignF; rw [if_neg (fun hc => by rcases h with h | h; exact h hc.1; exact h hc.2)]; rfl)
    | (unfold pieceSignF; rw [if_pos h]; rfl)
def pieceMandateF (p : tPiece.den) : tMandate.den × Bool := if kindF p.2.1 = 105 ∧ p.2.1.getD 5 0 = p.1 then ((p.2.1.getD 1 0, p.2.1.getD 2 0, p.2.1.getD 3 0, p.2.1.getD 4 0, p.2.1.getD 5 0, p.2.2.1, ()), true) else (tMandate.dflt, false)
theorem impl_PieceMandate_ok (p : tPiece.den) : FunOK Try.prog 130 [⟨tPiece, p⟩] (.tup [.rd tMandate (pieceMandateF p).1, .rd .bool (pieceMandateF p).2]) := by
  refine fun_of (tb := tb) follows Try.func130 (by kernel_rfl) Try.ntmps130 rfl rfl rfl ?_
  intro cx hN hw
  simp (disch := exact eqId (by kernel_rfl)) only [go_sem, ↓reduceIte, Nat.reduceAdd, Nat.reduceMul, Nat.reduceLT, Nat.reduceBEq, Nat.reduceLeDiff, Nat.reduceEqDiff, Int.reduceToNat]
  repeat' (first | (refine And.intro ?_ ?_) | intro _ | (refine callQ_intro (impl_KindOfPiece_ok _) ?_; try (simp (disch := exact eqId (by kernel_rfl)) only [go_sem, ↓reduceIte, Nat.reduceAdd, Nat.reduceMul, Nat.reduceLT, Nat.reduceBEq, Nat.reduceLeDiff, Nat.reduceEqDiff, Int.reduceToNat])) | (refine callH_intro (fun hcc => impl_KindOfPiece_ok _) ?_; try (simp (disch := exact eqId (by kernel_rfl)) only [go_sem, ↓reduceIte, Nat.reduceAdd, Nat.reduceMul, Nat.reduceLT, Nat.reduceBEq, Nat.reduceLeDiff, Nat.reduceEqDiff, Int.reduceToNat])))
  all_goals rename_i h
  all_goals first
    | omega
    | (have := kind105 h; omega)
    | (have := kind105 h.1; omega)
    | (unfold pieceMandateF; rw [if_neg (fun hc => by rcases h with h | h; exact h hc.1; exact h hc.2)]; done)
    | (unfold pieceMandateF; rw [if_pos h]; done)
    | (unfold pieceMandateF; rw [if_neg (fun hc => by rcases h with h | h; exact h hc.1; exact h hc.2)]; rfl)
    | (unfold pieceMandateF; rw [if_pos h]; rfl)
theorem spec_PieceMandate_ok (p : tPiece.den) : FunOK Try.prog 207 [⟨tPiece, p⟩] (.tup [.rd tMandate (pieceMandateF p).1, .rd .bool (pieceMandateF p).2]) := by
  refine fun_of (tb := tb) follows Try.func207 (by kernel_rfl) Try.ntmps207 rfl rfl rfl ?_
  intro cx hN hw
  simp (disch := exact eqId (by kernel_rfl)) only [go_sem, ↓reduceIte, Nat.reduceAdd, Nat.reduceMul, Nat.reduceLT, Nat.reduceBEq, Nat.reduceLeDiff, Nat.reduceEqDiff, Int.reduceToNat]
  repeat' (first | (refine And.intro ?_ ?_) | intro _ | (refine callQ_intro (spec_KindOfPiece_ok _) ?_; try (simp (disch := exact eqId (by kernel_rfl)) only [go_sem, ↓reduceIte, Nat.reduceAdd, Nat.reduceMul, Nat.reduceLT, Nat.reduceBEq, Nat.reduceLeDiff, Nat.reduceEqDiff, Int.reduceToNat])) | (refine callH_intro (fun hcc => spec_KindOfPiece_ok _) ?_; try (simp (disch := exact eqId (by kernel_rfl)) only [go_sem, ↓reduceIte, Nat.reduceAdd, Nat.reduceMul, Nat.reduceLT, Nat.reduceBEq, Nat.reduceLeDiff, Nat.reduceEqDiff, Int.reduceToNat])))
  all_goals rename_i h
  all_goals first
    | omega
    | (have := kind105 h; omega)
    | (have := kind105 h.1; omega)
    | (unfold pieceMandateF; rw [if_neg (fun hc => by rcases h with h | h; exact h hc.1; exact h hc.2)]; done)
    | (unfold pieceMandateF; rw [if_pos h]; done)
    | (unfold pieceMandateF; rw [if_neg (fun hc => by rcases h with h | h; exact h hc.1; exact h hc.2)]; rfl)
    | (unfold pieceMandateF; rw [if_pos h]; rfl)
end Go.Proofs.Yteemfgdkmjmolaa
