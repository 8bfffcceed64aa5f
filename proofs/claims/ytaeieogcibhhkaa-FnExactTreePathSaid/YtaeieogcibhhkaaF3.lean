/- What the functions of pieces answer, on both sides. It proves nothing of a statement by itself. -/
import Derived.Test.YtaeieogcibhhkaaF2
set_option linter.unusedSimpArgs false
set_option linter.unusedVariables false
set_option maxRecDepth 100000
namespace Go.Proofs.Ytaeieogcibhhkaa
open Go.AL
def kindC (l : List Int) : Prop := l.length ≠ 0 ∧ 101 ≤ l.getD 0 0 ∧ l.getD 0 0 ≤ 105 ∧ (l.length : Int) = [7, 5, 5, 9, 6].getD (l.getD 0 0 - 101).toNat 0
instance (l : List Int) : Decidable (kindC l) := by unfold kindC; infer_instance
def kindF (l : List Int) : Int := if kindC l then l.getD 0 0 else 0
theorem kind_len {l : List Int} {c : Int} (h : kindF l = c) (hc : c ≠ 0) : (l.length : Int) = [7, 5, 5, 9, 6].getD (c - 101).toNat 0 ∧ 101 ≤ c ∧ c ≤ 105 ∧ l.getD 0 0 = c := by
  unfold kindF at h
  by_cases hk : kindC l
  · rw [if_pos hk] at h
    obtain ⟨_, h2, h3, h4⟩ := hk
    rw [h] at h4 h2 h3
    exact ⟨h4, h2, h3, h⟩
  · rw [if_neg hk] at h; exact absurd h.symm hc
theorem kind101 {l : List Int} (h : kindF l = 101) : (l.length : Int) = 7 := (kind_len h (by decide)).1
theorem kind102 {l : List Int} (h : kindF l = 102) : (l.length : Int) = 5 := (kind_len h (by decide)).1
theorem kind103 {l : List Int} (h : kindF l = 103) : (l.length : Int) = 5 := (kind_len h (by decide)).1
theorem kind104 {l : List Int} (h : kindF l = 104) : (l.length : Int) = 9 := (kind_len h (by decide)).1
theorem kind105 {l : List Int} (h : kindF l = 105) : (l.length : Int) = 6 := (kind_len h (by decide)).1
theorem impl_KindOfPiece_ok (p : tPiece.den) : FunOK Try.prog 45 [⟨tPiece, p⟩] (.rd I (kindF p.2.1)) := by
  obtain ⟨a, l, b, u⟩ := p
  refine fun_of (tb := tb) follows Try.func45 (by kernel_rfl) Try.ntmps45 rfl rfl rfl ?_
  intro cx hN hw
  simp (disch := exact eqId (by kernel_rfl)) only [go_sem, ↓reduceIte, Nat.reduceAdd, Nat.reduceMul, Nat.reduceLT, Nat.reduceBEq, Nat.reduceLeDiff, Nat.reduceEqDiff, Int.reduceToNat]
  repeat' (first | (refine And.intro ?_ ?_) | intro _ | (refine callQ_intro (inRange_ok _ _ _) ?_; try (simp (disch := exact eqId (by kernel_rfl)) only [go_sem, ↓reduceIte, Nat.reduceAdd, Nat.reduceMul, Nat.reduceLT, Nat.reduceBEq, Nat.reduceLeDiff, Nat.reduceEqDiff, Int.reduceToNat])) | (refine callH_intro (fun hcc => inRange_ok _ _ _) ?_; try (simp (disch := exact eqId (by kernel_rfl)) only [go_sem, ↓reduceIte, Nat.reduceAdd, Nat.reduceMul, Nat.reduceLT, Nat.reduceBEq, Nat.reduceLeDiff, Nat.reduceEqDiff, Int.reduceToNat])))
  all_goals (try omega)
  all_goals rename_i h
  all_goals first
    | omega
    | (rw [wrap_i64 (by omega) (by omega)]; omega)
    | (refine Eq.symm (if_neg ?_); rintro ⟨h1, h2, h3, h4⟩; rw [wrap_i64 (by omega) (by omega)] at h; rcases h with h | h <;> simp_all <;> omega)
    | (refine Eq.symm (if_pos ?_); refine ⟨by omega, by omega, by omega, ?_⟩; rw [wrap_i64 (by omega) (by omega)] at h; simp_all; done)
    | (refine Eq.symm (if_neg ?_); rintro ⟨h1, h2, h3, h4⟩; rw [wrap_i64 (by omega) (by omega)] at h; exact h h4)
    | (refine Eq.symm (if_neg ?_); rintro ⟨h1, h2, h3, h4⟩; omega)
theorem spec_KindOfPiece_ok (p : tPiece.den) : FunOK Try.prog 43 [⟨tPiece, p⟩] (.rd I (kindF p.2.1)) := by
  obtain ⟨a, l, b, u⟩ := p
  refine fun_of (tb := tb) follows Try.func43 (by kernel_rfl) Try.ntmps43 rfl rfl rfl ?_
  intro cx hN hw
  simp (disch := exact eqId (by kernel_rfl)) only [go_sem, ↓reduceIte, Nat.reduceAdd, Nat.reduceMul, Nat.reduceLT, Nat.reduceBEq, Nat.reduceLeDiff, Nat.reduceEqDiff, Int.reduceToNat]
  repeat' (first | (refine And.intro ?_ ?_) | intro _ | (refine callQ_intro (l1In_ok _ _ _) ?_; try (simp (disch := exact eqId (by kernel_rfl)) only [go_sem, ↓reduceIte, Nat.reduceAdd, Nat.reduceMul, Nat.reduceLT, Nat.reduceBEq, Nat.reduceLeDiff, Nat.reduceEqDiff, Int.reduceToNat])) | (refine callH_intro (fun hcc => l1In_ok _ _ _) ?_; try (simp (disch := exact eqId (by kernel_rfl)) only [go_sem, ↓reduceIte, Nat.reduceAdd, Nat.reduceMul, Nat.reduceLT, Nat.reduceBEq, Nat.reduceLeDiff, Nat.reduceEqDiff, Int.reduceToNat])))
  all_goals (try omega)
  all_goals rename_i h
  all_goals first
    | omega
    | (rw [wrap_i64 (by omega) (by omega)]; omega)
    | (refine Eq.symm (if_neg ?_); rintro ⟨h1, h2, h3, h4⟩; rw [wrap_i64 (by omega) (by omega)] at h; rcases h with h | h <;> simp_all <;> omega)
    | (refine Eq.symm (if_pos ?_); refine ⟨by omega, by omega, by omega, ?_⟩; rw [wrap_i64 (by omega) (by omega)] at h; simp_all; done)
    | (refine Eq.symm (if_neg ?_); rintro ⟨h1, h2, h3, h4⟩; rw [wrap_i64 (by omega) (by omega)] at h; exact h h4)
    | (refine Eq.symm (if_neg ?_); rintro ⟨h1, h2, h3, h4⟩; omega)
theorem impl_CertInts_ok (x : tCert.den) : FunOK Try.prog 114 [⟨tCert, x⟩] (.own 3 I [101, x.1, x.2.1, x.2.2.1, x.2.2.2.1, x.2.2.2.2.1, x.2.2.2.2.2.1]) := by
  refine fun_of (tb := tb) follows Try.func114 (by kernel_rfl) Try.ntmps114 rfl rfl rfl ?_
  intro cx hN hw
  simp (disch := exact eqId (by kernel_rfl)) only [go_sem, ↓reduceIte, Nat.reduceAdd, Nat.reduceMul, Nat.reduceLT, Nat.reduceBEq, Nat.reduceLeDiff, Nat.reduceEqDiff, Int.reduceToNat]
theorem spec_CertInts_ok (x : tCert.den) : FunOK Try.prog 113 [⟨tCert, x⟩] (.own 3 I [101, x.1, x.2.1, x.2.2.1, x.2.2.2.1, x.2.2.2.2.1, x.2.2.2.2.2.1]) := by
  refine fun_of (tb := tb) follows Try.func113 (by kernel_rfl) Try.ntmps113 rfl rfl rfl ?_
  intro cx hN hw
  simp (disch := exact eqId (by kernel_rfl)) only [go_sem, ↓reduceIte, Nat.reduceAdd, Nat.reduceMul, Nat.reduceLT, Nat.reduceBEq, Nat.reduceLeDiff, Nat.reduceEqDiff, Int.reduceToNat]
theorem impl_CertPiece_ok (x : tCert.den) : FunOK Try.prog 48 [⟨tCert, x⟩] (.agg [.rd I (x.2.2.2.2.2.1), .own 3 I [101, x.1, x.2.1, x.2.2.1, x.2.2.2.1, x.2.2.2.2.1, x.2.2.2.2.2.1], .rd I (x.2.2.2.2.2.2.1)]) := by
  refine fun_of (tb := tb) follows Try.func48 (by kernel_rfl) Try.ntmps48 rfl rfl rfl ?_
  intro cx hN hw
  simp (disch := exact eqId (by kernel_rfl)) only [go_sem, ↓reduceIte, Nat.reduceAdd, Nat.reduceMul, Nat.reduceLT, Nat.reduceBEq, Nat.reduceLeDiff, Nat.reduceEqDiff, Int.reduceToNat]
  repeat' (first | (refine And.intro ?_ ?_) | intro _ | (refine callQ_intro (impl_CertInts_ok _) ?_; try (simp (disch := exact eqId (by kernel_rfl)) only [go_sem, ↓reduceIte, Nat.reduceAdd, Nat.reduceMul, Nat.reduceLT, Nat.reduceBEq, Nat.reduceLeDiff, Nat.reduceEqDiff, Int.reduceToNat])) | (refine callH_intro (fun hcc => impl_CertInts_ok _) ?_; try (simp (disch := exact eqId (by kernel_rfl)) only [go_sem, ↓reduceIte, Nat.reduceAdd, Nat.reduceMul, Nat.reduceLT, Nat.reduceBEq, Nat.reduceLeDiff, Nat.reduceEqDiff, Int.reduceToNat])))
theorem spec_CertPiece_ok (x : tCert.den) : FunOK Try.prog 46 [⟨tCert, x⟩] (.agg [.rd I (x.2.2.2.2.2.1), .own 3 I [101, x.1, x.2.1, x.2.2.1, x.2.2.2.1, x.2.2.2.2.1, x.2.2.2.2.2.1], .rd I (x.2.2.2.2.2.2.1)]) := by
  refine fun_of (tb := tb) follows Try.func46 (by kernel_rfl) Try.ntmps46 rfl rfl rfl ?_
  intro cx hN hw
  simp (disch := exact eqId (by kernel_rfl)) only [go_sem, ↓reduceIte, Nat.reduceAdd, Nat.reduceMul, Nat.reduceLT, Nat.reduceBEq, Nat.reduceLeDiff, Nat.reduceEqDiff, Int.reduceToNat]
  repeat' (first | (refine And.intro ?_ ?_) | intro _ | (refine callQ_intro (spec_CertInts_ok _) ?_; try (simp (disch := exact eqId (by kernel_rfl)) only [go_sem, ↓reduceIte, Nat.reduceAdd, Nat.reduceMul, Nat.reduceLT, Nat.reduceBEq, Nat.reduceLeDiff, Nat.reduceEqDiff, Int.reduceToNat])) | (refine callH_intro (fun hcc => spec_CertInts_ok _) ?_; try (simp (disch := exact eqId (by kernel_rfl)) only [go_sem, ↓reduceIte, Nat.reduceAdd, Nat.reduceMul, Nat.reduceLT, Nat.reduceBEq, Nat.reduceLeDiff, Nat.reduceEqDiff, Int.reduceToNat])))
def pieceCertF (p : tPiece.den) : tCert.den × Bool := if kindF p.2.1 = 101 ∧ p.2.1.getD 6 0 = p.1 then ((p.2.1.getD 1 0, p.2.1.getD 2 0, p.2.1.getD 3 0, p.2.1.getD 4 0, p.2.1.getD 5 0, p.2.1.getD 6 0, p.2.2.1, ()), true) else (tCert.dflt, false)
theorem impl_PieceCert_ok (p : tPiece.den) : FunOK Try.prog 75 [⟨tPiece, p⟩] (.tup [.rd tCert (pieceCertF p).1, .rd .bool (pieceCertF p).2]) := by
  refine fun_of (tb := tb) follows Try.func75 (by kernel_rfl) Try.ntmps75 rfl rfl rfl ?_
  intro cx hN hw
  simp (disch := exact eqId (by kernel_rfl)) only [go_sem, ↓reduceIte, Nat.reduceAdd, Nat.reduceMul, Nat.reduceLT, Nat.reduceBEq, Nat.reduceLeDiff, Nat.reduceEqDiff, Int.reduceToNat]
  repeat' (first | (refine And.intro ?_ ?_) | intro _ | (refine callQ_intro (impl_KindOfPiece_ok _) ?_; try (simp (disch := exact eqId (by kernel_rfl)) only [go_sem, ↓reduceIte, Nat.reduceAdd, Nat.reduceMul, Nat.reduceLT, Nat.reduceBEq, Nat.reduceLeDiff, Nat.reduceEqDiff, Int.reduceToNat])) | (refine callH_intro (fun hcc => impl_KindOfPiece_ok _) ?_; try (simp (disch := exact eqId (by kernel_rfl)) only [go_sem, ↓reduceIte, Nat.reduceAdd, Nat.reduceMul, Nat.reduceLT, Nat.reduceBEq, Nat.reduceLeDiff, Nat.reduceEqDiff, Int.reduceToNat])))
  all_goals rename_i h
  all_goals first
    | omega
    | (have := kind101 h; omega)
    | (have := kind101 h.1; omega)
    | (unfold pieceCertF; rw [if_neg (fun hc => by rcases h with h | h; exact h hc.1; exact h hc.2)]; done)
    | (unfold pieceCertF; rw [if_pos h]; done)
    | (unfold pieceCertF; rw [if_neg (fun hc => by rcases h with h | h; exact h hc.1; exact h hc.2)]; rfl)
    | (unfold pieceCertF; rw [if_pos h]; rfl)
theorem spec_PieceCert_ok (p : tPiece.den) : FunOK Try.prog 74 [⟨tPiece, p⟩] (.tup [.rd tCert (pieceCertF p).1, .rd .bool (pieceCertF p).2]) := by
  refine fun_of (tb := tb) follows Try.func74 (by kernel_rfl) Try.ntmps74 rfl rfl rfl ?_
  intro cx hN hw
  simp (disch := exact eqId (by kernel_rfl)) only [go_sem, ↓reduceIte, Nat.reduceAdd, Nat.reduceMul, Nat.reduceLT, Nat.reduceBEq, Nat.reduceLeDiff, Nat.reduceEqDiff, Int.reduceToNat]
  repeat' (first | (refine And.intro ?_ ?_) | intro _ | (refine callQ_intro (spec_KindOfPiece_ok _) ?_; try (simp (disch := exact eqId (by kernel_rfl)) only [go_sem, ↓reduceIte, Nat.reduceAdd, Nat.reduceMul, Nat.reduceLT, Nat.reduceBEq, Nat.reduceLeDiff, Nat.reduceEqDiff, Int.reduceToNat])) | (refine callH_intro (fun hcc => spec_KindOfPiece_ok _) ?_; try (simp (disch := exact eqId (by kernel_rfl)) only [go_sem, ↓reduceIte, Nat.reduceAdd, Nat.reduceMul, Nat.reduceLT, Nat.reduceBEq, Nat.reduceLeDiff, Nat.reduceEqDiff, Int.reduceToNat])))
  all_goals rename_i h
  all_goals first
    | omega
    | (have := kind101 h; omega)
    | (have := kind101 h.1; omega)
    | (unfold pieceCertF; rw [if_neg (fun hc => by rcases h with h | h; exact h hc.1; exact h hc.2)]; done)
    | (unfold pieceCertF; rw [if_pos h]; done)
    | (unfold pieceCertF; rw [if_neg (fun hc => by rcases h with h | h; exact h hc.1; exact h hc.2)]; rfl)
    | (unfold pieceCertF; rw [if_pos h]; rfl)
theorem impl_StatusInts_ok (x : tStatus.den) : FunOK Try.prog 109 [⟨tStatus, x⟩] (.own 3 I [102, x.1, x.2.1, x.2.2.1, x.2.2.2.1]) := by
  refine fun_of (tb := tb) follows Try.func109 (by kernel_rfl) Try.ntmps109 rfl rfl rfl ?_
  intro cx hN hw
  simp (disch := exact eqId (by kernel_rfl)) only [go_sem, ↓reduceIte, Nat.reduceAdd, Nat.reduceMul, Nat.reduceLT, Nat.reduceBEq, Nat.reduceLeDiff, Nat.reduceEqDiff, Int.reduceToNat]
theorem spec_StatusInts_ok (x : tStatus.den) : FunOK Try.prog 108 [⟨tStatus, x⟩] (.own 3 I [102, x.1, x.2.1, x.2.2.1, x.2.2.2.1]) := by
  refine fun_of (tb := tb) follows Try.func108 (by kernel_rfl) Try.ntmps108 rfl rfl rfl ?_
  intro cx hN hw
  simp (disch := exact eqId (by kernel_rfl)) only [go_sem, ↓reduceIte, Nat.reduceAdd, Nat.reduceMul, Nat.reduceLT, Nat.reduceBEq, Nat.reduceLeDiff, Nat.reduceEqDiff, Int.reduceToNat]
theorem impl_StatusPiece_ok (x : tStatus.den) : FunOK Try.prog 38 [⟨tStatus, x⟩] (.agg [.rd I (x.2.2.2.1), .own 3 I [102, x.1, x.2.1, x.2.2.1, x.2.2.2.1], .rd I (x.2.2.2.2.1)]) := by
  refine fun_of (tb := tb) follows Try.func38 (by kernel_rfl) Try.ntmps38 rfl rfl rfl ?_
  intro cx hN hw
  simp (disch := exact eqId (by kernel_rfl)) only [go_sem, ↓reduceIte, Nat.reduceAdd, Nat.reduceMul, Nat.reduceLT, Nat.reduceBEq, Nat.reduceLeDiff, Nat.reduceEqDiff, Int.reduceToNat]
  repeat' (first | (refine And.intro ?_ ?_) | intro _ | (refine callQ_intro (impl_StatusInts_ok _) ?_; try (simp (disch := exact eqId (by kernel_rfl)) only [go_sem, ↓reduceIte, Nat.reduceAdd, Nat.reduceMul, Nat.reduceLT, Nat.reduceBEq, Nat.reduceLeDiff, Nat.reduceEqDiff, Int.reduceToNat])) | (refine callH_intro (fun hcc => impl_StatusInts_ok _) ?_; try (simp (disch := exact eqId (by kernel_rfl)) only [go_sem, ↓reduceIte, Nat.reduceAdd, Nat.reduceMul, Nat.reduceLT, Nat.reduceBEq, Nat.reduceLeDiff, Nat.reduceEqDiff, Int.reduceToNat])))
theorem spec_StatusPiece_ok (x : tStatus.den) : FunOK Try.prog 36 [⟨tStatus, x⟩] (.agg [.rd I (x.2.2.2.1), .own 3 I [102, x.1, x.2.1, x.2.2.1, x.2.2.2.1], .rd I (x.2.2.2.2.1)]) := by
  refine fun_of (tb := tb) follows Try.func36 (by kernel_rfl) Try.ntmps36 rfl rfl rfl ?_
  intro cx hN hw
  simp (disch := exact eqId (by kernel_rfl)) only [go_sem, ↓reduceIte, Nat.reduceAdd, Nat.reduceMul, Nat.reduceLT, Nat.reduceBEq, Nat.reduceLeDiff, Nat.reduceEqDiff, Int.reduceToNat]
  repeat' (first | (refine And.intro ?_ ?_) | intro _ | (refine callQ_intro (spec_StatusInts_ok _) ?_; try (simp (disch := exact eqId (by kernel_rfl)) only [go_sem, ↓reduceIte, Nat.reduceAdd, Nat.reduceMul, Nat.reduceLT, Nat.reduceBEq, Nat.reduceLeDiff, Nat.reduceEqDiff, Int.reduceToNat])) | (refine callH_intro (fun hcc => spec_StatusInts_ok _) ?_; try (simp (disch := exact eqId (by kernel_rfl)) only [go_sem, ↓reduceIte, Nat.reduceAdd, Nat.reduceMul, Nat.reduceLT, Nat.reduceBEq, Nat.reduceLeDiff, Nat.reduceEqDiff, Int.reduceToNat])))
def pieceStatusF (p : tPiece.den) : tStatus.den × Bool := if kindF p.2.1 = 102 ∧ p.2.1.getD 4 0 = p.1 then ((p.2.1.getD 1 0, p.2.1.getD 2 0, p.2.1.getD 3 0, p.2.1.getD 4 0, p.2.2.1, ()), true) else (tStatus.dflt, false)
theorem impl_PieceStatus_ok (p : tPiece.den) : FunOK Try.prog 69 [⟨tPiece, p⟩] (.tup [.rd tStatus (pieceStatusF p).1, .rd .bool (pieceStatusF p).2]) := by
  refine fun_of (tb := tb) follows Try.func69 (by kernel_rfl) Try.ntmps69 rfl rfl rfl ?_
  intro cx hN hw
  simp (disch := exact eqId (by kernel_rfl)) only [go_sem, ↓reduceIte, Nat.reduceAdd, Nat.reduceMul, Nat.reduceLT, Nat.reduceBEq, Nat.reduceLeDiff, Nat.reduceEqDiff, Int.reduceToNat]
  repeat' (first | (refine And.intro ?_ ?_) | intro _ | (refine callQ_intro (impl_KindOfPiece_ok _) ?_; try (simp (disch := exact eqId (by kernel_rfl)) only [go_sem, ↓reduceIte, Nat.reduceAdd, Nat.reduceMul, Nat.reduceLT, Nat.reduceBEq, Nat.reduceLeDiff, Nat.reduceEqDiff, Int.reduceToNat])) | (refine callH_intro (fun hcc => impl_KindOfPiece_ok _) ?_; try (simp (disch := exact eqId (by kernel_rfl)) only [go_sem, ↓reduceIte, Nat.reduceAdd, Nat.reduceMul, Nat.reduceLT, Nat.reduceBEq, Nat.reduceLeDiff, Nat.reduceEqDiff, Int.reduceToNat])))
  all_goals rename_i h
  all_goals first
    | omega
    | (have := kind102 h; omega)
    | (have := kind102 h.1; omega)
    | (unfold pieceStatusF; rw [if_neg (fun hc => by rcases h with h | h; exact h hc.1; exact h hc.2)]; done)
    | (unfold pieceStatusF; rw [if_pos h]; done)
    | (unfold pieceStatusF; rw [if_neg (fun hc => by rcases h with h | h; exact h hc.1; exact h hc.2)]; rfl)
    | (unfold pieceStatusF; rw [if_pos h]; rfl)
theorem spec_PieceStatus_ok (p : tPiece.den) : FunOK Try.prog 68 [⟨tPiece, p⟩] (.tup [.rd tStatus (pieceStatusF p).1, .rd .bool (pieceStatusF p).2]) := by
  refine fun_of (tb := tb) follows Try.func68 (by kernel_rfl) Try.ntmps68 rfl rfl rfl ?_
  intro cx hN hw
  simp (disch := exact eqId (by kernel_rfl)) only [go_sem, ↓reduceIte, Nat.reduceAdd, Nat.reduceMul, Nat.reduceLT, Nat.reduceBEq, Nat.reduceLeDiff, Nat.reduceEqDiff, Int.reduceToNat]
  repeat' (first | (refine And.intro ?_ ?_) | intro _ | (refine callQ_intro (spec_KindOfPiece_ok _) ?_; try (simp (disch := exact eqId (by kernel_rfl)) only [go_sem, ↓reduceIte, Nat.reduceAdd, Nat.reduceMul, Nat.reduceLT, Nat.reduceBEq, Nat.reduceLeDiff, Nat.reduceEqDiff, Int.reduceToNat])) | (refine callH_intro (fun hcc => spec_KindOfPiece_ok _) ?_; try (simp (disch := exact eqId (by kernel_rfl)) only [go_sem, ↓reduceIte, Nat.reduceAdd, Nat.reduceMul, Nat.reduceLT, Nat.reduceBEq, Nat.reduceLeDiff, Nat.reduceEqDiff, Int.reduceToNat])))
  all_goals rename_i h
  all_goals first
    | omega
    | (have := kind102 h; omega)
    | (have := kind102 h.1; omega)
    | (unfold pieceStatusF; rw [if_neg (fun hc => by rcases h with h | h; exact h hc.1; exact h hc.2)]; done)
    | (unfold pieceStatusF; rw [if_pos h]; done)
    | (unfold pieceStatusF; rw [if_neg (fun hc => by rcases h with h | h; exact h hc.1; exact h hc.2)]; rfl)
    | (unfold pieceStatusF; rw [if_pos h]; rfl)
theorem impl_StampInts_ok (x : tStamp.den) : FunOK Try.prog 106 [⟨tStamp, x⟩] (.own 3 I [103, x.1, x.2.1, x.2.2.1, x.2.2.2.1]) := by
  refine fun_of (tb := tb) follows Try.func106 (by kernel_rfl) Try.ntmps106 rfl rfl rfl ?_
  intro cx hN hw
  simp (disch := exact eqId (by kernel_rfl)) only [go_sem, ↓reduceIte, Nat.reduceAdd, Nat.reduceMul, Nat.reduceLT, Nat.reduceBEq, Nat.reduceLeDiff, Nat.reduceEqDiff, Int.reduceToNat]
theorem spec_StampInts_ok (x : tStamp.den) : FunOK Try.prog 105 [⟨tStamp, x⟩] (.own 3 I [103, x.1, x.2.1, x.2.2.1, x.2.2.2.1]) := by
  refine fun_of (tb := tb) follows Try.func105 (by kernel_rfl) Try.ntmps105 rfl rfl rfl ?_
  intro cx hN hw
  simp (disch := exact eqId (by kernel_rfl)) only [go_sem, ↓reduceIte, Nat.reduceAdd, Nat.reduceMul, Nat.reduceLT, Nat.reduceBEq, Nat.reduceLeDiff, Nat.reduceEqDiff, Int.reduceToNat]
theorem impl_StampPiece_ok (key : Int) (x : tStamp.den) : FunOK Try.prog 32 [⟨I, key⟩, ⟨tStamp, x⟩] (.agg [.rd I (key), .own 3 I [103, x.1, x.2.1, x.2.2.1, x.2.2.2.1], .rd I (x.2.2.2.2.1)]) := by
  refine fun_of (tb := tb) follows Try.func32 (by kernel_rfl) Try.ntmps32 rfl rfl rfl ?_
  intro cx hN hw
  simp (disch := exact eqId (by kernel_rfl)) only [go_sem, ↓reduceIte, Nat.reduceAdd, Nat.reduceMul, Nat.reduceLT, Nat.reduceBEq, Nat.reduceLeDiff, Nat.reduceEqDiff, Int.reduceToNat]
  repeat' (first | (refine And.intro ?_ ?_) | intro _ | (refine callQ_intro (impl_StampInts_ok _) ?_; try (simp (disch := exact eqId (by kernel_rfl)) only [go_sem, ↓reduceIte, Nat.reduceAdd, Nat.reduceMul, Nat.reduceLT, Nat.reduceBEq, Nat.reduceLeDiff, Nat.reduceEqDiff, Int.reduceToNat])) | (refine callH_intro (fun hcc => impl_StampInts_ok _) ?_; try (simp (disch := exact eqId (by kernel_rfl)) only [go_sem, ↓reduceIte, Nat.reduceAdd, Nat.reduceMul, Nat.reduceLT, Nat.reduceBEq, Nat.reduceLeDiff, Nat.reduceEqDiff, Int.reduceToNat])))
theorem spec_StampPiece_ok (key : Int) (x : tStamp.den) : FunOK Try.prog 30 [⟨I, key⟩, ⟨tStamp, x⟩] (.agg [.rd I (key), .own 3 I [103, x.1, x.2.1, x.2.2.1, x.2.2.2.1], .rd I (x.2.2.2.2.1)]) := by
  refine fun_of (tb := tb) follows Try.func30 (by kernel_rfl) Try.ntmps30 rfl rfl rfl ?_
  intro cx hN hw
  simp (disch := exact eqId (by kernel_rfl)) only [go_sem, ↓reduceIte, Nat.reduceAdd, Nat.reduceMul, Nat.reduceLT, Nat.reduceBEq, Nat.reduceLeDiff, Nat.reduceEqDiff, Int.reduceToNat]
  repeat' (first | (refine And.intro ?_ ?_) | intro _ | (refine callQ_intro (spec_StampInts_ok _) ?_; try (simp (disch := exact eqId (by kernel_rfl)) only [go_sem, ↓reduceIte, Nat.reduceAdd, Nat.reduceMul, Nat.reduceLT, Nat.reduceBEq, Nat.reduceLeDiff, Nat.reduceEqDiff, Int.reduceToNat])) | (refine callH_intro (fun hcc => spec_StampInts_ok _) ?_; try (simp (disch := exact eqId (by kernel_rfl)) only [go_sem, ↓reduceIte, Nat.reduceAdd, Nat.reduceMul, Nat.reduceLT, Nat.reduceBEq, Nat.reduceLeDiff, Nat.reduceEqDiff, Int.reduceToNat])))
def pieceStampF (p : tPiece.den) : tStamp.den × Bool := if kindF p.2.1 = 103 then ((p.2.1.getD 1 0, p.2.1.getD 2 0, p.2.1.getD 3 0, p.2.1.getD 4 0, p.2.2.1, ()), true) else (tStamp.dflt, false)
theorem impl_PieceStamp_ok (p : tPiece.den) : FunOK Try.prog 66 [⟨tPiece, p⟩] (.tup [.rd tStamp (pieceStampF p).1, .rd .bool (pieceStampF p).2]) := by
  refine fun_of (tb := tb) follows Try.func66 (by kernel_rfl) Try.ntmps66 rfl rfl rfl ?_
  intro cx hN hw
  simp (disch := exact eqId (by kernel_rfl)) only [go_sem, ↓reduceIte, Nat.reduceAdd, Nat.reduceMul, Nat.reduceLT, Nat.reduceBEq, Nat.reduceLeDiff, Nat.reduceEqDiff, Int.reduceToNat]
  repeat' (first | (refine And.intro ?_ ?_) | intro _ | (refine callQ_intro (impl_KindOfPiece_ok _) ?_; try (simp (disch := exact eqId (by kernel_rfl)) only [go_sem, ↓reduceIte, Nat.reduceAdd, Nat.reduceMul, Nat.reduceLT, Nat.reduceBEq, Nat.reduceLeDiff, Nat.reduceEqDiff, Int.reduceToNat])) | (refine callH_intro (fun hcc => impl_KindOfPiece_ok _) ?_; try (simp (disch := exact eqId (by kernel_rfl)) only [go_sem, ↓reduceIte, Nat.reduceAdd, Nat.reduceMul, Nat.reduceLT, Nat.reduceBEq, Nat.reduceLeDiff, Nat.reduceEqDiff, Int.reduceToNat])))
  all_goals rename_i h
  all_goals first
    | omega
    | (have := kind103 h; omega)
    | (have := kind103 h.1; omega)
    | (unfold pieceStampF; rw [if_neg h]; done)
    | (unfold pieceStampF; rw [if_pos h]; done)
    | (unfold pieceStampF; rw [if_neg h]; rfl)
    | (unfold pieceStampF; rw [if_pos h]; rfl)
theorem spec_PieceStamp_ok (p : tPiece.den) : FunOK Try.prog 65 [⟨tPiece, p⟩] (.tup [.rd tStamp (pieceStampF p).1, .rd .bool (pieceStampF p).2]) := by
  refine fun_of (tb := tb) follows Try.func65 (by kernel_rfl) Try.ntmps65 rfl rfl rfl ?_
  intro cx hN hw
  simp (disch := exact eqId (by kernel_rfl)) only [go_sem, ↓reduceIte, Nat.reduceAdd, Nat.reduceMul, Nat.reduceLT, Nat.reduceBEq, Nat.reduceLeDiff, Nat.reduceEqDiff, Int.reduceToNat]
  repeat' (first | (refine And.intro ?_ ?_) | intro _ | (refine callQ_intro (spec_KindOfPiece_ok _) ?_; try (simp (disch := exact eqId (by kernel_rfl)) only [go_sem, ↓reduceIte, Nat.reduceAdd, Nat.reduceMul, Nat.reduceLT, Nat.reduceBEq, Nat.reduceLeDiff, Nat.reduceEqDiff, Int.reduceToNat])) | (refine callH_intro (fun hcc => spec_KindOfPiece_ok _) ?_; try (simp (disch := exact eqId (by kernel_rfl)) only [go_sem, ↓reduceIte, Nat.reduceAdd, Nat.reduceMul, Nat.reduceLT, Nat.reduceBEq, Nat.reduceLeDiff, Nat.reduceEqDiff, Int.reduceToNat])))
  all_goals rename_i h
  all_goals first
    | omega
    | (have := kind103 h; omega)
    | (have := kind103 h.1; omega)
    | (unfold pieceStampF; rw [if_neg h]; done)
    | (unfold pieceStampF; rw [if_pos h]; done)
    | (unfold pieceStampF; rw [if_neg h]; rfl)
    | (unfold pieceStampF; rw [if_pos h]; rfl)
theorem impl_SignatureInts_ok (x : tSignature.den) : FunOK Try.prog 116 [⟨tSignature, x⟩] (.own 3 I [104, x.1, x.2.1, x.2.2.1, x.2.2.2.1, x.2.2.2.2.1, x.2.2.2.2.2.1, x.2.2.2.2.2.2.1, x.2.2.2.2.2.2.2.1]) := by
  refine fun_of (tb := tb) follows Try.func116 (by kernel_rfl) Try.ntmps116 rfl rfl rfl ?_
  intro cx hN hw
  simp (disch := exact eqId (by kernel_rfl)) only [go_sem, ↓reduceIte, Nat.reduceAdd, Nat.reduceMul, Nat.reduceLT, Nat.reduceBEq, Nat.reduceLeDiff, Nat.reduceEqDiff, Int.reduceToNat]
theorem spec_SignatureInts_ok (x : tSignature.den) : FunOK Try.prog 115 [⟨tSignature, x⟩] (.own 3 I [104, x.1, x.2.1, x.2.2.1, x.2.2.2.1, x.2.2.2.2.1, x.2.2.2.2.2.1, x.2.2.2.2.2.2.1, x.2.2.2.2.2.2.2.1]) := by
  refine fun_of (tb := tb) follows Try.func115 (by kernel_rfl) Try.ntmps115 rfl rfl rfl ?_
  intro cx hN hw
  simp (disch := exact eqId (by kernel_rfl)) only [go_sem, ↓reduceIte, Nat.reduceAdd, Nat.reduceMul, Nat.reduceLT, Nat.reduceBEq, Nat.reduceLeDiff, Nat.reduceEqDiff, Int.reduceToNat]
theorem impl_SignPiece_ok (x : tSignature.den) : FunOK Try.prog 51 [⟨tSignature, x⟩] (.agg [.rd I (x.1), .own 3 I [104, x.1, x.2.1, x.2.2.1, x.2.2.2.1, x.2.2.2.2.1, x.2.2.2.2.2.1, x.2.2.2.2.2.2.1, x.2.2.2.2.2.2.2.1], .rd I (x.2.2.2.2.2.2.2.2.1)]) := by
  refine fun_of (tb := tb) follows Try.func51 (by kernel_rfl) Try.ntmps51 rfl rfl rfl ?_
  intro cx hN hw
  simp (disch := exact eqId (by kernel_rfl)) only [go_sem, ↓reduceIte, Nat.reduceAdd, Nat.reduceMul, Nat.reduceLT, Nat.reduceBEq, Nat.reduceLeDiff, Nat.reduceEqDiff, Int.reduceToNat]
  repeat' (first | (refine And.intro ?_ ?_) | intro _ | (refine callQ_intro (impl_SignatureInts_ok _) ?_; try (simp (disch := exact eqId (by kernel_rfl)) only [go_sem, ↓reduceIte, Nat.reduceAdd, Nat.reduceMul, Nat.reduceLT, Nat.reduceBEq, Nat.reduceLeDiff, Nat.reduceEqDiff, Int.reduceToNat])) | (refine callH_intro (fun hcc => impl_SignatureInts_ok _) ?_; try (simp (disch := exact eqId (by kernel_rfl)) only [go_sem, ↓reduceIte, Nat.reduceAdd, Nat.reduceMul, Nat.reduceLT, Nat.reduceBEq, Nat.reduceLeDiff, Nat.reduceEqDiff, Int.reduceToNat])))
theorem spec_SignPiece_ok (x : tSignature.den) : FunOK Try.prog 49 [⟨tSignature, x⟩] (.agg [.rd I (x.1), .own 3 I [104, x.1, x.2.1, x.2.2.1, x.2.2.2.1, x.2.2.2.2.1, x.2.2.2.2.2.1, x.2.2.2.2.2.2.1, x.2.2.2.2.2.2.2.1], .rd I (x.2.2.2.2.2.2.2.2.1)]) := by
  refine fun_of (tb := tb) follows Try.func49 (by kernel_rfl) Try.ntmps49 rfl rfl rfl ?_
  intro cx hN hw
  simp (disch := exact eqId (by kernel_rfl)) only [go_sem, ↓reduceIte, Nat.reduceAdd, Nat.reduceMul, Nat.reduceLT, Nat.reduceBEq, Nat.reduceLeDiff, Nat.reduceEqDiff, Int.reduceToNat]
  repeat' (first | (refine And.intro ?_ ?_) | intro _ | (refine callQ_intro (spec_SignatureInts_ok _) ?_; try (simp (disch := exact eqId (by kernel_rfl)) only [go_sem, ↓reduceIte, Nat.reduceAdd, Nat.reduceMul, Nat.reduceLT, Nat.reduceBEq, Nat.reduceLeDiff, Nat.reduceEqDiff, Int.reduceToNat])) | (refine callH_intro (fun hcc => spec_SignatureInts_ok _) ?_; try (simp (disch := exact eqId (by kernel_rfl)) only [go_sem, ↓reduceIte, Nat.reduceAdd, Nat.reduceMul, Nat.reduceLT, Nat.reduceBEq, Nat.reduceLeDiff, Nat.reduceEqDiff, Int.reduceToNat])))
def pieceSignF (p : tPiece.den) : tSignature.den × Bool := if kindF p.2.1 = 104 ∧ p.2.1.getD 1 0 = p.1 then ((p.2.1.getD 1 0, p.2.1.getD 2 0, p.2.1.getD 3 0, p.2.1.getD 4 0, p.2.1.getD 5 0, p.2.1.getD 6 0, p.2.1.getD 7 0, p.2.1.getD 8 0, p.2.2.1, ()), true) else (tSignature.dflt, false)
theorem impl_PieceSign_ok (p : tPiece.den) : FunOK Try.prog 78 [⟨tPiece, p⟩] (.tup [.rd tSignature (pieceSignF p).1, .rd .bool (pieceSignF p).2]) := by
  refine fun_of (tb := tb) follows Try.func78 (by kernel_rfl) Try.ntmps78 rfl rfl rfl ?_
  intro cx hN hw
  simp (disch := exact eqId (by kernel_rfl)) only [go_sem, ↓reduceIte, Nat.reduceAdd, Nat.reduceMul, Nat.reduceLT, Nat.reduceBEq, Nat.reduceLeDiff, Nat.reduceEqDiff, Int.reduceToNat]
  repeat' (first | (refine And.intro ?_ ?_) | intro _ | (refine callQ_intro (impl_KindOfPiece_ok _) ?_; try (simp (disch := exact eqId (by kernel_rfl)) only [go_sem, ↓reduceIte, Nat.reduceAdd, Nat.reduceMul, Nat.reduceLT, Nat.reduceBEq, Nat.reduceLeDiff, Nat.reduceEqDiff, Int.reduceToNat])) | (refine callH_intro (fun hcc => impl_KindOfPiece_ok _) ?_; try (simp (disch := exact eqId (by kernel_rfl)) only [go_sem, ↓reduceIte, Nat.reduceAdd, Nat.reduceMul, Nat.reduceLT, Nat.reduceBEq, Nat.reduceLeDiff, Nat.reduceEqDiff, Int.reduceToNat])))
  all_goals rename_i h
  all_goals first
    | omega
    | (have := kind104 h; omega)
    | (have := kind104 h.1; omega)
    | (unfold pieceSignF; rw [if_neg (fun hc => by rcases h with h | h; exact h hc.1; exact h hc.2)]; done)
    | (unfold pieceSignF; rw [if_pos h]; done)
    | (unfold pieceSignF; rw [if_neg (fun hc => by rcases h with h | h; exact h hc.1; exact h hc.2)]; rfl)
    | (unfold pieceSignF; rw [if_pos h]; rfl)
theorem spec_PieceSign_ok (p : tPiece.den) : FunOK Try.prog 77 [⟨tPiece, p⟩] (.tup [.rd tSignature (pieceSignF p).1, .rd .bool (pieceSignF p).2]) := by
  refine fun_of (tb := tb) follows Try.func77 (by kernel_rfl) Try.ntmps77 rfl rfl rfl ?_
  intro cx hN hw
  simp (disch := exact eqId (by kernel_rfl)) only [go_sem, ↓reduceIte, Nat.reduceAdd, Nat.reduceMul, Nat.reduceLT, Nat.reduceBEq, Nat.reduceLeDiff, Nat.reduceEqDiff, Int.reduceToNat]
  repeat' (first | (refine And.intro ?_ ?_) | intro _ | (refine callQ_intro (spec_KindOfPiece_ok _) ?_; try (simp (disch := exact eqId (by kernel_rfl)) only [go_sem, ↓reduceIte, Nat.reduceAdd, Nat.reduceMul, Nat.reduceLT, Nat.reduceBEq, Nat.reduceLeDiff, Nat.reduceEqDiff, Int.reduceToNat])) | (refine callH_intro (fun hcc => spec_KindOfPiece_ok _) ?_; try (simp (disch := exact eqId (by kernel_rfl)) only [go_sem, ↓reduceIte, Nat.reduceAdd, Nat.reduceMul, Nat.reduceLT, Nat.reduceBEq, Nat.reduceLeDiff, Nat.reduceEqDiff, Int.reduceToNat])))
  all_goals rename_i h
  all_goals first
    | omega
    | (have := kind104 h; omega)
    | (have := kind104 h.1; omega)
    | (unfold pieceSignF; rw [if_neg (fun hc => by rcases h with h | h; exact h hc.1; exact h hc.2)]; done)
    | (unfold pieceSignF; rw [if_pos h]; done)
    | (unfold pieceSignF; rw [if_neg (fun hc => by rcases h with h | h; exact h hc.1; exact h hc.2)]; rfl)
    | (unfold pieceSignF; rw [if_pos h]; rfl)
theorem impl_MandateInts_ok (x : tMandate.den) : FunOK Try.prog 111 [⟨tMandate, x⟩] (.own 3 I [105, x.1, x.2.1, x.2.2.1, x.2.2.2.1, x.2.2.2.2.1]) := by
  refine fun_of (tb := tb) follows Try.func111 (by kernel_rfl) Try.ntmps111 rfl rfl rfl ?_
  intro cx hN hw
  simp (disch := exact eqId (by kernel_rfl)) only [go_sem, ↓reduceIte, Nat.reduceAdd, Nat.reduceMul, Nat.reduceLT, Nat.reduceBEq, Nat.reduceLeDiff, Nat.reduceEqDiff, Int.reduceToNat]
theorem spec_MandateInts_ok (x : tMandate.den) : FunOK Try.prog 110 [⟨tMandate, x⟩] (.own 3 I [105, x.1, x.2.1, x.2.2.1, x.2.2.2.1, x.2.2.2.2.1]) := by
  refine fun_of (tb := tb) follows Try.func110 (by kernel_rfl) Try.ntmps110 rfl rfl rfl ?_
  intro cx hN hw
  simp (disch := exact eqId (by kernel_rfl)) only [go_sem, ↓reduceIte, Nat.reduceAdd, Nat.reduceMul, Nat.reduceLT, Nat.reduceBEq, Nat.reduceLeDiff, Nat.reduceEqDiff, Int.reduceToNat]
theorem impl_MandatePiece_ok (x : tMandate.den) : FunOK Try.prog 41 [⟨tMandate, x⟩] (.agg [.rd I (x.2.2.2.2.1), .own 3 I [105, x.1, x.2.1, x.2.2.1, x.2.2.2.1, x.2.2.2.2.1], .rd I (x.2.2.2.2.2.1)]) := by
  refine fun_of (tb := tb) follows Try.func41 (by kernel_rfl) Try.ntmps41 rfl rfl rfl ?_
  intro cx hN hw
  simp (disch := exact eqId (by kernel_rfl)) only [go_sem, ↓reduceIte, Nat.reduceAdd, Nat.reduceMul, Nat.reduceLT, Nat.reduceBEq, Nat.reduceLeDiff, Nat.reduceEqDiff, Int.reduceToNat]
  repeat' (first | (refine And.intro ?_ ?_) | intro _ | (refine callQ_intro (impl_MandateInts_ok _) ?_; try (simp (disch := exact eqId (by kernel_rfl)) only [go_sem, ↓reduceIte, Nat.reduceAdd, Nat.reduceMul, Nat.reduceLT, Nat.reduceBEq, Nat.reduceLeDiff, Nat.reduceEqDiff, Int.reduceToNat])) | (refine callH_intro (fun hcc => impl_MandateInts_ok _) ?_; try (simp (disch := exact eqId (by kernel_rfl)) only [go_sem, ↓reduceIte, Nat.reduceAdd, Nat.reduceMul, Nat.reduceLT, Nat.reduceBEq, Nat.reduceLeDiff, Nat.reduceEqDiff, Int.reduceToNat])))
theorem spec_MandatePiece_ok (x : tMandate.den) : FunOK Try.prog 39 [⟨tMandate, x⟩] (.agg [.rd I (x.2.2.2.2.1), .own 3 I [105, x.1, x.2.1, x.2.2.1, x.2.2.2.1, x.2.2.2.2.1], .rd I (x.2.2.2.2.2.1)]) := by
  refine fun_of (tb := tb) follows Try.func39 (by kernel_rfl) Try.ntmps39 rfl rfl rfl ?_
  intro cx hN hw
  simp (disch := exact eqId (by kernel_rfl)) only [go_sem, ↓reduceIte, Nat.reduceAdd, Nat.reduceMul, Nat.reduceLT, Nat.reduceBEq, Nat.reduceLeDiff, Nat.reduceEqDiff, Int.reduceToNat]
  repeat' (first | (refine And.intro ?_ ?_) | intro _ | (refine callQ_intro (spec_MandateInts_ok _) ?_; try (simp (disch := exact eqId (by kernel_rfl)) only [go_sem, ↓reduceIte, Nat.reduceAdd, Nat.reduceMul, Nat.reduceLT, Nat.reduceBEq, Nat.reduceLeDiff, Nat.reduceEqDiff, Int.reduceToNat])) | (refine callH_intro (fun hcc => spec_MandateInts_ok _) ?_; try (simp (disch := exact eqId (by kernel_rfl)) only [go_sem, ↓reduceIte, Nat.reduceAdd, Nat.reduceMul, Nat.reduceLT, Nat.reduceBEq, Nat.reduceLeDiff, Nat.reduceEqDiff, Int.reduceToNat])))
def pieceMandateF (p : tPiece.den) : tMandate.den × Bool := if kindF p.2.1 = 105 ∧ p.2.1.getD 5 0 = p.1 then ((p.2.1.getD 1 0, p.2.1.getD 2 0, p.2.1.getD 3 0, p.2.1.getD 4 0, p.2.1.getD 5 0, p.2.2.1, ()), true) else (tMandate.dflt, false)
theorem impl_PieceMandate_ok (p : tPiece.den) : FunOK Try.prog 72 [⟨tPiece, p⟩] (.tup [.rd tMandate (pieceMandateF p).1, .rd .bool (pieceMandateF p).2]) := by
  refine fun_of (tb := tb) follows Try.func72 (by kernel_rfl) Try.ntmps72 rfl rfl rfl ?_
  intro cx hN hw
  simp (disch := exact eqId (by kernel_rfl)) only [go_sem, ↓reduceIte, Nat.reduceAdd, Nat.reduceMul, Nat.reduceLT, Nat.reduceBEq, Nat.reduceLeDiff, Nat.reduceEqDiff, Int.reduceToNat]
  repeat' (first | (refine And.intro ?_ ?_) | intro _ | (refine callQ_intro (impl_KindOfPiece_ok _) ?_; try (simp (disch := exact eqId (by kernel_rfl)) only [go_sem, ↓reduceIte, Nat.reduceAdd, Nat.reduceMul, Nat.reduceLT, Nat.reduceBEq, Nat.reduceLeDiff, Nat.reduceEqDiff, Int.reduceToNat])) | (refine callH_intro (fun hcc => impl_KindOfPiece_ok _) ?_; try (simp (disch := exact eqId (by kernel_rfl)) only [go_sem, ↓reduceIte, Nat.reduceAdd, Nat.reduceMul, Nat.reduceLT, Nat.reduceBEq, Nat.reduceLeDiff, Nat.reduceEqDiff, Int.reduceToNat])))
  all_goals rename_i h
  all_goals first
    | omega
    | (have := kind105 h; omega)
    | (have := kind105 h.1; omega)
    | (unfold pieceMandateF; rw [if_neg (fun hc => by rcases h with h | h; exact h hc.1; exact h hc.2)]; done)
    | (unfold pieceMandateF; rw [if_pos h]; done)
    | (unfold pieceMandateF; rw [if_neg (fun hc => by rcases h with h | h; exact h hc.1; exact h hc.2)]; rfl)
    | (unfold pieceMandateF; rw [if_pos h]; rfl)
theorem spec_PieceMandate_ok (p : tPiece.den) : FunOK Try.prog 71 [⟨tPiece, p⟩] (.tup [.rd tMandate (pieceMandateF p).1, .rd .bool (pieceMandateF p).2]) := by
  refine fun_of (tb := tb) follows Try.func71 (by kernel_rfl) Try.ntmps71 rfl rfl rfl ?_
  intro cx hN hw
  simp (disch := exact eqId (by kernel_rfl)) only [go_sem, ↓reduceIte, Nat.reduceAdd, Nat.reduceMul, Nat.reduceLT, Nat.reduceBEq, Nat.reduceLeDiff, Nat.reduceEqDiff, Int.reduceToNat]
  repeat' (first | (refine And.intro ?_ ?_) | intro _ | (refine callQ_intro (spec_KindOfPiece_ok _) ?_; try (simp (disch := exact eqId (by kernel_rfl)) only [go_sem, ↓reduceIte, Nat.reduceAdd, Nat.reduceMul, Nat.reduceLT, Nat.reduceBEq, Nat.reduceLeDiff, Nat.reduceEqDiff, Int.reduceToNat])) | (refine callH_intro (fun hcc => spec_KindOfPiece_ok _) ?_; try (simp (disch := exact eqId (by kernel_rfl)) only [go_sem, ↓reduceIte, Nat.reduceAdd, Nat.reduceMul, Nat.reduceLT, Nat.reduceBEq, Nat.reduceLeDiff, Nat.reduceEqDiff, Int.reduceToNat])))
  all_goals rename_i h
  all_goals first
    | omega
    | (have := kind105 h; omega)
    | (have := kind105 h.1; omega)
    | (unfold pieceMandateF; rw [if_neg (fun hc => by rcases h with h | h; exact h hc.1; exact h hc.2)]; done)
    | (unfold pieceMandateF; rw [if_pos h]; done)
    | (unfold pieceMandateF; rw [if_neg (fun hc => by rcases h with h | h; exact h hc.1; exact h hc.2)]; rfl)
    | (unfold pieceMandateF; rw [if_pos h]; rfl)
end Go.Proofs.Ytaeieogcibhhkaa
