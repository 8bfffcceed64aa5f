/- What the functions of pieces answer, on both sides. It proves nothing of a statement by itself. -/
import Derived.Test.YtkneckknjmahdaaGreatF2
set_option linter.unusedSimpArgs false
set_option linter.unusedVariables false
set_option maxRecDepth 100000
namespace Go.Proofs.YtkneckknjmahdaaGreat
open Go.AL
def kindC (l : List Int) : Prop := l.length ≠ 0 ∧ 101 ≤ l.getD 0 0 ∧ l.getD 0 0 ≤ 105 ∧ (l.length : Int) = [7, 5, 5, 9, 6].getD (l.getD 0 0 - 101).toNat 0
instance (l : List Int) : Decidable (kindC l) := by unfold kindC; infer_instance
def kindF (l : List Int) : Int := if kindC l then l.getD 0 0 else 0
theorem kind_len {l : List Int} {c : Int} (h : kindF l = c) (hc : c ≠ 0) : (l.length : Int) = [7, 5, 5, 9, 6].getD (c - 101).toNat 0 ∧ 101 ≤ c ∧ c ≤ 105 ∧ l.getD 0 0 = c := by
  unfold kindF at h
  by_cases hk : kindC l
  · rw [if_pos hk] at h
    obtain ⟨_, h2, h3, h4⟩ := hk
    rw [h] at h4 h2 h3
    exact ⟨h4, h2, h3, h⟩
  · rw [if_neg hk] at h; exact absurd h.symm hc
theorem kind101 {l : List Int} (h : kindF l = 101) : (l.length : Int) = 7 := (kind_len h (by decide)).1
theorem kind102 {l : List Int} (h : kindF l = 102) : (l.length : Int) = 5 := (kind_len h (by decide)).1
theorem kind103 {l : List Int} (h : kindF l = 103) : (l.length : Int) = 5 := (kind_len h (by decide)).1
theorem kind104 {l : List Int} (h : kindF l = 104) : (l.length : Int) = 9 := (kind_len h (by decide)).1
theorem kind105 {l : List Int} (h : kindF l = 105) : (l.length : Int) = 6 := (kind_len h (by decide)).1
theorem impl_StampInts_ok (x : tStamp.den) : FunOK Tryz.prog 97 [⟨tStamp, x⟩] (.own 3 I [103, x.1, x.2.1, x.2.2.1, x.2.2.2.1]) := by
  refine fun_of (tb := tb) follows Tryz.func97 (by kernel_rfl) Tryz.ntmps97 rfl rfl rfl ?_
  intro cx hN hw
  simp (disch := exact eqId (by kernel_rfl)) only [go_sem, ↓reduceIte, Nat.reduceAdd, Nat.reduceMul, Nat.reduceLT, Nat.reduceBEq, Nat.reduceLeDiff, Nat.reduceEqDiff, Int.reduceToNat]
theorem spec_StampInts_ok (x : tStamp.den) : FunOK Tryz.prog 123 [⟨tStamp, x⟩] (.own 3 I [103, x.1, x.2.1, x.2.2.1, x.2.2.2.1]) := by
  refine fun_of (tb := tb) follows Tryz.func123 (by kernel_rfl) Tryz.ntmps123 rfl rfl rfl ?_
  intro cx hN hw
  simp (disch := exact eqId (by kernel_rfl)) only [go_sem, ↓reduceIte, Nat.reduceAdd, Nat.reduceMul, Nat.reduceLT, Nat.reduceBEq, Nat.reduceLeDiff, Nat.reduceEqDiff, Int.reduceToNat]
theorem impl_StampPiece_ok (key : Int) (x : tStamp.den) : FunOK Tryz.prog 66 [⟨I, key⟩, ⟨tStamp, x⟩] (.agg [.rd I (key), .own 3 I [103, x.1, x.2.1, x.2.2.1, x.2.2.2.1], .rd I (x.2.2.2.2.1)]) := by
  refine fun_of (tb := tb) follows Tryz.func66 (by kernel_rfl) Tryz.ntmps66 rfl rfl rfl ?_
  intro cx hN hw
  simp (disch := exact eqId (by kernel_rfl)) only [go_sem, ↓reduceIte, Nat.reduceAdd, Nat.reduceMul, Nat.reduceLT, Nat.reduceBEq, Nat.reduceLeDiff, Nat.reduceEqDiff, Int.reduceToNat]
  repeat' (first | (refine And.intro ?_ ?_) | intro _ | (refine callQ_intro (impl_StampInts_ok _) ?_; try (simp (disch := exact eqId (by kernel_rfl)) only [go_sem, ↓reduceIte, Nat.reduceAdd, Nat.reduceMul, Nat.reduceLT, Nat.reduceBEq, Nat.reduceLeDiff, Nat.reduceEqDiff, Int.reduceToNat])) | (refine callH_intro (fun hcc => impl_StampInts_ok _) ?_; try (simp (disch := exact eqId (by kernel_rfl)) only [go_sem, ↓reduceIte, Nat.reduceAdd, Nat.reduceMul, Nat.reduceLT, Nat.reduceBEq, Nat.reduceLeDiff, Nat.reduceEqDiff, Int.reduceToNat])))
theorem spec_StampPiece_ok (key : Int) (x : tStamp.den) : FunOK Tryz.prog 92 [⟨I, key⟩, ⟨tStamp, x⟩] (.agg [.rd I (key), .own 3 I [103, x.1, x.2.1, x.2.2.1, x.2.2.2.1], .rd I (x.2.2.2.2.1)]) := by
  refine fun_of (tb := tb) follows Tryz.func92 (by kernel_rfl) Tryz.ntmps92 rfl rfl rfl ?_
  intro cx hN hw
  simp (disch := exact eqId (by kernel_rfl)) only [go_sem, ↓reduceIte, Nat.reduceAdd, Nat.reduceMul, Nat.reduceLT, Nat.reduceBEq, Nat.reduceLeDiff, Nat.reduceEqDiff, Int.reduceToNat]
  repeat' (first | (refine And.intro ?_ ?_) | intro _ | (refine callQ_intro (spec_StampInts_ok _) ?_; try (simp (disch := exact eqId (by kernel_rfl)) only [go_sem, ↓reduceIte, Nat.reduceAdd, Nat.reduceMul, Nat.reduceLT, Nat.reduceBEq, Nat.reduceLeDiff, Nat.reduceEqDiff, Int.reduceToNat])) | (refine callH_intro (fun hcc => spec_StampInts_ok _) ?_; try (simp (disch := exact eqId (by kernel_rfl)) only [go_sem, ↓reduceIte, Nat.reduceAdd, Nat.reduceMul, Nat.reduceLT, Nat.reduceBEq, Nat.reduceLeDiff, Nat.reduceEqDiff, Int.reduceToNat])))
end Go.Proofs.YtkneckknjmahdaaGreat
