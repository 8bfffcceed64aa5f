/- What the functions of strands' leaves answer, on both sides. It proves nothing of a statement by itself. -/
import Derived.Test.YtkneckknjmahdaaGreatF9
set_option linter.unusedSimpArgs false
set_option linter.unusedVariables false
set_option maxRecDepth 100000
namespace Go.Proofs.YtkneckknjmahdaaGreat
open Go.AL
theorem pTake {s : tStrand.den} (hs : Small tStrand 1048576 s) (n : Nat) : Small (.list tPiece) 1048576 (List.take n s.1) :=
  ⟨Nat.le_trans (List.length_take_le' n s.1) hs.1.1, fun x hx => hs.1.2 x (List.mem_of_mem_take hx)⟩
def laF (s : tStrand.den) (docs : List Int) (k : Int) : Int :=
  let r := List.getD s.2.1 k.toNat (0, 0, 0, [], [], ())
  if (0 ≤ k ∧ k < (List.length s.2.1 : Int)) ∧ (docs.length : Int) = (List.length s.2.1 : Int) ∧ (0 : Int) ≤ (r.1 : Int) ∧ (r.1 : Int) ≤ (List.length s.1 : Int) then
    leafF r.2.1 (docs.getD k.toNat 0) (List.take r.1.toNat s.1) (if 0 < k then rdF r.2.1 (List.getD s.2.1 (k.toNat - 1) (0, 0, 0, [], [], ())) else 0)
  else -1
theorem impl_LeafAt_ok (s : tStrand.den) (docs : List Int) (k : Int) (hs : Small tStrand 1048576 s) : FunOK Tryz.prog 73 [⟨tStrand, s⟩, ⟨(.list I), docs⟩, ⟨I, k⟩] (.rd I (laF s docs k)) := by
  have q1 : List.length s.2.1 ≤ 1048576 := hs.2.1.1
  have e1 : IntKind.i64.wrap ((List.length s.2.1 : Int) - 1) = (List.length s.2.1 : Int) - 1 := wrap_i64 (by omega) (by omega)
  have e2 : ∀ x : Int, 0 < x → x ≤ 1048576 → IntKind.i64.wrap (x - 1) = x - 1 := fun x h1 h2 => wrap_i64 (by omega) (by omega)
  have e3 : (k - 1).toNat = k.toNat - 1 := by omega
  refine fun_of (tb := tb) follows Tryz.func73 (by kernel_rfl) Tryz.ntmps73 rfl rfl rfl ?_
  intro cx hN hw
  simp (disch := exact eqId (by kernel_rfl)) only [go_sem, ↓reduceIte, Nat.reduceAdd, Nat.reduceMul, Nat.reduceLT, Nat.reduceBEq, Nat.reduceLeDiff, Nat.reduceEqDiff, Int.reduceToNat, e1]
  repeat' (first | (refine And.intro ?_ ?_) | intro _ | (refine callQ_intro (inRange_ok _ _ _) ?_; try (simp (disch := exact eqId (by kernel_rfl)) only [go_sem, ↓reduceIte, Nat.reduceAdd, Nat.reduceMul, Nat.reduceLT, Nat.reduceBEq, Nat.reduceLeDiff, Nat.reduceEqDiff, Int.reduceToNat])) | (refine callH_intro (fun hcc => inRange_ok _ _ _) ?_; try (simp (disch := exact eqId (by kernel_rfl)) only [go_sem, ↓reduceIte, Nat.reduceAdd, Nat.reduceMul, Nat.reduceLT, Nat.reduceBEq, Nat.reduceLeDiff, Nat.reduceEqDiff, Int.reduceToNat])))
  all_goals (try omega)
  · rename_i hc
    unfold laF
    dsimp only
    rw [if_neg (fun h => by
      rcases hc with ((h1 | h1) | h1) | h1 | h1
      · exact h1 h.1.1
      · exact h1 (by have := h.1.2; omega)
      · exact h1 h.2.1
      · exact h1 h.2.2.1
      · exact h1 h.2.2.2)]
  · rename_i hc hk
    rw [e2 k (by omega) (by omega)]
    omega
  · rename_i hc hk
    rw [e2 k (by omega) (by omega)]
    omega
  · rename_i hc hk
    rw [e2 k (by omega) (by omega), e3]
    refine callQ_intro (impl_RenewalDigest_ok _ _ (hs.2.1.2 _ (getD_mem (by omega) _))) ?_
    simp (disch := exact eqId (by kernel_rfl)) only [go_sem, ↓reduceIte, Nat.reduceAdd, Nat.reduceMul, Nat.reduceLT, Nat.reduceBEq, Nat.reduceLeDiff, Nat.reduceEqDiff, Int.reduceToNat]
    repeat' (first | (refine And.intro ?_ ?_) | intro _ | (refine callQ_intro (impl_LeafOf_ok _ _ _ _ (pTake hs _)) ?_; try (simp (disch := exact eqId (by kernel_rfl)) only [go_sem, ↓reduceIte, Nat.reduceAdd, Nat.reduceMul, Nat.reduceLT, Nat.reduceBEq, Nat.reduceLeDiff, Nat.reduceEqDiff, Int.reduceToNat])) | (refine callH_intro (fun hcc => impl_LeafOf_ok _ _ _ _ (pTake hs _)) ?_; try (simp (disch := exact eqId (by kernel_rfl)) only [go_sem, ↓reduceIte, Nat.reduceAdd, Nat.reduceMul, Nat.reduceLT, Nat.reduceBEq, Nat.reduceLeDiff, Nat.reduceEqDiff, Int.reduceToNat])))
    all_goals (try omega)
    unfold laF
    dsimp only
    rw [if_pos ⟨⟨hc.1.1.1, by omega⟩, hc.1.2, hc.2.1, hc.2.2⟩, if_pos (by omega)]
  · rename_i hc hk
    repeat' (first | (refine And.intro ?_ ?_) | intro _ | (refine callQ_intro (impl_LeafOf_ok _ _ _ _ (pTake hs _)) ?_; try (simp (disch := exact eqId (by kernel_rfl)) only [go_sem, ↓reduceIte, Nat.reduceAdd, Nat.reduceMul, Nat.reduceLT, Nat.reduceBEq, Nat.reduceLeDiff, Nat.reduceEqDiff, Int.reduceToNat])) | (refine callH_intro (fun hcc => impl_LeafOf_ok _ _ _ _ (pTake hs _)) ?_; try (simp (disch := exact eqId (by kernel_rfl)) only [go_sem, ↓reduceIte, Nat.reduceAdd, Nat.reduceMul, Nat.reduceLT, Nat.reduceBEq, Nat.reduceLeDiff, Nat.reduceEqDiff, Int.reduceToNat])))
    all_goals (try omega)
    unfold laF
    dsimp only
    rw [if_pos ⟨⟨hc.1.1.1, by omega⟩, hc.1.2, hc.2.1, hc.2.2⟩, if_neg (by omega)]
theorem spec_LeafAt_ok (s : tStrand.den) (docs : List Int) (k : Int) (hs : Small tStrand 1048576 s) : FunOK Tryz.prog 104 [⟨tStrand, s⟩, ⟨(.list I), docs⟩, ⟨I, k⟩] (.rd I (laF s docs k)) := by
  have q1 : List.length s.2.1 ≤ 1048576 := hs.2.1.1
  have e1 : IntKind.i64.wrap ((List.length s.2.1 : Int) - 1) = (List.length s.2.1 : Int) - 1 := wrap_i64 (by omega) (by omega)
  have e2 : ∀ x : Int, 0 < x → x ≤ 1048576 → IntKind.i64.wrap (x - 1) = x - 1 := fun x h1 h2 => wrap_i64 (by omega) (by omega)
  have e3 : (k - 1).toNat = k.toNat - 1 := by omega
  refine fun_of (tb := tb) follows Tryz.func104 (by kernel_rfl) Tryz.ntmps104 rfl rfl rfl ?_
  intro cx hN hw
  simp (disch := exact eqId (by kernel_rfl)) only [go_sem, ↓reduceIte, Nat.reduceAdd, Nat.reduceMul, Nat.reduceLT, Nat.reduceBEq, Nat.reduceLeDiff, Nat.reduceEqDiff, Int.reduceToNat, e1]
  repeat' (first | (refine And.intro ?_ ?_) | intro _ | (refine callQ_intro (l1In_ok _ _ _) ?_; try (simp (disch := exact eqId (by kernel_rfl)) only [go_sem, ↓reduceIte, Nat.reduceAdd, Nat.reduceMul, Nat.reduceLT, Nat.reduceBEq, Nat.reduceLeDiff, Nat.reduceEqDiff, Int.reduceToNat])) | (refine callH_intro (fun hcc => l1In_ok _ _ _) ?_; try (simp (disch := exact eqId (by kernel_rfl)) only [go_sem, ↓reduceIte, Nat.reduceAdd, Nat.reduceMul, Nat.reduceLT, Nat.reduceBEq, Nat.reduceLeDiff, Nat.reduceEqDiff, Int.reduceToNat])))
  all_goals (try omega)
  · rename_i hc
    unfold laF
    dsimp only
    rw [if_neg (fun h => by
      rcases hc with ((h1 | h1) | h1) | h1 | h1
      · exact h1 h.1.1
      · exact h1 (by have := h.1.2; omega)
      · exact h1 h.2.1
      · exact h1 h.2.2.1
      · exact h1 h.2.2.2)]
  · rename_i hc hk
    rw [e2 k (by omega) (by omega)]
    omega
  · rename_i hc hk
    rw [e2 k (by omega) (by omega)]
    omega
  · rename_i hc hk
    rw [e2 k (by omega) (by omega), e3]
    refine callQ_intro (spec_RenewalDigest_ok _ _ (hs.2.1.2 _ (getD_mem (by omega) _))) ?_
    simp (disch := exact eqId (by kernel_rfl)) only [go_sem, ↓reduceIte, Nat.reduceAdd, Nat.reduceMul, Nat.reduceLT, Nat.reduceBEq, Nat.reduceLeDiff, Nat.reduceEqDiff, Int.reduceToNat]
    repeat' (first | (refine And.intro ?_ ?_) | intro _ | (refine callQ_intro (spec_LeafOf_ok _ _ _ _ (pTake hs _)) ?_; try (simp (disch := exact eqId (by kernel_rfl)) only [go_sem, ↓reduceIte, Nat.reduceAdd, Nat.reduceMul, Nat.reduceLT, Nat.reduceBEq, Nat.reduceLeDiff, Nat.reduceEqDiff, Int.reduceToNat])) | (refine callH_intro (fun hcc => spec_LeafOf_ok _ _ _ _ (pTake hs _)) ?_; try (simp (disch := exact eqId (by kernel_rfl)) only [go_sem, ↓reduceIte, Nat.reduceAdd, Nat.reduceMul, Nat.reduceLT, Nat.reduceBEq, Nat.reduceLeDiff, Nat.reduceEqDiff, Int.reduceToNat])))
    all_goals (try omega)
    unfold laF
    dsimp only
    rw [if_pos ⟨⟨hc.1.1.1, by omega⟩, hc.1.2, hc.2.1, hc.2.2⟩, if_pos (by omega)]
  · rename_i hc hk
    repeat' (first | (refine And.intro ?_ ?_) | intro _ | (refine callQ_intro (spec_LeafOf_ok _ _ _ _ (pTake hs _)) ?_; try (simp (disch := exact eqId (by kernel_rfl)) only [go_sem, ↓reduceIte, Nat.reduceAdd, Nat.reduceMul, Nat.reduceLT, Nat.reduceBEq, Nat.reduceLeDiff, Nat.reduceEqDiff, Int.reduceToNat])) | (refine callH_intro (fun hcc => spec_LeafOf_ok _ _ _ _ (pTake hs _)) ?_; try (simp (disch := exact eqId (by kernel_rfl)) only [go_sem, ↓reduceIte, Nat.reduceAdd, Nat.reduceMul, Nat.reduceLT, Nat.reduceBEq, Nat.reduceLeDiff, Nat.reduceEqDiff, Int.reduceToNat])))
    all_goals (try omega)
    unfold laF
    dsimp only
    rw [if_pos ⟨⟨hc.1.1.1, by omega⟩, hc.1.2, hc.2.1, hc.2.2⟩, if_neg (by omega)]
end Go.Proofs.YtkneckknjmahdaaGreat
