/- The law of paths in trees: its argument's copy and its answer are marked. It proves nothing of a statement by itself. -/
import Derived.Test.YtaeieogcibhhkaaF12
import Derived.Test.YtaeieogcibhhkaaHm
set_option linter.unusedSimpArgs false
set_option linter.unusedVariables false
set_option maxRecDepth 100000
namespace Go.Proofs.Ytaeieogcibhhkaa
open Go.AL
theorem toIntS_fr (l : List (I : Ty).den) (hs : Small (.list I) 1073741824 l) : FunOK Try.prog 57 [⟨(.list I), l⟩] (.fresh 3 I l) := (toIntS_ok l hs).fr rfl
theorem impl_TreePath_fr (m : Int) (l : List Int) (i : Int) : FunOK Try.prog 82 [⟨I, m⟩, ⟨(.list I), l⟩, ⟨I, i⟩] (.fresh 131 tStep (pathF m l i)) := (impl_TreePath_ok m l i).fr rfl
theorem path_len (m : Int) : ∀ (n : Nat) (l : List Int) (j : Nat), l.length ≤ n → (pathR m l j).length ≤ n
  | 0, l, j, h => by
    unfold pathR
    rw [dif_pos (by omega)]
    exact Nat.zero_le _
  | n + 1, l, j, h => by
    unfold pathR
    by_cases h1 : l.length ≤ 1
    · rw [dif_pos h1]
      exact Nat.zero_le _
    · rw [dif_neg h1, List.length_append]
      have := upF_len m l
      have := path_len m n (upF m l) (j / 2) (by omega)
      have : (stepR l j).length ≤ 1 := by
        unfold stepR
        repeat' split
        all_goals simp
      omega
theorem pathF_len (m : Int) (l : List Int) (i : Int) : (pathF m l i).length ≤ 16 := by
  unfold pathF
  split
  · rename_i h
    exact path_len m 16 l _ (by omega)
  · exact Nat.zero_le _
theorem law_FnExactTreePath_ok (a : Int) (b : List Int) (c : Int) : FunOK Try.prog 23 [⟨I, a⟩, ⟨(.list I), b⟩, ⟨I, c⟩] (.rd .bool true) := by
  have hp := pathF_len a b c
  refine fun_of (tb := tb) follows Try.func23 (by kernel_rfl) Try.ntmps23 rfl rfl rfl ?_
  intro cx hN hw
  simp (disch := exact eqId (by kernel_rfl)) only [go_sem, ↓reduceIte, Nat.reduceAdd, Nat.reduceMul, Nat.reduceLT, Nat.reduceBEq, Nat.reduceLeDiff, Nat.reduceEqDiff, Int.reduceToNat]
  intro gd
  have sd : Small (.list I) 1073741824 b := ⟨by omega, fun _ _ => trivial⟩
  refine callQ_intro (toIntS_ok _ sd) ?_
  simp (disch := exact eqId (by kernel_rfl)) only [go_sem, ↓reduceIte, Nat.reduceAdd, Nat.reduceMul, Nat.reduceLT, Nat.reduceBEq, Nat.reduceLeDiff, Nat.reduceEqDiff, Int.reduceToNat]
  refine callQ_intro (spec_TreePath_ok _ _ _) ?_
  simp (disch := exact eqId (by kernel_rfl)) only [go_sem, ↓reduceIte, Nat.reduceAdd, Nat.reduceMul, Nat.reduceLT, Nat.reduceBEq, Nat.reduceLeDiff, Nat.reduceEqDiff, Int.reduceToNat]
  refine callQ_intro (toIntS_fr _ sd) ?_
  simp (disch := exact eqId (by kernel_rfl)) only [go_sem, ↓reduceIte, Nat.reduceAdd, Nat.reduceMul, Nat.reduceLT, Nat.reduceBEq, Nat.reduceLeDiff, Nat.reduceEqDiff, Int.reduceToNat]
  refine callB_intro (impl_TreePath_fr _ _ _) rfl trivial ?_
  simp (disch := exact eqId (by kernel_rfl)) only [go_sem, ↓reduceIte, Nat.reduceAdd, Nat.reduceMul, Nat.reduceLT, Nat.reduceBEq, Nat.reduceLeDiff, Nat.reduceEqDiff, Int.reduceToNat]
  refine callB_intro (eqStepS_ok _ _) rfl trivial ?_
  simp (disch := exact eqId (by kernel_rfl)) only [go_sem, ↓reduceIte, Nat.reduceAdd, Nat.reduceMul, Nat.reduceLT, Nat.reduceBEq, Nat.reduceLeDiff, Nat.reduceEqDiff, Int.reduceToNat]
  refine callQ_intro (toIntS_ok _ sd) ?_
  simp (disch := exact eqId (by kernel_rfl)) only [go_sem, ↓reduceIte, Nat.reduceAdd, Nat.reduceMul, Nat.reduceLT, Nat.reduceBEq, Nat.reduceLeDiff, Nat.reduceEqDiff, Int.reduceToNat]
  refine callB_intro (eqIntS_ok _ _) rfl trivial ?_
  simp (disch := exact eqId (by kernel_rfl)) only [go_sem, ↓reduceIte, Nat.reduceAdd, Nat.reduceMul, Nat.reduceLT, Nat.reduceBEq, Nat.reduceLeDiff, Nat.reduceEqDiff, Int.reduceToNat]
  refine callM_intro (markIntS_ok _ _ (by omega) (by omega) (by omega)) ⟨⟨trivial, by decide⟩, rfl, rfl⟩ ?_
  simp (disch := exact eqId (by kernel_rfl)) only [go_sem, ↓reduceIte, Nat.reduceAdd, Nat.reduceMul, Nat.reduceLT, Nat.reduceBEq, Nat.reduceLeDiff, Nat.reduceEqDiff, Int.reduceToNat]
  refine callH_intro (fun hcc => eqStepS_ok _ _) ?_
  simp (disch := exact eqId (by kernel_rfl)) only [go_sem, ↓reduceIte, Nat.reduceAdd, Nat.reduceMul, Nat.reduceLT, Nat.reduceBEq, Nat.reduceLeDiff, Nat.reduceEqDiff, Int.reduceToNat]
  repeat' (first | (refine And.intro ?_ ?_) | intro _)
  all_goals (try omega)
  refine callM_intro (markStepS_ok _ _ (by omega) (by omega) (by omega)) ⟨⟨trivial, by decide⟩, rfl, rfl⟩ ?_
  simp (disch := exact eqId (by kernel_rfl)) only [go_sem, ↓reduceIte, Nat.reduceAdd, Nat.reduceMul, Nat.reduceLT, Nat.reduceBEq, Nat.reduceLeDiff, Nat.reduceEqDiff, Int.reduceToNat]
  refine callB_intro (heldStepS_ok _ _ (by omega) (by omega) (by omega)) rfl trivial ?_
  simp (disch := exact eqId (by kernel_rfl)) only [go_sem, ↓reduceIte, Nat.reduceAdd, Nat.reduceMul, Nat.reduceLT, Nat.reduceBEq, Nat.reduceLeDiff, Nat.reduceEqDiff, Int.reduceToNat]
  repeat' (first | (refine And.intro ?_ ?_) | intro _ | (refine callQ_intro (toIntS_ok _ sd) ?_; try (simp (disch := exact eqId (by kernel_rfl)) only [go_sem, ↓reduceIte, Nat.reduceAdd, Nat.reduceMul, Nat.reduceLT, Nat.reduceBEq, Nat.reduceLeDiff, Nat.reduceEqDiff, Int.reduceToNat])) | (refine callH_intro (fun hcc => toIntS_ok _ sd) ?_; try (simp (disch := exact eqId (by kernel_rfl)) only [go_sem, ↓reduceIte, Nat.reduceAdd, Nat.reduceMul, Nat.reduceLT, Nat.reduceBEq, Nat.reduceLeDiff, Nat.reduceEqDiff, Int.reduceToNat])) | (refine callQ_intro (impl_TreePath_ok _ _ _) ?_; try (simp (disch := exact eqId (by kernel_rfl)) only [go_sem, ↓reduceIte, Nat.reduceAdd, Nat.reduceMul, Nat.reduceLT, Nat.reduceBEq, Nat.reduceLeDiff, Nat.reduceEqDiff, Int.reduceToNat])) | (refine callH_intro (fun hcc => impl_TreePath_ok _ _ _) ?_; try (simp (disch := exact eqId (by kernel_rfl)) only [go_sem, ↓reduceIte, Nat.reduceAdd, Nat.reduceMul, Nat.reduceLT, Nat.reduceBEq, Nat.reduceLeDiff, Nat.reduceEqDiff, Int.reduceToNat])))
  all_goals (try omega)
  first | refine callQ_intro (eqStepS_ok _ _) ?_ | refine callB_intro (eqStepS_ok _ _) rfl trivial ?_
  simp (disch := exact eqId (by kernel_rfl)) only [go_sem, ↓reduceIte, Nat.reduceAdd, Nat.reduceMul, Nat.reduceLT, Nat.reduceBEq, Nat.reduceLeDiff, Nat.reduceEqDiff, Int.reduceToNat]
  refine callB_intro (heldStepS_ok _ _ (by omega) (by omega) (by omega)) rfl trivial ?_
  simp (disch := exact eqId (by kernel_rfl)) only [go_sem, ↓reduceIte, Nat.reduceAdd, Nat.reduceMul, Nat.reduceLT, Nat.reduceBEq, Nat.reduceLeDiff, Nat.reduceEqDiff, Int.reduceToNat]
  repeat' (first | (refine And.intro ?_ ?_) | intro _)
  all_goals (try omega)
end Go.Proofs.Ytaeieogcibhhkaa
