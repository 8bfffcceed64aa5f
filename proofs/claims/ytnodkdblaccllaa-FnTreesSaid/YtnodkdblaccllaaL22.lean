/- The law of trees: by its draws and by plain maths. It proves nothing of a statement by itself. -/
import Derived.Test.YtnodkdblaccllaaF22
set_option linter.unusedSimpArgs false
set_option linter.unusedVariables false
set_option maxRecDepth 100000
namespace Go.Proofs.Ytnodkdblaccllaa
open Go.AL
theorem blX_gt {b : List Int} {i h n : Int} (hn : 1 ≤ n) : -n < blX b i h n := by
  have e : ∀ x : Int, -n < x.tmod n := fun x => by
    have := Int.tmod_lt_of_pos (-x) (b := n) (by omega)
    rw [Int.neg_tmod] at this
    omega
  unfold blX
  rw [if_neg (by omega)]
  split <;> exact e _
theorem lvL_in (b : List Int) : ∀ (k : Nat) (i h : Int) (x : Int), x ∈ lvL b k i h → -99 < x ∧ x < 99
  | 0, _, _, x, hx => by cases hx
  | k + 1, i, h, x, hx => by
    rw [lvL] at hx
    rcases List.mem_cons.1 hx with rfl | hx
    · exact ⟨blX_gt (by decide), blX_lt (by decide)⟩
    · exact lvL_in b k _ _ x hx
theorem drL_in (b : List Int) {j : Nat} (hj : j < (drL b).length) : -9223372036854775808 ≤ (drL b).getD j 0 ∧ (drL b).getD j 0 ≤ 9223372036854775807 := by
  have h := lvL_in b _ _ _ _ (getD_mem hj 0)
  have h2 : -99 < (drL b).getD j 0 ∧ (drL b).getD j 0 < 99 := h
  omega
theorem big_ok (b : List Int) : FunOK Try.prog 4 [⟨(.list (.int .u8)), b⟩] (.rd .bool (decide ((b.length : Int) > 1048576))) := by
  refine fun_of (tb := tb) follows Try.func4 (by kernel_rfl) Try.ntmps4 rfl rfl rfl ?_
  intro cx hN hw
  simp (disch := exact eqId (by kernel_rfl)) only [go_sem, ↓reduceIte, Nat.reduceAdd, Nat.reduceMul, Nat.reduceLT, Nat.reduceBEq, Nat.reduceLeDiff, Nat.reduceEqDiff, Int.reduceToNat]
theorem law_FnTrees_ok (b : List Int) : FunOK Try.prog 3 [⟨(.list (.int .u8)), b⟩] (.rd .bool true) := by
  refine fun_of (tb := tb) follows Try.func3 (by kernel_rfl) Try.ntmps3 rfl rfl rfl ?_
  intro cx hN hw
  have hl := drL_len b
  simp (disch := exact eqId (by kernel_rfl)) only [go_sem, ↓reduceIte, Nat.reduceAdd, Nat.reduceMul, Nat.reduceLT, Nat.reduceBEq, Nat.reduceLeDiff, Nat.reduceEqDiff, Int.reduceToNat]
  repeat' (first | (refine And.intro ?_ ?_) | intro _ | (refine callQ_intro (big_ok _) ?_; try (simp (disch := exact eqId (by kernel_rfl)) only [go_sem, ↓reduceIte, Nat.reduceAdd, Nat.reduceMul, Nat.reduceLT, Nat.reduceBEq, Nat.reduceLeDiff, Nat.reduceEqDiff, Int.reduceToNat])) | (refine callH_intro (fun hcc => big_ok _) ?_; try (simp (disch := exact eqId (by kernel_rfl)) only [go_sem, ↓reduceIte, Nat.reduceAdd, Nat.reduceMul, Nat.reduceLT, Nat.reduceBEq, Nat.reduceLeDiff, Nat.reduceEqDiff, Int.reduceToNat])) | (refine callQ_intro (DrawTreePath_ok _) ?_; try (simp (disch := exact eqId (by kernel_rfl)) only [go_sem, ↓reduceIte, Nat.reduceAdd, Nat.reduceMul, Nat.reduceLT, Nat.reduceBEq, Nat.reduceLeDiff, Nat.reduceEqDiff, Int.reduceToNat])) | (refine callH_intro (fun hcc => DrawTreePath_ok _) ?_; try (simp (disch := exact eqId (by kernel_rfl)) only [go_sem, ↓reduceIte, Nat.reduceAdd, Nat.reduceMul, Nat.reduceLT, Nat.reduceBEq, Nat.reduceLeDiff, Nat.reduceEqDiff, Int.reduceToNat])) | (refine callQ_intro (impl_TreePath_ok _ _ _) ?_; try (simp (disch := exact eqId (by kernel_rfl)) only [go_sem, ↓reduceIte, Nat.reduceAdd, Nat.reduceMul, Nat.reduceLT, Nat.reduceBEq, Nat.reduceLeDiff, Nat.reduceEqDiff, Int.reduceToNat])) | (refine callH_intro (fun hcc => impl_TreePath_ok _ _ _) ?_; try (simp (disch := exact eqId (by kernel_rfl)) only [go_sem, ↓reduceIte, Nat.reduceAdd, Nat.reduceMul, Nat.reduceLT, Nat.reduceBEq, Nat.reduceLeDiff, Nat.reduceEqDiff, Int.reduceToNat])) | (refine callQ_intro (impl_TreeRoot_ok _ _) ?_; try (simp (disch := exact eqId (by kernel_rfl)) only [go_sem, ↓reduceIte, Nat.reduceAdd, Nat.reduceMul, Nat.reduceLT, Nat.reduceBEq, Nat.reduceLeDiff, Nat.reduceEqDiff, Int.reduceToNat])) | (refine callH_intro (fun hcc => impl_TreeRoot_ok _ _) ?_; try (simp (disch := exact eqId (by kernel_rfl)) only [go_sem, ↓reduceIte, Nat.reduceAdd, Nat.reduceMul, Nat.reduceLT, Nat.reduceBEq, Nat.reduceLeDiff, Nat.reduceEqDiff, Int.reduceToNat])) | (refine callQ_intro (impl_LevelsOf_ok _) ?_; try (simp (disch := exact eqId (by kernel_rfl)) only [go_sem, ↓reduceIte, Nat.reduceAdd, Nat.reduceMul, Nat.reduceLT, Nat.reduceBEq, Nat.reduceLeDiff, Nat.reduceEqDiff, Int.reduceToNat])) | (refine callH_intro (fun hcc => impl_LevelsOf_ok _) ?_; try (simp (disch := exact eqId (by kernel_rfl)) only [go_sem, ↓reduceIte, Nat.reduceAdd, Nat.reduceMul, Nat.reduceLT, Nat.reduceBEq, Nat.reduceLeDiff, Nat.reduceEqDiff, Int.reduceToNat])))
  all_goals (try omega)
  · rename_i hb hc
    rw [path_no hc]
    rfl
  · rename_i hb hc
    have hi : (drP b).toNat < (drL b).length := by omega
    obtain ⟨e1, e2, K, k1, k2, k3, k4, k5⟩ := tree_ok (m := drM b) (l := drL b) (i := drP b) (by omega) (by omega) (by omega) (drL_in b hi)
    refine loop_intro (tb := tb) follows hN (D := Nat) (fun d => shp [(3, .rd I (drM b : Int)), (4, .rd (.list I) (drL b)), (5, .rd I (drP b : Int)), (6, .rd (.list tStep) (pathF (drM b) (drL b) (drP b))), (7, .rd I (rootF (drM b) (drL b) : Int)), (8, .rd I (K : Int)), (9, .rd I ((2 ^ d : Nat) : Int)), (10, .rd I (d : Int))] []) (fun d => d ≤ K) (fun d => K - d) (0) ?_ (sub_shp hN [] ?_) (fun d hd => ?_)
    · exact Nat.zero_le _
    · simp (disch := exact eqId (by kernel_rfl)) only [go_sem, ↓reduceIte, Nat.reduceAdd, Nat.reduceMul, Nat.reduceLT, Nat.reduceBEq, Nat.reduceLeDiff, Nat.reduceEqDiff, Int.reduceToNat]
      exact ⟨k1, rfl, rfl⟩
    · simp (disch := exact eqId (by kernel_rfl)) only [go_sem, ↓reduceIte, Nat.reduceAdd, Nat.reduceMul, Nat.reduceLT, Nat.reduceBEq, Nat.reduceLeDiff, Nat.reduceEqDiff, Int.reduceToNat]
      repeat' (first | (refine And.intro ?_ ?_) | intro _ | (refine callQ_intro (impl_FollowPath_ok _ _ _) ?_; try (simp (disch := exact eqId (by kernel_rfl)) only [go_sem, ↓reduceIte, Nat.reduceAdd, Nat.reduceMul, Nat.reduceLT, Nat.reduceBEq, Nat.reduceLeDiff, Nat.reduceEqDiff, Int.reduceToNat])) | (refine callH_intro (fun hcc => impl_FollowPath_ok _ _ _) ?_; try (simp (disch := exact eqId (by kernel_rfl)) only [go_sem, ↓reduceIte, Nat.reduceAdd, Nat.reduceMul, Nat.reduceLT, Nat.reduceBEq, Nat.reduceLeDiff, Nat.reduceEqDiff, Int.reduceToNat])))
      all_goals (try omega)
      · rename_i hq
        refine back_intro (d + 1) ?_ ?_ (sub_shp hN [] ?_)
        · omega
        · omega
        · simp (disch := exact eqId (by kernel_rfl)) only [go_sem, ↓reduceIte, Nat.reduceAdd, Nat.reduceMul, Nat.reduceLT, Nat.reduceBEq, Nat.reduceLeDiff, Nat.reduceEqDiff, Int.reduceToNat]
          have hd4 : d < 4 := by omega
          refine ⟨?_, wrap_succ' (by omega)⟩
          have h9 : ∀ d : Nat, d < 4 → IntKind.i64.wrap (2 * ((2 ^ d : Nat) : Int)) = ((2 ^ (d + 1) : Nat) : Int) := by decide
          first | exact h9 d hd4 | trace_state
      all_goals (have hd9 : d = K := by omega)
      all_goals subst hd9
      all_goals (try assumption)
      all_goals (try exact Int.ofNat_le.2 k4)
      · have h9 : ∀ d : Nat, d < 5 → IntKind.i64.wrap (Int.tdiv ((2 ^ d : Nat) : Int) 2) = ((2 ^ d / 2 : Nat) : Int) := by decide
        rw [h9 d (by omega)]
        rcases k5 with k5 | k5
        · exact .inl (by omega)
        · exact .inr (Int.ofNat_lt.2 k5)
end Go.Proofs.Ytnodkdblaccllaa
