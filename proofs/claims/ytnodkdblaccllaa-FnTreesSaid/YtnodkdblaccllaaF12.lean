/- What the functions of paths in trees answer, on both sides. It proves nothing of a statement by itself. -/
import Derived.Test.YtnodkdblaccllaaF9
set_option linter.unusedSimpArgs false
set_option linter.unusedVariables false
set_option maxRecDepth 100000
namespace Go.Proofs.Ytnodkdblaccllaa
open Go.AL
def stepR (l : List Int) (j : Nat) : List tStep.den := if j % 2 = 1 then [(l.getD (j - 1) 0, true, ())] else if j + 1 < l.length then [(l.getD (j + 1) 0, false, ())] else []
def pathR (m : Int) (l : List Int) (j : Nat) : List tStep.den := if h : l.length ≤ 1 then [] else stepR l j ++ pathR m (upF m l) (j / 2)
termination_by l.length
decreasing_by have := upF_len m l; omega
theorem pathR_step (m : Int) (h : List Int) (j : Nat) (hh : 1 < h.length) : pathR m h j = stepR h j ++ pathR m (upF m h) (j / 2) := by
  conv => lhs; unfold pathR
  rw [dif_neg (by omega)]
def pathF (m : Int) (l : List Int) (i : Int) : List tStep.den := if (0 ≤ i ∧ i < (l.length : Int)) ∧ l.length ≤ 16 then pathR m l i.toNat else []
theorem impl_TreePath_ok (m : Int) (l : List Int) (i : Int) : FunOK Try.prog 6 [⟨I, m⟩, ⟨(.list I), l⟩, ⟨I, i⟩] (.own 39 tStep (pathF m l i)) := by
  have hw0 : 0 ≤ (l.length : Int) := by omega
  refine fun_of (tb := tb) follows Try.func6 (by kernel_rfl) Try.ntmps6 rfl rfl rfl ?_
  intro cx hN hw
  have e1 : IntKind.i64.wrap ((l.length : Int) - 1) = (l.length : Int) - 1 := by
    have h9 : l.length ≤ maxLen := hw.2.1.1
    have hm : maxLen = 9223372036854775807 := rfl
    exact wrap_i64 (by omega) (by omega)
  simp (disch := exact eqId (by kernel_rfl)) only [go_sem, ↓reduceIte, Nat.reduceAdd, Nat.reduceMul, Nat.reduceLT, Nat.reduceBEq, Nat.reduceLeDiff, Nat.reduceEqDiff, Int.reduceToNat, e1]
  repeat' (first | (refine And.intro ?_ ?_) | intro _ | (refine callQ_intro (inRange_ok _ _ _) ?_; try (simp (disch := exact eqId (by kernel_rfl)) only [go_sem, ↓reduceIte, Nat.reduceAdd, Nat.reduceMul, Nat.reduceLT, Nat.reduceBEq, Nat.reduceLeDiff, Nat.reduceEqDiff, Int.reduceToNat])) | (refine callH_intro (fun hcc => inRange_ok _ _ _) ?_; try (simp (disch := exact eqId (by kernel_rfl)) only [go_sem, ↓reduceIte, Nat.reduceAdd, Nat.reduceMul, Nat.reduceLT, Nat.reduceBEq, Nat.reduceLeDiff, Nat.reduceEqDiff, Int.reduceToNat])))
  all_goals (try omega)
  · unfold pathF
    rw [if_neg (by omega)]
  · refine loop_intro (tb := tb) follows hN (D := (List Int) × Nat × (List tStep.den)) (fun d => shp [(0, .rd I (m : Int)), (1, .rd (.list I) d.1), (2, .rd I (d.2.1 : Int)), (7, .own 1)] [(1, .row 39 tStep d.2.2)]) (fun d => (1 ≤ d.1.length ∧ d.1.length ≤ 16 ∧ d.2.1 < d.1.length) ∧ d.2.2.length ≤ 20 - d.1.length ∧ d.2.2 ++ pathR m d.1 d.2.1 = pathR m l i.toNat) (fun d => d.1.length) (l, i.toNat, []) ?_ (sub_shp hN [(1, none)] ?_) (fun d hd => ?_)
    · exact ⟨⟨by simp only; omega, by simp only; omega, by simp only; omega⟩, Nat.zero_le _, rfl⟩
    · simp (disch := exact eqId (by kernel_rfl)) only [go_sem, ↓reduceIte, Nat.reduceAdd, Nat.reduceMul, Nat.reduceLT, Nat.reduceBEq, Nat.reduceLeDiff, Nat.reduceEqDiff, Int.reduceToNat]
      exact I_eq (by omega)
    · obtain ⟨h, j, q⟩ := d
      obtain ⟨⟨h1, h2, h3⟩, h4, h5⟩ := hd
      dsimp only at h1 h2 h3 h4 h5
      have u1 := upF_len m h
      have u2 := upF_len2 m h
      have e2 : IntKind.i64.wrap ((j : Int) + 1) = (j : Int) + 1 := wrap_i64 (by omega) (by omega)
      have e3 : IntKind.i64.wrap ((j : Int) - 1) = (j : Int) - 1 := wrap_i64 (by omega) (by omega)
      have e4 : (j : Int).tmod 2 = (j : Int) % 2 := Int.tmod_eq_emod_of_nonneg (by omega)
      have e5 : (j : Int).tdiv 2 = (j : Int) / 2 := Int.tdiv_eq_ediv_of_nonneg (by omega)
      have e6 : IntKind.i64.wrap ((j : Int) / 2) = (j : Int) / 2 := wrap_i64 (by omega) (by omega)
      have e7 : ((j : Int) - 1).toNat = j - 1 := by omega
      have e8 : ((j : Int) + 1).toNat = j + 1 := by omega
      have e9 : (j : Int) / 2 = ((j / 2 : Nat) : Int) := by omega
      have hp : 1 < h.length → pathR m h j = stepR h j ++ pathR m (upF m h) (j / 2) := pathR_step m h j
      simp (disch := exact eqId (by kernel_rfl)) only [go_sem, ↓reduceIte, Nat.reduceAdd, Nat.reduceMul, Nat.reduceLT, Nat.reduceBEq, Nat.reduceLeDiff, Nat.reduceEqDiff, Int.reduceToNat, e2, e3, e4, e5, e6, e7, e8]
      repeat' (first | (refine And.intro ?_ ?_) | intro _ | (refine callQ_intro (impl_levelAbove_ok _ _ (by omega)) ?_; try (simp (disch := exact eqId (by kernel_rfl)) only [go_sem, ↓reduceIte, Nat.reduceAdd, Nat.reduceMul, Nat.reduceLT, Nat.reduceBEq, Nat.reduceLeDiff, Nat.reduceEqDiff, Int.reduceToNat])) | (refine callH_intro (fun hcc => impl_levelAbove_ok _ _ (by omega)) ?_; try (simp (disch := exact eqId (by kernel_rfl)) only [go_sem, ↓reduceIte, Nat.reduceAdd, Nat.reduceMul, Nat.reduceLT, Nat.reduceBEq, Nat.reduceLeDiff, Nat.reduceEqDiff, Int.reduceToNat])))
      all_goals (try omega)
      · refine back_intro ((upF m h, j / 2, q ++ [(h.getD (j - 1) 0, true, ())])) ?_ ?_ (sub_shp hN [(1, some 70128)] ?_)
        · refine ⟨⟨by simp only; omega, by simp only; omega, by simp only; omega⟩, by simp only [List.length_append, List.length_cons, List.length_nil]; omega, ?_⟩
          rw [← h5, hp (by omega), stepR, if_pos (by omega)]
          simp
        · simp only
          omega
        · simp (disch := exact eqId (by kernel_rfl)) only [go_sem, ↓reduceIte, Nat.reduceAdd, Nat.reduceMul, Nat.reduceLT, Nat.reduceBEq, Nat.reduceLeDiff, Nat.reduceEqDiff, Int.reduceToNat, e9]
          try trivial
      · refine back_intro ((upF m h, j / 2, q ++ [(h.getD (j + 1) 0, false, ())])) ?_ ?_ (sub_shp hN [(1, some 90128)] ?_)
        · refine ⟨⟨by simp only; omega, by simp only; omega, by simp only; omega⟩, by simp only [List.length_append, List.length_cons, List.length_nil]; omega, ?_⟩
          rw [← h5, hp (by omega), stepR, if_neg (by omega), if_pos (by omega)]
          simp
        · simp only
          omega
        · simp (disch := exact eqId (by kernel_rfl)) only [go_sem, ↓reduceIte, Nat.reduceAdd, Nat.reduceMul, Nat.reduceLT, Nat.reduceBEq, Nat.reduceLeDiff, Nat.reduceEqDiff, Int.reduceToNat, e9]
          try trivial
      · refine back_intro ((upF m h, j / 2, q)) ?_ ?_ (sub_shp hN [(1, some 1)] ?_)
        · refine ⟨⟨by simp only; omega, by simp only; omega, by simp only; omega⟩, by simp only [List.length_append, List.length_cons, List.length_nil]; omega, ?_⟩
          rw [← h5, hp (by omega), stepR, if_neg (by omega), if_neg (by omega)]
          simp
        · simp only
          omega
        · simp (disch := exact eqId (by kernel_rfl)) only [go_sem, ↓reduceIte, Nat.reduceAdd, Nat.reduceMul, Nat.reduceLT, Nat.reduceBEq, Nat.reduceLeDiff, Nat.reduceEqDiff, Int.reduceToNat, e9]
          try trivial
      · unfold pathF
        rw [if_pos (by omega), ← h5]
        unfold pathR
        rw [dif_pos (by omega)]
        simp
end Go.Proofs.Ytnodkdblaccllaa
