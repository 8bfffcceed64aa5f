/- What the functions of trees, pieces and renewals answer, on both sides. It proves nothing of a statement by itself. -/
import Derived.Test.YtkneckknjmahdaaGreatF3
set_option linter.unusedSimpArgs false
set_option linter.unusedVariables false
set_option maxRecDepth 100000
namespace Go.Proofs.YtkneckknjmahdaaGreat
open Go.AL
theorem impl_EqualInts_ok (a b : List (I : Ty).den) : FunOK Tryz.prog 121 [⟨(.list I), a⟩, ⟨(.list I), b⟩] (.rd .bool (eqC a b)) := by
  refine fun_of (tb := tb) follows Tryz.func121 (by kernel_rfl) Tryz.ntmps121 rfl rfl rfl ?_
  intro cx hN hw
  simp (disch := exact eqId (by kernel_rfl)) only [go_sem, ↓reduceIte, Nat.reduceAdd, Nat.reduceMul, Nat.reduceLT, Nat.reduceBEq, Nat.reduceLeDiff, Nat.reduceEqDiff, Int.reduceToNat]
  repeat' (first | (refine And.intro ?_ ?_) | intro _)
  all_goals (try omega)
  · refine Eq.symm (eqC_f.mpr ?_); rintro rfl; simp_all
  · have hl : a.length = b.length := by omega
    refine loop_intro (tb := tb) follows hN (D := Nat) (fun d => shp [(0, .rd (.list I) (a)), (1, .rd (.list I) (b)), (12, .rd I (((a).length : Int) : Int)), (13, .rd I (d : Int))] []) (fun d => d ≤ a.length ∧ a.take d = b.take d) (fun d => a.length - d) (0) ?_ (sub_shp hN [] ?_) (fun d hd => ?_)
    · exact ⟨Nat.zero_le _, rfl⟩
    · simp (disch := exact eqId (by kernel_rfl)) only [go_sem, ↓reduceIte, Nat.reduceAdd, Nat.reduceMul, Nat.reduceLT, Nat.reduceBEq, Nat.reduceLeDiff, Nat.reduceEqDiff, Int.reduceToNat]
      rfl
    · obtain ⟨h1, h2⟩ := hd
      simp (disch := exact eqId (by kernel_rfl)) only [go_sem, ↓reduceIte, Nat.reduceAdd, Nat.reduceMul, Nat.reduceLT, Nat.reduceBEq, Nat.reduceLeDiff, Nat.reduceEqDiff, Int.reduceToNat]
      repeat' (first | (refine And.intro ?_ ?_) | intro _)
      all_goals (try omega)
      · rename_i hk hne
        refine Eq.symm (eqC_f.mpr ?_)
        rintro rfl
        simp_all [eqC_f]
      · rename_i hk he
        have hk : d < a.length := by omega
        refine back_intro (d + 1) ?_ ?_ (sub_shp hN [] ?_)
        · refine ⟨hk, ?_⟩
          rw [take_getD hk (0 : (I : Ty).den), take_getD (show d < b.length by omega) (0 : (I : Ty).den), h2]
          try simp only [eqC_t] at he
          first | rw [he] | (simp_all; done)
        · omega
        · simp (disch := exact eqId (by kernel_rfl)) only [go_sem, ↓reduceIte, Nat.reduceAdd, Nat.reduceMul, Nat.reduceLT, Nat.reduceBEq, Nat.reduceLeDiff, Nat.reduceEqDiff, Int.reduceToNat]
          exact wrap_succ hk hw.1.1
      · have hk : d = a.length := by omega
        refine Eq.symm (eqC_t.mpr ?_)
        rw [hk, List.take_length, hl, List.take_length] at h2
        exact h2
theorem spec_EqualInts_ok (a b : List (I : Ty).den) : FunOK Tryz.prog 120 [⟨(.list I), a⟩, ⟨(.list I), b⟩] (.rd .bool (eqC a b)) := by
  refine fun_of (tb := tb) follows Tryz.func120 (by kernel_rfl) Tryz.ntmps120 rfl rfl rfl ?_
  intro cx hN hw
  simp (disch := exact eqId (by kernel_rfl)) only [go_sem, ↓reduceIte, Nat.reduceAdd, Nat.reduceMul, Nat.reduceLT, Nat.reduceBEq, Nat.reduceLeDiff, Nat.reduceEqDiff, Int.reduceToNat]
  repeat' (first | (refine And.intro ?_ ?_) | intro _)
  all_goals (try omega)
  · refine Eq.symm (eqC_f.mpr ?_); rintro rfl; simp_all
  · have hl : a.length = b.length := by omega
    refine loop_intro (tb := tb) follows hN (D := Nat) (fun d => shp [(0, .rd (.list I) (a)), (1, .rd (.list I) (b)), (5, .rd I (d : Int))] []) (fun d => d ≤ a.length ∧ a.take d = b.take d) (fun d => a.length - d) (0) ?_ (sub_shp hN [] ?_) (fun d hd => ?_)
    · exact ⟨Nat.zero_le _, rfl⟩
    · simp (disch := exact eqId (by kernel_rfl)) only [go_sem, ↓reduceIte, Nat.reduceAdd, Nat.reduceMul, Nat.reduceLT, Nat.reduceBEq, Nat.reduceLeDiff, Nat.reduceEqDiff, Int.reduceToNat]
      rfl
    · obtain ⟨h1, h2⟩ := hd
      simp (disch := exact eqId (by kernel_rfl)) only [go_sem, ↓reduceIte, Nat.reduceAdd, Nat.reduceMul, Nat.reduceLT, Nat.reduceBEq, Nat.reduceLeDiff, Nat.reduceEqDiff, Int.reduceToNat]
      repeat' (first | (refine And.intro ?_ ?_) | intro _)
      all_goals (try omega)
      · rename_i hk hne
        refine Eq.symm (eqC_f.mpr ?_)
        rintro rfl
        simp_all [eqC_f]
      · rename_i hk he
        have hk : d < a.length := by omega
        refine back_intro (d + 1) ?_ ?_ (sub_shp hN [] ?_)
        · refine ⟨hk, ?_⟩
          rw [take_getD hk (0 : (I : Ty).den), take_getD (show d < b.length by omega) (0 : (I : Ty).den), h2]
          try simp only [eqC_t] at he
          first | rw [he] | (simp_all; done)
        · omega
        · simp (disch := exact eqId (by kernel_rfl)) only [go_sem, ↓reduceIte, Nat.reduceAdd, Nat.reduceMul, Nat.reduceLT, Nat.reduceBEq, Nat.reduceLeDiff, Nat.reduceEqDiff, Int.reduceToNat]
          exact wrap_succ hk hw.1.1
      · have hk : d = a.length := by omega
        refine Eq.symm (eqC_t.mpr ?_)
        rw [hk, List.take_length, hl, List.take_length] at h2
        exact h2
theorem impl_EqualPieces_ok (a b : tPiece.den) : FunOK Tryz.prog 88 [⟨tPiece, a⟩, ⟨tPiece, b⟩] (.rd .bool (eqC a b)) := by
  obtain ⟨a0, a1, a2, au⟩ := a
  obtain ⟨b0, b1, b2, bu⟩ := b
  refine fun_of (tb := tb) follows Tryz.func88 (by kernel_rfl) Tryz.ntmps88 rfl rfl rfl ?_
  intro cx hN hw
  simp (disch := exact eqId (by kernel_rfl)) only [go_sem, ↓reduceIte, Nat.reduceAdd, Nat.reduceMul, Nat.reduceLT, Nat.reduceBEq, Nat.reduceLeDiff, Nat.reduceEqDiff, Int.reduceToNat]
  repeat' (first | (refine And.intro ?_ ?_) | intro _ | (refine callQ_intro (impl_EqualInts_ok _ _) ?_; try (simp (disch := exact eqId (by kernel_rfl)) only [go_sem, ↓reduceIte, Nat.reduceAdd, Nat.reduceMul, Nat.reduceLT, Nat.reduceBEq, Nat.reduceLeDiff, Nat.reduceEqDiff, Int.reduceToNat])) | (refine callH_intro (fun hcc => impl_EqualInts_ok _ _) ?_; try (simp (disch := exact eqId (by kernel_rfl)) only [go_sem, ↓reduceIte, Nat.reduceAdd, Nat.reduceMul, Nat.reduceLT, Nat.reduceBEq, Nat.reduceLeDiff, Nat.reduceEqDiff, Int.reduceToNat])))
  rw [eqC_prod, eqC_prod, eqC_prod, eqC_unit, eqC_beq_int, eqC_beq_int]
  simp only [Bool.and_true, Bool.and_assoc]
  cases (a0 == b0) <;> cases (a2 == b2) <;> simp
theorem spec_EqualPieces_ok (a b : tPiece.den) : FunOK Tryz.prog 87 [⟨tPiece, a⟩, ⟨tPiece, b⟩] (.rd .bool (eqC a b)) := by
  obtain ⟨a0, a1, a2, au⟩ := a
  obtain ⟨b0, b1, b2, bu⟩ := b
  refine fun_of (tb := tb) follows Tryz.func87 (by kernel_rfl) Tryz.ntmps87 rfl rfl rfl ?_
  intro cx hN hw
  simp (disch := exact eqId (by kernel_rfl)) only [go_sem, ↓reduceIte, Nat.reduceAdd, Nat.reduceMul, Nat.reduceLT, Nat.reduceBEq, Nat.reduceLeDiff, Nat.reduceEqDiff, Int.reduceToNat]
  repeat' (first | (refine And.intro ?_ ?_) | intro _ | (refine callQ_intro (spec_EqualInts_ok _ _) ?_; try (simp (disch := exact eqId (by kernel_rfl)) only [go_sem, ↓reduceIte, Nat.reduceAdd, Nat.reduceMul, Nat.reduceLT, Nat.reduceBEq, Nat.reduceLeDiff, Nat.reduceEqDiff, Int.reduceToNat])) | (refine callH_intro (fun hcc => spec_EqualInts_ok _ _) ?_; try (simp (disch := exact eqId (by kernel_rfl)) only [go_sem, ↓reduceIte, Nat.reduceAdd, Nat.reduceMul, Nat.reduceLT, Nat.reduceBEq, Nat.reduceLeDiff, Nat.reduceEqDiff, Int.reduceToNat])))
  rw [eqC_prod, eqC_prod, eqC_prod, eqC_unit, eqC_beq_int, eqC_beq_int]
  simp only [Bool.and_true, Bool.and_assoc]
  cases (a0 == b0) <;> cases (a2 == b2) <;> simp
def befF : List Int → List Int → Int → Int → Int → Int → Bool
  | x :: xs, y :: ys, k, l, m, n => if x ≠ y then decide (x < y) else befF xs ys k l m n
  | xs, ys, k, l, m, n => if xs.length ≠ ys.length then decide (xs.length < ys.length) else if k ≠ l then decide (k < l) else decide (m < n)
theorem befF_end (xs ys : List Int) (k l m n : Int) (h : xs.length = 0 ∨ ys.length = 0) : befF xs ys k l m n = if xs.length ≠ ys.length then decide (xs.length < ys.length) else if k ≠ l then decide (k < l) else decide (m < n) := by
  cases xs with
  | nil => unfold befF; rfl
  | cons x xs =>
    cases ys with
    | nil => unfold befF; rfl
    | cons y ys => simp at h
end Go.Proofs.YtkneckknjmahdaaGreat
