/- What the functions of agreed spans, of renewals' spans and breaks and of links answer, on both sides. It proves nothing of a statement by itself. -/
import Derived.Test.YtkneckknjmahdaaGreatF16
set_option linter.unusedSimpArgs false
set_option linter.unusedVariables false
set_option maxRecDepth 100000
namespace Go.Proofs.YtkneckknjmahdaaGreat
open Go.AL
theorem cntF_cons (x : tSpan.den) (xs : List tSpan.den) (t : Int) : cntF (x :: xs) t = cntF xs t + if inS t x = true then 1 else 0 := by
  unfold cntF
  rw [List.countP_cons]
theorem inS_iff {t : Int} {x : tSpan.den} : (inS t x = true) = (spB x = true ∧ (x.1 : Int) ≤ t ∧ t ≤ (x.2.1 : Int)) := by
  simp [inS]
theorem impl_CountAt_ok (l : List tSpan.den) (t : Int) : FunOK Tryz.prog 145 [⟨(.list tSpan), l⟩, ⟨I, t⟩] (.rd I (cntF l t : Int)) := by
  refine fun_of (tb := tb) follows Tryz.func145 (by kernel_rfl) Tryz.ntmps145 rfl rfl rfl ?_
  intro cx hN hw
  have hm : maxLen = 9223372036854775807 := rfl
  have hl : l.length ≤ maxLen := hw.1.1
  simp (disch := exact eqId (by kernel_rfl)) only [go_sem, ↓reduceIte, Nat.reduceAdd, Nat.reduceMul, Nat.reduceLT, Nat.reduceBEq, Nat.reduceLeDiff, Nat.reduceEqDiff, Int.reduceToNat]
  refine loop_intro (tb := tb) follows hN (D := Nat × Nat) (fun d => shp [(1, .rd I (t : Int)), (5, .rd I (d.2 : Int)), (8, .rd (.list tSpan) (l)), (9, .rd I (((l).length : Int) : Int)), (10, .rd I (d.1 : Int))] []) (fun d => (d.1 ≤ l.length ∧ d.2 ≤ d.1) ∧ cntF l t = d.2 + cntF (l.drop d.1) t) (fun d => l.length - d.1) ((0, 0)) ?_ (sub_shp hN [] ?_) (fun d hd => ?_)
  · exact ⟨⟨Nat.zero_le _, Nat.le_refl _⟩, by simp⟩
  · simp (disch := exact eqId (by kernel_rfl)) only [go_sem, ↓reduceIte, Nat.reduceAdd, Nat.reduceMul, Nat.reduceLT, Nat.reduceBEq, Nat.reduceLeDiff, Nat.reduceEqDiff, Int.reduceToNat]
    try exact ⟨rfl, rfl⟩
  · obtain ⟨k, n⟩ := d
    obtain ⟨⟨h0, h1⟩, h2⟩ := hd
    simp only at h0 h1 h2
    simp (disch := exact eqId (by kernel_rfl)) only [go_sem, ↓reduceIte, Nat.reduceAdd, Nat.reduceMul, Nat.reduceLT, Nat.reduceBEq, Nat.reduceLeDiff, Nat.reduceEqDiff, Int.reduceToNat]
    repeat' (first | (refine And.intro ?_ ?_) | intro _ | (refine callQ_intro (impl_IsSpan_ok _) ?_; try (simp (disch := exact eqId (by kernel_rfl)) only [go_sem, ↓reduceIte, Nat.reduceAdd, Nat.reduceMul, Nat.reduceLT, Nat.reduceBEq, Nat.reduceLeDiff, Nat.reduceEqDiff, Int.reduceToNat])) | (refine callH_intro (fun hcc => impl_IsSpan_ok _) ?_; try (simp (disch := exact eqId (by kernel_rfl)) only [go_sem, ↓reduceIte, Nat.reduceAdd, Nat.reduceMul, Nat.reduceLT, Nat.reduceBEq, Nat.reduceLeDiff, Nat.reduceEqDiff, Int.reduceToNat])) | (refine callQ_intro (inRange_ok _ _ _) ?_; try (simp (disch := exact eqId (by kernel_rfl)) only [go_sem, ↓reduceIte, Nat.reduceAdd, Nat.reduceMul, Nat.reduceLT, Nat.reduceBEq, Nat.reduceLeDiff, Nat.reduceEqDiff, Int.reduceToNat])) | (refine callH_intro (fun hcc => inRange_ok _ _ _) ?_; try (simp (disch := exact eqId (by kernel_rfl)) only [go_sem, ↓reduceIte, Nat.reduceAdd, Nat.reduceMul, Nat.reduceLT, Nat.reduceBEq, Nat.reduceLeDiff, Nat.reduceEqDiff, Int.reduceToNat])))
    all_goals (try omega)
    · rename_i hk hc
      have hk : k < l.length := by omega
      have hi : inS t (l.getD k (0, 0, ())) = true := by rw [inS_iff]; simp_all
      refine back_intro ((k + 1, n + 1)) ?_ ?_ (sub_shp hN [] ?_)
      · refine ⟨⟨hk, by simp only; omega⟩, ?_⟩
        simp only
        rw [h2, drop_getD hk (0, 0, ()), cntF_cons, if_pos hi]
        omega
      · simp only; omega
      · simp (disch := exact eqId (by kernel_rfl)) only [go_sem, ↓reduceIte, Nat.reduceAdd, Nat.reduceMul, Nat.reduceLT, Nat.reduceBEq, Nat.reduceLeDiff, Nat.reduceEqDiff, Int.reduceToNat]
        exact ⟨(wrap_i64 (by omega) (by omega)).trans (by omega), wrap_succ hk hw.1.1⟩
    · rename_i hk hc
      have hk : k < l.length := by omega
      have hi : ¬ inS t (l.getD k (0, 0, ())) = true := by
        rw [inS_iff]
        rintro ⟨x1, x2, x3⟩
        first
          | (rcases hc with hc | hc | hc
             · rw [show spB (l.getD k (0, 0, ())) = false from hc] at x1; cases x1
             · exact hc x2
             · exact hc x3)
          | (rcases hc with (hc | hc) | hc
             · rw [show spB (l.getD k (0, 0, ())) = false from hc] at x1; cases x1
             · exact hc x2
             · exact hc x3)
      refine back_intro ((k + 1, n)) ?_ ?_ (sub_shp hN [] ?_)
      · refine ⟨⟨hk, by simp only; omega⟩, ?_⟩
        simp only
        rw [h2, drop_getD hk (0, 0, ()), cntF_cons, if_neg hi]
        omega
      · simp only; omega
      · simp (disch := exact eqId (by kernel_rfl)) only [go_sem, ↓reduceIte, Nat.reduceAdd, Nat.reduceMul, Nat.reduceLT, Nat.reduceBEq, Nat.reduceLeDiff, Nat.reduceEqDiff, Int.reduceToNat]
        exact wrap_succ hk hw.1.1
    · rename_i hk
      rw [h2, drop_end (show l.length ≤ k by omega)]
      simp [cntF]
theorem impl_IsSupported_ok (l : List tSpan.den) (t n : Int) : FunOK Tryz.prog 128 [⟨(.list tSpan), l⟩, ⟨I, t⟩, ⟨I, n⟩] (.rd .bool (supF l n t)) := by
  refine fun_of (tb := tb) follows Tryz.func128 (by kernel_rfl) Tryz.ntmps128 rfl rfl rfl ?_
  intro cx hN hw
  have hm : maxLen = 9223372036854775807 := rfl
  have hl : l.length ≤ maxLen := hw.1.1
  have e1 : IntKind.i64.wrap ((l.length : Int) - 1) = (l.length : Int) - 1 := wrap_i64 (by omega) (by omega)
  simp (disch := exact eqId (by kernel_rfl)) only [go_sem, ↓reduceIte, Nat.reduceAdd, Nat.reduceMul, Nat.reduceLT, Nat.reduceBEq, Nat.reduceLeDiff, Nat.reduceEqDiff, Int.reduceToNat, e1]
  repeat' (first | (refine And.intro ?_ ?_) | intro _ | (refine callQ_intro (inRange_ok _ _ _) ?_; try (simp (disch := exact eqId (by kernel_rfl)) only [go_sem, ↓reduceIte, Nat.reduceAdd, Nat.reduceMul, Nat.reduceLT, Nat.reduceBEq, Nat.reduceLeDiff, Nat.reduceEqDiff, Int.reduceToNat])) | (refine callH_intro (fun hcc => inRange_ok _ _ _) ?_; try (simp (disch := exact eqId (by kernel_rfl)) only [go_sem, ↓reduceIte, Nat.reduceAdd, Nat.reduceMul, Nat.reduceLT, Nat.reduceBEq, Nat.reduceLeDiff, Nat.reduceEqDiff, Int.reduceToNat])) | (refine callQ_intro (impl_CountAt_ok _ _) ?_; try (simp (disch := exact eqId (by kernel_rfl)) only [go_sem, ↓reduceIte, Nat.reduceAdd, Nat.reduceMul, Nat.reduceLT, Nat.reduceBEq, Nat.reduceLeDiff, Nat.reduceEqDiff, Int.reduceToNat])) | (refine callH_intro (fun hcc => impl_CountAt_ok _ _) ?_; try (simp (disch := exact eqId (by kernel_rfl)) only [go_sem, ↓reduceIte, Nat.reduceAdd, Nat.reduceMul, Nat.reduceLT, Nat.reduceBEq, Nat.reduceLeDiff, Nat.reduceEqDiff, Int.reduceToNat])))
  by_cases h : 0 ≤ n ∧ n ≤ (l.length : Int) - 1
  · rw [wrap_i64 (by omega) (by omega)]
    rfl
  · have h9 : (decide (0 ≤ n) && decide (n ≤ (l.length : Int) - 1)) = false := by
      rw [← Bool.not_eq_true, Bool.and_eq_true, decide_eq_true_eq, decide_eq_true_eq]
      exact h
    unfold supF inB
    rw [h9, Bool.false_and, Bool.false_and]
theorem spec_CountAt_ok (l : List tSpan.den) (t : Int) : FunOK Tryz.prog 141 [⟨(.list tSpan), l⟩, ⟨I, t⟩] (.rd I (cntF l t : Int)) := by
  refine fun_of (tb := tb) follows Tryz.func141 (by kernel_rfl) Tryz.ntmps141 rfl rfl rfl ?_
  intro cx hN hw
  have hm : maxLen = 9223372036854775807 := rfl
  have hl : l.length ≤ maxLen := hw.1.1
  simp (disch := exact eqId (by kernel_rfl)) only [go_sem, ↓reduceIte, Nat.reduceAdd, Nat.reduceMul, Nat.reduceLT, Nat.reduceBEq, Nat.reduceLeDiff, Nat.reduceEqDiff, Int.reduceToNat]
  refine loop_intro (tb := tb) follows hN (D := Nat × Nat) (fun d => shp [(0, .rd (.list tSpan) (l)), (1, .rd I (t : Int)), (5, .rd I (d.2 : Int)), (6, .rd I (d.1 : Int))] []) (fun d => (d.1 ≤ l.length ∧ d.2 ≤ d.1) ∧ cntF l t = d.2 + cntF (l.drop d.1) t) (fun d => l.length - d.1) ((0, 0)) ?_ (sub_shp hN [] ?_) (fun d hd => ?_)
  · exact ⟨⟨Nat.zero_le _, Nat.le_refl _⟩, by simp⟩
  · simp (disch := exact eqId (by kernel_rfl)) only [go_sem, ↓reduceIte, Nat.reduceAdd, Nat.reduceMul, Nat.reduceLT, Nat.reduceBEq, Nat.reduceLeDiff, Nat.reduceEqDiff, Int.reduceToNat]
    try exact ⟨rfl, rfl⟩
  · obtain ⟨k, n⟩ := d
    obtain ⟨⟨h0, h1⟩, h2⟩ := hd
    simp only at h0 h1 h2
    simp (disch := exact eqId (by kernel_rfl)) only [go_sem, ↓reduceIte, Nat.reduceAdd, Nat.reduceMul, Nat.reduceLT, Nat.reduceBEq, Nat.reduceLeDiff, Nat.reduceEqDiff, Int.reduceToNat]
    repeat' (first | (refine And.intro ?_ ?_) | intro _ | (refine callQ_intro (spec_IsSpan_ok _) ?_; try (simp (disch := exact eqId (by kernel_rfl)) only [go_sem, ↓reduceIte, Nat.reduceAdd, Nat.reduceMul, Nat.reduceLT, Nat.reduceBEq, Nat.reduceLeDiff, Nat.reduceEqDiff, Int.reduceToNat])) | (refine callH_intro (fun hcc => spec_IsSpan_ok _) ?_; try (simp (disch := exact eqId (by kernel_rfl)) only [go_sem, ↓reduceIte, Nat.reduceAdd, Nat.reduceMul, Nat.reduceLT, Nat.reduceBEq, Nat.reduceLeDiff, Nat.reduceEqDiff, Int.reduceToNat])) | (refine callQ_intro (l1In_ok _ _ _) ?_; try (simp (disch := exact eqId (by kernel_rfl)) only [go_sem, ↓reduceIte, Nat.reduceAdd, Nat.reduceMul, Nat.reduceLT, Nat.reduceBEq, Nat.reduceLeDiff, Nat.reduceEqDiff, Int.reduceToNat])) | (refine callH_intro (fun hcc => l1In_ok _ _ _) ?_; try (simp (disch := exact eqId (by kernel_rfl)) only [go_sem, ↓reduceIte, Nat.reduceAdd, Nat.reduceMul, Nat.reduceLT, Nat.reduceBEq, Nat.reduceLeDiff, Nat.reduceEqDiff, Int.reduceToNat])))
    all_goals (try omega)
    · rename_i hk hc
      have hk : k < l.length := by omega
      have hi : inS t (l.getD k (0, 0, ())) = true := by rw [inS_iff]; simp_all
      refine back_intro ((k + 1, n + 1)) ?_ ?_ (sub_shp hN [] ?_)
      · refine ⟨⟨hk, by simp only; omega⟩, ?_⟩
        simp only
        rw [h2, drop_getD hk (0, 0, ()), cntF_cons, if_pos hi]
        omega
      · simp only; omega
      · simp (disch := exact eqId (by kernel_rfl)) only [go_sem, ↓reduceIte, Nat.reduceAdd, Nat.reduceMul, Nat.reduceLT, Nat.reduceBEq, Nat.reduceLeDiff, Nat.reduceEqDiff, Int.reduceToNat]
        exact ⟨(wrap_i64 (by omega) (by omega)).trans (by omega), wrap_succ hk hw.1.1⟩
    · rename_i hk hc
      have hk : k < l.length := by omega
      have hi : ¬ inS t (l.getD k (0, 0, ())) = true := by
        rw [inS_iff]
        rintro ⟨x1, x2, x3⟩
        first
          | (rcases hc with hc | hc | hc
             · rw [show spB (l.getD k (0, 0, ())) = false from hc] at x1; cases x1
             · exact hc x2
             · exact hc x3)
          | (rcases hc with (hc | hc) | hc
             · rw [show spB (l.getD k (0, 0, ())) = false from hc] at x1; cases x1
             · exact hc x2
             · exact hc x3)
      refine back_intro ((k + 1, n)) ?_ ?_ (sub_shp hN [] ?_)
      · refine ⟨⟨hk, by simp only; omega⟩, ?_⟩
        simp only
        rw [h2, drop_getD hk (0, 0, ()), cntF_cons, if_neg hi]
        omega
      · simp only; omega
      · simp (disch := exact eqId (by kernel_rfl)) only [go_sem, ↓reduceIte, Nat.reduceAdd, Nat.reduceMul, Nat.reduceLT, Nat.reduceBEq, Nat.reduceLeDiff, Nat.reduceEqDiff, Int.reduceToNat]
        exact wrap_succ hk hw.1.1
    · rename_i hk
      rw [h2, drop_end (show l.length ≤ k by omega)]
      simp [cntF]
theorem spec_IsSupported_ok (l : List tSpan.den) (t n : Int) : FunOK Tryz.prog 119 [⟨(.list tSpan), l⟩, ⟨I, t⟩, ⟨I, n⟩] (.rd .bool (supF l n t)) := by
  refine fun_of (tb := tb) follows Tryz.func119 (by kernel_rfl) Tryz.ntmps119 rfl rfl rfl ?_
  intro cx hN hw
  have hm : maxLen = 9223372036854775807 := rfl
  have hl : l.length ≤ maxLen := hw.1.1
  have e1 : IntKind.i64.wrap ((l.length : Int) - 1) = (l.length : Int) - 1 := wrap_i64 (by omega) (by omega)
  simp (disch := exact eqId (by kernel_rfl)) only [go_sem, ↓reduceIte, Nat.reduceAdd, Nat.reduceMul, Nat.reduceLT, Nat.reduceBEq, Nat.reduceLeDiff, Nat.reduceEqDiff, Int.reduceToNat, e1]
  repeat' (first | (refine And.intro ?_ ?_) | intro _ | (refine callQ_intro (l1In_ok _ _ _) ?_; try (simp (disch := exact eqId (by kernel_rfl)) only [go_sem, ↓reduceIte, Nat.reduceAdd, Nat.reduceMul, Nat.reduceLT, Nat.reduceBEq, Nat.reduceLeDiff, Nat.reduceEqDiff, Int.reduceToNat])) | (refine callH_intro (fun hcc => l1In_ok _ _ _) ?_; try (simp (disch := exact eqId (by kernel_rfl)) only [go_sem, ↓reduceIte, Nat.reduceAdd, Nat.reduceMul, Nat.reduceLT, Nat.reduceBEq, Nat.reduceLeDiff, Nat.reduceEqDiff, Int.reduceToNat])) | (refine callQ_intro (spec_CountAt_ok _ _) ?_; try (simp (disch := exact eqId (by kernel_rfl)) only [go_sem, ↓reduceIte, Nat.reduceAdd, Nat.reduceMul, Nat.reduceLT, Nat.reduceBEq, Nat.reduceLeDiff, Nat.reduceEqDiff, Int.reduceToNat])) | (refine callH_intro (fun hcc => spec_CountAt_ok _ _) ?_; try (simp (disch := exact eqId (by kernel_rfl)) only [go_sem, ↓reduceIte, Nat.reduceAdd, Nat.reduceMul, Nat.reduceLT, Nat.reduceBEq, Nat.reduceLeDiff, Nat.reduceEqDiff, Int.reduceToNat])))
  by_cases h : 0 ≤ n ∧ n ≤ (l.length : Int) - 1
  · rw [wrap_i64 (by omega) (by omega)]
    rfl
  · have h9 : (decide (0 ≤ n) && decide (n ≤ (l.length : Int) - 1)) = false := by
      rw [← Bool.not_eq_true, Bool.and_eq_true, decide_eq_true_eq, decide_eq_true_eq]
      exact h
    unfold supF inB
    rw [h9, Bool.false_and, Bool.false_and]
theorem agI_no {sup : Int → Bool} {n : Nat} (h : sup (n : Int) = false) : agI sup (n + 1) = agI sup n := by rw [agI, if_neg (by rw [h]; decide)]
theorem agI_new {sup : Int → Bool} {n : Nat} (h : sup (n : Int) = true) (hb : (agI sup n).2 = false) : agI sup (n + 1) = (((n : Int), (n : Int), ()), true) := by rw [agI, if_pos h, if_neg (by rw [hb]; decide)]
theorem agI_old {sup : Int → Bool} {n : Nat} (h : sup (n : Int) = true) (hb : (agI sup n).2 = true) : agI sup (n + 1) = (((agI sup n).1.1, (n : Int), ()), true) := by rw [agI, if_pos h, if_pos hb]
theorem impl_AgreedSpan_ok (l : List tSpan.den) (n : Int) : FunOK Tryz.prog 100 [⟨(.list tSpan), l⟩, ⟨I, n⟩] (.tup [.rd tSpan (agF l n).1, .rd .bool (agF l n).2]) := by
  rw [← ag_eq l n]
  refine fun_of (tb := tb) follows Tryz.func100 (by kernel_rfl) Tryz.ntmps100 rfl rfl rfl ?_
  intro cx hN hw
  simp (disch := exact eqId (by kernel_rfl)) only [go_sem, ↓reduceIte, Nat.reduceAdd, Nat.reduceMul, Nat.reduceLT, Nat.reduceBEq, Nat.reduceLeDiff, Nat.reduceEqDiff, Int.reduceToNat]
  refine loop_intro (tb := tb) follows hN (D := Nat) (fun d => shp [(0, .rd (.list tSpan) (l)), (1, .rd I (n : Int)), (4, .bp 10000 0), (6, .bp 20000 0), (7, .rd .bool ((agI (supF l n) d).2)), (8, .rd I (d : Int))] [(10000, .box 99 [.rd I (0), .rd I (0)]), (20000, .box 99 [.rd I ((agI (supF l n) d).1.1 : Int), .rd I ((agI (supF l n) d).1.2.1 : Int)])]) (fun d => d ≤ 10001) (fun d => 10001 - d) (0) ?_ (sub_shp hN [(10000, some 10000), (20000, some 20000)] ?_) (fun d hd => ?_)
  · exact Nat.zero_le _
  · simp (disch := exact eqId (by kernel_rfl)) only [go_sem, ↓reduceIte, Nat.reduceAdd, Nat.reduceMul, Nat.reduceLT, Nat.reduceBEq, Nat.reduceLeDiff, Nat.reduceEqDiff, Int.reduceToNat]
    exact ⟨⟨rfl, rfl⟩, rfl, rfl⟩
  · simp (disch := exact eqId (by kernel_rfl)) only [go_sem, ↓reduceIte, Nat.reduceAdd, Nat.reduceMul, Nat.reduceLT, Nat.reduceBEq, Nat.reduceLeDiff, Nat.reduceEqDiff, Int.reduceToNat]
    repeat' (first | (refine And.intro ?_ ?_) | intro _ | (refine callQ_intro (impl_IsSupported_ok _ _ _) ?_; try (simp (disch := exact eqId (by kernel_rfl)) only [go_sem, ↓reduceIte, Nat.reduceAdd, Nat.reduceMul, Nat.reduceLT, Nat.reduceBEq, Nat.reduceLeDiff, Nat.reduceEqDiff, Int.reduceToNat])) | (refine callH_intro (fun hcc => impl_IsSupported_ok _ _ _) ?_; try (simp (disch := exact eqId (by kernel_rfl)) only [go_sem, ↓reduceIte, Nat.reduceAdd, Nat.reduceMul, Nat.reduceLT, Nat.reduceBEq, Nat.reduceLeDiff, Nat.reduceEqDiff, Int.reduceToNat])))
    all_goals (try omega)
    · rename_i h1 h2 h3
      refine back_intro (d + 1) ?_ ?_ (sub_shp hN [(10000, some 10000), (20000, some 20000)] ?_)
      · omega
      · omega
      · simp (disch := exact eqId (by kernel_rfl)) only [go_sem, ↓reduceIte, Nat.reduceAdd, Nat.reduceMul, Nat.reduceLT, Nat.reduceBEq, Nat.reduceLeDiff, Nat.reduceEqDiff, Int.reduceToNat]
        rw [agI_new h2 h3]
        exact ⟨⟨rfl, rfl⟩, rfl, wrap_succ' (by omega)⟩
    · rename_i h1 h2 h3
      refine back_intro (d + 1) ?_ ?_ (sub_shp hN [(10000, some 10000), (20000, some 20000)] ?_)
      · omega
      · omega
      · simp (disch := exact eqId (by kernel_rfl)) only [go_sem, ↓reduceIte, Nat.reduceAdd, Nat.reduceMul, Nat.reduceLT, Nat.reduceBEq, Nat.reduceLeDiff, Nat.reduceEqDiff, Int.reduceToNat]
        rw [agI_old h2 h3]
        exact ⟨⟨rfl, rfl⟩, rfl, wrap_succ' (by omega)⟩
    · rename_i h1 h2
      refine back_intro (d + 1) ?_ ?_ (sub_shp hN [(10000, some 10000), (20000, some 20000)] ?_)
      · omega
      · omega
      · simp (disch := exact eqId (by kernel_rfl)) only [go_sem, ↓reduceIte, Nat.reduceAdd, Nat.reduceMul, Nat.reduceLT, Nat.reduceBEq, Nat.reduceLeDiff, Nat.reduceEqDiff, Int.reduceToNat]
        rw [agI_no h2]
        first | exact ⟨⟨rfl, rfl⟩, rfl, wrap_succ' (by omega)⟩ | exact wrap_succ' (by omega)
    all_goals
      have hd2 : d = 10001 := by omega
      subst hd2
      rfl
theorem spec_AgreedSpan_ok (l : List tSpan.den) (n : Int) : FunOK Tryz.prog 85 [⟨(.list tSpan), l⟩, ⟨I, n⟩] (.tup [.rd tSpan (agF l n).1, .rd .bool (agF l n).2]) := by
  refine fun_of (tb := tb) follows Tryz.func85 (by kernel_rfl) Tryz.ntmps85 rfl rfl rfl ?_
  intro cx hN hw
  have hm : maxLen = 9223372036854775807 := rfl
  have hl : l.length ≤ maxLen := hw.1.1
  have e1 : IntKind.i64.wrap ((l.length : Int) - 1) = (l.length : Int) - 1 := wrap_i64 (by omega) (by omega)
  simp (disch := exact eqId (by kernel_rfl)) only [go_sem, ↓reduceIte, Nat.reduceAdd, Nat.reduceMul, Nat.reduceLT, Nat.reduceBEq, Nat.reduceLeDiff, Nat.reduceEqDiff, Int.reduceToNat, e1]
  repeat' (first | (refine And.intro ?_ ?_) | intro _ | (refine callQ_intro (l1In_ok _ _ _) ?_; try (simp (disch := exact eqId (by kernel_rfl)) only [go_sem, ↓reduceIte, Nat.reduceAdd, Nat.reduceMul, Nat.reduceLT, Nat.reduceBEq, Nat.reduceLeDiff, Nat.reduceEqDiff, Int.reduceToNat])) | (refine callH_intro (fun hcc => l1In_ok _ _ _) ?_; try (simp (disch := exact eqId (by kernel_rfl)) only [go_sem, ↓reduceIte, Nat.reduceAdd, Nat.reduceMul, Nat.reduceLT, Nat.reduceBEq, Nat.reduceLeDiff, Nat.reduceEqDiff, Int.reduceToNat])))
  all_goals (try omega)
  iterate 2
    · rename_i hc
      unfold agF
      rw [if_neg (by rw [inB_t]; omega)]
  · rename_i hc
    refine loop_intro (tb := tb) follows hN (D := Nat × Int × Int) (fun d => shp [(0, .rd (.list tSpan) (l)), (1, .rd I (n : Int)), (4, .bp 10000 0), (6, .rd I (d.2.1 : Int)), (7, .rd I (d.2.2 : Int)), (8, .rd I (d.1 : Int))] [(10000, .box 99 [.rd I (0), .rd I (0)])]) (fun d => d.1 ≤ l.length ∧ agS (supF l n) l (-1, -1) = agS (supF l n) (l.drop d.1) (d.2.1, d.2.2)) (fun d => l.length - d.1) ((0, -1, -1)) ?_ (sub_shp hN [(10000, some 10000)] ?_) (fun d hd => ?_)
    · exact ⟨Nat.zero_le _, rfl⟩
    · simp (disch := exact eqId (by kernel_rfl)) only [go_sem, ↓reduceIte, Nat.reduceAdd, Nat.reduceMul, Nat.reduceLT, Nat.reduceBEq, Nat.reduceLeDiff, Nat.reduceEqDiff, Int.reduceToNat]
      try rfl
    · obtain ⟨k, a, b⟩ := d
      obtain ⟨h1, h2⟩ := hd
      simp only at h1 h2
      simp (disch := exact eqId (by kernel_rfl)) only [go_sem, ↓reduceIte, Nat.reduceAdd, Nat.reduceMul, Nat.reduceLT, Nat.reduceBEq, Nat.reduceLeDiff, Nat.reduceEqDiff, Int.reduceToNat]
      repeat' (first | (refine And.intro ?_ ?_) | intro _ | (refine callQ_intro (spec_IsSpan_ok _) ?_; try (simp (disch := exact eqId (by kernel_rfl)) only [go_sem, ↓reduceIte, Nat.reduceAdd, Nat.reduceMul, Nat.reduceLT, Nat.reduceBEq, Nat.reduceLeDiff, Nat.reduceEqDiff, Int.reduceToNat])) | (refine callH_intro (fun hcc => spec_IsSpan_ok _) ?_; try (simp (disch := exact eqId (by kernel_rfl)) only [go_sem, ↓reduceIte, Nat.reduceAdd, Nat.reduceMul, Nat.reduceLT, Nat.reduceBEq, Nat.reduceLeDiff, Nat.reduceEqDiff, Int.reduceToNat])) | (refine callQ_intro (spec_IsSupported_ok _ _ _) ?_; try (simp (disch := exact eqId (by kernel_rfl)) only [go_sem, ↓reduceIte, Nat.reduceAdd, Nat.reduceMul, Nat.reduceLT, Nat.reduceBEq, Nat.reduceLeDiff, Nat.reduceEqDiff, Int.reduceToNat])) | (refine callH_intro (fun hcc => spec_IsSupported_ok _ _ _) ?_; try (simp (disch := exact eqId (by kernel_rfl)) only [go_sem, ↓reduceIte, Nat.reduceAdd, Nat.reduceMul, Nat.reduceLT, Nat.reduceBEq, Nat.reduceLeDiff, Nat.reduceEqDiff, Int.reduceToNat])) | (refine callQ_intro (spec_Max_ok _ _) ?_; try (simp (disch := exact eqId (by kernel_rfl)) only [go_sem, ↓reduceIte, Nat.reduceAdd, Nat.reduceMul, Nat.reduceLT, Nat.reduceBEq, Nat.reduceLeDiff, Nat.reduceEqDiff, Int.reduceToNat])) | (refine callH_intro (fun hcc => spec_Max_ok _ _) ?_; try (simp (disch := exact eqId (by kernel_rfl)) only [go_sem, ↓reduceIte, Nat.reduceAdd, Nat.reduceMul, Nat.reduceLT, Nat.reduceBEq, Nat.reduceLeDiff, Nat.reduceEqDiff, Int.reduceToNat])))
      all_goals (try omega)
      all_goals (try (rename_i hx; first | exact hx.1 | exact hx.2))
      all_goals (try (rename_i hx _; first | exact hx.1 | exact hx.2))
      · rename_i hk hc1 hc2
        have hk : k < l.length := by omega
        refine back_intro ((k + 1, (List.getD l k (0, 0, ())).1, mxF b (List.getD l k (0, 0, ())).2.1)) ?_ ?_ (sub_shp hN [(10000, some 10000)] ?_)
        · refine ⟨hk, ?_⟩
          simp only
          rw [h2, drop_getD hk (0, 0, ()), agS, if_pos ⟨hc1.1.1, hc1.1.2, hc1.2⟩, if_pos hc2]
        · simp only; omega
        · simp (disch := exact eqId (by kernel_rfl)) only [go_sem, ↓reduceIte, Nat.reduceAdd, Nat.reduceMul, Nat.reduceLT, Nat.reduceBEq, Nat.reduceLeDiff, Nat.reduceEqDiff, Int.reduceToNat]
          first | exact ⟨rfl, rfl, wrap_succ hk hw.1.1⟩ | exact ⟨rfl, wrap_succ hk hw.1.1⟩ | exact wrap_succ hk hw.1.1
      · rename_i hk hc1 hc2
        have hk : k < l.length := by omega
        have q2 : ¬ (spB (List.getD l k (0, 0, ())) = true ∧ supF l n (List.getD l k (0, 0, ())).2.1 = true) := by
          rintro ⟨p1, p2⟩
          rcases hc2 with hc2 | hc2
          · rw [p1] at hc2; cases hc2
          · rw [p2] at hc2; cases hc2
        refine back_intro ((k + 1, (List.getD l k (0, 0, ())).1, b)) ?_ ?_ (sub_shp hN [(10000, some 10000)] ?_)
        · refine ⟨hk, ?_⟩
          simp only
          rw [h2, drop_getD hk (0, 0, ()), agS, if_pos ⟨hc1.1.1, hc1.1.2, hc1.2⟩, if_neg q2]
        · simp only; omega
        · simp (disch := exact eqId (by kernel_rfl)) only [go_sem, ↓reduceIte, Nat.reduceAdd, Nat.reduceMul, Nat.reduceLT, Nat.reduceBEq, Nat.reduceLeDiff, Nat.reduceEqDiff, Int.reduceToNat]
          first | exact ⟨rfl, rfl, wrap_succ hk hw.1.1⟩ | exact ⟨rfl, wrap_succ hk hw.1.1⟩ | exact wrap_succ hk hw.1.1
      · rename_i hk hc1 hc2
        have hk : k < l.length := by omega
        have q1 : ¬ (spB (List.getD l k (0, 0, ())) = true ∧ supF l n (List.getD l k (0, 0, ())).1 = true ∧ (a < 0 ∨ (List.getD l k (0, 0, ())).1 < a)) := by
          rintro ⟨p1, p2, p3⟩
          rcases hc1 with (hc1 | hc1) | hc1
          · rw [p1] at hc1; cases hc1
          · rw [p2] at hc1; cases hc1
          · exact p3.elim hc1.1 hc1.2
        refine back_intro ((k + 1, a, mxF b (List.getD l k (0, 0, ())).2.1)) ?_ ?_ (sub_shp hN [(10000, some 10000)] ?_)
        · refine ⟨hk, ?_⟩
          simp only
          rw [h2, drop_getD hk (0, 0, ()), agS, if_neg q1, if_pos hc2]
        · simp only; omega
        · simp (disch := exact eqId (by kernel_rfl)) only [go_sem, ↓reduceIte, Nat.reduceAdd, Nat.reduceMul, Nat.reduceLT, Nat.reduceBEq, Nat.reduceLeDiff, Nat.reduceEqDiff, Int.reduceToNat]
          first | exact ⟨rfl, rfl, wrap_succ hk hw.1.1⟩ | exact ⟨rfl, wrap_succ hk hw.1.1⟩ | exact wrap_succ hk hw.1.1
      · rename_i hk hc1 hc2
        have hk : k < l.length := by omega
        have q1 : ¬ (spB (List.getD l k (0, 0, ())) = true ∧ supF l n (List.getD l k (0, 0, ())).1 = true ∧ (a < 0 ∨ (List.getD l k (0, 0, ())).1 < a)) := by
          rintro ⟨p1, p2, p3⟩
          rcases hc1 with (hc1 | hc1) | hc1
          · rw [p1] at hc1; cases hc1
          · rw [p2] at hc1; cases hc1
          · exact p3.elim hc1.1 hc1.2
        have q2 : ¬ (spB (List.getD l k (0, 0, ())) = true ∧ supF l n (List.getD l k (0, 0, ())).2.1 = true) := by
          rintro ⟨p1, p2⟩
          rcases hc2 with hc2 | hc2
          · rw [p1] at hc2; cases hc2
          · rw [p2] at hc2; cases hc2
        refine back_intro ((k + 1, a, b)) ?_ ?_ (sub_shp hN [(10000, some 10000)] ?_)
        · refine ⟨hk, ?_⟩
          simp only
          rw [h2, drop_getD hk (0, 0, ()), agS, if_neg q1, if_neg q2]
        · simp only; omega
        · simp (disch := exact eqId (by kernel_rfl)) only [go_sem, ↓reduceIte, Nat.reduceAdd, Nat.reduceMul, Nat.reduceLT, Nat.reduceBEq, Nat.reduceLeDiff, Nat.reduceEqDiff, Int.reduceToNat]
          first | exact ⟨rfl, rfl, wrap_succ hk hw.1.1⟩ | exact ⟨rfl, wrap_succ hk hw.1.1⟩ | exact wrap_succ hk hw.1.1
      all_goals
        rename_i hk ha
        rw [drop_end (show l.length ≤ k by omega), show agS (supF l n) [] (a, b) = (a, b) from rfl] at h2
      · have hag : agF l n = ((0, 0, ()), false) := by unfold agF; rw [if_pos (by rw [inB_t]; exact hc), h2]; exact if_pos ha
        exact (congrArg Prod.fst hag).symm
      · have hag : agF l n = ((0, 0, ()), false) := by unfold agF; rw [if_pos (by rw [inB_t]; exact hc), h2]; exact if_pos ha
        exact (congrArg Prod.snd hag).symm
      · have hag : agF l n = ((a, b, ()), true) := by unfold agF; rw [if_pos (by rw [inB_t]; exact hc), h2]; exact if_neg ha
        exact (congrArg Prod.fst hag).symm
      · have hag : agF l n = ((a, b, ()), true) := by unfold agF; rw [if_pos (by rw [inB_t]; exact hc), h2]; exact if_neg ha
        exact (congrArg Prod.snd hag).symm
def sspL (l : List tAuthority.den) (ss : List tStamp.den) : List tSpan.den := ss.map (fun s => (sspF l s).1)
def agoF (l : List tAuthority.den) (ss : List tStamp.den) (n : Int) : tSpan.den × Bool := if ss.all (fun s => (sspF l s).2) = true then agF (sspL l ss) n else ((0, 0, ()), false)
theorem sspL_take (l : List tAuthority.den) {ss : List tStamp.den} {k : Nat} (hk : k < ss.length) : sspL l (ss.take (k + 1)) = sspL l (ss.take k) ++ [(sspF l (ss.getD k (0, 0, 0, 0, 0, ()))).1] := by
  unfold sspL
  exact map_take_succ _ hk _
theorem sspL_len (l : List tAuthority.den) (ss : List tStamp.den) : (sspL l ss).length = ss.length := by simp [sspL]
noncomputable def rbF (ks : List tKey.den) (l : List tAuthority.den) (ms : List tMethod.den) : Int → List tStamp.den → Int
  | a, [] => a
  | a, s :: ss => if finF (fun x : tKey.den => x.1) (skyF l s) ks 0 < 0 then 0 else rbF ks l ms (mnF a (brkF ms (ks.getD (finF (fun x : tKey.den => x.1) (skyF l s) ks 0).toNat (0, 0, 0, 0, 0, ())).2.2.1)) ss
theorem impl_agreedOn_ok (l : List tAuthority.den) (ss : List tStamp.den) (n : Int) (hs : ss.length ≤ 1048576) : FunOK Tryz.prog 68 [⟨(.list tAuthority), l⟩, ⟨(.list tStamp), ss⟩, ⟨I, n⟩] (.tup [.rd tSpan (agoF l ss n).1, .rd .bool (agoF l ss n).2]) := by
  refine fun_of (tb := tb) follows Tryz.func68 (by kernel_rfl) Tryz.ntmps68 rfl rfl rfl ?_
  intro cx hN hw
  simp (disch := exact eqId (by kernel_rfl)) only [go_sem, ↓reduceIte, Nat.reduceAdd, Nat.reduceMul, Nat.reduceLT, Nat.reduceBEq, Nat.reduceLeDiff, Nat.reduceEqDiff, Int.reduceToNat]
  refine loop_intro (tb := tb) follows hN (D := Nat) (fun d => shp [(0, .rd (.list tAuthority) (l)), (2, .rd I (n : Int)), (6, .bp 10000 0), (8, .own 1), (13, .rd (.list tStamp) (ss)), (14, .rd I (((ss).length : Int) : Int)), (15, .rd I (d : Int))] [(1, .row 99 tSpan (sspL l (List.take d ss))), (10000, .box 99 [.rd I (0), .rd I (0)])]) (fun d => d ≤ List.length ss ∧ List.all ss (fun s => (sspF l s).2) = (List.drop d ss).all (fun s => (sspF l s).2)) (fun d => List.length ss - d) (0) ?_ (sub_shp hN [(10000, some 10000), (1, none)] ?_) (fun d hd => ?_)
  · exact ⟨Nat.zero_le _, rfl⟩
  · simp (disch := exact eqId (by kernel_rfl)) only [go_sem, ↓reduceIte, Nat.reduceAdd, Nat.reduceMul, Nat.reduceLT, Nat.reduceBEq, Nat.reduceLeDiff, Nat.reduceEqDiff, Int.reduceToNat]
    try exact ⟨rfl, rfl⟩
  · obtain ⟨h1, h2⟩ := hd
    have hl9 : (sspL l (List.take d ss)).length ≤ List.length ss := by rw [sspL_len, List.length_take]; omega
    simp (disch := exact eqId (by kernel_rfl)) only [go_sem, ↓reduceIte, Nat.reduceAdd, Nat.reduceMul, Nat.reduceLT, Nat.reduceBEq, Nat.reduceLeDiff, Nat.reduceEqDiff, Int.reduceToNat]
    repeat' (first | (refine And.intro ?_ ?_) | intro _ | (refine callQ_intro (impl_StampSpan_ok _ _) ?_; try (simp (disch := exact eqId (by kernel_rfl)) only [go_sem, ↓reduceIte, Nat.reduceAdd, Nat.reduceMul, Nat.reduceLT, Nat.reduceBEq, Nat.reduceLeDiff, Nat.reduceEqDiff, Int.reduceToNat])) | (refine callH_intro (fun hcc => impl_StampSpan_ok _ _) ?_; try (simp (disch := exact eqId (by kernel_rfl)) only [go_sem, ↓reduceIte, Nat.reduceAdd, Nat.reduceMul, Nat.reduceLT, Nat.reduceBEq, Nat.reduceLeDiff, Nat.reduceEqDiff, Int.reduceToNat])))
    all_goals (try omega)
    all_goals (try (simp only [List.length_append, List.length_cons, List.length_nil]; omega))
    iterate 2
      · rename_i hk hc
        have hall : List.all ss (fun s => (sspF l s).2) = false := by
          rw [h2, drop_getD (show d < List.length ss by omega) (0, 0, 0, 0, 0, ()), List.all_cons]
          rw [show (sspF l (List.getD ss d (0, 0, 0, 0, 0, ()))).2 = false from hc, Bool.false_and]
        have hag : agoF l ss n = ((0, 0, ()), false) := by unfold agoF; exact if_neg (by rw [hall]; decide)
        first | exact (congrArg Prod.fst hag).symm | exact (congrArg Prod.snd hag).symm
    · rename_i hk hc
      have hk : d < List.length ss := by omega
      refine back_intro (d + 1) ?_ ?_ (sub_shp hN [(10000, some 10000), (1, some 90048)] ?_)
      · refine ⟨hk, ?_⟩
        rw [h2, drop_getD hk (0, 0, 0, 0, 0, ()), List.all_cons]
        rw [show (sspF l (List.getD ss d (0, 0, 0, 0, 0, ()))).2 = true from hc, Bool.true_and]
      · omega
      · simp (disch := exact eqId (by kernel_rfl)) only [go_sem, ↓reduceIte, Nat.reduceAdd, Nat.reduceMul, Nat.reduceLT, Nat.reduceBEq, Nat.reduceLeDiff, Nat.reduceEqDiff, Int.reduceToNat]
        rw [sspL_take l hk]
        try exact ⟨rfl, wrap_succ hk hw.2.1.1⟩
    · rename_i hk
      have hk : d = List.length ss := by omega
      have hall : List.all ss (fun s => (sspF l s).2) = true := by
        rw [h2, drop_end (show List.length ss ≤ d by omega)]
        rfl
      have hag : agoF l ss n = agF (sspL l ss) n := by unfold agoF; exact if_pos hall
      rw [hk, List.take_length]
      refine callQ_intro (impl_AgreedSpan_ok _ _) ?_
      simp (disch := exact eqId (by kernel_rfl)) only [go_sem, ↓reduceIte, Nat.reduceAdd, Nat.reduceMul, Nat.reduceLT, Nat.reduceBEq, Nat.reduceLeDiff, Nat.reduceEqDiff, Int.reduceToNat]
      first | exact ⟨(congrArg Prod.fst hag).symm, (congrArg Prod.snd hag).symm⟩ | rw [hag]
theorem spec_RenewalSpan_ok (l : List tAuthority.den) (r : tRenewal.den) (n : Int) (hs : List.length r.2.2.2.2.1 ≤ 1048576) : FunOK Tryz.prog 48 [⟨(.list tAuthority), l⟩, ⟨tRenewal, r⟩, ⟨I, n⟩] (.tup [.rd tSpan (agoF l r.2.2.2.2.1 n).1, .rd .bool (agoF l r.2.2.2.2.1 n).2]) := by
  refine fun_of (tb := tb) follows Tryz.func48 (by kernel_rfl) Tryz.ntmps48 rfl rfl rfl ?_
  intro cx hN hw
  simp (disch := exact eqId (by kernel_rfl)) only [go_sem, ↓reduceIte, Nat.reduceAdd, Nat.reduceMul, Nat.reduceLT, Nat.reduceBEq, Nat.reduceLeDiff, Nat.reduceEqDiff, Int.reduceToNat]
  refine loop_intro (tb := tb) follows hN (D := Nat) (fun d => shp [(0, .rd (.list tAuthority) (l)), (2, .rd I (n : Int)), (4, .bp 10000 0), (6, .bp 10016 0), (8, .own 1), (9, .rd I (d : Int))] [(1, .row 99 tSpan (sspL l (List.take d r.2.2.2.2.1))), (10000, .box 97 [.rd I (r.1), .rd I (r.2.1), .rd I (r.2.2.1), .rd (.list tStep) (r.2.2.2.1), .rd (.list tStamp) (r.2.2.2.2.1)]), (10016, .box 99 [.rd I (0), .rd I (0)])]) (fun d => d ≤ List.length r.2.2.2.2.1 ∧ List.all r.2.2.2.2.1 (fun s => (sspF l s).2) = (List.drop d r.2.2.2.2.1).all (fun s => (sspF l s).2)) (fun d => List.length r.2.2.2.2.1 - d) (0) ?_ (sub_shp hN [(10000, some 10000), (10016, some 10016), (1, some 20000)] ?_) (fun d hd => ?_)
  · exact ⟨Nat.zero_le _, rfl⟩
  · simp (disch := exact eqId (by kernel_rfl)) only [go_sem, ↓reduceIte, Nat.reduceAdd, Nat.reduceMul, Nat.reduceLT, Nat.reduceBEq, Nat.reduceLeDiff, Nat.reduceEqDiff, Int.reduceToNat]
    try exact ⟨rfl, rfl⟩
  · obtain ⟨h1, h2⟩ := hd
    have hl9 : (sspL l (List.take d r.2.2.2.2.1)).length ≤ List.length r.2.2.2.2.1 := by rw [sspL_len, List.length_take]; omega
    simp (disch := exact eqId (by kernel_rfl)) only [go_sem, ↓reduceIte, Nat.reduceAdd, Nat.reduceMul, Nat.reduceLT, Nat.reduceBEq, Nat.reduceLeDiff, Nat.reduceEqDiff, Int.reduceToNat]
    repeat' (first | (refine And.intro ?_ ?_) | intro _ | (refine callQ_intro (spec_StampSpan_ok _ _) ?_; try (simp (disch := exact eqId (by kernel_rfl)) only [go_sem, ↓reduceIte, Nat.reduceAdd, Nat.reduceMul, Nat.reduceLT, Nat.reduceBEq, Nat.reduceLeDiff, Nat.reduceEqDiff, Int.reduceToNat])) | (refine callH_intro (fun hcc => spec_StampSpan_ok _ _) ?_; try (simp (disch := exact eqId (by kernel_rfl)) only [go_sem, ↓reduceIte, Nat.reduceAdd, Nat.reduceMul, Nat.reduceLT, Nat.reduceBEq, Nat.reduceLeDiff, Nat.reduceEqDiff, Int.reduceToNat])))
    all_goals (try omega)
    all_goals (try (simp only [List.length_append, List.length_cons, List.length_nil]; omega))
    iterate 2
      · rename_i hk hc
        have hall : List.all r.2.2.2.2.1 (fun s => (sspF l s).2) = false := by
          rw [h2, drop_getD (show d < List.length r.2.2.2.2.1 by omega) (0, 0, 0, 0, 0, ()), List.all_cons]
          rw [show (sspF l (List.getD r.2.2.2.2.1 d (0, 0, 0, 0, 0, ()))).2 = false from hc, Bool.false_and]
        have hag : agoF l r.2.2.2.2.1 n = ((0, 0, ()), false) := by unfold agoF; exact if_neg (by rw [hall]; decide)
        first | exact (congrArg Prod.fst hag).symm | exact (congrArg Prod.snd hag).symm
    · rename_i hk hc
      have hk : d < List.length r.2.2.2.2.1 := by omega
      refine back_intro (d + 1) ?_ ?_ (sub_shp hN [(10000, some 10000), (10016, some 10016), (1, some 90048)] ?_)
      · refine ⟨hk, ?_⟩
        rw [h2, drop_getD hk (0, 0, 0, 0, 0, ()), List.all_cons]
        rw [show (sspF l (List.getD r.2.2.2.2.1 d (0, 0, 0, 0, 0, ()))).2 = true from hc, Bool.true_and]
      · omega
      · simp (disch := exact eqId (by kernel_rfl)) only [go_sem, ↓reduceIte, Nat.reduceAdd, Nat.reduceMul, Nat.reduceLT, Nat.reduceBEq, Nat.reduceLeDiff, Nat.reduceEqDiff, Int.reduceToNat]
        rw [sspL_take l hk]
        try exact ⟨rfl, wrap_succ hk hw.2.1.2.2.2.2.1.1⟩
    · rename_i hk
      have hk : d = List.length r.2.2.2.2.1 := by omega
      have hall : List.all r.2.2.2.2.1 (fun s => (sspF l s).2) = true := by
        rw [h2, drop_end (show List.length r.2.2.2.2.1 ≤ d by omega)]
        rfl
      have hag : agoF l r.2.2.2.2.1 n = agF (sspL l r.2.2.2.2.1) n := by unfold agoF; exact if_pos hall
      rw [hk, List.take_length]
      refine callQ_intro (spec_AgreedSpan_ok _ _) ?_
      simp (disch := exact eqId (by kernel_rfl)) only [go_sem, ↓reduceIte, Nat.reduceAdd, Nat.reduceMul, Nat.reduceLT, Nat.reduceBEq, Nat.reduceLeDiff, Nat.reduceEqDiff, Int.reduceToNat]
      first | exact ⟨(congrArg Prod.fst hag).symm, (congrArg Prod.snd hag).symm⟩ | rw [hag]
theorem impl_RenewalSpan_ok (l : List tAuthority.den) (r : tRenewal.den) (n : Int) (hs : List.length r.2.2.2.2.1 ≤ 1048576) : FunOK Tryz.prog 86 [⟨(.list tAuthority), l⟩, ⟨tRenewal, r⟩, ⟨I, n⟩] (.tup [.rd tSpan (agoF l r.2.2.2.2.1 n).1, .rd .bool (agoF l r.2.2.2.2.1 n).2]) := by
  refine fun_of (tb := tb) follows Tryz.func86 (by kernel_rfl) Tryz.ntmps86 rfl rfl rfl ?_
  intro cx hN hw
  simp (disch := exact eqId (by kernel_rfl)) only [go_sem, ↓reduceIte, Nat.reduceAdd, Nat.reduceMul, Nat.reduceLT, Nat.reduceBEq, Nat.reduceLeDiff, Nat.reduceEqDiff, Int.reduceToNat]
  repeat' (first | (refine And.intro ?_ ?_) | intro _ | (refine callQ_intro (impl_agreedOn_ok _ _ _ hs) ?_; try (simp (disch := exact eqId (by kernel_rfl)) only [go_sem, ↓reduceIte, Nat.reduceAdd, Nat.reduceMul, Nat.reduceLT, Nat.reduceBEq, Nat.reduceLeDiff, Nat.reduceEqDiff, Int.reduceToNat])) | (refine callH_intro (fun hcc => impl_agreedOn_ok _ _ _ hs) ?_; try (simp (disch := exact eqId (by kernel_rfl)) only [go_sem, ↓reduceIte, Nat.reduceAdd, Nat.reduceMul, Nat.reduceLT, Nat.reduceBEq, Nat.reduceLeDiff, Nat.reduceEqDiff, Int.reduceToNat])))
  all_goals (try rfl)
theorem impl_RenewalBreak_ok (ks : List tKey.den) (l : List tAuthority.den) (ms : List tMethod.den) (r : tRenewal.den) : FunOK Tryz.prog 110 [⟨(.list tKey), ks⟩, ⟨(.list tAuthority), l⟩, ⟨(.list tMethod), ms⟩, ⟨tRenewal, r⟩] (.rd I (rbF ks l ms (brkF ms r.2.1) r.2.2.2.2.1)) := by
  refine fun_of (tb := tb) follows Tryz.func110 (by kernel_rfl) Tryz.ntmps110 rfl rfl rfl ?_
  intro cx hN hw
  simp (disch := exact eqId (by kernel_rfl)) only [go_sem, ↓reduceIte, Nat.reduceAdd, Nat.reduceMul, Nat.reduceLT, Nat.reduceBEq, Nat.reduceLeDiff, Nat.reduceEqDiff, Int.reduceToNat]
  refine callQ_intro (impl_BreakOf_ok _ _) ?_
  simp (disch := exact eqId (by kernel_rfl)) only [go_sem, ↓reduceIte, Nat.reduceAdd, Nat.reduceMul, Nat.reduceLT, Nat.reduceBEq, Nat.reduceLeDiff, Nat.reduceEqDiff, Int.reduceToNat]
  refine loop_intro (tb := tb) follows hN (D := Nat × Int) (fun d => shp [(0, .rd (.list tKey) (ks)), (1, .rd (.list tAuthority) (l)), (2, .rd (.list tMethod) (ms)), (9, .rd I (d.2 : Int)), (18, .rd (.list tStamp) (r.2.2.2.2.1)), (19, .rd I (((r.2.2.2.2.1).length : Int) : Int)), (20, .rd I (d.1 : Int))] []) (fun d => d.1 ≤ List.length r.2.2.2.2.1 ∧ rbF ks l ms (brkF ms r.2.1) r.2.2.2.2.1 = rbF ks l ms d.2 (List.drop d.1 r.2.2.2.2.1)) (fun d => List.length r.2.2.2.2.1 - d.1) ((0, brkF ms r.2.1)) ?_ (sub_shp hN [] ?_) (fun d hd => ?_)
  · exact ⟨Nat.zero_le _, rfl⟩
  · simp (disch := exact eqId (by kernel_rfl)) only [go_sem, ↓reduceIte, Nat.reduceAdd, Nat.reduceMul, Nat.reduceLT, Nat.reduceBEq, Nat.reduceLeDiff, Nat.reduceEqDiff, Int.reduceToNat]
    try rfl
  · obtain ⟨k, a⟩ := d
    obtain ⟨h1, h2⟩ := hd
    simp only at h1 h2
    have hf := finF_lt (fun x : tKey.den => x.1) (skyF l (List.getD r.2.2.2.2.1 k (0, 0, 0, 0, 0, ()))) ks 0
    have hf2 := finF_lt (fun x : tKey.den => x.1) (skyF l ((List.getD r.2.2.2.2.1 k (0, 0, 0, 0, 0, ())).1, (List.getD r.2.2.2.2.1 k (0, 0, 0, 0, 0, ())).2.1, (List.getD r.2.2.2.2.1 k (0, 0, 0, 0, 0, ())).2.2.1, (List.getD r.2.2.2.2.1 k (0, 0, 0, 0, 0, ())).2.2.2.1, (List.getD r.2.2.2.2.1 k (0, 0, 0, 0, 0, ())).2.2.2.2.1, ())) ks 0
    simp (disch := exact eqId (by kernel_rfl)) only [go_sem, ↓reduceIte, Nat.reduceAdd, Nat.reduceMul, Nat.reduceLT, Nat.reduceBEq, Nat.reduceLeDiff, Nat.reduceEqDiff, Int.reduceToNat]
    repeat' (first | (refine And.intro ?_ ?_) | intro _ | (refine callQ_intro (impl_StampKey_ok _ _) ?_; try (simp (disch := exact eqId (by kernel_rfl)) only [go_sem, ↓reduceIte, Nat.reduceAdd, Nat.reduceMul, Nat.reduceLT, Nat.reduceBEq, Nat.reduceLeDiff, Nat.reduceEqDiff, Int.reduceToNat])) | (refine callH_intro (fun hcc => impl_StampKey_ok _ _) ?_; try (simp (disch := exact eqId (by kernel_rfl)) only [go_sem, ↓reduceIte, Nat.reduceAdd, Nat.reduceMul, Nat.reduceLT, Nat.reduceBEq, Nat.reduceLeDiff, Nat.reduceEqDiff, Int.reduceToNat])) | (refine callQ_intro (impl_FindKey_ok _ _) ?_; try (simp (disch := exact eqId (by kernel_rfl)) only [go_sem, ↓reduceIte, Nat.reduceAdd, Nat.reduceMul, Nat.reduceLT, Nat.reduceBEq, Nat.reduceLeDiff, Nat.reduceEqDiff, Int.reduceToNat])) | (refine callH_intro (fun hcc => impl_FindKey_ok _ _) ?_; try (simp (disch := exact eqId (by kernel_rfl)) only [go_sem, ↓reduceIte, Nat.reduceAdd, Nat.reduceMul, Nat.reduceLT, Nat.reduceBEq, Nat.reduceLeDiff, Nat.reduceEqDiff, Int.reduceToNat])) | (refine callQ_intro (impl_BreakOf_ok _ _) ?_; try (simp (disch := exact eqId (by kernel_rfl)) only [go_sem, ↓reduceIte, Nat.reduceAdd, Nat.reduceMul, Nat.reduceLT, Nat.reduceBEq, Nat.reduceLeDiff, Nat.reduceEqDiff, Int.reduceToNat])) | (refine callH_intro (fun hcc => impl_BreakOf_ok _ _) ?_; try (simp (disch := exact eqId (by kernel_rfl)) only [go_sem, ↓reduceIte, Nat.reduceAdd, Nat.reduceMul, Nat.reduceLT, Nat.reduceBEq, Nat.reduceLeDiff, Nat.reduceEqDiff, Int.reduceToNat])))
    all_goals (try omega)
    · rename_i hk hc
      rw [h2, drop_getD (show k < List.length r.2.2.2.2.1 by omega) (0, 0, 0, 0, 0, ()), rbF, if_pos hc]
    · rename_i hk hc
      have hk : k < List.length r.2.2.2.2.1 := by omega
      refine back_intro ((k + 1, mnF a (brkF ms (ks.getD (finF (fun x : tKey.den => x.1) (skyF l (List.getD r.2.2.2.2.1 k (0, 0, 0, 0, 0, ()))) ks 0).toNat (0, 0, 0, 0, 0, ())).2.2.1))) ?_ ?_ (sub_shp hN [] ?_)
      · refine ⟨hk, ?_⟩
        simp only
        rw [h2, drop_getD hk (0, 0, 0, 0, 0, ()), rbF, if_neg hc]
      · simp only; omega
      · simp (disch := exact eqId (by kernel_rfl)) only [go_sem, ↓reduceIte, Nat.reduceAdd, Nat.reduceMul, Nat.reduceLT, Nat.reduceBEq, Nat.reduceLeDiff, Nat.reduceEqDiff, Int.reduceToNat]
        first | exact ⟨rfl, wrap_succ hk hw.2.2.2.1.2.2.2.2.1.1⟩ | exact wrap_succ hk hw.2.2.2.1.2.2.2.2.1.1
    · rename_i hk
      rw [h2, drop_end (show List.length r.2.2.2.2.1 ≤ k by omega)]
      rfl
theorem spec_RenewalBreak_ok (ks : List tKey.den) (l : List tAuthority.den) (ms : List tMethod.den) (r : tRenewal.den) : FunOK Tryz.prog 130 [⟨(.list tKey), ks⟩, ⟨(.list tAuthority), l⟩, ⟨(.list tMethod), ms⟩, ⟨tRenewal, r⟩] (.rd I (rbF ks l ms (brkF ms r.2.1) r.2.2.2.2.1)) := by
  refine fun_of (tb := tb) follows Tryz.func130 (by kernel_rfl) Tryz.ntmps130 rfl rfl rfl ?_
  intro cx hN hw
  simp (disch := exact eqId (by kernel_rfl)) only [go_sem, ↓reduceIte, Nat.reduceAdd, Nat.reduceMul, Nat.reduceLT, Nat.reduceBEq, Nat.reduceLeDiff, Nat.reduceEqDiff, Int.reduceToNat]
  refine callQ_intro (spec_BreakOf_ok _ _) ?_
  simp (disch := exact eqId (by kernel_rfl)) only [go_sem, ↓reduceIte, Nat.reduceAdd, Nat.reduceMul, Nat.reduceLT, Nat.reduceBEq, Nat.reduceLeDiff, Nat.reduceEqDiff, Int.reduceToNat]
  refine loop_intro (tb := tb) follows hN (D := Nat × Int) (fun d => shp [(0, .rd (.list tKey) (ks)), (1, .rd (.list tAuthority) (l)), (2, .rd (.list tMethod) (ms)), (7, .bp 10000 0), (9, .rd I (d.2 : Int)), (10, .rd I (d.1 : Int))] [(10000, .box 97 [.rd I (r.1), .rd I (r.2.1), .rd I (r.2.2.1), .rd (.list tStep) (r.2.2.2.1), .rd (.list tStamp) (r.2.2.2.2.1)])]) (fun d => d.1 ≤ List.length r.2.2.2.2.1 ∧ rbF ks l ms (brkF ms r.2.1) r.2.2.2.2.1 = rbF ks l ms d.2 (List.drop d.1 r.2.2.2.2.1)) (fun d => List.length r.2.2.2.2.1 - d.1) ((0, brkF ms r.2.1)) ?_ (sub_shp hN [(10000, some 10000)] ?_) (fun d hd => ?_)
  · exact ⟨Nat.zero_le _, rfl⟩
  · simp (disch := exact eqId (by kernel_rfl)) only [go_sem, ↓reduceIte, Nat.reduceAdd, Nat.reduceMul, Nat.reduceLT, Nat.reduceBEq, Nat.reduceLeDiff, Nat.reduceEqDiff, Int.reduceToNat]
    try rfl
  · obtain ⟨k, a⟩ := d
    obtain ⟨h1, h2⟩ := hd
    simp only at h1 h2
    have hf := finF_lt (fun x : tKey.den => x.1) (skyF l (List.getD r.2.2.2.2.1 k (0, 0, 0, 0, 0, ()))) ks 0
    have hf2 := finF_lt (fun x : tKey.den => x.1) (skyF l ((List.getD r.2.2.2.2.1 k (0, 0, 0, 0, 0, ())).1, (List.getD r.2.2.2.2.1 k (0, 0, 0, 0, 0, ())).2.1, (List.getD r.2.2.2.2.1 k (0, 0, 0, 0, 0, ())).2.2.1, (List.getD r.2.2.2.2.1 k (0, 0, 0, 0, 0, ())).2.2.2.1, (List.getD r.2.2.2.2.1 k (0, 0, 0, 0, 0, ())).2.2.2.2.1, ())) ks 0
    simp (disch := exact eqId (by kernel_rfl)) only [go_sem, ↓reduceIte, Nat.reduceAdd, Nat.reduceMul, Nat.reduceLT, Nat.reduceBEq, Nat.reduceLeDiff, Nat.reduceEqDiff, Int.reduceToNat]
    repeat' (first | (refine And.intro ?_ ?_) | intro _ | (refine callQ_intro (spec_StampKey_ok _ _) ?_; try (simp (disch := exact eqId (by kernel_rfl)) only [go_sem, ↓reduceIte, Nat.reduceAdd, Nat.reduceMul, Nat.reduceLT, Nat.reduceBEq, Nat.reduceLeDiff, Nat.reduceEqDiff, Int.reduceToNat])) | (refine callH_intro (fun hcc => spec_StampKey_ok _ _) ?_; try (simp (disch := exact eqId (by kernel_rfl)) only [go_sem, ↓reduceIte, Nat.reduceAdd, Nat.reduceMul, Nat.reduceLT, Nat.reduceBEq, Nat.reduceLeDiff, Nat.reduceEqDiff, Int.reduceToNat])) | (refine callQ_intro (spec_FindKey_ok _ _) ?_; try (simp (disch := exact eqId (by kernel_rfl)) only [go_sem, ↓reduceIte, Nat.reduceAdd, Nat.reduceMul, Nat.reduceLT, Nat.reduceBEq, Nat.reduceLeDiff, Nat.reduceEqDiff, Int.reduceToNat])) | (refine callH_intro (fun hcc => spec_FindKey_ok _ _) ?_; try (simp (disch := exact eqId (by kernel_rfl)) only [go_sem, ↓reduceIte, Nat.reduceAdd, Nat.reduceMul, Nat.reduceLT, Nat.reduceBEq, Nat.reduceLeDiff, Nat.reduceEqDiff, Int.reduceToNat])) | (refine callQ_intro (spec_BreakOf_ok _ _) ?_; try (simp (disch := exact eqId (by kernel_rfl)) only [go_sem, ↓reduceIte, Nat.reduceAdd, Nat.reduceMul, Nat.reduceLT, Nat.reduceBEq, Nat.reduceLeDiff, Nat.reduceEqDiff, Int.reduceToNat])) | (refine callH_intro (fun hcc => spec_BreakOf_ok _ _) ?_; try (simp (disch := exact eqId (by kernel_rfl)) only [go_sem, ↓reduceIte, Nat.reduceAdd, Nat.reduceMul, Nat.reduceLT, Nat.reduceBEq, Nat.reduceLeDiff, Nat.reduceEqDiff, Int.reduceToNat])) | (refine callQ_intro (spec_Min_ok _ _) ?_; try (simp (disch := exact eqId (by kernel_rfl)) only [go_sem, ↓reduceIte, Nat.reduceAdd, Nat.reduceMul, Nat.reduceLT, Nat.reduceBEq, Nat.reduceLeDiff, Nat.reduceEqDiff, Int.reduceToNat])) | (refine callH_intro (fun hcc => spec_Min_ok _ _) ?_; try (simp (disch := exact eqId (by kernel_rfl)) only [go_sem, ↓reduceIte, Nat.reduceAdd, Nat.reduceMul, Nat.reduceLT, Nat.reduceBEq, Nat.reduceLeDiff, Nat.reduceEqDiff, Int.reduceToNat])))
    all_goals (try omega)
    · rename_i hk hc
      rw [h2, drop_getD (show k < List.length r.2.2.2.2.1 by omega) (0, 0, 0, 0, 0, ()), rbF, if_pos hc]
    · rename_i hk hc
      have hk : k < List.length r.2.2.2.2.1 := by omega
      refine back_intro ((k + 1, mnF a (brkF ms (ks.getD (finF (fun x : tKey.den => x.1) (skyF l (List.getD r.2.2.2.2.1 k (0, 0, 0, 0, 0, ()))) ks 0).toNat (0, 0, 0, 0, 0, ())).2.2.1))) ?_ ?_ (sub_shp hN [(10000, some 10000)] ?_)
      · refine ⟨hk, ?_⟩
        simp only
        rw [h2, drop_getD hk (0, 0, 0, 0, 0, ()), rbF, if_neg hc]
      · simp only; omega
      · simp (disch := exact eqId (by kernel_rfl)) only [go_sem, ↓reduceIte, Nat.reduceAdd, Nat.reduceMul, Nat.reduceLT, Nat.reduceBEq, Nat.reduceLeDiff, Nat.reduceEqDiff, Int.reduceToNat]
        first | exact ⟨rfl, wrap_succ hk hw.2.2.2.1.2.2.2.2.1.1⟩ | exact wrap_succ hk hw.2.2.2.1.2.2.2.2.1.1
    · rename_i hk
      rw [h2, drop_end (show List.length r.2.2.2.2.1 ≤ k by omega)]
      rfl
theorem small_ren {s : tStrand.den} (hs : Small tStrand 1048576 s) {k : Nat} (hk : k < List.length s.2.1) : List.length (List.getD s.2.1 k (0, 0, 0, [], [], ())).2.2.2.2.1 ≤ 1048576 := (hs.2.1.2 _ (getD_mem hk _)).2.2.2.2.1.1
noncomputable def linkF (f : tFrame.den) (s : tStrand.den) (k : Int) : Bool :=
  if 0 ≤ k ∧ k ≤ (List.length s.2.1 : Int) - 1 then
    (if k = (List.length s.2.1 : Int) - 1 then decide ((f.2.2.2.2.1 : Int) < rbF f.1 f.2.1 f.2.2.1 (brkF f.2.2.1 (List.getD s.2.1 k.toNat (0, 0, 0, [], [], ())).2.1) (List.getD s.2.1 k.toNat (0, 0, 0, [], [], ())).2.2.2.2.1)
    else (agoF f.2.1 (List.getD s.2.1 (k + 1).toNat (0, 0, 0, [], [], ())).2.2.2.2.1 f.2.2.2.1).2 && decide ((agoF f.2.1 (List.getD s.2.1 (k + 1).toNat (0, 0, 0, [], [], ())).2.2.2.2.1 f.2.2.2.1).1.2.1 < rbF f.1 f.2.1 f.2.2.1 (brkF f.2.2.1 (List.getD s.2.1 k.toNat (0, 0, 0, [], [], ())).2.1) (List.getD s.2.1 k.toNat (0, 0, 0, [], [], ())).2.2.2.2.1))
  else false
noncomputable def ffF (ks : List tKey.den) (l : List tAuthority.den) (s : tStrand.den) (docs : List Int) : Nat → List tRenewal.den → Int
  | k, [] => k
  | k, r :: rs => if crF ks l r (laF s docs k) = true then ffF ks l s docs (k + 1) rs else k
theorem impl_spanOf_ok (f : tFrame.den) (r : tRenewal.den) (hs : List.length r.2.2.2.2.1 ≤ 1048576) : FunOK Tryz.prog 50 [⟨tFrame, f⟩, ⟨tRenewal, r⟩] (.tup [.rd tSpan (agoF f.2.1 r.2.2.2.2.1 f.2.2.2.1).1, .rd .bool (agoF f.2.1 r.2.2.2.2.1 f.2.2.2.1).2]) := by
  refine fun_of (tb := tb) follows Tryz.func50 (by kernel_rfl) Tryz.ntmps50 rfl rfl rfl ?_
  intro cx hN hw
  simp (disch := exact eqId (by kernel_rfl)) only [go_sem, ↓reduceIte, Nat.reduceAdd, Nat.reduceMul, Nat.reduceLT, Nat.reduceBEq, Nat.reduceLeDiff, Nat.reduceEqDiff, Int.reduceToNat]
  repeat' (first | (refine And.intro ?_ ?_) | intro _ | (refine callQ_intro (impl_RenewalSpan_ok _ _ _ hs) ?_; try (simp (disch := exact eqId (by kernel_rfl)) only [go_sem, ↓reduceIte, Nat.reduceAdd, Nat.reduceMul, Nat.reduceLT, Nat.reduceBEq, Nat.reduceLeDiff, Nat.reduceEqDiff, Int.reduceToNat])) | (refine callH_intro (fun hcc => impl_RenewalSpan_ok _ _ _ hs) ?_; try (simp (disch := exact eqId (by kernel_rfl)) only [go_sem, ↓reduceIte, Nat.reduceAdd, Nat.reduceMul, Nat.reduceLT, Nat.reduceBEq, Nat.reduceLeDiff, Nat.reduceEqDiff, Int.reduceToNat])))
  all_goals (try rfl)
theorem impl_LinkHolds_ok (f : tFrame.den) (s : tStrand.den) (k : Int) (hs : Small tStrand 1048576 s) : FunOK Tryz.prog 74 [⟨tFrame, f⟩, ⟨tStrand, s⟩, ⟨I, k⟩] (.rd .bool (linkF f s k)) := by
  have q1 : List.length s.2.1 ≤ 1048576 := hs.2.1.1
  have e1 : IntKind.i64.wrap ((List.length s.2.1 : Int) - 1) = (List.length s.2.1 : Int) - 1 := wrap_i64 (by omega) (by omega)
  have e2 : 0 ≤ k → k ≤ 1048576 → IntKind.i64.wrap (k + 1) = k + 1 := fun h1 h2 => wrap_i64 (by omega) (by omega)
  refine fun_of (tb := tb) follows Tryz.func74 (by kernel_rfl) Tryz.ntmps74 rfl rfl rfl ?_
  intro cx hN hw
  simp (disch := exact eqId (by kernel_rfl)) only [go_sem, ↓reduceIte, Nat.reduceAdd, Nat.reduceMul, Nat.reduceLT, Nat.reduceBEq, Nat.reduceLeDiff, Nat.reduceEqDiff, Int.reduceToNat, e1]
  repeat' (first | (refine And.intro ?_ ?_) | intro _ | (refine callQ_intro (inRange_ok _ _ _) ?_; try (simp (disch := exact eqId (by kernel_rfl)) only [go_sem, ↓reduceIte, Nat.reduceAdd, Nat.reduceMul, Nat.reduceLT, Nat.reduceBEq, Nat.reduceLeDiff, Nat.reduceEqDiff, Int.reduceToNat])) | (refine callH_intro (fun hcc => inRange_ok _ _ _) ?_; try (simp (disch := exact eqId (by kernel_rfl)) only [go_sem, ↓reduceIte, Nat.reduceAdd, Nat.reduceMul, Nat.reduceLT, Nat.reduceBEq, Nat.reduceLeDiff, Nat.reduceEqDiff, Int.reduceToNat])) | (refine callQ_intro (impl_RenewalBreak_ok _ _ _ _) ?_; try (simp (disch := exact eqId (by kernel_rfl)) only [go_sem, ↓reduceIte, Nat.reduceAdd, Nat.reduceMul, Nat.reduceLT, Nat.reduceBEq, Nat.reduceLeDiff, Nat.reduceEqDiff, Int.reduceToNat])) | (refine callH_intro (fun hcc => impl_RenewalBreak_ok _ _ _ _) ?_; try (simp (disch := exact eqId (by kernel_rfl)) only [go_sem, ↓reduceIte, Nat.reduceAdd, Nat.reduceMul, Nat.reduceLT, Nat.reduceBEq, Nat.reduceLeDiff, Nat.reduceEqDiff, Int.reduceToNat])))
  all_goals (try omega)
  · rename_i h1
    unfold linkF
    rw [if_neg (by omega)]
  · rename_i h1 h2
    rw [e1] at h2
    unfold linkF
    rw [if_pos h1, if_pos h2]
  · rename_i h1 h2
    rw [e1] at h2
    rw [e2 h1.1 (by omega)]
    refine callQ_intro (impl_spanOf_ok _ _ (small_ren hs (by omega))) ?_
    simp (disch := exact eqId (by kernel_rfl)) only [go_sem, ↓reduceIte, Nat.reduceAdd, Nat.reduceMul, Nat.reduceLT, Nat.reduceBEq, Nat.reduceLeDiff, Nat.reduceEqDiff, Int.reduceToNat]
    repeat' (first | (refine And.intro ?_ ?_) | intro _)
    all_goals (try omega)
    all_goals
      unfold linkF
      rw [if_pos h1, if_neg h2]
theorem spec_LinkHolds_ok (f : tFrame.den) (s : tStrand.den) (k : Int) (hs : Small tStrand 1048576 s) : FunOK Tryz.prog 102 [⟨tFrame, f⟩, ⟨tStrand, s⟩, ⟨I, k⟩] (.rd .bool (linkF f s k)) := by
  have q1 : List.length s.2.1 ≤ 1048576 := hs.2.1.1
  have e1 : IntKind.i64.wrap ((List.length s.2.1 : Int) - 1) = (List.length s.2.1 : Int) - 1 := wrap_i64 (by omega) (by omega)
  have e2 : 0 ≤ k → k ≤ 1048576 → IntKind.i64.wrap (k + 1) = k + 1 := fun h1 h2 => wrap_i64 (by omega) (by omega)
  refine fun_of (tb := tb) follows Tryz.func102 (by kernel_rfl) Tryz.ntmps102 rfl rfl rfl ?_
  intro cx hN hw
  simp (disch := exact eqId (by kernel_rfl)) only [go_sem, ↓reduceIte, Nat.reduceAdd, Nat.reduceMul, Nat.reduceLT, Nat.reduceBEq, Nat.reduceLeDiff, Nat.reduceEqDiff, Int.reduceToNat, e1]
  repeat' (first | (refine And.intro ?_ ?_) | intro _ | (refine callQ_intro (l1In_ok _ _ _) ?_; try (simp (disch := exact eqId (by kernel_rfl)) only [go_sem, ↓reduceIte, Nat.reduceAdd, Nat.reduceMul, Nat.reduceLT, Nat.reduceBEq, Nat.reduceLeDiff, Nat.reduceEqDiff, Int.reduceToNat])) | (refine callH_intro (fun hcc => l1In_ok _ _ _) ?_; try (simp (disch := exact eqId (by kernel_rfl)) only [go_sem, ↓reduceIte, Nat.reduceAdd, Nat.reduceMul, Nat.reduceLT, Nat.reduceBEq, Nat.reduceLeDiff, Nat.reduceEqDiff, Int.reduceToNat])) | (refine callQ_intro (spec_RenewalBreak_ok _ _ _ _) ?_; try (simp (disch := exact eqId (by kernel_rfl)) only [go_sem, ↓reduceIte, Nat.reduceAdd, Nat.reduceMul, Nat.reduceLT, Nat.reduceBEq, Nat.reduceLeDiff, Nat.reduceEqDiff, Int.reduceToNat])) | (refine callH_intro (fun hcc => spec_RenewalBreak_ok _ _ _ _) ?_; try (simp (disch := exact eqId (by kernel_rfl)) only [go_sem, ↓reduceIte, Nat.reduceAdd, Nat.reduceMul, Nat.reduceLT, Nat.reduceBEq, Nat.reduceLeDiff, Nat.reduceEqDiff, Int.reduceToNat])))
  all_goals (try omega)
  · rename_i h1
    unfold linkF
    rw [if_neg (by omega)]
  · rename_i h1 h2
    rw [e1] at h2
    unfold linkF
    rw [if_pos h1, if_pos h2]
  · rename_i h1 h2
    rw [e1] at h2
    rw [e2 h1.1 (by omega)]
    refine callQ_intro (spec_RenewalSpan_ok _ _ _ (small_ren hs (by omega))) ?_
    simp (disch := exact eqId (by kernel_rfl)) only [go_sem, ↓reduceIte, Nat.reduceAdd, Nat.reduceMul, Nat.reduceLT, Nat.reduceBEq, Nat.reduceLeDiff, Nat.reduceEqDiff, Int.reduceToNat]
    repeat' (first | (refine And.intro ?_ ?_) | intro _)
    all_goals (try omega)
    all_goals
      unfold linkF
      rw [if_pos h1, if_neg h2]
end Go.Proofs.YtkneckknjmahdaaGreat
