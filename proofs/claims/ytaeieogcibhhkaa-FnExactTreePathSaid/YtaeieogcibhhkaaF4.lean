/- What the functions of trees, pieces and renewals answer, on both sides. It proves nothing of a statement by itself. -/
import Derived.Test.YtaeieogcibhhkaaF3
set_option linter.unusedSimpArgs false
set_option linter.unusedVariables false
set_option maxRecDepth 100000
namespace Go.Proofs.Ytaeieogcibhhkaa
open Go.AL
theorem impl_EqualInts_ok (a b : List (I : Ty).den) : FunOK Try.prog 118 [⟨(.list I), a⟩, ⟨(.list I), b⟩] (.rd .bool (eqC a b)) := by
  refine fun_of (tb := tb) follows Try.func118 (by kernel_rfl) Try.ntmps118 rfl rfl rfl ?_
  intro cx hN hw
  simp (disch := exact eqId (by kernel_rfl)) only [go_sem, ↓reduceIte, Nat.reduceAdd, Nat.reduceMul, Nat.reduceLT, Nat.reduceBEq, Nat.reduceLeDiff, Nat.reduceEqDiff, Int.reduceToNat]
  repeat' (first | (refine And.intro ?_ ?_) | intro _)
  all_goals (try omega)
  · refine Eq.symm (eqC_f.mpr ?_); rintro rfl; simp_all
  · have hl : a.length = b.length := by omega
    refine loop_intro (tb := tb) follows hN (D := Nat) (fun d => shp [(0, .rd (.list I) (a)), (1, .rd (.list I) (b)), (12, .rd I (((a).length : Int) : Int)), (13, .rd I (d : Int))] []) (fun d => d ≤ a.length ∧ a.take d = b.take d) (fun d => a.length - d) (0) ?_ (sub_shp hN [] ?_) (fun d hd => ?_)
    · exact ⟨Nat.zero_le _, rfl⟩
    · simp (disch := exact eqId (by kernel_rfl)) only [go_sem, ↓reduceIte, Nat.reduceAdd, Nat.reduceMul, Nat.reduceLT, Nat.reduceBEq, Nat.reduceLeDiff, Nat.reduceEqDiff, Int.reduceToNat]
      rfl
    · obtain ⟨h1, h2⟩ := hd
      simp (disch := exact eqId (by kernel_rfl)) only [go_sem, ↓reduceIte, Nat.reduceAdd, Nat.reduceMul, Nat.reduceLT, Nat.reduceBEq, Nat.reduceLeDiff, Nat.reduceEqDiff, Int.reduceToNat]
      repeat' (first | (refine And.intro ?_ ?_) | intro _)
      all_goals (try omega)
      · rename_i hk hne
        refine Eq.symm (eqC_f.mpr ?_)
        rintro rfl
        simp_all [eqC_f]
      · rename_i hk he
        have hk : d < a.length := by omega
        refine back_intro (d + 1) ?_ ?_ (sub_shp hN [] ?_)
        · refine ⟨hk, ?_⟩
          rw [take_getD hk (0 : (I : Ty).den), take_getD (show d < b.length by omega) (0 : (I : Ty).den), h2]
          try simp only [eqC_t] at he
          first | rw [he] | (simp_all; done)
        · omega
        · simp (disch := exact eqId (by kernel_rfl)) only [go_sem, ↓reduceIte, Nat.reduceAdd, Nat.reduceMul, Nat.reduceLT, Nat.reduceBEq, Nat.reduceLeDiff, Nat.reduceEqDiff, Int.reduceToNat]
          exact wrap_succ hk hw.1.1
      · have hk : d = a.length := by omega
        refine Eq.symm (eqC_t.mpr ?_)
        rw [hk, List.take_length, hl, List.take_length] at h2
        exact h2
theorem spec_EqualInts_ok (a b : List (I : Ty).den) : FunOK Try.prog 117 [⟨(.list I), a⟩, ⟨(.list I), b⟩] (.rd .bool (eqC a b)) := by
  refine fun_of (tb := tb) follows Try.func117 (by kernel_rfl) Try.ntmps117 rfl rfl rfl ?_
  intro cx hN hw
  simp (disch := exact eqId (by kernel_rfl)) only [go_sem, ↓reduceIte, Nat.reduceAdd, Nat.reduceMul, Nat.reduceLT, Nat.reduceBEq, Nat.reduceLeDiff, Nat.reduceEqDiff, Int.reduceToNat]
  repeat' (first | (refine And.intro ?_ ?_) | intro _)
  all_goals (try omega)
  · refine Eq.symm (eqC_f.mpr ?_); rintro rfl; simp_all
  · have hl : a.length = b.length := by omega
    refine loop_intro (tb := tb) follows hN (D := Nat) (fun d => shp [(0, .rd (.list I) (a)), (1, .rd (.list I) (b)), (5, .rd I (d : Int))] []) (fun d => d ≤ a.length ∧ a.take d = b.take d) (fun d => a.length - d) (0) ?_ (sub_shp hN [] ?_) (fun d hd => ?_)
    · exact ⟨Nat.zero_le _, rfl⟩
    · simp (disch := exact eqId (by kernel_rfl)) only [go_sem, ↓reduceIte, Nat.reduceAdd, Nat.reduceMul, Nat.reduceLT, Nat.reduceBEq, Nat.reduceLeDiff, Nat.reduceEqDiff, Int.reduceToNat]
      rfl
    · obtain ⟨h1, h2⟩ := hd
      simp (disch := exact eqId (by kernel_rfl)) only [go_sem, ↓reduceIte, Nat.reduceAdd, Nat.reduceMul, Nat.reduceLT, Nat.reduceBEq, Nat.reduceLeDiff, Nat.reduceEqDiff, Int.reduceToNat]
      repeat' (first | (refine And.intro ?_ ?_) | intro _)
      all_goals (try omega)
      · rename_i hk hne
        refine Eq.symm (eqC_f.mpr ?_)
        rintro rfl
        simp_all [eqC_f]
      · rename_i hk he
        have hk : d < a.length := by omega
        refine back_intro (d + 1) ?_ ?_ (sub_shp hN [] ?_)
        · refine ⟨hk, ?_⟩
          rw [take_getD hk (0 : (I : Ty).den), take_getD (show d < b.length by omega) (0 : (I : Ty).den), h2]
          try simp only [eqC_t] at he
          first | rw [he] | (simp_all; done)
        · omega
        · simp (disch := exact eqId (by kernel_rfl)) only [go_sem, ↓reduceIte, Nat.reduceAdd, Nat.reduceMul, Nat.reduceLT, Nat.reduceBEq, Nat.reduceLeDiff, Nat.reduceEqDiff, Int.reduceToNat]
          exact wrap_succ hk hw.1.1
      · have hk : d = a.length := by omega
        refine Eq.symm (eqC_t.mpr ?_)
        rw [hk, List.take_length, hl, List.take_length] at h2
        exact h2
theorem impl_equalStamps_ok (a b : List (tStamp : Ty).den) : FunOK Try.prog 128 [⟨(.list tStamp), a⟩, ⟨(.list tStamp), b⟩] (.rd .bool (eqC a b)) := by
  refine fun_of (tb := tb) follows Try.func128 (by kernel_rfl) Try.ntmps128 rfl rfl rfl ?_
  intro cx hN hw
  simp (disch := exact eqId (by kernel_rfl)) only [go_sem, ↓reduceIte, Nat.reduceAdd, Nat.reduceMul, Nat.reduceLT, Nat.reduceBEq, Nat.reduceLeDiff, Nat.reduceEqDiff, Int.reduceToNat]
  repeat' (first | (refine And.intro ?_ ?_) | intro _)
  all_goals (try omega)
  · refine Eq.symm (eqC_f.mpr ?_); rintro rfl; simp_all
  · have hl : a.length = b.length := by omega
    refine loop_intro (tb := tb) follows hN (D := Nat) (fun d => shp [(0, .rd (.list tStamp) (a)), (1, .rd (.list tStamp) (b)), (12, .rd I (((a).length : Int) : Int)), (13, .rd I (d : Int))] []) (fun d => d ≤ a.length ∧ a.take d = b.take d) (fun d => a.length - d) (0) ?_ (sub_shp hN [] ?_) (fun d hd => ?_)
    · exact ⟨Nat.zero_le _, rfl⟩
    · simp (disch := exact eqId (by kernel_rfl)) only [go_sem, ↓reduceIte, Nat.reduceAdd, Nat.reduceMul, Nat.reduceLT, Nat.reduceBEq, Nat.reduceLeDiff, Nat.reduceEqDiff, Int.reduceToNat]
      rfl
    · obtain ⟨h1, h2⟩ := hd
      simp (disch := exact eqId (by kernel_rfl)) only [go_sem, ↓reduceIte, Nat.reduceAdd, Nat.reduceMul, Nat.reduceLT, Nat.reduceBEq, Nat.reduceLeDiff, Nat.reduceEqDiff, Int.reduceToNat]
      repeat' (first | (refine And.intro ?_ ?_) | intro _)
      all_goals (try omega)
      · rename_i hk hne
        refine Eq.symm (eqC_f.mpr ?_)
        rintro rfl
        simp_all [eqC_f]
      · rename_i hk he
        have hk : d < a.length := by omega
        refine back_intro (d + 1) ?_ ?_ (sub_shp hN [] ?_)
        · refine ⟨hk, ?_⟩
          rw [take_getD hk ((0, 0, 0, 0, 0, ()) : (tStamp : Ty).den), take_getD (show d < b.length by omega) ((0, 0, 0, 0, 0, ()) : (tStamp : Ty).den), h2]
          try simp only [eqC_t] at he
          first | rw [he] | (simp_all; done)
        · omega
        · simp (disch := exact eqId (by kernel_rfl)) only [go_sem, ↓reduceIte, Nat.reduceAdd, Nat.reduceMul, Nat.reduceLT, Nat.reduceBEq, Nat.reduceLeDiff, Nat.reduceEqDiff, Int.reduceToNat]
          exact wrap_succ hk hw.1.1
      · have hk : d = a.length := by omega
        refine Eq.symm (eqC_t.mpr ?_)
        rw [hk, List.take_length, hl, List.take_length] at h2
        exact h2
theorem impl_EqualPieces_ok (a b : tPiece.den) : FunOK Try.prog 55 [⟨tPiece, a⟩, ⟨tPiece, b⟩] (.rd .bool (eqC a b)) := by
  obtain ⟨a0, a1, a2, au⟩ := a
  obtain ⟨b0, b1, b2, bu⟩ := b
  refine fun_of (tb := tb) follows Try.func55 (by kernel_rfl) Try.ntmps55 rfl rfl rfl ?_
  intro cx hN hw
  simp (disch := exact eqId (by kernel_rfl)) only [go_sem, ↓reduceIte, Nat.reduceAdd, Nat.reduceMul, Nat.reduceLT, Nat.reduceBEq, Nat.reduceLeDiff, Nat.reduceEqDiff, Int.reduceToNat]
  repeat' (first | (refine And.intro ?_ ?_) | intro _ | (refine callQ_intro (impl_EqualInts_ok _ _) ?_; try (simp (disch := exact eqId (by kernel_rfl)) only [go_sem, ↓reduceIte, Nat.reduceAdd, Nat.reduceMul, Nat.reduceLT, Nat.reduceBEq, Nat.reduceLeDiff, Nat.reduceEqDiff, Int.reduceToNat])) | (refine callH_intro (fun hcc => impl_EqualInts_ok _ _) ?_; try (simp (disch := exact eqId (by kernel_rfl)) only [go_sem, ↓reduceIte, Nat.reduceAdd, Nat.reduceMul, Nat.reduceLT, Nat.reduceBEq, Nat.reduceLeDiff, Nat.reduceEqDiff, Int.reduceToNat])))
  rw [eqC_prod, eqC_prod, eqC_prod, eqC_unit, eqC_beq_int, eqC_beq_int]
  simp only [Bool.and_true, Bool.and_assoc]
  cases (a0 == b0) <;> cases (a2 == b2) <;> simp
theorem spec_EqualPieces_ok (a b : tPiece.den) : FunOK Try.prog 54 [⟨tPiece, a⟩, ⟨tPiece, b⟩] (.rd .bool (eqC a b)) := by
  obtain ⟨a0, a1, a2, au⟩ := a
  obtain ⟨b0, b1, b2, bu⟩ := b
  refine fun_of (tb := tb) follows Try.func54 (by kernel_rfl) Try.ntmps54 rfl rfl rfl ?_
  intro cx hN hw
  simp (disch := exact eqId (by kernel_rfl)) only [go_sem, ↓reduceIte, Nat.reduceAdd, Nat.reduceMul, Nat.reduceLT, Nat.reduceBEq, Nat.reduceLeDiff, Nat.reduceEqDiff, Int.reduceToNat]
  repeat' (first | (refine And.intro ?_ ?_) | intro _ | (refine callQ_intro (spec_EqualInts_ok _ _) ?_; try (simp (disch := exact eqId (by kernel_rfl)) only [go_sem, ↓reduceIte, Nat.reduceAdd, Nat.reduceMul, Nat.reduceLT, Nat.reduceBEq, Nat.reduceLeDiff, Nat.reduceEqDiff, Int.reduceToNat])) | (refine callH_intro (fun hcc => spec_EqualInts_ok _ _) ?_; try (simp (disch := exact eqId (by kernel_rfl)) only [go_sem, ↓reduceIte, Nat.reduceAdd, Nat.reduceMul, Nat.reduceLT, Nat.reduceBEq, Nat.reduceLeDiff, Nat.reduceEqDiff, Int.reduceToNat])))
  rw [eqC_prod, eqC_prod, eqC_prod, eqC_unit, eqC_beq_int, eqC_beq_int]
  simp only [Bool.and_true, Bool.and_assoc]
  cases (a0 == b0) <;> cases (a2 == b2) <;> simp
def befF : List Int → List Int → Int → Int → Int → Int → Bool
  | x :: xs, y :: ys, k, l, m, n => if x ≠ y then decide (x < y) else befF xs ys k l m n
  | xs, ys, k, l, m, n => if xs.length ≠ ys.length then decide (xs.length < ys.length) else if k ≠ l then decide (k < l) else decide (m < n)
theorem befF_end (xs ys : List Int) (k l m n : Int) (h : xs.length = 0 ∨ ys.length = 0) : befF xs ys k l m n = if xs.length ≠ ys.length then decide (xs.length < ys.length) else if k ≠ l then decide (k < l) else decide (m < n) := by
  cases xs with
  | nil => unfold befF; rfl
  | cons x xs =>
    cases ys with
    | nil => unfold befF; rfl
    | cons y ys => simp at h
theorem impl_PieceBefore_ok (a b : tPiece.den) : FunOK Try.prog 53 [⟨tPiece, a⟩, ⟨tPiece, b⟩] (.rd .bool (befF a.2.1 b.2.1 a.1 b.1 a.2.2.1 b.2.2.1)) := by
  refine fun_of (tb := tb) follows Try.func53 (by kernel_rfl) Try.ntmps53 rfl rfl rfl ?_
  intro cx hN hw
  simp (disch := exact eqId (by kernel_rfl)) only [go_sem, ↓reduceIte, Nat.reduceAdd, Nat.reduceMul, Nat.reduceLT, Nat.reduceBEq, Nat.reduceLeDiff, Nat.reduceEqDiff, Int.reduceToNat]
  refine loop_intro (tb := tb) follows hN (D := Nat) (fun d => shp [(2, .bp 10000 0), (3, .bp 10016 0), (5, .rd I (d : Int))] [(10000, .box 30 [.rd I (a.1), .rd (.list I) (a.2.1), .rd I (a.2.2.1)]), (10016, .box 30 [.rd I (b.1), .rd (.list I) (b.2.1), .rd I (b.2.2.1)])]) (fun d => d ≤ a.2.1.length ∧ d ≤ b.2.1.length ∧ befF a.2.1 b.2.1 a.1 b.1 a.2.2.1 b.2.2.1 = befF (a.2.1.drop d) (b.2.1.drop d) a.1 b.1 a.2.2.1 b.2.2.1) (fun d => a.2.1.length - d) (0) ?_ (sub_shp hN [(10000, some 10000), (10016, some 10016)] ?_) (fun d hd => ?_)
  · exact ⟨Nat.zero_le _, Nat.zero_le _, rfl⟩
  · simp (disch := exact eqId (by kernel_rfl)) only [go_sem, ↓reduceIte, Nat.reduceAdd, Nat.reduceMul, Nat.reduceLT, Nat.reduceBEq, Nat.reduceLeDiff, Nat.reduceEqDiff, Int.reduceToNat]
    rfl
  · obtain ⟨h1, h2, h3⟩ := hd
    simp (disch := exact eqId (by kernel_rfl)) only [go_sem, ↓reduceIte, Nat.reduceAdd, Nat.reduceMul, Nat.reduceLT, Nat.reduceBEq, Nat.reduceLeDiff, Nat.reduceEqDiff, Int.reduceToNat]
    repeat' (first | (refine And.intro ?_ ?_) | intro _)
    all_goals (try omega)
    · rename_i hk hne
      rw [h3, drop_getD (show d < a.2.1.length by omega) 0, drop_getD (show d < b.2.1.length by omega) 0, befF, if_pos hne]
    · rename_i hk he
      refine back_intro (d + 1) ?_ ?_ (sub_shp hN [(10000, some 10000), (10016, some 10016)] ?_)
      · refine ⟨by omega, by omega, ?_⟩
        rw [h3, drop_getD (show d < a.2.1.length by omega) 0, drop_getD (show d < b.2.1.length by omega) 0, befF, if_neg (by simpa using he)]
      · omega
      · simp (disch := exact eqId (by kernel_rfl)) only [go_sem, ↓reduceIte, Nat.reduceAdd, Nat.reduceMul, Nat.reduceLT, Nat.reduceBEq, Nat.reduceLeDiff, Nat.reduceEqDiff, Int.reduceToNat]
        exact wrap_succ (show d < a.2.1.length by omega) hw.1.2.1.1
    all_goals
      have hx := befF_end (a.2.1.drop d) (b.2.1.drop d) a.1 b.1 a.2.2.1 b.2.2.1 (by rw [List.length_drop, List.length_drop]; omega)
      rw [List.length_drop, List.length_drop] at hx
      rw [h3, hx]
    · rw [if_pos (by omega)]
      exact decide_eq_decide.mpr (by omega)
    · rw [if_neg (by omega), if_pos (by assumption)]
    · rw [if_neg (by omega), if_neg (by simpa using by assumption)]
theorem spec_PieceBefore_ok (a b : tPiece.den) : FunOK Try.prog 52 [⟨tPiece, a⟩, ⟨tPiece, b⟩] (.rd .bool (befF a.2.1 b.2.1 a.1 b.1 a.2.2.1 b.2.2.1)) := by
  refine fun_of (tb := tb) follows Try.func52 (by kernel_rfl) Try.ntmps52 rfl rfl rfl ?_
  intro cx hN hw
  simp (disch := exact eqId (by kernel_rfl)) only [go_sem, ↓reduceIte, Nat.reduceAdd, Nat.reduceMul, Nat.reduceLT, Nat.reduceBEq, Nat.reduceLeDiff, Nat.reduceEqDiff, Int.reduceToNat]
  refine loop_intro (tb := tb) follows hN (D := Nat) (fun d => shp [(2, .bp 10000 0), (3, .bp 10016 0), (5, .rd I (d : Int))] [(10000, .box 30 [.rd I (a.1), .rd (.list I) (a.2.1), .rd I (a.2.2.1)]), (10016, .box 30 [.rd I (b.1), .rd (.list I) (b.2.1), .rd I (b.2.2.1)])]) (fun d => d ≤ a.2.1.length ∧ d ≤ b.2.1.length ∧ befF a.2.1 b.2.1 a.1 b.1 a.2.2.1 b.2.2.1 = befF (a.2.1.drop d) (b.2.1.drop d) a.1 b.1 a.2.2.1 b.2.2.1) (fun d => a.2.1.length - d) (0) ?_ (sub_shp hN [(10000, some 10000), (10016, some 10016)] ?_) (fun d hd => ?_)
  · exact ⟨Nat.zero_le _, Nat.zero_le _, rfl⟩
  · simp (disch := exact eqId (by kernel_rfl)) only [go_sem, ↓reduceIte, Nat.reduceAdd, Nat.reduceMul, Nat.reduceLT, Nat.reduceBEq, Nat.reduceLeDiff, Nat.reduceEqDiff, Int.reduceToNat]
    rfl
  · obtain ⟨h1, h2, h3⟩ := hd
    simp (disch := exact eqId (by kernel_rfl)) only [go_sem, ↓reduceIte, Nat.reduceAdd, Nat.reduceMul, Nat.reduceLT, Nat.reduceBEq, Nat.reduceLeDiff, Nat.reduceEqDiff, Int.reduceToNat]
    repeat' (first | (refine And.intro ?_ ?_) | intro _)
    all_goals (try omega)
    · rename_i hk hne
      rw [h3, drop_getD (show d < a.2.1.length by omega) 0, drop_getD (show d < b.2.1.length by omega) 0, befF, if_pos hne]
    · rename_i hk he
      refine back_intro (d + 1) ?_ ?_ (sub_shp hN [(10000, some 10000), (10016, some 10016)] ?_)
      · refine ⟨by omega, by omega, ?_⟩
        rw [h3, drop_getD (show d < a.2.1.length by omega) 0, drop_getD (show d < b.2.1.length by omega) 0, befF, if_neg (by simpa using he)]
      · omega
      · simp (disch := exact eqId (by kernel_rfl)) only [go_sem, ↓reduceIte, Nat.reduceAdd, Nat.reduceMul, Nat.reduceLT, Nat.reduceBEq, Nat.reduceLeDiff, Nat.reduceEqDiff, Int.reduceToNat]
        exact wrap_succ (show d < a.2.1.length by omega) hw.1.2.1.1
    all_goals
      have hx := befF_end (a.2.1.drop d) (b.2.1.drop d) a.1 b.1 a.2.2.1 b.2.2.1 (by rw [List.length_drop, List.length_drop]; omega)
      rw [List.length_drop, List.length_drop] at hx
      rw [h3, hx]
    · rw [if_pos (by omega)]
      exact decide_eq_decide.mpr (by omega)
    · rw [if_neg (by omega), if_pos (by assumption)]
    · rw [if_neg (by omega), if_neg (by simpa using by assumption)]
end Go.Proofs.Ytaeieogcibhhkaa
