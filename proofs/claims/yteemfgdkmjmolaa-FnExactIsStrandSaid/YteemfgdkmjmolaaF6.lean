/- What the functions of strands and evidence answer, on both sides. It proves nothing of a statement by itself. -/
import Derived.Test.YteemfgdkmjmolaaF5
set_option linter.unusedSimpArgs false
set_option linter.unusedVariables false
set_option maxRecDepth 100000
namespace Go.Proofs.Yteemfgdkmjmolaa
open Go.AL
theorem impl_equalPieceLists_ok (a b : List (tPiece : Ty).den) : FunOK Try.prog 166 [⟨(.list tPiece), a⟩, ⟨(.list tPiece), b⟩] (.rd .bool (eqC a b)) := by
  refine fun_of (tb := tb) follows Try.func166 (by kernel_rfl) Try.ntmps166 rfl rfl rfl ?_
  intro cx hN hw
  simp (disch := exact eqId (by kernel_rfl)) only [go_sem, ↓reduceIte, Nat.reduceAdd, Nat.reduceMul, Nat.reduceLT, Nat.reduceBEq, Nat.reduceLeDiff, Nat.reduceEqDiff, Int.reduceToNat]
  repeat' (first | (refine And.intro ?_ ?_) | intro _)
  all_goals (try omega)
  · refine Eq.symm (eqC_f.mpr ?_); rintro rfl; simp_all
  · have hl : a.length = b.length := by omega
    refine loop_intro (tb := tb) follows hN (D := Nat) (fun d => shp [(0, .rd (.list tPiece) (a)), (1, .rd (.list tPiece) (b)), (12, .rd I (((a).length : Int) : Int)), (13, .rd I (d : Int))] []) (fun d => d ≤ a.length ∧ a.take d = b.take d) (fun d => a.length - d) (0) ?_ (sub_shp hN [] ?_) (fun d hd => ?_)
    · exact ⟨Nat.zero_le _, rfl⟩
    · simp (disch := exact eqId (by kernel_rfl)) only [go_sem, ↓reduceIte, Nat.reduceAdd, Nat.reduceMul, Nat.reduceLT, Nat.reduceBEq, Nat.reduceLeDiff, Nat.reduceEqDiff, Int.reduceToNat]
      rfl
    · obtain ⟨h1, h2⟩ := hd
      simp (disch := exact eqId (by kernel_rfl)) only [go_sem, ↓reduceIte, Nat.reduceAdd, Nat.reduceMul, Nat.reduceLT, Nat.reduceBEq, Nat.reduceLeDiff, Nat.reduceEqDiff, Int.reduceToNat]
      repeat' (first | (refine And.intro ?_ ?_) | intro _ | (refine callQ_intro (impl_EqualPieces_ok _ _) ?_; try (simp (disch := exact eqId (by kernel_rfl)) only [go_sem, ↓reduceIte, Nat.reduceAdd, Nat.reduceMul, Nat.reduceLT, Nat.reduceBEq, Nat.reduceLeDiff, Nat.reduceEqDiff, Int.reduceToNat])) | (refine callH_intro (fun hcc => impl_EqualPieces_ok _ _) ?_; try (simp (disch := exact eqId (by kernel_rfl)) only [go_sem, ↓reduceIte, Nat.reduceAdd, Nat.reduceMul, Nat.reduceLT, Nat.reduceBEq, Nat.reduceLeDiff, Nat.reduceEqDiff, Int.reduceToNat])))
      all_goals (try omega)
      · rename_i hk hne
        refine Eq.symm (eqC_f.mpr ?_)
        rintro rfl
        simp_all [eqC_f]
      · rename_i hk he
        have hk : d < a.length := by omega
        refine back_intro (d + 1) ?_ ?_ (sub_shp hN [] ?_)
        · refine ⟨hk, ?_⟩
          rw [take_getD hk ((0, [], 0, ()) : (tPiece : Ty).den), take_getD (show d < b.length by omega) ((0, [], 0, ()) : (tPiece : Ty).den), h2]
          try simp only [eqC_t] at he
          first | rw [he] | (simp_all; done)
        · omega
        · simp (disch := exact eqId (by kernel_rfl)) only [go_sem, ↓reduceIte, Nat.reduceAdd, Nat.reduceMul, Nat.reduceLT, Nat.reduceBEq, Nat.reduceLeDiff, Nat.reduceEqDiff, Int.reduceToNat]
          exact wrap_succ hk hw.1.1
      · have hk : d = a.length := by omega
        refine Eq.symm (eqC_t.mpr ?_)
        rw [hk, List.take_length, hl, List.take_length] at h2
        exact h2
theorem strEq {a b : tStrand.den} (h0 : a.1 = b.1) (h1 : a.2.1 = b.2.1) : a = b := by
  obtain ⟨a0, a1, ⟨⟩⟩ := a
  obtain ⟨b0, b1, ⟨⟩⟩ := b
  simp only at h0 h1
  subst h0 h1
  rfl
theorem eviEq {a b : tEvidence.den} (h0 : a.1 = b.1) (h1 : a.2.1 = b.2.1) : a = b := by
  obtain ⟨a0, a1, ⟨⟩⟩ := a
  obtain ⟨b0, b1, ⟨⟩⟩ := b
  simp only at h0 h1
  subst h0 h1
  rfl
theorem impl_EqualStrands_ok (a b : tStrand.den) : FunOK Try.prog 79 [⟨tStrand, a⟩, ⟨tStrand, b⟩] (.rd .bool (eqC a b)) := by
  refine fun_of (tb := tb) follows Try.func79 (by kernel_rfl) Try.ntmps79 rfl rfl rfl ?_
  intro cx hN hw
  simp (disch := exact eqId (by kernel_rfl)) only [go_sem, ↓reduceIte, Nat.reduceAdd, Nat.reduceMul, Nat.reduceLT, Nat.reduceBEq, Nat.reduceLeDiff, Nat.reduceEqDiff, Int.reduceToNat]
  repeat' (first | (refine And.intro ?_ ?_) | intro _ | (refine callQ_intro (impl_equalPieceLists_ok _ _) ?_; try (simp (disch := exact eqId (by kernel_rfl)) only [go_sem, ↓reduceIte, Nat.reduceAdd, Nat.reduceMul, Nat.reduceLT, Nat.reduceBEq, Nat.reduceLeDiff, Nat.reduceEqDiff, Int.reduceToNat])) | (refine callH_intro (fun hcc => impl_equalPieceLists_ok _ _) ?_; try (simp (disch := exact eqId (by kernel_rfl)) only [go_sem, ↓reduceIte, Nat.reduceAdd, Nat.reduceMul, Nat.reduceLT, Nat.reduceBEq, Nat.reduceLeDiff, Nat.reduceEqDiff, Int.reduceToNat])))
  all_goals (try omega)
  · rename_i hc
    refine Eq.symm (eqC_f.mpr ?_)
    rintro rfl
    simp_all
  · rename_i hc
    obtain ⟨hh0, hl⟩ := hc
    have hl1 : List.length a.2.1 = List.length b.2.1 := by omega
    refine loop_intro (tb := tb) follows hN (D := Nat) (fun d => shp [(2, .bp 10000 0), (3, .bp 10016 0), (23, .rd I (((a.2.1).length : Int) : Int)), (24, .rd I (d : Int))] [(10000, .box 91 [.rd (.list tPiece) (a.1), .rd (.list tRenewal) (a.2.1)]), (10016, .box 91 [.rd (.list tPiece) (b.1), .rd (.list tRenewal) (b.2.1)])]) (fun d => d ≤ List.length a.2.1 ∧ List.take d a.2.1 = List.take d b.2.1) (fun d => List.length a.2.1 - d) (0) ?_ (sub_shp hN [(10000, some 10000), (10016, some 10016)] ?_) (fun d hd => ?_)
    · exact ⟨Nat.zero_le _, rfl⟩
    · simp (disch := exact eqId (by kernel_rfl)) only [go_sem, ↓reduceIte, Nat.reduceAdd, Nat.reduceMul, Nat.reduceLT, Nat.reduceBEq, Nat.reduceLeDiff, Nat.reduceEqDiff, Int.reduceToNat]
      try rfl
    · obtain ⟨h1, h2⟩ := hd
      simp (disch := exact eqId (by kernel_rfl)) only [go_sem, ↓reduceIte, Nat.reduceAdd, Nat.reduceMul, Nat.reduceLT, Nat.reduceBEq, Nat.reduceLeDiff, Nat.reduceEqDiff, Int.reduceToNat]
      repeat' (first | (refine And.intro ?_ ?_) | intro _ | (refine callQ_intro (impl_EqualRenewals_ok _ _) ?_; try (simp (disch := exact eqId (by kernel_rfl)) only [go_sem, ↓reduceIte, Nat.reduceAdd, Nat.reduceMul, Nat.reduceLT, Nat.reduceBEq, Nat.reduceLeDiff, Nat.reduceEqDiff, Int.reduceToNat])) | (refine callH_intro (fun hcc => impl_EqualRenewals_ok _ _) ?_; try (simp (disch := exact eqId (by kernel_rfl)) only [go_sem, ↓reduceIte, Nat.reduceAdd, Nat.reduceMul, Nat.reduceLT, Nat.reduceBEq, Nat.reduceLeDiff, Nat.reduceEqDiff, Int.reduceToNat])))
      all_goals (try omega)
      · rename_i hk hne
        refine Eq.symm (eqC_f.mpr ?_)
        rintro rfl
        simp_all
      · rename_i hk he
        have hk : d < List.length a.2.1 := by omega
        have hk2 : d < List.length b.2.1 := by omega
        refine back_intro (d + 1) ?_ ?_ (sub_shp hN [(10000, some 10000), (10016, some 10016)] ?_)
        · refine ⟨hk, ?_⟩
          rw [take_getD hk (0, 0, 0, [], [], ()), take_getD hk2 (0, 0, 0, [], [], ()), h2]
          first | rw [he] | (simp_all; done)
        · omega
        · simp (disch := exact eqId (by kernel_rfl)) only [go_sem, ↓reduceIte, Nat.reduceAdd, Nat.reduceMul, Nat.reduceLT, Nat.reduceBEq, Nat.reduceLeDiff, Nat.reduceEqDiff, Int.reduceToNat]
          exact wrap_succ hk hw.1.2.1.1
      · rename_i hk
        have hk : d = List.length a.2.1 := by omega
        have hh1 : a.2.1 = b.2.1 := by
          rw [hk, List.take_length, hl1, List.take_length] at h2
          exact h2
        exact Eq.symm (eqC_t.mpr (strEq hh0 hh1))
theorem spec_EqualStrands_ok (a b : tStrand.den) : FunOK Try.prog 78 [⟨tStrand, a⟩, ⟨tStrand, b⟩] (.rd .bool (eqC a b)) := by
  refine fun_of (tb := tb) follows Try.func78 (by kernel_rfl) Try.ntmps78 rfl rfl rfl ?_
  intro cx hN hw
  simp (disch := exact eqId (by kernel_rfl)) only [go_sem, ↓reduceIte, Nat.reduceAdd, Nat.reduceMul, Nat.reduceLT, Nat.reduceBEq, Nat.reduceLeDiff, Nat.reduceEqDiff, Int.reduceToNat]
  repeat' (first | (refine And.intro ?_ ?_) | intro _)
  all_goals (try omega)
  · rename_i hc
    refine Eq.symm (eqC_f.mpr ?_)
    rintro rfl
    simp_all
  · rename_i hc
    obtain ⟨hl, hl'⟩ := hc
    have hl0 : List.length a.1 = List.length b.1 := by omega
    have hl1 : List.length a.2.1 = List.length b.2.1 := by omega
    refine loop_intro (tb := tb) follows hN (D := Nat) (fun d => shp [(2, .bp 10000 0), (3, .bp 10016 0), (5, .rd I (d : Int))] [(10000, .box 91 [.rd (.list tPiece) (a.1), .rd (.list tRenewal) (a.2.1)]), (10016, .box 91 [.rd (.list tPiece) (b.1), .rd (.list tRenewal) (b.2.1)])]) (fun d => d ≤ List.length a.1 ∧ List.take d a.1 = List.take d b.1) (fun d => List.length a.1 - d) (0) ?_ (sub_shp hN [(10000, some 10000), (10016, some 10016)] ?_) (fun d hd => ?_)
    · exact ⟨Nat.zero_le _, rfl⟩
    · simp (disch := exact eqId (by kernel_rfl)) only [go_sem, ↓reduceIte, Nat.reduceAdd, Nat.reduceMul, Nat.reduceLT, Nat.reduceBEq, Nat.reduceLeDiff, Nat.reduceEqDiff, Int.reduceToNat]
      try rfl
    · obtain ⟨h1, h2⟩ := hd
      simp (disch := exact eqId (by kernel_rfl)) only [go_sem, ↓reduceIte, Nat.reduceAdd, Nat.reduceMul, Nat.reduceLT, Nat.reduceBEq, Nat.reduceLeDiff, Nat.reduceEqDiff, Int.reduceToNat]
      repeat' (first | (refine And.intro ?_ ?_) | intro _ | (refine callQ_intro (spec_EqualPieces_ok _ _) ?_; try (simp (disch := exact eqId (by kernel_rfl)) only [go_sem, ↓reduceIte, Nat.reduceAdd, Nat.reduceMul, Nat.reduceLT, Nat.reduceBEq, Nat.reduceLeDiff, Nat.reduceEqDiff, Int.reduceToNat])) | (refine callH_intro (fun hcc => spec_EqualPieces_ok _ _) ?_; try (simp (disch := exact eqId (by kernel_rfl)) only [go_sem, ↓reduceIte, Nat.reduceAdd, Nat.reduceMul, Nat.reduceLT, Nat.reduceBEq, Nat.reduceLeDiff, Nat.reduceEqDiff, Int.reduceToNat])))
      all_goals (try omega)
      · rename_i hk hne
        refine Eq.symm (eqC_f.mpr ?_)
        rintro rfl
        simp_all
      · rename_i hk he
        have hk : d < List.length a.1 := by omega
        have hk2 : d < List.length b.1 := by omega
        refine back_intro (d + 1) ?_ ?_ (sub_shp hN [(10000, some 10000), (10016, some 10016)] ?_)
        · refine ⟨hk, ?_⟩
          rw [take_getD hk (0, [], 0, ()), take_getD hk2 (0, [], 0, ()), h2]
          first | rw [he] | (simp_all; done)
        · omega
        · simp (disch := exact eqId (by kernel_rfl)) only [go_sem, ↓reduceIte, Nat.reduceAdd, Nat.reduceMul, Nat.reduceLT, Nat.reduceBEq, Nat.reduceLeDiff, Nat.reduceEqDiff, Int.reduceToNat]
          exact wrap_succ hk hw.1.1.1
      · rename_i hk
        have hk : d = List.length a.1 := by omega
        have hh0 : a.1 = b.1 := by
          rw [hk, List.take_length, hl0, List.take_length] at h2
          exact h2
        refine loop_intro (tb := tb) follows hN (D := Nat) (fun d => shp [(2, .bp 10000 0), (3, .bp 10016 0), (6, .rd I (d : Int))] [(10000, .box 91 [.rd (.list tPiece) (a.1), .rd (.list tRenewal) (a.2.1)]), (10016, .box 91 [.rd (.list tPiece) (b.1), .rd (.list tRenewal) (b.2.1)])]) (fun d => d ≤ List.length a.2.1 ∧ List.take d a.2.1 = List.take d b.2.1) (fun d => List.length a.2.1 - d) (0) ?_ (sub_shp hN [(10000, some 10000), (10016, some 10016)] ?_) (fun d hd => ?_)
        · exact ⟨Nat.zero_le _, rfl⟩
        · simp (disch := exact eqId (by kernel_rfl)) only [go_sem, ↓reduceIte, Nat.reduceAdd, Nat.reduceMul, Nat.reduceLT, Nat.reduceBEq, Nat.reduceLeDiff, Nat.reduceEqDiff, Int.reduceToNat]
          try rfl
        · obtain ⟨h1, h2⟩ := hd
          simp (disch := exact eqId (by kernel_rfl)) only [go_sem, ↓reduceIte, Nat.reduceAdd, Nat.reduceMul, Nat.reduceLT, Nat.reduceBEq, Nat.reduceLeDiff, Nat.reduceEqDiff, Int.reduceToNat]
          repeat' (first | (refine And.intro ?_ ?_) | intro _ | (refine callQ_intro (spec_EqualRenewals_ok _ _) ?_; try (simp (disch := exact eqId (by kernel_rfl)) only [go_sem, ↓reduceIte, Nat.reduceAdd, Nat.reduceMul, Nat.reduceLT, Nat.reduceBEq, Nat.reduceLeDiff, Nat.reduceEqDiff, Int.reduceToNat])) | (refine callH_intro (fun hcc => spec_EqualRenewals_ok _ _) ?_; try (simp (disch := exact eqId (by kernel_rfl)) only [go_sem, ↓reduceIte, Nat.reduceAdd, Nat.reduceMul, Nat.reduceLT, Nat.reduceBEq, Nat.reduceLeDiff, Nat.reduceEqDiff, Int.reduceToNat])))
          all_goals (try omega)
          · rename_i hk hne
            refine Eq.symm (eqC_f.mpr ?_)
            rintro rfl
            simp_all
          · rename_i hk he
            have hk : d < List.length a.2.1 := by omega
            have hk2 : d < List.length b.2.1 := by omega
            refine back_intro (d + 1) ?_ ?_ (sub_shp hN [(10000, some 10000), (10016, some 10016)] ?_)
            · refine ⟨hk, ?_⟩
              rw [take_getD hk (0, 0, 0, [], [], ()), take_getD hk2 (0, 0, 0, [], [], ()), h2]
              first | rw [he] | (simp_all; done)
            · omega
            · simp (disch := exact eqId (by kernel_rfl)) only [go_sem, ↓reduceIte, Nat.reduceAdd, Nat.reduceMul, Nat.reduceLT, Nat.reduceBEq, Nat.reduceLeDiff, Nat.reduceEqDiff, Int.reduceToNat]
              exact wrap_succ hk hw.1.2.1.1
          · rename_i hk
            have hk : d = List.length a.2.1 := by omega
            have hh1 : a.2.1 = b.2.1 := by
              rw [hk, List.take_length, hl1, List.take_length] at h2
              exact h2
            exact Eq.symm (eqC_t.mpr (strEq hh0 hh1))
theorem impl_EqualEvidence_ok (a b : tEvidence.den) : FunOK Try.prog 95 [⟨tEvidence, a⟩, ⟨tEvidence, b⟩] (.rd .bool (eqC a b)) := by
  refine fun_of (tb := tb) follows Try.func95 (by kernel_rfl) Try.ntmps95 rfl rfl rfl ?_
  intro cx hN hw
  simp (disch := exact eqId (by kernel_rfl)) only [go_sem, ↓reduceIte, Nat.reduceAdd, Nat.reduceMul, Nat.reduceLT, Nat.reduceBEq, Nat.reduceLeDiff, Nat.reduceEqDiff, Int.reduceToNat]
  repeat' (first | (refine And.intro ?_ ?_) | intro _)
  all_goals (try omega)
  · rename_i hc
    refine Eq.symm (eqC_f.mpr ?_)
    rintro rfl
    simp_all
  · rename_i hc
    obtain ⟨hl, hl'⟩ := hc
    have hl0 : List.length a.1 = List.length b.1 := by omega
    have hl1 : List.length a.2.1 = List.length b.2.1 := by omega
    refine loop_intro (tb := tb) follows hN (D := Nat) (fun d => shp [(2, .bp 10000 0), (3, .bp 10016 0), (25, .rd I (((a.1).length : Int) : Int)), (26, .rd I (d : Int))] [(10000, .box 135 [.rd (.list tStrand) (a.1), .rd (.list (.list tStamp)) (a.2.1)]), (10016, .box 135 [.rd (.list tStrand) (b.1), .rd (.list (.list tStamp)) (b.2.1)])]) (fun d => d ≤ List.length a.1 ∧ List.take d a.1 = List.take d b.1) (fun d => List.length a.1 - d) (0) ?_ (sub_shp hN [(10000, some 10000), (10016, some 10016)] ?_) (fun d hd => ?_)
    · exact ⟨Nat.zero_le _, rfl⟩
    · simp (disch := exact eqId (by kernel_rfl)) only [go_sem, ↓reduceIte, Nat.reduceAdd, Nat.reduceMul, Nat.reduceLT, Nat.reduceBEq, Nat.reduceLeDiff, Nat.reduceEqDiff, Int.reduceToNat]
      try rfl
    · obtain ⟨h1, h2⟩ := hd
      simp (disch := exact eqId (by kernel_rfl)) only [go_sem, ↓reduceIte, Nat.reduceAdd, Nat.reduceMul, Nat.reduceLT, Nat.reduceBEq, Nat.reduceLeDiff, Nat.reduceEqDiff, Int.reduceToNat]
      repeat' (first | (refine And.intro ?_ ?_) | intro _ | (refine callQ_intro (impl_EqualStrands_ok _ _) ?_; try (simp (disch := exact eqId (by kernel_rfl)) only [go_sem, ↓reduceIte, Nat.reduceAdd, Nat.reduceMul, Nat.reduceLT, Nat.reduceBEq, Nat.reduceLeDiff, Nat.reduceEqDiff, Int.reduceToNat])) | (refine callH_intro (fun hcc => impl_EqualStrands_ok _ _) ?_; try (simp (disch := exact eqId (by kernel_rfl)) only [go_sem, ↓reduceIte, Nat.reduceAdd, Nat.reduceMul, Nat.reduceLT, Nat.reduceBEq, Nat.reduceLeDiff, Nat.reduceEqDiff, Int.reduceToNat])))
      all_goals (try omega)
      · rename_i hk hne
        refine Eq.symm (eqC_f.mpr ?_)
        rintro rfl
        simp_all
      · rename_i hk he
        have hk : d < List.length a.1 := by omega
        have hk2 : d < List.length b.1 := by omega
        refine back_intro (d + 1) ?_ ?_ (sub_shp hN [(10000, some 10000), (10016, some 10016)] ?_)
        · refine ⟨hk, ?_⟩
          rw [take_getD hk ([], [], ()), take_getD hk2 ([], [], ()), h2]
          first | rw [he] | (simp_all; done)
        · omega
        · simp (disch := exact eqId (by kernel_rfl)) only [go_sem, ↓reduceIte, Nat.reduceAdd, Nat.reduceMul, Nat.reduceLT, Nat.reduceBEq, Nat.reduceLeDiff, Nat.reduceEqDiff, Int.reduceToNat]
          exact wrap_succ hk hw.1.1.1
      · rename_i hk
        have hk : d = List.length a.1 := by omega
        have hh0 : a.1 = b.1 := by
          rw [hk, List.take_length, hl0, List.take_length] at h2
          exact h2
        refine loop_intro (tb := tb) follows hN (D := Nat) (fun d => shp [(2, .bp 10000 0), (3, .bp 10016 0), (44, .rd I (((a.2.1).length : Int) : Int)), (45, .rd I (d : Int))] [(10000, .box 135 [.rd (.list tStrand) (a.1), .rd (.list (.list tStamp)) (a.2.1)]), (10016, .box 135 [.rd (.list tStrand) (b.1), .rd (.list (.list tStamp)) (b.2.1)])]) (fun d => d ≤ List.length a.2.1 ∧ List.take d a.2.1 = List.take d b.2.1) (fun d => List.length a.2.1 - d) (0) ?_ (sub_shp hN [(10000, some 10000), (10016, some 10016)] ?_) (fun d hd => ?_)
        · exact ⟨Nat.zero_le _, rfl⟩
        · simp (disch := exact eqId (by kernel_rfl)) only [go_sem, ↓reduceIte, Nat.reduceAdd, Nat.reduceMul, Nat.reduceLT, Nat.reduceBEq, Nat.reduceLeDiff, Nat.reduceEqDiff, Int.reduceToNat]
          try rfl
        · obtain ⟨h1, h2⟩ := hd
          simp (disch := exact eqId (by kernel_rfl)) only [go_sem, ↓reduceIte, Nat.reduceAdd, Nat.reduceMul, Nat.reduceLT, Nat.reduceBEq, Nat.reduceLeDiff, Nat.reduceEqDiff, Int.reduceToNat]
          repeat' (first | (refine And.intro ?_ ?_) | intro _ | (refine callQ_intro (impl_equalStamps_ok _ _) ?_; try (simp (disch := exact eqId (by kernel_rfl)) only [go_sem, ↓reduceIte, Nat.reduceAdd, Nat.reduceMul, Nat.reduceLT, Nat.reduceBEq, Nat.reduceLeDiff, Nat.reduceEqDiff, Int.reduceToNat])) | (refine callH_intro (fun hcc => impl_equalStamps_ok _ _) ?_; try (simp (disch := exact eqId (by kernel_rfl)) only [go_sem, ↓reduceIte, Nat.reduceAdd, Nat.reduceMul, Nat.reduceLT, Nat.reduceBEq, Nat.reduceLeDiff, Nat.reduceEqDiff, Int.reduceToNat])))
          all_goals (try omega)
          · rename_i hk hne
            refine Eq.symm (eqC_f.mpr ?_)
            rintro rfl
            simp_all
          · rename_i hk he
            have hk : d < List.length a.2.1 := by omega
            have hk2 : d < List.length b.2.1 := by omega
            refine back_intro (d + 1) ?_ ?_ (sub_shp hN [(10000, some 10000), (10016, some 10016)] ?_)
            · refine ⟨hk, ?_⟩
              rw [take_getD hk [], take_getD hk2 [], h2]
              first | rw [he] | (simp_all; done)
            · omega
            · simp (disch := exact eqId (by kernel_rfl)) only [go_sem, ↓reduceIte, Nat.reduceAdd, Nat.reduceMul, Nat.reduceLT, Nat.reduceBEq, Nat.reduceLeDiff, Nat.reduceEqDiff, Int.reduceToNat]
              exact wrap_succ hk hw.1.2.1.1
          · rename_i hk
            have hk : d = List.length a.2.1 := by omega
            have hh1 : a.2.1 = b.2.1 := by
              rw [hk, List.take_length, hl1, List.take_length] at h2
              exact h2
            exact Eq.symm (eqC_t.mpr (eviEq hh0 hh1))
theorem spec_EqualEvidence_ok (a b : tEvidence.den) : FunOK Try.prog 93 [⟨tEvidence, a⟩, ⟨tEvidence, b⟩] (.rd .bool (eqC a b)) := by
  refine fun_of (tb := tb) follows Try.func93 (by kernel_rfl) Try.ntmps93 rfl rfl rfl ?_
  intro cx hN hw
  simp (disch := exact eqId (by kernel_rfl)) only [go_sem, ↓reduceIte, Nat.reduceAdd, Nat.reduceMul, Nat.reduceLT, Nat.reduceBEq, Nat.reduceLeDiff, Nat.reduceEqDiff, Int.reduceToNat]
  repeat' (first | (refine And.intro ?_ ?_) | intro _)
  all_goals (try omega)
  · rename_i hc
    refine Eq.symm (eqC_f.mpr ?_)
    rintro rfl
    simp_all
  · rename_i hc
    obtain ⟨hl, hl'⟩ := hc
    have hl0 : List.length a.1 = List.length b.1 := by omega
    have hl1 : List.length a.2.1 = List.length b.2.1 := by omega
    refine loop_intro (tb := tb) follows hN (D := Nat) (fun d => shp [(2, .bp 10000 0), (3, .bp 10016 0), (5, .rd I (d : Int))] [(10000, .box 135 [.rd (.list tStrand) (a.1), .rd (.list (.list tStamp)) (a.2.1)]), (10016, .box 135 [.rd (.list tStrand) (b.1), .rd (.list (.list tStamp)) (b.2.1)])]) (fun d => d ≤ List.length a.1 ∧ List.take d a.1 = List.take d b.1) (fun d => List.length a.1 - d) (0) ?_ (sub_shp hN [(10000, some 10000), (10016, some 10016)] ?_) (fun d hd => ?_)
    · exact ⟨Nat.zero_le _, rfl⟩
    · simp (disch := exact eqId (by kernel_rfl)) only [go_sem, ↓reduceIte, Nat.reduceAdd, Nat.reduceMul, Nat.reduceLT, Nat.reduceBEq, Nat.reduceLeDiff, Nat.reduceEqDiff, Int.reduceToNat]
      try rfl
    · obtain ⟨h1, h2⟩ := hd
      simp (disch := exact eqId (by kernel_rfl)) only [go_sem, ↓reduceIte, Nat.reduceAdd, Nat.reduceMul, Nat.reduceLT, Nat.reduceBEq, Nat.reduceLeDiff, Nat.reduceEqDiff, Int.reduceToNat]
      repeat' (first | (refine And.intro ?_ ?_) | intro _ | (refine callQ_intro (spec_EqualStrands_ok _ _) ?_; try (simp (disch := exact eqId (by kernel_rfl)) only [go_sem, ↓reduceIte, Nat.reduceAdd, Nat.reduceMul, Nat.reduceLT, Nat.reduceBEq, Nat.reduceLeDiff, Nat.reduceEqDiff, Int.reduceToNat])) | (refine callH_intro (fun hcc => spec_EqualStrands_ok _ _) ?_; try (simp (disch := exact eqId (by kernel_rfl)) only [go_sem, ↓reduceIte, Nat.reduceAdd, Nat.reduceMul, Nat.reduceLT, Nat.reduceBEq, Nat.reduceLeDiff, Nat.reduceEqDiff, Int.reduceToNat])))
      all_goals (try omega)
      · rename_i hk hne
        refine Eq.symm (eqC_f.mpr ?_)
        rintro rfl
        simp_all
      · rename_i hk he
        have hk : d < List.length a.1 := by omega
        have hk2 : d < List.length b.1 := by omega
        refine back_intro (d + 1) ?_ ?_ (sub_shp hN [(10000, some 10000), (10016, some 10016)] ?_)
        · refine ⟨hk, ?_⟩
          rw [take_getD hk ([], [], ()), take_getD hk2 ([], [], ()), h2]
          first | rw [he] | (simp_all; done)
        · omega
        · simp (disch := exact eqId (by kernel_rfl)) only [go_sem, ↓reduceIte, Nat.reduceAdd, Nat.reduceMul, Nat.reduceLT, Nat.reduceBEq, Nat.reduceLeDiff, Nat.reduceEqDiff, Int.reduceToNat]
          exact wrap_succ hk hw.1.1.1
      · rename_i hk
        have hk : d = List.length a.1 := by omega
        have hh0 : a.1 = b.1 := by
          rw [hk, List.take_length, hl0, List.take_length] at h2
          exact h2
        refine loop_intro (tb := tb) follows hN (D := Nat) (fun d => shp [(2, .bp 10000 0), (3, .bp 10016 0), (6, .rd I (d : Int))] [(10000, .box 135 [.rd (.list tStrand) (a.1), .rd (.list (.list tStamp)) (a.2.1)]), (10016, .box 135 [.rd (.list tStrand) (b.1), .rd (.list (.list tStamp)) (b.2.1)])]) (fun d => d ≤ List.length a.2.1 ∧ List.take d a.2.1 = List.take d b.2.1) (fun d => List.length a.2.1 - d) (0) ?_ (sub_shp hN [(10000, some 10000), (10016, some 10016)] ?_) (fun d hd => ?_)
        · exact ⟨Nat.zero_le _, rfl⟩
        · simp (disch := exact eqId (by kernel_rfl)) only [go_sem, ↓reduceIte, Nat.reduceAdd, Nat.reduceMul, Nat.reduceLT, Nat.reduceBEq, Nat.reduceLeDiff, Nat.reduceEqDiff, Int.reduceToNat]
          try rfl
        · obtain ⟨h1, h2⟩ := hd
          simp (disch := exact eqId (by kernel_rfl)) only [go_sem, ↓reduceIte, Nat.reduceAdd, Nat.reduceMul, Nat.reduceLT, Nat.reduceBEq, Nat.reduceLeDiff, Nat.reduceEqDiff, Int.reduceToNat]
          repeat' (first | (refine And.intro ?_ ?_) | intro _ | (refine callQ_intro (spec_l23Stamps_ok _ _) ?_; try (simp (disch := exact eqId (by kernel_rfl)) only [go_sem, ↓reduceIte, Nat.reduceAdd, Nat.reduceMul, Nat.reduceLT, Nat.reduceBEq, Nat.reduceLeDiff, Nat.reduceEqDiff, Int.reduceToNat])) | (refine callH_intro (fun hcc => spec_l23Stamps_ok _ _) ?_; try (simp (disch := exact eqId (by kernel_rfl)) only [go_sem, ↓reduceIte, Nat.reduceAdd, Nat.reduceMul, Nat.reduceLT, Nat.reduceBEq, Nat.reduceLeDiff, Nat.reduceEqDiff, Int.reduceToNat])))
          all_goals (try omega)
          · rename_i hk hne
            refine Eq.symm (eqC_f.mpr ?_)
            rintro rfl
            simp_all
          · rename_i hk he
            have hk : d < List.length a.2.1 := by omega
            have hk2 : d < List.length b.2.1 := by omega
            refine back_intro (d + 1) ?_ ?_ (sub_shp hN [(10000, some 10000), (10016, some 10016)] ?_)
            · refine ⟨hk, ?_⟩
              rw [take_getD hk [], take_getD hk2 [], h2]
              first | rw [he] | (simp_all; done)
            · omega
            · simp (disch := exact eqId (by kernel_rfl)) only [go_sem, ↓reduceIte, Nat.reduceAdd, Nat.reduceMul, Nat.reduceLT, Nat.reduceBEq, Nat.reduceLeDiff, Nat.reduceEqDiff, Int.reduceToNat]
              exact wrap_succ hk hw.1.2.1.1
          · rename_i hk
            have hk : d = List.length a.2.1 := by omega
            have hh1 : a.2.1 = b.2.1 := by
              rw [hk, List.take_length, hl1, List.take_length] at h2
              exact h2
            exact Eq.symm (eqC_t.mpr (eviEq hh0 hh1))
noncomputable def fpiF (p : tPiece.den) : List tPiece.den → Int → Int
  | [], _ => -1
  | x :: xs, i => bif eqC x p then i else fpiF p xs (i + 1)
theorem impl_FindPiece_ok (a : tStrand.den) (p : tPiece.den) : FunOK Try.prog 65 [⟨tStrand, a⟩, ⟨tPiece, p⟩] (.rd I (fpiF p a.1 0)) := by
  refine fun_of (tb := tb) follows Try.func65 (by kernel_rfl) Try.ntmps65 rfl rfl rfl ?_
  intro cx hN hw
  simp (disch := exact eqId (by kernel_rfl)) only [go_sem, ↓reduceIte, Nat.reduceAdd, Nat.reduceMul, Nat.reduceLT, Nat.reduceBEq, Nat.reduceLeDiff, Nat.reduceEqDiff, Int.reduceToNat]
  refine loop_intro (tb := tb) follows hN (D := Nat) (fun d => shp [(3, .bp 10016 0), (8, .rd (.list tPiece) (a.1)), (9, .rd I (((a.1).length : Int) : Int)), (10, .rd I (d : Int))] [(10016, .box 73 [.rd I (p.1), .rd (.list I) (p.2.1), .rd I (p.2.2.1)])]) (fun d => d ≤ List.length a.1 ∧ fpiF p a.1 0 = fpiF p (List.drop d a.1) d) (fun d => List.length a.1 - d) (0) ?_ (sub_shp hN [(10016, some 10016)] ?_) (fun d hd => ?_)
  · exact ⟨Nat.zero_le _, rfl⟩
  · simp (disch := exact eqId (by kernel_rfl)) only [go_sem, ↓reduceIte, Nat.reduceAdd, Nat.reduceMul, Nat.reduceLT, Nat.reduceBEq, Nat.reduceLeDiff, Nat.reduceEqDiff, Int.reduceToNat]
    try rfl
  · obtain ⟨h1, h2⟩ := hd
    simp (disch := exact eqId (by kernel_rfl)) only [go_sem, ↓reduceIte, Nat.reduceAdd, Nat.reduceMul, Nat.reduceLT, Nat.reduceBEq, Nat.reduceLeDiff, Nat.reduceEqDiff, Int.reduceToNat]
    repeat' (first | (refine And.intro ?_ ?_) | intro _ | (refine callQ_intro (impl_EqualPieces_ok _ _) ?_; try (simp (disch := exact eqId (by kernel_rfl)) only [go_sem, ↓reduceIte, Nat.reduceAdd, Nat.reduceMul, Nat.reduceLT, Nat.reduceBEq, Nat.reduceLeDiff, Nat.reduceEqDiff, Int.reduceToNat])) | (refine callH_intro (fun hcc => impl_EqualPieces_ok _ _) ?_; try (simp (disch := exact eqId (by kernel_rfl)) only [go_sem, ↓reduceIte, Nat.reduceAdd, Nat.reduceMul, Nat.reduceLT, Nat.reduceBEq, Nat.reduceLeDiff, Nat.reduceEqDiff, Int.reduceToNat])))
    all_goals (try omega)
    · rename_i hk he
      rw [h2, drop_getD (show d < List.length a.1 by omega) (0, [], 0, ()), fpiF, eqC_t.mpr he]
      rfl
    · rename_i hk he
      have hk : d < List.length a.1 := by omega
      refine back_intro (d + 1) ?_ ?_ (sub_shp hN [(10016, some 10016)] ?_)
      · refine ⟨hk, ?_⟩
        rw [h2, drop_getD hk (0, [], 0, ()), fpiF, eqC_f.mpr he]
        rfl
      · omega
      · simp (disch := exact eqId (by kernel_rfl)) only [go_sem, ↓reduceIte, Nat.reduceAdd, Nat.reduceMul, Nat.reduceLT, Nat.reduceBEq, Nat.reduceLeDiff, Nat.reduceEqDiff, Int.reduceToNat]
        exact wrap_succ hk hw.1.1.1
    · rename_i hk
      rw [h2, drop_end (show List.length a.1 ≤ d by omega)]
      rfl
theorem spec_FindPiece_ok (a : tStrand.den) (p : tPiece.den) : FunOK Try.prog 63 [⟨tStrand, a⟩, ⟨tPiece, p⟩] (.rd I (fpiF p a.1 0)) := by
  refine fun_of (tb := tb) follows Try.func63 (by kernel_rfl) Try.ntmps63 rfl rfl rfl ?_
  intro cx hN hw
  simp (disch := exact eqId (by kernel_rfl)) only [go_sem, ↓reduceIte, Nat.reduceAdd, Nat.reduceMul, Nat.reduceLT, Nat.reduceBEq, Nat.reduceLeDiff, Nat.reduceEqDiff, Int.reduceToNat]
  refine loop_intro (tb := tb) follows hN (D := Nat) (fun d => shp [(2, .bp 10000 0), (3, .bp 10016 0), (5, .rd I (d : Int))] [(10000, .box 91 [.rd (.list tPiece) (a.1), .rd (.list tRenewal) (a.2.1)]), (10016, .box 73 [.rd I (p.1), .rd (.list I) (p.2.1), .rd I (p.2.2.1)])]) (fun d => d ≤ List.length a.1 ∧ fpiF p a.1 0 = fpiF p (List.drop d a.1) d) (fun d => List.length a.1 - d) (0) ?_ (sub_shp hN [(10000, some 10000), (10016, some 10016)] ?_) (fun d hd => ?_)
  · exact ⟨Nat.zero_le _, rfl⟩
  · simp (disch := exact eqId (by kernel_rfl)) only [go_sem, ↓reduceIte, Nat.reduceAdd, Nat.reduceMul, Nat.reduceLT, Nat.reduceBEq, Nat.reduceLeDiff, Nat.reduceEqDiff, Int.reduceToNat]
    try rfl
  · obtain ⟨h1, h2⟩ := hd
    simp (disch := exact eqId (by kernel_rfl)) only [go_sem, ↓reduceIte, Nat.reduceAdd, Nat.reduceMul, Nat.reduceLT, Nat.reduceBEq, Nat.reduceLeDiff, Nat.reduceEqDiff, Int.reduceToNat]
    repeat' (first | (refine And.intro ?_ ?_) | intro _ | (refine callQ_intro (spec_EqualPieces_ok _ _) ?_; try (simp (disch := exact eqId (by kernel_rfl)) only [go_sem, ↓reduceIte, Nat.reduceAdd, Nat.reduceMul, Nat.reduceLT, Nat.reduceBEq, Nat.reduceLeDiff, Nat.reduceEqDiff, Int.reduceToNat])) | (refine callH_intro (fun hcc => spec_EqualPieces_ok _ _) ?_; try (simp (disch := exact eqId (by kernel_rfl)) only [go_sem, ↓reduceIte, Nat.reduceAdd, Nat.reduceMul, Nat.reduceLT, Nat.reduceBEq, Nat.reduceLeDiff, Nat.reduceEqDiff, Int.reduceToNat])))
    all_goals (try omega)
    · rename_i hk he
      rw [h2, drop_getD (show d < List.length a.1 by omega) (0, [], 0, ()), fpiF, eqC_t.mpr he]
      rfl
    · rename_i hk he
      have hk : d < List.length a.1 := by omega
      refine back_intro (d + 1) ?_ ?_ (sub_shp hN [(10000, some 10000), (10016, some 10016)] ?_)
      · refine ⟨hk, ?_⟩
        rw [h2, drop_getD hk (0, [], 0, ()), fpiF, eqC_f.mpr he]
        rfl
      · omega
      · simp (disch := exact eqId (by kernel_rfl)) only [go_sem, ↓reduceIte, Nat.reduceAdd, Nat.reduceMul, Nat.reduceLT, Nat.reduceBEq, Nat.reduceLeDiff, Nat.reduceEqDiff, Int.reduceToNat]
        exact wrap_succ hk hw.1.1.1
    · rename_i hk
      rw [h2, drop_end (show List.length a.1 ≤ d by omega)]
      rfl
end Go.Proofs.Yteemfgdkmjmolaa
