/- What the laws' own helpers answer: comparisons. It proves nothing of a statement by itself. -/
import Derived.Test.YtaeieogcibhhkaaG
set_option linter.unusedSimpArgs false
set_option linter.unusedVariables false
set_option maxRecDepth 100000
namespace Go.Proofs.Ytaeieogcibhhkaa
open Go.AL
theorem eqIntS_ok (a b : List (I : Ty).den) : FunOK Try.prog 59 [⟨(.list I), a⟩, ⟨(.list I), b⟩] (.rd .bool (eqC a b)) := by
  refine fun_of (tb := tb) follows Try.func59 (by kernel_rfl) Try.ntmps59 rfl rfl rfl ?_
  intro cx hN hw
  simp (disch := exact eqId (by kernel_rfl)) only [go_sem, ↓reduceIte, Nat.reduceAdd, Nat.reduceMul, Nat.reduceLT, Nat.reduceBEq, Nat.reduceLeDiff, Nat.reduceEqDiff]
  repeat' (first | (refine And.intro ?_ ?_) | intro _)
  all_goals (try omega)
  · refine Eq.symm (eqC_f.mpr ?_); rintro rfl; simp_all
  · have hl : a.length = b.length := by omega
    refine loop_intro (tb := tb) follows hN (D := Nat) (fun d => shp [(0, .rd (.list I) (a)), (1, .rd (.list I) (b)), (5, .rd I (d : Int))] []) (fun d => d ≤ a.length ∧ a.take d = b.take d) (fun d => a.length - d) (0) ?_ (sub_shp hN [] ?_) (fun d hd => ?_)
    · exact ⟨Nat.zero_le _, rfl⟩
    · simp (disch := exact eqId (by kernel_rfl)) only [go_sem, ↓reduceIte, Nat.reduceAdd, Nat.reduceMul, Nat.reduceLT, Nat.reduceBEq, Nat.reduceLeDiff, Nat.reduceEqDiff]
      rfl
    · obtain ⟨h1, h2⟩ := hd
      simp (disch := exact eqId (by kernel_rfl)) only [go_sem, ↓reduceIte, Nat.reduceAdd, Nat.reduceMul, Nat.reduceLT, Nat.reduceBEq, Nat.reduceLeDiff, Nat.reduceEqDiff]
      repeat' (first | (refine And.intro ?_ ?_) | intro _)
      all_goals (try omega)
      · rename_i hk _ hne
        refine Eq.symm (eqC_f.mpr ?_)
        rintro rfl
        simp_all [eqC_f]
      · rename_i hk _ he
        have hk : d < a.length := by omega
        refine back_intro (d + 1) ?_ ?_ (sub_shp hN [] ?_)
        · refine ⟨hk, ?_⟩
          rw [take_getD hk ((I : Ty).dflt), take_getD (show d < b.length by omega) ((I : Ty).dflt), h2]
          try simp only [eqC_t] at he
          first | rw [he] | (simp_all; done)
        · omega
        · simp (disch := exact eqId (by kernel_rfl)) only [go_sem, ↓reduceIte, Nat.reduceAdd, Nat.reduceMul, Nat.reduceLT, Nat.reduceBEq, Nat.reduceLeDiff, Nat.reduceEqDiff]
          exact wrap_succ hk hw.1.1
      · have hk : d = a.length := by omega
        refine Eq.symm (eqC_t.mpr ?_)
        rw [hk, List.take_length, hl, List.take_length] at h2
        exact h2
theorem eqStamp_ok (a b : tStamp.den) : FunOK Try.prog 67 [⟨tStamp, a⟩, ⟨tStamp, b⟩] (.rd .bool (eqC a b)) := by
  refine fun_of (tb := tb) follows Try.func67 (by kernel_rfl) Try.ntmps67 rfl rfl rfl ?_
  intro cx hN hw
  simp (disch := exact eqId (by kernel_rfl)) only [go_sem, ↓reduceIte, Nat.reduceAdd, Nat.reduceMul, Nat.reduceLT, Nat.reduceBEq, Nat.reduceLeDiff, Nat.reduceEqDiff]
  repeat' (first | (refine And.intro ?_ ?_) | intro _)
  all_goals (try simp only [eqC_t, eqC_f] at *)
  all_goals first
    | (refine Eq.symm (eqC_f.mpr ?_); rintro rfl; simp_all; done)
    | (refine Eq.symm (eqC_t.mpr ?_); obtain ⟨a0, a1, a2, a3, a4, _⟩ := a; obtain ⟨b0, b1, b2, b3, b4, _⟩ := b; simp_all; done)
theorem eqStampS_ok (a b : List (tStamp : Ty).den) : FunOK Try.prog 129 [⟨(.list tStamp), a⟩, ⟨(.list tStamp), b⟩] (.rd .bool (eqC a b)) := by
  refine fun_of (tb := tb) follows Try.func129 (by kernel_rfl) Try.ntmps129 rfl rfl rfl ?_
  intro cx hN hw
  simp (disch := exact eqId (by kernel_rfl)) only [go_sem, ↓reduceIte, Nat.reduceAdd, Nat.reduceMul, Nat.reduceLT, Nat.reduceBEq, Nat.reduceLeDiff, Nat.reduceEqDiff]
  repeat' (first | (refine And.intro ?_ ?_) | intro _)
  all_goals (try omega)
  · refine Eq.symm (eqC_f.mpr ?_); rintro rfl; simp_all
  · have hl : a.length = b.length := by omega
    refine loop_intro (tb := tb) follows hN (D := Nat) (fun d => shp [(0, .rd (.list tStamp) (a)), (1, .rd (.list tStamp) (b)), (5, .rd I (d : Int))] []) (fun d => d ≤ a.length ∧ a.take d = b.take d) (fun d => a.length - d) (0) ?_ (sub_shp hN [] ?_) (fun d hd => ?_)
    · exact ⟨Nat.zero_le _, rfl⟩
    · simp (disch := exact eqId (by kernel_rfl)) only [go_sem, ↓reduceIte, Nat.reduceAdd, Nat.reduceMul, Nat.reduceLT, Nat.reduceBEq, Nat.reduceLeDiff, Nat.reduceEqDiff]
      rfl
    · obtain ⟨h1, h2⟩ := hd
      simp (disch := exact eqId (by kernel_rfl)) only [go_sem, ↓reduceIte, Nat.reduceAdd, Nat.reduceMul, Nat.reduceLT, Nat.reduceBEq, Nat.reduceLeDiff, Nat.reduceEqDiff]
      repeat' (first | (refine And.intro ?_ ?_) | intro _ | (refine callQ_intro (eqStamp_ok _ _) ?_; try (simp (disch := exact eqId (by kernel_rfl)) only [go_sem, ↓reduceIte, Nat.reduceAdd, Nat.reduceMul, Nat.reduceLT, Nat.reduceBEq, Nat.reduceLeDiff, Nat.reduceEqDiff])))
      all_goals (try omega)
      · rename_i hk _ hne
        refine Eq.symm (eqC_f.mpr ?_)
        rintro rfl
        simp_all [eqC_f]
      · rename_i hk _ he
        have hk : d < a.length := by omega
        refine back_intro (d + 1) ?_ ?_ (sub_shp hN [] ?_)
        · refine ⟨hk, ?_⟩
          rw [take_getD hk ((tStamp : Ty).dflt), take_getD (show d < b.length by omega) ((tStamp : Ty).dflt), h2]
          try simp only [eqC_t] at he
          first | rw [he] | (simp_all; done)
        · omega
        · simp (disch := exact eqId (by kernel_rfl)) only [go_sem, ↓reduceIte, Nat.reduceAdd, Nat.reduceMul, Nat.reduceLT, Nat.reduceBEq, Nat.reduceLeDiff, Nat.reduceEqDiff]
          exact wrap_succ hk hw.1.1
      · have hk : d = a.length := by omega
        refine Eq.symm (eqC_t.mpr ?_)
        rw [hk, List.take_length, hl, List.take_length] at h2
        exact h2
theorem eqStatus_ok (a b : tStatus.den) : FunOK Try.prog 70 [⟨tStatus, a⟩, ⟨tStatus, b⟩] (.rd .bool (eqC a b)) := by
  refine fun_of (tb := tb) follows Try.func70 (by kernel_rfl) Try.ntmps70 rfl rfl rfl ?_
  intro cx hN hw
  simp (disch := exact eqId (by kernel_rfl)) only [go_sem, ↓reduceIte, Nat.reduceAdd, Nat.reduceMul, Nat.reduceLT, Nat.reduceBEq, Nat.reduceLeDiff, Nat.reduceEqDiff]
  repeat' (first | (refine And.intro ?_ ?_) | intro _)
  all_goals (try simp only [eqC_t, eqC_f] at *)
  all_goals first
    | (refine Eq.symm (eqC_f.mpr ?_); rintro rfl; simp_all; done)
    | (refine Eq.symm (eqC_t.mpr ?_); obtain ⟨a0, a1, a2, a3, a4, _⟩ := a; obtain ⟨b0, b1, b2, b3, b4, _⟩ := b; simp_all; done)
theorem eqMandate_ok (a b : tMandate.den) : FunOK Try.prog 73 [⟨tMandate, a⟩, ⟨tMandate, b⟩] (.rd .bool (eqC a b)) := by
  refine fun_of (tb := tb) follows Try.func73 (by kernel_rfl) Try.ntmps73 rfl rfl rfl ?_
  intro cx hN hw
  simp (disch := exact eqId (by kernel_rfl)) only [go_sem, ↓reduceIte, Nat.reduceAdd, Nat.reduceMul, Nat.reduceLT, Nat.reduceBEq, Nat.reduceLeDiff, Nat.reduceEqDiff]
  repeat' (first | (refine And.intro ?_ ?_) | intro _)
  all_goals (try simp only [eqC_t, eqC_f] at *)
  all_goals first
    | (refine Eq.symm (eqC_f.mpr ?_); rintro rfl; simp_all; done)
    | (refine Eq.symm (eqC_t.mpr ?_); obtain ⟨a0, a1, a2, a3, a4, a5, _⟩ := a; obtain ⟨b0, b1, b2, b3, b4, b5, _⟩ := b; simp_all; done)
theorem eqCert_ok (a b : tCert.den) : FunOK Try.prog 76 [⟨tCert, a⟩, ⟨tCert, b⟩] (.rd .bool (eqC a b)) := by
  refine fun_of (tb := tb) follows Try.func76 (by kernel_rfl) Try.ntmps76 rfl rfl rfl ?_
  intro cx hN hw
  simp (disch := exact eqId (by kernel_rfl)) only [go_sem, ↓reduceIte, Nat.reduceAdd, Nat.reduceMul, Nat.reduceLT, Nat.reduceBEq, Nat.reduceLeDiff, Nat.reduceEqDiff]
  repeat' (first | (refine And.intro ?_ ?_) | intro _)
  all_goals (try simp only [eqC_t, eqC_f] at *)
  all_goals first
    | (refine Eq.symm (eqC_f.mpr ?_); rintro rfl; simp_all; done)
    | (refine Eq.symm (eqC_t.mpr ?_); obtain ⟨a0, a1, a2, a3, a4, a5, a6, _⟩ := a; obtain ⟨b0, b1, b2, b3, b4, b5, b6, _⟩ := b; simp_all; done)
theorem eqSignature_ok (a b : tSignature.den) : FunOK Try.prog 79 [⟨tSignature, a⟩, ⟨tSignature, b⟩] (.rd .bool (eqC a b)) := by
  refine fun_of (tb := tb) follows Try.func79 (by kernel_rfl) Try.ntmps79 rfl rfl rfl ?_
  intro cx hN hw
  simp (disch := exact eqId (by kernel_rfl)) only [go_sem, ↓reduceIte, Nat.reduceAdd, Nat.reduceMul, Nat.reduceLT, Nat.reduceBEq, Nat.reduceLeDiff, Nat.reduceEqDiff]
  repeat' (first | (refine And.intro ?_ ?_) | intro _)
  all_goals (try simp only [eqC_t, eqC_f] at *)
  all_goals first
    | (refine Eq.symm (eqC_f.mpr ?_); rintro rfl; simp_all; done)
    | (refine Eq.symm (eqC_t.mpr ?_); obtain ⟨a0, a1, a2, a3, a4, a5, a6, a7, a8, _⟩ := a; obtain ⟨b0, b1, b2, b3, b4, b5, b6, b7, b8, _⟩ := b; simp_all; done)
theorem eqStep_ok (a b : tStep.den) : FunOK Try.prog 122 [⟨tStep, a⟩, ⟨tStep, b⟩] (.rd .bool (eqC a b)) := by
  refine fun_of (tb := tb) follows Try.func122 (by kernel_rfl) Try.ntmps122 rfl rfl rfl ?_
  intro cx hN hw
  simp (disch := exact eqId (by kernel_rfl)) only [go_sem, ↓reduceIte, Nat.reduceAdd, Nat.reduceMul, Nat.reduceLT, Nat.reduceBEq, Nat.reduceLeDiff, Nat.reduceEqDiff]
  repeat' (first | (refine And.intro ?_ ?_) | intro _)
  all_goals (try simp only [eqC_t, eqC_f] at *)
  all_goals first
    | (refine Eq.symm (eqC_f.mpr ?_); rintro rfl; simp_all; done)
    | (refine Eq.symm (eqC_t.mpr ?_); obtain ⟨a0, a1, _⟩ := a; obtain ⟨b0, b1, _⟩ := b; simp_all; done)
theorem eqStepS_ok (a b : List (tStep : Ty).den) : FunOK Try.prog 64 [⟨(.list tStep), a⟩, ⟨(.list tStep), b⟩] (.rd .bool (eqC a b)) := by
  refine fun_of (tb := tb) follows Try.func64 (by kernel_rfl) Try.ntmps64 rfl rfl rfl ?_
  intro cx hN hw
  simp (disch := exact eqId (by kernel_rfl)) only [go_sem, ↓reduceIte, Nat.reduceAdd, Nat.reduceMul, Nat.reduceLT, Nat.reduceBEq, Nat.reduceLeDiff, Nat.reduceEqDiff]
  repeat' (first | (refine And.intro ?_ ?_) | intro _)
  all_goals (try omega)
  · refine Eq.symm (eqC_f.mpr ?_); rintro rfl; simp_all
  · have hl : a.length = b.length := by omega
    refine loop_intro (tb := tb) follows hN (D := Nat) (fun d => shp [(0, .rd (.list tStep) (a)), (1, .rd (.list tStep) (b)), (5, .rd I (d : Int))] []) (fun d => d ≤ a.length ∧ a.take d = b.take d) (fun d => a.length - d) (0) ?_ (sub_shp hN [] ?_) (fun d hd => ?_)
    · exact ⟨Nat.zero_le _, rfl⟩
    · simp (disch := exact eqId (by kernel_rfl)) only [go_sem, ↓reduceIte, Nat.reduceAdd, Nat.reduceMul, Nat.reduceLT, Nat.reduceBEq, Nat.reduceLeDiff, Nat.reduceEqDiff]
      rfl
    · obtain ⟨h1, h2⟩ := hd
      simp (disch := exact eqId (by kernel_rfl)) only [go_sem, ↓reduceIte, Nat.reduceAdd, Nat.reduceMul, Nat.reduceLT, Nat.reduceBEq, Nat.reduceLeDiff, Nat.reduceEqDiff]
      repeat' (first | (refine And.intro ?_ ?_) | intro _ | (refine callQ_intro (eqStep_ok _ _) ?_; try (simp (disch := exact eqId (by kernel_rfl)) only [go_sem, ↓reduceIte, Nat.reduceAdd, Nat.reduceMul, Nat.reduceLT, Nat.reduceBEq, Nat.reduceLeDiff, Nat.reduceEqDiff])))
      all_goals (try omega)
      · rename_i hk _ hne
        refine Eq.symm (eqC_f.mpr ?_)
        rintro rfl
        simp_all [eqC_f]
      · rename_i hk _ he
        have hk : d < a.length := by omega
        refine back_intro (d + 1) ?_ ?_ (sub_shp hN [] ?_)
        · refine ⟨hk, ?_⟩
          rw [take_getD hk ((tStep : Ty).dflt), take_getD (show d < b.length by omega) ((tStep : Ty).dflt), h2]
          try simp only [eqC_t] at he
          first | rw [he] | (simp_all; done)
        · omega
        · simp (disch := exact eqId (by kernel_rfl)) only [go_sem, ↓reduceIte, Nat.reduceAdd, Nat.reduceMul, Nat.reduceLT, Nat.reduceBEq, Nat.reduceLeDiff, Nat.reduceEqDiff]
          exact wrap_succ hk hw.1.1
      · have hk : d = a.length := by omega
        refine Eq.symm (eqC_t.mpr ?_)
        rw [hk, List.take_length, hl, List.take_length] at h2
        exact h2
theorem eqPiece_ok (a b : tPiece.den) : FunOK Try.prog 33 [⟨tPiece, a⟩, ⟨tPiece, b⟩] (.rd .bool (eqC a b)) := by
  refine fun_of (tb := tb) follows Try.func33 (by kernel_rfl) Try.ntmps33 rfl rfl rfl ?_
  intro cx hN hw
  simp (disch := exact eqId (by kernel_rfl)) only [go_sem, ↓reduceIte, Nat.reduceAdd, Nat.reduceMul, Nat.reduceLT, Nat.reduceBEq, Nat.reduceLeDiff, Nat.reduceEqDiff]
  repeat' (first | (refine And.intro ?_ ?_) | intro _ | (refine callQ_intro (eqIntS_ok _ _) ?_; try (simp (disch := exact eqId (by kernel_rfl)) only [go_sem, ↓reduceIte, Nat.reduceAdd, Nat.reduceMul, Nat.reduceLT, Nat.reduceBEq, Nat.reduceLeDiff, Nat.reduceEqDiff])))
  all_goals (try simp only [eqC_t, eqC_f] at *)
  all_goals first
    | (refine Eq.symm (eqC_f.mpr ?_); rintro rfl; simp_all; done)
    | (refine Eq.symm (eqC_t.mpr ?_); obtain ⟨a0, a1, a2, _⟩ := a; obtain ⟨b0, b1, b2, _⟩ := b; simp_all; done)
theorem eqPieceS_ok (a b : List (tPiece : Ty).den) : FunOK Try.prog 87 [⟨(.list tPiece), a⟩, ⟨(.list tPiece), b⟩] (.rd .bool (eqC a b)) := by
  refine fun_of (tb := tb) follows Try.func87 (by kernel_rfl) Try.ntmps87 rfl rfl rfl ?_
  intro cx hN hw
  simp (disch := exact eqId (by kernel_rfl)) only [go_sem, ↓reduceIte, Nat.reduceAdd, Nat.reduceMul, Nat.reduceLT, Nat.reduceBEq, Nat.reduceLeDiff, Nat.reduceEqDiff]
  repeat' (first | (refine And.intro ?_ ?_) | intro _)
  all_goals (try omega)
  · refine Eq.symm (eqC_f.mpr ?_); rintro rfl; simp_all
  · have hl : a.length = b.length := by omega
    refine loop_intro (tb := tb) follows hN (D := Nat) (fun d => shp [(0, .rd (.list tPiece) (a)), (1, .rd (.list tPiece) (b)), (5, .rd I (d : Int))] []) (fun d => d ≤ a.length ∧ a.take d = b.take d) (fun d => a.length - d) (0) ?_ (sub_shp hN [] ?_) (fun d hd => ?_)
    · exact ⟨Nat.zero_le _, rfl⟩
    · simp (disch := exact eqId (by kernel_rfl)) only [go_sem, ↓reduceIte, Nat.reduceAdd, Nat.reduceMul, Nat.reduceLT, Nat.reduceBEq, Nat.reduceLeDiff, Nat.reduceEqDiff]
      rfl
    · obtain ⟨h1, h2⟩ := hd
      simp (disch := exact eqId (by kernel_rfl)) only [go_sem, ↓reduceIte, Nat.reduceAdd, Nat.reduceMul, Nat.reduceLT, Nat.reduceBEq, Nat.reduceLeDiff, Nat.reduceEqDiff]
      repeat' (first | (refine And.intro ?_ ?_) | intro _ | (refine callQ_intro (eqPiece_ok _ _) ?_; try (simp (disch := exact eqId (by kernel_rfl)) only [go_sem, ↓reduceIte, Nat.reduceAdd, Nat.reduceMul, Nat.reduceLT, Nat.reduceBEq, Nat.reduceLeDiff, Nat.reduceEqDiff])))
      all_goals (try omega)
      · rename_i hk _ hne
        refine Eq.symm (eqC_f.mpr ?_)
        rintro rfl
        simp_all [eqC_f]
      · rename_i hk _ he
        have hk : d < a.length := by omega
        refine back_intro (d + 1) ?_ ?_ (sub_shp hN [] ?_)
        · refine ⟨hk, ?_⟩
          rw [take_getD hk ((tPiece : Ty).dflt), take_getD (show d < b.length by omega) ((tPiece : Ty).dflt), h2]
          try simp only [eqC_t] at he
          first | rw [he] | (simp_all; done)
        · omega
        · simp (disch := exact eqId (by kernel_rfl)) only [go_sem, ↓reduceIte, Nat.reduceAdd, Nat.reduceMul, Nat.reduceLT, Nat.reduceBEq, Nat.reduceLeDiff, Nat.reduceEqDiff]
          exact wrap_succ hk hw.1.1
      · have hk : d = a.length := by omega
        refine Eq.symm (eqC_t.mpr ?_)
        rw [hk, List.take_length, hl, List.take_length] at h2
        exact h2
theorem eqRenewal_ok (a b : tRenewal.den) : FunOK Try.prog 98 [⟨tRenewal, a⟩, ⟨tRenewal, b⟩] (.rd .bool (eqC a b)) := by
  refine fun_of (tb := tb) follows Try.func98 (by kernel_rfl) Try.ntmps98 rfl rfl rfl ?_
  intro cx hN hw
  simp (disch := exact eqId (by kernel_rfl)) only [go_sem, ↓reduceIte, Nat.reduceAdd, Nat.reduceMul, Nat.reduceLT, Nat.reduceBEq, Nat.reduceLeDiff, Nat.reduceEqDiff]
  repeat' (first | (refine And.intro ?_ ?_) | intro _ | (refine callQ_intro (eqStepS_ok _ _) ?_; try (simp (disch := exact eqId (by kernel_rfl)) only [go_sem, ↓reduceIte, Nat.reduceAdd, Nat.reduceMul, Nat.reduceLT, Nat.reduceBEq, Nat.reduceLeDiff, Nat.reduceEqDiff])) | (refine callQ_intro (eqStampS_ok _ _) ?_; try (simp (disch := exact eqId (by kernel_rfl)) only [go_sem, ↓reduceIte, Nat.reduceAdd, Nat.reduceMul, Nat.reduceLT, Nat.reduceBEq, Nat.reduceLeDiff, Nat.reduceEqDiff])))
  all_goals (try simp only [eqC_t, eqC_f] at *)
  all_goals first
    | (refine Eq.symm (eqC_f.mpr ?_); rintro rfl; simp_all; done)
    | (refine Eq.symm (eqC_t.mpr ?_); obtain ⟨a0, a1, a2, a3, a4, _⟩ := a; obtain ⟨b0, b1, b2, b3, b4, _⟩ := b; simp_all; done)
end Go.Proofs.Ytaeieogcibhhkaa
