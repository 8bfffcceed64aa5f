/- What the laws' own helpers answer: comparisons. It proves nothing of a statement by itself. -/
import Derived.Test.YtkneckknjmahdaaGreatG
set_option linter.unusedSimpArgs false
set_option linter.unusedVariables false
set_option maxRecDepth 100000
namespace Go.Proofs.YtkneckknjmahdaaGreat
open Go.AL
theorem eqIntS_ok (a b : List (I : Ty).den) : FunOK Tryz.prog 17 [⟨(.list I), a⟩, ⟨(.list I), b⟩] (.rd .bool (eqC a b)) := by
  refine fun_of (tb := tb) follows Tryz.func17 (by kernel_rfl) Tryz.ntmps17 rfl rfl rfl ?_
  intro cx hN hw
  simp (disch := exact eqId (by kernel_rfl)) only [go_sem, ↓reduceIte, Nat.reduceAdd, Nat.reduceMul, Nat.reduceLT, Nat.reduceBEq, Nat.reduceLeDiff, Nat.reduceEqDiff, Int.reduceToNat]
  repeat' (first | (refine And.intro ?_ ?_) | intro _)
  all_goals (try omega)
  · refine Eq.symm (eqC_f.mpr ?_); rintro rfl; simp_all
  · have hl : a.length = b.length := by omega
    refine loop_intro (tb := tb) follows hN (D := Nat) (fun d => shp [(0, .rd (.list I) (a)), (1, .rd (.list I) (b)), (5, .rd I (d : Int))] []) (fun d => d ≤ a.length ∧ a.take d = b.take d) (fun d => a.length - d) (0) ?_ (sub_shp hN [] ?_) (fun d hd => ?_)
    · exact ⟨Nat.zero_le _, rfl⟩
    · simp (disch := exact eqId (by kernel_rfl)) only [go_sem, ↓reduceIte, Nat.reduceAdd, Nat.reduceMul, Nat.reduceLT, Nat.reduceBEq, Nat.reduceLeDiff, Nat.reduceEqDiff, Int.reduceToNat]
      rfl
    · obtain ⟨h1, h2⟩ := hd
      simp (disch := exact eqId (by kernel_rfl)) only [go_sem, ↓reduceIte, Nat.reduceAdd, Nat.reduceMul, Nat.reduceLT, Nat.reduceBEq, Nat.reduceLeDiff, Nat.reduceEqDiff, Int.reduceToNat]
      repeat' (first | (refine And.intro ?_ ?_) | intro _)
      all_goals (try omega)
      · rename_i hk _ hne
        refine Eq.symm (eqC_f.mpr ?_)
        rintro rfl
        simp_all [eqC_f]
      · rename_i hk _ he
        have hk : d < a.length := by omega
        refine back_intro (d + 1) ?_ ?_ (sub_shp hN [] ?_)
        · refine ⟨hk, ?_⟩
          rw [take_getD hk ((I : Ty).dflt), take_getD (show d < b.length by omega) ((I : Ty).dflt), h2]
          try simp only [eqC_t] at he
          first | rw [he] | (simp_all; done)
        · omega
        · simp (disch := exact eqId (by kernel_rfl)) only [go_sem, ↓reduceIte, Nat.reduceAdd, Nat.reduceMul, Nat.reduceLT, Nat.reduceBEq, Nat.reduceLeDiff, Nat.reduceEqDiff, Int.reduceToNat]
          exact wrap_succ hk hw.1.1
      · have hk : d = a.length := by omega
        refine Eq.symm (eqC_t.mpr ?_)
        rw [hk, List.take_length, hl, List.take_length] at h2
        exact h2
theorem eqStamp_ok (a b : tStamp.den) : FunOK Tryz.prog 129 [⟨tStamp, a⟩, ⟨tStamp, b⟩] (.rd .bool (eqC a b)) := by
  refine fun_of (tb := tb) follows Tryz.func129 (by kernel_rfl) Tryz.ntmps129 rfl rfl rfl ?_
  intro cx hN hw
  simp (disch := exact eqId (by kernel_rfl)) only [go_sem, ↓reduceIte, Nat.reduceAdd, Nat.reduceMul, Nat.reduceLT, Nat.reduceBEq, Nat.reduceLeDiff, Nat.reduceEqDiff, Int.reduceToNat]
  repeat' (first | (refine And.intro ?_ ?_) | intro _)
  all_goals (try simp only [eqC_t, eqC_f] at *)
  all_goals first
    | (refine Eq.symm (eqC_f.mpr ?_); rintro rfl; simp_all; done)
    | (refine Eq.symm (eqC_t.mpr ?_); obtain ⟨a0, a1, a2, a3, a4, _⟩ := a; obtain ⟨b0, b1, b2, b3, b4, _⟩ := b; simp_all; done)
theorem eqStampS_ok (a b : List (tStamp : Ty).den) : FunOK Tryz.prog 101 [⟨(.list tStamp), a⟩, ⟨(.list tStamp), b⟩] (.rd .bool (eqC a b)) := by
  refine fun_of (tb := tb) follows Tryz.func101 (by kernel_rfl) Tryz.ntmps101 rfl rfl rfl ?_
  intro cx hN hw
  simp (disch := exact eqId (by kernel_rfl)) only [go_sem, ↓reduceIte, Nat.reduceAdd, Nat.reduceMul, Nat.reduceLT, Nat.reduceBEq, Nat.reduceLeDiff, Nat.reduceEqDiff, Int.reduceToNat]
  repeat' (first | (refine And.intro ?_ ?_) | intro _)
  all_goals (try omega)
  · refine Eq.symm (eqC_f.mpr ?_); rintro rfl; simp_all
  · have hl : a.length = b.length := by omega
    refine loop_intro (tb := tb) follows hN (D := Nat) (fun d => shp [(0, .rd (.list tStamp) (a)), (1, .rd (.list tStamp) (b)), (5, .rd I (d : Int))] []) (fun d => d ≤ a.length ∧ a.take d = b.take d) (fun d => a.length - d) (0) ?_ (sub_shp hN [] ?_) (fun d hd => ?_)
    · exact ⟨Nat.zero_le _, rfl⟩
    · simp (disch := exact eqId (by kernel_rfl)) only [go_sem, ↓reduceIte, Nat.reduceAdd, Nat.reduceMul, Nat.reduceLT, Nat.reduceBEq, Nat.reduceLeDiff, Nat.reduceEqDiff, Int.reduceToNat]
      rfl
    · obtain ⟨h1, h2⟩ := hd
      simp (disch := exact eqId (by kernel_rfl)) only [go_sem, ↓reduceIte, Nat.reduceAdd, Nat.reduceMul, Nat.reduceLT, Nat.reduceBEq, Nat.reduceLeDiff, Nat.reduceEqDiff, Int.reduceToNat]
      repeat' (first | (refine And.intro ?_ ?_) | intro _ | (refine callQ_intro (eqStamp_ok _ _) ?_; try (simp (disch := exact eqId (by kernel_rfl)) only [go_sem, ↓reduceIte, Nat.reduceAdd, Nat.reduceMul, Nat.reduceLT, Nat.reduceBEq, Nat.reduceLeDiff, Nat.reduceEqDiff, Int.reduceToNat])) | (refine callH_intro (fun hcc => eqStamp_ok _ _) ?_; try (simp (disch := exact eqId (by kernel_rfl)) only [go_sem, ↓reduceIte, Nat.reduceAdd, Nat.reduceMul, Nat.reduceLT, Nat.reduceBEq, Nat.reduceLeDiff, Nat.reduceEqDiff, Int.reduceToNat])))
      all_goals (try omega)
      · rename_i hk _ hne
        refine Eq.symm (eqC_f.mpr ?_)
        rintro rfl
        simp_all [eqC_f]
      · rename_i hk _ he
        have hk : d < a.length := by omega
        refine back_intro (d + 1) ?_ ?_ (sub_shp hN [] ?_)
        · refine ⟨hk, ?_⟩
          rw [take_getD hk ((tStamp : Ty).dflt), take_getD (show d < b.length by omega) ((tStamp : Ty).dflt), h2]
          try simp only [eqC_t] at he
          first | rw [he] | (simp_all; done)
        · omega
        · simp (disch := exact eqId (by kernel_rfl)) only [go_sem, ↓reduceIte, Nat.reduceAdd, Nat.reduceMul, Nat.reduceLT, Nat.reduceBEq, Nat.reduceLeDiff, Nat.reduceEqDiff, Int.reduceToNat]
          exact wrap_succ hk hw.1.1
      · have hk : d = a.length := by omega
        refine Eq.symm (eqC_t.mpr ?_)
        rw [hk, List.take_length, hl, List.take_length] at h2
        exact h2
theorem eqKey_ok (a b : tKey.den) : FunOK Tryz.prog 80 [⟨tKey, a⟩, ⟨tKey, b⟩] (.rd .bool (eqC a b)) := by
  refine fun_of (tb := tb) follows Tryz.func80 (by kernel_rfl) Tryz.ntmps80 rfl rfl rfl ?_
  intro cx hN hw
  simp (disch := exact eqId (by kernel_rfl)) only [go_sem, ↓reduceIte, Nat.reduceAdd, Nat.reduceMul, Nat.reduceLT, Nat.reduceBEq, Nat.reduceLeDiff, Nat.reduceEqDiff, Int.reduceToNat]
  repeat' (first | (refine And.intro ?_ ?_) | intro _)
  all_goals (try simp only [eqC_t, eqC_f] at *)
  all_goals first
    | (refine Eq.symm (eqC_f.mpr ?_); rintro rfl; simp_all; done)
    | (refine Eq.symm (eqC_t.mpr ?_); obtain ⟨a0, a1, a2, a3, a4, _⟩ := a; obtain ⟨b0, b1, b2, b3, b4, _⟩ := b; simp_all; done)
theorem eqKeyS_ok (a b : List (tKey : Ty).den) : FunOK Tryz.prog 44 [⟨(.list tKey), a⟩, ⟨(.list tKey), b⟩] (.rd .bool (eqC a b)) := by
  refine fun_of (tb := tb) follows Tryz.func44 (by kernel_rfl) Tryz.ntmps44 rfl rfl rfl ?_
  intro cx hN hw
  simp (disch := exact eqId (by kernel_rfl)) only [go_sem, ↓reduceIte, Nat.reduceAdd, Nat.reduceMul, Nat.reduceLT, Nat.reduceBEq, Nat.reduceLeDiff, Nat.reduceEqDiff, Int.reduceToNat]
  repeat' (first | (refine And.intro ?_ ?_) | intro _)
  all_goals (try omega)
  · refine Eq.symm (eqC_f.mpr ?_); rintro rfl; simp_all
  · have hl : a.length = b.length := by omega
    refine loop_intro (tb := tb) follows hN (D := Nat) (fun d => shp [(0, .rd (.list tKey) (a)), (1, .rd (.list tKey) (b)), (5, .rd I (d : Int))] []) (fun d => d ≤ a.length ∧ a.take d = b.take d) (fun d => a.length - d) (0) ?_ (sub_shp hN [] ?_) (fun d hd => ?_)
    · exact ⟨Nat.zero_le _, rfl⟩
    · simp (disch := exact eqId (by kernel_rfl)) only [go_sem, ↓reduceIte, Nat.reduceAdd, Nat.reduceMul, Nat.reduceLT, Nat.reduceBEq, Nat.reduceLeDiff, Nat.reduceEqDiff, Int.reduceToNat]
      rfl
    · obtain ⟨h1, h2⟩ := hd
      simp (disch := exact eqId (by kernel_rfl)) only [go_sem, ↓reduceIte, Nat.reduceAdd, Nat.reduceMul, Nat.reduceLT, Nat.reduceBEq, Nat.reduceLeDiff, Nat.reduceEqDiff, Int.reduceToNat]
      repeat' (first | (refine And.intro ?_ ?_) | intro _ | (refine callQ_intro (eqKey_ok _ _) ?_; try (simp (disch := exact eqId (by kernel_rfl)) only [go_sem, ↓reduceIte, Nat.reduceAdd, Nat.reduceMul, Nat.reduceLT, Nat.reduceBEq, Nat.reduceLeDiff, Nat.reduceEqDiff, Int.reduceToNat])) | (refine callH_intro (fun hcc => eqKey_ok _ _) ?_; try (simp (disch := exact eqId (by kernel_rfl)) only [go_sem, ↓reduceIte, Nat.reduceAdd, Nat.reduceMul, Nat.reduceLT, Nat.reduceBEq, Nat.reduceLeDiff, Nat.reduceEqDiff, Int.reduceToNat])))
      all_goals (try omega)
      · rename_i hk _ hne
        refine Eq.symm (eqC_f.mpr ?_)
        rintro rfl
        simp_all [eqC_f]
      · rename_i hk _ he
        have hk : d < a.length := by omega
        refine back_intro (d + 1) ?_ ?_ (sub_shp hN [] ?_)
        · refine ⟨hk, ?_⟩
          rw [take_getD hk ((tKey : Ty).dflt), take_getD (show d < b.length by omega) ((tKey : Ty).dflt), h2]
          try simp only [eqC_t] at he
          first | rw [he] | (simp_all; done)
        · omega
        · simp (disch := exact eqId (by kernel_rfl)) only [go_sem, ↓reduceIte, Nat.reduceAdd, Nat.reduceMul, Nat.reduceLT, Nat.reduceBEq, Nat.reduceLeDiff, Nat.reduceEqDiff, Int.reduceToNat]
          exact wrap_succ hk hw.1.1
      · have hk : d = a.length := by omega
        refine Eq.symm (eqC_t.mpr ?_)
        rw [hk, List.take_length, hl, List.take_length] at h2
        exact h2
theorem eqAuthority_ok (a b : tAuthority.den) : FunOK Tryz.prog 81 [⟨tAuthority, a⟩, ⟨tAuthority, b⟩] (.rd .bool (eqC a b)) := by
  refine fun_of (tb := tb) follows Tryz.func81 (by kernel_rfl) Tryz.ntmps81 rfl rfl rfl ?_
  intro cx hN hw
  simp (disch := exact eqId (by kernel_rfl)) only [go_sem, ↓reduceIte, Nat.reduceAdd, Nat.reduceMul, Nat.reduceLT, Nat.reduceBEq, Nat.reduceLeDiff, Nat.reduceEqDiff, Int.reduceToNat]
  repeat' (first | (refine And.intro ?_ ?_) | intro _)
  all_goals (try simp only [eqC_t, eqC_f] at *)
  all_goals first
    | (refine Eq.symm (eqC_f.mpr ?_); rintro rfl; simp_all; done)
    | (refine Eq.symm (eqC_t.mpr ?_); obtain ⟨a0, a1, a2, _⟩ := a; obtain ⟨b0, b1, b2, _⟩ := b; simp_all; done)
theorem eqAuthorityS_ok (a b : List (tAuthority : Ty).den) : FunOK Tryz.prog 45 [⟨(.list tAuthority), a⟩, ⟨(.list tAuthority), b⟩] (.rd .bool (eqC a b)) := by
  refine fun_of (tb := tb) follows Tryz.func45 (by kernel_rfl) Tryz.ntmps45 rfl rfl rfl ?_
  intro cx hN hw
  simp (disch := exact eqId (by kernel_rfl)) only [go_sem, ↓reduceIte, Nat.reduceAdd, Nat.reduceMul, Nat.reduceLT, Nat.reduceBEq, Nat.reduceLeDiff, Nat.reduceEqDiff, Int.reduceToNat]
  repeat' (first | (refine And.intro ?_ ?_) | intro _)
  all_goals (try omega)
  · refine Eq.symm (eqC_f.mpr ?_); rintro rfl; simp_all
  · have hl : a.length = b.length := by omega
    refine loop_intro (tb := tb) follows hN (D := Nat) (fun d => shp [(0, .rd (.list tAuthority) (a)), (1, .rd (.list tAuthority) (b)), (5, .rd I (d : Int))] []) (fun d => d ≤ a.length ∧ a.take d = b.take d) (fun d => a.length - d) (0) ?_ (sub_shp hN [] ?_) (fun d hd => ?_)
    · exact ⟨Nat.zero_le _, rfl⟩
    · simp (disch := exact eqId (by kernel_rfl)) only [go_sem, ↓reduceIte, Nat.reduceAdd, Nat.reduceMul, Nat.reduceLT, Nat.reduceBEq, Nat.reduceLeDiff, Nat.reduceEqDiff, Int.reduceToNat]
      rfl
    · obtain ⟨h1, h2⟩ := hd
      simp (disch := exact eqId (by kernel_rfl)) only [go_sem, ↓reduceIte, Nat.reduceAdd, Nat.reduceMul, Nat.reduceLT, Nat.reduceBEq, Nat.reduceLeDiff, Nat.reduceEqDiff, Int.reduceToNat]
      repeat' (first | (refine And.intro ?_ ?_) | intro _ | (refine callQ_intro (eqAuthority_ok _ _) ?_; try (simp (disch := exact eqId (by kernel_rfl)) only [go_sem, ↓reduceIte, Nat.reduceAdd, Nat.reduceMul, Nat.reduceLT, Nat.reduceBEq, Nat.reduceLeDiff, Nat.reduceEqDiff, Int.reduceToNat])) | (refine callH_intro (fun hcc => eqAuthority_ok _ _) ?_; try (simp (disch := exact eqId (by kernel_rfl)) only [go_sem, ↓reduceIte, Nat.reduceAdd, Nat.reduceMul, Nat.reduceLT, Nat.reduceBEq, Nat.reduceLeDiff, Nat.reduceEqDiff, Int.reduceToNat])))
      all_goals (try omega)
      · rename_i hk _ hne
        refine Eq.symm (eqC_f.mpr ?_)
        rintro rfl
        simp_all [eqC_f]
      · rename_i hk _ he
        have hk : d < a.length := by omega
        refine back_intro (d + 1) ?_ ?_ (sub_shp hN [] ?_)
        · refine ⟨hk, ?_⟩
          rw [take_getD hk ((tAuthority : Ty).dflt), take_getD (show d < b.length by omega) ((tAuthority : Ty).dflt), h2]
          try simp only [eqC_t] at he
          first | rw [he] | (simp_all; done)
        · omega
        · simp (disch := exact eqId (by kernel_rfl)) only [go_sem, ↓reduceIte, Nat.reduceAdd, Nat.reduceMul, Nat.reduceLT, Nat.reduceBEq, Nat.reduceLeDiff, Nat.reduceEqDiff, Int.reduceToNat]
          exact wrap_succ hk hw.1.1
      · have hk : d = a.length := by omega
        refine Eq.symm (eqC_t.mpr ?_)
        rw [hk, List.take_length, hl, List.take_length] at h2
        exact h2
theorem eqMethod_ok (a b : tMethod.den) : FunOK Tryz.prog 82 [⟨tMethod, a⟩, ⟨tMethod, b⟩] (.rd .bool (eqC a b)) := by
  refine fun_of (tb := tb) follows Tryz.func82 (by kernel_rfl) Tryz.ntmps82 rfl rfl rfl ?_
  intro cx hN hw
  simp (disch := exact eqId (by kernel_rfl)) only [go_sem, ↓reduceIte, Nat.reduceAdd, Nat.reduceMul, Nat.reduceLT, Nat.reduceBEq, Nat.reduceLeDiff, Nat.reduceEqDiff, Int.reduceToNat]
  repeat' (first | (refine And.intro ?_ ?_) | intro _)
  all_goals (try simp only [eqC_t, eqC_f] at *)
  all_goals first
    | (refine Eq.symm (eqC_f.mpr ?_); rintro rfl; simp_all; done)
    | (refine Eq.symm (eqC_t.mpr ?_); obtain ⟨a0, a1, a2, a3, _⟩ := a; obtain ⟨b0, b1, b2, b3, _⟩ := b; simp_all; done)
theorem eqMethodS_ok (a b : List (tMethod : Ty).den) : FunOK Tryz.prog 46 [⟨(.list tMethod), a⟩, ⟨(.list tMethod), b⟩] (.rd .bool (eqC a b)) := by
  refine fun_of (tb := tb) follows Tryz.func46 (by kernel_rfl) Tryz.ntmps46 rfl rfl rfl ?_
  intro cx hN hw
  simp (disch := exact eqId (by kernel_rfl)) only [go_sem, ↓reduceIte, Nat.reduceAdd, Nat.reduceMul, Nat.reduceLT, Nat.reduceBEq, Nat.reduceLeDiff, Nat.reduceEqDiff, Int.reduceToNat]
  repeat' (first | (refine And.intro ?_ ?_) | intro _)
  all_goals (try omega)
  · refine Eq.symm (eqC_f.mpr ?_); rintro rfl; simp_all
  · have hl : a.length = b.length := by omega
    refine loop_intro (tb := tb) follows hN (D := Nat) (fun d => shp [(0, .rd (.list tMethod) (a)), (1, .rd (.list tMethod) (b)), (5, .rd I (d : Int))] []) (fun d => d ≤ a.length ∧ a.take d = b.take d) (fun d => a.length - d) (0) ?_ (sub_shp hN [] ?_) (fun d hd => ?_)
    · exact ⟨Nat.zero_le _, rfl⟩
    · simp (disch := exact eqId (by kernel_rfl)) only [go_sem, ↓reduceIte, Nat.reduceAdd, Nat.reduceMul, Nat.reduceLT, Nat.reduceBEq, Nat.reduceLeDiff, Nat.reduceEqDiff, Int.reduceToNat]
      rfl
    · obtain ⟨h1, h2⟩ := hd
      simp (disch := exact eqId (by kernel_rfl)) only [go_sem, ↓reduceIte, Nat.reduceAdd, Nat.reduceMul, Nat.reduceLT, Nat.reduceBEq, Nat.reduceLeDiff, Nat.reduceEqDiff, Int.reduceToNat]
      repeat' (first | (refine And.intro ?_ ?_) | intro _ | (refine callQ_intro (eqMethod_ok _ _) ?_; try (simp (disch := exact eqId (by kernel_rfl)) only [go_sem, ↓reduceIte, Nat.reduceAdd, Nat.reduceMul, Nat.reduceLT, Nat.reduceBEq, Nat.reduceLeDiff, Nat.reduceEqDiff, Int.reduceToNat])) | (refine callH_intro (fun hcc => eqMethod_ok _ _) ?_; try (simp (disch := exact eqId (by kernel_rfl)) only [go_sem, ↓reduceIte, Nat.reduceAdd, Nat.reduceMul, Nat.reduceLT, Nat.reduceBEq, Nat.reduceLeDiff, Nat.reduceEqDiff, Int.reduceToNat])))
      all_goals (try omega)
      · rename_i hk _ hne
        refine Eq.symm (eqC_f.mpr ?_)
        rintro rfl
        simp_all [eqC_f]
      · rename_i hk _ he
        have hk : d < a.length := by omega
        refine back_intro (d + 1) ?_ ?_ (sub_shp hN [] ?_)
        · refine ⟨hk, ?_⟩
          rw [take_getD hk ((tMethod : Ty).dflt), take_getD (show d < b.length by omega) ((tMethod : Ty).dflt), h2]
          try simp only [eqC_t] at he
          first | rw [he] | (simp_all; done)
        · omega
        · simp (disch := exact eqId (by kernel_rfl)) only [go_sem, ↓reduceIte, Nat.reduceAdd, Nat.reduceMul, Nat.reduceLT, Nat.reduceBEq, Nat.reduceLeDiff, Nat.reduceEqDiff, Int.reduceToNat]
          exact wrap_succ hk hw.1.1
      · have hk : d = a.length := by omega
        refine Eq.symm (eqC_t.mpr ?_)
        rw [hk, List.take_length, hl, List.take_length] at h2
        exact h2
theorem eqStep_ok (a b : tStep.den) : FunOK Tryz.prog 140 [⟨tStep, a⟩, ⟨tStep, b⟩] (.rd .bool (eqC a b)) := by
  refine fun_of (tb := tb) follows Tryz.func140 (by kernel_rfl) Tryz.ntmps140 rfl rfl rfl ?_
  intro cx hN hw
  simp (disch := exact eqId (by kernel_rfl)) only [go_sem, ↓reduceIte, Nat.reduceAdd, Nat.reduceMul, Nat.reduceLT, Nat.reduceBEq, Nat.reduceLeDiff, Nat.reduceEqDiff, Int.reduceToNat]
  repeat' (first | (refine And.intro ?_ ?_) | intro _)
  all_goals (try simp only [eqC_t, eqC_f] at *)
  all_goals first
    | (refine Eq.symm (eqC_f.mpr ?_); rintro rfl; simp_all; done)
    | (refine Eq.symm (eqC_t.mpr ?_); obtain ⟨a0, a1, _⟩ := a; obtain ⟨b0, b1, _⟩ := b; simp_all; done)
theorem eqStepS_ok (a b : List (tStep : Ty).den) : FunOK Tryz.prog 113 [⟨(.list tStep), a⟩, ⟨(.list tStep), b⟩] (.rd .bool (eqC a b)) := by
  refine fun_of (tb := tb) follows Tryz.func113 (by kernel_rfl) Tryz.ntmps113 rfl rfl rfl ?_
  intro cx hN hw
  simp (disch := exact eqId (by kernel_rfl)) only [go_sem, ↓reduceIte, Nat.reduceAdd, Nat.reduceMul, Nat.reduceLT, Nat.reduceBEq, Nat.reduceLeDiff, Nat.reduceEqDiff, Int.reduceToNat]
  repeat' (first | (refine And.intro ?_ ?_) | intro _)
  all_goals (try omega)
  · refine Eq.symm (eqC_f.mpr ?_); rintro rfl; simp_all
  · have hl : a.length = b.length := by omega
    refine loop_intro (tb := tb) follows hN (D := Nat) (fun d => shp [(0, .rd (.list tStep) (a)), (1, .rd (.list tStep) (b)), (5, .rd I (d : Int))] []) (fun d => d ≤ a.length ∧ a.take d = b.take d) (fun d => a.length - d) (0) ?_ (sub_shp hN [] ?_) (fun d hd => ?_)
    · exact ⟨Nat.zero_le _, rfl⟩
    · simp (disch := exact eqId (by kernel_rfl)) only [go_sem, ↓reduceIte, Nat.reduceAdd, Nat.reduceMul, Nat.reduceLT, Nat.reduceBEq, Nat.reduceLeDiff, Nat.reduceEqDiff, Int.reduceToNat]
      rfl
    · obtain ⟨h1, h2⟩ := hd
      simp (disch := exact eqId (by kernel_rfl)) only [go_sem, ↓reduceIte, Nat.reduceAdd, Nat.reduceMul, Nat.reduceLT, Nat.reduceBEq, Nat.reduceLeDiff, Nat.reduceEqDiff, Int.reduceToNat]
      repeat' (first | (refine And.intro ?_ ?_) | intro _ | (refine callQ_intro (eqStep_ok _ _) ?_; try (simp (disch := exact eqId (by kernel_rfl)) only [go_sem, ↓reduceIte, Nat.reduceAdd, Nat.reduceMul, Nat.reduceLT, Nat.reduceBEq, Nat.reduceLeDiff, Nat.reduceEqDiff, Int.reduceToNat])) | (refine callH_intro (fun hcc => eqStep_ok _ _) ?_; try (simp (disch := exact eqId (by kernel_rfl)) only [go_sem, ↓reduceIte, Nat.reduceAdd, Nat.reduceMul, Nat.reduceLT, Nat.reduceBEq, Nat.reduceLeDiff, Nat.reduceEqDiff, Int.reduceToNat])))
      all_goals (try omega)
      · rename_i hk _ hne
        refine Eq.symm (eqC_f.mpr ?_)
        rintro rfl
        simp_all [eqC_f]
      · rename_i hk _ he
        have hk : d < a.length := by omega
        refine back_intro (d + 1) ?_ ?_ (sub_shp hN [] ?_)
        · refine ⟨hk, ?_⟩
          rw [take_getD hk ((tStep : Ty).dflt), take_getD (show d < b.length by omega) ((tStep : Ty).dflt), h2]
          try simp only [eqC_t] at he
          first | rw [he] | (simp_all; done)
        · omega
        · simp (disch := exact eqId (by kernel_rfl)) only [go_sem, ↓reduceIte, Nat.reduceAdd, Nat.reduceMul, Nat.reduceLT, Nat.reduceBEq, Nat.reduceLeDiff, Nat.reduceEqDiff, Int.reduceToNat]
          exact wrap_succ hk hw.1.1
      · have hk : d = a.length := by omega
        refine Eq.symm (eqC_t.mpr ?_)
        rw [hk, List.take_length, hl, List.take_length] at h2
        exact h2
theorem eqStampSS_ok (a b : List ((.list tStamp) : Ty).den) : FunOK Tryz.prog 70 [⟨(.list (.list tStamp)), a⟩, ⟨(.list (.list tStamp)), b⟩] (.rd .bool (eqC a b)) := by
  refine fun_of (tb := tb) follows Tryz.func70 (by kernel_rfl) Tryz.ntmps70 rfl rfl rfl ?_
  intro cx hN hw
  simp (disch := exact eqId (by kernel_rfl)) only [go_sem, ↓reduceIte, Nat.reduceAdd, Nat.reduceMul, Nat.reduceLT, Nat.reduceBEq, Nat.reduceLeDiff, Nat.reduceEqDiff, Int.reduceToNat]
  repeat' (first | (refine And.intro ?_ ?_) | intro _)
  all_goals (try omega)
  · refine Eq.symm (eqC_f.mpr ?_); rintro rfl; simp_all
  · have hl : a.length = b.length := by omega
    refine loop_intro (tb := tb) follows hN (D := Nat) (fun d => shp [(0, .rd (.list (.list tStamp)) (a)), (1, .rd (.list (.list tStamp)) (b)), (5, .rd I (d : Int))] []) (fun d => d ≤ a.length ∧ a.take d = b.take d) (fun d => a.length - d) (0) ?_ (sub_shp hN [] ?_) (fun d hd => ?_)
    · exact ⟨Nat.zero_le _, rfl⟩
    · simp (disch := exact eqId (by kernel_rfl)) only [go_sem, ↓reduceIte, Nat.reduceAdd, Nat.reduceMul, Nat.reduceLT, Nat.reduceBEq, Nat.reduceLeDiff, Nat.reduceEqDiff, Int.reduceToNat]
      rfl
    · obtain ⟨h1, h2⟩ := hd
      simp (disch := exact eqId (by kernel_rfl)) only [go_sem, ↓reduceIte, Nat.reduceAdd, Nat.reduceMul, Nat.reduceLT, Nat.reduceBEq, Nat.reduceLeDiff, Nat.reduceEqDiff, Int.reduceToNat]
      repeat' (first | (refine And.intro ?_ ?_) | intro _ | (refine callQ_intro (eqStampS_ok _ _) ?_; try (simp (disch := exact eqId (by kernel_rfl)) only [go_sem, ↓reduceIte, Nat.reduceAdd, Nat.reduceMul, Nat.reduceLT, Nat.reduceBEq, Nat.reduceLeDiff, Nat.reduceEqDiff, Int.reduceToNat])) | (refine callH_intro (fun hcc => eqStampS_ok _ _) ?_; try (simp (disch := exact eqId (by kernel_rfl)) only [go_sem, ↓reduceIte, Nat.reduceAdd, Nat.reduceMul, Nat.reduceLT, Nat.reduceBEq, Nat.reduceLeDiff, Nat.reduceEqDiff, Int.reduceToNat])))
      all_goals (try omega)
      · rename_i hk _ hne
        refine Eq.symm (eqC_f.mpr ?_)
        rintro rfl
        simp_all [eqC_f]
      · rename_i hk _ he
        have hk : d < a.length := by omega
        refine back_intro (d + 1) ?_ ?_ (sub_shp hN [] ?_)
        · refine ⟨hk, ?_⟩
          rw [take_getD hk (((.list tStamp) : Ty).dflt), take_getD (show d < b.length by omega) (((.list tStamp) : Ty).dflt), h2]
          try simp only [eqC_t] at he
          first | rw [he] | (simp_all; done)
        · omega
        · simp (disch := exact eqId (by kernel_rfl)) only [go_sem, ↓reduceIte, Nat.reduceAdd, Nat.reduceMul, Nat.reduceLT, Nat.reduceBEq, Nat.reduceLeDiff, Nat.reduceEqDiff, Int.reduceToNat]
          exact wrap_succ hk hw.1.1
      · have hk : d = a.length := by omega
        refine Eq.symm (eqC_t.mpr ?_)
        rw [hk, List.take_length, hl, List.take_length] at h2
        exact h2
theorem eqPiece_ok (a b : tPiece.den) : FunOK Tryz.prog 24 [⟨tPiece, a⟩, ⟨tPiece, b⟩] (.rd .bool (eqC a b)) := by
  refine fun_of (tb := tb) follows Tryz.func24 (by kernel_rfl) Tryz.ntmps24 rfl rfl rfl ?_
  intro cx hN hw
  simp (disch := exact eqId (by kernel_rfl)) only [go_sem, ↓reduceIte, Nat.reduceAdd, Nat.reduceMul, Nat.reduceLT, Nat.reduceBEq, Nat.reduceLeDiff, Nat.reduceEqDiff, Int.reduceToNat]
  repeat' (first | (refine And.intro ?_ ?_) | intro _ | (refine callQ_intro (eqIntS_ok _ _) ?_; try (simp (disch := exact eqId (by kernel_rfl)) only [go_sem, ↓reduceIte, Nat.reduceAdd, Nat.reduceMul, Nat.reduceLT, Nat.reduceBEq, Nat.reduceLeDiff, Nat.reduceEqDiff, Int.reduceToNat])) | (refine callH_intro (fun hcc => eqIntS_ok _ _) ?_; try (simp (disch := exact eqId (by kernel_rfl)) only [go_sem, ↓reduceIte, Nat.reduceAdd, Nat.reduceMul, Nat.reduceLT, Nat.reduceBEq, Nat.reduceLeDiff, Nat.reduceEqDiff, Int.reduceToNat])))
  all_goals (try simp only [eqC_t, eqC_f] at *)
  all_goals first
    | (refine Eq.symm (eqC_f.mpr ?_); rintro rfl; simp_all; done)
    | (refine Eq.symm (eqC_t.mpr ?_); obtain ⟨a0, a1, a2, _⟩ := a; obtain ⟨b0, b1, b2, _⟩ := b; simp_all; done)
theorem eqPieceS_ok (a b : List (tPiece : Ty).den) : FunOK Tryz.prog 33 [⟨(.list tPiece), a⟩, ⟨(.list tPiece), b⟩] (.rd .bool (eqC a b)) := by
  refine fun_of (tb := tb) follows Tryz.func33 (by kernel_rfl) Tryz.ntmps33 rfl rfl rfl ?_
  intro cx hN hw
  simp (disch := exact eqId (by kernel_rfl)) only [go_sem, ↓reduceIte, Nat.reduceAdd, Nat.reduceMul, Nat.reduceLT, Nat.reduceBEq, Nat.reduceLeDiff, Nat.reduceEqDiff, Int.reduceToNat]
  repeat' (first | (refine And.intro ?_ ?_) | intro _)
  all_goals (try omega)
  · refine Eq.symm (eqC_f.mpr ?_); rintro rfl; simp_all
  · have hl : a.length = b.length := by omega
    refine loop_intro (tb := tb) follows hN (D := Nat) (fun d => shp [(0, .rd (.list tPiece) (a)), (1, .rd (.list tPiece) (b)), (5, .rd I (d : Int))] []) (fun d => d ≤ a.length ∧ a.take d = b.take d) (fun d => a.length - d) (0) ?_ (sub_shp hN [] ?_) (fun d hd => ?_)
    · exact ⟨Nat.zero_le _, rfl⟩
    · simp (disch := exact eqId (by kernel_rfl)) only [go_sem, ↓reduceIte, Nat.reduceAdd, Nat.reduceMul, Nat.reduceLT, Nat.reduceBEq, Nat.reduceLeDiff, Nat.reduceEqDiff, Int.reduceToNat]
      rfl
    · obtain ⟨h1, h2⟩ := hd
      simp (disch := exact eqId (by kernel_rfl)) only [go_sem, ↓reduceIte, Nat.reduceAdd, Nat.reduceMul, Nat.reduceLT, Nat.reduceBEq, Nat.reduceLeDiff, Nat.reduceEqDiff, Int.reduceToNat]
      repeat' (first | (refine And.intro ?_ ?_) | intro _ | (refine callQ_intro (eqPiece_ok _ _) ?_; try (simp (disch := exact eqId (by kernel_rfl)) only [go_sem, ↓reduceIte, Nat.reduceAdd, Nat.reduceMul, Nat.reduceLT, Nat.reduceBEq, Nat.reduceLeDiff, Nat.reduceEqDiff, Int.reduceToNat])) | (refine callH_intro (fun hcc => eqPiece_ok _ _) ?_; try (simp (disch := exact eqId (by kernel_rfl)) only [go_sem, ↓reduceIte, Nat.reduceAdd, Nat.reduceMul, Nat.reduceLT, Nat.reduceBEq, Nat.reduceLeDiff, Nat.reduceEqDiff, Int.reduceToNat])))
      all_goals (try omega)
      · rename_i hk _ hne
        refine Eq.symm (eqC_f.mpr ?_)
        rintro rfl
        simp_all [eqC_f]
      · rename_i hk _ he
        have hk : d < a.length := by omega
        refine back_intro (d + 1) ?_ ?_ (sub_shp hN [] ?_)
        · refine ⟨hk, ?_⟩
          rw [take_getD hk ((tPiece : Ty).dflt), take_getD (show d < b.length by omega) ((tPiece : Ty).dflt), h2]
          try simp only [eqC_t] at he
          first | rw [he] | (simp_all; done)
        · omega
        · simp (disch := exact eqId (by kernel_rfl)) only [go_sem, ↓reduceIte, Nat.reduceAdd, Nat.reduceMul, Nat.reduceLT, Nat.reduceBEq, Nat.reduceLeDiff, Nat.reduceEqDiff, Int.reduceToNat]
          exact wrap_succ hk hw.1.1
      · have hk : d = a.length := by omega
        refine Eq.symm (eqC_t.mpr ?_)
        rw [hk, List.take_length, hl, List.take_length] at h2
        exact h2
theorem eqRenewal_ok (a b : tRenewal.den) : FunOK Tryz.prog 83 [⟨tRenewal, a⟩, ⟨tRenewal, b⟩] (.rd .bool (eqC a b)) := by
  refine fun_of (tb := tb) follows Tryz.func83 (by kernel_rfl) Tryz.ntmps83 rfl rfl rfl ?_
  intro cx hN hw
  simp (disch := exact eqId (by kernel_rfl)) only [go_sem, ↓reduceIte, Nat.reduceAdd, Nat.reduceMul, Nat.reduceLT, Nat.reduceBEq, Nat.reduceLeDiff, Nat.reduceEqDiff, Int.reduceToNat]
  repeat' (first | (refine And.intro ?_ ?_) | intro _ | (refine callQ_intro (eqStepS_ok _ _) ?_; try (simp (disch := exact eqId (by kernel_rfl)) only [go_sem, ↓reduceIte, Nat.reduceAdd, Nat.reduceMul, Nat.reduceLT, Nat.reduceBEq, Nat.reduceLeDiff, Nat.reduceEqDiff, Int.reduceToNat])) | (refine callH_intro (fun hcc => eqStepS_ok _ _) ?_; try (simp (disch := exact eqId (by kernel_rfl)) only [go_sem, ↓reduceIte, Nat.reduceAdd, Nat.reduceMul, Nat.reduceLT, Nat.reduceBEq, Nat.reduceLeDiff, Nat.reduceEqDiff, Int.reduceToNat])) | (refine callQ_intro (eqStampS_ok _ _) ?_; try (simp (disch := exact eqId (by kernel_rfl)) only [go_sem, ↓reduceIte, Nat.reduceAdd, Nat.reduceMul, Nat.reduceLT, Nat.reduceBEq, Nat.reduceLeDiff, Nat.reduceEqDiff, Int.reduceToNat])) | (refine callH_intro (fun hcc => eqStampS_ok _ _) ?_; try (simp (disch := exact eqId (by kernel_rfl)) only [go_sem, ↓reduceIte, Nat.reduceAdd, Nat.reduceMul, Nat.reduceLT, Nat.reduceBEq, Nat.reduceLeDiff, Nat.reduceEqDiff, Int.reduceToNat])))
  all_goals (try simp only [eqC_t, eqC_f] at *)
  all_goals first
    | (refine Eq.symm (eqC_f.mpr ?_); rintro rfl; simp_all; done)
    | (refine Eq.symm (eqC_t.mpr ?_); obtain ⟨a0, a1, a2, a3, a4, _⟩ := a; obtain ⟨b0, b1, b2, b3, b4, _⟩ := b; simp_all; done)
theorem eqRenewalS_ok (a b : List (tRenewal : Ty).den) : FunOK Tryz.prog 47 [⟨(.list tRenewal), a⟩, ⟨(.list tRenewal), b⟩] (.rd .bool (eqC a b)) := by
  refine fun_of (tb := tb) follows Tryz.func47 (by kernel_rfl) Tryz.ntmps47 rfl rfl rfl ?_
  intro cx hN hw
  simp (disch := exact eqId (by kernel_rfl)) only [go_sem, ↓reduceIte, Nat.reduceAdd, Nat.reduceMul, Nat.reduceLT, Nat.reduceBEq, Nat.reduceLeDiff, Nat.reduceEqDiff, Int.reduceToNat]
  repeat' (first | (refine And.intro ?_ ?_) | intro _)
  all_goals (try omega)
  · refine Eq.symm (eqC_f.mpr ?_); rintro rfl; simp_all
  · have hl : a.length = b.length := by omega
    refine loop_intro (tb := tb) follows hN (D := Nat) (fun d => shp [(0, .rd (.list tRenewal) (a)), (1, .rd (.list tRenewal) (b)), (5, .rd I (d : Int))] []) (fun d => d ≤ a.length ∧ a.take d = b.take d) (fun d => a.length - d) (0) ?_ (sub_shp hN [] ?_) (fun d hd => ?_)
    · exact ⟨Nat.zero_le _, rfl⟩
    · simp (disch := exact eqId (by kernel_rfl)) only [go_sem, ↓reduceIte, Nat.reduceAdd, Nat.reduceMul, Nat.reduceLT, Nat.reduceBEq, Nat.reduceLeDiff, Nat.reduceEqDiff, Int.reduceToNat]
      rfl
    · obtain ⟨h1, h2⟩ := hd
      simp (disch := exact eqId (by kernel_rfl)) only [go_sem, ↓reduceIte, Nat.reduceAdd, Nat.reduceMul, Nat.reduceLT, Nat.reduceBEq, Nat.reduceLeDiff, Nat.reduceEqDiff, Int.reduceToNat]
      repeat' (first | (refine And.intro ?_ ?_) | intro _ | (refine callQ_intro (eqRenewal_ok _ _) ?_; try (simp (disch := exact eqId (by kernel_rfl)) only [go_sem, ↓reduceIte, Nat.reduceAdd, Nat.reduceMul, Nat.reduceLT, Nat.reduceBEq, Nat.reduceLeDiff, Nat.reduceEqDiff, Int.reduceToNat])) | (refine callH_intro (fun hcc => eqRenewal_ok _ _) ?_; try (simp (disch := exact eqId (by kernel_rfl)) only [go_sem, ↓reduceIte, Nat.reduceAdd, Nat.reduceMul, Nat.reduceLT, Nat.reduceBEq, Nat.reduceLeDiff, Nat.reduceEqDiff, Int.reduceToNat])))
      all_goals (try omega)
      · rename_i hk _ hne
        refine Eq.symm (eqC_f.mpr ?_)
        rintro rfl
        simp_all [eqC_f]
      · rename_i hk _ he
        have hk : d < a.length := by omega
        refine back_intro (d + 1) ?_ ?_ (sub_shp hN [] ?_)
        · refine ⟨hk, ?_⟩
          rw [take_getD hk ((tRenewal : Ty).dflt), take_getD (show d < b.length by omega) ((tRenewal : Ty).dflt), h2]
          try simp only [eqC_t] at he
          first | rw [he] | (simp_all; done)
        · omega
        · simp (disch := exact eqId (by kernel_rfl)) only [go_sem, ↓reduceIte, Nat.reduceAdd, Nat.reduceMul, Nat.reduceLT, Nat.reduceBEq, Nat.reduceLeDiff, Nat.reduceEqDiff, Int.reduceToNat]
          exact wrap_succ hk hw.1.1
      · have hk : d = a.length := by omega
        refine Eq.symm (eqC_t.mpr ?_)
        rw [hk, List.take_length, hl, List.take_length] at h2
        exact h2
theorem eqStrand_ok (a b : tStrand.den) : FunOK Tryz.prog 16 [⟨tStrand, a⟩, ⟨tStrand, b⟩] (.rd .bool (eqC a b)) := by
  refine fun_of (tb := tb) follows Tryz.func16 (by kernel_rfl) Tryz.ntmps16 rfl rfl rfl ?_
  intro cx hN hw
  simp (disch := exact eqId (by kernel_rfl)) only [go_sem, ↓reduceIte, Nat.reduceAdd, Nat.reduceMul, Nat.reduceLT, Nat.reduceBEq, Nat.reduceLeDiff, Nat.reduceEqDiff, Int.reduceToNat]
  repeat' (first | (refine And.intro ?_ ?_) | intro _ | (refine callQ_intro (eqPieceS_ok _ _) ?_; try (simp (disch := exact eqId (by kernel_rfl)) only [go_sem, ↓reduceIte, Nat.reduceAdd, Nat.reduceMul, Nat.reduceLT, Nat.reduceBEq, Nat.reduceLeDiff, Nat.reduceEqDiff, Int.reduceToNat])) | (refine callH_intro (fun hcc => eqPieceS_ok _ _) ?_; try (simp (disch := exact eqId (by kernel_rfl)) only [go_sem, ↓reduceIte, Nat.reduceAdd, Nat.reduceMul, Nat.reduceLT, Nat.reduceBEq, Nat.reduceLeDiff, Nat.reduceEqDiff, Int.reduceToNat])) | (refine callQ_intro (eqRenewalS_ok _ _) ?_; try (simp (disch := exact eqId (by kernel_rfl)) only [go_sem, ↓reduceIte, Nat.reduceAdd, Nat.reduceMul, Nat.reduceLT, Nat.reduceBEq, Nat.reduceLeDiff, Nat.reduceEqDiff, Int.reduceToNat])) | (refine callH_intro (fun hcc => eqRenewalS_ok _ _) ?_; try (simp (disch := exact eqId (by kernel_rfl)) only [go_sem, ↓reduceIte, Nat.reduceAdd, Nat.reduceMul, Nat.reduceLT, Nat.reduceBEq, Nat.reduceLeDiff, Nat.reduceEqDiff, Int.reduceToNat])))
  all_goals (try simp only [eqC_t, eqC_f] at *)
  all_goals first
    | (refine Eq.symm (eqC_f.mpr ?_); rintro rfl; simp_all; done)
    | (refine Eq.symm (eqC_t.mpr ?_); obtain ⟨a0, a1, _⟩ := a; obtain ⟨b0, b1, _⟩ := b; simp_all; done)
theorem eqStrandS_ok (a b : List (tStrand : Ty).den) : FunOK Tryz.prog 69 [⟨(.list tStrand), a⟩, ⟨(.list tStrand), b⟩] (.rd .bool (eqC a b)) := by
  refine fun_of (tb := tb) follows Tryz.func69 (by kernel_rfl) Tryz.ntmps69 rfl rfl rfl ?_
  intro cx hN hw
  simp (disch := exact eqId (by kernel_rfl)) only [go_sem, ↓reduceIte, Nat.reduceAdd, Nat.reduceMul, Nat.reduceLT, Nat.reduceBEq, Nat.reduceLeDiff, Nat.reduceEqDiff, Int.reduceToNat]
  repeat' (first | (refine And.intro ?_ ?_) | intro _)
  all_goals (try omega)
  · refine Eq.symm (eqC_f.mpr ?_); rintro rfl; simp_all
  · have hl : a.length = b.length := by omega
    refine loop_intro (tb := tb) follows hN (D := Nat) (fun d => shp [(0, .rd (.list tStrand) (a)), (1, .rd (.list tStrand) (b)), (5, .rd I (d : Int))] []) (fun d => d ≤ a.length ∧ a.take d = b.take d) (fun d => a.length - d) (0) ?_ (sub_shp hN [] ?_) (fun d hd => ?_)
    · exact ⟨Nat.zero_le _, rfl⟩
    · simp (disch := exact eqId (by kernel_rfl)) only [go_sem, ↓reduceIte, Nat.reduceAdd, Nat.reduceMul, Nat.reduceLT, Nat.reduceBEq, Nat.reduceLeDiff, Nat.reduceEqDiff, Int.reduceToNat]
      rfl
    · obtain ⟨h1, h2⟩ := hd
      simp (disch := exact eqId (by kernel_rfl)) only [go_sem, ↓reduceIte, Nat.reduceAdd, Nat.reduceMul, Nat.reduceLT, Nat.reduceBEq, Nat.reduceLeDiff, Nat.reduceEqDiff, Int.reduceToNat]
      repeat' (first | (refine And.intro ?_ ?_) | intro _ | (refine callQ_intro (eqStrand_ok _ _) ?_; try (simp (disch := exact eqId (by kernel_rfl)) only [go_sem, ↓reduceIte, Nat.reduceAdd, Nat.reduceMul, Nat.reduceLT, Nat.reduceBEq, Nat.reduceLeDiff, Nat.reduceEqDiff, Int.reduceToNat])) | (refine callH_intro (fun hcc => eqStrand_ok _ _) ?_; try (simp (disch := exact eqId (by kernel_rfl)) only [go_sem, ↓reduceIte, Nat.reduceAdd, Nat.reduceMul, Nat.reduceLT, Nat.reduceBEq, Nat.reduceLeDiff, Nat.reduceEqDiff, Int.reduceToNat])))
      all_goals (try omega)
      · rename_i hk _ hne
        refine Eq.symm (eqC_f.mpr ?_)
        rintro rfl
        simp_all [eqC_f]
      · rename_i hk _ he
        have hk : d < a.length := by omega
        refine back_intro (d + 1) ?_ ?_ (sub_shp hN [] ?_)
        · refine ⟨hk, ?_⟩
          rw [take_getD hk ((tStrand : Ty).dflt), take_getD (show d < b.length by omega) ((tStrand : Ty).dflt), h2]
          try simp only [eqC_t] at he
          first | rw [he] | (simp_all; done)
        · omega
        · simp (disch := exact eqId (by kernel_rfl)) only [go_sem, ↓reduceIte, Nat.reduceAdd, Nat.reduceMul, Nat.reduceLT, Nat.reduceBEq, Nat.reduceLeDiff, Nat.reduceEqDiff, Int.reduceToNat]
          exact wrap_succ hk hw.1.1
      · have hk : d = a.length := by omega
        refine Eq.symm (eqC_t.mpr ?_)
        rw [hk, List.take_length, hl, List.take_length] at h2
        exact h2
theorem eqEvidence_ok (a b : tEvidence.den) : FunOK Tryz.prog 32 [⟨tEvidence, a⟩, ⟨tEvidence, b⟩] (.rd .bool (eqC a b)) := by
  refine fun_of (tb := tb) follows Tryz.func32 (by kernel_rfl) Tryz.ntmps32 rfl rfl rfl ?_
  intro cx hN hw
  simp (disch := exact eqId (by kernel_rfl)) only [go_sem, ↓reduceIte, Nat.reduceAdd, Nat.reduceMul, Nat.reduceLT, Nat.reduceBEq, Nat.reduceLeDiff, Nat.reduceEqDiff, Int.reduceToNat]
  repeat' (first | (refine And.intro ?_ ?_) | intro _ | (refine callQ_intro (eqStrandS_ok _ _) ?_; try (simp (disch := exact eqId (by kernel_rfl)) only [go_sem, ↓reduceIte, Nat.reduceAdd, Nat.reduceMul, Nat.reduceLT, Nat.reduceBEq, Nat.reduceLeDiff, Nat.reduceEqDiff, Int.reduceToNat])) | (refine callH_intro (fun hcc => eqStrandS_ok _ _) ?_; try (simp (disch := exact eqId (by kernel_rfl)) only [go_sem, ↓reduceIte, Nat.reduceAdd, Nat.reduceMul, Nat.reduceLT, Nat.reduceBEq, Nat.reduceLeDiff, Nat.reduceEqDiff, Int.reduceToNat])) | (refine callQ_intro (eqStampSS_ok _ _) ?_; try (simp (disch := exact eqId (by kernel_rfl)) only [go_sem, ↓reduceIte, Nat.reduceAdd, Nat.reduceMul, Nat.reduceLT, Nat.reduceBEq, Nat.reduceLeDiff, Nat.reduceEqDiff, Int.reduceToNat])) | (refine callH_intro (fun hcc => eqStampSS_ok _ _) ?_; try (simp (disch := exact eqId (by kernel_rfl)) only [go_sem, ↓reduceIte, Nat.reduceAdd, Nat.reduceMul, Nat.reduceLT, Nat.reduceBEq, Nat.reduceLeDiff, Nat.reduceEqDiff, Int.reduceToNat])))
  all_goals (try simp only [eqC_t, eqC_f] at *)
  all_goals first
    | (refine Eq.symm (eqC_f.mpr ?_); rintro rfl; simp_all; done)
    | (refine Eq.symm (eqC_t.mpr ?_); obtain ⟨a0, a1, _⟩ := a; obtain ⟨b0, b1, _⟩ := b; simp_all; done)
theorem eqFrame_ok (a b : tFrame.den) : FunOK Tryz.prog 15 [⟨tFrame, a⟩, ⟨tFrame, b⟩] (.rd .bool (eqC a b)) := by
  refine fun_of (tb := tb) follows Tryz.func15 (by kernel_rfl) Tryz.ntmps15 rfl rfl rfl ?_
  intro cx hN hw
  simp (disch := exact eqId (by kernel_rfl)) only [go_sem, ↓reduceIte, Nat.reduceAdd, Nat.reduceMul, Nat.reduceLT, Nat.reduceBEq, Nat.reduceLeDiff, Nat.reduceEqDiff, Int.reduceToNat]
  repeat' (first | (refine And.intro ?_ ?_) | intro _ | (refine callQ_intro (eqKeyS_ok _ _) ?_; try (simp (disch := exact eqId (by kernel_rfl)) only [go_sem, ↓reduceIte, Nat.reduceAdd, Nat.reduceMul, Nat.reduceLT, Nat.reduceBEq, Nat.reduceLeDiff, Nat.reduceEqDiff, Int.reduceToNat])) | (refine callH_intro (fun hcc => eqKeyS_ok _ _) ?_; try (simp (disch := exact eqId (by kernel_rfl)) only [go_sem, ↓reduceIte, Nat.reduceAdd, Nat.reduceMul, Nat.reduceLT, Nat.reduceBEq, Nat.reduceLeDiff, Nat.reduceEqDiff, Int.reduceToNat])) | (refine callQ_intro (eqAuthorityS_ok _ _) ?_; try (simp (disch := exact eqId (by kernel_rfl)) only [go_sem, ↓reduceIte, Nat.reduceAdd, Nat.reduceMul, Nat.reduceLT, Nat.reduceBEq, Nat.reduceLeDiff, Nat.reduceEqDiff, Int.reduceToNat])) | (refine callH_intro (fun hcc => eqAuthorityS_ok _ _) ?_; try (simp (disch := exact eqId (by kernel_rfl)) only [go_sem, ↓reduceIte, Nat.reduceAdd, Nat.reduceMul, Nat.reduceLT, Nat.reduceBEq, Nat.reduceLeDiff, Nat.reduceEqDiff, Int.reduceToNat])) | (refine callQ_intro (eqMethodS_ok _ _) ?_; try (simp (disch := exact eqId (by kernel_rfl)) only [go_sem, ↓reduceIte, Nat.reduceAdd, Nat.reduceMul, Nat.reduceLT, Nat.reduceBEq, Nat.reduceLeDiff, Nat.reduceEqDiff, Int.reduceToNat])) | (refine callH_intro (fun hcc => eqMethodS_ok _ _) ?_; try (simp (disch := exact eqId (by kernel_rfl)) only [go_sem, ↓reduceIte, Nat.reduceAdd, Nat.reduceMul, Nat.reduceLT, Nat.reduceBEq, Nat.reduceLeDiff, Nat.reduceEqDiff, Int.reduceToNat])))
  all_goals (try simp only [eqC_t, eqC_f] at *)
  all_goals first
    | (refine Eq.symm (eqC_f.mpr ?_); rintro rfl; simp_all; done)
    | (refine Eq.symm (eqC_t.mpr ?_); obtain ⟨a0, a1, a2, a3, a4, _⟩ := a; obtain ⟨b0, b1, b2, b3, b4, _⟩ := b; simp_all; done)
end Go.Proofs.YtkneckknjmahdaaGreat
