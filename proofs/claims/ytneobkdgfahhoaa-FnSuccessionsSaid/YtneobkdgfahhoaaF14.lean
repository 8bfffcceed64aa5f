/- What the functions of successions and lines of keys answer, on both sides. It proves nothing of a statement by itself. -/
import Derived.Test.YtneobkdgfahhoaaPm
set_option linter.unusedSimpArgs false
set_option linter.unusedVariables false
set_option maxRecDepth 100000
namespace Go.Proofs.Ytneobkdgfahhoaa
open Go.AL
def sucI (x : tSuccession.den) : List Int := [106, x.1, x.2.1, x.2.2.1]
theorem suc_len (x : tSuccession.den) : (sucI x).length ≤ 1073741823 := by simp [sucI]
def finK (l : List tKey.den) (n : Int) : Int := finF (fun x : tKey.den => x.1) n l 0
def ownF (l : List tKey.den) (n : Int) : Int := if 0 ≤ finK l n then (l.getD (finK l n).toNat (0, 0, 0, 0, 0, ())).2.1 else -1
theorem finF_mem (q : Int) : ∀ (l : List Int) (i : Int), 0 ≤ i → (0 ≤ finF (fun x : Int => x) q l i ↔ q ∈ l)
  | [], i, h => by simp [finF]
  | x :: xs, i, h => by
    unfold finF
    split
    · rename_i e
      simp [e, h]
    · rename_i e
      rw [finF_mem q xs (i + 1) (by omega)]
      simp only [List.mem_cons]
      exact ⟨fun h => .inr h, fun h => h.resolve_left (fun h => e h.symm)⟩
theorem impl_indexOf_ok (l : List Int) (q : Int) : FunOK Try.prog 32 [⟨(.list I), l⟩, ⟨I, q⟩] (.rd I (finF (fun x : Int => x) q l 0)) := by
  refine fun_of (tb := tb) follows Try.func32 (by kernel_rfl) Try.ntmps32 rfl rfl rfl ?_
  intro cx hN hw
  simp (disch := exact eqId (by kernel_rfl)) only [go_sem, ↓reduceIte, Nat.reduceAdd, Nat.reduceMul, Nat.reduceLT, Nat.reduceBEq, Nat.reduceLeDiff, Nat.reduceEqDiff, Int.reduceToNat]
  refine loop_intro (tb := tb) follows hN (D := Nat) (fun d => shp [(1, .rd I (q : Int)), (7, .rd (.list I) (l)), (8, .rd I (((l).length : Int) : Int)), (9, .rd I (d : Int))] []) (fun d => d ≤ l.length ∧ finF (fun x : Int => x) q l 0 = finF (fun x : Int => x) q (l.drop d) d) (fun d => l.length - d) (0) ?_ (sub_shp hN [] ?_) (fun d hd => ?_)
  · exact ⟨Nat.zero_le _, rfl⟩
  · simp (disch := exact eqId (by kernel_rfl)) only [go_sem, ↓reduceIte, Nat.reduceAdd, Nat.reduceMul, Nat.reduceLT, Nat.reduceBEq, Nat.reduceLeDiff, Nat.reduceEqDiff, Int.reduceToNat]
    try rfl
  · obtain ⟨h1, h2⟩ := hd
    simp (disch := exact eqId (by kernel_rfl)) only [go_sem, ↓reduceIte, Nat.reduceAdd, Nat.reduceMul, Nat.reduceLT, Nat.reduceBEq, Nat.reduceLeDiff, Nat.reduceEqDiff, Int.reduceToNat]
    repeat' (first | (refine And.intro ?_ ?_) | intro _)
    all_goals (try omega)
    · rename_i hk he
      rw [h2, drop_getD (show d < l.length by omega) 0, finF, if_pos he]
    · rename_i hk he
      have hk : d < l.length := by omega
      refine back_intro (d + 1) ?_ ?_ (sub_shp hN [] ?_)
      · refine ⟨hk, ?_⟩
        rw [h2, drop_getD hk 0, finF, if_neg he]
        rfl
      · omega
      · simp (disch := exact eqId (by kernel_rfl)) only [go_sem, ↓reduceIte, Nat.reduceAdd, Nat.reduceMul, Nat.reduceLT, Nat.reduceBEq, Nat.reduceLeDiff, Nat.reduceEqDiff, Int.reduceToNat]
        exact wrap_succ hk hw.1.1
    · rename_i hk
      rw [h2, drop_end (show l.length ≤ d by omega)]
      rfl
theorem impl_hasInt_ok (l : List Int) (q : Int) : FunOK Try.prog 17 [⟨(.list I), l⟩, ⟨I, q⟩] (.rd .bool (decide (q ∈ l))) := by
  refine fun_of (tb := tb) follows Try.func17 (by kernel_rfl) Try.ntmps17 rfl rfl rfl ?_
  intro cx hN hw
  simp (disch := exact eqId (by kernel_rfl)) only [go_sem, ↓reduceIte, Nat.reduceAdd, Nat.reduceMul, Nat.reduceLT, Nat.reduceBEq, Nat.reduceLeDiff, Nat.reduceEqDiff, Int.reduceToNat]
  repeat' (first | (refine And.intro ?_ ?_) | intro _ | (refine callQ_intro (impl_indexOf_ok _ _) ?_; try (simp (disch := exact eqId (by kernel_rfl)) only [go_sem, ↓reduceIte, Nat.reduceAdd, Nat.reduceMul, Nat.reduceLT, Nat.reduceBEq, Nat.reduceLeDiff, Nat.reduceEqDiff, Int.reduceToNat])) | (refine callH_intro (fun hcc => impl_indexOf_ok _ _) ?_; try (simp (disch := exact eqId (by kernel_rfl)) only [go_sem, ↓reduceIte, Nat.reduceAdd, Nat.reduceMul, Nat.reduceLT, Nat.reduceBEq, Nat.reduceLeDiff, Nat.reduceEqDiff, Int.reduceToNat])))
  all_goals exact decide_eq_decide.mpr (finF_mem q l 0 (Int.le_refl 0))
theorem spec_l7Has_ok (l : List Int) (q : Int) : FunOK Try.prog 19 [⟨(.list I), l⟩, ⟨I, q⟩] (.rd .bool (decide (q ∈ l))) := by
  refine fun_of (tb := tb) follows Try.func19 (by kernel_rfl) Try.ntmps19 rfl rfl rfl ?_
  intro cx hN hw
  simp (disch := exact eqId (by kernel_rfl)) only [go_sem, ↓reduceIte, Nat.reduceAdd, Nat.reduceMul, Nat.reduceLT, Nat.reduceBEq, Nat.reduceLeDiff, Nat.reduceEqDiff, Int.reduceToNat]
  refine loop_intro (tb := tb) follows hN (D := Nat) (fun d => shp [(0, .rd (.list I) (l)), (1, .rd I (q : Int)), (5, .rd I (d : Int))] []) (fun d => d ≤ l.length ∧ (q ∈ l ↔ q ∈ l.drop d)) (fun d => l.length - d) (0) ?_ (sub_shp hN [] ?_) (fun d hd => ?_)
  · exact ⟨Nat.zero_le _, Iff.rfl⟩
  · simp (disch := exact eqId (by kernel_rfl)) only [go_sem, ↓reduceIte, Nat.reduceAdd, Nat.reduceMul, Nat.reduceLT, Nat.reduceBEq, Nat.reduceLeDiff, Nat.reduceEqDiff, Int.reduceToNat]
    try rfl
  · obtain ⟨h1, h2⟩ := hd
    simp (disch := exact eqId (by kernel_rfl)) only [go_sem, ↓reduceIte, Nat.reduceAdd, Nat.reduceMul, Nat.reduceLT, Nat.reduceBEq, Nat.reduceLeDiff, Nat.reduceEqDiff, Int.reduceToNat]
    repeat' (first | (refine And.intro ?_ ?_) | intro _)
    all_goals (try omega)
    · rename_i hk he
      symm
      rw [decide_eq_true_eq, h2, drop_getD (show d < l.length by omega) 0, he]
      exact List.mem_cons_self
    · rename_i hk he
      have hk : d < l.length := by omega
      refine back_intro (d + 1) ?_ ?_ (sub_shp hN [] ?_)
      · refine ⟨hk, h2.trans ?_⟩
        rw [drop_getD hk 0, List.mem_cons]
        exact ⟨fun h => h.resolve_left (fun e => he e.symm), fun h => .inr h⟩
      · omega
      · simp (disch := exact eqId (by kernel_rfl)) only [go_sem, ↓reduceIte, Nat.reduceAdd, Nat.reduceMul, Nat.reduceLT, Nat.reduceBEq, Nat.reduceLeDiff, Nat.reduceEqDiff, Int.reduceToNat]
        exact wrap_succ hk hw.1.1
    · rename_i hk
      symm
      rw [decide_eq_false_iff_not, h2, drop_end (show l.length ≤ d by omega)]
      exact List.not_mem_nil
theorem impl_OwnerOf_ok (l : List tKey.den) (n : Int) : FunOK Try.prog 9 [⟨(.list tKey), l⟩, ⟨I, n⟩] (.rd I (ownF l n)) := by
  have hf := finF_lt (fun x : tKey.den => x.1) n l 0
  refine fun_of (tb := tb) follows Try.func9 (by kernel_rfl) Try.ntmps9 rfl rfl rfl ?_
  intro cx hN hw
  simp (disch := exact eqId (by kernel_rfl)) only [go_sem, ↓reduceIte, Nat.reduceAdd, Nat.reduceMul, Nat.reduceLT, Nat.reduceBEq, Nat.reduceLeDiff, Nat.reduceEqDiff, Int.reduceToNat]
  repeat' (first | (refine And.intro ?_ ?_) | intro _ | (refine callQ_intro (impl_FindKey_ok _ _) ?_; try (simp (disch := exact eqId (by kernel_rfl)) only [go_sem, ↓reduceIte, Nat.reduceAdd, Nat.reduceMul, Nat.reduceLT, Nat.reduceBEq, Nat.reduceLeDiff, Nat.reduceEqDiff, Int.reduceToNat])) | (refine callH_intro (fun hcc => impl_FindKey_ok _ _) ?_; try (simp (disch := exact eqId (by kernel_rfl)) only [go_sem, ↓reduceIte, Nat.reduceAdd, Nat.reduceMul, Nat.reduceLT, Nat.reduceBEq, Nat.reduceLeDiff, Nat.reduceEqDiff, Int.reduceToNat])))
  all_goals (try omega)
  all_goals (unfold ownF finK; first | rw [if_pos (by omega)] | rw [if_neg (by omega)])
theorem impl_SuccessionInts_ok (x : tSuccession.den) : FunOK Try.prog 26 [⟨tSuccession, x⟩] (.own 3 I (sucI x)) := by
  refine fun_of (tb := tb) follows Try.func26 (by kernel_rfl) Try.ntmps26 rfl rfl rfl ?_
  intro cx hN hw
  simp (disch := exact eqId (by kernel_rfl)) only [go_sem, ↓reduceIte, Nat.reduceAdd, Nat.reduceMul, Nat.reduceLT, Nat.reduceBEq, Nat.reduceLeDiff, Nat.reduceEqDiff, Int.reduceToNat]
  try rfl
theorem spec_SuccessionInts_ok (x : tSuccession.den) : FunOK Try.prog 43 [⟨tSuccession, x⟩] (.own 3 I (sucI x)) := by
  refine fun_of (tb := tb) follows Try.func43 (by kernel_rfl) Try.ntmps43 rfl rfl rfl ?_
  intro cx hN hw
  simp (disch := exact eqId (by kernel_rfl)) only [go_sem, ↓reduceIte, Nat.reduceAdd, Nat.reduceMul, Nat.reduceLT, Nat.reduceBEq, Nat.reduceLeDiff, Nat.reduceEqDiff, Int.reduceToNat]
  try rfl
def sucF (l : List tKey.den) (x : tSuccession.den) : tSuccession.den × Bool :=
  if finK l x.1 < 0 ∨ finK l x.2.1 < 0 ∨ x.1 = x.2.1 ∨ ownF l x.1 ≠ ownF l x.2.1 ∨ ¬ (0 ≤ (x.2.2.1 : Int) ∧ (x.2.2.1 : Int) ≤ 10000) then ((0, 0, 0, 0, ()), false)
  else ((x.1, x.2.1, x.2.2.1, (mbF l x.1 (sucI x)).1, ()), true)
theorem mb_f (l : List tKey.den) (n : Int) (w : List Int) : ((mbF l n w).2 = false) = (finF (fun x : tKey.den => x.1) n l 0 < 0) := by
  unfold mbF
  split
  · rename_i h; simp [h]
  · rename_i h; simp [h]
theorem mb_t (l : List tKey.den) (n : Int) (w : List Int) : ((mbF l n w).2 = true) = ¬ (finF (fun x : tKey.den => x.1) n l 0 < 0) := by
  rw [← mb_f l n w]; simp
theorem sucF_f {l : List tKey.den} {x : tSuccession.den} (h : ((((mbF l x.1 (sucI x)).2 = false ∨ finF (fun x : tKey.den => x.1) x.2.1 l 0 < 0) ∨ x.1 = x.2.1) ∨ ¬ ownF l x.1 = ownF l x.2.1) ∨ inB x.2.2.1 0 10000 = false) : sucF l x = ((0, 0, 0, 0, ()), false) := by
  unfold sucF finK
  rw [if_pos]
  rw [mb_f, inB_f] at h
  rcases h with (((h | h) | h) | h) | h
  · exact .inl h
  · exact .inr (.inl h)
  · exact .inr (.inr (.inl h))
  · exact .inr (.inr (.inr (.inl h)))
  · exact .inr (.inr (.inr (.inr h)))
theorem sucF_t {l : List tKey.den} {x : tSuccession.den} (h : ((((mbF l x.1 (sucI x)).2 = true ∧ ¬ finF (fun x : tKey.den => x.1) x.2.1 l 0 < 0) ∧ ¬ x.1 = x.2.1) ∧ ownF l x.1 = ownF l x.2.1) ∧ inB x.2.2.1 0 10000 = true) : sucF l x = ((x.1, x.2.1, x.2.2.1, (mbF l x.1 (sucI x)).1, ()), true) := by
  unfold sucF finK
  rw [if_neg]
  rw [mb_t, inB_t] at h
  rintro (k | k | k | k | k)
  · exact h.1.1.1.1 k
  · exact h.1.1.1.2 k
  · exact h.1.1.2 k
  · exact k h.1.2
  · exact k h.2
theorem ownF_at {l : List tKey.den} {n : Int} (h : ¬ finF (fun x : tKey.den => x.1) n l 0 < 0) : ownF l n = (l.getD (finF (fun x : tKey.den => x.1) n l 0).toNat (0, 0, 0, 0, 0, ())).2.1 := by
  unfold ownF finK
  rw [if_pos (by omega)]
theorem sucG_f {l : List tKey.den} {x : tSuccession.den} (h : (((finF (fun x : tKey.den => x.1) x.1 l 0 < 0 ∨ finF (fun x : tKey.den => x.1) x.2.1 l 0 < 0) ∨ x.1 = x.2.1) ∨ ¬ (l.getD (finF (fun x : tKey.den => x.1) x.1 l 0).toNat (0, 0, 0, 0, 0, ())).2.1 = (l.getD (finF (fun x : tKey.den => x.1) x.2.1 l 0).toNat (0, 0, 0, 0, 0, ())).2.1) ∨ inB x.2.2.1 0 10000 = false) : sucF l x = ((0, 0, 0, 0, ()), false) := by
  unfold sucF finK
  rw [if_pos]
  rw [inB_f] at h
  rcases h with (((h | h) | h) | h) | h
  · exact .inl h
  · exact .inr (.inl h)
  · exact .inr (.inr (.inl h))
  · by_cases f1 : finF (fun x : tKey.den => x.1) x.1 l 0 < 0
    · exact .inl f1
    · by_cases f2 : finF (fun x : tKey.den => x.1) x.2.1 l 0 < 0
      · exact .inr (.inl f2)
      · exact .inr (.inr (.inr (.inl (by rw [ownF_at f1, ownF_at f2]; exact h))))
  · exact .inr (.inr (.inr (.inr h)))
theorem sucG_t {l : List tKey.den} {x : tSuccession.den} (h : (((¬ finF (fun x : tKey.den => x.1) x.1 l 0 < 0 ∧ ¬ finF (fun x : tKey.den => x.1) x.2.1 l 0 < 0) ∧ ¬ x.1 = x.2.1) ∧ (l.getD (finF (fun x : tKey.den => x.1) x.1 l 0).toNat (0, 0, 0, 0, 0, ())).2.1 = (l.getD (finF (fun x : tKey.den => x.1) x.2.1 l 0).toNat (0, 0, 0, 0, 0, ())).2.1) ∧ inB x.2.2.1 0 10000 = true) : sucF l x = ((x.1, x.2.1, x.2.2.1, mwF (l.getD (finF (fun x : tKey.den => x.1) x.1 l 0).toNat (0, 0, 0, 0, 0, ())) (sucI x), ()), true) := by
  have e : (mbF l x.1 (sucI x)).1 = mwF (l.getD (finF (fun x : tKey.den => x.1) x.1 l 0).toNat (0, 0, 0, 0, 0, ())) (sucI x) := by
    unfold mbF
    rw [if_neg h.1.1.1.1]
  unfold sucF finK
  rw [if_neg, e]
  rw [inB_t] at h
  rintro (k | k | k | k | k)
  · exact h.1.1.1.1 k
  · exact h.1.1.1.2 k
  · exact h.1.1.2 k
  · exact k (by rw [ownF_at h.1.1.1.1, ownF_at h.1.1.1.2]; exact h.1.2)
  · exact k h.2
theorem impl_MakeSuccession_ok (l : List tKey.den) (x : tSuccession.den) : FunOK Try.prog 12 [⟨(.list tKey), l⟩, ⟨tSuccession, x⟩] (.tup [.rd tSuccession (sucF l x).1, .rd .bool (sucF l x).2]) := by
  refine fun_of (tb := tb) follows Try.func12 (by kernel_rfl) Try.ntmps12 rfl rfl rfl ?_
  intro cx hN hw
  simp (disch := exact eqId (by kernel_rfl)) only [go_sem, ↓reduceIte, Nat.reduceAdd, Nat.reduceMul, Nat.reduceLT, Nat.reduceBEq, Nat.reduceLeDiff, Nat.reduceEqDiff, Int.reduceToNat]
  repeat' (first | (refine And.intro ?_ ?_) | intro _ | (refine callQ_intro (impl_SuccessionInts_ok _) ?_; try (simp (disch := exact eqId (by kernel_rfl)) only [go_sem, ↓reduceIte, Nat.reduceAdd, Nat.reduceMul, Nat.reduceLT, Nat.reduceBEq, Nat.reduceLeDiff, Nat.reduceEqDiff, Int.reduceToNat])) | (refine callH_intro (fun hcc => impl_SuccessionInts_ok _) ?_; try (simp (disch := exact eqId (by kernel_rfl)) only [go_sem, ↓reduceIte, Nat.reduceAdd, Nat.reduceMul, Nat.reduceLT, Nat.reduceBEq, Nat.reduceLeDiff, Nat.reduceEqDiff, Int.reduceToNat])) | (refine callQ_intro (impl_markBy_ok _ _ _ (suc_len _)) ?_; try (simp (disch := exact eqId (by kernel_rfl)) only [go_sem, ↓reduceIte, Nat.reduceAdd, Nat.reduceMul, Nat.reduceLT, Nat.reduceBEq, Nat.reduceLeDiff, Nat.reduceEqDiff, Int.reduceToNat])) | (refine callH_intro (fun hcc => impl_markBy_ok _ _ _ (suc_len _)) ?_; try (simp (disch := exact eqId (by kernel_rfl)) only [go_sem, ↓reduceIte, Nat.reduceAdd, Nat.reduceMul, Nat.reduceLT, Nat.reduceBEq, Nat.reduceLeDiff, Nat.reduceEqDiff, Int.reduceToNat])) | (refine callQ_intro (impl_FindKey_ok _ _) ?_; try (simp (disch := exact eqId (by kernel_rfl)) only [go_sem, ↓reduceIte, Nat.reduceAdd, Nat.reduceMul, Nat.reduceLT, Nat.reduceBEq, Nat.reduceLeDiff, Nat.reduceEqDiff, Int.reduceToNat])) | (refine callH_intro (fun hcc => impl_FindKey_ok _ _) ?_; try (simp (disch := exact eqId (by kernel_rfl)) only [go_sem, ↓reduceIte, Nat.reduceAdd, Nat.reduceMul, Nat.reduceLT, Nat.reduceBEq, Nat.reduceLeDiff, Nat.reduceEqDiff, Int.reduceToNat])) | (refine callQ_intro (impl_OwnerOf_ok _ _) ?_; try (simp (disch := exact eqId (by kernel_rfl)) only [go_sem, ↓reduceIte, Nat.reduceAdd, Nat.reduceMul, Nat.reduceLT, Nat.reduceBEq, Nat.reduceLeDiff, Nat.reduceEqDiff, Int.reduceToNat])) | (refine callH_intro (fun hcc => impl_OwnerOf_ok _ _) ?_; try (simp (disch := exact eqId (by kernel_rfl)) only [go_sem, ↓reduceIte, Nat.reduceAdd, Nat.reduceMul, Nat.reduceLT, Nat.reduceBEq, Nat.reduceLeDiff, Nat.reduceEqDiff, Int.reduceToNat])) | (refine callQ_intro (impl_isTime_ok _) ?_; try (simp (disch := exact eqId (by kernel_rfl)) only [go_sem, ↓reduceIte, Nat.reduceAdd, Nat.reduceMul, Nat.reduceLT, Nat.reduceBEq, Nat.reduceLeDiff, Nat.reduceEqDiff, Int.reduceToNat])) | (refine callH_intro (fun hcc => impl_isTime_ok _) ?_; try (simp (disch := exact eqId (by kernel_rfl)) only [go_sem, ↓reduceIte, Nat.reduceAdd, Nat.reduceMul, Nat.reduceLT, Nat.reduceBEq, Nat.reduceLeDiff, Nat.reduceEqDiff, Int.reduceToNat])))
  · rename_i hc
    rw [sucF_f hc]
  · rename_i hc
    rw [sucF_f hc]
  · rename_i hc
    rw [sucF_t hc]
  · rename_i hc
    rw [sucF_t hc]
theorem spec_MakeSuccession_ok (l : List tKey.den) (x : tSuccession.den) : FunOK Try.prog 39 [⟨(.list tKey), l⟩, ⟨tSuccession, x⟩] (.tup [.rd tSuccession (sucF l x).1, .rd .bool (sucF l x).2]) := by
  have hf1 := finF_lt (fun x : tKey.den => x.1) x.1 l 0
  have hf2 := finF_lt (fun x : tKey.den => x.1) x.2.1 l 0
  refine fun_of (tb := tb) follows Try.func39 (by kernel_rfl) Try.ntmps39 rfl rfl rfl ?_
  intro cx hN hw
  simp (disch := exact eqId (by kernel_rfl)) only [go_sem, ↓reduceIte, Nat.reduceAdd, Nat.reduceMul, Nat.reduceLT, Nat.reduceBEq, Nat.reduceLeDiff, Nat.reduceEqDiff, Int.reduceToNat]
  repeat' (first | (refine And.intro ?_ ?_) | intro _ | (refine callQ_intro (spec_SuccessionInts_ok _) ?_; try (simp (disch := exact eqId (by kernel_rfl)) only [go_sem, ↓reduceIte, Nat.reduceAdd, Nat.reduceMul, Nat.reduceLT, Nat.reduceBEq, Nat.reduceLeDiff, Nat.reduceEqDiff, Int.reduceToNat])) | (refine callH_intro (fun hcc => spec_SuccessionInts_ok _) ?_; try (simp (disch := exact eqId (by kernel_rfl)) only [go_sem, ↓reduceIte, Nat.reduceAdd, Nat.reduceMul, Nat.reduceLT, Nat.reduceBEq, Nat.reduceLeDiff, Nat.reduceEqDiff, Int.reduceToNat])) | (refine callQ_intro (spec_MarkWith_ok _ _ (suc_len _)) ?_; try (simp (disch := exact eqId (by kernel_rfl)) only [go_sem, ↓reduceIte, Nat.reduceAdd, Nat.reduceMul, Nat.reduceLT, Nat.reduceBEq, Nat.reduceLeDiff, Nat.reduceEqDiff, Int.reduceToNat])) | (refine callH_intro (fun hcc => spec_MarkWith_ok _ _ (suc_len _)) ?_; try (simp (disch := exact eqId (by kernel_rfl)) only [go_sem, ↓reduceIte, Nat.reduceAdd, Nat.reduceMul, Nat.reduceLT, Nat.reduceBEq, Nat.reduceLeDiff, Nat.reduceEqDiff, Int.reduceToNat])) | (refine callQ_intro (spec_FindKey_ok _ _) ?_; try (simp (disch := exact eqId (by kernel_rfl)) only [go_sem, ↓reduceIte, Nat.reduceAdd, Nat.reduceMul, Nat.reduceLT, Nat.reduceBEq, Nat.reduceLeDiff, Nat.reduceEqDiff, Int.reduceToNat])) | (refine callH_intro (fun hcc => spec_FindKey_ok _ _) ?_; try (simp (disch := exact eqId (by kernel_rfl)) only [go_sem, ↓reduceIte, Nat.reduceAdd, Nat.reduceMul, Nat.reduceLT, Nat.reduceBEq, Nat.reduceLeDiff, Nat.reduceEqDiff, Int.reduceToNat])) | (refine callQ_intro (spec_l4Time_ok _) ?_; try (simp (disch := exact eqId (by kernel_rfl)) only [go_sem, ↓reduceIte, Nat.reduceAdd, Nat.reduceMul, Nat.reduceLT, Nat.reduceBEq, Nat.reduceLeDiff, Nat.reduceEqDiff, Int.reduceToNat])) | (refine callH_intro (fun hcc => spec_l4Time_ok _) ?_; try (simp (disch := exact eqId (by kernel_rfl)) only [go_sem, ↓reduceIte, Nat.reduceAdd, Nat.reduceMul, Nat.reduceLT, Nat.reduceBEq, Nat.reduceLeDiff, Nat.reduceEqDiff, Int.reduceToNat])))
  all_goals (try (rename_i hc; have h1 := hc.1.1; have h2 := hc.1.2; clear hc; omega))
  all_goals (try (rename_i hc; have h1 := hc.1.1.1.1; have h2 := hc.1.1.1.2; clear hc; omega))
  · rename_i hc
    rw [sucG_f hc]
  · rename_i hc
    rw [sucG_f hc]
  · rename_i hc
    rw [sucG_t hc]
  · rename_i hc
    rw [sucG_t hc]
noncomputable def cksF (l : List tKey.den) (x : tSuccession.den) : Bool := (sucF l x).2 && eqC (sucF l x).1 x
noncomputable def nkF (ks : List tKey.den) (key t : Int) : List tSuccession.den → Int
  | [] => 0
  | x :: xs => if (x.1 : Int) = key ∧ (x.2.2.1 : Int) ≤ t ∧ cksF ks x = true then x.2.1 else nkF ks key t xs
def nwF (ls : List tSuccession.den) : List Int := ls.map (fun x => x.2.1)
theorem nkF_mem (ks : List tKey.den) (key t : Int) : ∀ ls, nkF ks key t ls = 0 ∨ nkF ks key t ls ∈ nwF ls
  | [] => .inl rfl
  | x :: xs => by
    unfold nkF
    split
    · exact .inr (by simp [nwF])
    · rcases nkF_mem ks key t xs with h | h
      · exact .inl h
      · exact .inr (by unfold nwF at h ⊢; rw [List.map_cons]; exact List.mem_cons_of_mem _ h)
noncomputable def klF (ks : List tKey.den) (ls : List tSuccession.den) (key t : Int) : List Int :=
  if finK ks key < 0 ∨ key = 0 then [] else lineF (fun k => nkF ks k t ls) (ls.length + 2) [] key
theorem klF_len (ks : List tKey.den) (ls : List tSuccession.den) (key t : Int) : (klF ks ls key t).length ≤ ls.length + 2 := by
  unfold klF
  split
  · exact Nat.zero_le _
  · simpa using lineF_len (fun k => nkF ks k t ls) (ls.length + 2) [] key
noncomputable def ckyF (ks : List tKey.den) (ls : List tSuccession.den) (key t : Int) : Int := (klF ks ls key t).getD ((klF ks ls key t).length - 1) 0
theorem impl_CheckSuccession_ok (l : List tKey.den) (x : tSuccession.den) : FunOK Try.prog 13 [⟨(.list tKey), l⟩, ⟨tSuccession, x⟩] (.rd .bool (cksF l x)) := by
  refine fun_of (tb := tb) follows Try.func13 (by kernel_rfl) Try.ntmps13 rfl rfl rfl ?_
  intro cx hN hw
  simp (disch := exact eqId (by kernel_rfl)) only [go_sem, ↓reduceIte, Nat.reduceAdd, Nat.reduceMul, Nat.reduceLT, Nat.reduceBEq, Nat.reduceLeDiff, Nat.reduceEqDiff, Int.reduceToNat]
  repeat' (first | (refine And.intro ?_ ?_) | intro _ | (refine callQ_intro (impl_MakeSuccession_ok _ _) ?_; try (simp (disch := exact eqId (by kernel_rfl)) only [go_sem, ↓reduceIte, Nat.reduceAdd, Nat.reduceMul, Nat.reduceLT, Nat.reduceBEq, Nat.reduceLeDiff, Nat.reduceEqDiff, Int.reduceToNat])) | (refine callH_intro (fun hcc => impl_MakeSuccession_ok _ _) ?_; try (simp (disch := exact eqId (by kernel_rfl)) only [go_sem, ↓reduceIte, Nat.reduceAdd, Nat.reduceMul, Nat.reduceLT, Nat.reduceBEq, Nat.reduceLeDiff, Nat.reduceEqDiff, Int.reduceToNat])))
  all_goals (try rfl)
theorem impl_NextKey_ok (ks : List tKey.den) (l : List tSuccession.den) (key t : Int) : FunOK Try.prog 10 [⟨(.list tKey), ks⟩, ⟨(.list tSuccession), l⟩, ⟨I, key⟩, ⟨I, t⟩] (.rd I (nkF ks key t l)) := by
  refine fun_of (tb := tb) follows Try.func10 (by kernel_rfl) Try.ntmps10 rfl rfl rfl ?_
  intro cx hN hw
  simp (disch := exact eqId (by kernel_rfl)) only [go_sem, ↓reduceIte, Nat.reduceAdd, Nat.reduceMul, Nat.reduceLT, Nat.reduceBEq, Nat.reduceLeDiff, Nat.reduceEqDiff, Int.reduceToNat]
  refine loop_intro (tb := tb) follows hN (D := Nat) (fun d => shp [(0, .rd (.list tKey) (ks)), (2, .rd I (key : Int)), (3, .rd I (t : Int)), (11, .rd (.list tSuccession) (l)), (12, .rd I (((l).length : Int) : Int)), (13, .rd I (d : Int))] []) (fun d => d ≤ l.length ∧ nkF ks key t l = nkF ks key t (l.drop d)) (fun d => l.length - d) (0) ?_ (sub_shp hN [] ?_) (fun d hd => ?_)
  · exact ⟨Nat.zero_le _, rfl⟩
  · simp (disch := exact eqId (by kernel_rfl)) only [go_sem, ↓reduceIte, Nat.reduceAdd, Nat.reduceMul, Nat.reduceLT, Nat.reduceBEq, Nat.reduceLeDiff, Nat.reduceEqDiff, Int.reduceToNat]
    try rfl
  · obtain ⟨h1, h2⟩ := hd
    simp (disch := exact eqId (by kernel_rfl)) only [go_sem, ↓reduceIte, Nat.reduceAdd, Nat.reduceMul, Nat.reduceLT, Nat.reduceBEq, Nat.reduceLeDiff, Nat.reduceEqDiff, Int.reduceToNat]
    repeat' (first | (refine And.intro ?_ ?_) | intro _ | (refine callQ_intro (impl_CheckSuccession_ok _ _) ?_; try (simp (disch := exact eqId (by kernel_rfl)) only [go_sem, ↓reduceIte, Nat.reduceAdd, Nat.reduceMul, Nat.reduceLT, Nat.reduceBEq, Nat.reduceLeDiff, Nat.reduceEqDiff, Int.reduceToNat])) | (refine callH_intro (fun hcc => impl_CheckSuccession_ok _ _) ?_; try (simp (disch := exact eqId (by kernel_rfl)) only [go_sem, ↓reduceIte, Nat.reduceAdd, Nat.reduceMul, Nat.reduceLT, Nat.reduceBEq, Nat.reduceLeDiff, Nat.reduceEqDiff, Int.reduceToNat])))
    all_goals (try omega)
    · rename_i hk he
      rw [h2, drop_getD (show d < l.length by omega) (0, 0, 0, 0, ()), nkF, if_pos (by simpa [and_assoc] using he)]
    · rename_i hk he
      have hk : d < l.length := by omega
      refine back_intro (d + 1) ?_ ?_ (sub_shp hN [] ?_)
      · refine ⟨hk, ?_⟩
        rw [h2, drop_getD hk (0, 0, 0, 0, ()), nkF, if_neg (by
          rintro ⟨k1, k2, k3⟩
          rcases he with (he | he) | he
          · exact he k1
          · exact he k2
          · rw [show cksF ks (l.getD d (0, 0, 0, 0, ())) = false from he] at k3; cases k3)]
      · omega
      · simp (disch := exact eqId (by kernel_rfl)) only [go_sem, ↓reduceIte, Nat.reduceAdd, Nat.reduceMul, Nat.reduceLT, Nat.reduceBEq, Nat.reduceLeDiff, Nat.reduceEqDiff, Int.reduceToNat]
        exact wrap_succ hk hw.2.1.1
    · rename_i hk
      rw [h2, drop_end (show l.length ≤ d by omega)]
      rfl
theorem spec_CheckSuccession_ok (l : List tKey.den) (x : tSuccession.den) : FunOK Try.prog 33 [⟨(.list tKey), l⟩, ⟨tSuccession, x⟩] (.rd .bool (cksF l x)) := by
  refine fun_of (tb := tb) follows Try.func33 (by kernel_rfl) Try.ntmps33 rfl rfl rfl ?_
  intro cx hN hw
  simp (disch := exact eqId (by kernel_rfl)) only [go_sem, ↓reduceIte, Nat.reduceAdd, Nat.reduceMul, Nat.reduceLT, Nat.reduceBEq, Nat.reduceLeDiff, Nat.reduceEqDiff, Int.reduceToNat]
  repeat' (first | (refine And.intro ?_ ?_) | intro _ | (refine callQ_intro (spec_MakeSuccession_ok _ _) ?_; try (simp (disch := exact eqId (by kernel_rfl)) only [go_sem, ↓reduceIte, Nat.reduceAdd, Nat.reduceMul, Nat.reduceLT, Nat.reduceBEq, Nat.reduceLeDiff, Nat.reduceEqDiff, Int.reduceToNat])) | (refine callH_intro (fun hcc => spec_MakeSuccession_ok _ _) ?_; try (simp (disch := exact eqId (by kernel_rfl)) only [go_sem, ↓reduceIte, Nat.reduceAdd, Nat.reduceMul, Nat.reduceLT, Nat.reduceBEq, Nat.reduceLeDiff, Nat.reduceEqDiff, Int.reduceToNat])))
  all_goals (try rfl)
theorem spec_NextKey_ok (ks : List tKey.den) (l : List tSuccession.den) (key t : Int) : FunOK Try.prog 20 [⟨(.list tKey), ks⟩, ⟨(.list tSuccession), l⟩, ⟨I, key⟩, ⟨I, t⟩] (.rd I (nkF ks key t l)) := by
  refine fun_of (tb := tb) follows Try.func20 (by kernel_rfl) Try.ntmps20 rfl rfl rfl ?_
  intro cx hN hw
  simp (disch := exact eqId (by kernel_rfl)) only [go_sem, ↓reduceIte, Nat.reduceAdd, Nat.reduceMul, Nat.reduceLT, Nat.reduceBEq, Nat.reduceLeDiff, Nat.reduceEqDiff, Int.reduceToNat]
  refine loop_intro (tb := tb) follows hN (D := Nat) (fun d => shp [(0, .rd (.list tKey) (ks)), (1, .rd (.list tSuccession) (l)), (2, .rd I (key : Int)), (3, .rd I (t : Int)), (9, .rd I (d : Int))] []) (fun d => d ≤ l.length ∧ nkF ks key t l = nkF ks key t (l.drop d)) (fun d => l.length - d) (0) ?_ (sub_shp hN [] ?_) (fun d hd => ?_)
  · exact ⟨Nat.zero_le _, rfl⟩
  · simp (disch := exact eqId (by kernel_rfl)) only [go_sem, ↓reduceIte, Nat.reduceAdd, Nat.reduceMul, Nat.reduceLT, Nat.reduceBEq, Nat.reduceLeDiff, Nat.reduceEqDiff, Int.reduceToNat]
    try rfl
  · obtain ⟨h1, h2⟩ := hd
    simp (disch := exact eqId (by kernel_rfl)) only [go_sem, ↓reduceIte, Nat.reduceAdd, Nat.reduceMul, Nat.reduceLT, Nat.reduceBEq, Nat.reduceLeDiff, Nat.reduceEqDiff, Int.reduceToNat]
    repeat' (first | (refine And.intro ?_ ?_) | intro _ | (refine callQ_intro (spec_CheckSuccession_ok _ _) ?_; try (simp (disch := exact eqId (by kernel_rfl)) only [go_sem, ↓reduceIte, Nat.reduceAdd, Nat.reduceMul, Nat.reduceLT, Nat.reduceBEq, Nat.reduceLeDiff, Nat.reduceEqDiff, Int.reduceToNat])) | (refine callH_intro (fun hcc => spec_CheckSuccession_ok _ _) ?_; try (simp (disch := exact eqId (by kernel_rfl)) only [go_sem, ↓reduceIte, Nat.reduceAdd, Nat.reduceMul, Nat.reduceLT, Nat.reduceBEq, Nat.reduceLeDiff, Nat.reduceEqDiff, Int.reduceToNat])))
    all_goals (try omega)
    · rename_i hk he
      rw [h2, drop_getD (show d < l.length by omega) (0, 0, 0, 0, ()), nkF, if_pos (by simpa [and_assoc] using he)]
    · rename_i hk he
      have hk : d < l.length := by omega
      refine back_intro (d + 1) ?_ ?_ (sub_shp hN [] ?_)
      · refine ⟨hk, ?_⟩
        rw [h2, drop_getD hk (0, 0, 0, 0, ()), nkF, if_neg (by
          rintro ⟨k1, k2, k3⟩
          rcases he with (he | he) | he
          · exact he k1
          · exact he k2
          · rw [show cksF ks (l.getD d (0, 0, 0, 0, ())) = false from he] at k3; cases k3)]
      · omega
      · simp (disch := exact eqId (by kernel_rfl)) only [go_sem, ↓reduceIte, Nat.reduceAdd, Nat.reduceMul, Nat.reduceLT, Nat.reduceBEq, Nat.reduceLeDiff, Nat.reduceEqDiff, Int.reduceToNat]
        exact wrap_succ hk hw.2.1.1
    · rename_i hk
      rw [h2, drop_end (show l.length ≤ d by omega)]
      rfl
theorem impl_KeyLine_ok (ks : List tKey.den) (l : List tSuccession.den) (key t : Int) (hs : l.length ≤ 1048576) : FunOK Try.prog 6 [⟨(.list tKey), ks⟩, ⟨(.list tSuccession), l⟩, ⟨I, key⟩, ⟨I, t⟩] (.own 3 I (klF ks l key t)) := by
  refine fun_of (tb := tb) follows Try.func6 (by kernel_rfl) Try.ntmps6 rfl rfl rfl ?_
  intro cx hN hw
  simp (disch := exact eqId (by kernel_rfl)) only [go_sem, ↓reduceIte, Nat.reduceAdd, Nat.reduceMul, Nat.reduceLT, Nat.reduceBEq, Nat.reduceLeDiff, Nat.reduceEqDiff, Int.reduceToNat]
  repeat' (first | (refine And.intro ?_ ?_) | intro _ | (refine callQ_intro (impl_FindKey_ok _ _) ?_; try (simp (disch := exact eqId (by kernel_rfl)) only [go_sem, ↓reduceIte, Nat.reduceAdd, Nat.reduceMul, Nat.reduceLT, Nat.reduceBEq, Nat.reduceLeDiff, Nat.reduceEqDiff, Int.reduceToNat])) | (refine callH_intro (fun hcc => impl_FindKey_ok _ _) ?_; try (simp (disch := exact eqId (by kernel_rfl)) only [go_sem, ↓reduceIte, Nat.reduceAdd, Nat.reduceMul, Nat.reduceLT, Nat.reduceBEq, Nat.reduceLeDiff, Nat.reduceEqDiff, Int.reduceToNat])))
  all_goals (try omega)
  · rename_i hc
    unfold klF finK
    rw [if_pos hc]
  · rename_i hc
    refine loop_intro (tb := tb) follows hN (D := (List Int)) (fun d => shp [(0, .rd (.list tKey) (ks)), (1, .rd (.list tSuccession) (l)), (3, .rd I (t : Int)), (9, .own 1)] [(1, .row 3 I d)]) (fun d => (d ≠ [] ∧ LineI key (nwF l) d) ∧ klF ks l key t = lineF (fun k => nkF ks k t l) (l.length + 2 - d.length) d (nkF ks (d.getD (d.length - 1) 0) t l)) (fun d => l.length + 1 - d.length) ([key]) ?_ (sub_shp hN [(1, some 40016)] ?_) (fun d hd => ?_)
    · refine ⟨⟨by simp, ?_⟩, ?_⟩
      · exact (LineI.nil key (nwF l)).snoc (by simp) (by simp)
      · unfold klF finK
        rw [if_neg (by simp only [not_or]; exact hc), lineF_go _ (l.length + 1) [] key (by simp only [List.not_mem_nil, or_false]; exact hc.2)]
        rfl
    · simp (disch := exact eqId (by kernel_rfl)) only [go_sem, ↓reduceIte, Nat.reduceAdd, Nat.reduceMul, Nat.reduceLT, Nat.reduceBEq, Nat.reduceLeDiff, Nat.reduceEqDiff, Int.reduceToNat]
      try rfl
    · obtain ⟨⟨h0, h1⟩, h2⟩ := hd
      have h3 := h1.len
      have h4 : (nwF l).length = l.length := by simp [nwF]
      have h5 : 0 < d.length := List.length_pos_iff.2 h0
      have e1 : IntKind.i64.wrap ((d.length : Int) - 1) = (d.length : Int) - 1 := wrap_i64 (by omega) (by omega)
      have e2 : ((d.length : Int) - 1).toNat = d.length - 1 := by omega
      simp (disch := exact eqId (by kernel_rfl)) only [go_sem, ↓reduceIte, Nat.reduceAdd, Nat.reduceMul, Nat.reduceLT, Nat.reduceBEq, Nat.reduceLeDiff, Nat.reduceEqDiff, Int.reduceToNat, e1, e2]
      repeat' (first | (refine And.intro ?_ ?_) | intro _ | (refine callQ_intro (impl_NextKey_ok _ _ _ _) ?_; try (simp (disch := exact eqId (by kernel_rfl)) only [go_sem, ↓reduceIte, Nat.reduceAdd, Nat.reduceMul, Nat.reduceLT, Nat.reduceBEq, Nat.reduceLeDiff, Nat.reduceEqDiff, Int.reduceToNat])) | (refine callH_intro (fun hcc => impl_NextKey_ok _ _ _ _) ?_; try (simp (disch := exact eqId (by kernel_rfl)) only [go_sem, ↓reduceIte, Nat.reduceAdd, Nat.reduceMul, Nat.reduceLT, Nat.reduceBEq, Nat.reduceLeDiff, Nat.reduceEqDiff, Int.reduceToNat])) | (refine callQ_intro (impl_hasInt_ok _ _) ?_; try (simp (disch := exact eqId (by kernel_rfl)) only [go_sem, ↓reduceIte, Nat.reduceAdd, Nat.reduceMul, Nat.reduceLT, Nat.reduceBEq, Nat.reduceLeDiff, Nat.reduceEqDiff, Int.reduceToNat])) | (refine callH_intro (fun hcc => impl_hasInt_ok _ _) ?_; try (simp (disch := exact eqId (by kernel_rfl)) only [go_sem, ↓reduceIte, Nat.reduceAdd, Nat.reduceMul, Nat.reduceLT, Nat.reduceBEq, Nat.reduceLeDiff, Nat.reduceEqDiff, Int.reduceToNat])))
      all_goals (try omega)
      · rename_i hn
        rw [h2, lineF_stop _ _ _ _ hn]
      · rename_i hn
        have hm : nkF ks (d.getD (d.length - 1) 0) t l ∈ key :: nwF l := by
          rcases nkF_mem ks (d.getD (d.length - 1) 0) t l with h | h
          · exact absurd h hn.1
          · exact List.mem_cons_of_mem _ h
        have hsn := h1.snoc (k := nkF ks (d.getD (d.length - 1) 0) t l) hn.2 hm
        have hsl := hsn.len
        simp only [List.length_append, List.length_cons, List.length_nil] at hsl
        refine back_intro (d ++ [nkF ks (d.getD (d.length - 1) 0) t l]) ?_ ?_ (sub_shp hN [(1, some 80048)] ?_)
        · refine ⟨⟨by simp, hsn⟩, ?_⟩
          rw [h2, show l.length + 2 - d.length = (l.length + 1 - d.length) + 1 by omega, lineF_go _ _ _ _ (by simp only [not_or]; exact hn)]
          simp only [List.length_append, List.length_cons, List.length_nil, Nat.zero_add, Nat.add_sub_cancel]
          rw [show l.length + 2 - (d.length + 1) = l.length + 1 - d.length by omega]
          congr 2
          simp
        · simp only [List.length_append, List.length_cons, List.length_nil]
          omega
        · simp (disch := exact eqId (by kernel_rfl)) only [go_sem, ↓reduceIte, Nat.reduceAdd, Nat.reduceMul, Nat.reduceLT, Nat.reduceBEq, Nat.reduceLeDiff, Nat.reduceEqDiff, Int.reduceToNat]
          try rfl
theorem spec_KeyLine_ok (ks : List tKey.den) (l : List tSuccession.den) (key t : Int) (hs : l.length ≤ 1048576) : FunOK Try.prog 7 [⟨(.list tKey), ks⟩, ⟨(.list tSuccession), l⟩, ⟨I, key⟩, ⟨I, t⟩] (.own 3 I (klF ks l key t)) := by
  refine fun_of (tb := tb) follows Try.func7 (by kernel_rfl) Try.ntmps7 rfl rfl rfl ?_
  intro cx hN hw
  simp (disch := exact eqId (by kernel_rfl)) only [go_sem, ↓reduceIte, Nat.reduceAdd, Nat.reduceMul, Nat.reduceLT, Nat.reduceBEq, Nat.reduceLeDiff, Nat.reduceEqDiff, Int.reduceToNat]
  repeat' (first | (refine And.intro ?_ ?_) | intro _ | (refine callQ_intro (spec_FindKey_ok _ _) ?_; try (simp (disch := exact eqId (by kernel_rfl)) only [go_sem, ↓reduceIte, Nat.reduceAdd, Nat.reduceMul, Nat.reduceLT, Nat.reduceBEq, Nat.reduceLeDiff, Nat.reduceEqDiff, Int.reduceToNat])) | (refine callH_intro (fun hcc => spec_FindKey_ok _ _) ?_; try (simp (disch := exact eqId (by kernel_rfl)) only [go_sem, ↓reduceIte, Nat.reduceAdd, Nat.reduceMul, Nat.reduceLT, Nat.reduceBEq, Nat.reduceLeDiff, Nat.reduceEqDiff, Int.reduceToNat])))
  all_goals (try omega)
  · rename_i hc
    unfold klF finK
    rw [if_pos (.inl hc)]
  · rename_i hc
    refine loop_intro (tb := tb) follows hN (D := (List Int) × Int) (fun d => shp [(0, .rd (.list tKey) (ks)), (1, .rd (.list tSuccession) (l)), (2, .rd I (d.2 : Int)), (3, .rd I (t : Int)), (9, .own 1)] [(1, .row 3 I d.1)]) (fun d => ((d.2 = 0 ∨ d.2 ∈ key :: nwF l) ∧ LineI key (nwF l) d.1) ∧ klF ks l key t = lineF (fun k => nkF ks k t l) (l.length + 2 - d.1.length) d.1 d.2) (fun d => l.length + 1 - d.1.length) (([], key)) ?_ (sub_shp hN [(1, some 20000)] ?_) (fun d hd => ?_)
    · refine ⟨⟨.inr (by simp), LineI.nil key (nwF l)⟩, ?_⟩
      unfold klF finK
      by_cases h0 : key = 0
      · rw [if_pos (.inr h0)]
        exact (lineF_stop _ _ _ _ (.inl h0)).symm
      · rw [if_neg (by simp only [not_or]; exact ⟨by omega, h0⟩)]
        rfl
    · simp (disch := exact eqId (by kernel_rfl)) only [go_sem, ↓reduceIte, Nat.reduceAdd, Nat.reduceMul, Nat.reduceLT, Nat.reduceBEq, Nat.reduceLeDiff, Nat.reduceEqDiff, Int.reduceToNat]
      try rfl
    · obtain ⟨out, q⟩ := d
      obtain ⟨⟨h0, h1⟩, h2⟩ := hd
      simp only at h0 h1 h2
      have h3 := h1.len
      have h4 : (nwF l).length = l.length := by simp [nwF]
      simp (disch := exact eqId (by kernel_rfl)) only [go_sem, ↓reduceIte, Nat.reduceAdd, Nat.reduceMul, Nat.reduceLT, Nat.reduceBEq, Nat.reduceLeDiff, Nat.reduceEqDiff, Int.reduceToNat]
      repeat' (first | (refine And.intro ?_ ?_) | intro _ | (refine callQ_intro (spec_NextKey_ok _ _ _ _) ?_; try (simp (disch := exact eqId (by kernel_rfl)) only [go_sem, ↓reduceIte, Nat.reduceAdd, Nat.reduceMul, Nat.reduceLT, Nat.reduceBEq, Nat.reduceLeDiff, Nat.reduceEqDiff, Int.reduceToNat])) | (refine callH_intro (fun hcc => spec_NextKey_ok _ _ _ _) ?_; try (simp (disch := exact eqId (by kernel_rfl)) only [go_sem, ↓reduceIte, Nat.reduceAdd, Nat.reduceMul, Nat.reduceLT, Nat.reduceBEq, Nat.reduceLeDiff, Nat.reduceEqDiff, Int.reduceToNat])) | (refine callQ_intro (spec_l7Has_ok _ _) ?_; try (simp (disch := exact eqId (by kernel_rfl)) only [go_sem, ↓reduceIte, Nat.reduceAdd, Nat.reduceMul, Nat.reduceLT, Nat.reduceBEq, Nat.reduceLeDiff, Nat.reduceEqDiff, Int.reduceToNat])) | (refine callH_intro (fun hcc => spec_l7Has_ok _ _) ?_; try (simp (disch := exact eqId (by kernel_rfl)) only [go_sem, ↓reduceIte, Nat.reduceAdd, Nat.reduceMul, Nat.reduceLT, Nat.reduceBEq, Nat.reduceLeDiff, Nat.reduceEqDiff, Int.reduceToNat])))
      all_goals (try omega)
      · rename_i hn
        have hq : ¬ (q = 0 ∨ q ∈ out) := by simp_all
        have hsn := h1.snoc (k := q) (fun hx => hq (.inr hx)) (h0.resolve_left (fun hx => hq (.inl hx)))
        have hsl := hsn.len
        simp only [List.length_append, List.length_cons, List.length_nil] at hsl
        refine back_intro ((out ++ [q], nkF ks q t l)) ?_ ?_ (sub_shp hN [(1, some 60048)] ?_)
        · refine ⟨⟨?_, hsn⟩, ?_⟩
          · rcases nkF_mem ks q t l with h | h
            · exact .inl h
            · exact .inr (List.mem_cons_of_mem _ h)
          · rw [h2, show l.length + 2 - out.length = (l.length + 1 - out.length) + 1 by omega, lineF_go _ _ _ _ hq]
            simp only [List.length_append, List.length_cons, List.length_nil, Nat.zero_add]
            rw [show l.length + 2 - (out.length + 1) = l.length + 1 - out.length by omega]
        · simp only [List.length_append, List.length_cons, List.length_nil]
          omega
        · simp (disch := exact eqId (by kernel_rfl)) only [go_sem, ↓reduceIte, Nat.reduceAdd, Nat.reduceMul, Nat.reduceLT, Nat.reduceBEq, Nat.reduceLeDiff, Nat.reduceEqDiff, Int.reduceToNat]
          try rfl
      · rename_i hn
        have hq : q = 0 ∨ q ∈ out := by
          by_cases h9 : q = 0
          · exact .inl h9
          · right
            simp_all
        rw [h2, lineF_stop _ _ _ _ hq]
theorem impl_CurrentKey_ok (ks : List tKey.den) (l : List tSuccession.den) (key t : Int) (hs : l.length ≤ 1048576) : FunOK Try.prog 14 [⟨(.list tKey), ks⟩, ⟨(.list tSuccession), l⟩, ⟨I, key⟩, ⟨I, t⟩] (.rd I (ckyF ks l key t)) := by
  have h1 := klF_len ks l key t
  refine fun_of (tb := tb) follows Try.func14 (by kernel_rfl) Try.ntmps14 rfl rfl rfl ?_
  intro cx hN hw
  simp (disch := exact eqId (by kernel_rfl)) only [go_sem, ↓reduceIte, Nat.reduceAdd, Nat.reduceMul, Nat.reduceLT, Nat.reduceBEq, Nat.reduceLeDiff, Nat.reduceEqDiff, Int.reduceToNat]
  refine callQ_intro (impl_KeyLine_ok _ _ _ _ hs) ?_
  have e1 : 0 < (klF ks l key t).length → IntKind.i64.wrap (((klF ks l key t).length : Int) - 1) = ((klF ks l key t).length : Int) - 1 := fun h => wrap_i64 (by omega) (by omega)
  have e2 : (((klF ks l key t).length : Int) - 1).toNat = (klF ks l key t).length - 1 := by omega
  simp (disch := exact eqId (by kernel_rfl)) only [go_sem, ↓reduceIte, Nat.reduceAdd, Nat.reduceMul, Nat.reduceLT, Nat.reduceBEq, Nat.reduceLeDiff, Nat.reduceEqDiff, Int.reduceToNat]
  repeat' (first | (refine And.intro ?_ ?_) | intro _)
  all_goals (try omega)
  · rename_i hc
    unfold ckyF
    rw [List.getD_eq_getElem?_getD, List.getElem?_eq_none (by omega)]
    rfl
  · rename_i hc
    unfold ckyF
    rw [e1 (by omega), e2]
end Go.Proofs.Ytneobkdgfahhoaa
