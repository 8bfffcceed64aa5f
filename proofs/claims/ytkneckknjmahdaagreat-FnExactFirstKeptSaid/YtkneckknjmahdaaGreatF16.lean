/- What the functions of stamps, of agreed spans and of renewals answer, on both sides. It proves nothing of a statement by itself. -/
import Derived.Test.YtkneckknjmahdaaGreatF14
import Derived.Test.YtkneckknjmahdaaGreatF15
import Derived.Test.YtkneckknjmahdaaGreatF10
import Derived.Test.YtkneckknjmahdaaGreatF11
set_option linter.unusedSimpArgs false
set_option linter.unusedVariables false
set_option maxRecDepth 100000
namespace Go.Proofs.YtkneckknjmahdaaGreat
open Go.AL
def finA (l : List tAuthority.den) (n : Int) : Int := finF (fun x : tAuthority.den => x.1) n l 0
def finM (l : List tMethod.den) (n : Int) : Int := finF (fun x : tMethod.den => x.1) n l 0
def stI (s : tStamp.den) : List Int := [103, s.1, s.2.1, s.2.2.1, s.2.2.2.1]
def mksF (ks : List tKey.den) (l : List tAuthority.den) (s : tStamp.den) : tStamp.den × Bool :=
  if finA l s.1 < 0 ∨ (s.2.1 : Int) < 0 ∨ ¬ (0 ≤ (s.2.2.1 : Int) ∧ (s.2.2.1 : Int) ≤ 10000) ∨ finF (fun x : tKey.den => x.1) (l.getD (finA l s.1).toNat (0, 0, 0, ())).2.1 ks 0 < 0 then ((0, 0, 0, 0, 0, ()), false)
  else ((s.1, s.2.1, s.2.2.1, s.2.2.2.1, (mbF ks (l.getD (finA l s.1).toNat (0, 0, 0, ())).2.1 (stI s)).1, ()), true)
noncomputable def cksS (ks : List tKey.den) (l : List tAuthority.den) (s : tStamp.den) : Bool := (mksF ks l s).2 && eqC (mksF ks l s).1 s
def sspF (l : List tAuthority.den) (s : tStamp.den) : tSpan.den × Bool :=
  if finA l s.1 < 0 ∨ ((l.getD (finA l s.1).toNat (0, 0, 0, ())).2.2.1 : Int) < 0 ∨ ¬ (0 ≤ (s.2.2.1 : Int) ∧ (s.2.2.1 : Int) ≤ 10000) then ((0, 0, ()), false)
  else mkF (IntKind.i64.wrap (s.2.2.1 - (l.getD (finA l s.1).toNat (0, 0, 0, ())).2.2.1)) (IntKind.i64.wrap (s.2.2.1 + (l.getD (finA l s.1).toNat (0, 0, 0, ())).2.2.1))
def skyF (l : List tAuthority.den) (s : tStamp.den) : Int := if 0 ≤ finA l s.1 then (l.getD (finA l s.1).toNat (0, 0, 0, ())).2.1 else 0
def brkF (l : List tMethod.den) (n : Int) : Int := if 0 ≤ finM l n then (l.getD (finM l n).toNat (0, 0, 0, 0, ())).2.2.2.1 else 0
theorem mks_f {ks : List tKey.den} {l : List tAuthority.den} {s : tStamp.den} (h : (finF (fun x : tAuthority.den => x.1) s.1 l 0 < 0 ∨ (s.2.1 : Int) < 0) ∨ inB s.2.2.1 0 10000 = false) : mksF ks l s = ((0, 0, 0, 0, 0, ()), false) := by
  unfold mksF finA
  rw [if_pos]
  rw [inB_f] at h
  rcases h with (h | h) | h
  · exact .inl h
  · exact .inr (.inl h)
  · exact .inr (.inr (.inl h))
theorem mks_k {ks : List tKey.den} {l : List tAuthority.den} {s : tStamp.den} (h : finF (fun x : tKey.den => x.1) (l.getD (finF (fun x : tAuthority.den => x.1) s.1 l 0).toNat (0, 0, 0, ())).2.1 ks 0 < 0) : mksF ks l s = ((0, 0, 0, 0, 0, ()), false) := by
  unfold mksF finA
  rw [if_pos (.inr (.inr (.inr h)))]
theorem mks_t {ks : List tKey.den} {l : List tAuthority.den} {s : tStamp.den} (h : (¬ finF (fun x : tAuthority.den => x.1) s.1 l 0 < 0 ∧ ¬ (s.2.1 : Int) < 0) ∧ inB s.2.2.1 0 10000 = true) (hk : ¬ finF (fun x : tKey.den => x.1) (l.getD (finF (fun x : tAuthority.den => x.1) s.1 l 0).toNat (0, 0, 0, ())).2.1 ks 0 < 0) :
    mksF ks l s = ((s.1, s.2.1, s.2.2.1, s.2.2.2.1, (mbF ks (l.getD (finF (fun x : tAuthority.den => x.1) s.1 l 0).toNat (0, 0, 0, ())).2.1 (stI s)).1, ()), true) := by
  unfold mksF finA
  rw [if_neg]
  rw [inB_t] at h
  rintro (k | k | k | k)
  · exact h.1.1 k
  · exact h.1.2 k
  · exact k h.2
  · exact hk k
theorem mks_u {ks : List tKey.den} {l : List tAuthority.den} {s : tStamp.den} (h : (¬ finF (fun x : tAuthority.den => x.1) s.1 l 0 < 0 ∧ ¬ (s.2.1 : Int) < 0) ∧ inB s.2.2.1 0 10000 = true) (hk : ¬ finF (fun x : tKey.den => x.1) (l.getD (finF (fun x : tAuthority.den => x.1) s.1 l 0).toNat (0, 0, 0, ())).2.1 ks 0 < 0) :
    mksF ks l s = ((s.1, s.2.1, s.2.2.1, s.2.2.2.1, mwF (ks.getD (finF (fun x : tKey.den => x.1) (l.getD (finF (fun x : tAuthority.den => x.1) s.1 l 0).toNat (0, 0, 0, ())).2.1 ks 0).toNat (0, 0, 0, 0, 0, ())) (stI s), ()), true) := by
  rw [mks_t h hk]
  have e : (mbF ks (l.getD (finF (fun x : tAuthority.den => x.1) s.1 l 0).toNat (0, 0, 0, ())).2.1 (stI s)).1 = mwF (ks.getD (finF (fun x : tKey.den => x.1) (l.getD (finF (fun x : tAuthority.den => x.1) s.1 l 0).toNat (0, 0, 0, ())).2.1 ks 0).toNat (0, 0, 0, 0, 0, ())) (stI s) := by
    unfold mbF
    rw [if_neg hk]
  rw [e]
theorem ssp_f {l : List tAuthority.den} {s : tStamp.den} (h : (finF (fun x : tAuthority.den => x.1) s.1 l 0 < 0 ∨ ((l.getD (finF (fun x : tAuthority.den => x.1) s.1 l 0).toNat (0, 0, 0, ())).2.2.1 : Int) < 0) ∨ inB s.2.2.1 0 10000 = false) : sspF l s = ((0, 0, ()), false) := by
  unfold sspF finA
  rw [if_pos]
  rw [inB_f] at h
  rcases h with (h | h) | h
  · exact .inl h
  · exact .inr (.inl h)
  · exact .inr (.inr h)
theorem ssp_t {l : List tAuthority.den} {s : tStamp.den} (h : (¬ finF (fun x : tAuthority.den => x.1) s.1 l 0 < 0 ∧ ¬ ((l.getD (finF (fun x : tAuthority.den => x.1) s.1 l 0).toNat (0, 0, 0, ())).2.2.1 : Int) < 0) ∧ inB s.2.2.1 0 10000 = true) :
    sspF l s = mkF (IntKind.i64.wrap (s.2.2.1 - (l.getD (finF (fun x : tAuthority.den => x.1) s.1 l 0).toNat (0, 0, 0, ())).2.2.1)) (IntKind.i64.wrap (s.2.2.1 + (l.getD (finF (fun x : tAuthority.den => x.1) s.1 l 0).toNat (0, 0, 0, ())).2.2.1)) := by
  unfold sspF finA
  rw [if_neg]
  rw [inB_t] at h
  rintro (k | k | k)
  · exact h.1.1 k
  · exact h.1.2 k
  · exact k h.2
theorem dec_not {p : Prop} [Decidable p] (h : ¬ p) : decide p = false := decide_eq_false h
theorem impl_MakeStamp_ok (ks : List tKey.den) (l : List tAuthority.den) (s : tStamp.den) : FunOK Tryz.prog 136 [⟨(.list tKey), ks⟩, ⟨(.list tAuthority), l⟩, ⟨tStamp, s⟩] (.tup [.rd tStamp (mksF ks l s).1, .rd .bool (mksF ks l s).2]) := by
  have hf1 := finF_lt (fun x : tAuthority.den => x.1) s.1 l 0
  have hf2 := finF_lt (fun x : tKey.den => x.1) (l.getD (finF (fun x : tAuthority.den => x.1) s.1 l 0).toNat (0, 0, 0, ())).2.1 ks 0
  refine fun_of (tb := tb) follows Tryz.func136 (by kernel_rfl) Tryz.ntmps136 rfl rfl rfl ?_
  intro cx hN hw
  simp (disch := exact eqId (by kernel_rfl)) only [go_sem, ↓reduceIte, Nat.reduceAdd, Nat.reduceMul, Nat.reduceLT, Nat.reduceBEq, Nat.reduceLeDiff, Nat.reduceEqDiff, Int.reduceToNat]
  repeat' (first | (refine And.intro ?_ ?_) | intro _ | (refine callQ_intro (impl_FindAuthority_ok _ _) ?_; try (simp (disch := exact eqId (by kernel_rfl)) only [go_sem, ↓reduceIte, Nat.reduceAdd, Nat.reduceMul, Nat.reduceLT, Nat.reduceBEq, Nat.reduceLeDiff, Nat.reduceEqDiff, Int.reduceToNat])) | (refine callH_intro (fun hcc => impl_FindAuthority_ok _ _) ?_; try (simp (disch := exact eqId (by kernel_rfl)) only [go_sem, ↓reduceIte, Nat.reduceAdd, Nat.reduceMul, Nat.reduceLT, Nat.reduceBEq, Nat.reduceLeDiff, Nat.reduceEqDiff, Int.reduceToNat])) | (refine callQ_intro (impl_isTime_ok _) ?_; try (simp (disch := exact eqId (by kernel_rfl)) only [go_sem, ↓reduceIte, Nat.reduceAdd, Nat.reduceMul, Nat.reduceLT, Nat.reduceBEq, Nat.reduceLeDiff, Nat.reduceEqDiff, Int.reduceToNat])) | (refine callH_intro (fun hcc => impl_isTime_ok _) ?_; try (simp (disch := exact eqId (by kernel_rfl)) only [go_sem, ↓reduceIte, Nat.reduceAdd, Nat.reduceMul, Nat.reduceLT, Nat.reduceBEq, Nat.reduceLeDiff, Nat.reduceEqDiff, Int.reduceToNat])) | (refine callQ_intro (impl_StampInts_ok _) ?_; try (simp (disch := exact eqId (by kernel_rfl)) only [go_sem, ↓reduceIte, Nat.reduceAdd, Nat.reduceMul, Nat.reduceLT, Nat.reduceBEq, Nat.reduceLeDiff, Nat.reduceEqDiff, Int.reduceToNat])) | (refine callH_intro (fun hcc => impl_StampInts_ok _) ?_; try (simp (disch := exact eqId (by kernel_rfl)) only [go_sem, ↓reduceIte, Nat.reduceAdd, Nat.reduceMul, Nat.reduceLT, Nat.reduceBEq, Nat.reduceLeDiff, Nat.reduceEqDiff, Int.reduceToNat])) | (refine callQ_intro (impl_markBy_ok _ _ _ (show (List.length _) ≤ 1073741823 by simp)) ?_; try (simp (disch := exact eqId (by kernel_rfl)) only [go_sem, ↓reduceIte, Nat.reduceAdd, Nat.reduceMul, Nat.reduceLT, Nat.reduceBEq, Nat.reduceLeDiff, Nat.reduceEqDiff, Int.reduceToNat])) | (refine callH_intro (fun hcc => impl_markBy_ok _ _ _ (show (List.length _) ≤ 1073741823 by simp)) ?_; try (simp (disch := exact eqId (by kernel_rfl)) only [go_sem, ↓reduceIte, Nat.reduceAdd, Nat.reduceMul, Nat.reduceLT, Nat.reduceBEq, Nat.reduceLeDiff, Nat.reduceEqDiff, Int.reduceToNat])))
  all_goals (try omega)
  all_goals first
    | (rename_i hc; first | exact (congrArg Prod.fst (mks_f hc)).symm | exact (congrArg Prod.snd (mks_f hc)).symm)
    | (rename_i hc hk; first | exact (congrArg Prod.fst (mks_k ((mb_f _ _ _).mp hk))).symm | exact (congrArg Prod.snd (mks_k ((mb_f _ _ _).mp hk))).symm | exact (congrArg Prod.fst (mks_k hk)).symm | exact (congrArg Prod.snd (mks_k hk)).symm | exact (congrArg Prod.fst (mks_t hc ((mb_t _ _ _).mp hk))).symm | exact (congrArg Prod.snd (mks_t hc ((mb_t _ _ _).mp hk))).symm | exact (congrArg Prod.fst (mks_u hc hk)).symm | exact (congrArg Prod.snd (mks_u hc hk)).symm)
theorem impl_CheckStamp_ok (ks : List tKey.den) (l : List tAuthority.den) (s : tStamp.den) : FunOK Tryz.prog 107 [⟨(.list tKey), ks⟩, ⟨(.list tAuthority), l⟩, ⟨tStamp, s⟩] (.rd .bool (cksS ks l s)) := by
  refine fun_of (tb := tb) follows Tryz.func107 (by kernel_rfl) Tryz.ntmps107 rfl rfl rfl ?_
  intro cx hN hw
  simp (disch := exact eqId (by kernel_rfl)) only [go_sem, ↓reduceIte, Nat.reduceAdd, Nat.reduceMul, Nat.reduceLT, Nat.reduceBEq, Nat.reduceLeDiff, Nat.reduceEqDiff, Int.reduceToNat]
  repeat' (first | (refine And.intro ?_ ?_) | intro _ | (refine callQ_intro (impl_MakeStamp_ok _ _ _) ?_; try (simp (disch := exact eqId (by kernel_rfl)) only [go_sem, ↓reduceIte, Nat.reduceAdd, Nat.reduceMul, Nat.reduceLT, Nat.reduceBEq, Nat.reduceLeDiff, Nat.reduceEqDiff, Int.reduceToNat])) | (refine callH_intro (fun hcc => impl_MakeStamp_ok _ _ _) ?_; try (simp (disch := exact eqId (by kernel_rfl)) only [go_sem, ↓reduceIte, Nat.reduceAdd, Nat.reduceMul, Nat.reduceLT, Nat.reduceBEq, Nat.reduceLeDiff, Nat.reduceEqDiff, Int.reduceToNat])))
  all_goals (try rfl)
theorem impl_StampSpan_ok (l : List tAuthority.den) (s : tStamp.den) : FunOK Tryz.prog 99 [⟨(.list tAuthority), l⟩, ⟨tStamp, s⟩] (.tup [.rd tSpan (sspF l s).1, .rd .bool (sspF l s).2]) := by
  have hf1 := finF_lt (fun x : tAuthority.den => x.1) s.1 l 0
  refine fun_of (tb := tb) follows Tryz.func99 (by kernel_rfl) Tryz.ntmps99 rfl rfl rfl ?_
  intro cx hN hw
  simp (disch := exact eqId (by kernel_rfl)) only [go_sem, ↓reduceIte, Nat.reduceAdd, Nat.reduceMul, Nat.reduceLT, Nat.reduceBEq, Nat.reduceLeDiff, Nat.reduceEqDiff, Int.reduceToNat]
  repeat' (first | (refine And.intro ?_ ?_) | intro _ | (refine callQ_intro (impl_FindAuthority_ok _ _) ?_; try (simp (disch := exact eqId (by kernel_rfl)) only [go_sem, ↓reduceIte, Nat.reduceAdd, Nat.reduceMul, Nat.reduceLT, Nat.reduceBEq, Nat.reduceLeDiff, Nat.reduceEqDiff, Int.reduceToNat])) | (refine callH_intro (fun hcc => impl_FindAuthority_ok _ _) ?_; try (simp (disch := exact eqId (by kernel_rfl)) only [go_sem, ↓reduceIte, Nat.reduceAdd, Nat.reduceMul, Nat.reduceLT, Nat.reduceBEq, Nat.reduceLeDiff, Nat.reduceEqDiff, Int.reduceToNat])) | (refine callQ_intro (impl_isTime_ok _) ?_; try (simp (disch := exact eqId (by kernel_rfl)) only [go_sem, ↓reduceIte, Nat.reduceAdd, Nat.reduceMul, Nat.reduceLT, Nat.reduceBEq, Nat.reduceLeDiff, Nat.reduceEqDiff, Int.reduceToNat])) | (refine callH_intro (fun hcc => impl_isTime_ok _) ?_; try (simp (disch := exact eqId (by kernel_rfl)) only [go_sem, ↓reduceIte, Nat.reduceAdd, Nat.reduceMul, Nat.reduceLT, Nat.reduceBEq, Nat.reduceLeDiff, Nat.reduceEqDiff, Int.reduceToNat])) | (refine callQ_intro (impl_MakeSpan_ok _ _) ?_; try (simp (disch := exact eqId (by kernel_rfl)) only [go_sem, ↓reduceIte, Nat.reduceAdd, Nat.reduceMul, Nat.reduceLT, Nat.reduceBEq, Nat.reduceLeDiff, Nat.reduceEqDiff, Int.reduceToNat])) | (refine callH_intro (fun hcc => impl_MakeSpan_ok _ _) ?_; try (simp (disch := exact eqId (by kernel_rfl)) only [go_sem, ↓reduceIte, Nat.reduceAdd, Nat.reduceMul, Nat.reduceLT, Nat.reduceBEq, Nat.reduceLeDiff, Nat.reduceEqDiff, Int.reduceToNat])))
  all_goals (try omega)
  all_goals (rename_i hc; first | exact (congrArg Prod.fst (ssp_f hc)).symm | exact (congrArg Prod.snd (ssp_f hc)).symm | exact (congrArg Prod.fst (ssp_t hc)).symm | exact (congrArg Prod.snd (ssp_t hc)).symm)
theorem impl_StampKey_ok (l : List tAuthority.den) (s : tStamp.den) : FunOK Tryz.prog 67 [⟨(.list tAuthority), l⟩, ⟨tStamp, s⟩] (.rd I (skyF l s)) := by
  have hf1 := finF_lt (fun x : tAuthority.den => x.1) s.1 l 0
  refine fun_of (tb := tb) follows Tryz.func67 (by kernel_rfl) Tryz.ntmps67 rfl rfl rfl ?_
  intro cx hN hw
  simp (disch := exact eqId (by kernel_rfl)) only [go_sem, ↓reduceIte, Nat.reduceAdd, Nat.reduceMul, Nat.reduceLT, Nat.reduceBEq, Nat.reduceLeDiff, Nat.reduceEqDiff, Int.reduceToNat]
  repeat' (first | (refine And.intro ?_ ?_) | intro _ | (refine callQ_intro (impl_FindAuthority_ok _ _) ?_; try (simp (disch := exact eqId (by kernel_rfl)) only [go_sem, ↓reduceIte, Nat.reduceAdd, Nat.reduceMul, Nat.reduceLT, Nat.reduceBEq, Nat.reduceLeDiff, Nat.reduceEqDiff, Int.reduceToNat])) | (refine callH_intro (fun hcc => impl_FindAuthority_ok _ _) ?_; try (simp (disch := exact eqId (by kernel_rfl)) only [go_sem, ↓reduceIte, Nat.reduceAdd, Nat.reduceMul, Nat.reduceLT, Nat.reduceBEq, Nat.reduceLeDiff, Nat.reduceEqDiff, Int.reduceToNat])))
  all_goals (try omega)
  all_goals (unfold skyF finA; first | rw [if_pos (by omega)] | rw [if_neg (by omega)])
theorem impl_BreakOf_ok (l : List tMethod.den) (n : Int) : FunOK Tryz.prog 138 [⟨(.list tMethod), l⟩, ⟨I, n⟩] (.rd I (brkF l n)) := by
  have hf1 := finF_lt (fun x : tMethod.den => x.1) n l 0
  refine fun_of (tb := tb) follows Tryz.func138 (by kernel_rfl) Tryz.ntmps138 rfl rfl rfl ?_
  intro cx hN hw
  simp (disch := exact eqId (by kernel_rfl)) only [go_sem, ↓reduceIte, Nat.reduceAdd, Nat.reduceMul, Nat.reduceLT, Nat.reduceBEq, Nat.reduceLeDiff, Nat.reduceEqDiff, Int.reduceToNat]
  repeat' (first | (refine And.intro ?_ ?_) | intro _ | (refine callQ_intro (impl_FindMethod_ok _ _) ?_; try (simp (disch := exact eqId (by kernel_rfl)) only [go_sem, ↓reduceIte, Nat.reduceAdd, Nat.reduceMul, Nat.reduceLT, Nat.reduceBEq, Nat.reduceLeDiff, Nat.reduceEqDiff, Int.reduceToNat])) | (refine callH_intro (fun hcc => impl_FindMethod_ok _ _) ?_; try (simp (disch := exact eqId (by kernel_rfl)) only [go_sem, ↓reduceIte, Nat.reduceAdd, Nat.reduceMul, Nat.reduceLT, Nat.reduceBEq, Nat.reduceLeDiff, Nat.reduceEqDiff, Int.reduceToNat])))
  all_goals (try omega)
  all_goals (unfold brkF finM; first | rw [if_pos (by omega)] | rw [if_neg (by omega)])
theorem spec_MakeStamp_ok (ks : List tKey.den) (l : List tAuthority.den) (s : tStamp.den) : FunOK Tryz.prog 148 [⟨(.list tKey), ks⟩, ⟨(.list tAuthority), l⟩, ⟨tStamp, s⟩] (.tup [.rd tStamp (mksF ks l s).1, .rd .bool (mksF ks l s).2]) := by
  have hf1 := finF_lt (fun x : tAuthority.den => x.1) s.1 l 0
  have hf2 := finF_lt (fun x : tKey.den => x.1) (l.getD (finF (fun x : tAuthority.den => x.1) s.1 l 0).toNat (0, 0, 0, ())).2.1 ks 0
  refine fun_of (tb := tb) follows Tryz.func148 (by kernel_rfl) Tryz.ntmps148 rfl rfl rfl ?_
  intro cx hN hw
  simp (disch := exact eqId (by kernel_rfl)) only [go_sem, ↓reduceIte, Nat.reduceAdd, Nat.reduceMul, Nat.reduceLT, Nat.reduceBEq, Nat.reduceLeDiff, Nat.reduceEqDiff, Int.reduceToNat]
  repeat' (first | (refine And.intro ?_ ?_) | intro _ | (refine callQ_intro (spec_FindAuthority_ok _ _) ?_; try (simp (disch := exact eqId (by kernel_rfl)) only [go_sem, ↓reduceIte, Nat.reduceAdd, Nat.reduceMul, Nat.reduceLT, Nat.reduceBEq, Nat.reduceLeDiff, Nat.reduceEqDiff, Int.reduceToNat])) | (refine callH_intro (fun hcc => spec_FindAuthority_ok _ _) ?_; try (simp (disch := exact eqId (by kernel_rfl)) only [go_sem, ↓reduceIte, Nat.reduceAdd, Nat.reduceMul, Nat.reduceLT, Nat.reduceBEq, Nat.reduceLeDiff, Nat.reduceEqDiff, Int.reduceToNat])) | (refine callQ_intro (spec_l4Time_ok _) ?_; try (simp (disch := exact eqId (by kernel_rfl)) only [go_sem, ↓reduceIte, Nat.reduceAdd, Nat.reduceMul, Nat.reduceLT, Nat.reduceBEq, Nat.reduceLeDiff, Nat.reduceEqDiff, Int.reduceToNat])) | (refine callH_intro (fun hcc => spec_l4Time_ok _) ?_; try (simp (disch := exact eqId (by kernel_rfl)) only [go_sem, ↓reduceIte, Nat.reduceAdd, Nat.reduceMul, Nat.reduceLT, Nat.reduceBEq, Nat.reduceLeDiff, Nat.reduceEqDiff, Int.reduceToNat])) | (refine callQ_intro (spec_StampInts_ok _) ?_; try (simp (disch := exact eqId (by kernel_rfl)) only [go_sem, ↓reduceIte, Nat.reduceAdd, Nat.reduceMul, Nat.reduceLT, Nat.reduceBEq, Nat.reduceLeDiff, Nat.reduceEqDiff, Int.reduceToNat])) | (refine callH_intro (fun hcc => spec_StampInts_ok _) ?_; try (simp (disch := exact eqId (by kernel_rfl)) only [go_sem, ↓reduceIte, Nat.reduceAdd, Nat.reduceMul, Nat.reduceLT, Nat.reduceBEq, Nat.reduceLeDiff, Nat.reduceEqDiff, Int.reduceToNat])) | (refine callQ_intro (spec_FindKey_ok _ _) ?_; try (simp (disch := exact eqId (by kernel_rfl)) only [go_sem, ↓reduceIte, Nat.reduceAdd, Nat.reduceMul, Nat.reduceLT, Nat.reduceBEq, Nat.reduceLeDiff, Nat.reduceEqDiff, Int.reduceToNat])) | (refine callH_intro (fun hcc => spec_FindKey_ok _ _) ?_; try (simp (disch := exact eqId (by kernel_rfl)) only [go_sem, ↓reduceIte, Nat.reduceAdd, Nat.reduceMul, Nat.reduceLT, Nat.reduceBEq, Nat.reduceLeDiff, Nat.reduceEqDiff, Int.reduceToNat])) | (refine callQ_intro (spec_MarkWith_ok _ _ (show (List.length _) ≤ 1073741823 by simp)) ?_; try (simp (disch := exact eqId (by kernel_rfl)) only [go_sem, ↓reduceIte, Nat.reduceAdd, Nat.reduceMul, Nat.reduceLT, Nat.reduceBEq, Nat.reduceLeDiff, Nat.reduceEqDiff, Int.reduceToNat])) | (refine callH_intro (fun hcc => spec_MarkWith_ok _ _ (show (List.length _) ≤ 1073741823 by simp)) ?_; try (simp (disch := exact eqId (by kernel_rfl)) only [go_sem, ↓reduceIte, Nat.reduceAdd, Nat.reduceMul, Nat.reduceLT, Nat.reduceBEq, Nat.reduceLeDiff, Nat.reduceEqDiff, Int.reduceToNat])))
  all_goals (try omega)
  all_goals first
    | (rename_i hc; first | exact (congrArg Prod.fst (mks_f hc)).symm | exact (congrArg Prod.snd (mks_f hc)).symm)
    | (rename_i hc hk; first | exact (congrArg Prod.fst (mks_k ((mb_f _ _ _).mp hk))).symm | exact (congrArg Prod.snd (mks_k ((mb_f _ _ _).mp hk))).symm | exact (congrArg Prod.fst (mks_k hk)).symm | exact (congrArg Prod.snd (mks_k hk)).symm | exact (congrArg Prod.fst (mks_t hc ((mb_t _ _ _).mp hk))).symm | exact (congrArg Prod.snd (mks_t hc ((mb_t _ _ _).mp hk))).symm | exact (congrArg Prod.fst (mks_u hc hk)).symm | exact (congrArg Prod.snd (mks_u hc hk)).symm)
theorem spec_CheckStamp_ok (ks : List tKey.den) (l : List tAuthority.den) (s : tStamp.den) : FunOK Tryz.prog 132 [⟨(.list tKey), ks⟩, ⟨(.list tAuthority), l⟩, ⟨tStamp, s⟩] (.rd .bool (cksS ks l s)) := by
  refine fun_of (tb := tb) follows Tryz.func132 (by kernel_rfl) Tryz.ntmps132 rfl rfl rfl ?_
  intro cx hN hw
  simp (disch := exact eqId (by kernel_rfl)) only [go_sem, ↓reduceIte, Nat.reduceAdd, Nat.reduceMul, Nat.reduceLT, Nat.reduceBEq, Nat.reduceLeDiff, Nat.reduceEqDiff, Int.reduceToNat]
  repeat' (first | (refine And.intro ?_ ?_) | intro _ | (refine callQ_intro (spec_MakeStamp_ok _ _ _) ?_; try (simp (disch := exact eqId (by kernel_rfl)) only [go_sem, ↓reduceIte, Nat.reduceAdd, Nat.reduceMul, Nat.reduceLT, Nat.reduceBEq, Nat.reduceLeDiff, Nat.reduceEqDiff, Int.reduceToNat])) | (refine callH_intro (fun hcc => spec_MakeStamp_ok _ _ _) ?_; try (simp (disch := exact eqId (by kernel_rfl)) only [go_sem, ↓reduceIte, Nat.reduceAdd, Nat.reduceMul, Nat.reduceLT, Nat.reduceBEq, Nat.reduceLeDiff, Nat.reduceEqDiff, Int.reduceToNat])))
  all_goals (try rfl)
theorem spec_StampSpan_ok (l : List tAuthority.den) (s : tStamp.den) : FunOK Tryz.prog 84 [⟨(.list tAuthority), l⟩, ⟨tStamp, s⟩] (.tup [.rd tSpan (sspF l s).1, .rd .bool (sspF l s).2]) := by
  have hf1 := finF_lt (fun x : tAuthority.den => x.1) s.1 l 0
  refine fun_of (tb := tb) follows Tryz.func84 (by kernel_rfl) Tryz.ntmps84 rfl rfl rfl ?_
  intro cx hN hw
  simp (disch := exact eqId (by kernel_rfl)) only [go_sem, ↓reduceIte, Nat.reduceAdd, Nat.reduceMul, Nat.reduceLT, Nat.reduceBEq, Nat.reduceLeDiff, Nat.reduceEqDiff, Int.reduceToNat]
  repeat' (first | (refine And.intro ?_ ?_) | intro _ | (refine callQ_intro (spec_FindAuthority_ok _ _) ?_; try (simp (disch := exact eqId (by kernel_rfl)) only [go_sem, ↓reduceIte, Nat.reduceAdd, Nat.reduceMul, Nat.reduceLT, Nat.reduceBEq, Nat.reduceLeDiff, Nat.reduceEqDiff, Int.reduceToNat])) | (refine callH_intro (fun hcc => spec_FindAuthority_ok _ _) ?_; try (simp (disch := exact eqId (by kernel_rfl)) only [go_sem, ↓reduceIte, Nat.reduceAdd, Nat.reduceMul, Nat.reduceLT, Nat.reduceBEq, Nat.reduceLeDiff, Nat.reduceEqDiff, Int.reduceToNat])) | (refine callQ_intro (spec_l4Time_ok _) ?_; try (simp (disch := exact eqId (by kernel_rfl)) only [go_sem, ↓reduceIte, Nat.reduceAdd, Nat.reduceMul, Nat.reduceLT, Nat.reduceBEq, Nat.reduceLeDiff, Nat.reduceEqDiff, Int.reduceToNat])) | (refine callH_intro (fun hcc => spec_l4Time_ok _) ?_; try (simp (disch := exact eqId (by kernel_rfl)) only [go_sem, ↓reduceIte, Nat.reduceAdd, Nat.reduceMul, Nat.reduceLT, Nat.reduceBEq, Nat.reduceLeDiff, Nat.reduceEqDiff, Int.reduceToNat])) | (refine callQ_intro (spec_MakeSpan_ok _ _) ?_; try (simp (disch := exact eqId (by kernel_rfl)) only [go_sem, ↓reduceIte, Nat.reduceAdd, Nat.reduceMul, Nat.reduceLT, Nat.reduceBEq, Nat.reduceLeDiff, Nat.reduceEqDiff, Int.reduceToNat])) | (refine callH_intro (fun hcc => spec_MakeSpan_ok _ _) ?_; try (simp (disch := exact eqId (by kernel_rfl)) only [go_sem, ↓reduceIte, Nat.reduceAdd, Nat.reduceMul, Nat.reduceLT, Nat.reduceBEq, Nat.reduceLeDiff, Nat.reduceEqDiff, Int.reduceToNat])))
  all_goals (try omega)
  all_goals (rename_i hc; first | exact (congrArg Prod.fst (ssp_f hc)).symm | exact (congrArg Prod.snd (ssp_f hc)).symm | exact (congrArg Prod.fst (ssp_t hc)).symm | exact (congrArg Prod.snd (ssp_t hc)).symm)
theorem spec_StampKey_ok (l : List tAuthority.den) (s : tStamp.den) : FunOK Tryz.prog 93 [⟨(.list tAuthority), l⟩, ⟨tStamp, s⟩] (.rd I (skyF l s)) := by
  have hf1 := finF_lt (fun x : tAuthority.den => x.1) s.1 l 0
  refine fun_of (tb := tb) follows Tryz.func93 (by kernel_rfl) Tryz.ntmps93 rfl rfl rfl ?_
  intro cx hN hw
  simp (disch := exact eqId (by kernel_rfl)) only [go_sem, ↓reduceIte, Nat.reduceAdd, Nat.reduceMul, Nat.reduceLT, Nat.reduceBEq, Nat.reduceLeDiff, Nat.reduceEqDiff, Int.reduceToNat]
  repeat' (first | (refine And.intro ?_ ?_) | intro _ | (refine callQ_intro (spec_FindAuthority_ok _ _) ?_; try (simp (disch := exact eqId (by kernel_rfl)) only [go_sem, ↓reduceIte, Nat.reduceAdd, Nat.reduceMul, Nat.reduceLT, Nat.reduceBEq, Nat.reduceLeDiff, Nat.reduceEqDiff, Int.reduceToNat])) | (refine callH_intro (fun hcc => spec_FindAuthority_ok _ _) ?_; try (simp (disch := exact eqId (by kernel_rfl)) only [go_sem, ↓reduceIte, Nat.reduceAdd, Nat.reduceMul, Nat.reduceLT, Nat.reduceBEq, Nat.reduceLeDiff, Nat.reduceEqDiff, Int.reduceToNat])))
  all_goals (try omega)
  all_goals (unfold skyF finA; first | rw [if_pos (by omega)] | rw [if_neg (by omega)])
theorem spec_BreakOf_ok (l : List tMethod.den) (n : Int) : FunOK Tryz.prog 146 [⟨(.list tMethod), l⟩, ⟨I, n⟩] (.rd I (brkF l n)) := by
  have hf1 := finF_lt (fun x : tMethod.den => x.1) n l 0
  refine fun_of (tb := tb) follows Tryz.func146 (by kernel_rfl) Tryz.ntmps146 rfl rfl rfl ?_
  intro cx hN hw
  simp (disch := exact eqId (by kernel_rfl)) only [go_sem, ↓reduceIte, Nat.reduceAdd, Nat.reduceMul, Nat.reduceLT, Nat.reduceBEq, Nat.reduceLeDiff, Nat.reduceEqDiff, Int.reduceToNat]
  repeat' (first | (refine And.intro ?_ ?_) | intro _ | (refine callQ_intro (spec_FindMethod_ok _ _) ?_; try (simp (disch := exact eqId (by kernel_rfl)) only [go_sem, ↓reduceIte, Nat.reduceAdd, Nat.reduceMul, Nat.reduceLT, Nat.reduceBEq, Nat.reduceLeDiff, Nat.reduceEqDiff, Int.reduceToNat])) | (refine callH_intro (fun hcc => spec_FindMethod_ok _ _) ?_; try (simp (disch := exact eqId (by kernel_rfl)) only [go_sem, ↓reduceIte, Nat.reduceAdd, Nat.reduceMul, Nat.reduceLT, Nat.reduceBEq, Nat.reduceLeDiff, Nat.reduceEqDiff, Int.reduceToNat])))
  all_goals (try omega)
  all_goals (unfold brkF finM; first | rw [if_pos (by omega)] | rw [if_neg (by omega)])
def risF (l : List tStamp.den) : Bool := areG (fun _ => true) (fun x : tStamp.den => (x.1 : Int)) none l
noncomputable def stB (ks : List tKey.den) (l : List tAuthority.den) (root : Int) (s : tStamp.den) : Bool := decide ((s.2.2.2.1 : Int) = root) && cksS ks l s
theorem areG_all {α : Type} (p : α → Bool) (n : α → Int) : ∀ (l : List α) (pr : Option Int), areG p n pr l = (areG (fun _ => true) n pr l && l.all p)
  | [], pr => by rw [areG_nil, areG_nil]; rfl
  | x :: xs, pr => by
    rw [areG_cons, areG_cons, areG_all p n xs (some (n x)), List.all_cons]
    cases p x <;> cases ltG pr (n x) <;> simp
noncomputable def crF (ks : List tKey.den) (l : List tAuthority.den) (r : tRenewal.den) (leaf : Int) : Bool :=
  decide (r.2.2.2.1.length ≤ 4 ∧ List.foldl (fpStep r.2.1) leaf r.2.2.2.1 = (r.2.2.1 : Int) ∧ 1 ≤ r.2.2.2.2.1.length ∧ r.2.2.2.2.1.length ≤ 6) && areG (stB ks l r.2.2.1) (fun x : tStamp.den => (x.1 : Int)) none r.2.2.2.2.1
theorem crA_f {ks : List tKey.den} {l : List tAuthority.den} {r : tRenewal.den} {leaf : Int} (h : ((((List.length r.2.2.2.1 : Int) > 4) ∨ ¬ List.foldl (fpStep r.2.1) leaf r.2.2.2.1 = (r.2.2.1 : Int)) ∨ (¬ 1 ≤ (List.length r.2.2.2.2.1 : Int) ∨ ¬ (List.length r.2.2.2.2.1 : Int) ≤ 6)) ∨ risF r.2.2.2.2.1 = false) : false = crF ks l r leaf := by
  unfold crF
  rw [areG_all]
  rcases h with ((h | h) | h) | h
  · rw [decide_eq_false (by rintro ⟨h1, h2, h3, h4⟩; omega)]; rfl
  · rw [decide_eq_false (by rintro ⟨h1, h2, h3, h4⟩; exact h h2)]; rfl
  · rw [decide_eq_false (by rintro ⟨h1, h2, h3, h4⟩; omega)]; rfl
  · unfold risF at h
    rw [h, Bool.false_and, Bool.and_false]
theorem crA_t {ks : List tKey.den} {l : List tAuthority.den} {r : tRenewal.den} {leaf : Int} (h : ((¬ ((List.length r.2.2.2.1 : Int) > 4) ∧ List.foldl (fpStep r.2.1) leaf r.2.2.2.1 = (r.2.2.1 : Int)) ∧ (1 ≤ (List.length r.2.2.2.2.1 : Int) ∧ (List.length r.2.2.2.2.1 : Int) ≤ 6)) ∧ risF r.2.2.2.2.1 = true) : crF ks l r leaf = List.all r.2.2.2.2.1 (stB ks l r.2.2.1) := by
  unfold crF
  rw [areG_all, decide_eq_true (show _ from ⟨by have := h.1.1.1; omega, h.1.1.2, by have := h.1.2.1; omega, by have := h.1.2.2; omega⟩), Bool.true_and]
  have := h.2
  unfold risF at this
  rw [this, Bool.true_and]
theorem crB_f {ks : List tKey.den} {l : List tAuthority.den} {r : tRenewal.den} {leaf : Int} (h : (((List.length r.2.2.2.1 : Int) > 4) ∨ ¬ List.foldl (fpStep r.2.1) leaf r.2.2.2.1 = (r.2.2.1 : Int)) ∨ (¬ 1 ≤ (List.length r.2.2.2.2.1 : Int) ∨ ¬ (List.length r.2.2.2.2.1 : Int) ≤ 6)) : false = crF ks l r leaf := crA_f (.inl h)
theorem crB_t {ks : List tKey.den} {l : List tAuthority.den} {r : tRenewal.den} {leaf : Int} (h : (¬ ((List.length r.2.2.2.1 : Int) > 4) ∧ List.foldl (fpStep r.2.1) leaf r.2.2.2.1 = (r.2.2.1 : Int)) ∧ (1 ≤ (List.length r.2.2.2.2.1 : Int) ∧ (List.length r.2.2.2.2.1 : Int) ≤ 6)) : crF ks l r leaf = areG (stB ks l r.2.2.1) (fun x : tStamp.den => (x.1 : Int)) none r.2.2.2.2.1 := by
  unfold crF
  rw [decide_eq_true (show _ from ⟨by have := h.1.1; omega, h.1.2, by have := h.2.1; omega, by have := h.2.2; omega⟩), Bool.true_and]
theorem stB_f {ks : List tKey.den} {l : List tAuthority.den} {root : Int} {s : tStamp.den} (he : ¬ (s.2.2.2.1 : Int) = root ∨ cksS ks l s = false) : stB ks l root s = false := by
  unfold stB
  rcases he with he | he
  · rw [decide_eq_false he, Bool.false_and]
  · rw [he, Bool.and_false]
theorem stB_t {ks : List tKey.den} {l : List tAuthority.den} {root : Int} {s : tStamp.den} (he : (s.2.2.2.1 : Int) = root ∧ cksS ks l s = true) : stB ks l root s = true := by
  unfold stB
  rw [decide_eq_true he.1, he.2]
  rfl
theorem impl_risingAuthorities_ok (l : List tStamp.den) : FunOK Tryz.prog 63 [⟨(.list tStamp), l⟩] (.rd .bool (risF l)) := by
  refine fun_of (tb := tb) follows Tryz.func63 (by kernel_rfl) Tryz.ntmps63 rfl rfl rfl ?_
  intro cx hN hw
  have hm : maxLen = 9223372036854775807 := rfl
  have hl : l.length ≤ maxLen := hw.1.1
  simp (disch := exact eqId (by kernel_rfl)) only [go_sem, ↓reduceIte, Nat.reduceAdd, Nat.reduceMul, Nat.reduceLT, Nat.reduceBEq, Nat.reduceLeDiff, Nat.reduceEqDiff, Int.reduceToNat]
  refine loop_intro (tb := tb) follows hN (D := Nat) (fun d => shp [(0, .rd (.list tStamp) (l)), (3, .rd I (d : Int))] []) (fun d => (1 ≤ d ∧ (d ≤ l.length ∨ l.length = 0 ∧ d = 1)) ∧ risF l = areG (fun _ => true) (fun x : tStamp.den => (x.1 : Int)) (pvG (fun x : tStamp.den => (x.1 : Int)) (0, 0, 0, 0, 0, ()) l d) (l.drop d)) (fun d => l.length - d) (1) ?_ (sub_shp hN [] ?_) (fun d hd => ?_)
  · refine ⟨⟨Nat.le_refl _, by omega⟩, ?_⟩
    unfold risF
    cases l with
    | nil => simp only [List.drop_nil, areG_nil]
    | cons x xs =>
      rw [areG_cons, pvG_succ]
      rfl
  · simp (disch := exact eqId (by kernel_rfl)) only [go_sem, ↓reduceIte, Nat.reduceAdd, Nat.reduceMul, Nat.reduceLT, Nat.reduceBEq, Nat.reduceLeDiff, Nat.reduceEqDiff, Int.reduceToNat]
    try rfl
  · obtain ⟨⟨h0, h1⟩, h2⟩ := hd
    have e1 : IntKind.i64.wrap ((d : Int) - 1) = (d : Int) - 1 := wrap_i64 (by omega) (by omega)
    simp (disch := exact eqId (by kernel_rfl)) only [go_sem, ↓reduceIte, Nat.reduceAdd, Nat.reduceMul, Nat.reduceLT, Nat.reduceBEq, Nat.reduceLeDiff, Nat.reduceEqDiff, Int.reduceToNat, e1]
    repeat' (first | (refine And.intro ?_ ?_) | intro _)
    all_goals (try omega)
    · rename_i hk hc
      rw [h2, drop_getD (show d < l.length by omega) (0, 0, 0, 0, 0, ()), areG_cons]
      unfold pvG
      rw [if_pos (by omega)]
      have h9 : ltG (some (l.getD ((d : Int) - 1).toNat (0, 0, 0, 0, 0, ())).1) (l.getD d (0, 0, 0, 0, 0, ())).1 = false := decide_eq_false (by first | omega | (rw [e1] at hc; omega))
      rw [h9]
      rfl
    · rename_i hk hc
      have hk : d < l.length := by omega
      refine back_intro (d + 1) ?_ ?_ (sub_shp hN [] ?_)
      · refine ⟨⟨by omega, .inl hk⟩, ?_⟩
        rw [h2, drop_getD hk (0, 0, 0, 0, 0, ()), areG_cons, pvG_succ]
        unfold pvG
        rw [if_pos (by omega)]
        have h9 : ltG (some (l.getD ((d : Int) - 1).toNat (0, 0, 0, 0, 0, ())).1) (l.getD d (0, 0, 0, 0, 0, ())).1 = true := decide_eq_true (by first | omega | (rw [e1] at hc; omega))
        rw [h9]
        rfl
      · omega
      · simp (disch := exact eqId (by kernel_rfl)) only [go_sem, ↓reduceIte, Nat.reduceAdd, Nat.reduceMul, Nat.reduceLT, Nat.reduceBEq, Nat.reduceLeDiff, Nat.reduceEqDiff, Int.reduceToNat]
        exact wrap_succ hk hw.1.1
    · rename_i hk
      rw [h2, drop_end (show l.length ≤ d by omega), areG_nil]
theorem impl_CheckRenewal_ok (ks : List tKey.den) (l : List tAuthority.den) (r : tRenewal.den) (leaf : Int) : FunOK Tryz.prog 72 [⟨(.list tKey), ks⟩, ⟨(.list tAuthority), l⟩, ⟨tRenewal, r⟩, ⟨I, leaf⟩] (.rd .bool (crF ks l r leaf)) := by
  refine fun_of (tb := tb) follows Tryz.func72 (by kernel_rfl) Tryz.ntmps72 rfl rfl rfl ?_
  intro cx hN hw
  simp (disch := exact eqId (by kernel_rfl)) only [go_sem, ↓reduceIte, Nat.reduceAdd, Nat.reduceMul, Nat.reduceLT, Nat.reduceBEq, Nat.reduceLeDiff, Nat.reduceEqDiff, Int.reduceToNat]
  repeat' (first | (refine And.intro ?_ ?_) | intro _ | (refine callQ_intro (impl_FollowPath_ok _ _ _) ?_; try (simp (disch := exact eqId (by kernel_rfl)) only [go_sem, ↓reduceIte, Nat.reduceAdd, Nat.reduceMul, Nat.reduceLT, Nat.reduceBEq, Nat.reduceLeDiff, Nat.reduceEqDiff, Int.reduceToNat])) | (refine callH_intro (fun hcc => impl_FollowPath_ok _ _ _) ?_; try (simp (disch := exact eqId (by kernel_rfl)) only [go_sem, ↓reduceIte, Nat.reduceAdd, Nat.reduceMul, Nat.reduceLT, Nat.reduceBEq, Nat.reduceLeDiff, Nat.reduceEqDiff, Int.reduceToNat])) | (refine callQ_intro (inRange_ok _ _ _) ?_; try (simp (disch := exact eqId (by kernel_rfl)) only [go_sem, ↓reduceIte, Nat.reduceAdd, Nat.reduceMul, Nat.reduceLT, Nat.reduceBEq, Nat.reduceLeDiff, Nat.reduceEqDiff, Int.reduceToNat])) | (refine callH_intro (fun hcc => inRange_ok _ _ _) ?_; try (simp (disch := exact eqId (by kernel_rfl)) only [go_sem, ↓reduceIte, Nat.reduceAdd, Nat.reduceMul, Nat.reduceLT, Nat.reduceBEq, Nat.reduceLeDiff, Nat.reduceEqDiff, Int.reduceToNat])) | (refine callQ_intro (impl_risingAuthorities_ok _) ?_; try (simp (disch := exact eqId (by kernel_rfl)) only [go_sem, ↓reduceIte, Nat.reduceAdd, Nat.reduceMul, Nat.reduceLT, Nat.reduceBEq, Nat.reduceLeDiff, Nat.reduceEqDiff, Int.reduceToNat])) | (refine callH_intro (fun hcc => impl_risingAuthorities_ok _) ?_; try (simp (disch := exact eqId (by kernel_rfl)) only [go_sem, ↓reduceIte, Nat.reduceAdd, Nat.reduceMul, Nat.reduceLT, Nat.reduceBEq, Nat.reduceLeDiff, Nat.reduceEqDiff, Int.reduceToNat])))
  all_goals (try omega)
  · rename_i hc
    exact crA_f hc
  · rename_i hc
    have hcr := crA_t (ks := ks) (l := l) hc
    refine loop_intro (tb := tb) follows hN (D := Nat) (fun d => shp [(0, .rd (.list tKey) (ks)), (1, .rd (.list tAuthority) (l)), (6, .bp 10000 0), (40, .rd (.list tStamp) (r.2.2.2.2.1)), (41, .rd I (((r.2.2.2.2.1).length : Int) : Int)), (42, .rd I (d : Int))] [(10000, .box 97 [.rd I (r.1), .rd I (r.2.1), .rd I (r.2.2.1), .rd (.list tStep) (r.2.2.2.1), .rd (.list tStamp) (r.2.2.2.2.1)])]) (fun d => d ≤ List.length r.2.2.2.2.1 ∧ (r.2.2.2.2.1.all (stB ks l r.2.2.1) = (List.drop d r.2.2.2.2.1).all (stB ks l r.2.2.1))) (fun d => List.length r.2.2.2.2.1 - d) (0) ?_ (sub_shp hN [(10000, some 10000)] ?_) (fun d hd => ?_)
    · exact ⟨Nat.zero_le _, rfl⟩
    · simp (disch := exact eqId (by kernel_rfl)) only [go_sem, ↓reduceIte, Nat.reduceAdd, Nat.reduceMul, Nat.reduceLT, Nat.reduceBEq, Nat.reduceLeDiff, Nat.reduceEqDiff, Int.reduceToNat]
      try rfl
    · obtain ⟨h1, h2⟩ := hd
      simp (disch := exact eqId (by kernel_rfl)) only [go_sem, ↓reduceIte, Nat.reduceAdd, Nat.reduceMul, Nat.reduceLT, Nat.reduceBEq, Nat.reduceLeDiff, Nat.reduceEqDiff, Int.reduceToNat]
      repeat' (first | (refine And.intro ?_ ?_) | intro _ | (refine callQ_intro (impl_CheckStamp_ok _ _ _) ?_; try (simp (disch := exact eqId (by kernel_rfl)) only [go_sem, ↓reduceIte, Nat.reduceAdd, Nat.reduceMul, Nat.reduceLT, Nat.reduceBEq, Nat.reduceLeDiff, Nat.reduceEqDiff, Int.reduceToNat])) | (refine callH_intro (fun hcc => impl_CheckStamp_ok _ _ _) ?_; try (simp (disch := exact eqId (by kernel_rfl)) only [go_sem, ↓reduceIte, Nat.reduceAdd, Nat.reduceMul, Nat.reduceLT, Nat.reduceBEq, Nat.reduceLeDiff, Nat.reduceEqDiff, Int.reduceToNat])))
      all_goals (try omega)
      · rename_i hk he
        rw [hcr, h2, drop_getD (show d < List.length r.2.2.2.2.1 by omega) (0, 0, 0, 0, 0, ()), List.all_cons, stB_f he, Bool.false_and]
      · rename_i hk he
        have hk : d < List.length r.2.2.2.2.1 := by omega
        refine back_intro (d + 1) ?_ ?_ (sub_shp hN [(10000, some 10000)] ?_)
        · refine ⟨hk, ?_⟩
          rw [h2, drop_getD hk (0, 0, 0, 0, 0, ()), List.all_cons, stB_t he, Bool.true_and]
        · omega
        · simp (disch := exact eqId (by kernel_rfl)) only [go_sem, ↓reduceIte, Nat.reduceAdd, Nat.reduceMul, Nat.reduceLT, Nat.reduceBEq, Nat.reduceLeDiff, Nat.reduceEqDiff, Int.reduceToNat]
          exact wrap_succ hk hw.2.2.1.2.2.2.2.1.1
      · rename_i hk
        rw [hcr, h2, drop_end (show List.length r.2.2.2.2.1 ≤ d by omega)]
        rfl
theorem spec_CheckRenewal_ok (ks : List tKey.den) (l : List tAuthority.den) (r : tRenewal.den) (leaf : Int) : FunOK Tryz.prog 103 [⟨(.list tKey), ks⟩, ⟨(.list tAuthority), l⟩, ⟨tRenewal, r⟩, ⟨I, leaf⟩] (.rd .bool (crF ks l r leaf)) := by
  refine fun_of (tb := tb) follows Tryz.func103 (by kernel_rfl) Tryz.ntmps103 rfl rfl rfl ?_
  intro cx hN hw
  have hm : maxLen = 9223372036854775807 := rfl
  have hl : List.length r.2.2.2.2.1 ≤ maxLen := hw.2.2.1.2.2.2.2.1.1
  simp (disch := exact eqId (by kernel_rfl)) only [go_sem, ↓reduceIte, Nat.reduceAdd, Nat.reduceMul, Nat.reduceLT, Nat.reduceBEq, Nat.reduceLeDiff, Nat.reduceEqDiff, Int.reduceToNat]
  repeat' (first | (refine And.intro ?_ ?_) | intro _ | (refine callQ_intro (spec_FollowPath_ok _ _ _) ?_; try (simp (disch := exact eqId (by kernel_rfl)) only [go_sem, ↓reduceIte, Nat.reduceAdd, Nat.reduceMul, Nat.reduceLT, Nat.reduceBEq, Nat.reduceLeDiff, Nat.reduceEqDiff, Int.reduceToNat])) | (refine callH_intro (fun hcc => spec_FollowPath_ok _ _ _) ?_; try (simp (disch := exact eqId (by kernel_rfl)) only [go_sem, ↓reduceIte, Nat.reduceAdd, Nat.reduceMul, Nat.reduceLT, Nat.reduceBEq, Nat.reduceLeDiff, Nat.reduceEqDiff, Int.reduceToNat])) | (refine callQ_intro (l1In_ok _ _ _) ?_; try (simp (disch := exact eqId (by kernel_rfl)) only [go_sem, ↓reduceIte, Nat.reduceAdd, Nat.reduceMul, Nat.reduceLT, Nat.reduceBEq, Nat.reduceLeDiff, Nat.reduceEqDiff, Int.reduceToNat])) | (refine callH_intro (fun hcc => l1In_ok _ _ _) ?_; try (simp (disch := exact eqId (by kernel_rfl)) only [go_sem, ↓reduceIte, Nat.reduceAdd, Nat.reduceMul, Nat.reduceLT, Nat.reduceBEq, Nat.reduceLeDiff, Nat.reduceEqDiff, Int.reduceToNat])))
  all_goals (try omega)
  · rename_i hc
    exact crB_f hc
  · rename_i hc
    have hcr := crB_t (ks := ks) (l := l) hc
    refine loop_intro (tb := tb) follows hN (D := Nat) (fun d => shp [(0, .rd (.list tKey) (ks)), (1, .rd (.list tAuthority) (l)), (6, .bp 10000 0), (9, .rd I (d : Int))] [(10000, .box 97 [.rd I (r.1), .rd I (r.2.1), .rd I (r.2.2.1), .rd (.list tStep) (r.2.2.2.1), .rd (.list tStamp) (r.2.2.2.2.1)])]) (fun d => d ≤ List.length r.2.2.2.2.1 ∧ (areG (stB ks l r.2.2.1) (fun x : tStamp.den => (x.1 : Int)) none r.2.2.2.2.1 = areG (stB ks l r.2.2.1) (fun x : tStamp.den => (x.1 : Int)) (pvG (fun x : tStamp.den => (x.1 : Int)) (0, 0, 0, 0, 0, ()) r.2.2.2.2.1 d) (List.drop d r.2.2.2.2.1))) (fun d => List.length r.2.2.2.2.1 - d) (0) ?_ (sub_shp hN [(10000, some 10000)] ?_) (fun d hd => ?_)
    · exact ⟨Nat.zero_le _, rfl⟩
    · simp (disch := exact eqId (by kernel_rfl)) only [go_sem, ↓reduceIte, Nat.reduceAdd, Nat.reduceMul, Nat.reduceLT, Nat.reduceBEq, Nat.reduceLeDiff, Nat.reduceEqDiff, Int.reduceToNat]
      try rfl
    · obtain ⟨h1, h2⟩ := hd
      have e1 : IntKind.i64.wrap ((d : Int) - 1) = (d : Int) - 1 := wrap_i64 (by omega) (by omega)
      simp (disch := exact eqId (by kernel_rfl)) only [go_sem, ↓reduceIte, Nat.reduceAdd, Nat.reduceMul, Nat.reduceLT, Nat.reduceBEq, Nat.reduceLeDiff, Nat.reduceEqDiff, Int.reduceToNat, e1]
      repeat' (first | (refine And.intro ?_ ?_) | intro _ | (refine callQ_intro (spec_CheckStamp_ok _ _ _) ?_; try (simp (disch := exact eqId (by kernel_rfl)) only [go_sem, ↓reduceIte, Nat.reduceAdd, Nat.reduceMul, Nat.reduceLT, Nat.reduceBEq, Nat.reduceLeDiff, Nat.reduceEqDiff, Int.reduceToNat])) | (refine callH_intro (fun hcc => spec_CheckStamp_ok _ _ _) ?_; try (simp (disch := exact eqId (by kernel_rfl)) only [go_sem, ↓reduceIte, Nat.reduceAdd, Nat.reduceMul, Nat.reduceLT, Nat.reduceBEq, Nat.reduceLeDiff, Nat.reduceEqDiff, Int.reduceToNat])))
      all_goals (try omega)
      · rename_i hk he
        rw [hcr, h2, drop_getD (show d < List.length r.2.2.2.2.1 by omega) (0, 0, 0, 0, 0, ()), areG_cons]
        rcases he with (he | ⟨hd, hge⟩) | he
        · rw [stB_f (.inl he), Bool.false_and]
        · unfold pvG
          rw [if_pos hd, show ltG (some (List.getD r.2.2.2.2.1 ((d : Int) - 1).toNat (0, 0, 0, 0, 0, ())).1) (List.getD r.2.2.2.2.1 d (0, 0, 0, 0, 0, ())).1 = false from decide_eq_false (Int.not_lt.mpr hge)]
          simp
        · rw [stB_f (.inr he), Bool.false_and]
      · rename_i hk he
        have hk : d < List.length r.2.2.2.2.1 := by omega
        obtain ⟨⟨he1, he2⟩, he3⟩ := he
        refine back_intro (d + 1) ?_ ?_ (sub_shp hN [(10000, some 10000)] ?_)
        · refine ⟨hk, ?_⟩
          rw [h2, drop_getD hk (0, 0, 0, 0, 0, ()), areG_cons, pvG_succ, stB_t ⟨he1, he3⟩, Bool.true_and]
          unfold pvG
          by_cases h0 : (d : Int) > 0
          · rw [if_pos h0, show ltG (some (List.getD r.2.2.2.2.1 ((d : Int) - 1).toNat (0, 0, 0, 0, 0, ())).1) (List.getD r.2.2.2.2.1 d (0, 0, 0, 0, 0, ())).1 = true from decide_eq_true (Int.not_le.mp (he2.resolve_left (fun hx => hx h0))), Bool.true_and]
          · rw [if_neg h0]
            rfl
        · omega
        · simp (disch := exact eqId (by kernel_rfl)) only [go_sem, ↓reduceIte, Nat.reduceAdd, Nat.reduceMul, Nat.reduceLT, Nat.reduceBEq, Nat.reduceLeDiff, Nat.reduceEqDiff, Int.reduceToNat]
          exact wrap_succ hk hw.2.2.1.2.2.2.2.1.1
      · rename_i hk
        rw [hcr, h2, drop_end (show List.length r.2.2.2.2.1 ≤ d by omega), areG_nil]
end Go.Proofs.YtkneckknjmahdaaGreat
