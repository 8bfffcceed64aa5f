/- What the functions of stamps, of agreed spans and of renewals answer, on both sides. It proves nothing of a statement by itself. -/
import Derived.Test.YtblnngjdoifgkaaGreatB7
set_option linter.unusedSimpArgs false
set_option linter.unusedVariables false
set_option maxRecDepth 100000
namespace Go.Proofs.YtblnngjdoifgkaaGreat
open Go.AL
def finA (l : List tAuthority.den) (n : Int) : Int := finF (fun x : tAuthority.den => x.1) n l 0
def finM (l : List tMethod.den) (n : Int) : Int := finF (fun x : tMethod.den => x.1) n l 0
def stI (s : tStamp.den) : List Int := [103, s.1, s.2.1, s.2.2.1, s.2.2.2.1]
def mksF (ks : List tKey.den) (l : List tAuthority.den) (s : tStamp.den) : tStamp.den × Bool :=
  if finA l s.1 < 0 ∨ (s.2.1 : Int) < 0 ∨ ¬ (0 ≤ (s.2.2.1 : Int) ∧ (s.2.2.1 : Int) ≤ 10000) ∨ finF (fun x : tKey.den => x.1) (l.getD (finA l s.1).toNat (0, 0, 0, ())).2.1 ks 0 < 0 then ((0, 0, 0, 0, 0, ()), false)
  else ((s.1, s.2.1, s.2.2.1, s.2.2.2.1, (mbF ks (l.getD (finA l s.1).toNat (0, 0, 0, ())).2.1 (stI s)).1, ()), true)
noncomputable def cksS (ks : List tKey.den) (l : List tAuthority.den) (s : tStamp.den) : Bool := (mksF ks l s).2 && eqC (mksF ks l s).1 s
def sspF (l : List tAuthority.den) (s : tStamp.den) : tSpan.den × Bool :=
  if finA l s.1 < 0 ∨ ((l.getD (finA l s.1).toNat (0, 0, 0, ())).2.2.1 : Int) < 0 ∨ ¬ (0 ≤ (s.2.2.1 : Int) ∧ (s.2.2.1 : Int) ≤ 10000) then ((0, 0, ()), false)
  else mkF (IntKind.i64.wrap (s.2.2.1 - (l.getD (finA l s.1).toNat (0, 0, 0, ())).2.2.1)) (IntKind.i64.wrap (s.2.2.1 + (l.getD (finA l s.1).toNat (0, 0, 0, ())).2.2.1))
def skyF (l : List tAuthority.den) (s : tStamp.den) : Int := if 0 ≤ finA l s.1 then (l.getD (finA l s.1).toNat (0, 0, 0, ())).2.1 else 0
def brkF (l : List tMethod.den) (n : Int) : Int := if 0 ≤ finM l n then (l.getD (finM l n).toNat (0, 0, 0, 0, ())).2.2.2.1 else 0
theorem mks_f {ks : List tKey.den} {l : List tAuthority.den} {s : tStamp.den} (h : (finF (fun x : tAuthority.den => x.1) s.1 l 0 < 0 ∨ (s.2.1 : Int) < 0) ∨ inB s.2.2.1 0 10000 = false) : mksF ks l s = ((0, 0, 0, 0, 0, ()), false) := by
  unfold mksF finA
  rw [if_pos]
  rw [inB_f] at h
  rcases h with (h | h) | h
  · exact .inl h
  · exact .inr (.inl h)
  · exact .inr (.inr (.inl h))
theorem mks_k {ks : List tKey.den} {l : List tAuthority.den} {s : tStamp.den} (h : finF (fun x : tKey.den => x.1) (l.getD (finF (fun x : tAuthority.den => x.1) s.1 l 0).toNat (0, 0, 0, ())).2.1 ks 0 < 0) : mksF ks l s = ((0, 0, 0, 0, 0, ()), false) := by
  unfold mksF finA
  rw [if_pos (.inr (.inr (.inr h)))]
theorem mks_t {ks : List tKey.den} {l : List tAuthority.den} {s : tStamp.den} (h : (¬ finF (fun x : tAuthority.den => x.1) s.1 l 0 < 0 ∧ ¬ (s.2.1 : Int) < 0) ∧ inB s.2.2.1 0 10000 = true) (hk : ¬ finF (fun x : tKey.den => x.1) (l.getD (finF (fun x : tAuthority.den => x.1) s.1 l 0).toNat (0, 0, 0, ())).2.1 ks 0 < 0) :
    mksF ks l s = ((s.1, s.2.1, s.2.2.1, s.2.2.2.1, (mbF ks (l.getD (finF (fun x : tAuthority.den => x.1) s.1 l 0).toNat (0, 0, 0, ())).2.1 (stI s)).1, ()), true) := by
  unfold mksF finA
  rw [if_neg]
  rw [inB_t] at h
  rintro (k | k | k | k)
  · exact h.1.1 k
  · exact h.1.2 k
  · exact k h.2
  · exact hk k
theorem mks_u {ks : List tKey.den} {l : List tAuthority.den} {s : tStamp.den} (h : (¬ finF (fun x : tAuthority.den => x.1) s.1 l 0 < 0 ∧ ¬ (s.2.1 : Int) < 0) ∧ inB s.2.2.1 0 10000 = true) (hk : ¬ finF (fun x : tKey.den => x.1) (l.getD (finF (fun x : tAuthority.den => x.1) s.1 l 0).toNat (0, 0, 0, ())).2.1 ks 0 < 0) :
    mksF ks l s = ((s.1, s.2.1, s.2.2.1, s.2.2.2.1, mwF (ks.getD (finF (fun x : tKey.den => x.1) (l.getD (finF (fun x : tAuthority.den => x.1) s.1 l 0).toNat (0, 0, 0, ())).2.1 ks 0).toNat (0, 0, 0, 0, 0, ())) (stI s), ()), true) := by
  rw [mks_t h hk]
  have e : (mbF ks (l.getD (finF (fun x : tAuthority.den => x.1) s.1 l 0).toNat (0, 0, 0, ())).2.1 (stI s)).1 = mwF (ks.getD (finF (fun x : tKey.den => x.1) (l.getD (finF (fun x : tAuthority.den => x.1) s.1 l 0).toNat (0, 0, 0, ())).2.1 ks 0).toNat (0, 0, 0, 0, 0, ())) (stI s) := by
    unfold mbF
    rw [if_neg hk]
  rw [e]
theorem ssp_f {l : List tAuthority.den} {s : tStamp.den} (h : (finF (fun x : tAuthority.den => x.1) s.1 l 0 < 0 ∨ ((l.getD (finF (fun x : tAuthority.den => x.1) s.1 l 0).toNat (0, 0, 0, ())).2.2.1 : Int) < 0) ∨ inB s.2.2.1 0 10000 = false) : sspF l s = ((0, 0, ()), false) := by
  unfold sspF finA
  rw [if_pos]
  rw [inB_f] at h
  rcases h with (h | h) | h
  · exact .inl h
  · exact .inr (.inl h)
  · exact .inr (.inr h)
theorem ssp_t {l : List tAuthority.den} {s : tStamp.den} (h : (¬ finF (fun x : tAuthority.den => x.1) s.1 l 0 < 0 ∧ ¬ ((l.getD (finF (fun x : tAuthority.den => x.1) s.1 l 0).toNat (0, 0, 0, ())).2.2.1 : Int) < 0) ∧ inB s.2.2.1 0 10000 = true) :
    sspF l s = mkF (IntKind.i64.wrap (s.2.2.1 - (l.getD (finF (fun x : tAuthority.den => x.1) s.1 l 0).toNat (0, 0, 0, ())).2.2.1)) (IntKind.i64.wrap (s.2.2.1 + (l.getD (finF (fun x : tAuthority.den => x.1) s.1 l 0).toNat (0, 0, 0, ())).2.2.1)) := by
  unfold sspF finA
  rw [if_neg]
  rw [inB_t] at h
  rintro (k | k | k)
  · exact h.1.1 k
  · exact h.1.2 k
  · exact k h.2
theorem dec_not {p : Prop} [Decidable p] (h : ¬ p) : decide p = false := decide_eq_false h
theorem impl_MakeStamp_ok (ks : List tKey.den) (l : List tAuthority.den) (s : tStamp.den) : FunOK Tryz.prog 87 [⟨(.list tKey), ks⟩, ⟨(.list tAuthority), l⟩, ⟨tStamp, s⟩] (.tup [.rd tStamp (mksF ks l s).1, .rd .bool (mksF ks l s).2]) := by
  have hf1 := finF_lt (fun x : tAuthority.den => x.1) s.1 l 0
  have hf2 := finF_lt (fun x : tKey.den => x.1) (l.getD (finF (fun x : tAuthority.den => x.1) s.1 l 0).toNat (0, 0, 0, ())).2.1 ks 0
  refine fun_of (tb := tb) follows Tryz.func87 (by kernel_rfl) Tryz.ntmps87 rfl rfl rfl ?_; intro cx hN hw
  simp (disch := exact eqId (by kernel_rfl)) only [go_sem, ↓reduceIte, Nat.reduceAdd, Nat.reduceMul, Nat.reduceLT, Nat.reduceBEq, Nat.reduceLeDiff, Nat.reduceEqDiff, Int.reduceToNat]
  repeat' (first | (refine And.intro ?_ ?_) | intro _ | (refine callQ_intro (impl_FindAuthority_ok _ _) ?_; try (simp (disch := exact eqId (by kernel_rfl)) only [go_sem, ↓reduceIte, Nat.reduceAdd, Nat.reduceMul, Nat.reduceLT, Nat.reduceBEq, Nat.reduceLeDiff, Nat.reduceEqDiff, Int.reduceToNat])) | (refine callH_intro (fun hcc => impl_FindAuthority_ok _ _) ?_; try (simp (disch := exact eqId (by kernel_rfl)) only [go_sem, ↓reduceIte, Nat.reduceAdd, Nat.reduceMul, Nat.reduceLT, Nat.reduceBEq, Nat.reduceLeDiff, Nat.reduceEqDiff, Int.reduceToNat])) | (refine callQ_intro (impl_isTime_ok _) ?_; try (simp (disch := exact eqId (by kernel_rfl)) only [go_sem, ↓reduceIte, Nat.reduceAdd, Nat.reduceMul, Nat.reduceLT, Nat.reduceBEq, Nat.reduceLeDiff, Nat.reduceEqDiff, Int.reduceToNat])) | (refine callH_intro (fun hcc => impl_isTime_ok _) ?_; try (simp (disch := exact eqId (by kernel_rfl)) only [go_sem, ↓reduceIte, Nat.reduceAdd, Nat.reduceMul, Nat.reduceLT, Nat.reduceBEq, Nat.reduceLeDiff, Nat.reduceEqDiff, Int.reduceToNat])) | (refine callQ_intro (impl_StampInts_ok _) ?_; try (simp (disch := exact eqId (by kernel_rfl)) only [go_sem, ↓reduceIte, Nat.reduceAdd, Nat.reduceMul, Nat.reduceLT, Nat.reduceBEq, Nat.reduceLeDiff, Nat.reduceEqDiff, Int.reduceToNat])) | (refine callH_intro (fun hcc => impl_StampInts_ok _) ?_; try (simp (disch := exact eqId (by kernel_rfl)) only [go_sem, ↓reduceIte, Nat.reduceAdd, Nat.reduceMul, Nat.reduceLT, Nat.reduceBEq, Nat.reduceLeDiff, Nat.reduceEqDiff, Int.reduceToNat])) | (refine callQ_intro (impl_markBy_ok _ _ _ (show (List.length _) ≤ 1073741823 by simp)) ?_; try (simp (disch := exact eqId (by kernel_rfl)) only [go_sem, ↓reduceIte, Nat.reduceAdd, Nat.reduceMul, Nat.reduceLT, Nat.reduceBEq, Nat.reduceLeDiff, Nat.reduceEqDiff, Int.reduceToNat])) | (refine callH_intro (fun hcc => impl_markBy_ok _ _ _ (show (List.length _) ≤ 1073741823 by simp)) ?_; try (simp (disch := exact eqId (by kernel_rfl)) only [go_sem, ↓reduceIte, Nat.reduceAdd, Nat.reduceMul, Nat.reduceLT, Nat.reduceBEq, Nat.reduceLeDiff, Nat.reduceEqDiff, Int.reduceToNat])))
  all_goals (try omega)
  all_goals first
    | (rename_i hc; first | exact (congrArg Prod.fst (mks_f hc)).symm | exact (congrArg Prod.snd (mks_f hc)).symm)
    | (rename_i hc hk; first | exact (congrArg Prod.fst (mks_k ((mb_f _ _ _).mp hk))).symm | exact (congrArg Prod.snd (mks_k ((mb_f _ _ _).mp hk))).symm | exact (congrArg Prod.fst (mks_k hk)).symm | exact (congrArg Prod.snd (mks_k hk)).symm | exact (congrArg Prod.fst (mks_t hc ((mb_t _ _ _).mp hk))).symm | exact (congrArg Prod.snd (mks_t hc ((mb_t _ _ _).mp hk))).symm | exact (congrArg Prod.fst (mks_u hc hk)).symm | exact (congrArg Prod.snd (mks_u hc hk)).symm)
theorem impl_CheckStamp_ok (ks : List tKey.den) (l : List tAuthority.den) (s : tStamp.den) : FunOK Tryz.prog 62 [⟨(.list tKey), ks⟩, ⟨(.list tAuthority), l⟩, ⟨tStamp, s⟩] (.rd .bool (cksS ks l s)) := by
  refine fun_of (tb := tb) follows Tryz.func62 (by kernel_rfl) Tryz.ntmps62 rfl rfl rfl ?_; intro cx hN hw
  simp (disch := exact eqId (by kernel_rfl)) only [go_sem, ↓reduceIte, Nat.reduceAdd, Nat.reduceMul, Nat.reduceLT, Nat.reduceBEq, Nat.reduceLeDiff, Nat.reduceEqDiff, Int.reduceToNat]
  repeat' (first | (refine And.intro ?_ ?_) | intro _ | (refine callQ_intro (impl_MakeStamp_ok _ _ _) ?_; try (simp (disch := exact eqId (by kernel_rfl)) only [go_sem, ↓reduceIte, Nat.reduceAdd, Nat.reduceMul, Nat.reduceLT, Nat.reduceBEq, Nat.reduceLeDiff, Nat.reduceEqDiff, Int.reduceToNat])) | (refine callH_intro (fun hcc => impl_MakeStamp_ok _ _ _) ?_; try (simp (disch := exact eqId (by kernel_rfl)) only [go_sem, ↓reduceIte, Nat.reduceAdd, Nat.reduceMul, Nat.reduceLT, Nat.reduceBEq, Nat.reduceLeDiff, Nat.reduceEqDiff, Int.reduceToNat])))
  all_goals (try rfl)
theorem spec_MakeStamp_ok (ks : List tKey.den) (l : List tAuthority.den) (s : tStamp.den) : FunOK Tryz.prog 76 [⟨(.list tKey), ks⟩, ⟨(.list tAuthority), l⟩, ⟨tStamp, s⟩] (.tup [.rd tStamp (mksF ks l s).1, .rd .bool (mksF ks l s).2]) := by
  have hf1 := finF_lt (fun x : tAuthority.den => x.1) s.1 l 0
  have hf2 := finF_lt (fun x : tKey.den => x.1) (l.getD (finF (fun x : tAuthority.den => x.1) s.1 l 0).toNat (0, 0, 0, ())).2.1 ks 0
  refine fun_of (tb := tb) follows Tryz.func76 (by kernel_rfl) Tryz.ntmps76 rfl rfl rfl ?_; intro cx hN hw
  simp (disch := exact eqId (by kernel_rfl)) only [go_sem, ↓reduceIte, Nat.reduceAdd, Nat.reduceMul, Nat.reduceLT, Nat.reduceBEq, Nat.reduceLeDiff, Nat.reduceEqDiff, Int.reduceToNat]
  repeat' (first | (refine And.intro ?_ ?_) | intro _ | (refine callQ_intro (spec_FindAuthority_ok _ _) ?_; try (simp (disch := exact eqId (by kernel_rfl)) only [go_sem, ↓reduceIte, Nat.reduceAdd, Nat.reduceMul, Nat.reduceLT, Nat.reduceBEq, Nat.reduceLeDiff, Nat.reduceEqDiff, Int.reduceToNat])) | (refine callH_intro (fun hcc => spec_FindAuthority_ok _ _) ?_; try (simp (disch := exact eqId (by kernel_rfl)) only [go_sem, ↓reduceIte, Nat.reduceAdd, Nat.reduceMul, Nat.reduceLT, Nat.reduceBEq, Nat.reduceLeDiff, Nat.reduceEqDiff, Int.reduceToNat])) | (refine callQ_intro (spec_l4Time_ok _) ?_; try (simp (disch := exact eqId (by kernel_rfl)) only [go_sem, ↓reduceIte, Nat.reduceAdd, Nat.reduceMul, Nat.reduceLT, Nat.reduceBEq, Nat.reduceLeDiff, Nat.reduceEqDiff, Int.reduceToNat])) | (refine callH_intro (fun hcc => spec_l4Time_ok _) ?_; try (simp (disch := exact eqId (by kernel_rfl)) only [go_sem, ↓reduceIte, Nat.reduceAdd, Nat.reduceMul, Nat.reduceLT, Nat.reduceBEq, Nat.reduceLeDiff, Nat.reduceEqDiff, Int.reduceToNat])) | (refine callQ_intro (spec_StampInts_ok _) ?_; try (simp (disch := exact eqId (by kernel_rfl)) only [go_sem, ↓reduceIte, Nat.reduceAdd, Nat.reduceMul, Nat.reduceLT, Nat.reduceBEq, Nat.reduceLeDiff, Nat.reduceEqDiff, Int.reduceToNat])) | (refine callH_intro (fun hcc => spec_StampInts_ok _) ?_; try (simp (disch := exact eqId (by kernel_rfl)) only [go_sem, ↓reduceIte, Nat.reduceAdd, Nat.reduceMul, Nat.reduceLT, Nat.reduceBEq, Nat.reduceLeDiff, Nat.reduceEqDiff, Int.reduceToNat])) | (refine callQ_intro (spec_FindKey_ok _ _) ?_; try (simp (disch := exact eqId (by kernel_rfl)) only [go_sem, ↓reduceIte, Nat.reduceAdd, Nat.reduceMul, Nat.reduceLT, Nat.reduceBEq, Nat.reduceLeDiff, Nat.reduceEqDiff, Int.reduceToNat])) | (refine callH_intro (fun hcc => spec_FindKey_ok _ _) ?_; try (simp (disch := exact eqId (by kernel_rfl)) only [go_sem, ↓reduceIte, Nat.reduceAdd, Nat.reduceMul, Nat.reduceLT, Nat.reduceBEq, Nat.reduceLeDiff, Nat.reduceEqDiff, Int.reduceToNat])) | (refine callQ_intro (spec_MarkWith_ok _ _ (show (List.length _) ≤ 1073741823 by simp)) ?_; try (simp (disch := exact eqId (by kernel_rfl)) only [go_sem, ↓reduceIte, Nat.reduceAdd, Nat.reduceMul, Nat.reduceLT, Nat.reduceBEq, Nat.reduceLeDiff, Nat.reduceEqDiff, Int.reduceToNat])) | (refine callH_intro (fun hcc => spec_MarkWith_ok _ _ (show (List.length _) ≤ 1073741823 by simp)) ?_; try (simp (disch := exact eqId (by kernel_rfl)) only [go_sem, ↓reduceIte, Nat.reduceAdd, Nat.reduceMul, Nat.reduceLT, Nat.reduceBEq, Nat.reduceLeDiff, Nat.reduceEqDiff, Int.reduceToNat])))
  all_goals (try omega)
  all_goals first
    | (rename_i hc; first | exact (congrArg Prod.fst (mks_f hc)).symm | exact (congrArg Prod.snd (mks_f hc)).symm)
    | (rename_i hc hk; first | exact (congrArg Prod.fst (mks_k ((mb_f _ _ _).mp hk))).symm | exact (congrArg Prod.snd (mks_k ((mb_f _ _ _).mp hk))).symm | exact (congrArg Prod.fst (mks_k hk)).symm | exact (congrArg Prod.snd (mks_k hk)).symm | exact (congrArg Prod.fst (mks_t hc ((mb_t _ _ _).mp hk))).symm | exact (congrArg Prod.snd (mks_t hc ((mb_t _ _ _).mp hk))).symm | exact (congrArg Prod.fst (mks_u hc hk)).symm | exact (congrArg Prod.snd (mks_u hc hk)).symm)
theorem spec_StampKey_ok (l : List tAuthority.den) (s : tStamp.den) : FunOK Tryz.prog 95 [⟨(.list tAuthority), l⟩, ⟨tStamp, s⟩] (.rd I (skyF l s)) := by
  have hf1 := finF_lt (fun x : tAuthority.den => x.1) s.1 l 0
  refine fun_of (tb := tb) follows Tryz.func95 (by kernel_rfl) Tryz.ntmps95 rfl rfl rfl ?_; intro cx hN hw
  simp (disch := exact eqId (by kernel_rfl)) only [go_sem, ↓reduceIte, Nat.reduceAdd, Nat.reduceMul, Nat.reduceLT, Nat.reduceBEq, Nat.reduceLeDiff, Nat.reduceEqDiff, Int.reduceToNat]
  repeat' (first | (refine And.intro ?_ ?_) | intro _ | (refine callQ_intro (spec_FindAuthority_ok _ _) ?_; try (simp (disch := exact eqId (by kernel_rfl)) only [go_sem, ↓reduceIte, Nat.reduceAdd, Nat.reduceMul, Nat.reduceLT, Nat.reduceBEq, Nat.reduceLeDiff, Nat.reduceEqDiff, Int.reduceToNat])) | (refine callH_intro (fun hcc => spec_FindAuthority_ok _ _) ?_; try (simp (disch := exact eqId (by kernel_rfl)) only [go_sem, ↓reduceIte, Nat.reduceAdd, Nat.reduceMul, Nat.reduceLT, Nat.reduceBEq, Nat.reduceLeDiff, Nat.reduceEqDiff, Int.reduceToNat])))
  all_goals (try omega)
  all_goals (unfold skyF finA; first | rw [if_pos (by omega)] | rw [if_neg (by omega)])
def risF (l : List tStamp.den) : Bool := areG (fun _ => true) (fun x : tStamp.den => (x.1 : Int)) none l
noncomputable def stB (ks : List tKey.den) (l : List tAuthority.den) (root : Int) (s : tStamp.den) : Bool := decide ((s.2.2.2.1 : Int) = root) && cksS ks l s
theorem areG_all {α : Type} (p : α → Bool) (n : α → Int) : ∀ (l : List α) (pr : Option Int), areG p n pr l = (areG (fun _ => true) n pr l && l.all p)
  | [], pr => by rw [areG_nil, areG_nil]; rfl
  | x :: xs, pr => by
    rw [areG_cons, areG_cons, areG_all p n xs (some (n x)), List.all_cons]
    cases p x <;> cases ltG pr (n x) <;> simp
noncomputable def crF (ks : List tKey.den) (l : List tAuthority.den) (r : tRenewal.den) (leaf : Int) : Bool :=
  decide (r.2.2.2.1.length ≤ 4 ∧ List.foldl (fpStep r.2.1) leaf r.2.2.2.1 = (r.2.2.1 : Int) ∧ 1 ≤ r.2.2.2.2.1.length ∧ r.2.2.2.2.1.length ≤ 6) && areG (stB ks l r.2.2.1) (fun x : tStamp.den => (x.1 : Int)) none r.2.2.2.2.1
theorem crA_f {ks : List tKey.den} {l : List tAuthority.den} {r : tRenewal.den} {leaf : Int} (h : ((((List.length r.2.2.2.1 : Int) > 4) ∨ ¬ List.foldl (fpStep r.2.1) leaf r.2.2.2.1 = (r.2.2.1 : Int)) ∨ (¬ 1 ≤ (List.length r.2.2.2.2.1 : Int) ∨ ¬ (List.length r.2.2.2.2.1 : Int) ≤ 6)) ∨ risF r.2.2.2.2.1 = false) : false = crF ks l r leaf := by
  unfold crF
  rw [areG_all]
  rcases h with ((h | h) | h) | h
  · rw [decide_eq_false (by rintro ⟨h1, h2, h3, h4⟩; omega)]; rfl
  · rw [decide_eq_false (by rintro ⟨h1, h2, h3, h4⟩; exact h h2)]; rfl
  · rw [decide_eq_false (by rintro ⟨h1, h2, h3, h4⟩; omega)]; rfl
  · unfold risF at h
    rw [h, Bool.false_and, Bool.and_false]
theorem crA_t {ks : List tKey.den} {l : List tAuthority.den} {r : tRenewal.den} {leaf : Int} (h : ((¬ ((List.length r.2.2.2.1 : Int) > 4) ∧ List.foldl (fpStep r.2.1) leaf r.2.2.2.1 = (r.2.2.1 : Int)) ∧ (1 ≤ (List.length r.2.2.2.2.1 : Int) ∧ (List.length r.2.2.2.2.1 : Int) ≤ 6)) ∧ risF r.2.2.2.2.1 = true) : crF ks l r leaf = List.all r.2.2.2.2.1 (stB ks l r.2.2.1) := by
  unfold crF
  rw [areG_all, decide_eq_true (show _ from ⟨by have := h.1.1.1; omega, h.1.1.2, by have := h.1.2.1; omega, by have := h.1.2.2; omega⟩), Bool.true_and]
  have := h.2
  unfold risF at this
  rw [this, Bool.true_and]
theorem crB_f {ks : List tKey.den} {l : List tAuthority.den} {r : tRenewal.den} {leaf : Int} (h : (((List.length r.2.2.2.1 : Int) > 4) ∨ ¬ List.foldl (fpStep r.2.1) leaf r.2.2.2.1 = (r.2.2.1 : Int)) ∨ (¬ 1 ≤ (List.length r.2.2.2.2.1 : Int) ∨ ¬ (List.length r.2.2.2.2.1 : Int) ≤ 6)) : false = crF ks l r leaf := crA_f (.inl h)
theorem crB_t {ks : List tKey.den} {l : List tAuthority.den} {r : tRenewal.den} {leaf : Int} (h : (¬ ((List.length r.2.2.2.1 : Int) > 4) ∧ List.foldl (fpStep r.2.1) leaf r.2.2.2.1 = (r.2.2.1 : Int)) ∧ (1 ≤ (List.length r.2.2.2.2.1 : Int) ∧ (List.length r.2.2.2.2.1 : Int) ≤ 6)) : crF ks l r leaf = areG (stB ks l r.2.2.1) (fun x : tStamp.den => (x.1 : Int)) none r.2.2.2.2.1 := by
  unfold crF
  rw [decide_eq_true (show _ from ⟨by have := h.1.1; omega, h.1.2, by have := h.2.1; omega, by have := h.2.2; omega⟩), Bool.true_and]
theorem stB_f {ks : List tKey.den} {l : List tAuthority.den} {root : Int} {s : tStamp.den} (he : ¬ (s.2.2.2.1 : Int) = root ∨ cksS ks l s = false) : stB ks l root s = false := by
  unfold stB
  rcases he with he | he
  · rw [decide_eq_false he, Bool.false_and]
  · rw [he, Bool.and_false]
theorem stB_t {ks : List tKey.den} {l : List tAuthority.den} {root : Int} {s : tStamp.den} (he : (s.2.2.2.1 : Int) = root ∧ cksS ks l s = true) : stB ks l root s = true := by
  unfold stB
  rw [decide_eq_true he.1, he.2]
  rfl
theorem impl_risingAuthorities_ok (l : List tStamp.den) : FunOK Tryz.prog 61 [⟨(.list tStamp), l⟩] (.rd .bool (risF l)) := by
  refine fun_of (tb := tb) follows Tryz.func61 (by kernel_rfl) Tryz.ntmps61 rfl rfl rfl ?_; intro cx hN hw
  have hm : maxLen = 9223372036854775807 := rfl
  have hl : l.length ≤ maxLen := hw.1.1
  simp (disch := exact eqId (by kernel_rfl)) only [go_sem, ↓reduceIte, Nat.reduceAdd, Nat.reduceMul, Nat.reduceLT, Nat.reduceBEq, Nat.reduceLeDiff, Nat.reduceEqDiff, Int.reduceToNat]
  refine loop_intro (tb := tb) follows hN (D := Nat) (fun d => shp [(0, .rd (.list tStamp) (l)), (3, .rd I (d : Int))] []) (fun d => (1 ≤ d ∧ (d ≤ l.length ∨ l.length = 0 ∧ d = 1)) ∧ risF l = areG (fun _ => true) (fun x : tStamp.den => (x.1 : Int)) (pvG (fun x : tStamp.den => (x.1 : Int)) (0, 0, 0, 0, 0, ()) l d) (l.drop d)) (fun d => l.length - d) (1) ?_ (sub_shp hN [] ?_) (fun d hd => ?_)
  · refine ⟨⟨Nat.le_refl _, by omega⟩, ?_⟩
    unfold risF
    cases l with
    | nil => simp only [List.drop_nil, areG_nil]
    | cons x xs =>
      rw [areG_cons, pvG_succ]
      rfl
  · simp (disch := exact eqId (by kernel_rfl)) only [go_sem, ↓reduceIte, Nat.reduceAdd, Nat.reduceMul, Nat.reduceLT, Nat.reduceBEq, Nat.reduceLeDiff, Nat.reduceEqDiff, Int.reduceToNat]
    try rfl
  · obtain ⟨⟨h0, h1⟩, h2⟩ := hd
    have e1 : IntKind.i64.wrap ((d : Int) - 1) = (d : Int) - 1 := wrap_i64 (by omega) (by omega)
    simp (disch := exact eqId (by kernel_rfl)) only [go_sem, ↓reduceIte, Nat.reduceAdd, Nat.reduceMul, Nat.reduceLT, Nat.reduceBEq, Nat.reduceLeDiff, Nat.reduceEqDiff, Int.reduceToNat, e1]
    repeat' (first | (refine And.intro ?_ ?_) | intro _)
    all_goals (try omega)
    · rename_i hk hc
      rw [h2, drop_getD (show d < l.length by omega) (0, 0, 0, 0, 0, ()), areG_cons]
      unfold pvG
      rw [if_pos (by omega)]
      have h9 : ltG (some (l.getD ((d : Int) - 1).toNat (0, 0, 0, 0, 0, ())).1) (l.getD d (0, 0, 0, 0, 0, ())).1 = false := decide_eq_false (by first | omega | (rw [e1] at hc; omega))
      rw [h9]
      rfl
    · rename_i hk hc
      have hk : d < l.length := by omega
      refine back_intro (d + 1) ?_ ?_ (sub_shp hN [] ?_)
      · refine ⟨⟨by omega, .inl hk⟩, ?_⟩
        rw [h2, drop_getD hk (0, 0, 0, 0, 0, ()), areG_cons, pvG_succ]
        unfold pvG
        rw [if_pos (by omega)]
        have h9 : ltG (some (l.getD ((d : Int) - 1).toNat (0, 0, 0, 0, 0, ())).1) (l.getD d (0, 0, 0, 0, 0, ())).1 = true := decide_eq_true (by first | omega | (rw [e1] at hc; omega))
        rw [h9]
        rfl
      · omega
      · simp (disch := exact eqId (by kernel_rfl)) only [go_sem, ↓reduceIte, Nat.reduceAdd, Nat.reduceMul, Nat.reduceLT, Nat.reduceBEq, Nat.reduceLeDiff, Nat.reduceEqDiff, Int.reduceToNat]
        exact wrap_succ hk hw.1.1
    · rename_i hk
      rw [h2, drop_end (show l.length ≤ d by omega), areG_nil]
theorem impl_CheckRenewal_ok (ks : List tKey.den) (l : List tAuthority.den) (r : tRenewal.den) (leaf : Int) : FunOK Tryz.prog 37 [⟨(.list tKey), ks⟩, ⟨(.list tAuthority), l⟩, ⟨tRenewal, r⟩, ⟨I, leaf⟩] (.rd .bool (crF ks l r leaf)) := by
  refine fun_of (tb := tb) follows Tryz.func37 (by kernel_rfl) Tryz.ntmps37 rfl rfl rfl ?_; intro cx hN hw
  simp (disch := exact eqId (by kernel_rfl)) only [go_sem, ↓reduceIte, Nat.reduceAdd, Nat.reduceMul, Nat.reduceLT, Nat.reduceBEq, Nat.reduceLeDiff, Nat.reduceEqDiff, Int.reduceToNat]
  repeat' (first | (refine And.intro ?_ ?_) | intro _ | (refine callQ_intro (impl_FollowPath_ok _ _ _) ?_; try (simp (disch := exact eqId (by kernel_rfl)) only [go_sem, ↓reduceIte, Nat.reduceAdd, Nat.reduceMul, Nat.reduceLT, Nat.reduceBEq, Nat.reduceLeDiff, Nat.reduceEqDiff, Int.reduceToNat])) | (refine callH_intro (fun hcc => impl_FollowPath_ok _ _ _) ?_; try (simp (disch := exact eqId (by kernel_rfl)) only [go_sem, ↓reduceIte, Nat.reduceAdd, Nat.reduceMul, Nat.reduceLT, Nat.reduceBEq, Nat.reduceLeDiff, Nat.reduceEqDiff, Int.reduceToNat])) | (refine callQ_intro (inRange_ok _ _ _) ?_; try (simp (disch := exact eqId (by kernel_rfl)) only [go_sem, ↓reduceIte, Nat.reduceAdd, Nat.reduceMul, Nat.reduceLT, Nat.reduceBEq, Nat.reduceLeDiff, Nat.reduceEqDiff, Int.reduceToNat])) | (refine callH_intro (fun hcc => inRange_ok _ _ _) ?_; try (simp (disch := exact eqId (by kernel_rfl)) only [go_sem, ↓reduceIte, Nat.reduceAdd, Nat.reduceMul, Nat.reduceLT, Nat.reduceBEq, Nat.reduceLeDiff, Nat.reduceEqDiff, Int.reduceToNat])) | (refine callQ_intro (impl_risingAuthorities_ok _) ?_; try (simp (disch := exact eqId (by kernel_rfl)) only [go_sem, ↓reduceIte, Nat.reduceAdd, Nat.reduceMul, Nat.reduceLT, Nat.reduceBEq, Nat.reduceLeDiff, Nat.reduceEqDiff, Int.reduceToNat])) | (refine callH_intro (fun hcc => impl_risingAuthorities_ok _) ?_; try (simp (disch := exact eqId (by kernel_rfl)) only [go_sem, ↓reduceIte, Nat.reduceAdd, Nat.reduceMul, Nat.reduceLT, Nat.reduceBEq, Nat.reduceLeDiff, Nat.reduceEqDiff, Int.reduceToNat])))
  all_goals (try omega)
  · rename_i hc
    exact crA_f hc
  · rename_i hc
    have hcr := crA_t (ks := ks) (l := l) hc
    refine loop_intro (tb := tb) follows hN (D := Nat) (fun d => shp [(0, .rd (.list tKey) (ks)), (1, .rd (.list tAuthority) (l)), (6, .bp 10000 0), (40, .rd (.list tStamp) (r.2.2.2.2.1)), (41, .rd I (((r.2.2.2.2.1).length : Int) : Int)), (42, .rd I (d : Int))] [(10000, .box 38 [.rd I (r.1), .rd I (r.2.1), .rd I (r.2.2.1), .rd (.list tStep) (r.2.2.2.1), .rd (.list tStamp) (r.2.2.2.2.1)])]) (fun d => d ≤ List.length r.2.2.2.2.1 ∧ (r.2.2.2.2.1.all (stB ks l r.2.2.1) = (List.drop d r.2.2.2.2.1).all (stB ks l r.2.2.1))) (fun d => List.length r.2.2.2.2.1 - d) (0) ?_ (sub_shp hN [(10000, some 10000)] ?_) (fun d hd => ?_)
    · exact ⟨Nat.zero_le _, rfl⟩
    · simp (disch := exact eqId (by kernel_rfl)) only [go_sem, ↓reduceIte, Nat.reduceAdd, Nat.reduceMul, Nat.reduceLT, Nat.reduceBEq, Nat.reduceLeDiff, Nat.reduceEqDiff, Int.reduceToNat]
      try rfl
    · obtain ⟨h1, h2⟩ := hd
      simp (disch := exact eqId (by kernel_rfl)) only [go_sem, ↓reduceIte, Nat.reduceAdd, Nat.reduceMul, Nat.reduceLT, Nat.reduceBEq, Nat.reduceLeDiff, Nat.reduceEqDiff, Int.reduceToNat]
      repeat' (first | (refine And.intro ?_ ?_) | intro _ | (refine callQ_intro (impl_CheckStamp_ok _ _ _) ?_; try (simp (disch := exact eqId (by kernel_rfl)) only [go_sem, ↓reduceIte, Nat.reduceAdd, Nat.reduceMul, Nat.reduceLT, Nat.reduceBEq, Nat.reduceLeDiff, Nat.reduceEqDiff, Int.reduceToNat])) | (refine callH_intro (fun hcc => impl_CheckStamp_ok _ _ _) ?_; try (simp (disch := exact eqId (by kernel_rfl)) only [go_sem, ↓reduceIte, Nat.reduceAdd, Nat.reduceMul, Nat.reduceLT, Nat.reduceBEq, Nat.reduceLeDiff, Nat.reduceEqDiff, Int.reduceToNat])))
      all_goals (try omega)
      · rename_i hk he
        rw [hcr, h2, drop_getD (show d < List.length r.2.2.2.2.1 by omega) (0, 0, 0, 0, 0, ()), List.all_cons, stB_f he, Bool.false_and]
      · rename_i hk he
        have hk : d < List.length r.2.2.2.2.1 := by omega
        refine back_intro (d + 1) ?_ ?_ (sub_shp hN [(10000, some 10000)] ?_)
        · refine ⟨hk, ?_⟩
          rw [h2, drop_getD hk (0, 0, 0, 0, 0, ()), List.all_cons, stB_t he, Bool.true_and]
        · omega
        · simp (disch := exact eqId (by kernel_rfl)) only [go_sem, ↓reduceIte, Nat.reduceAdd, Nat.reduceMul, Nat.reduceLT, Nat.reduceBEq, Nat.reduceLeDiff, Nat.reduceEqDiff, Int.reduceToNat]
          exact wrap_succ hk hw.2.2.1.2.2.2.2.1.1
      · rename_i hk
        rw [hcr, h2, drop_end (show List.length r.2.2.2.2.1 ≤ d by omega)]
        rfl
end Go.Proofs.YtblnngjdoifgkaaGreat
/- What draws of stamps, mandates and pieces answer. It proves nothing of a statement by itself. -/
set_option linter.unusedSimpArgs false
set_option linter.unusedVariables false
set_option maxRecDepth 100000
namespace Go.Proofs.YtblnngjdoifgkaaGreat
open Go.AL
def A4 : List tAuthority.den := [(1, 31, 1, ()), (2, 32, 2, ()), (3, 33, 1, ()), (4, 34, 0, ())]
def isM (x : tMandate.den) : Bool := inB x.1 1 99 && inB x.2.1 0 99 && inB x.2.2.2.2.1 1 99 && spB (x.2.2.1, x.2.2.2.1, ())
def mmF (ks : List tKey.den) (x : tMandate.den) : tMandate.den × Bool := if isM x = false ∨ fnK ks x.2.2.2.2.1 < 0 then (tMandate.dflt, false) else ((x.1, x.2.1, x.2.2.1, x.2.2.2.1, x.2.2.2.2.1, mwF (ks.getD (fnK ks x.2.2.2.2.1).toNat tKey.dflt) [105, x.1, x.2.1, x.2.2.1, x.2.2.2.1, x.2.2.2.2.1], ()), true)
theorem mmF_y {ks : List tKey.den} {x : tMandate.den} (h : isM x = false ∨ fnK ks x.2.2.2.2.1 < 0) : mmF ks x = (tMandate.dflt, false) := if_pos h
theorem mmF_n {ks : List tKey.den} {x : tMandate.den} (h : isM x = true ∧ ¬ fnK ks x.2.2.2.2.1 < 0) : mmF ks x = ((x.1, x.2.1, x.2.2.1, x.2.2.2.1, x.2.2.2.2.1, mwF (ks.getD (fnK ks x.2.2.2.2.1).toNat tKey.dflt) [105, x.1, x.2.1, x.2.2.1, x.2.2.2.1, x.2.2.2.2.1], ()), true) := if_neg (by simp only [not_or, Bool.not_eq_false]; exact h)
def d11 (s : Cu) : tStamp.den × Cu :=
  let a := dB s 4
  let q := dB a.2 9
  let t := dB q.2 60
  let e := dB t.2 99
  ((mksF K8 A4 (IntKind.i64.wrap (1 + a.1), q.1, t.1, e.1, 0, ())).1, e.2)
def d11B (s : Cu) : tStamp.den × Cu :=
  let x := d11 s
  let k := dB x.2 9
  if k.1 = 0 then (setF tStamp x.1 0 (dB k.2 6).1, (dB k.2 6).2)
  else if k.1 = 1 then (setF tStamp x.1 1 (dI k.2 [-1, 3]).1, (dI k.2 [-1, 3]).2)
  else if k.1 = 2 then (setF tStamp x.1 2 (dR k.2).1, (dR k.2).2)
  else if k.1 = 3 then (setF tStamp x.1 3 (IntKind.i64.wrap (x.1.2.2.2.1 + 1)), k.2)
  else if k.1 = 4 then (setF tStamp x.1 4 (IntKind.i64.wrap (x.1.2.2.2.2.1 + 1)), k.2)
  else (x.1, k.2)
def d15 (s : Cu) : tMandate.den × Cu :=
  let f := dB s 40
  let p := dB f.2 2
  let t := dB p.2 30
  ((mmF K8 (50, IntKind.i64.wrap (1 + p.1), f.1, IntKind.i64.wrap (f.1 + t.1), 21, 0, ())).1, t.2)
def d15A (s : Cu) : tMandate.den × Cu :=
  let x := d15 s
  let k := dB x.2 9
  if k.1 = 0 then (setF tMandate x.1 0 (dI k.2 [0, 51, 100]).1, (dI k.2 [0, 51, 100]).2)
  else if k.1 = 1 then (setF tMandate x.1 1 (dI k.2 [-1, 2, 100]).1, (dI k.2 [-1, 2, 100]).2)
  else if k.1 = 2 then (setF tMandate x.1 3 (dR k.2).1, (dR k.2).2)
  else if k.1 = 3 then (setF tMandate x.1 4 (dN k.2).1, (dN k.2).2)
  else if k.1 = 4 then (setF tMandate x.1 5 (IntKind.i64.wrap (x.1.2.2.2.2.2.1 + 1)), k.2)
  else (x.1, k.2)
def d18D (s : Cu) : tPiece.den × Cu :=
  let k := dB s 5
  if k.1 = 0 then
    let j := dB k.2 3
    let x := C3.getD j.1.toNat tCert.dflt
    ((x.2.2.2.2.2.1, certI x, x.2.2.2.2.2.2.1, ()), j.2)
  else if k.1 = 1 then
    let x := d10D k.2
    ((x.1.2.2.2.1, [102, x.1.1, x.1.2.1, x.1.2.2.1, x.1.2.2.2.1], x.1.2.2.2.2.1, ()), x.2)
  else if k.1 = 2 then
    let x := d11 k.2
    ((skyF A4 x.1, [103, x.1.1, x.1.2.1, x.1.2.2.1, x.1.2.2.2.1], x.1.2.2.2.2.1, ()), x.2)
  else if k.1 = 3 then
    let x := d13 k.2
    ((x.1.1.1, [104, x.1.1.1, x.1.1.2.1, x.1.1.2.2.1, x.1.1.2.2.2.1, x.1.1.2.2.2.2.1, x.1.1.2.2.2.2.2.1, x.1.1.2.2.2.2.2.2.1, x.1.1.2.2.2.2.2.2.2.1], x.1.1.2.2.2.2.2.2.2.2.1, ()), x.2)
  else
    let x := d15 k.2
    ((x.1.2.2.2.2.1, [105, x.1.1, x.1.2.1, x.1.2.2.1, x.1.2.2.2.1, x.1.2.2.2.2.1], x.1.2.2.2.2.2.1, ()), x.2)
theorem d18D_len (s : Cu) : 5 ≤ (d18D s).1.2.1.length ∧ (d18D s).1.2.1.length ≤ 9 := by
  unfold d18D
  simp only
  repeat' split
  all_goals (simp only [List.length_cons, List.length_nil, certI]; omega)
def d18 (s : Cu) : tPiece.den × Cu :=
  let p := d18D s
  let k := dB p.2 8
  if k.1 = 0 then (((dN k.2).1, p.1.2.1, p.1.2.2.1, ()), (dN k.2).2)
  else if k.1 = 1 then ((p.1.1, p.1.2.1 ++ [5], p.1.2.2.1, ()), k.2)
  else if k.1 = 2 then ((p.1.1, p.1.2.1, IntKind.i64.wrap (p.1.2.2.1 + 1), ()), k.2)
  else if k.1 = 3 then ((p.1.1, p.1.2.1.set 0 (dI k.2 [100, 101, 103, 105, 106, -1]).1, p.1.2.2.1, ()), (dI k.2 [100, 101, 103, 105, 106, -1]).2)
  else if k.1 = 4 then ((p.1.1, p.1.2.1.set 1 (IntKind.i64.wrap (p.1.2.1.getD 1 0 + 1)), p.1.2.2.1, ()), k.2)
  else (p.1, k.2)
theorem l11Authorities_ok : FunOK Tryz.prog 35 [] (.own 104 tAuthority A4) := by
  refine fun_of (tb := tb) follows Tryz.func35 (by kernel_rfl) Tryz.ntmps35 rfl rfl rfl ?_; intro cx hN hw
  simp (disch := exact eqId (by kernel_rfl)) only [go_sem, ↓reduceIte, Nat.reduceAdd, Nat.reduceMul, Nat.reduceLT, Nat.reduceBEq, Nat.reduceLeDiff, Nat.reduceEqDiff, Int.reduceToNat]
  try rfl
theorem spec_IsMandate_ok (x : tMandate.den) : FunOK Tryz.prog 132 [⟨tMandate, x⟩] (.rd .bool (isM x)) := by
  refine fun_of (tb := tb) follows Tryz.func132 (by kernel_rfl) Tryz.ntmps132 rfl rfl rfl ?_; intro cx hN hw
  simp (disch := exact eqId (by kernel_rfl)) only [go_sem, ↓reduceIte, Nat.reduceAdd, Nat.reduceMul, Nat.reduceLT, Nat.reduceBEq, Nat.reduceLeDiff, Nat.reduceEqDiff, Int.reduceToNat]
  repeat' (first | (refine And.intro ?_ ?_) | intro _ | (refine callQ_intro (l1In_ok _ _ _) ?_; try (simp (disch := exact eqId (by kernel_rfl)) only [go_sem, ↓reduceIte, Nat.reduceAdd, Nat.reduceMul, Nat.reduceLT, Nat.reduceBEq, Nat.reduceLeDiff, Nat.reduceEqDiff, Int.reduceToNat])) | (refine callH_intro (fun hcc => l1In_ok _ _ _) ?_; try (simp (disch := exact eqId (by kernel_rfl)) only [go_sem, ↓reduceIte, Nat.reduceAdd, Nat.reduceMul, Nat.reduceLT, Nat.reduceBEq, Nat.reduceLeDiff, Nat.reduceEqDiff, Int.reduceToNat])) | (refine callQ_intro (spec_IsSpan_ok _) ?_; try (simp (disch := exact eqId (by kernel_rfl)) only [go_sem, ↓reduceIte, Nat.reduceAdd, Nat.reduceMul, Nat.reduceLT, Nat.reduceBEq, Nat.reduceLeDiff, Nat.reduceEqDiff, Int.reduceToNat])) | (refine callH_intro (fun hcc => spec_IsSpan_ok _) ?_; try (simp (disch := exact eqId (by kernel_rfl)) only [go_sem, ↓reduceIte, Nat.reduceAdd, Nat.reduceMul, Nat.reduceLT, Nat.reduceBEq, Nat.reduceLeDiff, Nat.reduceEqDiff, Int.reduceToNat])))
  all_goals (try rfl)
  all_goals (try (simp_all [isM, inB]; done))
  all_goals (try trace_state)
theorem spec_MakeMandate_ok (ks : List tKey.den) (x : tMandate.den) : FunOK Tryz.prog 121 [⟨(.list tKey), ks⟩, ⟨tMandate, x⟩] (.tup [.rd tMandate (mmF ks x).1, .rd .bool (mmF ks x).2]) := by
  have hf1 := fnK_lt ks x.2.2.2.2.1
  refine fun_of (tb := tb) follows Tryz.func121 (by kernel_rfl) Tryz.ntmps121 rfl rfl rfl ?_; intro cx hN hw
  simp (disch := exact eqId (by kernel_rfl)) only [go_sem, ↓reduceIte, Nat.reduceAdd, Nat.reduceMul, Nat.reduceLT, Nat.reduceBEq, Nat.reduceLeDiff, Nat.reduceEqDiff, Int.reduceToNat]
  repeat' (first | (refine And.intro ?_ ?_) | intro _ | (refine callQ_intro (spec_FindK_ok _ _) ?_; try (simp (disch := exact eqId (by kernel_rfl)) only [go_sem, ↓reduceIte, Nat.reduceAdd, Nat.reduceMul, Nat.reduceLT, Nat.reduceBEq, Nat.reduceLeDiff, Nat.reduceEqDiff, Int.reduceToNat])) | (refine callH_intro (fun hcc => spec_FindK_ok _ _) ?_; try (simp (disch := exact eqId (by kernel_rfl)) only [go_sem, ↓reduceIte, Nat.reduceAdd, Nat.reduceMul, Nat.reduceLT, Nat.reduceBEq, Nat.reduceLeDiff, Nat.reduceEqDiff, Int.reduceToNat])) | (refine callQ_intro (spec_IsMandate_ok _) ?_; try (simp (disch := exact eqId (by kernel_rfl)) only [go_sem, ↓reduceIte, Nat.reduceAdd, Nat.reduceMul, Nat.reduceLT, Nat.reduceBEq, Nat.reduceLeDiff, Nat.reduceEqDiff, Int.reduceToNat])) | (refine callH_intro (fun hcc => spec_IsMandate_ok _) ?_; try (simp (disch := exact eqId (by kernel_rfl)) only [go_sem, ↓reduceIte, Nat.reduceAdd, Nat.reduceMul, Nat.reduceLT, Nat.reduceBEq, Nat.reduceLeDiff, Nat.reduceEqDiff, Int.reduceToNat])) | (refine callQ_intro (spec_MandateInts_ok _) ?_; try (simp (disch := exact eqId (by kernel_rfl)) only [go_sem, ↓reduceIte, Nat.reduceAdd, Nat.reduceMul, Nat.reduceLT, Nat.reduceBEq, Nat.reduceLeDiff, Nat.reduceEqDiff, Int.reduceToNat])) | (refine callH_intro (fun hcc => spec_MandateInts_ok _) ?_; try (simp (disch := exact eqId (by kernel_rfl)) only [go_sem, ↓reduceIte, Nat.reduceAdd, Nat.reduceMul, Nat.reduceLT, Nat.reduceBEq, Nat.reduceLeDiff, Nat.reduceEqDiff, Int.reduceToNat])) | (refine callQ_intro (spec_MarkWith_ok _ _ (show (List.length _) ≤ 1073741823 by simp)) ?_; try (simp (disch := exact eqId (by kernel_rfl)) only [go_sem, ↓reduceIte, Nat.reduceAdd, Nat.reduceMul, Nat.reduceLT, Nat.reduceBEq, Nat.reduceLeDiff, Nat.reduceEqDiff, Int.reduceToNat])) | (refine callH_intro (fun hcc => spec_MarkWith_ok _ _ (show (List.length _) ≤ 1073741823 by simp)) ?_; try (simp (disch := exact eqId (by kernel_rfl)) only [go_sem, ↓reduceIte, Nat.reduceAdd, Nat.reduceMul, Nat.reduceLT, Nat.reduceBEq, Nat.reduceLeDiff, Nat.reduceEqDiff, Int.reduceToNat])))
  all_goals (try omega)
  all_goals (rename_i hc; first | exact (congrArg Prod.fst (mmF_y hc)).symm | exact (congrArg Prod.snd (mmF_y hc)).symm | exact (congrArg Prod.fst (mmF_n hc)).symm | exact (congrArg Prod.snd (mmF_n hc)).symm | trace_state)
theorem l11Stamp_ok (s : Cu)  : MutOK Tryz.prog 93 [none] [.obj (.box 82 [.rd (.list (.int .u8)) (s).b, .rd I (s).i, .rd I (s).h])] (.rd tStamp (d11 s).1) [.box 82 [.rd (.list (.int .u8)) ((d11 s).2).b, .rd I ((d11 s).2).i, .rd I ((d11 s).2).h]] := by
  refine fun_ofM (tb := tb) follows Tryz.func93 (by kernel_rfl) Tryz.ntmps93 rfl rfl (by simp [shOK]) rfl ?_; intro cx hN hw
  simp (disch := exact eqId (by kernel_rfl)) only [go_sem, ↓reduceIte, Nat.reduceAdd, Nat.reduceMul, Nat.reduceLT, Nat.reduceBEq, Nat.reduceLeDiff, Nat.reduceEqDiff, Int.reduceToNat]
  repeat' (first | (refine And.intro ?_ ?_) | intro _ | (refine callM_intro (dB_ok _ _) ⟨⟨trivial, by decide⟩, rfl, rfl⟩ ?_; try (simp (disch := exact eqId (by kernel_rfl)) only [go_sem, ↓reduceIte, Nat.reduceAdd, Nat.reduceMul, Nat.reduceLT, Nat.reduceBEq, Nat.reduceLeDiff, Nat.reduceEqDiff, Int.reduceToNat])) | (refine callQ_intro (l8Keys_ok) ?_; try (simp (disch := exact eqId (by kernel_rfl)) only [go_sem, ↓reduceIte, Nat.reduceAdd, Nat.reduceMul, Nat.reduceLT, Nat.reduceBEq, Nat.reduceLeDiff, Nat.reduceEqDiff, Int.reduceToNat])) | (refine callH_intro (fun hcc => l8Keys_ok) ?_; try (simp (disch := exact eqId (by kernel_rfl)) only [go_sem, ↓reduceIte, Nat.reduceAdd, Nat.reduceMul, Nat.reduceLT, Nat.reduceBEq, Nat.reduceLeDiff, Nat.reduceEqDiff, Int.reduceToNat])) | (refine callQ_intro (l11Authorities_ok) ?_; try (simp (disch := exact eqId (by kernel_rfl)) only [go_sem, ↓reduceIte, Nat.reduceAdd, Nat.reduceMul, Nat.reduceLT, Nat.reduceBEq, Nat.reduceLeDiff, Nat.reduceEqDiff, Int.reduceToNat])) | (refine callH_intro (fun hcc => l11Authorities_ok) ?_; try (simp (disch := exact eqId (by kernel_rfl)) only [go_sem, ↓reduceIte, Nat.reduceAdd, Nat.reduceMul, Nat.reduceLT, Nat.reduceBEq, Nat.reduceLeDiff, Nat.reduceEqDiff, Int.reduceToNat])) | (refine callQ_intro (spec_MakeStamp_ok _ _ _) ?_; try (simp (disch := exact eqId (by kernel_rfl)) only [go_sem, ↓reduceIte, Nat.reduceAdd, Nat.reduceMul, Nat.reduceLT, Nat.reduceBEq, Nat.reduceLeDiff, Nat.reduceEqDiff, Int.reduceToNat])) | (refine callH_intro (fun hcc => spec_MakeStamp_ok _ _ _) ?_; try (simp (disch := exact eqId (by kernel_rfl)) only [go_sem, ↓reduceIte, Nat.reduceAdd, Nat.reduceMul, Nat.reduceLT, Nat.reduceBEq, Nat.reduceLeDiff, Nat.reduceEqDiff, Int.reduceToNat])))
  all_goals (try omega)
  all_goals (try (show Nat.ble _ _ = true; rfl))
  all_goals (try (unfold d11; simp only [*, ↓reduceIte, Bool.false_eq_true]; done))
  all_goals (try (unfold d11; simp only [*, ↓reduceIte, Bool.false_eq_true]; first | rfl | exact ⟨rfl, rfl⟩ | exact ⟨rfl, rfl, rfl⟩))
theorem l11Bent_ok (s : Cu)  : MutOK Tryz.prog 72 [none] [.obj (.box 82 [.rd (.list (.int .u8)) (s).b, .rd I (s).i, .rd I (s).h])] (.rd tStamp (d11B s).1) [.box 82 [.rd (.list (.int .u8)) ((d11B s).2).b, .rd I ((d11B s).2).i, .rd I ((d11B s).2).h]] := by
  refine fun_ofM (tb := tb) follows Tryz.func72 (by kernel_rfl) Tryz.ntmps72 rfl rfl (by simp [shOK]) rfl ?_; intro cx hN hw
  simp (disch := exact eqId (by kernel_rfl)) only [go_sem, ↓reduceIte, Nat.reduceAdd, Nat.reduceMul, Nat.reduceLT, Nat.reduceBEq, Nat.reduceLeDiff, Nat.reduceEqDiff, Int.reduceToNat]
  repeat' (first | (refine And.intro ?_ ?_) | intro _ | (refine callM_intro (dI_ok _ [-1, 3] (by decide)) ⟨⟨trivial, by decide⟩, rfl, rfl⟩ ?_; try (simp (disch := exact eqId (by kernel_rfl)) only [go_sem, ↓reduceIte, Nat.reduceAdd, Nat.reduceMul, Nat.reduceLT, Nat.reduceBEq, Nat.reduceLeDiff, Nat.reduceEqDiff, Int.reduceToNat])) | (refine callM_intro (l11Stamp_ok _) ⟨⟨trivial, by decide⟩, rfl, rfl⟩ ?_; try (simp (disch := exact eqId (by kernel_rfl)) only [go_sem, ↓reduceIte, Nat.reduceAdd, Nat.reduceMul, Nat.reduceLT, Nat.reduceBEq, Nat.reduceLeDiff, Nat.reduceEqDiff, Int.reduceToNat])) | (refine callM_intro (l4Raw_ok _) ⟨⟨trivial, by decide⟩, rfl, rfl⟩ ?_; try (simp (disch := exact eqId (by kernel_rfl)) only [go_sem, ↓reduceIte, Nat.reduceAdd, Nat.reduceMul, Nat.reduceLT, Nat.reduceBEq, Nat.reduceLeDiff, Nat.reduceEqDiff, Int.reduceToNat])) | (refine callM_intro (dB_ok _ _) ⟨⟨trivial, by decide⟩, rfl, rfl⟩ ?_; try (simp (disch := exact eqId (by kernel_rfl)) only [go_sem, ↓reduceIte, Nat.reduceAdd, Nat.reduceMul, Nat.reduceLT, Nat.reduceBEq, Nat.reduceLeDiff, Nat.reduceEqDiff, Int.reduceToNat])))
  all_goals (try omega)
  all_goals (try (show Nat.ble _ _ = true; rfl))
  all_goals (try (unfold d11B; simp only [*, ↓reduceIte, Bool.false_eq_true]; done))
  all_goals (try (unfold d11B; simp only [*, ↓reduceIte, Bool.false_eq_true]; first | rfl | exact ⟨rfl, rfl⟩ | exact ⟨rfl, rfl, rfl⟩))
theorem l15Draw_ok (s : Cu)  : MutOK Tryz.prog 99 [none] [.obj (.box 82 [.rd (.list (.int .u8)) (s).b, .rd I (s).i, .rd I (s).h])] (.rd tMandate (d15 s).1) [.box 82 [.rd (.list (.int .u8)) ((d15 s).2).b, .rd I ((d15 s).2).i, .rd I ((d15 s).2).h]] := by
  refine fun_ofM (tb := tb) follows Tryz.func99 (by kernel_rfl) Tryz.ntmps99 rfl rfl (by simp [shOK]) rfl ?_; intro cx hN hw
  simp (disch := exact eqId (by kernel_rfl)) only [go_sem, ↓reduceIte, Nat.reduceAdd, Nat.reduceMul, Nat.reduceLT, Nat.reduceBEq, Nat.reduceLeDiff, Nat.reduceEqDiff, Int.reduceToNat]
  repeat' (first | (refine And.intro ?_ ?_) | intro _ | (refine callM_intro (dB_ok _ _) ⟨⟨trivial, by decide⟩, rfl, rfl⟩ ?_; try (simp (disch := exact eqId (by kernel_rfl)) only [go_sem, ↓reduceIte, Nat.reduceAdd, Nat.reduceMul, Nat.reduceLT, Nat.reduceBEq, Nat.reduceLeDiff, Nat.reduceEqDiff, Int.reduceToNat])) | (refine callQ_intro (l8Keys_ok) ?_; try (simp (disch := exact eqId (by kernel_rfl)) only [go_sem, ↓reduceIte, Nat.reduceAdd, Nat.reduceMul, Nat.reduceLT, Nat.reduceBEq, Nat.reduceLeDiff, Nat.reduceEqDiff, Int.reduceToNat])) | (refine callH_intro (fun hcc => l8Keys_ok) ?_; try (simp (disch := exact eqId (by kernel_rfl)) only [go_sem, ↓reduceIte, Nat.reduceAdd, Nat.reduceMul, Nat.reduceLT, Nat.reduceBEq, Nat.reduceLeDiff, Nat.reduceEqDiff, Int.reduceToNat])) | (refine callQ_intro (spec_MakeMandate_ok _ _) ?_; try (simp (disch := exact eqId (by kernel_rfl)) only [go_sem, ↓reduceIte, Nat.reduceAdd, Nat.reduceMul, Nat.reduceLT, Nat.reduceBEq, Nat.reduceLeDiff, Nat.reduceEqDiff, Int.reduceToNat])) | (refine callH_intro (fun hcc => spec_MakeMandate_ok _ _) ?_; try (simp (disch := exact eqId (by kernel_rfl)) only [go_sem, ↓reduceIte, Nat.reduceAdd, Nat.reduceMul, Nat.reduceLT, Nat.reduceBEq, Nat.reduceLeDiff, Nat.reduceEqDiff, Int.reduceToNat])))
  all_goals (try omega)
  all_goals (try (show Nat.ble _ _ = true; rfl))
  all_goals (try (unfold d15; simp only [*, ↓reduceIte, Bool.false_eq_true]; done))
  all_goals (try (unfold d15; simp only [*, ↓reduceIte, Bool.false_eq_true]; first | rfl | exact ⟨rfl, rfl⟩ | exact ⟨rfl, rfl, rfl⟩))
theorem l18Draw_ok (s : Cu)  : MutOK Tryz.prog 66 [none] [.obj (.box 82 [.rd (.list (.int .u8)) (s).b, .rd I (s).i, .rd I (s).h])] (.agg [.rd I (d18D s).1.1, .own 3 I (d18D s).1.2.1, .rd I (d18D s).1.2.2.1]) [.box 82 [.rd (.list (.int .u8)) ((d18D s).2).b, .rd I ((d18D s).2).i, .rd I ((d18D s).2).h]] := by
  have h1 := dB_in (dB s 5).2 (n := 3) (by decide)
  have hl : C3.length = 3 := rfl
  refine fun_ofM (tb := tb) follows Tryz.func66 (by kernel_rfl) Tryz.ntmps66 rfl rfl (by simp [shOK]) rfl ?_; intro cx hN hw
  simp (disch := exact eqId (by kernel_rfl)) only [go_sem, ↓reduceIte, Nat.reduceAdd, Nat.reduceMul, Nat.reduceLT, Nat.reduceBEq, Nat.reduceLeDiff, Nat.reduceEqDiff, Int.reduceToNat]
  repeat' (first | (refine And.intro ?_ ?_) | intro _ | (refine callM_intro (l10Draw_ok _) ⟨⟨trivial, by decide⟩, rfl, rfl⟩ ?_; try (simp (disch := exact eqId (by kernel_rfl)) only [go_sem, ↓reduceIte, Nat.reduceAdd, Nat.reduceMul, Nat.reduceLT, Nat.reduceBEq, Nat.reduceLeDiff, Nat.reduceEqDiff, Int.reduceToNat])) | (refine callM_intro (l11Stamp_ok _) ⟨⟨trivial, by decide⟩, rfl, rfl⟩ ?_; try (simp (disch := exact eqId (by kernel_rfl)) only [go_sem, ↓reduceIte, Nat.reduceAdd, Nat.reduceMul, Nat.reduceLT, Nat.reduceBEq, Nat.reduceLeDiff, Nat.reduceEqDiff, Int.reduceToNat])) | (refine callM_intro (l13Draw_ok _) ⟨⟨trivial, by decide⟩, rfl, rfl⟩ ?_; try (simp (disch := exact eqId (by kernel_rfl)) only [go_sem, ↓reduceIte, Nat.reduceAdd, Nat.reduceMul, Nat.reduceLT, Nat.reduceBEq, Nat.reduceLeDiff, Nat.reduceEqDiff, Int.reduceToNat])) | (refine callM_intro (l15Draw_ok _) ⟨⟨trivial, by decide⟩, rfl, rfl⟩ ?_; try (simp (disch := exact eqId (by kernel_rfl)) only [go_sem, ↓reduceIte, Nat.reduceAdd, Nat.reduceMul, Nat.reduceLT, Nat.reduceBEq, Nat.reduceLeDiff, Nat.reduceEqDiff, Int.reduceToNat])) | (refine callM_intro (dB_ok _ _) ⟨⟨trivial, by decide⟩, rfl, rfl⟩ ?_; try (simp (disch := exact eqId (by kernel_rfl)) only [go_sem, ↓reduceIte, Nat.reduceAdd, Nat.reduceMul, Nat.reduceLT, Nat.reduceBEq, Nat.reduceLeDiff, Nat.reduceEqDiff, Int.reduceToNat])) | (refine callQ_intro (l9Certs_ok) ?_; try (simp (disch := exact eqId (by kernel_rfl)) only [go_sem, ↓reduceIte, Nat.reduceAdd, Nat.reduceMul, Nat.reduceLT, Nat.reduceBEq, Nat.reduceLeDiff, Nat.reduceEqDiff, Int.reduceToNat])) | (refine callH_intro (fun hcc => l9Certs_ok) ?_; try (simp (disch := exact eqId (by kernel_rfl)) only [go_sem, ↓reduceIte, Nat.reduceAdd, Nat.reduceMul, Nat.reduceLT, Nat.reduceBEq, Nat.reduceLeDiff, Nat.reduceEqDiff, Int.reduceToNat])) | (refine callQ_intro (l11Authorities_ok) ?_; try (simp (disch := exact eqId (by kernel_rfl)) only [go_sem, ↓reduceIte, Nat.reduceAdd, Nat.reduceMul, Nat.reduceLT, Nat.reduceBEq, Nat.reduceLeDiff, Nat.reduceEqDiff, Int.reduceToNat])) | (refine callH_intro (fun hcc => l11Authorities_ok) ?_; try (simp (disch := exact eqId (by kernel_rfl)) only [go_sem, ↓reduceIte, Nat.reduceAdd, Nat.reduceMul, Nat.reduceLT, Nat.reduceBEq, Nat.reduceLeDiff, Nat.reduceEqDiff, Int.reduceToNat])) | (refine callQ_intro (spec_CertPiece_ok _) ?_; try (simp (disch := exact eqId (by kernel_rfl)) only [go_sem, ↓reduceIte, Nat.reduceAdd, Nat.reduceMul, Nat.reduceLT, Nat.reduceBEq, Nat.reduceLeDiff, Nat.reduceEqDiff, Int.reduceToNat])) | (refine callH_intro (fun hcc => spec_CertPiece_ok _) ?_; try (simp (disch := exact eqId (by kernel_rfl)) only [go_sem, ↓reduceIte, Nat.reduceAdd, Nat.reduceMul, Nat.reduceLT, Nat.reduceBEq, Nat.reduceLeDiff, Nat.reduceEqDiff, Int.reduceToNat])) | (refine callQ_intro (spec_StatusPiece_ok _) ?_; try (simp (disch := exact eqId (by kernel_rfl)) only [go_sem, ↓reduceIte, Nat.reduceAdd, Nat.reduceMul, Nat.reduceLT, Nat.reduceBEq, Nat.reduceLeDiff, Nat.reduceEqDiff, Int.reduceToNat])) | (refine callH_intro (fun hcc => spec_StatusPiece_ok _) ?_; try (simp (disch := exact eqId (by kernel_rfl)) only [go_sem, ↓reduceIte, Nat.reduceAdd, Nat.reduceMul, Nat.reduceLT, Nat.reduceBEq, Nat.reduceLeDiff, Nat.reduceEqDiff, Int.reduceToNat])) | (refine callQ_intro (spec_StampKey_ok _ _) ?_; try (simp (disch := exact eqId (by kernel_rfl)) only [go_sem, ↓reduceIte, Nat.reduceAdd, Nat.reduceMul, Nat.reduceLT, Nat.reduceBEq, Nat.reduceLeDiff, Nat.reduceEqDiff, Int.reduceToNat])) | (refine callH_intro (fun hcc => spec_StampKey_ok _ _) ?_; try (simp (disch := exact eqId (by kernel_rfl)) only [go_sem, ↓reduceIte, Nat.reduceAdd, Nat.reduceMul, Nat.reduceLT, Nat.reduceBEq, Nat.reduceLeDiff, Nat.reduceEqDiff, Int.reduceToNat])) | (refine callQ_intro (spec_StampPiece_ok _ _) ?_; try (simp (disch := exact eqId (by kernel_rfl)) only [go_sem, ↓reduceIte, Nat.reduceAdd, Nat.reduceMul, Nat.reduceLT, Nat.reduceBEq, Nat.reduceLeDiff, Nat.reduceEqDiff, Int.reduceToNat])) | (refine callH_intro (fun hcc => spec_StampPiece_ok _ _) ?_; try (simp (disch := exact eqId (by kernel_rfl)) only [go_sem, ↓reduceIte, Nat.reduceAdd, Nat.reduceMul, Nat.reduceLT, Nat.reduceBEq, Nat.reduceLeDiff, Nat.reduceEqDiff, Int.reduceToNat])) | (refine callQ_intro (spec_SignPiece_ok _) ?_; try (simp (disch := exact eqId (by kernel_rfl)) only [go_sem, ↓reduceIte, Nat.reduceAdd, Nat.reduceMul, Nat.reduceLT, Nat.reduceBEq, Nat.reduceLeDiff, Nat.reduceEqDiff, Int.reduceToNat])) | (refine callH_intro (fun hcc => spec_SignPiece_ok _) ?_; try (simp (disch := exact eqId (by kernel_rfl)) only [go_sem, ↓reduceIte, Nat.reduceAdd, Nat.reduceMul, Nat.reduceLT, Nat.reduceBEq, Nat.reduceLeDiff, Nat.reduceEqDiff, Int.reduceToNat])) | (refine callQ_intro (spec_MandatePiece_ok _) ?_; try (simp (disch := exact eqId (by kernel_rfl)) only [go_sem, ↓reduceIte, Nat.reduceAdd, Nat.reduceMul, Nat.reduceLT, Nat.reduceBEq, Nat.reduceLeDiff, Nat.reduceEqDiff, Int.reduceToNat])) | (refine callH_intro (fun hcc => spec_MandatePiece_ok _) ?_; try (simp (disch := exact eqId (by kernel_rfl)) only [go_sem, ↓reduceIte, Nat.reduceAdd, Nat.reduceMul, Nat.reduceLT, Nat.reduceBEq, Nat.reduceLeDiff, Nat.reduceEqDiff, Int.reduceToNat])))
  all_goals (try omega)
  all_goals (try (show Nat.ble _ _ = true; rfl))
  all_goals (try (unfold d18D; simp only [*, ↓reduceIte, Bool.false_eq_true]; done))
  all_goals (try (unfold d18D; simp only [*, ↓reduceIte, Bool.false_eq_true]; first | rfl | exact ⟨rfl, rfl⟩ | exact ⟨rfl, rfl, rfl⟩))
theorem spec_CertPiece_fr (x : tCert.den) : FunOK Tryz.prog 89 [⟨tCert, x⟩] (.agg [.rd I (x.2.2.2.2.2.1), .fresh 3 I [101, x.1, x.2.1, x.2.2.1, x.2.2.2.1, x.2.2.2.2.1, x.2.2.2.2.2.1], .rd I (x.2.2.2.2.2.2.1)]) := (spec_CertPiece_ok x).fr rfl
theorem spec_StatusPiece_fr (x : tStatus.den) : FunOK Tryz.prog 91 [⟨tStatus, x⟩] (.agg [.rd I (x.2.2.2.1), .fresh 3 I [102, x.1, x.2.1, x.2.2.1, x.2.2.2.1], .rd I (x.2.2.2.2.1)]) := (spec_StatusPiece_ok x).fr rfl
theorem spec_StampPiece_fr (key : Int) (x : tStamp.den) : FunOK Tryz.prog 94 [⟨I, key⟩, ⟨tStamp, x⟩] (.agg [.rd I (key), .fresh 3 I [103, x.1, x.2.1, x.2.2.1, x.2.2.2.1], .rd I (x.2.2.2.2.1)]) := (spec_StampPiece_ok key x).fr rfl
theorem spec_SignPiece_fr (x : tSignature.den) : FunOK Tryz.prog 97 [⟨tSignature, x⟩] (.agg [.rd I (x.1), .fresh 3 I [104, x.1, x.2.1, x.2.2.1, x.2.2.2.1, x.2.2.2.2.1, x.2.2.2.2.2.1, x.2.2.2.2.2.2.1, x.2.2.2.2.2.2.2.1], .rd I (x.2.2.2.2.2.2.2.2.1)]) := (spec_SignPiece_ok x).fr rfl
theorem spec_MandatePiece_fr (x : tMandate.den) : FunOK Tryz.prog 98 [⟨tMandate, x⟩] (.agg [.rd I (x.2.2.2.2.1), .fresh 3 I [105, x.1, x.2.1, x.2.2.1, x.2.2.2.1, x.2.2.2.2.1], .rd I (x.2.2.2.2.2.1)]) := (spec_MandatePiece_ok x).fr rfl
theorem l18Draw_fr (s : Cu)  : MutOK Tryz.prog 66 [none] [.obj (.box 82 [.rd (.list (.int .u8)) (s).b, .rd I (s).i, .rd I (s).h])] (.agg [.rd I (d18D s).1.1, .fresh 3 I (d18D s).1.2.1, .rd I (d18D s).1.2.2.1]) [.box 82 [.rd (.list (.int .u8)) ((d18D s).2).b, .rd I ((d18D s).2).i, .rd I ((d18D s).2).h]] := by
  have h1 := dB_in (dB s 5).2 (n := 3) (by decide)
  have hl : C3.length = 3 := rfl
  refine fun_ofM (tb := tb) follows Tryz.func66 (by kernel_rfl) Tryz.ntmps66 rfl rfl (by simp [shOK]) rfl ?_; intro cx hN hw
  simp (disch := exact eqId (by kernel_rfl)) only [go_sem, ↓reduceIte, Nat.reduceAdd, Nat.reduceMul, Nat.reduceLT, Nat.reduceBEq, Nat.reduceLeDiff, Nat.reduceEqDiff, Int.reduceToNat]
  repeat' (first | (refine And.intro ?_ ?_) | intro _ | (refine callM_intro (l10Draw_ok _) ⟨⟨trivial, by decide⟩, rfl, rfl⟩ ?_; try (simp (disch := exact eqId (by kernel_rfl)) only [go_sem, ↓reduceIte, Nat.reduceAdd, Nat.reduceMul, Nat.reduceLT, Nat.reduceBEq, Nat.reduceLeDiff, Nat.reduceEqDiff, Int.reduceToNat])) | (refine callM_intro (l11Stamp_ok _) ⟨⟨trivial, by decide⟩, rfl, rfl⟩ ?_; try (simp (disch := exact eqId (by kernel_rfl)) only [go_sem, ↓reduceIte, Nat.reduceAdd, Nat.reduceMul, Nat.reduceLT, Nat.reduceBEq, Nat.reduceLeDiff, Nat.reduceEqDiff, Int.reduceToNat])) | (refine callM_intro (l13Draw_ok _) ⟨⟨trivial, by decide⟩, rfl, rfl⟩ ?_; try (simp (disch := exact eqId (by kernel_rfl)) only [go_sem, ↓reduceIte, Nat.reduceAdd, Nat.reduceMul, Nat.reduceLT, Nat.reduceBEq, Nat.reduceLeDiff, Nat.reduceEqDiff, Int.reduceToNat])) | (refine callM_intro (l15Draw_ok _) ⟨⟨trivial, by decide⟩, rfl, rfl⟩ ?_; try (simp (disch := exact eqId (by kernel_rfl)) only [go_sem, ↓reduceIte, Nat.reduceAdd, Nat.reduceMul, Nat.reduceLT, Nat.reduceBEq, Nat.reduceLeDiff, Nat.reduceEqDiff, Int.reduceToNat])) | (refine callM_intro (dB_ok _ _) ⟨⟨trivial, by decide⟩, rfl, rfl⟩ ?_; try (simp (disch := exact eqId (by kernel_rfl)) only [go_sem, ↓reduceIte, Nat.reduceAdd, Nat.reduceMul, Nat.reduceLT, Nat.reduceBEq, Nat.reduceLeDiff, Nat.reduceEqDiff, Int.reduceToNat])) | (refine callQ_intro (l9Certs_ok) ?_; try (simp (disch := exact eqId (by kernel_rfl)) only [go_sem, ↓reduceIte, Nat.reduceAdd, Nat.reduceMul, Nat.reduceLT, Nat.reduceBEq, Nat.reduceLeDiff, Nat.reduceEqDiff, Int.reduceToNat])) | (refine callH_intro (fun hcc => l9Certs_ok) ?_; try (simp (disch := exact eqId (by kernel_rfl)) only [go_sem, ↓reduceIte, Nat.reduceAdd, Nat.reduceMul, Nat.reduceLT, Nat.reduceBEq, Nat.reduceLeDiff, Nat.reduceEqDiff, Int.reduceToNat])) | (refine callQ_intro (l11Authorities_ok) ?_; try (simp (disch := exact eqId (by kernel_rfl)) only [go_sem, ↓reduceIte, Nat.reduceAdd, Nat.reduceMul, Nat.reduceLT, Nat.reduceBEq, Nat.reduceLeDiff, Nat.reduceEqDiff, Int.reduceToNat])) | (refine callH_intro (fun hcc => l11Authorities_ok) ?_; try (simp (disch := exact eqId (by kernel_rfl)) only [go_sem, ↓reduceIte, Nat.reduceAdd, Nat.reduceMul, Nat.reduceLT, Nat.reduceBEq, Nat.reduceLeDiff, Nat.reduceEqDiff, Int.reduceToNat])) | (refine callQ_intro (spec_CertPiece_fr _) ?_; try (simp (disch := exact eqId (by kernel_rfl)) only [go_sem, ↓reduceIte, Nat.reduceAdd, Nat.reduceMul, Nat.reduceLT, Nat.reduceBEq, Nat.reduceLeDiff, Nat.reduceEqDiff, Int.reduceToNat])) | (refine callH_intro (fun hcc => spec_CertPiece_fr _) ?_; try (simp (disch := exact eqId (by kernel_rfl)) only [go_sem, ↓reduceIte, Nat.reduceAdd, Nat.reduceMul, Nat.reduceLT, Nat.reduceBEq, Nat.reduceLeDiff, Nat.reduceEqDiff, Int.reduceToNat])) | (refine callQ_intro (spec_StatusPiece_fr _) ?_; try (simp (disch := exact eqId (by kernel_rfl)) only [go_sem, ↓reduceIte, Nat.reduceAdd, Nat.reduceMul, Nat.reduceLT, Nat.reduceBEq, Nat.reduceLeDiff, Nat.reduceEqDiff, Int.reduceToNat])) | (refine callH_intro (fun hcc => spec_StatusPiece_fr _) ?_; try (simp (disch := exact eqId (by kernel_rfl)) only [go_sem, ↓reduceIte, Nat.reduceAdd, Nat.reduceMul, Nat.reduceLT, Nat.reduceBEq, Nat.reduceLeDiff, Nat.reduceEqDiff, Int.reduceToNat])) | (refine callQ_intro (spec_StampKey_ok _ _) ?_; try (simp (disch := exact eqId (by kernel_rfl)) only [go_sem, ↓reduceIte, Nat.reduceAdd, Nat.reduceMul, Nat.reduceLT, Nat.reduceBEq, Nat.reduceLeDiff, Nat.reduceEqDiff, Int.reduceToNat])) | (refine callH_intro (fun hcc => spec_StampKey_ok _ _) ?_; try (simp (disch := exact eqId (by kernel_rfl)) only [go_sem, ↓reduceIte, Nat.reduceAdd, Nat.reduceMul, Nat.reduceLT, Nat.reduceBEq, Nat.reduceLeDiff, Nat.reduceEqDiff, Int.reduceToNat])) | (refine callQ_intro (spec_StampPiece_fr _ _) ?_; try (simp (disch := exact eqId (by kernel_rfl)) only [go_sem, ↓reduceIte, Nat.reduceAdd, Nat.reduceMul, Nat.reduceLT, Nat.reduceBEq, Nat.reduceLeDiff, Nat.reduceEqDiff, Int.reduceToNat])) | (refine callH_intro (fun hcc => spec_StampPiece_fr _ _) ?_; try (simp (disch := exact eqId (by kernel_rfl)) only [go_sem, ↓reduceIte, Nat.reduceAdd, Nat.reduceMul, Nat.reduceLT, Nat.reduceBEq, Nat.reduceLeDiff, Nat.reduceEqDiff, Int.reduceToNat])) | (refine callQ_intro (spec_SignPiece_fr _) ?_; try (simp (disch := exact eqId (by kernel_rfl)) only [go_sem, ↓reduceIte, Nat.reduceAdd, Nat.reduceMul, Nat.reduceLT, Nat.reduceBEq, Nat.reduceLeDiff, Nat.reduceEqDiff, Int.reduceToNat])) | (refine callH_intro (fun hcc => spec_SignPiece_fr _) ?_; try (simp (disch := exact eqId (by kernel_rfl)) only [go_sem, ↓reduceIte, Nat.reduceAdd, Nat.reduceMul, Nat.reduceLT, Nat.reduceBEq, Nat.reduceLeDiff, Nat.reduceEqDiff, Int.reduceToNat])) | (refine callQ_intro (spec_MandatePiece_fr _) ?_; try (simp (disch := exact eqId (by kernel_rfl)) only [go_sem, ↓reduceIte, Nat.reduceAdd, Nat.reduceMul, Nat.reduceLT, Nat.reduceBEq, Nat.reduceLeDiff, Nat.reduceEqDiff, Int.reduceToNat])) | (refine callH_intro (fun hcc => spec_MandatePiece_fr _) ?_; try (simp (disch := exact eqId (by kernel_rfl)) only [go_sem, ↓reduceIte, Nat.reduceAdd, Nat.reduceMul, Nat.reduceLT, Nat.reduceBEq, Nat.reduceLeDiff, Nat.reduceEqDiff, Int.reduceToNat])))
  all_goals (try omega)
  all_goals (try (show Nat.ble _ _ = true; rfl))
  all_goals (try (unfold d18D; simp only [*, ↓reduceIte, Bool.false_eq_true]; done))
  all_goals (try (unfold d18D; simp only [*, ↓reduceIte, Bool.false_eq_true]; first | rfl | exact ⟨rfl, rfl⟩ | exact ⟨rfl, rfl, rfl⟩))
end Go.Proofs.YtblnngjdoifgkaaGreat
/- What draws of lists of keys, authorities and methods answer, and pieces copied and bent. It proves nothing of a statement by itself. -/
set_option linter.unusedSimpArgs false
set_option linter.unusedVariables false
set_option maxRecDepth 100000
namespace Go.Proofs.YtblnngjdoifgkaaGreat
open Go.AL
def M4 : List tMethod.den := [(1, 0, 40, 50, ()), (2, 20, 80, 70, ()), (3, 40, 120, 200, ()), (4, 60, 10001, 10001, ())]
def d8A (s : Cu) : List tKey.den × Cu :=
  let j := dB s 10
  let k := dB j.2 9
  if k.1 = 0 then (K8.set j.1.toNat (setF tKey (K8.getD j.1.toNat tKey.dflt) 0 (dI k.2 [0, 1, 50, 99, 100]).1), (dI k.2 [0, 1, 50, 99, 100]).2)
  else if k.1 = 1 then (K8.set j.1.toNat (setF tKey (K8.getD j.1.toNat tKey.dflt) 1 (dI k.2 [-1, 5, 100]).1), (dI k.2 [-1, 5, 100]).2)
  else if k.1 = 2 then (K8.set j.1.toNat (setF tKey (K8.getD j.1.toNat tKey.dflt) 4 (dI k.2 [0, 777]).1), (dI k.2 [0, 777]).2)
  else if k.1 = 3 then (K8.set j.1.toNat (setF tKey (K8.getD j.1.toNat tKey.dflt) 3 (dR k.2).1), (dR k.2).2)
  else if k.1 = 4 then (K8.set j.1.toNat (setF tKey (K8.getD j.1.toNat tKey.dflt) 2 (dI k.2 [-1, 0, 99, 100]).1), (dI k.2 [-1, 0, 99, 100]).2)
  else (K8, k.2)
def d11A (s : Cu) : List tAuthority.den × Cu :=
  let j := dB s 4
  let k := dB j.2 8
  if k.1 = 0 then (A4.set j.1.toNat (setF tAuthority (A4.getD j.1.toNat tAuthority.dflt) 0 (dI k.2 [-1, 2, 99, 100]).1), (dI k.2 [-1, 2, 99, 100]).2)
  else if k.1 = 1 then (A4.set j.1.toNat (setF tAuthority (A4.getD j.1.toNat tAuthority.dflt) 1 (dN k.2).1), (dN k.2).2)
  else if k.1 = 2 then (A4.set j.1.toNat (setF tAuthority (A4.getD j.1.toNat tAuthority.dflt) 2 (dI k.2 [-1, 100, 101, 9223372036854775807]).1), (dI k.2 [-1, 100, 101, 9223372036854775807]).2)
  else (A4, k.2)
def d5A (s : Cu) : List tMethod.den × Cu :=
  let j := dB s 4
  let k := dB j.2 9
  if k.1 = 0 then (M4.set j.1.toNat (setF tMethod (M4.getD j.1.toNat tMethod.dflt) 0 (dI k.2 [-1, 0, 1, 99, 100]).1), (dI k.2 [-1, 0, 1, 99, 100]).2)
  else if k.1 = 1 then (M4.set j.1.toNat (setF tMethod (M4.getD j.1.toNat tMethod.dflt) 1 (dR k.2).1), (dR k.2).2)
  else if k.1 = 2 then (M4.set j.1.toNat (setF tMethod (M4.getD j.1.toNat tMethod.dflt) 2 (dI k.2 [0, 1, 45, 10001, 10002]).1), (dI k.2 [0, 1, 45, 10001, 10002]).2)
  else if k.1 = 3 then (M4.set j.1.toNat (setF tMethod (M4.getD j.1.toNat tMethod.dflt) 3 (dI k.2 [0, 1, 45, 10001, 10002]).1), (dI k.2 [0, 1, 45, 10001, 10002]).2)
  else if k.1 = 4 then (M4.take j.1.toNat, k.2)
  else (M4, k.2)
theorem l8Keys_fr' : FunOK Tryz.prog 34 [] (.fresh 102 tKey K8) := l8Keys_ok.fr rfl
theorem l11Authorities_fr : FunOK Tryz.prog 35 [] (.fresh 104 tAuthority A4) := l11Authorities_ok.fr rfl
theorem l18Copy_ok (p : tPiece.den) (hp : p.2.1.length ≤ 1048576) : FunOK Tryz.prog 43 [⟨tPiece, p⟩] (.agg [.rd I p.1, .own 3 I p.2.1, .rd I p.2.2.1]) := by
  refine fun_of (tb := tb) follows Tryz.func43 (by kernel_rfl) Tryz.ntmps43 rfl rfl rfl ?_; intro cx hN hw
  simp (disch := exact eqId (by kernel_rfl)) only [go_sem, ↓reduceIte, Nat.reduceAdd, Nat.reduceMul, Nat.reduceLT, Nat.reduceBEq, Nat.reduceLeDiff, Nat.reduceEqDiff, Int.reduceToNat]
  repeat' (first | (refine And.intro ?_ ?_) | intro _)
  all_goals (try omega)
theorem l18Any_ok (s : Cu) : MutOK Tryz.prog 42 [none] [.obj (.box 82 [.rd (.list (.int .u8)) (s).b, .rd I (s).i, .rd I (s).h])] (.agg [.rd I (d18 s).1.1, .own 3 I (d18 s).1.2.1, .rd I (d18 s).1.2.2.1]) [.box 82 [.rd (.list (.int .u8)) ((d18 s).2).b, .rd I ((d18 s).2).i, .rd I ((d18 s).2).h]] := by
  have hl := d18D_len s
  by_cases hk : (dB (d18D s).2 8).1 = 1
  · refine fun_ofMS (tb := tb) follows Tryz.func42 (by kernel_rfl) Tryz.ntmps42 rfl rfl (by simp [shOK]) rfl ?_; intro cx hN hw
    simp (disch := exact eqId (by kernel_rfl)) only [go_sem, ↓reduceIte, Nat.reduceAdd, Nat.reduceMul, Nat.reduceLT, Nat.reduceBEq, Nat.reduceLeDiff, Nat.reduceEqDiff, Int.reduceToNat]
    repeat' (first | (refine And.intro ?_ ?_) | intro _ | (refine callM_intro (l18Draw_ok _) ⟨⟨trivial, by decide⟩, rfl, rfl⟩ ?_; try (simp (disch := exact eqId (by kernel_rfl)) only [go_sem, ↓reduceIte, Nat.reduceAdd, Nat.reduceMul, Nat.reduceLT, Nat.reduceBEq, Nat.reduceLeDiff, Nat.reduceEqDiff, Int.reduceToNat])) | (refine callM_intro (dB_ok _ _) ⟨⟨trivial, by decide⟩, rfl, rfl⟩ ?_; try (simp (disch := exact eqId (by kernel_rfl)) only [go_sem, ↓reduceIte, Nat.reduceAdd, Nat.reduceMul, Nat.reduceLT, Nat.reduceBEq, Nat.reduceLeDiff, Nat.reduceEqDiff, Int.reduceToNat])))
    all_goals (try (exfalso; omega))
    all_goals (try omega)
    all_goals (try (show Nat.ble _ _ = true; rfl))
    all_goals (try (unfold d18; simp only [*, ↓reduceIte]; done))
    all_goals (try (unfold d18; simp only [hk]; rfl))
    all_goals (try (unfold d18; simp only [*]; rfl))
    all_goals trace_state
  · refine fun_ofMS (tb := tb) follows Tryz.func42 (by kernel_rfl) Tryz.ntmps42 rfl rfl (by simp [shOK]) rfl ?_; intro cx hN hw
    simp (disch := exact eqId (by kernel_rfl)) only [go_sem, ↓reduceIte, Nat.reduceAdd, Nat.reduceMul, Nat.reduceLT, Nat.reduceBEq, Nat.reduceLeDiff, Nat.reduceEqDiff, Int.reduceToNat]
    repeat' (first | (refine And.intro ?_ ?_) | intro _ | (refine callM_intro (dI_ok _ [100, 101, 103, 105, 106, -1] (by decide)) ⟨⟨trivial, by decide⟩, rfl, rfl⟩ ?_; try (simp (disch := exact eqId (by kernel_rfl)) only [go_sem, ↓reduceIte, Nat.reduceAdd, Nat.reduceMul, Nat.reduceLT, Nat.reduceBEq, Nat.reduceLeDiff, Nat.reduceEqDiff, Int.reduceToNat])) | (refine callM_intro (l18Draw_fr _) ⟨⟨trivial, by decide⟩, rfl, rfl⟩ ?_; try (simp (disch := exact eqId (by kernel_rfl)) only [go_sem, ↓reduceIte, Nat.reduceAdd, Nat.reduceMul, Nat.reduceLT, Nat.reduceBEq, Nat.reduceLeDiff, Nat.reduceEqDiff, Int.reduceToNat])) | (refine callM_intro (l8Number_ok _) ⟨⟨trivial, by decide⟩, rfl, rfl⟩ ?_; try (simp (disch := exact eqId (by kernel_rfl)) only [go_sem, ↓reduceIte, Nat.reduceAdd, Nat.reduceMul, Nat.reduceLT, Nat.reduceBEq, Nat.reduceLeDiff, Nat.reduceEqDiff, Int.reduceToNat])) | (refine callM_intro (dB_ok _ _) ⟨⟨trivial, by decide⟩, rfl, rfl⟩ ?_; try (simp (disch := exact eqId (by kernel_rfl)) only [go_sem, ↓reduceIte, Nat.reduceAdd, Nat.reduceMul, Nat.reduceLT, Nat.reduceBEq, Nat.reduceLeDiff, Nat.reduceEqDiff, Int.reduceToNat])))
    all_goals (try (exfalso; omega))
    all_goals (try omega)
    all_goals (try (show Nat.ble _ _ = true; rfl))
    all_goals (try (show Nat.ble _ _ = true; rfl))
    all_goals (try (unfold d18; simp only [*, ↓reduceIte]; done))
    all_goals (try (unfold d18; simp only [hk]; rfl))
    all_goals (try (unfold d18; simp only [*]; rfl))
    all_goals trace_state
theorem d18_len (s : Cu) : 5 ≤ (d18 s).1.2.1.length ∧ (d18 s).1.2.1.length ≤ 10 := by
  have hl := d18D_len s
  unfold d18
  simp only
  repeat' split
  all_goals (simp only [List.length_append, List.length_set, List.length_cons, List.length_nil]; omega)
end Go.Proofs.YtblnngjdoifgkaaGreat
/- What the functions of paths in trees answer, on both sides. It proves nothing of a statement by itself. -/
set_option linter.unusedSimpArgs false
set_option linter.unusedVariables false
set_option maxRecDepth 100000
namespace Go.Proofs.YtblnngjdoifgkaaGreat
open Go.AL
def stepR (l : List Int) (j : Nat) : List tStep.den := if j % 2 = 1 then [(l.getD (j - 1) 0, true, ())] else if j + 1 < l.length then [(l.getD (j + 1) 0, false, ())] else []
def pathR (m : Int) (l : List Int) (j : Nat) : List tStep.den := if h : l.length ≤ 1 then [] else stepR l j ++ pathR m (upF m l) (j / 2)
termination_by l.length
decreasing_by have := upF_len m l; omega
theorem pathR_step (m : Int) (h : List Int) (j : Nat) (hh : 1 < h.length) : pathR m h j = stepR h j ++ pathR m (upF m h) (j / 2) := by
  conv => lhs; unfold pathR
  rw [dif_neg (by omega)]
def pathF (m : Int) (l : List Int) (i : Int) : List tStep.den := if (0 ≤ i ∧ i < (l.length : Int)) ∧ l.length ≤ 16 then pathR m l i.toNat else []
theorem spec_TreePath_ok (m : Int) (l : List Int) (i : Int) : FunOK Tryz.prog 75 [⟨I, m⟩, ⟨(.list I), l⟩, ⟨I, i⟩] (.own 93 tStep (pathF m l i)) := by
  have hw0 : 0 ≤ (l.length : Int) := by omega
  refine fun_of (tb := tb) follows Tryz.func75 (by kernel_rfl) Tryz.ntmps75 rfl rfl rfl ?_; intro cx hN hw
  have e1 : IntKind.i64.wrap ((l.length : Int) - 1) = (l.length : Int) - 1 := by
    have h9 : l.length ≤ maxLen := hw.2.1.1
    have hm : maxLen = 9223372036854775807 := rfl
    exact wrap_i64 (by omega) (by omega)
  simp (disch := exact eqId (by kernel_rfl)) only [go_sem, ↓reduceIte, Nat.reduceAdd, Nat.reduceMul, Nat.reduceLT, Nat.reduceBEq, Nat.reduceLeDiff, Nat.reduceEqDiff, Int.reduceToNat, e1]
  repeat' (first | (refine And.intro ?_ ?_) | intro _ | (refine callQ_intro (l1In_ok _ _ _) ?_; try (simp (disch := exact eqId (by kernel_rfl)) only [go_sem, ↓reduceIte, Nat.reduceAdd, Nat.reduceMul, Nat.reduceLT, Nat.reduceBEq, Nat.reduceLeDiff, Nat.reduceEqDiff, Int.reduceToNat])) | (refine callH_intro (fun hcc => l1In_ok _ _ _) ?_; try (simp (disch := exact eqId (by kernel_rfl)) only [go_sem, ↓reduceIte, Nat.reduceAdd, Nat.reduceMul, Nat.reduceLT, Nat.reduceBEq, Nat.reduceLeDiff, Nat.reduceEqDiff, Int.reduceToNat])))
  all_goals (try omega)
  · unfold pathF
    rw [if_neg (by omega)]
  · refine loop_intro (tb := tb) follows hN (D := (List Int) × Nat × (List tStep.den)) (fun d => shp [(0, .rd I (m : Int)), (2, .rd I (d.2.1 : Int)), (7, .own 1), (8, .rd (.list I) d.1)] [(1, .row 93 tStep d.2.2)]) (fun d => (1 ≤ d.1.length ∧ d.1.length ≤ 16 ∧ d.2.1 < d.1.length) ∧ d.2.2.length ≤ 20 - d.1.length ∧ d.2.2 ++ pathR m d.1 d.2.1 = pathR m l i.toNat) (fun d => d.1.length) (l, i.toNat, []) ?_ (sub_shp hN [(1, some 20000)] ?_) (fun d hd => ?_)
    · exact ⟨⟨by simp only; omega, by simp only; omega, by simp only; omega⟩, Nat.zero_le _, rfl⟩
    · simp (disch := exact eqId (by kernel_rfl)) only [go_sem, ↓reduceIte, Nat.reduceAdd, Nat.reduceMul, Nat.reduceLT, Nat.reduceBEq, Nat.reduceLeDiff, Nat.reduceEqDiff, Int.reduceToNat]
      exact I_eq (by omega)
    · obtain ⟨h, j, q⟩ := d
      obtain ⟨⟨h1, h2, h3⟩, h4, h5⟩ := hd
      dsimp only at h1 h2 h3 h4 h5
      have u1 := upF_len m h
      have u2 := upF_len2 m h
      have e2 : IntKind.i64.wrap ((j : Int) + 1) = (j : Int) + 1 := wrap_i64 (by omega) (by omega)
      have e3 : IntKind.i64.wrap ((j : Int) - 1) = (j : Int) - 1 := wrap_i64 (by omega) (by omega)
      have e4 : (j : Int).tmod 2 = (j : Int) % 2 := Int.tmod_eq_emod_of_nonneg (by omega)
      have e5 : (j : Int).tdiv 2 = (j : Int) / 2 := Int.tdiv_eq_ediv_of_nonneg (by omega)
      have e6 : IntKind.i64.wrap ((j : Int) / 2) = (j : Int) / 2 := wrap_i64 (by omega) (by omega)
      have e7 : ((j : Int) - 1).toNat = j - 1 := by omega
      have e8 : ((j : Int) + 1).toNat = j + 1 := by omega
      have e9 : (j : Int) / 2 = ((j / 2 : Nat) : Int) := by omega
      have hp : 1 < h.length → pathR m h j = stepR h j ++ pathR m (upF m h) (j / 2) := pathR_step m h j
      simp (disch := exact eqId (by kernel_rfl)) only [go_sem, ↓reduceIte, Nat.reduceAdd, Nat.reduceMul, Nat.reduceLT, Nat.reduceBEq, Nat.reduceLeDiff, Nat.reduceEqDiff, Int.reduceToNat, e2, e3, e4, e5, e6, e7, e8]
      repeat' (first | (refine And.intro ?_ ?_) | intro _ | (refine callQ_intro (spec_l17Up_ok _ _ (by omega)) ?_; try (simp (disch := exact eqId (by kernel_rfl)) only [go_sem, ↓reduceIte, Nat.reduceAdd, Nat.reduceMul, Nat.reduceLT, Nat.reduceBEq, Nat.reduceLeDiff, Nat.reduceEqDiff, Int.reduceToNat])) | (refine callH_intro (fun hcc => spec_l17Up_ok _ _ (by omega)) ?_; try (simp (disch := exact eqId (by kernel_rfl)) only [go_sem, ↓reduceIte, Nat.reduceAdd, Nat.reduceMul, Nat.reduceLT, Nat.reduceBEq, Nat.reduceLeDiff, Nat.reduceEqDiff, Int.reduceToNat])))
      all_goals (try omega)
      · refine back_intro ((upF m h, j / 2, q ++ [(h.getD (j - 1) 0, true, ())])) ?_ ?_ (sub_shp hN [(1, some 80128)] ?_)
        · refine ⟨⟨by simp only; omega, by simp only; omega, by simp only; omega⟩, by simp only [List.length_append, List.length_cons, List.length_nil]; omega, ?_⟩
          rw [← h5, hp (by omega), stepR, if_pos (by omega)]
          simp
        · simp only
          omega
        · simp (disch := exact eqId (by kernel_rfl)) only [go_sem, ↓reduceIte, Nat.reduceAdd, Nat.reduceMul, Nat.reduceLT, Nat.reduceBEq, Nat.reduceLeDiff, Nat.reduceEqDiff, Int.reduceToNat, e9]
          try trivial
      · refine back_intro ((upF m h, j / 2, q ++ [(h.getD (j + 1) 0, false, ())])) ?_ ?_ (sub_shp hN [(1, some 100128)] ?_)
        · refine ⟨⟨by simp only; omega, by simp only; omega, by simp only; omega⟩, by simp only [List.length_append, List.length_cons, List.length_nil]; omega, ?_⟩
          rw [← h5, hp (by omega), stepR, if_neg (by omega), if_pos (by omega)]
          simp
        · simp only
          omega
        · simp (disch := exact eqId (by kernel_rfl)) only [go_sem, ↓reduceIte, Nat.reduceAdd, Nat.reduceMul, Nat.reduceLT, Nat.reduceBEq, Nat.reduceLeDiff, Nat.reduceEqDiff, Int.reduceToNat, e9]
          try trivial
      · refine back_intro ((upF m h, j / 2, q)) ?_ ?_ (sub_shp hN [(1, some 1)] ?_)
        · refine ⟨⟨by simp only; omega, by simp only; omega, by simp only; omega⟩, by simp only [List.length_append, List.length_cons, List.length_nil]; omega, ?_⟩
          rw [← h5, hp (by omega), stepR, if_neg (by omega), if_neg (by omega)]
          simp
        · simp only
          omega
        · simp (disch := exact eqId (by kernel_rfl)) only [go_sem, ↓reduceIte, Nat.reduceAdd, Nat.reduceMul, Nat.reduceLT, Nat.reduceBEq, Nat.reduceLeDiff, Nat.reduceEqDiff, Int.reduceToNat, e9]
          try trivial
      · unfold pathF
        rw [if_pos (by omega), ← h5]
        unfold pathR
        rw [dif_pos (by omega)]
        simp
end Go.Proofs.YtblnngjdoifgkaaGreat
/- Plain maths of trees: a leaf leads to the root by its path, the next number does not. It proves nothing of a statement by itself. -/
set_option linter.unusedSimpArgs false
set_option linter.unusedVariables false
namespace Go.Proofs.YtblnngjdoifgkaaGreat
open Go.AL
theorem tmod_eq (n : Int) : ∃ q, n = 2147483647 * q + n.tmod 2147483647 ∧ (0 ≤ n → 0 ≤ n.tmod 2147483647) ∧ (n ≤ 0 → n.tmod 2147483647 ≤ 0) ∧ -2147483647 < n.tmod 2147483647 ∧ n.tmod 2147483647 < 2147483647 := by
  refine ⟨n.tdiv 2147483647, (Int.mul_tdiv_add_tmod n 2147483647).symm, fun h => Int.tmod_nonneg _ h, fun h => ?_, ?_, Int.tmod_lt_of_pos n (by decide)⟩
  · have := Int.tmod_nonneg (a := -n) 2147483647 (by omega)
    rw [Int.neg_tmod] at this
    omega
  · have := Int.tmod_lt_of_pos (-n) (b := 2147483647) (by decide)
    rw [Int.neg_tmod] at this
    omega
theorem tmod_pos {n : Int} (h : 0 ≤ n) : n.tmod 2147483647 = n % 2147483647 := Int.tmod_eq_emod_of_nonneg h
theorem modF_eq (v : Int) : modF v 2147483647 = v % 2147483647 := by
  obtain ⟨q, h1, h2, h3, h4, h5⟩ := tmod_eq v
  unfold modF
  rw [if_pos (by decide), wrap_i64 (by omega) (by omega), tmod_pos (by omega)]
  omega
theorem step_eq {h v : Int} (h0 : 0 ≤ h) (h1 : h < 2147483647) : hashStep h v = (h * 1000003 + v % 2147483647 + 13) % 2147483647 := by
  have := Int.emod_nonneg v (b := 2147483647) (by decide)
  have := Int.emod_lt_of_pos v (b := 2147483647) (by decide)
  unfold hashStep
  rw [modF_eq, wrap_i64 (n := h * 1000003) (by omega) (by omega), wrap_i64 (n := h * 1000003 + v % 2147483647) (by omega) (by omega), wrap_i64 (by omega) (by omega), tmod_pos (by omega)]
theorem step_in {h v : Int} (h0 : 0 ≤ h) (h1 : h < 2147483647) : 0 ≤ hashStep h v ∧ hashStep h v < 2147483647 := by
  rw [step_eq h0 h1]; omega
theorem inv0 {d k : Int} (h : 1000003 * d = 2147483647 * k) (h1 : -2147483647 < d) (h2 : d < 2147483647) : d = 0 := by
  have e : d = 2147483647 * (1523789695 * k - 709572 * d) := by
    have e1 : 1523789695 * (1000003 * d) = 1523789695 * (2147483647 * k) := by rw [h]
    omega
  generalize 1523789695 * k - 709572 * d = z at e
  omega
theorem em_sub {X Y p : Int} (e : X % p = Y % p) : ∃ k, X - Y = p * k := by
  refine ⟨X / p - Y / p, ?_⟩
  have e1 := Int.mul_ediv_add_emod X p
  have e2 := Int.mul_ediv_add_emod Y p
  rw [Int.mul_sub]
  omega
theorem step_inj {h g v : Int} (h0 : 0 ≤ h) (h1 : h < 2147483647) (g0 : 0 ≤ g) (g1 : g < 2147483647) (e : hashStep h v = hashStep g v) : h = g := by
  rw [step_eq h0 h1, step_eq g0 g1] at e
  have b1 : -2147483647 < h - g := by clear e; omega
  have b2 : h - g < 2147483647 := by clear e; omega
  obtain ⟨k, hk⟩ := em_sub e
  clear e
  generalize v % 2147483647 = c at hk
  have e4 : 1000003 * (h - g) = 2147483647 * k := by
    rw [← hk]
    omega
  have := inv0 e4 b1 b2
  clear hk e4
  omega
theorem step_ne {h v u : Int} (h0 : 0 ≤ h) (h1 : h < 2147483647) (e : hashStep h v = hashStep h u) : v % 2147483647 = u % 2147483647 := by
  rw [step_eq h0 h1, step_eq h0 h1] at e
  omega
theorem fold_in : ∀ (l : List Int) (h : Int), 0 ≤ h → h < 2147483647 → 0 ≤ l.foldl hashStep h ∧ l.foldl hashStep h < 2147483647
  | [], h, h0, h1 => ⟨h0, h1⟩
  | v :: l, h, h0, h1 => fold_in l _ (step_in h0 h1).1 (step_in h0 h1).2
theorem fold_inj : ∀ (l : List Int) (h g : Int), 0 ≤ h → h < 2147483647 → 0 ≤ g → g < 2147483647 → l.foldl hashStep h = l.foldl hashStep g → h = g
  | [], h, g, _, _, _, _, e => e
  | v :: l, h, g, h0, h1, g0, g1, e => step_inj h0 h1 g0 g1 (fold_inj l _ _ (step_in h0 h1).1 (step_in h0 h1).2 (step_in g0 g1).1 (step_in g0 g1).2 e)
theorem hash_ne (a c : List Int) (v u : Int) (h : v % 2147483647 ≠ u % 2147483647) : hashF (a ++ v :: c) ≠ hashF (a ++ u :: c) := by
  intro e
  unfold hashF at e
  rw [List.foldl_append, List.foldl_append, List.foldl_cons, List.foldl_cons] at e
  obtain ⟨h0, h1⟩ := fold_in a 11 (by decide) (by decide)
  exact h (step_ne h0 h1 (fold_inj c _ _ (step_in h0 h1).1 (step_in h0 h1).2 (step_in h0 h1).1 (step_in h0 h1).2 e))
theorem hash_in (l : List Int) : 0 ≤ hashF l ∧ hashF l < 2147483647 := fold_in l 11 (by decide) (by decide)
theorem next_ne {v : Int} (h1 : -9223372036854775808 ≤ v) (h2 : v ≤ 9223372036854775807) : v % 2147483647 ≠ IntKind.i64.wrap (v + 1) % 2147483647 := by
  by_cases h : v = 9223372036854775807
  · subst h; decide
  · rw [wrap_i64 (by omega) (by omega)]; omega
theorem up_get (m : Int) : ∀ (l : List Int) (i : Nat), (upF m l).getD i 0 = if 2 * i + 1 < l.length then pairF m (l.getD (2 * i) 0) (l.getD (2 * i + 1) 0) else l.getD (2 * i) 0
  | [], i => by simp [upF]
  | [x], i => by
    cases i with
    | zero => simp [upF]
    | succ i => simp [upF]
  | a :: b :: r, i => by
    cases i with
    | zero => simp [upF]
    | succ i =>
      have ih := up_get m r i
      simp only [upF, List.length_cons, List.getD_cons_succ, show 2 * (i + 1) = 2 * i + 1 + 1 by omega] at ih ⊢
      rw [ih]
      by_cases h : 2 * i + 1 < r.length
      · rw [if_pos h, if_pos (by omega)]
      · rw [if_neg h, if_neg (by omega)]
theorem up_step (m : Int) (l : List Int) (j : Nat) (hj : j < l.length) : (stepR l j).foldl (fpStep m) (l.getD j 0) = (upF m l).getD (j / 2) 0 := by
  rw [up_get]
  unfold stepR
  by_cases h : j % 2 = 1
  · rw [if_pos h, if_pos (by omega), show 2 * (j / 2) = j - 1 by omega, show j - 1 + 1 = j by omega, List.foldl_cons, List.foldl_nil, fpStep]
    exact if_pos rfl
  · rw [if_neg h]
    by_cases h2 : j + 1 < l.length
    · rw [if_pos h2, if_pos (by omega), show 2 * (j / 2) = j by omega, List.foldl_cons, List.foldl_nil, fpStep]
      exact if_neg (by simp)
    · rw [if_neg h2, if_neg (by omega), show 2 * (j / 2) = j by omega, List.foldl_nil]
theorem follow_top (m : Int) : ∀ (n : Nat) (l : List Int) (j : Nat), l.length ≤ n → j < l.length → (pathR m l j).foldl (fpStep m) (l.getD j 0) = (topR m l).getD 0 0
  | 0, l, j, h, hj => by omega
  | n + 1, l, j, h, hj => by
    by_cases h1 : l.length ≤ 1
    · unfold pathR topR
      rw [dif_pos h1, dif_pos h1, show j = 0 by omega]
      rfl
    · have u1 := upF_len m l
      have u2 := upF_len2 m l
      rw [pathR_step m l j (by omega), List.foldl_append, up_step m l j hj, follow_top m n (upF m l) (j / 2) (by omega) (by omega)]
      conv => rhs; unfold topR
      rw [dif_neg h1]
theorem path_pow (m : Int) : ∀ (k : Nat) (l : List Int) (j : Nat), l.length ≤ 2 ^ k → (pathR m l j).length ≤ k
  | 0, l, j, h => by
    unfold pathR
    rw [dif_pos (by simpa using h)]
    exact Nat.le_refl _
  | k + 1, l, j, h => by
    by_cases h1 : l.length ≤ 1
    · unfold pathR
      rw [dif_pos h1]
      exact Nat.zero_le _
    · have u1 := upF_len m l
      have hs : (stepR l j).length ≤ 1 := by
        unfold stepR
        repeat' split
        all_goals simp
      have := path_pow m k (upF m l) (j / 2) (by rw [Nat.pow_succ] at h; omega)
      rw [pathR_step m l j (by omega), List.length_append]
      omega
def lev (n : Int) : Int := if n < 1 ∨ 16 < n then 0 else if n ≤ 1 then 0 else if n ≤ 2 then 1 else if n ≤ 4 then 2 else if n ≤ 8 then 3 else 4
def levJ (n : Int) (d : Int × Int) : Prop := (d.1 = 0 ∧ d.2 = 1) ∨ (d.1 = 1 ∧ d.2 = 2 ∧ 1 < n) ∨ (d.1 = 2 ∧ d.2 = 4 ∧ 2 < n) ∨ (d.1 = 3 ∧ d.2 = 8 ∧ 4 < n) ∨ (d.1 = 4 ∧ d.2 = 16 ∧ 8 < n)
theorem pair_ne {m a x y : Int} (h : x % 2147483647 ≠ y % 2147483647) : pairF m a x % 2147483647 ≠ pairF m a y % 2147483647 ∧ pairF m x a % 2147483647 ≠ pairF m y a % 2147483647 := by
  have e : ∀ l, hashF l % 2147483647 = hashF l := fun l => Int.emod_eq_of_lt (hash_in l).1 (hash_in l).2
  unfold pairF digF
  rw [e, e, e, e]
  exact ⟨hash_ne [7, m, 1, a] [] x y h, hash_ne [7, m, 1] [a] x y h⟩
theorem fold_ne (m : Int) : ∀ (l : List tStep.den) (x y : Int), x % 2147483647 ≠ y % 2147483647 → l.foldl (fpStep m) x % 2147483647 ≠ l.foldl (fpStep m) y % 2147483647
  | [], x, y, h => h
  | s :: l, x, y, h => by
    refine fold_ne m l _ _ ?_
    unfold fpStep
    cases s.2.1
    · exact (pair_ne (a := s.1) h).2
    · exact (pair_ne (a := s.1) h).1
theorem lev_pow {n : Nat} (h0 : 1 ≤ n) (h : n ≤ 16) : ∃ k : Nat, lev (n : Int) = (k : Int) ∧ k ≤ 4 ∧ n ≤ 2 ^ k ∧ (k = 0 ∨ 2 ^ k / 2 < n) := by
  have hc : ∀ n : Nat, n ≤ 16 → 1 ≤ n → ∃ k : Nat, k ≤ 4 ∧ lev (n : Int) = (k : Int) ∧ n ≤ 2 ^ k ∧ (k = 0 ∨ 2 ^ k / 2 < n) := by decide
  obtain ⟨k, h1, h2, h3, h4⟩ := hc n h h0
  exact ⟨k, h2, h1, h3, h4⟩
theorem tree_ok {m : Int} {l : List Int} {i : Int} (h0 : 0 ≤ i) (h1 : i < (l.length : Int)) (h2 : l.length ≤ 16) (hv : -9223372036854775808 ≤ l.getD i.toNat 0 ∧ l.getD i.toNat 0 ≤ 9223372036854775807) :
    (pathF m l i).foldl (fpStep m) (l.getD i.toNat 0) = rootF m l ∧ ¬ (pathF m l i).foldl (fpStep m) (IntKind.i64.wrap (l.getD i.toNat 0 + 1)) = rootF m l ∧ ∃ k : Nat, lev (l.length : Int) = (k : Int) ∧ k ≤ 4 ∧ (pathF m l i).length ≤ k ∧ l.length ≤ 2 ^ k ∧ (k = 0 ∨ 2 ^ k / 2 < l.length) := by
  have hp : pathF m l i = pathR m l i.toNat := by unfold pathF; exact if_pos ⟨⟨h0, h1⟩, h2⟩
  have hr : rootF m l = (topR m l).getD 0 0 := by unfold rootF; exact if_pos ⟨by omega, h2⟩
  have hf := follow_top m l.length l i.toNat (Nat.le_refl _) (by omega)
  obtain ⟨k, k1, k2, k3, k4⟩ := lev_pow (n := l.length) (by omega) h2
  rw [hp, hr]
  refine ⟨hf, fun e => ?_, k, k1, k2, path_pow m k l _ k3, k3, k4⟩
  rw [← hf] at e
  exact fold_ne m _ _ _ (next_ne hv.1 hv.2) (by rw [e])
theorem path_no {m : Int} {l : List Int} {i : Int} (h : (i < 0 ∨ i ≥ (l.length : Int)) ∨ (l.length : Int) > 16) : (pathF m l i).length = 0 := by
  unfold pathF
  rw [if_neg (by omega)]
  rfl
end Go.Proofs.YtblnngjdoifgkaaGreat
/- What draws of renewals answer. It proves nothing of a statement by itself. -/
set_option linter.unusedSimpArgs false
set_option linter.unusedVariables false
set_option maxRecDepth 100000
namespace Go.Proofs.YtblnngjdoifgkaaGreat
open Go.AL
def d99 (s : Cu) : Int × Cu := dB s 99
def d17 (s : Cu) (n : Int) : List Int × Cu := rep d99 (dB s n).1.toNat (dB s n).2
theorem d17_len (s : Cu) {n : Int} (hn : 1 ≤ n) : ((d17 s n).1.length : Int) < n := by
  have := dB_in s hn
  unfold d17
  rw [rep_len]
  omega
theorem take_flat {α β : Type} (f : α → List β) {l : List α} {k : Nat} (hk : k < l.length) (x : α) : (l.take (k + 1)).flatMap f = (l.take k).flatMap f ++ f (l.getD k x) := by
  rw [List.take_succ_eq_append_getElem hk, List.flatMap_append, List.flatMap_cons, List.flatMap_nil, List.append_nil, List.getD_eq_getElem?_getD, List.getElem?_eq_getElem hk]
  rfl
def mkT (ks : List tKey.den) (l : List tAuthority.den) (q tm root i : Int) : List tStamp.den := if (mksF ks l (i, q, tm, root, 0, ())).2 = true then [(mksF ks l (i, q, tm, root, 0, ())).1] else []
def mkR (ks : List tKey.den) (l : List tAuthority.den) (m leaf : Int) (ot : List Int) (ct : Int) (ids : List Int) (q tm : Int) : tRenewal.den :=
  (ct, m, rootF m (ot ++ [leaf]), pathF m (ot ++ [leaf]) (IntKind.i64.wrap (((ot ++ [leaf]).length : Int) - 1)), ids.flatMap (mkT ks l q tm (rootF m (ot ++ [leaf]))), ())
theorem mkT_len (ks : List tKey.den) (l : List tAuthority.den) (q tm root i : Int) : (mkT ks l q tm root i).length ≤ 1 := by
  unfold mkT
  split <;> simp
theorem mkT_all (ks : List tKey.den) (l : List tAuthority.den) (q tm root : Int) : ∀ (ids : List Int), (ids.flatMap (mkT ks l q tm root)).length ≤ ids.length
  | [] => by simp
  | i :: ids => by
    have h1 := mkT_len ks l q tm root i
    have h2 := mkT_all ks l q tm root ids
    rw [List.flatMap_cons, List.length_append, List.length_cons]
    omega
theorem path_len (m : Int) (l : List Int) (i : Int) : (pathF m l i).length ≤ 1000 := by
  unfold pathF
  split
  · rename_i h
    have := path_pow m 4 l i.toNat (Nat.le_trans h.2 (by decide))
    omega
  · simp
def d19 (s : Cu) (leaf ct tm : Int) : tRenewal.den × Cu :=
  let a := dB s 4
  let m := dB a.2 4
  let t := d17 m.2 4
  let q := dB t.2 9
  (mkR K8 A4 (IntKind.i64.wrap (1 + m.1)) leaf t.1 ct (([1, 2, 3, 4] : List Int).take (IntKind.i64.wrap (1 + a.1)).toNat) q.1 tm, q.2)
def d19B (s : Cu) (r : tRenewal.den) : tRenewal.den × Cu :=
  let k := dB s 10
  if k.1 = 0 then (setF tRenewal r 2 (IntKind.i64.wrap (r.2.2.1 + 1)), k.2)
  else if k.1 = 1 then (setF tRenewal r 1 (dB k.2 6).1, (dB k.2 6).2)
  else if k.1 = 2 then (setF tRenewal r 0 (dI k.2 [-1, 0, 3]).1, (dI k.2 [-1, 0, 3]).2)
  else if k.1 = 3 then (setF tRenewal r 3 (r.2.2.2.1 ++ [(1, false, ())]), k.2)
  else if k.1 = 4 then (setF tRenewal r 4 (r.2.2.2.2.1 ++ [(d11B k.2).1]), (d11B k.2).2)
  else if k.1 = 5 then (if (r.2.2.2.2.1.length : Int) > 0 then (setF tRenewal r 4 (r.2.2.2.2.1.set 0 (setF tStamp (r.2.2.2.2.1.getD 0 tStamp.dflt) 2 (dR k.2).1)), (dR k.2).2) else (r, k.2))
  else (r, k.2)
theorem d99_ok (s : Cu) : MutOK Tryz.prog 25 [none, none] [.obj (.box 82 [.rd (.list (.int .u8)) (s).b, .rd I (s).i, .rd I (s).h]), .rd ⟨I, 99⟩] (.rd I (d99 s).1) [.box 82 [.rd (.list (.int .u8)) ((d99 s).2).b, .rd I ((d99 s).2).i, .rd I ((d99 s).2).h]] := dB_ok s 99
theorem l17Leaves_ok (s : Cu) (n : Int) (hn : 1 ≤ n ∧ n ≤ 100) : MutOK Tryz.prog 49 [none, none] [.obj (.box 82 [.rd (.list (.int .u8)) (s).b, .rd I (s).i, .rd I (s).h]), .rd ⟨I, n⟩] (.own 3 I (d17 s n).1) [.box 82 [.rd (.list (.int .u8)) ((d17 s n).2).b, .rd I ((d17 s n).2).i, .rd I ((d17 s n).2).h]] := by
  have hj := dB_in s hn.1
  refine fun_ofM (tb := tb) follows Tryz.func49 (by kernel_rfl) Tryz.ntmps49 rfl rfl (by simp [shOK]) rfl ?_; intro cx hN hw
  simp (disch := exact eqId (by kernel_rfl)) only [go_sem, ↓reduceIte, Nat.reduceAdd, Nat.reduceMul, Nat.reduceLT, Nat.reduceBEq, Nat.reduceLeDiff, Nat.reduceEqDiff, Int.reduceToNat]
  refine callM_intro (dB_ok _ _) ⟨⟨trivial, by decide⟩, rfl, rfl⟩ ?_
  simp (disch := exact eqId (by kernel_rfl)) only [go_sem, ↓reduceIte, Nat.reduceAdd, Nat.reduceMul, Nat.reduceLT, Nat.reduceBEq, Nat.reduceLeDiff, Nat.reduceEqDiff, Int.reduceToNat]
  refine loop_intro (tb := tb) follows hN (D := Int × Cu × (List Int)) (fun d => shp [(0, .bp 0 0), (5, .own 20000), (6, .rd I (d.1 : Int))] [(0, .box 82 [.rd (.list (.int .u8)) (d.2.1).b, .rd I (d.2.1).i, .rd I (d.2.1).h]), (20000, .row 3 I d.2.2)]) (fun d => d.2.2.length + d.1.toNat ≤ 256 ∧ rep d99 ((dB s n).1).toNat (dB s n).2 = (d.2.2 ++ (rep d99 d.1.toNat d.2.1).1, (rep d99 d.1.toNat d.2.1).2)) (fun d => d.1.toNat) (((dB s n).1, (dB s n).2, [])) ?_ (sub_shp hN [(0, some 0), (20000, some 20000)] ?_) (fun d hd => ?_)
  · refine ⟨by simp only [List.length_nil]; omega, rfl⟩
  · simp (disch := exact eqId (by kernel_rfl)) only [go_sem, ↓reduceIte, Nat.reduceAdd, Nat.reduceMul, Nat.reduceLT, Nat.reduceBEq, Nat.reduceLeDiff, Nat.reduceEqDiff, Int.reduceToNat]
    try exact ⟨rfl, rfl⟩
    try rfl
  · obtain ⟨r, z, out⟩ := d
    obtain ⟨g1, g2⟩ := hd
    simp only at g1 g2
    simp (disch := exact eqId (by kernel_rfl)) only [go_sem, ↓reduceIte, Nat.reduceAdd, Nat.reduceMul, Nat.reduceLT, Nat.reduceBEq, Nat.reduceLeDiff, Nat.reduceEqDiff, Int.reduceToNat]
    repeat' (first | (refine And.intro ?_ ?_) | intro _ | (refine callM_intro (d99_ok _) ⟨⟨trivial, by decide⟩, rfl, rfl⟩ ?_; try (simp (disch := exact eqId (by kernel_rfl)) only [go_sem, ↓reduceIte, Nat.reduceAdd, Nat.reduceMul, Nat.reduceLT, Nat.reduceBEq, Nat.reduceLeDiff, Nat.reduceEqDiff, Int.reduceToNat])))
    all_goals (try omega)
    all_goals (try (simp only [List.length_append, List.length_cons, List.length_nil]; omega))
    · rename_i hr
      have e : r.toNat = (r - 1).toNat + 1 := by omega
      refine back_intro ((r - 1, (d99 z).2, out ++ [(d99 z).1])) ?_ ?_ (sub_shp hN [(0, some 0), (20000, some 60064)] ?_)
      · refine ⟨by simp only [List.length_append, List.length_cons, List.length_nil]; omega, ?_⟩
        simp only
        rw [g2, e, rep, List.append_assoc]
        rfl
      · simp only; omega
      · simp (disch := exact eqId (by kernel_rfl)) only [go_sem, ↓reduceIte, Nat.reduceAdd, Nat.reduceMul, Nat.reduceLT, Nat.reduceBEq, Nat.reduceLeDiff, Nat.reduceEqDiff, Int.reduceToNat]
        first | exact ⟨rfl, wrap_i64 (by omega) (by omega)⟩ | exact wrap_i64 (by omega) (by omega) | trace_state
    all_goals (try (show Nat.ble _ _ = true; rfl))
    all_goals
      rename_i hr
      rw [show r.toNat = 0 from by omega, rep, List.append_nil] at g2
      unfold d17
      rw [g2]
theorem l19Make_ok (ks : List tKey.den) (l : List tAuthority.den) (m leaf : Int) (ot : List Int) (ct : Int) (ids : List Int) (q tm : Int) (ho : ot.length ≤ 1000) (hi : ids.length ≤ 1000) : FunOK Tryz.prog 48 [⟨(.list tKey), ks⟩, ⟨(.list tAuthority), l⟩, ⟨I, m⟩, ⟨I, leaf⟩, ⟨(.list I), ot⟩, ⟨I, ct⟩, ⟨(.list I), ids⟩, ⟨I, q⟩, ⟨I, tm⟩] (.rd tRenewal (mkR ks l m leaf ot ct ids q tm)) := by
  refine fun_of (tb := tb) follows Tryz.func48 (by kernel_rfl) Tryz.ntmps48 rfl rfl rfl ?_; intro cx hN hw
  simp (disch := exact eqId (by kernel_rfl)) only [go_sem, ↓reduceIte, Nat.reduceAdd, Nat.reduceMul, Nat.reduceLT, Nat.reduceBEq, Nat.reduceLeDiff, Nat.reduceEqDiff, Int.reduceToNat]
  repeat' (first | (refine And.intro ?_ ?_) | intro _ | (refine callQ_intro (spec_TreeRoot_ok _ _) ?_; try (simp (disch := exact eqId (by kernel_rfl)) only [go_sem, ↓reduceIte, Nat.reduceAdd, Nat.reduceMul, Nat.reduceLT, Nat.reduceBEq, Nat.reduceLeDiff, Nat.reduceEqDiff, Int.reduceToNat])) | (refine callH_intro (fun hcc => spec_TreeRoot_ok _ _) ?_; try (simp (disch := exact eqId (by kernel_rfl)) only [go_sem, ↓reduceIte, Nat.reduceAdd, Nat.reduceMul, Nat.reduceLT, Nat.reduceBEq, Nat.reduceLeDiff, Nat.reduceEqDiff, Int.reduceToNat])) | (refine callQ_intro (spec_TreePath_ok _ _ _) ?_; try (simp (disch := exact eqId (by kernel_rfl)) only [go_sem, ↓reduceIte, Nat.reduceAdd, Nat.reduceMul, Nat.reduceLT, Nat.reduceBEq, Nat.reduceLeDiff, Nat.reduceEqDiff, Int.reduceToNat])) | (refine callH_intro (fun hcc => spec_TreePath_ok _ _ _) ?_; try (simp (disch := exact eqId (by kernel_rfl)) only [go_sem, ↓reduceIte, Nat.reduceAdd, Nat.reduceMul, Nat.reduceLT, Nat.reduceBEq, Nat.reduceLeDiff, Nat.reduceEqDiff, Int.reduceToNat])))
  all_goals (try omega)
  all_goals (try (simp only [List.length_append, List.length_cons, List.length_nil]; omega))
  refine loop_intro (tb := tb) follows hN (D := Nat) (fun d => shp [(0, .rd (.list tKey) (ks)), (1, .rd (.list tAuthority) (l)), (6, .rd (.list I) (ids)), (7, .rd I (q : Int)), (8, .rd I (tm : Int)), (18, .bp 10000 0), (20, .bp 30192 0), (21, .rd I (d : Int))] [(10000, .box 38 [.rd I 0, .rd I 0, .rd I 0, .nils, .nils]), (30192, .box 38 [.rd I ct, .rd I m, .rd I (rootF m (ot ++ [leaf])), .rd (.list tStep) (pathF m (ot ++ [leaf]) (IntKind.i64.wrap (((ot ++ [leaf]).length : Int) - 1))), .own 90000]), (90000, .row 108 tStamp ((ids.take d).flatMap (mkT ks l q tm (rootF m (ot ++ [leaf])))))]) (fun d => d ≤ ids.length) (fun d => ids.length - d) (0) ?_ (sub_shp hN [(10000, some 10000), (30192, some 30192), (90000, none)] ?_) (fun d hd => ?_)
  · exact Nat.zero_le _
  · simp (disch := exact eqId (by kernel_rfl)) only [go_sem, ↓reduceIte, Nat.reduceAdd, Nat.reduceMul, Nat.reduceLT, Nat.reduceBEq, Nat.reduceLeDiff, Nat.reduceEqDiff, Int.reduceToNat]
    try exact ⟨rfl, rfl⟩
    try rfl
  · have hl := mkT_all ks l q tm (rootF m (ot ++ [leaf])) (ids.take d)
    rw [List.length_take] at hl
    have hst := fun (hk : d < ids.length) => take_flat (mkT ks l q tm (rootF m (ot ++ [leaf]))) hk 0
    simp (disch := exact eqId (by kernel_rfl)) only [go_sem, ↓reduceIte, Nat.reduceAdd, Nat.reduceMul, Nat.reduceLT, Nat.reduceBEq, Nat.reduceLeDiff, Nat.reduceEqDiff, Int.reduceToNat]
    repeat' (first | (refine And.intro ?_ ?_) | intro _ | (refine callQ_intro (spec_MakeStamp_ok _ _ _) ?_; try (simp (disch := exact eqId (by kernel_rfl)) only [go_sem, ↓reduceIte, Nat.reduceAdd, Nat.reduceMul, Nat.reduceLT, Nat.reduceBEq, Nat.reduceLeDiff, Nat.reduceEqDiff, Int.reduceToNat])) | (refine callH_intro (fun hcc => spec_MakeStamp_ok _ _ _) ?_; try (simp (disch := exact eqId (by kernel_rfl)) only [go_sem, ↓reduceIte, Nat.reduceAdd, Nat.reduceMul, Nat.reduceLT, Nat.reduceBEq, Nat.reduceLeDiff, Nat.reduceEqDiff, Int.reduceToNat])))
    all_goals (try omega)
    all_goals (try (simp only [List.length_append, List.length_cons, List.length_nil]; omega))
    · rename_i hk hc
      refine back_intro (d + 1) ?_ ?_ (sub_shp hN [(10000, some 10000), (30192, some 30192), (90000, some 90064)] ?_)
      · omega
      · omega
      · simp (disch := exact eqId (by kernel_rfl)) only [go_sem, ↓reduceIte, Nat.reduceAdd, Nat.reduceMul, Nat.reduceLT, Nat.reduceBEq, Nat.reduceLeDiff, Nat.reduceEqDiff, Int.reduceToNat]
        refine ⟨?_, wrap_succ' (by omega)⟩
        rw [hst (by omega)]
        exact congrArg _ (if_pos hc).symm
    · rename_i hk hc
      refine back_intro (d + 1) ?_ ?_ (sub_shp hN [(10000, some 10000), (30192, some 30192), (90000, some 90000)] ?_)
      · omega
      · omega
      · simp (disch := exact eqId (by kernel_rfl)) only [go_sem, ↓reduceIte, Nat.reduceAdd, Nat.reduceMul, Nat.reduceLT, Nat.reduceBEq, Nat.reduceLeDiff, Nat.reduceEqDiff, Int.reduceToNat]
        refine ⟨?_, wrap_succ' (by omega)⟩
        rw [hst (by omega), show mkT ks l q tm (rootF m (ot ++ [leaf])) (ids.getD d 0) = [] from if_neg (by rw [hc]; decide), List.append_nil]
    · rename_i hk
      have : d = ids.length := by omega
      subst this
      rw [List.take_length]
      rfl
theorem l19Copy_ok (r : tRenewal.den) (h1 : r.2.2.2.1.length ≤ 1048576) (h2 : r.2.2.2.2.1.length ≤ 1048576) : FunOK Tryz.prog 71 [⟨tRenewal, r⟩] (.agg [.rd I r.1, .rd I r.2.1, .rd I r.2.2.1, .own 93 tStep r.2.2.2.1, .own 108 tStamp r.2.2.2.2.1]) := by
  refine fun_of (tb := tb) follows Tryz.func71 (by kernel_rfl) Tryz.ntmps71 rfl rfl rfl ?_; intro cx hN hw
  simp (disch := exact eqId (by kernel_rfl)) only [go_sem, ↓reduceIte, Nat.reduceAdd, Nat.reduceMul, Nat.reduceLT, Nat.reduceBEq, Nat.reduceLeDiff, Nat.reduceEqDiff, Int.reduceToNat]
  repeat' (first | (refine And.intro ?_ ?_) | intro _)
  all_goals (try omega)
theorem l19Copy_fr (r : tRenewal.den) (h1 : r.2.2.2.1.length ≤ 1048576) (h2 : r.2.2.2.2.1.length ≤ 1048576) : FunOK Tryz.prog 71 [⟨tRenewal, r⟩] (.agg [.rd I r.1, .rd I r.2.1, .rd I r.2.2.1, .fresh 93 tStep r.2.2.2.1, .fresh 108 tStamp r.2.2.2.2.1]) := (l19Copy_ok r h1 h2).fr rfl
theorem l19Bend_ok (s : Cu) (r : tRenewal.den) (h1 : r.2.2.2.1.length ≤ 1048576) (h2 : r.2.2.2.2.1.length ≤ 1048576) : MutOK Tryz.prog 47 [none, none] [.obj (.box 82 [.rd (.list (.int .u8)) (s).b, .rd I (s).i, .rd I (s).h]), .rd ⟨tRenewal, r⟩] (.rd tRenewal (d19B s r).1) [.box 82 [.rd (.list (.int .u8)) ((d19B s r).2).b, .rd I ((d19B s r).2).i, .rd I ((d19B s r).2).h]] := by
  by_cases hk : (dB s 10).1 = 5
  · refine fun_ofMS (tb := tb) follows Tryz.func47 (by kernel_rfl) Tryz.ntmps47 rfl rfl (by simp [shOK]) rfl ?_; intro cx hN hw
    simp (disch := exact eqId (by kernel_rfl)) only [go_sem, ↓reduceIte, Nat.reduceAdd, Nat.reduceMul, Nat.reduceLT, Nat.reduceBEq, Nat.reduceLeDiff, Nat.reduceEqDiff, Int.reduceToNat]
    repeat' (first | (refine And.intro ?_ ?_) | intro _ | (exfalso; omega) | (refine callM_intro (l4Raw_ok _) ⟨⟨trivial, by decide⟩, rfl, rfl⟩ ?_; try (simp (disch := exact eqId (by kernel_rfl)) only [go_sem, ↓reduceIte, Nat.reduceAdd, Nat.reduceMul, Nat.reduceLT, Nat.reduceBEq, Nat.reduceLeDiff, Nat.reduceEqDiff, Int.reduceToNat])) | (refine callM_intro (dB_ok _ _) ⟨⟨trivial, by decide⟩, rfl, rfl⟩ ?_; try (simp (disch := exact eqId (by kernel_rfl)) only [go_sem, ↓reduceIte, Nat.reduceAdd, Nat.reduceMul, Nat.reduceLT, Nat.reduceBEq, Nat.reduceLeDiff, Nat.reduceEqDiff, Int.reduceToNat])) | (refine callQ_intro (l19Copy_fr _ h1 h2) ?_; try (simp (disch := exact eqId (by kernel_rfl)) only [go_sem, ↓reduceIte, Nat.reduceAdd, Nat.reduceMul, Nat.reduceLT, Nat.reduceBEq, Nat.reduceLeDiff, Nat.reduceEqDiff, Int.reduceToNat])) | (refine callH_intro (fun hcc => l19Copy_fr _ h1 h2) ?_; try (simp (disch := exact eqId (by kernel_rfl)) only [go_sem, ↓reduceIte, Nat.reduceAdd, Nat.reduceMul, Nat.reduceLT, Nat.reduceBEq, Nat.reduceLeDiff, Nat.reduceEqDiff, Int.reduceToNat])))
    all_goals (try (exfalso; omega))
    all_goals (try omega)
    all_goals (try (show Nat.ble _ _ = true; rfl))
    all_goals (try (unfold d19B; simp only [*, ↓reduceIte]; done))
    all_goals (try (unfold d19B; simp only [hk]; rfl))
    all_goals (try (unfold d19B; simp only [*]; rfl))
    all_goals trace_state
  · refine fun_ofMS (tb := tb) follows Tryz.func47 (by kernel_rfl) Tryz.ntmps47 rfl rfl (by simp [shOK]) rfl ?_; intro cx hN hw
    simp (disch := exact eqId (by kernel_rfl)) only [go_sem, ↓reduceIte, Nat.reduceAdd, Nat.reduceMul, Nat.reduceLT, Nat.reduceBEq, Nat.reduceLeDiff, Nat.reduceEqDiff, Int.reduceToNat]
    repeat' (first | (refine And.intro ?_ ?_) | intro _ | (exfalso; omega) | (refine callM_intro (dI_ok _ [-1, 0, 3] (by decide)) ⟨⟨trivial, by decide⟩, rfl, rfl⟩ ?_; try (simp (disch := exact eqId (by kernel_rfl)) only [go_sem, ↓reduceIte, Nat.reduceAdd, Nat.reduceMul, Nat.reduceLT, Nat.reduceBEq, Nat.reduceLeDiff, Nat.reduceEqDiff, Int.reduceToNat])) | (refine callM_intro (l11Bent_ok _) ⟨⟨trivial, by decide⟩, rfl, rfl⟩ ?_; try (simp (disch := exact eqId (by kernel_rfl)) only [go_sem, ↓reduceIte, Nat.reduceAdd, Nat.reduceMul, Nat.reduceLT, Nat.reduceBEq, Nat.reduceLeDiff, Nat.reduceEqDiff, Int.reduceToNat])) | (refine callM_intro (l4Raw_ok _) ⟨⟨trivial, by decide⟩, rfl, rfl⟩ ?_; try (simp (disch := exact eqId (by kernel_rfl)) only [go_sem, ↓reduceIte, Nat.reduceAdd, Nat.reduceMul, Nat.reduceLT, Nat.reduceBEq, Nat.reduceLeDiff, Nat.reduceEqDiff, Int.reduceToNat])) | (refine callM_intro (dB_ok _ _) ⟨⟨trivial, by decide⟩, rfl, rfl⟩ ?_; try (simp (disch := exact eqId (by kernel_rfl)) only [go_sem, ↓reduceIte, Nat.reduceAdd, Nat.reduceMul, Nat.reduceLT, Nat.reduceBEq, Nat.reduceLeDiff, Nat.reduceEqDiff, Int.reduceToNat])) | (refine callQ_intro (l19Copy_ok _ h1 h2) ?_; try (simp (disch := exact eqId (by kernel_rfl)) only [go_sem, ↓reduceIte, Nat.reduceAdd, Nat.reduceMul, Nat.reduceLT, Nat.reduceBEq, Nat.reduceLeDiff, Nat.reduceEqDiff, Int.reduceToNat])) | (refine callH_intro (fun hcc => l19Copy_ok _ h1 h2) ?_; try (simp (disch := exact eqId (by kernel_rfl)) only [go_sem, ↓reduceIte, Nat.reduceAdd, Nat.reduceMul, Nat.reduceLT, Nat.reduceBEq, Nat.reduceLeDiff, Nat.reduceEqDiff, Int.reduceToNat])))
    all_goals (try (exfalso; omega))
    all_goals (try omega)
    all_goals (try (show Nat.ble _ _ = true; rfl))
    all_goals (try (unfold d19B; simp only [*, ↓reduceIte]; done))
    all_goals (try (unfold d19B; simp only [hk]; rfl))
    all_goals (try (unfold d19B; simp only [*]; rfl))
    all_goals trace_state
theorem l19Bend_ag (s : Cu) (r : tRenewal.den) (h1 : r.2.2.2.1.length ≤ 1048576) (h2 : r.2.2.2.2.1.length ≤ 1048576) : MutOK Tryz.prog 47 [none, some 5] [.obj (.box 82 [.rd (.list (.int .u8)) (s).b, .rd I (s).i, .rd I (s).h]), .rd ⟨I, r.1⟩, .rd ⟨I, r.2.1⟩, .rd ⟨I, r.2.2.1⟩, .rd ⟨(.list tStep), r.2.2.2.1⟩, .rd ⟨(.list tStamp), r.2.2.2.2.1⟩] (.rd tRenewal (d19B s r).1) [.box 82 [.rd (.list (.int .u8)) ((d19B s r).2).b, .rd I ((d19B s r).2).i, .rd I ((d19B s r).2).h]] := by
  by_cases hk : (dB s 10).1 = 5
  · refine fun_ofMS (tb := tb) follows Tryz.func47 (by kernel_rfl) Tryz.ntmps47 rfl rfl (by simp [shOK]) rfl ?_; intro cx hN hw
    simp (disch := exact eqId (by kernel_rfl)) only [go_sem, ↓reduceIte, Nat.reduceAdd, Nat.reduceMul, Nat.reduceLT, Nat.reduceBEq, Nat.reduceLeDiff, Nat.reduceEqDiff, Int.reduceToNat]
    repeat' (first | (refine And.intro ?_ ?_) | intro _ | (exfalso; omega) | (refine callM_intro (l4Raw_ok _) ⟨⟨trivial, by decide⟩, rfl, rfl⟩ ?_; try (simp (disch := exact eqId (by kernel_rfl)) only [go_sem, ↓reduceIte, Nat.reduceAdd, Nat.reduceMul, Nat.reduceLT, Nat.reduceBEq, Nat.reduceLeDiff, Nat.reduceEqDiff, Int.reduceToNat])) | (refine callM_intro (dB_ok _ _) ⟨⟨trivial, by decide⟩, rfl, rfl⟩ ?_; try (simp (disch := exact eqId (by kernel_rfl)) only [go_sem, ↓reduceIte, Nat.reduceAdd, Nat.reduceMul, Nat.reduceLT, Nat.reduceBEq, Nat.reduceLeDiff, Nat.reduceEqDiff, Int.reduceToNat])) | (refine callQ_intro (l19Copy_fr _ h1 h2) ?_; try (simp (disch := exact eqId (by kernel_rfl)) only [go_sem, ↓reduceIte, Nat.reduceAdd, Nat.reduceMul, Nat.reduceLT, Nat.reduceBEq, Nat.reduceLeDiff, Nat.reduceEqDiff, Int.reduceToNat])) | (refine callH_intro (fun hcc => l19Copy_fr _ h1 h2) ?_; try (simp (disch := exact eqId (by kernel_rfl)) only [go_sem, ↓reduceIte, Nat.reduceAdd, Nat.reduceMul, Nat.reduceLT, Nat.reduceBEq, Nat.reduceLeDiff, Nat.reduceEqDiff, Int.reduceToNat])))
    all_goals (try (exfalso; omega))
    all_goals (try omega)
    all_goals (try (show Nat.ble _ _ = true; rfl))
    all_goals (try (unfold d19B; simp only [*, ↓reduceIte]; done))
    all_goals (try (unfold d19B; simp only [hk]; rfl))
    all_goals (try (unfold d19B; simp only [*]; rfl))
    all_goals trace_state
  · refine fun_ofMS (tb := tb) follows Tryz.func47 (by kernel_rfl) Tryz.ntmps47 rfl rfl (by simp [shOK]) rfl ?_; intro cx hN hw
    simp (disch := exact eqId (by kernel_rfl)) only [go_sem, ↓reduceIte, Nat.reduceAdd, Nat.reduceMul, Nat.reduceLT, Nat.reduceBEq, Nat.reduceLeDiff, Nat.reduceEqDiff, Int.reduceToNat]
    repeat' (first | (refine And.intro ?_ ?_) | intro _ | (exfalso; omega) | (refine callM_intro (dI_ok _ [-1, 0, 3] (by decide)) ⟨⟨trivial, by decide⟩, rfl, rfl⟩ ?_; try (simp (disch := exact eqId (by kernel_rfl)) only [go_sem, ↓reduceIte, Nat.reduceAdd, Nat.reduceMul, Nat.reduceLT, Nat.reduceBEq, Nat.reduceLeDiff, Nat.reduceEqDiff, Int.reduceToNat])) | (refine callM_intro (l11Bent_ok _) ⟨⟨trivial, by decide⟩, rfl, rfl⟩ ?_; try (simp (disch := exact eqId (by kernel_rfl)) only [go_sem, ↓reduceIte, Nat.reduceAdd, Nat.reduceMul, Nat.reduceLT, Nat.reduceBEq, Nat.reduceLeDiff, Nat.reduceEqDiff, Int.reduceToNat])) | (refine callM_intro (l4Raw_ok _) ⟨⟨trivial, by decide⟩, rfl, rfl⟩ ?_; try (simp (disch := exact eqId (by kernel_rfl)) only [go_sem, ↓reduceIte, Nat.reduceAdd, Nat.reduceMul, Nat.reduceLT, Nat.reduceBEq, Nat.reduceLeDiff, Nat.reduceEqDiff, Int.reduceToNat])) | (refine callM_intro (dB_ok _ _) ⟨⟨trivial, by decide⟩, rfl, rfl⟩ ?_; try (simp (disch := exact eqId (by kernel_rfl)) only [go_sem, ↓reduceIte, Nat.reduceAdd, Nat.reduceMul, Nat.reduceLT, Nat.reduceBEq, Nat.reduceLeDiff, Nat.reduceEqDiff, Int.reduceToNat])) | (refine callQ_intro (l19Copy_ok _ h1 h2) ?_; try (simp (disch := exact eqId (by kernel_rfl)) only [go_sem, ↓reduceIte, Nat.reduceAdd, Nat.reduceMul, Nat.reduceLT, Nat.reduceBEq, Nat.reduceLeDiff, Nat.reduceEqDiff, Int.reduceToNat])) | (refine callH_intro (fun hcc => l19Copy_ok _ h1 h2) ?_; try (simp (disch := exact eqId (by kernel_rfl)) only [go_sem, ↓reduceIte, Nat.reduceAdd, Nat.reduceMul, Nat.reduceLT, Nat.reduceBEq, Nat.reduceLeDiff, Nat.reduceEqDiff, Int.reduceToNat])))
    all_goals (try (exfalso; omega))
    all_goals (try omega)
    all_goals (try (show Nat.ble _ _ = true; rfl))
    all_goals (try (unfold d19B; simp only [*, ↓reduceIte]; done))
    all_goals (try (unfold d19B; simp only [hk]; rfl))
    all_goals (try (unfold d19B; simp only [*]; rfl))
    all_goals trace_state
theorem l19Draw_ok (s : Cu) (leaf : Int) (ct : Int) (tm : Int) : MutOK Tryz.prog 24 [none, none, none, none] [.obj (.box 82 [.rd (.list (.int .u8)) (s).b, .rd I (s).i, .rd I (s).h]), .rd ⟨I, leaf⟩, .rd ⟨I, ct⟩, .rd ⟨I, tm⟩] (.rd tRenewal (d19 s leaf ct tm).1) [.box 82 [.rd (.list (.int .u8)) ((d19 s leaf ct tm).2).b, .rd I ((d19 s leaf ct tm).2).i, .rd I ((d19 s leaf ct tm).2).h]] := by
  have h1 := dB_in s (n := 4) (by decide)
  have h2 : IntKind.i64.wrap (1 + (dB s 4).1) = 1 + (dB s 4).1 := wrap_i64 (by omega) (by omega)
  have h3 := d17_len (dB (dB s 4).2 4).2 (n := 4) (by decide)
  refine fun_ofM (tb := tb) follows Tryz.func24 (by kernel_rfl) Tryz.ntmps24 rfl rfl (by simp [shOK]) rfl ?_; intro cx hN hw
  simp (disch := exact eqId (by kernel_rfl)) only [go_sem, ↓reduceIte, Nat.reduceAdd, Nat.reduceMul, Nat.reduceLT, Nat.reduceBEq, Nat.reduceLeDiff, Nat.reduceEqDiff, Int.reduceToNat]
  repeat' (first | (refine And.intro ?_ ?_) | intro _ | (refine callM_intro (dB_ok _ _) ⟨⟨trivial, by decide⟩, rfl, rfl⟩ ?_; try (simp (disch := exact eqId (by kernel_rfl)) only [go_sem, ↓reduceIte, Nat.reduceAdd, Nat.reduceMul, Nat.reduceLT, Nat.reduceBEq, Nat.reduceLeDiff, Nat.reduceEqDiff, Int.reduceToNat])) | (refine callM_intro (l17Leaves_ok _ 4 (by decide)) ⟨⟨trivial, by decide⟩, rfl, rfl⟩ ?_; try (simp (disch := exact eqId (by kernel_rfl)) only [go_sem, ↓reduceIte, Nat.reduceAdd, Nat.reduceMul, Nat.reduceLT, Nat.reduceBEq, Nat.reduceLeDiff, Nat.reduceEqDiff, Int.reduceToNat])) | (refine callQ_intro (l8Keys_ok) ?_; try (simp (disch := exact eqId (by kernel_rfl)) only [go_sem, ↓reduceIte, Nat.reduceAdd, Nat.reduceMul, Nat.reduceLT, Nat.reduceBEq, Nat.reduceLeDiff, Nat.reduceEqDiff, Int.reduceToNat])) | (refine callH_intro (fun hcc => l8Keys_ok) ?_; try (simp (disch := exact eqId (by kernel_rfl)) only [go_sem, ↓reduceIte, Nat.reduceAdd, Nat.reduceMul, Nat.reduceLT, Nat.reduceBEq, Nat.reduceLeDiff, Nat.reduceEqDiff, Int.reduceToNat])) | (refine callQ_intro (l11Authorities_ok) ?_; try (simp (disch := exact eqId (by kernel_rfl)) only [go_sem, ↓reduceIte, Nat.reduceAdd, Nat.reduceMul, Nat.reduceLT, Nat.reduceBEq, Nat.reduceLeDiff, Nat.reduceEqDiff, Int.reduceToNat])) | (refine callH_intro (fun hcc => l11Authorities_ok) ?_; try (simp (disch := exact eqId (by kernel_rfl)) only [go_sem, ↓reduceIte, Nat.reduceAdd, Nat.reduceMul, Nat.reduceLT, Nat.reduceBEq, Nat.reduceLeDiff, Nat.reduceEqDiff, Int.reduceToNat])) | (refine callQ_intro (l19Make_ok _ _ _ _ _ _ _ _ _ (by omega) (by simp only [List.length_take, List.length_cons, List.length_nil]; omega)) ?_; try (simp (disch := exact eqId (by kernel_rfl)) only [go_sem, ↓reduceIte, Nat.reduceAdd, Nat.reduceMul, Nat.reduceLT, Nat.reduceBEq, Nat.reduceLeDiff, Nat.reduceEqDiff, Int.reduceToNat])) | (refine callH_intro (fun hcc => l19Make_ok _ _ _ _ _ _ _ _ _ (by omega) (by simp only [List.length_take, List.length_cons, List.length_nil]; omega)) ?_; try (simp (disch := exact eqId (by kernel_rfl)) only [go_sem, ↓reduceIte, Nat.reduceAdd, Nat.reduceMul, Nat.reduceLT, Nat.reduceBEq, Nat.reduceLeDiff, Nat.reduceEqDiff, Int.reduceToNat])))
  all_goals (try omega)
  all_goals (try (show Nat.ble _ _ = true; rfl))
  all_goals (try (unfold d19; simp only [*, ↓reduceIte, Bool.false_eq_true]; done))
  all_goals (try (unfold d19; simp only [*, ↓reduceIte, Bool.false_eq_true]; first | rfl | exact ⟨rfl, rfl⟩ | exact ⟨rfl, rfl, rfl⟩))
end Go.Proofs.YtblnngjdoifgkaaGreat
/- What the functions of strands and evidence answer, on both sides. It proves nothing of a statement by itself. -/
set_option linter.unusedSimpArgs false
set_option linter.unusedVariables false
set_option maxRecDepth 100000
namespace Go.Proofs.YtblnngjdoifgkaaGreat
open Go.AL
theorem impl_equalPieceLists_ok (a b : List (tPiece : Ty).den) : FunOK Tryz.prog 30 [⟨(.list tPiece), a⟩, ⟨(.list tPiece), b⟩] (.rd .bool (eqC a b)) := by
  refine fun_of (tb := tb) follows Tryz.func30 (by kernel_rfl) Tryz.ntmps30 rfl rfl rfl ?_; intro cx hN hw
  simp (disch := exact eqId (by kernel_rfl)) only [go_sem, ↓reduceIte, Nat.reduceAdd, Nat.reduceMul, Nat.reduceLT, Nat.reduceBEq, Nat.reduceLeDiff, Nat.reduceEqDiff, Int.reduceToNat]
  repeat' (first | (refine And.intro ?_ ?_) | intro _)
  all_goals (try omega)
  · refine Eq.symm (eqC_f.mpr ?_); rintro rfl; simp_all
  · have hl : a.length = b.length := by omega
    refine loop_intro (tb := tb) follows hN (D := Nat) (fun d => shp [(0, .rd (.list tPiece) (a)), (1, .rd (.list tPiece) (b)), (12, .rd I (((a).length : Int) : Int)), (13, .rd I (d : Int))] []) (fun d => d ≤ a.length ∧ a.take d = b.take d) (fun d => a.length - d) (0) ?_ (sub_shp hN [] ?_) (fun d hd => ?_)
    · exact ⟨Nat.zero_le _, rfl⟩
    · simp (disch := exact eqId (by kernel_rfl)) only [go_sem, ↓reduceIte, Nat.reduceAdd, Nat.reduceMul, Nat.reduceLT, Nat.reduceBEq, Nat.reduceLeDiff, Nat.reduceEqDiff, Int.reduceToNat]
      rfl
    · obtain ⟨h1, h2⟩ := hd
      simp (disch := exact eqId (by kernel_rfl)) only [go_sem, ↓reduceIte, Nat.reduceAdd, Nat.reduceMul, Nat.reduceLT, Nat.reduceBEq, Nat.reduceLeDiff, Nat.reduceEqDiff, Int.reduceToNat]
      repeat' (first | (refine And.intro ?_ ?_) | intro _ | (refine callQ_intro (impl_EqualPieces_ok _ _) ?_; try (simp (disch := exact eqId (by kernel_rfl)) only [go_sem, ↓reduceIte, Nat.reduceAdd, Nat.reduceMul, Nat.reduceLT, Nat.reduceBEq, Nat.reduceLeDiff, Nat.reduceEqDiff, Int.reduceToNat])) | (refine callH_intro (fun hcc => impl_EqualPieces_ok _ _) ?_; try (simp (disch := exact eqId (by kernel_rfl)) only [go_sem, ↓reduceIte, Nat.reduceAdd, Nat.reduceMul, Nat.reduceLT, Nat.reduceBEq, Nat.reduceLeDiff, Nat.reduceEqDiff, Int.reduceToNat])))
      all_goals (try omega)
      · rename_i hk hne
        refine Eq.symm (eqC_f.mpr ?_)
        rintro rfl
        simp_all [eqC_f]
      · rename_i hk he
        have hk : d < a.length := by omega
        refine back_intro (d + 1) ?_ ?_ (sub_shp hN [] ?_)
        · refine ⟨hk, ?_⟩
          rw [take_getD hk ((0, [], 0, ()) : (tPiece : Ty).den), take_getD (show d < b.length by omega) ((0, [], 0, ()) : (tPiece : Ty).den), h2]
          try simp only [eqC_t] at he
          first | rw [he] | (simp_all; done)
        · omega
        · simp (disch := exact eqId (by kernel_rfl)) only [go_sem, ↓reduceIte, Nat.reduceAdd, Nat.reduceMul, Nat.reduceLT, Nat.reduceBEq, Nat.reduceLeDiff, Nat.reduceEqDiff, Int.reduceToNat]
          exact wrap_succ hk hw.1.1
      · have hk : d = a.length := by omega
        refine Eq.symm (eqC_t.mpr ?_)
        rw [hk, List.take_length, hl, List.take_length] at h2
        exact h2
theorem strEq {a b : tStrand.den} (h0 : a.1 = b.1) (h1 : a.2.1 = b.2.1) : a = b := by
  obtain ⟨a0, a1, ⟨⟩⟩ := a
  obtain ⟨b0, b1, ⟨⟩⟩ := b
  simp only at h0 h1
  subst h0 h1
  rfl
theorem eviEq {a b : tEvidence.den} (h0 : a.1 = b.1) (h1 : a.2.1 = b.2.1) : a = b := by
  obtain ⟨a0, a1, ⟨⟩⟩ := a
  obtain ⟨b0, b1, ⟨⟩⟩ := b
  simp only at h0 h1
  subst h0 h1
  rfl
theorem impl_EqualStrands_ok (a b : tStrand.den) : FunOK Tryz.prog 11 [⟨tStrand, a⟩, ⟨tStrand, b⟩] (.rd .bool (eqC a b)) := by
  refine fun_of (tb := tb) follows Tryz.func11 (by kernel_rfl) Tryz.ntmps11 rfl rfl rfl ?_; intro cx hN hw
  simp (disch := exact eqId (by kernel_rfl)) only [go_sem, ↓reduceIte, Nat.reduceAdd, Nat.reduceMul, Nat.reduceLT, Nat.reduceBEq, Nat.reduceLeDiff, Nat.reduceEqDiff, Int.reduceToNat]
  repeat' (first | (refine And.intro ?_ ?_) | intro _ | (refine callQ_intro (impl_equalPieceLists_ok _ _) ?_; try (simp (disch := exact eqId (by kernel_rfl)) only [go_sem, ↓reduceIte, Nat.reduceAdd, Nat.reduceMul, Nat.reduceLT, Nat.reduceBEq, Nat.reduceLeDiff, Nat.reduceEqDiff, Int.reduceToNat])) | (refine callH_intro (fun hcc => impl_equalPieceLists_ok _ _) ?_; try (simp (disch := exact eqId (by kernel_rfl)) only [go_sem, ↓reduceIte, Nat.reduceAdd, Nat.reduceMul, Nat.reduceLT, Nat.reduceBEq, Nat.reduceLeDiff, Nat.reduceEqDiff, Int.reduceToNat])))
  all_goals (try omega)
  · rename_i hc
    refine Eq.symm (eqC_f.mpr ?_)
    rintro rfl
    simp_all
  · rename_i hc
    obtain ⟨hh0, hl⟩ := hc
    have hl1 : List.length a.2.1 = List.length b.2.1 := by omega
    refine loop_intro (tb := tb) follows hN (D := Nat) (fun d => shp [(2, .bp 10000 0), (3, .bp 10016 0), (23, .rd I (((a.2.1).length : Int) : Int)), (24, .rd I (d : Int))] [(10000, .box 27 [.rd (.list tPiece) (a.1), .rd (.list tRenewal) (a.2.1)]), (10016, .box 27 [.rd (.list tPiece) (b.1), .rd (.list tRenewal) (b.2.1)])]) (fun d => d ≤ List.length a.2.1 ∧ List.take d a.2.1 = List.take d b.2.1) (fun d => List.length a.2.1 - d) (0) ?_ (sub_shp hN [(10000, some 10000), (10016, some 10016)] ?_) (fun d hd => ?_)
    · exact ⟨Nat.zero_le _, rfl⟩
    · simp (disch := exact eqId (by kernel_rfl)) only [go_sem, ↓reduceIte, Nat.reduceAdd, Nat.reduceMul, Nat.reduceLT, Nat.reduceBEq, Nat.reduceLeDiff, Nat.reduceEqDiff, Int.reduceToNat]
      try rfl
    · obtain ⟨h1, h2⟩ := hd
      simp (disch := exact eqId (by kernel_rfl)) only [go_sem, ↓reduceIte, Nat.reduceAdd, Nat.reduceMul, Nat.reduceLT, Nat.reduceBEq, Nat.reduceLeDiff, Nat.reduceEqDiff, Int.reduceToNat]
      repeat' (first | (refine And.intro ?_ ?_) | intro _ | (refine callQ_intro (impl_EqualRenewals_ok _ _) ?_; try (simp (disch := exact eqId (by kernel_rfl)) only [go_sem, ↓reduceIte, Nat.reduceAdd, Nat.reduceMul, Nat.reduceLT, Nat.reduceBEq, Nat.reduceLeDiff, Nat.reduceEqDiff, Int.reduceToNat])) | (refine callH_intro (fun hcc => impl_EqualRenewals_ok _ _) ?_; try (simp (disch := exact eqId (by kernel_rfl)) only [go_sem, ↓reduceIte, Nat.reduceAdd, Nat.reduceMul, Nat.reduceLT, Nat.reduceBEq, Nat.reduceLeDiff, Nat.reduceEqDiff, Int.reduceToNat])))
      all_goals (try omega)
      · rename_i hk hne
        refine Eq.symm (eqC_f.mpr ?_)
        rintro rfl
        simp_all
      · rename_i hk he
        have hk : d < List.length a.2.1 := by omega
        have hk2 : d < List.length b.2.1 := by omega
        refine back_intro (d + 1) ?_ ?_ (sub_shp hN [(10000, some 10000), (10016, some 10016)] ?_)
        · refine ⟨hk, ?_⟩
          rw [take_getD hk (0, 0, 0, [], [], ()), take_getD hk2 (0, 0, 0, [], [], ()), h2]
          first | rw [he] | (simp_all; done)
        · omega
        · simp (disch := exact eqId (by kernel_rfl)) only [go_sem, ↓reduceIte, Nat.reduceAdd, Nat.reduceMul, Nat.reduceLT, Nat.reduceBEq, Nat.reduceLeDiff, Nat.reduceEqDiff, Int.reduceToNat]
          exact wrap_succ hk hw.1.2.1.1
      · rename_i hk
        have hk : d = List.length a.2.1 := by omega
        have hh1 : a.2.1 = b.2.1 := by
          rw [hk, List.take_length, hl1, List.take_length] at h2
          exact h2
        exact Eq.symm (eqC_t.mpr (strEq hh0 hh1))
noncomputable def fpiF (p : tPiece.den) : List tPiece.den → Int → Int
  | [], _ => -1
  | x :: xs, i => bif eqC x p then i else fpiF p xs (i + 1)
theorem impl_FindPiece_ok (a : tStrand.den) (p : tPiece.den) : FunOK Tryz.prog 10 [⟨tStrand, a⟩, ⟨tPiece, p⟩] (.rd I (fpiF p a.1 0)) := by
  refine fun_of (tb := tb) follows Tryz.func10 (by kernel_rfl) Tryz.ntmps10 rfl rfl rfl ?_; intro cx hN hw
  simp (disch := exact eqId (by kernel_rfl)) only [go_sem, ↓reduceIte, Nat.reduceAdd, Nat.reduceMul, Nat.reduceLT, Nat.reduceBEq, Nat.reduceLeDiff, Nat.reduceEqDiff, Int.reduceToNat]
  refine loop_intro (tb := tb) follows hN (D := Nat) (fun d => shp [(3, .bp 10016 0), (8, .rd (.list tPiece) (a.1)), (9, .rd I (((a.1).length : Int) : Int)), (10, .rd I (d : Int))] [(10016, .box 30 [.rd I (p.1), .rd (.list I) (p.2.1), .rd I (p.2.2.1)])]) (fun d => d ≤ List.length a.1 ∧ fpiF p a.1 0 = fpiF p (List.drop d a.1) d) (fun d => List.length a.1 - d) (0) ?_ (sub_shp hN [(10016, some 10016)] ?_) (fun d hd => ?_)
  · exact ⟨Nat.zero_le _, rfl⟩
  · simp (disch := exact eqId (by kernel_rfl)) only [go_sem, ↓reduceIte, Nat.reduceAdd, Nat.reduceMul, Nat.reduceLT, Nat.reduceBEq, Nat.reduceLeDiff, Nat.reduceEqDiff, Int.reduceToNat]
    try rfl
  · obtain ⟨h1, h2⟩ := hd
    simp (disch := exact eqId (by kernel_rfl)) only [go_sem, ↓reduceIte, Nat.reduceAdd, Nat.reduceMul, Nat.reduceLT, Nat.reduceBEq, Nat.reduceLeDiff, Nat.reduceEqDiff, Int.reduceToNat]
    repeat' (first | (refine And.intro ?_ ?_) | intro _ | (refine callQ_intro (impl_EqualPieces_ok _ _) ?_; try (simp (disch := exact eqId (by kernel_rfl)) only [go_sem, ↓reduceIte, Nat.reduceAdd, Nat.reduceMul, Nat.reduceLT, Nat.reduceBEq, Nat.reduceLeDiff, Nat.reduceEqDiff, Int.reduceToNat])) | (refine callH_intro (fun hcc => impl_EqualPieces_ok _ _) ?_; try (simp (disch := exact eqId (by kernel_rfl)) only [go_sem, ↓reduceIte, Nat.reduceAdd, Nat.reduceMul, Nat.reduceLT, Nat.reduceBEq, Nat.reduceLeDiff, Nat.reduceEqDiff, Int.reduceToNat])))
    all_goals (try omega)
    · rename_i hk he
      rw [h2, drop_getD (show d < List.length a.1 by omega) (0, [], 0, ()), fpiF, eqC_t.mpr he]
      rfl
    · rename_i hk he
      have hk : d < List.length a.1 := by omega
      refine back_intro (d + 1) ?_ ?_ (sub_shp hN [(10016, some 10016)] ?_)
      · refine ⟨hk, ?_⟩
        rw [h2, drop_getD hk (0, [], 0, ()), fpiF, eqC_f.mpr he]
        rfl
      · omega
      · simp (disch := exact eqId (by kernel_rfl)) only [go_sem, ↓reduceIte, Nat.reduceAdd, Nat.reduceMul, Nat.reduceLT, Nat.reduceBEq, Nat.reduceLeDiff, Nat.reduceEqDiff, Int.reduceToNat]
        exact wrap_succ hk hw.1.1.1
    · rename_i hk
      rw [h2, drop_end (show List.length a.1 ≤ d by omega)]
      rfl
theorem spec_FindPiece_ok (a : tStrand.den) (p : tPiece.den) : FunOK Tryz.prog 38 [⟨tStrand, a⟩, ⟨tPiece, p⟩] (.rd I (fpiF p a.1 0)) := by
  refine fun_of (tb := tb) follows Tryz.func38 (by kernel_rfl) Tryz.ntmps38 rfl rfl rfl ?_; intro cx hN hw
  simp (disch := exact eqId (by kernel_rfl)) only [go_sem, ↓reduceIte, Nat.reduceAdd, Nat.reduceMul, Nat.reduceLT, Nat.reduceBEq, Nat.reduceLeDiff, Nat.reduceEqDiff, Int.reduceToNat]
  refine loop_intro (tb := tb) follows hN (D := Nat) (fun d => shp [(2, .bp 10000 0), (3, .bp 10016 0), (5, .rd I (d : Int))] [(10000, .box 27 [.rd (.list tPiece) (a.1), .rd (.list tRenewal) (a.2.1)]), (10016, .box 30 [.rd I (p.1), .rd (.list I) (p.2.1), .rd I (p.2.2.1)])]) (fun d => d ≤ List.length a.1 ∧ fpiF p a.1 0 = fpiF p (List.drop d a.1) d) (fun d => List.length a.1 - d) (0) ?_ (sub_shp hN [(10000, some 10000), (10016, some 10016)] ?_) (fun d hd => ?_)
  · exact ⟨Nat.zero_le _, rfl⟩
  · simp (disch := exact eqId (by kernel_rfl)) only [go_sem, ↓reduceIte, Nat.reduceAdd, Nat.reduceMul, Nat.reduceLT, Nat.reduceBEq, Nat.reduceLeDiff, Nat.reduceEqDiff, Int.reduceToNat]
    try rfl
  · obtain ⟨h1, h2⟩ := hd
    simp (disch := exact eqId (by kernel_rfl)) only [go_sem, ↓reduceIte, Nat.reduceAdd, Nat.reduceMul, Nat.reduceLT, Nat.reduceBEq, Nat.reduceLeDiff, Nat.reduceEqDiff, Int.reduceToNat]
    repeat' (first | (refine And.intro ?_ ?_) | intro _ | (refine callQ_intro (spec_EqualPieces_ok _ _) ?_; try (simp (disch := exact eqId (by kernel_rfl)) only [go_sem, ↓reduceIte, Nat.reduceAdd, Nat.reduceMul, Nat.reduceLT, Nat.reduceBEq, Nat.reduceLeDiff, Nat.reduceEqDiff, Int.reduceToNat])) | (refine callH_intro (fun hcc => spec_EqualPieces_ok _ _) ?_; try (simp (disch := exact eqId (by kernel_rfl)) only [go_sem, ↓reduceIte, Nat.reduceAdd, Nat.reduceMul, Nat.reduceLT, Nat.reduceBEq, Nat.reduceLeDiff, Nat.reduceEqDiff, Int.reduceToNat])))
    all_goals (try omega)
    · rename_i hk he
      rw [h2, drop_getD (show d < List.length a.1 by omega) (0, [], 0, ()), fpiF, eqC_t.mpr he]
      rfl
    · rename_i hk he
      have hk : d < List.length a.1 := by omega
      refine back_intro (d + 1) ?_ ?_ (sub_shp hN [(10000, some 10000), (10016, some 10016)] ?_)
      · refine ⟨hk, ?_⟩
        rw [h2, drop_getD hk (0, [], 0, ()), fpiF, eqC_f.mpr he]
        rfl
      · omega
      · simp (disch := exact eqId (by kernel_rfl)) only [go_sem, ↓reduceIte, Nat.reduceAdd, Nat.reduceMul, Nat.reduceLT, Nat.reduceBEq, Nat.reduceLeDiff, Nat.reduceEqDiff, Int.reduceToNat]
        exact wrap_succ hk hw.1.1.1
    · rename_i hk
      rw [h2, drop_end (show List.length a.1 ≤ d by omega)]
      rfl
end Go.Proofs.YtblnngjdoifgkaaGreat
/- What the functions of well formed strands answer, on both sides. It proves nothing of a statement by itself. -/
set_option linter.unusedSimpArgs false
set_option linter.unusedVariables false
set_option maxRecDepth 100000
namespace Go.Proofs.YtblnngjdoifgkaaGreat
open Go.AL
noncomputable def hpF (p : tPiece.den) : List tPiece.den → Bool
  | [] => false
  | x :: xs => eqC x p || hpF p xs
theorem fpi_ge (p : tPiece.den) : ∀ (l : List tPiece.den) (i : Int), fpiF p l i = -1 ∨ i ≤ fpiF p l i
  | [], i => .inl rfl
  | x :: xs, i => by
    unfold fpiF
    cases eqC x p
    · simp only [cond_false]
      rcases fpi_ge p xs (i + 1) with h | h
      · exact .inl h
      · exact .inr (by omega)
    · exact .inr (Int.le_refl i)
theorem hp_fpi (p : tPiece.den) (df : tPiece.den) : ∀ (l : List tPiece.den) (k : Nat) (i : Int), k < l.length → l.getD k df = p → (hpF p (l.take k) = true ↔ fpiF p l i < i + k) ∧ i ≤ fpiF p l i
  | [], k, i, hk, _ => absurd hk (Nat.not_lt_zero k)
  | x :: xs, 0, i, hk, he => by
    have hx : eqC x p = true := eqC_t.mpr he
    simp only [List.take_zero, hpF, fpiF, hx, cond_true]
    constructor
    · constructor
      · intro h; cases h
      · intro h; omega
    · exact Int.le_refl i
  | x :: xs, k + 1, i, hk, he => by
    simp only [List.take_succ_cons, hpF, fpiF]
    cases hx : eqC x p
    · simp only [Bool.false_or, cond_false]
      obtain ⟨h1, h2⟩ := hp_fpi p df xs k (i + 1) (by simpa using hk) (by simpa using he)
      refine ⟨h1.trans ?_, by omega⟩
      constructor <;> intro h <;> omega
    · simp only [Bool.true_or, cond_true, true_iff]
      exact ⟨by omega, Int.le_refl i⟩
def leG : Option Int → Int → Bool
  | none, _ => true
  | some m, y => decide (m ≤ y)
def chG (n : Int) : Option Int → List tRenewal.den → Bool
  | _, [] => true
  | pr, x :: xs => inB x.1 1 n && (leG pr x.1 && chG n (some x.1) xs)
theorem chG_cons (n : Int) (pr : Option Int) (x : tRenewal.den) (xs : List tRenewal.den) : chG n pr (x :: xs) = (inB x.1 1 n && (leG pr x.1 && chG n (some x.1) xs)) := by cases pr <;> rfl
theorem chG_nil (n : Int) (pr : Option Int) : chG n pr [] = true := by cases pr <;> rfl
noncomputable def ndB (l : List tPiece.den) : Bool := (List.range l.length).all (fun i => !hpF (l.getD i (0, [], 0, ())) (l.take i))
noncomputable def strB (s : tStrand.den) : Bool := inB (List.length s.1 : Int) 1 12 && decide (List.length s.2.1 ≤ 8) && ndB s.1 && chG (List.length s.1 : Int) none s.2.1
theorem impl_hasPiece_ok (l : List tPiece.den) (p : tPiece.den) : FunOK Tryz.prog 28 [⟨(.list tPiece), l⟩, ⟨tPiece, p⟩] (.rd .bool (hpF p l)) := by
  refine fun_of (tb := tb) follows Tryz.func28 (by kernel_rfl) Tryz.ntmps28 rfl rfl rfl ?_; intro cx hN hw
  simp (disch := exact eqId (by kernel_rfl)) only [go_sem, ↓reduceIte, Nat.reduceAdd, Nat.reduceMul, Nat.reduceLT, Nat.reduceBEq, Nat.reduceLeDiff, Nat.reduceEqDiff, Int.reduceToNat]
  refine loop_intro (tb := tb) follows hN (D := Nat) (fun d => shp [(3, .bp 10000 0), (7, .rd (.list tPiece) (l)), (8, .rd I (((l).length : Int) : Int)), (9, .rd I (d : Int))] [(10000, .box 30 [.rd I (p.1), .rd (.list I) (p.2.1), .rd I (p.2.2.1)])]) (fun d => d ≤ List.length l ∧ hpF p l = hpF p (List.drop d l)) (fun d => List.length l - d) (0) ?_ (sub_shp hN [(10000, some 10000)] ?_) (fun d hd => ?_)
  · exact ⟨Nat.zero_le _, rfl⟩
  · simp (disch := exact eqId (by kernel_rfl)) only [go_sem, ↓reduceIte, Nat.reduceAdd, Nat.reduceMul, Nat.reduceLT, Nat.reduceBEq, Nat.reduceLeDiff, Nat.reduceEqDiff, Int.reduceToNat]
    try rfl
  · obtain ⟨h1, h2⟩ := hd
    simp (disch := exact eqId (by kernel_rfl)) only [go_sem, ↓reduceIte, Nat.reduceAdd, Nat.reduceMul, Nat.reduceLT, Nat.reduceBEq, Nat.reduceLeDiff, Nat.reduceEqDiff, Int.reduceToNat]
    repeat' (first | (refine And.intro ?_ ?_) | intro _ | (refine callQ_intro (impl_EqualPieces_ok _ _) ?_; try (simp (disch := exact eqId (by kernel_rfl)) only [go_sem, ↓reduceIte, Nat.reduceAdd, Nat.reduceMul, Nat.reduceLT, Nat.reduceBEq, Nat.reduceLeDiff, Nat.reduceEqDiff, Int.reduceToNat])) | (refine callH_intro (fun hcc => impl_EqualPieces_ok _ _) ?_; try (simp (disch := exact eqId (by kernel_rfl)) only [go_sem, ↓reduceIte, Nat.reduceAdd, Nat.reduceMul, Nat.reduceLT, Nat.reduceBEq, Nat.reduceLeDiff, Nat.reduceEqDiff, Int.reduceToNat])))
    all_goals (try omega)
    · rename_i hk he
      rw [h2, drop_getD (show d < List.length l by omega) (0, [], 0, ()), hpF, eqC_t.mpr he]
      rfl
    · rename_i hk he
      have hk : d < List.length l := by omega
      refine back_intro (d + 1) ?_ ?_ (sub_shp hN [(10000, some 10000)] ?_)
      · refine ⟨hk, ?_⟩
        rw [h2, drop_getD hk (0, [], 0, ()), hpF, eqC_f.mpr he]
        rfl
      · omega
      · simp (disch := exact eqId (by kernel_rfl)) only [go_sem, ↓reduceIte, Nat.reduceAdd, Nat.reduceMul, Nat.reduceLT, Nat.reduceBEq, Nat.reduceLeDiff, Nat.reduceEqDiff, Int.reduceToNat]
        exact wrap_succ hk hw.1.1
    · rename_i hk
      rw [h2, drop_end (show List.length l ≤ d by omega)]
      rfl
theorem impl_IsStrand_ok (s : tStrand.den) : FunOK Tryz.prog 9 [⟨tStrand, s⟩] (.rd .bool (strB s)) := by
  refine fun_of (tb := tb) follows Tryz.func9 (by kernel_rfl) Tryz.ntmps9 rfl rfl rfl ?_; intro cx hN hw
  simp (disch := exact eqId (by kernel_rfl)) only [go_sem, ↓reduceIte, Nat.reduceAdd, Nat.reduceMul, Nat.reduceLT, Nat.reduceBEq, Nat.reduceLeDiff, Nat.reduceEqDiff, Int.reduceToNat]
  repeat' (first | (refine And.intro ?_ ?_) | intro _ | (refine callQ_intro (inRange_ok _ _ _) ?_; try (simp (disch := exact eqId (by kernel_rfl)) only [go_sem, ↓reduceIte, Nat.reduceAdd, Nat.reduceMul, Nat.reduceLT, Nat.reduceBEq, Nat.reduceLeDiff, Nat.reduceEqDiff, Int.reduceToNat])) | (refine callH_intro (fun hcc => inRange_ok _ _ _) ?_; try (simp (disch := exact eqId (by kernel_rfl)) only [go_sem, ↓reduceIte, Nat.reduceAdd, Nat.reduceMul, Nat.reduceLT, Nat.reduceBEq, Nat.reduceLeDiff, Nat.reduceEqDiff, Int.reduceToNat])))
  all_goals (try omega)
  · rename_i hc
    unfold strB inB
    have : (decide (1 ≤ (List.length s.1 : Int)) && decide ((List.length s.1 : Int) ≤ 12) && decide (List.length s.2.1 ≤ 8)) = false := by
      rw [← Bool.not_eq_true]
      intro h
      simp only [Bool.and_eq_true, decide_eq_true_eq] at h
      omega
    rw [this]
    rfl
  · rename_i hb
    refine loop_intro (tb := tb) follows hN (D := Nat) (fun d => shp [(1, .bp 10000 0), (19, .rd (.list tPiece) (s.1)), (20, .rd I (((s.1).length : Int) : Int)), (21, .rd I (d : Int))] [(10000, .box 27 [.rd (.list tPiece) (s.1), .rd (.list tRenewal) (s.2.1)])]) (fun d => d ≤ List.length s.1 ∧ ∀ i, i < d → hpF (List.getD s.1 i (0, [], 0, ())) (List.take i s.1) = false) (fun d => List.length s.1 - d) (0) ?_ (sub_shp hN [(10000, some 10000)] ?_) (fun d hd => ?_)
    · exact ⟨Nat.zero_le _, fun i h => absurd h (Nat.not_lt_zero i)⟩
    · simp (disch := exact eqId (by kernel_rfl)) only [go_sem, ↓reduceIte, Nat.reduceAdd, Nat.reduceMul, Nat.reduceLT, Nat.reduceBEq, Nat.reduceLeDiff, Nat.reduceEqDiff, Int.reduceToNat]
      try rfl
    · obtain ⟨h1, h2⟩ := hd
      simp (disch := exact eqId (by kernel_rfl)) only [go_sem, ↓reduceIte, Nat.reduceAdd, Nat.reduceMul, Nat.reduceLT, Nat.reduceBEq, Nat.reduceLeDiff, Nat.reduceEqDiff, Int.reduceToNat]
      repeat' (first | (refine And.intro ?_ ?_) | intro _ | (refine callQ_intro (impl_hasPiece_ok _ _) ?_; try (simp (disch := exact eqId (by kernel_rfl)) only [go_sem, ↓reduceIte, Nat.reduceAdd, Nat.reduceMul, Nat.reduceLT, Nat.reduceBEq, Nat.reduceLeDiff, Nat.reduceEqDiff, Int.reduceToNat])) | (refine callH_intro (fun hcc => impl_hasPiece_ok _ _) ?_; try (simp (disch := exact eqId (by kernel_rfl)) only [go_sem, ↓reduceIte, Nat.reduceAdd, Nat.reduceMul, Nat.reduceLT, Nat.reduceBEq, Nat.reduceLeDiff, Nat.reduceEqDiff, Int.reduceToNat])))
      all_goals (try omega)
      · rename_i hk he
        have he' : hpF (List.getD s.1 d (0, [], 0, ())) (List.take d s.1) = true := he
        have hn : ndB s.1 = false := by
          rw [← Bool.not_eq_true]
          intro h
          have h9 := List.all_eq_true.1 h d (List.mem_range.2 (by omega))
          rw [he'] at h9
          cases h9
        unfold strB
        rw [hn]
        simp
      · rename_i hk he
        have hk : d < List.length s.1 := by omega
        refine back_intro (d + 1) ?_ ?_ (sub_shp hN [(10000, some 10000)] ?_)
        · refine ⟨hk, fun i hi => ?_⟩
          by_cases e : i = d
          · subst e; exact he
          · exact h2 i (by omega)
        · omega
        · simp (disch := exact eqId (by kernel_rfl)) only [go_sem, ↓reduceIte, Nat.reduceAdd, Nat.reduceMul, Nat.reduceLT, Nat.reduceBEq, Nat.reduceLeDiff, Nat.reduceEqDiff, Int.reduceToNat]
          exact wrap_succ hk hw.1.1.1
      · rename_i hk
        have hn : ndB s.1 = true := by
          unfold ndB
          rw [List.all_eq_true]
          intro i hi
          rw [h2 i (by have := List.mem_range.1 hi; omega)]
          rfl
        refine loop_intro (tb := tb) follows hN (D := Nat) (fun d => shp [(1, .bp 10000 0), (34, .rd (.list tRenewal) (s.2.1)), (35, .rd I (((s.2.1).length : Int) : Int)), (36, .rd I (d : Int))] [(10000, .box 27 [.rd (.list tPiece) (s.1), .rd (.list tRenewal) (s.2.1)])]) (fun d => d ≤ List.length s.2.1 ∧ chG (List.length s.1 : Int) none s.2.1 = chG (List.length s.1 : Int) (pvG (fun x : tRenewal.den => (x.1 : Int)) (0, 0, 0, [], [], ()) s.2.1 d) (List.drop d s.2.1)) (fun d => List.length s.2.1 - d) (0) ?_ (sub_shp hN [(10000, some 10000)] ?_) (fun d hd => ?_)
        · exact ⟨Nat.zero_le _, rfl⟩
        · simp (disch := exact eqId (by kernel_rfl)) only [go_sem, ↓reduceIte, Nat.reduceAdd, Nat.reduceMul, Nat.reduceLT, Nat.reduceBEq, Nat.reduceLeDiff, Nat.reduceEqDiff, Int.reduceToNat]
          try rfl
        · obtain ⟨g1, g2⟩ := hd
          have e1 : IntKind.i64.wrap ((d : Int) - 1) = (d : Int) - 1 := wrap_i64 (by omega) (by omega)
          simp (disch := exact eqId (by kernel_rfl)) only [go_sem, ↓reduceIte, Nat.reduceAdd, Nat.reduceMul, Nat.reduceLT, Nat.reduceBEq, Nat.reduceLeDiff, Nat.reduceEqDiff, Int.reduceToNat, e1]
          repeat' (first | (refine And.intro ?_ ?_) | intro _ | (refine callQ_intro (inRange_ok _ _ _) ?_; try (simp (disch := exact eqId (by kernel_rfl)) only [go_sem, ↓reduceIte, Nat.reduceAdd, Nat.reduceMul, Nat.reduceLT, Nat.reduceBEq, Nat.reduceLeDiff, Nat.reduceEqDiff, Int.reduceToNat])) | (refine callH_intro (fun hcc => inRange_ok _ _ _) ?_; try (simp (disch := exact eqId (by kernel_rfl)) only [go_sem, ↓reduceIte, Nat.reduceAdd, Nat.reduceMul, Nat.reduceLT, Nat.reduceBEq, Nat.reduceLeDiff, Nat.reduceEqDiff, Int.reduceToNat])))
          all_goals (try omega)
          · rename_i hk hc
            have hch : chG (List.length s.1 : Int) none s.2.1 = false := by
              rw [g2, drop_getD (show d < List.length s.2.1 by omega) (0, 0, 0, [], [], ()), chG_cons]
              rcases hc with hc | ⟨hd, hlt⟩
              · rw [show inB (List.getD s.2.1 d (0, 0, 0, [], [], ())).1 1 (List.length s.1 : Int) = false from by
                  rw [inB_f]
                  intro h
                  rcases hc with hc | hc
                  · exact hc h.1
                  · exact hc h.2]
                rfl
              · rw [e1] at hlt
                unfold pvG
                rw [if_pos hd, show leG (some (List.getD s.2.1 ((d : Int) - 1).toNat (0, 0, 0, [], [], ())).1) (List.getD s.2.1 d (0, 0, 0, [], [], ())).1 = false from decide_eq_false (Int.not_le.mpr hlt)]
                simp
            unfold strB
            rw [hch]
            simp
          · rename_i hk hc
            have hk : d < List.length s.2.1 := by omega
            obtain ⟨hc, hd⟩ := hc
            rw [e1] at hd
            refine back_intro (d + 1) ?_ ?_ (sub_shp hN [(10000, some 10000)] ?_)
            · refine ⟨hk, ?_⟩
              rw [g2, drop_getD hk (0, 0, 0, [], [], ()), chG_cons, pvG_succ, show inB (List.getD s.2.1 d (0, 0, 0, [], [], ())).1 1 (List.length s.1 : Int) = true from by rw [inB_t]; exact hc, Bool.true_and]
              unfold pvG
              by_cases h0 : (d : Int) > 0
              · rw [if_pos h0, show leG (some (List.getD s.2.1 ((d : Int) - 1).toNat (0, 0, 0, [], [], ())).1) (List.getD s.2.1 d (0, 0, 0, [], [], ())).1 = true from decide_eq_true (Int.not_lt.mp (hd.resolve_left (fun hx => hx h0))), Bool.true_and]
              · rw [if_neg h0]
                rfl
            · omega
            · simp (disch := exact eqId (by kernel_rfl)) only [go_sem, ↓reduceIte, Nat.reduceAdd, Nat.reduceMul, Nat.reduceLT, Nat.reduceBEq, Nat.reduceLeDiff, Nat.reduceEqDiff, Int.reduceToNat]
              exact wrap_succ hk hw.1.2.1.1
          · rename_i hk
            have hch : chG (List.length s.1 : Int) none s.2.1 = true := by rw [g2, drop_end (show List.length s.2.1 ≤ d by omega), chG_nil]
            unfold strB
            rw [hn, hch, show inB (List.length s.1 : Int) 1 12 = true from by rw [inB_t]; exact hb.1, decide_eq_true (show List.length s.2.1 ≤ 8 by omega)]
            rfl
theorem spec_IsStrand_ok (s : tStrand.den) : FunOK Tryz.prog 16 [⟨tStrand, s⟩] (.rd .bool (strB s)) := by
  refine fun_of (tb := tb) follows Tryz.func16 (by kernel_rfl) Tryz.ntmps16 rfl rfl rfl ?_; intro cx hN hw
  have hm : maxLen = 9223372036854775807 := rfl
  have hl : List.length s.2.1 ≤ maxLen := hw.1.2.1.1
  simp (disch := exact eqId (by kernel_rfl)) only [go_sem, ↓reduceIte, Nat.reduceAdd, Nat.reduceMul, Nat.reduceLT, Nat.reduceBEq, Nat.reduceLeDiff, Nat.reduceEqDiff, Int.reduceToNat]
  refine loop_intro (tb := tb) follows hN (D := Nat) (fun d => shp [(1, .bp 10000 0), (3, .rd I (d : Int))] [(10000, .box 27 [.rd (.list tPiece) (s.1), .rd (.list tRenewal) (s.2.1)])]) (fun d => d ≤ List.length s.1 ∧ ∀ i, i < d → hpF (List.getD s.1 i (0, [], 0, ())) (List.take i s.1) = false) (fun d => List.length s.1 - d) (0) ?_ (sub_shp hN [(10000, some 10000)] ?_) (fun d hd => ?_)
  · exact ⟨Nat.zero_le _, fun i h => absurd h (Nat.not_lt_zero i)⟩
  · simp (disch := exact eqId (by kernel_rfl)) only [go_sem, ↓reduceIte, Nat.reduceAdd, Nat.reduceMul, Nat.reduceLT, Nat.reduceBEq, Nat.reduceLeDiff, Nat.reduceEqDiff, Int.reduceToNat]
    try rfl
  · obtain ⟨h1, h2⟩ := hd
    simp (disch := exact eqId (by kernel_rfl)) only [go_sem, ↓reduceIte, Nat.reduceAdd, Nat.reduceMul, Nat.reduceLT, Nat.reduceBEq, Nat.reduceLeDiff, Nat.reduceEqDiff, Int.reduceToNat]
    repeat' (first | (refine And.intro ?_ ?_) | intro _ | (refine callQ_intro (spec_FindPiece_ok _ _) ?_; try (simp (disch := exact eqId (by kernel_rfl)) only [go_sem, ↓reduceIte, Nat.reduceAdd, Nat.reduceMul, Nat.reduceLT, Nat.reduceBEq, Nat.reduceLeDiff, Nat.reduceEqDiff, Int.reduceToNat])) | (refine callH_intro (fun hcc => spec_FindPiece_ok _ _) ?_; try (simp (disch := exact eqId (by kernel_rfl)) only [go_sem, ↓reduceIte, Nat.reduceAdd, Nat.reduceMul, Nat.reduceLT, Nat.reduceBEq, Nat.reduceLeDiff, Nat.reduceEqDiff, Int.reduceToNat])))
    all_goals (try omega)
    · rename_i hk he
      have he0 : fpiF (List.getD s.1 d (0, [], 0, ())) s.1 0 < (d : Int) := he
      have he' : hpF (List.getD s.1 d (0, [], 0, ())) (List.take d s.1) = true := ((hp_fpi _ (0, [], 0, ()) s.1 d 0 (by omega) rfl).1).mpr (by omega)
      have hn : ndB s.1 = false := by
        rw [← Bool.not_eq_true]
        intro h
        have h9 := List.all_eq_true.1 h d (List.mem_range.2 (by omega))
        rw [he'] at h9
        cases h9
      unfold strB
      rw [hn]
      simp
    · rename_i hk he
      have hk : d < List.length s.1 := by omega
      refine back_intro (d + 1) ?_ ?_ (sub_shp hN [(10000, some 10000)] ?_)
      · refine ⟨hk, fun i hi => ?_⟩
        by_cases e : i = d
        · subst e
          rw [← Bool.not_eq_true]
          intro h
          have h9 := ((hp_fpi _ (0, [], 0, ()) s.1 i 0 hk rfl).1).mp h
          exact he (show fpiF (List.getD s.1 i (0, [], 0, ())) s.1 0 < (i : Int) by omega)
        · exact h2 i (by omega)
      · omega
      · simp (disch := exact eqId (by kernel_rfl)) only [go_sem, ↓reduceIte, Nat.reduceAdd, Nat.reduceMul, Nat.reduceLT, Nat.reduceBEq, Nat.reduceLeDiff, Nat.reduceEqDiff, Int.reduceToNat]
        exact wrap_succ hk hw.1.1.1
    · rename_i hk
      have hn : ndB s.1 = true := by
        unfold ndB
        rw [List.all_eq_true]
        intro i hi
        rw [h2 i (by have := List.mem_range.1 hi; omega)]
        rfl
      refine loop_intro (tb := tb) follows hN (D := Nat) (fun d => shp [(1, .bp 10000 0), (4, .rd I (d : Int))] [(10000, .box 27 [.rd (.list tPiece) (s.1), .rd (.list tRenewal) (s.2.1)])]) (fun d => d ≤ List.length s.2.1 ∧ chG (List.length s.1 : Int) none s.2.1 = chG (List.length s.1 : Int) (pvG (fun x : tRenewal.den => (x.1 : Int)) (0, 0, 0, [], [], ()) s.2.1 d) (List.drop d s.2.1)) (fun d => List.length s.2.1 - d) (0) ?_ (sub_shp hN [(10000, some 10000)] ?_) (fun d hd => ?_)
      · exact ⟨Nat.zero_le _, rfl⟩
      · simp (disch := exact eqId (by kernel_rfl)) only [go_sem, ↓reduceIte, Nat.reduceAdd, Nat.reduceMul, Nat.reduceLT, Nat.reduceBEq, Nat.reduceLeDiff, Nat.reduceEqDiff, Int.reduceToNat]
        try rfl
      · obtain ⟨g1, g2⟩ := hd
        have e1 : IntKind.i64.wrap ((d : Int) - 1) = (d : Int) - 1 := wrap_i64 (by omega) (by omega)
        simp (disch := exact eqId (by kernel_rfl)) only [go_sem, ↓reduceIte, Nat.reduceAdd, Nat.reduceMul, Nat.reduceLT, Nat.reduceBEq, Nat.reduceLeDiff, Nat.reduceEqDiff, Int.reduceToNat, e1]
        repeat' (first | (refine And.intro ?_ ?_) | intro _ | (refine callQ_intro (l1In_ok _ _ _) ?_; try (simp (disch := exact eqId (by kernel_rfl)) only [go_sem, ↓reduceIte, Nat.reduceAdd, Nat.reduceMul, Nat.reduceLT, Nat.reduceBEq, Nat.reduceLeDiff, Nat.reduceEqDiff, Int.reduceToNat])) | (refine callH_intro (fun hcc => l1In_ok _ _ _) ?_; try (simp (disch := exact eqId (by kernel_rfl)) only [go_sem, ↓reduceIte, Nat.reduceAdd, Nat.reduceMul, Nat.reduceLT, Nat.reduceBEq, Nat.reduceLeDiff, Nat.reduceEqDiff, Int.reduceToNat])))
        all_goals (try omega)
        · rename_i hk hc
          have hch : chG (List.length s.1 : Int) none s.2.1 = false := by
            rw [g2, drop_getD (show d < List.length s.2.1 by omega) (0, 0, 0, [], [], ()), chG_cons]
            rcases hc with hc | ⟨hd, hlt⟩
            · rw [show inB (List.getD s.2.1 d (0, 0, 0, [], [], ())).1 1 (List.length s.1 : Int) = false from by
                rw [inB_f]
                intro h
                rcases hc with hc | hc
                · exact hc h.1
                · exact hc h.2]
              rfl
            · rw [e1] at hlt
              unfold pvG
              rw [if_pos hd, show leG (some (List.getD s.2.1 ((d : Int) - 1).toNat (0, 0, 0, [], [], ())).1) (List.getD s.2.1 d (0, 0, 0, [], [], ())).1 = false from decide_eq_false (Int.not_le.mpr hlt)]
              simp
          unfold strB
          rw [hch]
          simp
        · rename_i hk hc
          have hk : d < List.length s.2.1 := by omega
          obtain ⟨hc, hd⟩ := hc
          rw [e1] at hd
          refine back_intro (d + 1) ?_ ?_ (sub_shp hN [(10000, some 10000)] ?_)
          · refine ⟨hk, ?_⟩
            rw [g2, drop_getD hk (0, 0, 0, [], [], ()), chG_cons, pvG_succ, show inB (List.getD s.2.1 d (0, 0, 0, [], [], ())).1 1 (List.length s.1 : Int) = true from by rw [inB_t]; exact hc, Bool.true_and]
            unfold pvG
            by_cases h0 : (d : Int) > 0
            · rw [if_pos h0, show leG (some (List.getD s.2.1 ((d : Int) - 1).toNat (0, 0, 0, [], [], ())).1) (List.getD s.2.1 d (0, 0, 0, [], [], ())).1 = true from decide_eq_true (Int.not_lt.mp (hd.resolve_left (fun hx => hx h0))), Bool.true_and]
            · rw [if_neg h0]
              rfl
          · omega
          · simp (disch := exact eqId (by kernel_rfl)) only [go_sem, ↓reduceIte, Nat.reduceAdd, Nat.reduceMul, Nat.reduceLT, Nat.reduceBEq, Nat.reduceLeDiff, Nat.reduceEqDiff, Int.reduceToNat]
            exact wrap_succ hk hw.1.2.1.1
        · rename_i hk
          have hch : chG (List.length s.1 : Int) none s.2.1 = true := by rw [g2, drop_end (show List.length s.2.1 ≤ d by omega), chG_nil]
          unfold strB
          rw [hn, hch]
          simp [inB]
          exact congrArg _ (decide_eq_decide.mpr (by omega))
end Go.Proofs.YtblnngjdoifgkaaGreat
/- What functions of growing strands answer, the reference's side. It proves nothing of a statement by itself. -/
set_option linter.unusedSimpArgs false
set_option linter.unusedVariables false
set_option maxRecDepth 100000
namespace Go.Proofs.YtblnngjdoifgkaaGreat
open Go.AL
theorem sm_pc {s : tStrand.den} (hs : Small tStrand 1048576 s) : s.1.length ≤ 1048576 ∧ ∀ p, p ∈ s.1 → p.2.1.length ≤ 1048576 := ⟨hs.1.1, fun p hp => (hs.1.2 p hp).2.1.1⟩
theorem sm_ch {s : tStrand.den} (hs : Small tStrand 1048576 s) : s.2.1.length ≤ 1048576 ∧ ∀ r, r ∈ s.2.1 → r.2.2.2.1.length ≤ 1048576 ∧ r.2.2.2.2.1.length ≤ 1048576 := ⟨hs.2.1.1, fun r hr => ⟨(hs.2.1.2 r hr).2.2.2.1.1, (hs.2.1.2 r hr).2.2.2.2.1.1⟩⟩
theorem take_snoc {α : Type} {l : List α} {k : Nat} (hk : k < l.length) (x : α) : l.take k ++ [l.getD k x] = l.take (k + 1) := by
  rw [List.take_succ_eq_append_getElem hk, List.getD_eq_getElem?_getD, List.getElem?_eq_getElem hk]
  rfl
theorem l18All_ok (l : List tPiece.den) (hl : l.length ≤ 1048576) (hp : ∀ p, p ∈ l → p.2.1.length ≤ 1048576) : FunOK Tryz.prog 133 [⟨(.list tPiece), l⟩] (.own 30 tPiece l) := by
  refine fun_of (tb := tb) follows Tryz.func133 (by kernel_rfl) Tryz.ntmps133 rfl rfl rfl ?_; intro cx hN hw
  simp (disch := exact eqId (by kernel_rfl)) only [go_sem, ↓reduceIte, Nat.reduceAdd, Nat.reduceMul, Nat.reduceLT, Nat.reduceBEq, Nat.reduceLeDiff, Nat.reduceEqDiff, Int.reduceToNat]
  refine loop_intro (tb := tb) follows hN (D := Nat) (fun d => shp [(0, .rd (.list tPiece) (l)), (3, .own 20000), (4, .rd I (d : Int))] [(20000, .row 30 tPiece (l.take d))]) (fun d => d ≤ l.length) (fun d => l.length - d) (0) ?_ (sub_shp hN [(20000, some 20000)] ?_) (fun d hd => ?_)
  · exact Nat.zero_le _
  · simp (disch := exact eqId (by kernel_rfl)) only [go_sem, ↓reduceIte, Nat.reduceAdd, Nat.reduceMul, Nat.reduceLT, Nat.reduceBEq, Nat.reduceLeDiff, Nat.reduceEqDiff, Int.reduceToNat]
    try exact ⟨rfl, rfl⟩
    try rfl
  · simp (disch := exact eqId (by kernel_rfl)) only [go_sem, ↓reduceIte, Nat.reduceAdd, Nat.reduceMul, Nat.reduceLT, Nat.reduceBEq, Nat.reduceLeDiff, Nat.reduceEqDiff, Int.reduceToNat]
    repeat' (first | (refine And.intro ?_ ?_) | intro _ | (refine callQ_intro (l18Copy_ok _ (hp _ (getD_mem (by omega) _))) ?_; try (simp (disch := exact eqId (by kernel_rfl)) only [go_sem, ↓reduceIte, Nat.reduceAdd, Nat.reduceMul, Nat.reduceLT, Nat.reduceBEq, Nat.reduceLeDiff, Nat.reduceEqDiff, Int.reduceToNat])) | (refine callH_intro (fun hcc => l18Copy_ok _ (hp _ (getD_mem (by omega) _))) ?_; try (simp (disch := exact eqId (by kernel_rfl)) only [go_sem, ↓reduceIte, Nat.reduceAdd, Nat.reduceMul, Nat.reduceLT, Nat.reduceBEq, Nat.reduceLeDiff, Nat.reduceEqDiff, Int.reduceToNat])))
    all_goals (try omega)
    all_goals (try (simp only [List.length_append, List.length_cons, List.length_nil, List.length_take]; omega))
    · rename_i hk
      refine back_intro (d + 1) ?_ ?_ (sub_shp hN [(20000, some 60112)] ?_)
      · omega
      · omega
      · simp (disch := exact eqId (by kernel_rfl)) only [go_sem, ↓reduceIte, Nat.reduceAdd, Nat.reduceMul, Nat.reduceLT, Nat.reduceBEq, Nat.reduceLeDiff, Nat.reduceEqDiff, Int.reduceToNat]
        refine ⟨?_, wrap_succ' (by omega)⟩
        exact take_snoc (show d < l.length by omega) _
    · rename_i hk
      rw [List.take_of_length_le (by omega)]
theorem l20Copy_fr (s : tStrand.den) (hs : Small tStrand 1048576 s) : FunOK Tryz.prog 123 [⟨tStrand, s⟩] (.agg [.own 30 tPiece s.1, .fresh 38 tRenewal s.2.1]) := by
  obtain ⟨h1, h2⟩ := sm_pc hs
  obtain ⟨h3, h4⟩ := sm_ch hs
  refine fun_ofN (tb := tb) follows Tryz.func123 (by kernel_rfl) Tryz.ntmps123 rfl rfl rfl ?_; intro cx hN hw
  simp (disch := exact eqId (by kernel_rfl)) only [go_sem, ↓reduceIte, Nat.reduceAdd, Nat.reduceMul, Nat.reduceLT, Nat.reduceBEq, Nat.reduceLeDiff, Nat.reduceEqDiff, Int.reduceToNat]
  repeat' (first | (refine And.intro ?_ ?_) | intro _ | (refine callQ_intro (l18All_ok _ h1 h2) ?_; try (simp (disch := exact eqId (by kernel_rfl)) only [go_sem, ↓reduceIte, Nat.reduceAdd, Nat.reduceMul, Nat.reduceLT, Nat.reduceBEq, Nat.reduceLeDiff, Nat.reduceEqDiff, Int.reduceToNat])) | (refine callH_intro (fun hcc => l18All_ok _ h1 h2) ?_; try (simp (disch := exact eqId (by kernel_rfl)) only [go_sem, ↓reduceIte, Nat.reduceAdd, Nat.reduceMul, Nat.reduceLT, Nat.reduceBEq, Nat.reduceLeDiff, Nat.reduceEqDiff, Int.reduceToNat])))
  refine loop_intro (tb := tb) follows hN (D := Nat) (fun d => shp [(1, .bp 10000 0), (2, .bp 10016 0), (3, .bp 20064 0), (4, .rd I (d : Int))] [(10000, .box 27 [.rd (.list tPiece) s.1, .rd (.list tRenewal) s.2.1]), (10016, .box 27 [.nils, .nils]), (20032, .row 30 tPiece s.1), (20064, .box 27 [.own 20032, .own 90000]), (90000, .arr 38 tRenewal (List.take d s.2.1))]) (fun d => d ≤ List.length s.2.1) (fun d => List.length s.2.1 - d) (0) ?_ (sub_shp hN [(10000, some 10000), (10016, some 10016), (20064, some 20064), (20032, some 20032), (90000, none)] ?_) (fun d hd => ?_)
  · exact Nat.zero_le _
  · simp (disch := exact eqId (by kernel_rfl)) only [go_sem, ↓reduceIte, Nat.reduceAdd, Nat.reduceMul, Nat.reduceLT, Nat.reduceBEq, Nat.reduceLeDiff, Nat.reduceEqDiff, Int.reduceToNat]
    try exact ⟨rfl, rfl⟩
    try rfl
  · simp (disch := exact eqId (by kernel_rfl)) only [go_sem, ↓reduceIte, Nat.reduceAdd, Nat.reduceMul, Nat.reduceLT, Nat.reduceBEq, Nat.reduceLeDiff, Nat.reduceEqDiff, Int.reduceToNat]
    repeat' (first | (refine And.intro ?_ ?_) | intro _ | (refine callQ_intro (l19Copy_ok _ (h4 _ (getD_mem (by omega) _)).1 (h4 _ (getD_mem (by omega) _)).2) ?_; try (simp (disch := exact eqId (by kernel_rfl)) only [go_sem, ↓reduceIte, Nat.reduceAdd, Nat.reduceMul, Nat.reduceLT, Nat.reduceBEq, Nat.reduceLeDiff, Nat.reduceEqDiff, Int.reduceToNat])) | (refine callH_intro (fun hcc => l19Copy_ok _ (h4 _ (getD_mem (by omega) _)).1 (h4 _ (getD_mem (by omega) _)).2) ?_; try (simp (disch := exact eqId (by kernel_rfl)) only [go_sem, ↓reduceIte, Nat.reduceAdd, Nat.reduceMul, Nat.reduceLT, Nat.reduceBEq, Nat.reduceLeDiff, Nat.reduceEqDiff, Int.reduceToNat])))
    all_goals (try omega)
    all_goals (try (simp only [List.length_append, List.length_cons, List.length_nil, List.length_take]; omega))
    · rename_i hk
      refine back_intro (d + 1) ?_ ?_ (sub_shp hN [(10000, some 10000), (10016, some 10016), (20064, some 20064), (20032, some 20032), (90000, some 60144)] ?_)
      · omega
      · omega
      · simp (disch := exact eqId (by kernel_rfl)) only [go_sem, ↓reduceIte, Nat.reduceAdd, Nat.reduceMul, Nat.reduceLT, Nat.reduceBEq, Nat.reduceLeDiff, Nat.reduceEqDiff, Int.reduceToNat]
        refine ⟨?_, wrap_succ' (by omega)⟩
        exact take_snoc (show d < List.length s.2.1 by omega) _
    · rename_i hk
      rw [List.take_of_length_le (by omega)]
end Go.Proofs.YtblnngjdoifgkaaGreat
/- What functions of growing strands answer, the reference's side. It proves nothing of a statement by itself. -/
set_option linter.unusedSimpArgs false
set_option linter.unusedVariables false
set_option maxRecDepth 100000
namespace Go.Proofs.YtblnngjdoifgkaaGreat
open Go.AL
noncomputable def apF (s : tStrand.den) (p : tPiece.den) : tStrand.den × Bool := if strB (s.1 ++ [p], s.2.1, ()) = false then ((s.1, s.2.1, ()), false) else ((s.1 ++ [p], s.2.1, ()), true)
theorem apF_y {s : tStrand.den} {p : tPiece.den} (h : strB (s.1 ++ [p], s.2.1, ()) = false) : apF s p = ((s.1, s.2.1, ()), false) := if_pos h
theorem apF_n {s : tStrand.den} {p : tPiece.den} (h : strB (s.1 ++ [p], s.2.1, ()) = true) : apF s p = ((s.1 ++ [p], s.2.1, ()), true) := if_neg (by rw [h]; decide)
noncomputable def arF (s : tStrand.den) (r : tRenewal.den) : tStrand.den × Bool := if strB (s.1, s.2.1 ++ [r], ()) = false then ((s.1, s.2.1, ()), false) else ((s.1, s.2.1 ++ [r], ()), true)
theorem arF_y {s : tStrand.den} {r : tRenewal.den} (h : strB (s.1, s.2.1 ++ [r], ()) = false) : arF s r = ((s.1, s.2.1, ()), false) := if_pos h
theorem arF_n {s : tStrand.den} {r : tRenewal.den} (h : strB (s.1, s.2.1 ++ [r], ()) = true) : arF s r = ((s.1, s.2.1 ++ [r], ()), true) := if_neg (by rw [h]; decide)
def dsF (s : tStrand.den) (d : tDocument.den) : List Int := s.2.1.map (fun r => ddF r.2.1 d)
theorem spec_AddPiece_ok (s : tStrand.den) (p : tPiece.den) (hs : Small tStrand 1048576 s) (hp : p.2.1.length ≤ 1048576) : FunOK Tryz.prog 101 [⟨tStrand, s⟩, ⟨tPiece, p⟩] (.tup [.agg [.own 30 tPiece (apF s p).1.1, .own 38 tRenewal (apF s p).1.2.1], .rd .bool (apF s p).2]) := by
  have h1 := (sm_pc hs).1
  have h2 := (sm_ch hs).1
  refine fun_of (tb := tb) follows Tryz.func101 (by kernel_rfl) Tryz.ntmps101 rfl rfl rfl ?_; intro cx hN hw
  simp (disch := exact eqId (by kernel_rfl)) only [go_sem, ↓reduceIte, Nat.reduceAdd, Nat.reduceMul, Nat.reduceLT, Nat.reduceBEq, Nat.reduceLeDiff, Nat.reduceEqDiff, Int.reduceToNat]
  repeat' (first | (refine And.intro ?_ ?_) | intro _ | (refine callB_intro (spec_IsStrand_ok _) rfl trivial ?_; try (simp (disch := exact eqId (by kernel_rfl)) only [go_sem, ↓reduceIte, Nat.reduceAdd, Nat.reduceMul, Nat.reduceLT, Nat.reduceBEq, Nat.reduceLeDiff, Nat.reduceEqDiff, Int.reduceToNat])) | (refine callQ_intro (l20Copy_fr _ hs) ?_; try (simp (disch := exact eqId (by kernel_rfl)) only [go_sem, ↓reduceIte, Nat.reduceAdd, Nat.reduceMul, Nat.reduceLT, Nat.reduceBEq, Nat.reduceLeDiff, Nat.reduceEqDiff, Int.reduceToNat])) | (refine callH_intro (fun hcc => l20Copy_fr _ hs) ?_; try (simp (disch := exact eqId (by kernel_rfl)) only [go_sem, ↓reduceIte, Nat.reduceAdd, Nat.reduceMul, Nat.reduceLT, Nat.reduceBEq, Nat.reduceLeDiff, Nat.reduceEqDiff, Int.reduceToNat])) | (refine callQ_intro (l18Copy_ok _ hp) ?_; try (simp (disch := exact eqId (by kernel_rfl)) only [go_sem, ↓reduceIte, Nat.reduceAdd, Nat.reduceMul, Nat.reduceLT, Nat.reduceBEq, Nat.reduceLeDiff, Nat.reduceEqDiff, Int.reduceToNat])) | (refine callH_intro (fun hcc => l18Copy_ok _ hp) ?_; try (simp (disch := exact eqId (by kernel_rfl)) only [go_sem, ↓reduceIte, Nat.reduceAdd, Nat.reduceMul, Nat.reduceLT, Nat.reduceBEq, Nat.reduceLeDiff, Nat.reduceEqDiff, Int.reduceToNat])) | (refine callQ_intro (spec_IsStrand_ok _) ?_; try (simp (disch := exact eqId (by kernel_rfl)) only [go_sem, ↓reduceIte, Nat.reduceAdd, Nat.reduceMul, Nat.reduceLT, Nat.reduceBEq, Nat.reduceLeDiff, Nat.reduceEqDiff, Int.reduceToNat])) | (refine callH_intro (fun hcc => spec_IsStrand_ok _) ?_; try (simp (disch := exact eqId (by kernel_rfl)) only [go_sem, ↓reduceIte, Nat.reduceAdd, Nat.reduceMul, Nat.reduceLT, Nat.reduceBEq, Nat.reduceLeDiff, Nat.reduceEqDiff, Int.reduceToNat])))
  all_goals (try omega)
  all_goals (try (simp only [List.length_append, List.length_cons, List.length_nil]; omega))
  all_goals (rename_i hc; first | exact (congrArg (fun x => x.1.1) (apF_y hc)).symm | exact (congrArg (fun x => x.1.2.1) (apF_y hc)).symm | exact (congrArg (fun x => x.2) (apF_y hc)).symm | exact (congrArg (fun x => x.1.1) (apF_n hc)).symm | exact (congrArg (fun x => x.1.2.1) (apF_n hc)).symm | exact (congrArg (fun x => x.2) (apF_n hc)).symm | trace_state)
theorem spec_AddRenewal_fr (s : tStrand.den) (r : tRenewal.den) (hs : Small tStrand 1048576 s) (hr1 : r.2.2.2.1.length ≤ 1048576) (hr2 : r.2.2.2.2.1.length ≤ 1048576) : FunOK Tryz.prog 102 [⟨tStrand, s⟩, ⟨tRenewal, r⟩] (.tup [.agg [.own 30 tPiece (arF s r).1.1, .fresh 38 tRenewal (arF s r).1.2.1], .rd .bool (arF s r).2]) := by
  have h1 := (sm_pc hs).1
  have h2 := (sm_ch hs).1
  refine fun_ofN (tb := tb) follows Tryz.func102 (by kernel_rfl) Tryz.ntmps102 rfl rfl rfl ?_; intro cx hN hw
  simp (disch := exact eqId (by kernel_rfl)) only [go_sem, ↓reduceIte, Nat.reduceAdd, Nat.reduceMul, Nat.reduceLT, Nat.reduceBEq, Nat.reduceLeDiff, Nat.reduceEqDiff, Int.reduceToNat]
  repeat' (first | (refine And.intro ?_ ?_) | intro _ | (refine callB_intro (spec_IsStrand_ok _) rfl trivial ?_; try (simp (disch := exact eqId (by kernel_rfl)) only [go_sem, ↓reduceIte, Nat.reduceAdd, Nat.reduceMul, Nat.reduceLT, Nat.reduceBEq, Nat.reduceLeDiff, Nat.reduceEqDiff, Int.reduceToNat])) | (refine callQ_intro (l20Copy_fr _ hs) ?_; try (simp (disch := exact eqId (by kernel_rfl)) only [go_sem, ↓reduceIte, Nat.reduceAdd, Nat.reduceMul, Nat.reduceLT, Nat.reduceBEq, Nat.reduceLeDiff, Nat.reduceEqDiff, Int.reduceToNat])) | (refine callH_intro (fun hcc => l20Copy_fr _ hs) ?_; try (simp (disch := exact eqId (by kernel_rfl)) only [go_sem, ↓reduceIte, Nat.reduceAdd, Nat.reduceMul, Nat.reduceLT, Nat.reduceBEq, Nat.reduceLeDiff, Nat.reduceEqDiff, Int.reduceToNat])) | (refine callQ_intro (l19Copy_ok _ hr1 hr2) ?_; try (simp (disch := exact eqId (by kernel_rfl)) only [go_sem, ↓reduceIte, Nat.reduceAdd, Nat.reduceMul, Nat.reduceLT, Nat.reduceBEq, Nat.reduceLeDiff, Nat.reduceEqDiff, Int.reduceToNat])) | (refine callH_intro (fun hcc => l19Copy_ok _ hr1 hr2) ?_; try (simp (disch := exact eqId (by kernel_rfl)) only [go_sem, ↓reduceIte, Nat.reduceAdd, Nat.reduceMul, Nat.reduceLT, Nat.reduceBEq, Nat.reduceLeDiff, Nat.reduceEqDiff, Int.reduceToNat])) | (refine callQ_intro (spec_IsStrand_ok _) ?_; try (simp (disch := exact eqId (by kernel_rfl)) only [go_sem, ↓reduceIte, Nat.reduceAdd, Nat.reduceMul, Nat.reduceLT, Nat.reduceBEq, Nat.reduceLeDiff, Nat.reduceEqDiff, Int.reduceToNat])) | (refine callH_intro (fun hcc => spec_IsStrand_ok _) ?_; try (simp (disch := exact eqId (by kernel_rfl)) only [go_sem, ↓reduceIte, Nat.reduceAdd, Nat.reduceMul, Nat.reduceLT, Nat.reduceBEq, Nat.reduceLeDiff, Nat.reduceEqDiff, Int.reduceToNat])))
  all_goals (try omega)
  all_goals (try (simp only [List.length_append, List.length_cons, List.length_nil]; omega))
  all_goals (rename_i hc; first | exact (congrArg (fun x => x.1.1) (arF_y hc)).symm | exact (congrArg (fun x => x.1.2.1) (arF_y hc)).symm | exact (congrArg (fun x => x.2) (arF_y hc)).symm | exact (congrArg (fun x => x.1.1) (arF_n hc)).symm | exact (congrArg (fun x => x.1.2.1) (arF_n hc)).symm | exact (congrArg (fun x => x.2) (arF_n hc)).symm | trace_state)
theorem spec_DocDigests_ok (s : tStrand.den) (e : tDocument.den) (hs : Small tStrand 1048576 s) : FunOK Tryz.prog 36 [⟨tStrand, s⟩, ⟨tDocument, e⟩] (.own 3 I (dsF s e)) := by
  have h2 := (sm_ch hs).1
  refine fun_of (tb := tb) follows Tryz.func36 (by kernel_rfl) Tryz.ntmps36 rfl rfl rfl ?_; intro cx hN hw
  simp (disch := exact eqId (by kernel_rfl)) only [go_sem, ↓reduceIte, Nat.reduceAdd, Nat.reduceMul, Nat.reduceLT, Nat.reduceBEq, Nat.reduceLeDiff, Nat.reduceEqDiff, Int.reduceToNat]
  refine loop_intro (tb := tb) follows hN (D := Nat) (fun d => shp [(2, .bp 10000 0), (3, .bp 10016 0), (5, .own 20000), (6, .rd I (d : Int))] [(10000, .box 27 [.rd (.list tPiece) (s.1), .rd (.list tRenewal) (s.2.1)]), (10016, .box 47 [.rd I (e.1), .rd (.list .str) (e.2.1), .rd (.list I) (e.2.2.1)]), (20000, .row 3 I ((List.take d s.2.1).map (fun r => ddF r.2.1 e)))]) (fun d => d ≤ List.length s.2.1) (fun d => List.length s.2.1 - d) (0) ?_ (sub_shp hN [(10000, some 10000), (10016, some 10016), (20000, some 20000)] ?_) (fun d hd => ?_)
  · exact Nat.zero_le _
  · simp (disch := exact eqId (by kernel_rfl)) only [go_sem, ↓reduceIte, Nat.reduceAdd, Nat.reduceMul, Nat.reduceLT, Nat.reduceBEq, Nat.reduceLeDiff, Nat.reduceEqDiff, Int.reduceToNat]
    try exact ⟨rfl, rfl⟩
    try rfl
  · simp (disch := exact eqId (by kernel_rfl)) only [go_sem, ↓reduceIte, Nat.reduceAdd, Nat.reduceMul, Nat.reduceLT, Nat.reduceBEq, Nat.reduceLeDiff, Nat.reduceEqDiff, Int.reduceToNat]
    repeat' (first | (refine And.intro ?_ ?_) | intro _ | (refine callQ_intro (spec_DocDigest_ok _ _) ?_; try (simp (disch := exact eqId (by kernel_rfl)) only [go_sem, ↓reduceIte, Nat.reduceAdd, Nat.reduceMul, Nat.reduceLT, Nat.reduceBEq, Nat.reduceLeDiff, Nat.reduceEqDiff, Int.reduceToNat])) | (refine callH_intro (fun hcc => spec_DocDigest_ok _ _) ?_; try (simp (disch := exact eqId (by kernel_rfl)) only [go_sem, ↓reduceIte, Nat.reduceAdd, Nat.reduceMul, Nat.reduceLT, Nat.reduceBEq, Nat.reduceLeDiff, Nat.reduceEqDiff, Int.reduceToNat])))
    all_goals (try omega)
    all_goals (try (simp only [List.length_append, List.length_cons, List.length_nil, List.length_take, List.length_map]; omega))
    · rename_i hk
      refine back_intro (d + 1) ?_ ?_ (sub_shp hN [(10000, some 10000), (10016, some 10016), (20000, some 60160)] ?_)
      · omega
      · omega
      · simp (disch := exact eqId (by kernel_rfl)) only [go_sem, ↓reduceIte, Nat.reduceAdd, Nat.reduceMul, Nat.reduceLT, Nat.reduceBEq, Nat.reduceLeDiff, Nat.reduceEqDiff, Int.reduceToNat]
        refine ⟨?_, wrap_succ' (by omega)⟩
        rw [← take_snoc (show d < List.length s.2.1 by omega) (0, 0, 0, [], [], ()), List.map_append]
        rfl
    · rename_i hk
      rw [List.take_of_length_le (by omega)]
      rfl
end Go.Proofs.YtblnngjdoifgkaaGreat
/- What draws of signed strands answer. It proves nothing of a statement by itself. -/
set_option linter.unusedSimpArgs false
set_option linter.unusedVariables false
set_option maxRecDepth 100000
namespace Go.Proofs.YtblnngjdoifgkaaGreat
open Go.AL
theorem dT_sz (s : Cu) : ((dT s).1.size : Int) ≤ 40 := by
  have h := dB_in s (n := 7) (by decide)
  have hm : (dT s).1 ∈ STRS := getD_mem (by show _ < 7; omega) _
  have h9 : ∀ p, p ∈ STRS → (p.size : Int) ≤ 40 := by
    intro p hp
    simp only [STRS, List.mem_cons, List.not_mem_nil, or_false] at hp
    rcases hp with rfl | rfl | rfl | rfl | rfl | rfl | rfl <;> decide
  exact h9 _ hm
theorem sa_in (sd t : Int) (n : Nat) : ∀ x, x ∈ saF sd t n → 1 ≤ x ∧ x ≤ 1000000000000 := by
  intro x hx
  unfold saF at hx
  obtain ⟨i, _, rfl⟩ := List.mem_map.1 hx
  have := hash_in (sd :: [t, (i : Int)] ++ [sd])
  rw [mxF_eq]
  unfold khF
  omega
theorem isD_of {t : Int} {ps : List ByteArray} {ts : List Int} (h1 : 0 ≤ t ∧ t ≤ 999) (h2 : 1 ≤ ps.length ∧ ps.length ≤ 6) (h3 : ∀ p, p ∈ ps → (p.size : Int) ≤ 40) (h4 : ts.length = ps.length) (h5 : ∀ x, x ∈ ts → (1 : Int) ≤ x ∧ x ≤ 1000000000000) : isD (t, ps, ts, ()) = true := by
  simp only [isD, Bool.and_eq_true, List.all_eq_true, pOK, decide_eq_true_eq, inB_t, beq_iff_eq]
  exact ⟨h3, h5, h1, by omega, by omega⟩
theorem d6_ok (s : Cu) : isD (d6 s).1 = true := by
  have h0 := dB_in s (n := 3) (by decide)
  have hn : IntKind.i64.wrap (1 + (dB s 3).1) = 1 + (dB s 3).1 := wrap_i64 (by omega) (by omega)
  unfold d6
  simp only
  have hl := rep_len dT (IntKind.i64.wrap (1 + (dB s 3).1)).toNat (dB s 3).2
  have ha := rep_all (p := fun p : ByteArray => (p.size : Int) ≤ 40) dT_sz (IntKind.i64.wrap (1 + (dB s 3).1)).toNat (dB s 3).2
  generalize rep dT (IntKind.i64.wrap (1 + (dB s 3).1)).toNat (dB s 3).2 = p at *
  have h5 := dB_in p.2 (n := 5) (by decide)
  have hd : isD ((dB p.2 5).1, p.1, saF 11 (dB p.2 5).1 p.1.length, ()) = true := isD_of (by omega) (by omega) ha (saF_len _ _ _) (sa_in _ _ _)
  rw [mdF_n ⟨hd, by decide⟩]
  exact hd
theorem dd_in {m : Int} {e : tDocument.den} (h : isD e = true) : 0 ≤ ddF m e ∧ ddF m e ≤ 1000000000000 := by
  unfold ddF
  rw [if_pos h]
  have := hash_in (7 :: m :: (e.1 :: ddL m e.2.1 e.2.2.1))
  unfold digF
  omega
theorem K8_has : ∀ k : Int, 11 ≤ k → k ≤ 13 → 0 ≤ fnK K8 k := by
  intro k h1 h2
  have : k = 11 ∨ k = 12 ∨ k = 13 := by omega
  rcases this with rfl | rfl | rfl <;> decide
theorem d13_sg (s : Cu) : ∃ k : Int, (1 ≤ k ∧ k ≤ 3) ∧ ((d13 s).1.1.2.1 : Int) = k := by
  have hd := d6_ok s
  have h0 := dB_in (d6 s).2 (n := 3) (by decide)
  have h1 := dB_in (dB (d6 s).2 3).2 (n := 3) (by decide)
  have e1 : IntKind.i64.wrap (11 + (dB (d6 s).2 3).1) = 11 + (dB (d6 s).2 3).1 := wrap_i64 (by omega) (by omega)
  have e2 : IntKind.i64.wrap (1 + (dB (d6 s).2 3).1) = 1 + (dB (d6 s).2 3).1 := wrap_i64 (by omega) (by omega)
  have e3 : IntKind.i64.wrap (1 + (dB (dB (d6 s).2 3).2 3).1) = 1 + (dB (dB (d6 s).2 3).2 3).1 := wrap_i64 (by omega) (by omega)
  refine ⟨1 + (dB (d6 s).2 3).1, by omega, ?_⟩
  unfold d13
  simp only
  rw [e1, e2, e3]
  have h5 := dd_in (m := 1 + (dB (d6 s).2 3).1) hd
  have hk := K8_has (11 + (dB (d6 s).2 3).1) (by omega) (by omega)
  rw [sgF_n ⟨by simp only [isG, Bool.and_eq_true, inB_t]; omega, by simp only; omega⟩]
def d20C (s : Cu) : tCert.den := C3.getD (IntKind.i64.wrap ((d13 s).1.1.2.1 - 1)).toNat tCert.dflt
def d20A (s : Cu) : tStrand.den :=
  let x := d13 s
  ([(x.1.1.1, [104, x.1.1.1, x.1.1.2.1, x.1.1.2.2.1, x.1.1.2.2.2.1, x.1.1.2.2.2.2.1, x.1.1.2.2.2.2.2.1, x.1.1.2.2.2.2.2.2.1, x.1.1.2.2.2.2.2.2.2.1], x.1.1.2.2.2.2.2.2.2.2.1, ()), ((d20C s).2.2.2.2.2.1, certI (d20C s), (d20C s).2.2.2.2.2.2.1, ())], [], ())
def d20B (s : Cu) : tPiece.den :=
  let a := (mstF K8 ((d13 s).1.1.2.1, (dI (d13 s).2 [10, 30, 60, 90]).1, -1, (d20C s).2.2.2.2.2.1, 0, ())).1
  (a.2.2.2.1, [102, a.1, a.2.1, a.2.2.1, a.2.2.2.1], a.2.2.2.2.1, ())
noncomputable def d20S (s : Cu) : (tStrand.den × tDocument.den × tSignature.den) × Cu :=
  let o := dO (dI (d13 s).2 [10, 30, 60, 90]).2 4
  let s1 := if o.1 = false then (apF (d20A s) (d20B s)).1 else d20A s
  let v := dO o.2 4
  if v.1 = true then (((apF s1 (d18D v.2).1).1, (d13 s).1.2, (d13 s).1.1), (d18D v.2).2) else ((s1, (d13 s).1.2, (d13 s).1.1), v.2)
theorem d20S_1 {s : Cu} (h1 : (dO (dI (d13 s).2 [10, 30, 60, 90]).2 4).1 = false) (h2 : (dO (dO (dI (d13 s).2 [10, 30, 60, 90]).2 4).2 4).1 = true) : d20S s = (((apF ((apF (d20A s) (d20B s)).1) (d18D (dO (dO (dI (d13 s).2 [10, 30, 60, 90]).2 4).2 4).2).1).1, (d13 s).1.2, (d13 s).1.1), (d18D (dO (dO (dI (d13 s).2 [10, 30, 60, 90]).2 4).2 4).2).2) := by
  unfold d20S
  simp only [h1, h2, ↓reduceIte, Bool.false_eq_true, Bool.true_eq_false]
theorem d20S_2 {s : Cu} (h1 : (dO (dI (d13 s).2 [10, 30, 60, 90]).2 4).1 = false) (h2 : (dO (dO (dI (d13 s).2 [10, 30, 60, 90]).2 4).2 4).1 = false) : d20S s = (((apF (d20A s) (d20B s)).1, (d13 s).1.2, (d13 s).1.1), (dO (dO (dI (d13 s).2 [10, 30, 60, 90]).2 4).2 4).2) := by
  unfold d20S
  simp only [h1, h2, ↓reduceIte, Bool.false_eq_true, Bool.true_eq_false]
theorem d20S_3 {s : Cu} (h1 : (dO (dI (d13 s).2 [10, 30, 60, 90]).2 4).1 = true) (h2 : (dO (dO (dI (d13 s).2 [10, 30, 60, 90]).2 4).2 4).1 = true) : d20S s = (((apF (d20A s) (d18D (dO (dO (dI (d13 s).2 [10, 30, 60, 90]).2 4).2 4).2).1).1, (d13 s).1.2, (d13 s).1.1), (d18D (dO (dO (dI (d13 s).2 [10, 30, 60, 90]).2 4).2 4).2).2) := by
  unfold d20S
  simp only [h1, h2, ↓reduceIte, Bool.false_eq_true, Bool.true_eq_false]
theorem d20S_4 {s : Cu} (h1 : (dO (dI (d13 s).2 [10, 30, 60, 90]).2 4).1 = true) (h2 : (dO (dO (dI (d13 s).2 [10, 30, 60, 90]).2 4).2 4).1 = false) : d20S s = ((d20A s, (d13 s).1.2, (d13 s).1.1), (dO (dO (dI (d13 s).2 [10, 30, 60, 90]).2 4).2 4).2) := by
  unfold d20S
  simp only [h1, h2, ↓reduceIte, Bool.false_eq_true, Bool.true_eq_false]
def PcS (s : tStrand.den) : Prop := (s.1.length ≤ 100 ∧ ∀ q, q ∈ s.1 → q.2.1.length ≤ 1000) ∧ s.2.1 = []
theorem ap_small {s : tStrand.den} (p : tPiece.den) (h1 : s.1.length ≤ 100 ∧ ∀ q, q ∈ s.1 → q.2.1.length ≤ 1000) (h2 : s.2.1 = []) (hp : p.2.1.length ≤ 1000) : ((apF s p).1.1.length ≤ s.1.length + 1 ∧ ∀ q, q ∈ (apF s p).1.1 → q.2.1.length ≤ 1000) ∧ (apF s p).1.2.1 = [] := by
  cases hc : strB (s.1 ++ [p], s.2.1, ()) with
  | false =>
    rw [apF_y hc]
    exact ⟨⟨by simp only; omega, h1.2⟩, h2⟩
  | true =>
    rw [apF_n hc]
    refine ⟨⟨by simp, fun q hq => ?_⟩, h2⟩
    rcases List.mem_append.1 hq with hq | hq
    · exact h1.2 q hq
    · simp only [List.mem_singleton] at hq
      subst hq
      exact hp
theorem st_small {s : tStrand.den} (h1 : s.1.length ≤ 1000 ∧ ∀ q, q ∈ s.1 → q.2.1.length ≤ 1000) (h2 : s.2.1.length ≤ 1000 ∧ ∀ r, r ∈ s.2.1 → r.2.2.2.1.length ≤ 1001 ∧ r.2.2.2.2.1.length ≤ 1001) : Small tStrand 1048576 s :=
  ⟨⟨by omega, fun p hp => ⟨trivial, ⟨Nat.le_trans (h1.2 p hp) (by decide), fun _ _ => trivial⟩, trivial, trivial⟩⟩, ⟨by omega, fun r hr => ⟨trivial, trivial, trivial, ⟨Nat.le_trans (h2.2 r hr).1 (by decide), fun _ _ => ⟨trivial, trivial, trivial⟩⟩, ⟨Nat.le_trans (h2.2 r hr).2 (by decide), fun _ _ => ⟨trivial, trivial, trivial, trivial, trivial, trivial⟩⟩, trivial⟩⟩, trivial⟩
theorem st_small0 {s : tStrand.den} (h : PcS s) : Small tStrand 1048576 s := st_small ⟨by have := h.1.1; omega, h.1.2⟩ ⟨by rw [h.2]; exact Nat.zero_le _, fun r hr => by rw [h.2] at hr; cases hr⟩
theorem d20A_pc (s : Cu) : PcS (d20A s) := by
  refine ⟨⟨(by decide : (2 : Nat) ≤ 100), fun q hq => ?_⟩, rfl⟩
  unfold d20A at hq
  simp only [List.mem_cons, List.not_mem_nil, or_false] at hq
  rcases hq with rfl | rfl <;> simp [certI]
theorem d20B_pc (s : Cu) : PcS (apF (d20A s) (d20B s)).1 := by
  obtain ⟨h1, h2⟩ := d20A_pc s
  have hl : (d20A s).1.length = 2 := rfl
  obtain ⟨⟨g1, g2⟩, g3⟩ := ap_small (d20B s) h1 h2 (by unfold d20B; simp)
  exact ⟨⟨by omega, g2⟩, g3⟩
theorem l20Signed_ok (s : Cu)  : MutOK Tryz.prog 69 [none] [.obj (.box 82 [.rd (.list (.int .u8)) (s).b, .rd I (s).i, .rd I (s).h])] (.tup [.agg [.own 30 tPiece (d20S s).1.1.1, .own 38 tRenewal (d20S s).1.1.2.1], .rd tDocument (d20S s).1.2.1, .rd tSignature (d20S s).1.2.2]) [.box 82 [.rd (.list (.int .u8)) ((d20S s).2).b, .rd I ((d20S s).2).i, .rd I ((d20S s).2).h]] := by
  have hj := d13_sg s
  obtain ⟨k, hk, hx⟩ := d13_sg s
  have hw1 : IntKind.i64.wrap ((d13 s).1.1.2.1 - 1) = k - 1 := by rw [hx]; exact wrap_i64 (by omega) (by omega)
  have hl : C3.length = 3 := rfl
  have hP0 := d20A_pc s
  have hP1 := d20B_pc s
  refine fun_ofM (tb := tb) follows Tryz.func69 (by kernel_rfl) Tryz.ntmps69 rfl rfl (by simp [shOK]) rfl ?_; intro cx hN hw
  simp (disch := exact eqId (by kernel_rfl)) only [go_sem, ↓reduceIte, Nat.reduceAdd, Nat.reduceMul, Nat.reduceLT, Nat.reduceBEq, Nat.reduceLeDiff, Nat.reduceEqDiff, Int.reduceToNat]
  repeat' (first | (refine And.intro ?_ ?_) | intro _ | (refine callM_intro (l13Draw_ok _) ⟨⟨trivial, by decide⟩, rfl, rfl⟩ ?_; try (simp (disch := exact eqId (by kernel_rfl)) only [go_sem, ↓reduceIte, Nat.reduceAdd, Nat.reduceMul, Nat.reduceLT, Nat.reduceBEq, Nat.reduceLeDiff, Nat.reduceEqDiff, Int.reduceToNat])) | (refine callM_intro (dO_ok _ _) ⟨⟨trivial, by decide⟩, rfl, rfl⟩ ?_; try (simp (disch := exact eqId (by kernel_rfl)) only [go_sem, ↓reduceIte, Nat.reduceAdd, Nat.reduceMul, Nat.reduceLT, Nat.reduceBEq, Nat.reduceLeDiff, Nat.reduceEqDiff, Int.reduceToNat])) | (refine callM_intro (l18Draw_ok _) ⟨⟨trivial, by decide⟩, rfl, rfl⟩ ?_; try (simp (disch := exact eqId (by kernel_rfl)) only [go_sem, ↓reduceIte, Nat.reduceAdd, Nat.reduceMul, Nat.reduceLT, Nat.reduceBEq, Nat.reduceLeDiff, Nat.reduceEqDiff, Int.reduceToNat])) | (refine callM_intro (dI_ok _ [10, 30, 60, 90] (by decide)) ⟨⟨trivial, by decide⟩, rfl, rfl⟩ ?_; try (simp (disch := exact eqId (by kernel_rfl)) only [go_sem, ↓reduceIte, Nat.reduceAdd, Nat.reduceMul, Nat.reduceLT, Nat.reduceBEq, Nat.reduceLeDiff, Nat.reduceEqDiff, Int.reduceToNat])) | (refine callQ_intro (l9Certs_ok) ?_; try (simp (disch := exact eqId (by kernel_rfl)) only [go_sem, ↓reduceIte, Nat.reduceAdd, Nat.reduceMul, Nat.reduceLT, Nat.reduceBEq, Nat.reduceLeDiff, Nat.reduceEqDiff, Int.reduceToNat])) | (refine callH_intro (fun hcc => l9Certs_ok) ?_; try (simp (disch := exact eqId (by kernel_rfl)) only [go_sem, ↓reduceIte, Nat.reduceAdd, Nat.reduceMul, Nat.reduceLT, Nat.reduceBEq, Nat.reduceLeDiff, Nat.reduceEqDiff, Int.reduceToNat])) | (refine callQ_intro (l8Keys_ok) ?_; try (simp (disch := exact eqId (by kernel_rfl)) only [go_sem, ↓reduceIte, Nat.reduceAdd, Nat.reduceMul, Nat.reduceLT, Nat.reduceBEq, Nat.reduceLeDiff, Nat.reduceEqDiff, Int.reduceToNat])) | (refine callH_intro (fun hcc => l8Keys_ok) ?_; try (simp (disch := exact eqId (by kernel_rfl)) only [go_sem, ↓reduceIte, Nat.reduceAdd, Nat.reduceMul, Nat.reduceLT, Nat.reduceBEq, Nat.reduceLeDiff, Nat.reduceEqDiff, Int.reduceToNat])) | (refine callQ_intro (spec_SignPiece_ok _) ?_; try (simp (disch := exact eqId (by kernel_rfl)) only [go_sem, ↓reduceIte, Nat.reduceAdd, Nat.reduceMul, Nat.reduceLT, Nat.reduceBEq, Nat.reduceLeDiff, Nat.reduceEqDiff, Int.reduceToNat])) | (refine callH_intro (fun hcc => spec_SignPiece_ok _) ?_; try (simp (disch := exact eqId (by kernel_rfl)) only [go_sem, ↓reduceIte, Nat.reduceAdd, Nat.reduceMul, Nat.reduceLT, Nat.reduceBEq, Nat.reduceLeDiff, Nat.reduceEqDiff, Int.reduceToNat])) | (refine callQ_intro (spec_CertPiece_ok _) ?_; try (simp (disch := exact eqId (by kernel_rfl)) only [go_sem, ↓reduceIte, Nat.reduceAdd, Nat.reduceMul, Nat.reduceLT, Nat.reduceBEq, Nat.reduceLeDiff, Nat.reduceEqDiff, Int.reduceToNat])) | (refine callH_intro (fun hcc => spec_CertPiece_ok _) ?_; try (simp (disch := exact eqId (by kernel_rfl)) only [go_sem, ↓reduceIte, Nat.reduceAdd, Nat.reduceMul, Nat.reduceLT, Nat.reduceBEq, Nat.reduceLeDiff, Nat.reduceEqDiff, Int.reduceToNat])) | (refine callQ_intro (spec_StatusPiece_ok _) ?_; try (simp (disch := exact eqId (by kernel_rfl)) only [go_sem, ↓reduceIte, Nat.reduceAdd, Nat.reduceMul, Nat.reduceLT, Nat.reduceBEq, Nat.reduceLeDiff, Nat.reduceEqDiff, Int.reduceToNat])) | (refine callH_intro (fun hcc => spec_StatusPiece_ok _) ?_; try (simp (disch := exact eqId (by kernel_rfl)) only [go_sem, ↓reduceIte, Nat.reduceAdd, Nat.reduceMul, Nat.reduceLT, Nat.reduceBEq, Nat.reduceLeDiff, Nat.reduceEqDiff, Int.reduceToNat])) | (refine callQ_intro (spec_MakeStatus_ok _ _) ?_; try (simp (disch := exact eqId (by kernel_rfl)) only [go_sem, ↓reduceIte, Nat.reduceAdd, Nat.reduceMul, Nat.reduceLT, Nat.reduceBEq, Nat.reduceLeDiff, Nat.reduceEqDiff, Int.reduceToNat])) | (refine callH_intro (fun hcc => spec_MakeStatus_ok _ _) ?_; try (simp (disch := exact eqId (by kernel_rfl)) only [go_sem, ↓reduceIte, Nat.reduceAdd, Nat.reduceMul, Nat.reduceLT, Nat.reduceBEq, Nat.reduceLeDiff, Nat.reduceEqDiff, Int.reduceToNat])) | (refine callQ_intro (spec_AddPiece_ok (d20A s) (d20B s) (st_small0 hP0) (by decide : (5 : Nat) ≤ 1048576)) ?_; try (simp (disch := exact eqId (by kernel_rfl)) only [go_sem, ↓reduceIte, Nat.reduceAdd, Nat.reduceMul, Nat.reduceLT, Nat.reduceBEq, Nat.reduceLeDiff, Nat.reduceEqDiff, Int.reduceToNat])) | (refine callH_intro (fun hcc => spec_AddPiece_ok (d20A s) (d20B s) (st_small0 hP0) (by decide : (5 : Nat) ≤ 1048576)) ?_; try (simp (disch := exact eqId (by kernel_rfl)) only [go_sem, ↓reduceIte, Nat.reduceAdd, Nat.reduceMul, Nat.reduceLT, Nat.reduceBEq, Nat.reduceLeDiff, Nat.reduceEqDiff, Int.reduceToNat])) | (refine callQ_intro (spec_AddPiece_ok (apF (d20A s) (d20B s)).1 (d18D _).1 (st_small0 hP1) (Nat.le_trans (d18D_len _).2 (by decide))) ?_; try (simp (disch := exact eqId (by kernel_rfl)) only [go_sem, ↓reduceIte, Nat.reduceAdd, Nat.reduceMul, Nat.reduceLT, Nat.reduceBEq, Nat.reduceLeDiff, Nat.reduceEqDiff, Int.reduceToNat])) | (refine callH_intro (fun hcc => spec_AddPiece_ok (apF (d20A s) (d20B s)).1 (d18D _).1 (st_small0 hP1) (Nat.le_trans (d18D_len _).2 (by decide))) ?_; try (simp (disch := exact eqId (by kernel_rfl)) only [go_sem, ↓reduceIte, Nat.reduceAdd, Nat.reduceMul, Nat.reduceLT, Nat.reduceBEq, Nat.reduceLeDiff, Nat.reduceEqDiff, Int.reduceToNat])) | (refine callQ_intro (spec_AddPiece_ok (d20A s) (d18D _).1 (st_small0 hP0) (Nat.le_trans (d18D_len _).2 (by decide))) ?_; try (simp (disch := exact eqId (by kernel_rfl)) only [go_sem, ↓reduceIte, Nat.reduceAdd, Nat.reduceMul, Nat.reduceLT, Nat.reduceBEq, Nat.reduceLeDiff, Nat.reduceEqDiff, Int.reduceToNat])) | (refine callH_intro (fun hcc => spec_AddPiece_ok (d20A s) (d18D _).1 (st_small0 hP0) (Nat.le_trans (d18D_len _).2 (by decide))) ?_; try (simp (disch := exact eqId (by kernel_rfl)) only [go_sem, ↓reduceIte, Nat.reduceAdd, Nat.reduceMul, Nat.reduceLT, Nat.reduceBEq, Nat.reduceLeDiff, Nat.reduceEqDiff, Int.reduceToNat])))
  all_goals (try (rw [hw1]; omega))
  all_goals (try (show Nat.ble _ _ = true; rfl))
  all_goals (try (unfold d20S; simp only [*, ↓reduceIte, Bool.false_eq_true, Bool.true_eq_false]; done))
  all_goals (rename_i h1 h2; first | (rw [d20S_1 h1 h2]; done) | (rw [d20S_2 h1 h2]; done) | (rw [d20S_3 h1 h2]; done) | (rw [d20S_4 h1 h2]; done) | (rw [d20S_1 h1 h2]; rfl) | (rw [d20S_2 h1 h2]; rfl) | (rw [d20S_3 h1 h2]; rfl) | (rw [d20S_4 h1 h2]; rfl) | trace_state)
end Go.Proofs.YtblnngjdoifgkaaGreat
/- What draws of renewed strands answer. It proves nothing of a statement by itself. -/
set_option linter.unusedSimpArgs false
set_option linter.unusedVariables false
set_option maxRecDepth 100000
namespace Go.Proofs.YtblnngjdoifgkaaGreat
open Go.AL
theorem chG_snoc (n : Int) (r : tRenewal.den) (h1 : 1 ≤ n) (hr : (r.1 : Int) = n) : ∀ (l : List tRenewal.den) (pr : Option Int), chG n pr l = true → (∀ m, pr = some m → m ≤ n) → chG n pr (l ++ [r]) = true
  | [], pr, _, hp => by
    rw [List.nil_append, chG_cons, chG_nil, Bool.and_true, Bool.and_eq_true]
    refine ⟨inB_t.mpr ⟨by rw [hr]; exact h1, by rw [hr]; exact Int.le_refl _⟩, ?_⟩
    cases pr with
    | none => rfl
    | some m =>
      have := hp m rfl
      unfold leG
      rw [hr]
      exact decide_eq_true this
  | x :: xs, pr, h, hp => by
    rw [chG_cons, Bool.and_eq_true, Bool.and_eq_true] at h
    obtain ⟨g1, g2, g3⟩ := h
    rw [List.cons_append, chG_cons, Bool.and_eq_true, Bool.and_eq_true]
    refine ⟨g1, g2, chG_snoc n r h1 hr xs _ g3 fun m hm => ?_⟩
    injection hm with hm
    rw [inB_t] at g1
    rw [← hm]
    exact g1.2
theorem str_p {s : tStrand.den} (h : strB s = true) : (1 ≤ s.1.length ∧ s.1.length ≤ 12) ∧ s.2.1.length ≤ 8 ∧ ndB s.1 = true ∧ chG (List.length s.1 : Int) none s.2.1 = true := by
  unfold strB at h
  rw [Bool.and_eq_true, Bool.and_eq_true, Bool.and_eq_true, inB_t, decide_eq_true_eq] at h
  obtain ⟨⟨⟨h1, h2⟩, h3⟩, h4⟩ := h
  exact ⟨by omega, h2, h3, h4⟩
theorem str_snoc {s : tStrand.den} (h : strB s = true) (hc : s.2.1.length ≤ 7) {r : tRenewal.den} (hr : (r.1 : Int) = (s.1.length : Int)) : strB (s.1, s.2.1 ++ [r], ()) = true := by
  obtain ⟨h1, h2, h3, h4⟩ := str_p h
  unfold strB
  rw [Bool.and_eq_true, Bool.and_eq_true, Bool.and_eq_true, inB_t, decide_eq_true_eq]
  refine ⟨⟨⟨(by omega : (1 : Int) ≤ (s.1.length : Int) ∧ (s.1.length : Int) ≤ 12), ?_⟩, h3⟩, chG_snoc _ r (by omega) hr _ _ h4 fun m hm => by cases hm⟩
  simp only [List.length_append, List.length_cons, List.length_nil]
  omega
theorem ap_str {s : tStrand.den} (h : strB s = true) (p : tPiece.den) : strB (apF s p).1 = true := by
  cases hc : strB (s.1 ++ [p], s.2.1, ()) with
  | false => rw [apF_y hc]; exact h
  | true => rw [apF_n hc]; exact hc
theorem d20A_str (s : Cu) : strB (d20A s) = true := by
  unfold strB
  rw [Bool.and_eq_true, Bool.and_eq_true, Bool.and_eq_true, inB_t, decide_eq_true_eq]
  refine ⟨⟨⟨⟨(by decide : (1 : Int) ≤ (2 : Nat)), (by decide : ((2 : Nat) : Int) ≤ 12)⟩, Nat.zero_le _⟩, ?_⟩, chG_nil _ _⟩
  unfold ndB
  rw [List.all_eq_true]
  intro i hi
  have hi : i < 2 := List.mem_range.1 hi
  have hi : i = 0 ∨ i = 1 := by omega
  rcases hi with rfl | rfl
  · rfl
  · unfold d20A
    simp only [List.getD_cons_succ, List.getD_cons_zero, List.take_succ_cons, List.take_zero, hpF, Bool.or_false]
    rw [Bool.not_eq_true', eqC_f]
    intro e
    injection e with _ e
    injection e with e _
    injection e with e _
    exact absurd e (by decide)
def StQ (s : tStrand.den) : Prop := strB s = true ∧ (∀ q, q ∈ s.1 → q.2.1.length ≤ 1000) ∧ (∀ r, r ∈ s.2.1 → r.2.2.2.1.length ≤ 1000 ∧ r.2.2.2.2.1.length ≤ 1000)
theorem StQ.small {s : tStrand.den} (h : StQ s) : Small tStrand 1048576 s := by
  obtain ⟨h1, h2, _⟩ := str_p h.1
  exact st_small ⟨by omega, h.2.1⟩ ⟨by omega, fun r hr => ⟨Nat.le_trans (h.2.2 r hr).1 (by decide), Nat.le_trans (h.2.2 r hr).2 (by decide)⟩⟩
theorem StQ.snoc {s : tStrand.den} (h : StQ s) (hc : s.2.1.length ≤ 7) {r : tRenewal.den} (hr : (r.1 : Int) = (s.1.length : Int)) (h1 : r.2.2.2.1.length ≤ 1000) (h2 : r.2.2.2.2.1.length ≤ 1000) : StQ (s.1, s.2.1 ++ [r], ()) := by
  refine ⟨str_snoc h.1 hc hr, h.2.1, fun q hq => ?_⟩
  rcases List.mem_append.1 hq with hq | hq
  · exact h.2.2 q hq
  · simp only [List.mem_singleton] at hq
    subst hq
    exact ⟨h1, h2⟩
theorem pc_ap {s : tStrand.den} (h : PcS s) (hl : s.1.length ≤ 99) {p : tPiece.den} (hp : p.2.1.length ≤ 1000) : PcS (apF s p).1 ∧ (apF s p).1.1.length ≤ s.1.length + 1 := by
  obtain ⟨⟨g1, g2⟩, g3⟩ := ap_small p h.1 h.2 hp
  exact ⟨⟨⟨by omega, g2⟩, g3⟩, g1⟩
theorem d20S_q (s : Cu) : StQ (d20S s).1.1 ∧ (d20S s).1.1.2.1 = [] := by
  have hA := d20A_pc s
  have hB := d20B_pc s
  have sA := d20A_str s
  have sB := ap_str sA (d20B s)
  have lA : (d20A s).1.length = 2 := rfl
  have lB := (pc_ap hA (by omega) (p := d20B s) (by unfold d20B; simp)).2
  have fin : ∀ x : tStrand.den, PcS x → strB x = true → StQ x ∧ x.2.1 = [] := fun x h1 h2 => ⟨⟨h2, h1.1.2, fun r hr => by rw [h1.2] at hr; cases hr⟩, h1.2⟩
  cases h1 : (dO (dI (d13 s).2 [10, 30, 60, 90]).2 4).1 with
  | false =>
    cases h2 : (dO (dO (dI (d13 s).2 [10, 30, 60, 90]).2 4).2 4).1 with
    | true => rw [d20S_1 h1 h2]; exact fin _ (pc_ap hB (by omega) (Nat.le_trans (d18D_len _).2 (by decide))).1 (ap_str sB _)
    | false => rw [d20S_2 h1 h2]; exact fin _ hB sB
  | true =>
    cases h2 : (dO (dO (dI (d13 s).2 [10, 30, 60, 90]).2 4).2 4).1 with
    | true => rw [d20S_3 h1 h2]; exact fin _ (pc_ap hA (by omega) (Nat.le_trans (d18D_len _).2 (by decide))).1 (ap_str sA _)
    | false => rw [d20S_4 h1 h2]; exact fin _ hA sA
def d20G (s : tStrand.den) (m : Int) : tStrand.den := (s.1, s.2.1 ++ [((s.1.length : Int), m, 0, [], [], ())], ())
def d20R (e : tDocument.den) (z : Cu) (s : tStrand.den) (m tm : Int) : tRenewal.den × Cu :=
  let lf := laF (d20G s m) (dsF (d20G s m) e) (IntKind.i64.wrap (((d20G s m).2.1.length : Int) - 1))
  let o := dO z 3
  let t := d17 o.2 4
  let q := dB t.2 9
  if o.1 = true then (mkR K8 A4 m lf t.1 (s.1.length : Int) [1, 3, 4] q.1 tm, q.2) else (mkR K8 A4 m lf t.1 (s.1.length : Int) [1, 2, 3, 4] q.1 tm, q.2)
theorem d20R_p (e : tDocument.den) (z : Cu) (s : tStrand.den) (m tm : Int) : ((d20R e z s m tm).1.1 : Int) = (s.1.length : Int) ∧ (d20R e z s m tm).1.2.2.2.1.length ≤ 1000 ∧ (d20R e z s m tm).1.2.2.2.2.1.length ≤ 1000 := by
  unfold d20R
  simp only
  split
  · exact ⟨rfl, path_len _ _ _, Nat.le_trans (mkT_all _ _ _ _ _ _) (by decide)⟩
  · exact ⟨rfl, path_len _ _ _, Nat.le_trans (mkT_all _ _ _ _ _ _) (by decide)⟩
theorem spec_AddRenewal_t (s : tStrand.den) (r : tRenewal.den) (hs : Small tStrand 1048576 s) (hr1 : r.2.2.2.1.length ≤ 1048576) (hr2 : r.2.2.2.2.1.length ≤ 1048576) (h : strB (s.1, s.2.1 ++ [r], ()) = true) : FunOK Tryz.prog 102 [⟨tStrand, s⟩, ⟨tRenewal, r⟩] (.tup [.agg [.own 30 tPiece s.1, .fresh 38 tRenewal (s.2.1 ++ [r])], .rd .bool true]) := by
  have h1 := spec_AddRenewal_fr s r hs hr1 hr2
  rw [arF_n h] at h1
  exact h1
theorem l20Renew_ok (z : Cu) (s : tStrand.den) (e : tDocument.den) (m tm : Int) (hQ : StQ s) (hc : s.2.1.length ≤ 7) : MutOK Tryz.prog 70 [none, some 2, some 3, none, none] [.obj (.box 82 [.rd (.list (.int .u8)) (z).b, .rd I (z).i, .rd I (z).h]), .rd ⟨(.list tPiece), s.1⟩, .rd ⟨(.list tRenewal), s.2.1⟩, .rd ⟨I, e.1⟩, .rd ⟨(.list .str), e.2.1⟩, .rd ⟨(.list I), e.2.2.1⟩, .rd ⟨I, m⟩, .rd ⟨I, tm⟩] (.agg [.own 30 tPiece s.1, .fresh 38 tRenewal (s.2.1 ++ [(d20R e z s m tm).1])]) [.box 82 [.rd (.list (.int .u8)) ((d20R e z s m tm).2).b, .rd I ((d20R e z s m tm).2).i, .rd I ((d20R e z s m tm).2).h]] := by
  have hsm := hQ.small
  have hg1 : StQ (d20G s m) := hQ.snoc hc rfl (Nat.zero_le _) (Nat.zero_le _)
  have hsg := hg1.small
  have hl1 : ∀ (l : List Int) (lf q : Int) (ot : List Int), ((mkR K8 A4 m lf ot (s.1.length : Int) l q tm).1 : Int) = (s.1.length : Int) := fun _ _ _ _ => rfl
  have hl2 : ∀ (l : List Int) (lf q : Int) (ot : List Int), (mkR K8 A4 m lf ot (s.1.length : Int) l q tm).2.2.2.1.length ≤ 1048576 := fun _ _ _ _ => Nat.le_trans (path_len _ _ _) (by decide)
  have h17 := d17_len (dO z 3).2 (n := 4) (by decide)
  refine fun_ofM (tb := tb) follows Tryz.func70 (by kernel_rfl) Tryz.ntmps70 rfl rfl (by simp [shOK]) rfl ?_; intro cx hN hw
  simp (disch := exact eqId (by kernel_rfl)) only [go_sem, ↓reduceIte, Nat.reduceAdd, Nat.reduceMul, Nat.reduceLT, Nat.reduceBEq, Nat.reduceLeDiff, Nat.reduceEqDiff, Int.reduceToNat]
  refine callQ_intro (spec_AddRenewal_t s ((s.1.length : Int), m, 0, [], [], ()) hsm (Nat.zero_le _) (Nat.zero_le _) (str_snoc hQ.1 hc rfl)) ?_
  simp (disch := exact eqId (by kernel_rfl)) only [go_sem, ↓reduceIte, Nat.reduceAdd, Nat.reduceMul, Nat.reduceLT, Nat.reduceBEq, Nat.reduceLeDiff, Nat.reduceEqDiff, Int.reduceToNat]
  repeat' (first | (refine And.intro ?_ ?_) | intro _ | (refine callB_intro (spec_DocDigests_ok (d20G s m) e hsg) rfl trivial ?_; try (simp (disch := exact eqId (by kernel_rfl)) only [go_sem, ↓reduceIte, Nat.reduceAdd, Nat.reduceMul, Nat.reduceLT, Nat.reduceBEq, Nat.reduceLeDiff, Nat.reduceEqDiff, Int.reduceToNat])) | (refine callB_intro (spec_LeafAt_ok (d20G s m) _ _ hsg) rfl trivial ?_; try (simp (disch := exact eqId (by kernel_rfl)) only [go_sem, ↓reduceIte, Nat.reduceAdd, Nat.reduceMul, Nat.reduceLT, Nat.reduceBEq, Nat.reduceLeDiff, Nat.reduceEqDiff, Int.reduceToNat])) | (refine callQ_intro (spec_LeafAt_ok (d20G s m) _ _ hsg) ?_; try (simp (disch := exact eqId (by kernel_rfl)) only [go_sem, ↓reduceIte, Nat.reduceAdd, Nat.reduceMul, Nat.reduceLT, Nat.reduceBEq, Nat.reduceLeDiff, Nat.reduceEqDiff, Int.reduceToNat])) | (refine callM_intro (l17Leaves_ok _ 4 (by decide)) ⟨⟨trivial, by decide⟩, rfl, rfl⟩ ?_; try (simp (disch := exact eqId (by kernel_rfl)) only [go_sem, ↓reduceIte, Nat.reduceAdd, Nat.reduceMul, Nat.reduceLT, Nat.reduceBEq, Nat.reduceLeDiff, Nat.reduceEqDiff, Int.reduceToNat])) | (refine callM_intro (dO_ok _ _) ⟨⟨trivial, by decide⟩, rfl, rfl⟩ ?_; try (simp (disch := exact eqId (by kernel_rfl)) only [go_sem, ↓reduceIte, Nat.reduceAdd, Nat.reduceMul, Nat.reduceLT, Nat.reduceBEq, Nat.reduceLeDiff, Nat.reduceEqDiff, Int.reduceToNat])) | (refine callM_intro (dB_ok _ _) ⟨⟨trivial, by decide⟩, rfl, rfl⟩ ?_; try (simp (disch := exact eqId (by kernel_rfl)) only [go_sem, ↓reduceIte, Nat.reduceAdd, Nat.reduceMul, Nat.reduceLT, Nat.reduceBEq, Nat.reduceLeDiff, Nat.reduceEqDiff, Int.reduceToNat])) | (refine callQ_intro (l8Keys_ok) ?_; try (simp (disch := exact eqId (by kernel_rfl)) only [go_sem, ↓reduceIte, Nat.reduceAdd, Nat.reduceMul, Nat.reduceLT, Nat.reduceBEq, Nat.reduceLeDiff, Nat.reduceEqDiff, Int.reduceToNat])) | (refine callH_intro (fun hcc => l8Keys_ok) ?_; try (simp (disch := exact eqId (by kernel_rfl)) only [go_sem, ↓reduceIte, Nat.reduceAdd, Nat.reduceMul, Nat.reduceLT, Nat.reduceBEq, Nat.reduceLeDiff, Nat.reduceEqDiff, Int.reduceToNat])) | (refine callQ_intro (l11Authorities_ok) ?_; try (simp (disch := exact eqId (by kernel_rfl)) only [go_sem, ↓reduceIte, Nat.reduceAdd, Nat.reduceMul, Nat.reduceLT, Nat.reduceBEq, Nat.reduceLeDiff, Nat.reduceEqDiff, Int.reduceToNat])) | (refine callH_intro (fun hcc => l11Authorities_ok) ?_; try (simp (disch := exact eqId (by kernel_rfl)) only [go_sem, ↓reduceIte, Nat.reduceAdd, Nat.reduceMul, Nat.reduceLT, Nat.reduceBEq, Nat.reduceLeDiff, Nat.reduceEqDiff, Int.reduceToNat])) | (refine callQ_intro (l19Make_ok _ _ _ _ _ _ _ _ _ (by omega) (by decide)) ?_; try (simp (disch := exact eqId (by kernel_rfl)) only [go_sem, ↓reduceIte, Nat.reduceAdd, Nat.reduceMul, Nat.reduceLT, Nat.reduceBEq, Nat.reduceLeDiff, Nat.reduceEqDiff, Int.reduceToNat])) | (refine callH_intro (fun hcc => l19Make_ok _ _ _ _ _ _ _ _ _ (by omega) (by decide)) ?_; try (simp (disch := exact eqId (by kernel_rfl)) only [go_sem, ↓reduceIte, Nat.reduceAdd, Nat.reduceMul, Nat.reduceLT, Nat.reduceBEq, Nat.reduceLeDiff, Nat.reduceEqDiff, Int.reduceToNat])) | (refine callQ_intro (spec_AddRenewal_t s (mkR K8 A4 m _ _ (s.1.length : Int) _ _ tm) hsm (hl2 _ _ _ _) (Nat.le_trans (mkT_all _ _ _ _ _ _) (by decide)) (str_snoc hQ.1 hc rfl)) ?_; try (simp (disch := exact eqId (by kernel_rfl)) only [go_sem, ↓reduceIte, Nat.reduceAdd, Nat.reduceMul, Nat.reduceLT, Nat.reduceBEq, Nat.reduceLeDiff, Nat.reduceEqDiff, Int.reduceToNat])) | (refine callH_intro (fun hcc => spec_AddRenewal_t s (mkR K8 A4 m _ _ (s.1.length : Int) _ _ tm) hsm (hl2 _ _ _ _) (Nat.le_trans (mkT_all _ _ _ _ _ _) (by decide)) (str_snoc hQ.1 hc rfl)) ?_; try (simp (disch := exact eqId (by kernel_rfl)) only [go_sem, ↓reduceIte, Nat.reduceAdd, Nat.reduceMul, Nat.reduceLT, Nat.reduceBEq, Nat.reduceLeDiff, Nat.reduceEqDiff, Int.reduceToNat])))
  all_goals (try omega)
  all_goals (try (show Nat.ble _ _ = true; rfl))
  all_goals (try (unfold d20R; simp only [*, ↓reduceIte, Bool.false_eq_true]; done))
  all_goals (try (unfold d20R; simp only [*, ↓reduceIte, Bool.false_eq_true]; rfl))
  all_goals trace_state
noncomputable def d20L (e : tDocument.den) : Nat → Cu → tStrand.den → Int → tStrand.den × Cu
  | 0, z, s, _ => (s, z)
  | n + 1, z, s, v => d20L e n (dI (d20R e (dB z 4).2 s (IntKind.i64.wrap (1 + (dB z 4).1)) v).2 [10, 20, 40]).2 (s.1, s.2.1 ++ [(d20R e (dB z 4).2 s (IntKind.i64.wrap (1 + (dB z 4).1)) v).1], ()) (IntKind.i64.wrap (v + (dI (d20R e (dB z 4).2 s (IntKind.i64.wrap (1 + (dB z 4).1)) v).2 [10, 20, 40]).1))
theorem d20L_q (e : tDocument.den) : ∀ (n : Nat) (z : Cu) (s : tStrand.den) (v : Int), StQ s → s.2.1.length + n ≤ 8 → StQ (d20L e n z s v).1 ∧ (d20L e n z s v).1.2.1.length = s.2.1.length + n
  | 0, z, s, v, h, _ => ⟨h, rfl⟩
  | n + 1, z, s, v, h, hl => by
    obtain ⟨g1, g2, g3⟩ := d20R_p e (dB z 4).2 s (IntKind.i64.wrap (1 + (dB z 4).1)) v
    have hq := h.snoc (by omega) g1 g2 g3
    have hlen : ((s.1, s.2.1 ++ [(d20R e (dB z 4).2 s (IntKind.i64.wrap (1 + (dB z 4).1)) v).1], ()) : tStrand.den).2.1.length = s.2.1.length + 1 := by simp
    rw [d20L]
    obtain ⟨k1, k2⟩ := d20L_q e n _ _ (IntKind.i64.wrap (v + (dI (d20R e (dB z 4).2 s (IntKind.i64.wrap (1 + (dB z 4).1)) v).2 [10, 20, 40]).1)) hq (by omega)
    exact ⟨k1, by rw [k2, hlen]; omega⟩
noncomputable def d20M (s : Cu) : Int × Cu := dB (dI (d20S s).2 [10, 25, 30]).2 4
noncomputable def d20D (s : Cu) : (tStrand.den × tDocument.den × tSignature.den) × Cu :=
  let l := d20L (d20S s).1.2.1 (d20M s).1.toNat (d20M s).2 (d20S s).1.1 (dI (d20S s).2 [10, 25, 30]).1
  ((l.1, (d20S s).1.2.1, (d20S s).1.2.2), l.2)
theorem d20D_q (s : Cu) : StQ (d20D s).1.1 ∧ (d20D s).1.1.2.1.length = (d20M s).1.toNat := by
  obtain ⟨h1, h2⟩ := d20S_q s
  have h3 : 0 ≤ (d20M s).1 ∧ (d20M s).1 < 4 := dB_in _ (by decide)
  have h4 : (d20S s).1.1.2.1.length = 0 := by rw [h2]; rfl
  obtain ⟨k1, k2⟩ := d20L_q (d20S s).1.2.1 (d20M s).1.toNat (d20M s).2 (d20S s).1.1 (dI (d20S s).2 [10, 25, 30]).1 h1 (by omega)
  exact ⟨k1, by rw [h4] at k2; unfold d20D; simp only; omega⟩
theorem l20Draw_o (s : Cu) (hm0 : 0 ≤ (d20M s).1) : MutOK Tryz.prog 46 [none] [.obj (.box 82 [.rd (.list (.int .u8)) (s).b, .rd I (s).i, .rd I (s).h])] (.tup [.agg [.own 30 tPiece (d20D s).1.1.1, .own 38 tRenewal (d20D s).1.1.2.1], .rd tDocument (d20D s).1.2.1, .rd tSignature (d20D s).1.2.2]) [.box 82 [.rd (.list (.int .u8)) ((d20D s).2).b, .rd I ((d20D s).2).i, .rd I ((d20D s).2).h]] := by
  obtain ⟨hq0, hq1⟩ := d20S_q s
  have hm1 : 0 ≤ (d20M s).1 ∧ (d20M s).1 < 4 := dB_in _ (by decide)
  refine fun_ofMS (tb := tb) follows Tryz.func46 (by kernel_rfl) Tryz.ntmps46 rfl rfl (by simp [shOK]) rfl ?_; intro cx hN hw
  simp (disch := exact eqId (by kernel_rfl)) only [go_sem, ↓reduceIte, Nat.reduceAdd, Nat.reduceMul, Nat.reduceLT, Nat.reduceBEq, Nat.reduceLeDiff, Nat.reduceEqDiff, Int.reduceToNat]
  refine callM_intro (l20Signed_ok s) ⟨⟨trivial, by decide⟩, rfl, rfl⟩ ?_
  simp (disch := exact eqId (by kernel_rfl)) only [go_sem, ↓reduceIte, Nat.reduceAdd, Nat.reduceMul, Nat.reduceLT, Nat.reduceBEq, Nat.reduceLeDiff, Nat.reduceEqDiff, Int.reduceToNat]
  refine callM_intro (dI_ok _ [10, 25, 30] (by decide)) ⟨⟨trivial, by decide⟩, rfl, rfl⟩ ?_
  simp (disch := exact eqId (by kernel_rfl)) only [go_sem, ↓reduceIte, Nat.reduceAdd, Nat.reduceMul, Nat.reduceLT, Nat.reduceBEq, Nat.reduceLeDiff, Nat.reduceEqDiff, Int.reduceToNat]
  refine callM_intro (dB_ok _ _) ⟨⟨trivial, by decide⟩, rfl, rfl⟩ ?_
  simp (disch := exact eqId (by kernel_rfl)) only [go_sem, ↓reduceIte, Nat.reduceAdd, Nat.reduceMul, Nat.reduceLT, Nat.reduceBEq, Nat.reduceLeDiff, Nat.reduceEqDiff, Int.reduceToNat]
  refine loop_intro (tb := tb) follows hN (D := Int × Cu × tStrand.den × Int) (fun d => shp [(0, .bp 0 0), (2, .bp 10000 0), (3, .bp 10016 0), (4, .bp 10032 0), (5, .bp 20096 0), (6, .bp 20112 0), (7, .bp 20128 0), (8, .rd I (d.2.2.2 : Int)), (9, .rd I (d.1 : Int))] [(0, .box 82 [.rd (.list (.int .u8)) (d.2.1).b, .rd I (d.2.1).i, .rd I (d.2.1).h]), (10000, .box 27 [.nils, .nils]), (10016, .box 47 [.rd I (0), .nils, .nils]), (10032, .box 63 [.rd I (0), .rd I (0), .rd I (0), .rd I (0), .rd I (0), .rd I (0), .rd I (0), .rd I (0), .rd I (0)]), (20016, .row 30 tPiece d.2.2.1.1), (20017, .row 38 tRenewal d.2.2.1.2.1), (20096, .box 27 [.own 20016, .own 20017]), (20112, .box 47 [.rd I (d20S s).1.2.1.1, .rd (.list .str) (d20S s).1.2.1.2.1, .rd (.list I) (d20S s).1.2.1.2.2.1]), (20128, .box 63 [.rd I (d20S s).1.2.2.1, .rd I (d20S s).1.2.2.2.1, .rd I (d20S s).1.2.2.2.2.1, .rd I (d20S s).1.2.2.2.2.2.1, .rd I (d20S s).1.2.2.2.2.2.2.1, .rd I (d20S s).1.2.2.2.2.2.2.2.1, .rd I (d20S s).1.2.2.2.2.2.2.2.2.1, .rd I (d20S s).1.2.2.2.2.2.2.2.2.2.1, .rd I (d20S s).1.2.2.2.2.2.2.2.2.2.2.1])]) (fun d => (StQ d.2.2.1 ∧ d.2.2.1.2.1.length + d.1.toNat ≤ 7 ∧ 0 ≤ d.1) ∧ d20L (d20S s).1.2.1 (d20M s).1.toNat (d20M s).2 (d20S s).1.1 (dI (d20S s).2 [10, 25, 30]).1 = d20L (d20S s).1.2.1 d.1.toNat d.2.1 d.2.2.1 d.2.2.2) (fun d => d.1.toNat) (((d20M s).1, (d20M s).2, (d20S s).1.1, (dI (d20S s).2 [10, 25, 30]).1)) ?_ (sub_shp hN [(10000, some 10000), (10016, some 10016), (10032, some 10032), (0, some 0), (20096, some 20096), (20016, some 20016), (20017, some 20017), (20112, some 20112), (20128, some 20128)] ?_) (fun d hd => ?_)
  · refine ⟨⟨hq0, ?_, hm1.1⟩, rfl⟩
    simp only
    rw [hq1, List.length_nil]
    omega
  · simp (disch := exact eqId (by kernel_rfl)) only [go_sem, ↓reduceIte, Nat.reduceAdd, Nat.reduceMul, Nat.reduceLT, Nat.reduceBEq, Nat.reduceLeDiff, Nat.reduceEqDiff, Int.reduceToNat]
    try exact ⟨rfl, rfl, rfl⟩
    try trivial
    try (refine ⟨rfl, rfl⟩)
    try rfl
  · obtain ⟨r, z, q, v⟩ := d
    obtain ⟨⟨g1, g2, g3⟩, g4⟩ := hd
    simp only at g1 g2 g3 g4
    simp (disch := exact eqId (by kernel_rfl)) only [go_sem, ↓reduceIte, Nat.reduceAdd, Nat.reduceMul, Nat.reduceLT, Nat.reduceBEq, Nat.reduceLeDiff, Nat.reduceEqDiff, Int.reduceToNat]
    repeat' (first | (refine And.intro ?_ ?_) | intro _ | (refine callM_intro (dB_ok _ _) ⟨⟨trivial, by decide⟩, rfl, rfl⟩ ?_; try (simp (disch := exact eqId (by kernel_rfl)) only [go_sem, ↓reduceIte, Nat.reduceAdd, Nat.reduceMul, Nat.reduceLT, Nat.reduceBEq, Nat.reduceLeDiff, Nat.reduceEqDiff, Int.reduceToNat])) | (refine callM_intro (l20Renew_ok _ q (d20S s).1.2.1 _ _ g1 (by omega)) ⟨⟨trivial, by decide⟩, rfl, rfl⟩ ?_; try (simp (disch := exact eqId (by kernel_rfl)) only [go_sem, ↓reduceIte, Nat.reduceAdd, Nat.reduceMul, Nat.reduceLT, Nat.reduceBEq, Nat.reduceLeDiff, Nat.reduceEqDiff, Int.reduceToNat])) | (refine callM_intro (dI_ok _ [10, 20, 40] (by decide)) ⟨⟨trivial, by decide⟩, rfl, rfl⟩ ?_; try (simp (disch := exact eqId (by kernel_rfl)) only [go_sem, ↓reduceIte, Nat.reduceAdd, Nat.reduceMul, Nat.reduceLT, Nat.reduceBEq, Nat.reduceLeDiff, Nat.reduceEqDiff, Int.reduceToNat])))
    all_goals (try omega)
    · rename_i hr
      obtain ⟨p1, p2, p3⟩ := d20R_p (d20S s).1.2.1 (dB z 4).2 q (IntKind.i64.wrap (1 + (dB z 4).1)) v
      have hn := g1.snoc (by omega) p1 p2 p3
      have e : r.toNat = (r - 1).toNat + 1 := by omega
      refine back_intro ((r - 1, (dI (d20R (d20S s).1.2.1 (dB z 4).2 q (IntKind.i64.wrap (1 + (dB z 4).1)) v).2 [10, 20, 40]).2, (q.1, q.2.1 ++ [(d20R (d20S s).1.2.1 (dB z 4).2 q (IntKind.i64.wrap (1 + (dB z 4).1)) v).1], ()), IntKind.i64.wrap (v + (dI (d20R (d20S s).1.2.1 (dB z 4).2 q (IntKind.i64.wrap (1 + (dB z 4).1)) v).2 [10, 20, 40]).1))) ?_ ?_ (sub_settle (sub_shp hN [(10000, some 10000), (10016, some 10016), (10032, some 10032), (0, some 0), (20096, some 20096), (20016, some 70112), (20017, some 70113), (20112, some 20112), (20128, some 20128)] ?_))
      · refine ⟨⟨hn, ?_, by simp only; omega⟩, ?_⟩
        · simp only [List.length_append, List.length_cons, List.length_nil]; omega
        · simp only
          rw [g4, e, d20L]
      · simp only; omega
      · simp (disch := exact eqId (by kernel_rfl)) only [go_sem, ↓reduceIte, Nat.reduceAdd, Nat.reduceMul, Nat.reduceLT, Nat.reduceBEq, Nat.reduceLeDiff, Nat.reduceEqDiff, Int.reduceToNat]
        first | exact wrap_i64 (by omega) (by omega) | trace_state
    all_goals (try (show Nat.ble _ _ = true; rfl))
    all_goals
      rename_i hr
      rw [show r.toNat = 0 from by omega, d20L] at g4
      unfold d20D
      simp only [g4]
theorem l20Draw_f (s : Cu) (hm0 : 0 < (d20M s).1) : MutOK Tryz.prog 46 [none] [.obj (.box 82 [.rd (.list (.int .u8)) (s).b, .rd I (s).i, .rd I (s).h])] (.tup [.agg [.own 30 tPiece (d20D s).1.1.1, .fresh 38 tRenewal (d20D s).1.1.2.1], .rd tDocument (d20D s).1.2.1, .rd tSignature (d20D s).1.2.2]) [.box 82 [.rd (.list (.int .u8)) ((d20D s).2).b, .rd I ((d20D s).2).i, .rd I ((d20D s).2).h]] := by
  obtain ⟨hq0, hq1⟩ := d20S_q s
  have hm1 : 0 ≤ (d20M s).1 ∧ (d20M s).1 < 4 := dB_in _ (by decide)
  refine fun_ofM (tb := tb) follows Tryz.func46 (by kernel_rfl) Tryz.ntmps46 rfl rfl (by simp [shOK]) rfl ?_; intro cx hN hw
  simp (disch := exact eqId (by kernel_rfl)) only [go_sem, ↓reduceIte, Nat.reduceAdd, Nat.reduceMul, Nat.reduceLT, Nat.reduceBEq, Nat.reduceLeDiff, Nat.reduceEqDiff, Int.reduceToNat]
  refine callM_intro (l20Signed_ok s) ⟨⟨trivial, by decide⟩, rfl, rfl⟩ ?_
  simp (disch := exact eqId (by kernel_rfl)) only [go_sem, ↓reduceIte, Nat.reduceAdd, Nat.reduceMul, Nat.reduceLT, Nat.reduceBEq, Nat.reduceLeDiff, Nat.reduceEqDiff, Int.reduceToNat]
  refine callM_intro (dI_ok _ [10, 25, 30] (by decide)) ⟨⟨trivial, by decide⟩, rfl, rfl⟩ ?_
  simp (disch := exact eqId (by kernel_rfl)) only [go_sem, ↓reduceIte, Nat.reduceAdd, Nat.reduceMul, Nat.reduceLT, Nat.reduceBEq, Nat.reduceLeDiff, Nat.reduceEqDiff, Int.reduceToNat]
  refine callM_intro (dB_ok _ _) ⟨⟨trivial, by decide⟩, rfl, rfl⟩ ?_
  simp (disch := exact eqId (by kernel_rfl)) only [go_sem, ↓reduceIte, Nat.reduceAdd, Nat.reduceMul, Nat.reduceLT, Nat.reduceBEq, Nat.reduceLeDiff, Nat.reduceEqDiff, Int.reduceToNat]
  refine loop_intro (tb := tb) follows hN (D := Int × Cu × tStrand.den × Int) (fun d => shp [(0, .bp 0 0), (2, .bp 10000 0), (3, .bp 10016 0), (4, .bp 10032 0), (5, .bp 20096 0), (6, .bp 20112 0), (7, .bp 20128 0), (8, .rd I (d.2.2.2 : Int)), (9, .rd I (d.1 : Int))] [(0, .box 82 [.rd (.list (.int .u8)) (d.2.1).b, .rd I (d.2.1).i, .rd I (d.2.1).h]), (10000, .box 27 [.nils, .nils]), (10016, .box 47 [.rd I (0), .nils, .nils]), (10032, .box 63 [.rd I (0), .rd I (0), .rd I (0), .rd I (0), .rd I (0), .rd I (0), .rd I (0), .rd I (0), .rd I (0)]), (20016, .row 30 tPiece d.2.2.1.1), (20017, if d.1 > 0 then .row 38 tRenewal d.2.2.1.2.1 else .arr 38 tRenewal d.2.2.1.2.1), (20096, .box 27 [.own 20016, .own 20017]), (20112, .box 47 [.rd I (d20S s).1.2.1.1, .rd (.list .str) (d20S s).1.2.1.2.1, .rd (.list I) (d20S s).1.2.1.2.2.1]), (20128, .box 63 [.rd I (d20S s).1.2.2.1, .rd I (d20S s).1.2.2.2.1, .rd I (d20S s).1.2.2.2.2.1, .rd I (d20S s).1.2.2.2.2.2.1, .rd I (d20S s).1.2.2.2.2.2.2.1, .rd I (d20S s).1.2.2.2.2.2.2.2.1, .rd I (d20S s).1.2.2.2.2.2.2.2.2.1, .rd I (d20S s).1.2.2.2.2.2.2.2.2.2.1, .rd I (d20S s).1.2.2.2.2.2.2.2.2.2.2.1])]) (fun d => (StQ d.2.2.1 ∧ d.2.2.1.2.1.length + d.1.toNat ≤ 7 ∧ 0 ≤ d.1) ∧ d20L (d20S s).1.2.1 (d20M s).1.toNat (d20M s).2 (d20S s).1.1 (dI (d20S s).2 [10, 25, 30]).1 = d20L (d20S s).1.2.1 d.1.toNat d.2.1 d.2.2.1 d.2.2.2) (fun d => d.1.toNat) (((d20M s).1, (d20M s).2, (d20S s).1.1, (dI (d20S s).2 [10, 25, 30]).1)) ?_ (sub_shp hN [(10000, some 10000), (10016, some 10016), (10032, some 10032), (0, some 0), (20096, some 20096), (20016, some 20016), (20017, some 20017), (20112, some 20112), (20128, some 20128)] ?_) (fun d hd => ?_)
  · refine ⟨⟨hq0, ?_, hm1.1⟩, rfl⟩
    simp only
    rw [hq1, List.length_nil]
    omega
  · simp only [gt_iff_lt, if_pos hm0]
    simp (disch := exact eqId (by kernel_rfl)) only [go_sem, ↓reduceIte, Nat.reduceAdd, Nat.reduceMul, Nat.reduceLT, Nat.reduceBEq, Nat.reduceLeDiff, Nat.reduceEqDiff, Int.reduceToNat]
    try exact ⟨rfl, rfl, rfl⟩
    try trivial
    try (refine ⟨rfl, rfl⟩)
    try rfl
  · obtain ⟨r, z, q, v⟩ := d
    obtain ⟨⟨g1, g2, g3⟩, g4⟩ := hd
    simp only at g1 g2 g3 g4
    by_cases hr0 : r > 0
    · simp only [if_pos hr0]
      simp (disch := exact eqId (by kernel_rfl)) only [go_sem, ↓reduceIte, Nat.reduceAdd, Nat.reduceMul, Nat.reduceLT, Nat.reduceBEq, Nat.reduceLeDiff, Nat.reduceEqDiff, Int.reduceToNat]
      repeat' (first | (refine And.intro ?_ ?_) | intro _ | (exfalso; omega) | (refine callM_intro (dB_ok _ _) ⟨⟨trivial, by decide⟩, rfl, rfl⟩ ?_; try (simp (disch := exact eqId (by kernel_rfl)) only [go_sem, ↓reduceIte, Nat.reduceAdd, Nat.reduceMul, Nat.reduceLT, Nat.reduceBEq, Nat.reduceLeDiff, Nat.reduceEqDiff, Int.reduceToNat])) | (refine callM_intro (l20Renew_ok _ q (d20S s).1.2.1 _ _ g1 (by omega)) ⟨⟨trivial, by decide⟩, rfl, rfl⟩ ?_; try (simp (disch := exact eqId (by kernel_rfl)) only [go_sem, ↓reduceIte, Nat.reduceAdd, Nat.reduceMul, Nat.reduceLT, Nat.reduceBEq, Nat.reduceLeDiff, Nat.reduceEqDiff, Int.reduceToNat])) | (refine callM_intro (dI_ok _ [10, 20, 40] (by decide)) ⟨⟨trivial, by decide⟩, rfl, rfl⟩ ?_; try (simp (disch := exact eqId (by kernel_rfl)) only [go_sem, ↓reduceIte, Nat.reduceAdd, Nat.reduceMul, Nat.reduceLT, Nat.reduceBEq, Nat.reduceLeDiff, Nat.reduceEqDiff, Int.reduceToNat])))
      all_goals (try (exfalso; omega))
      all_goals (try omega)
      obtain ⟨p1, p2, p3⟩ := d20R_p (d20S s).1.2.1 (dB z 4).2 q (IntKind.i64.wrap (1 + (dB z 4).1)) v
      have hn := g1.snoc (by omega) p1 p2 p3
      have e : r.toNat = (r - 1).toNat + 1 := by omega
      by_cases h1 : r - 1 > 0
      · refine back_intro ((r - 1, (dI (d20R (d20S s).1.2.1 (dB z 4).2 q (IntKind.i64.wrap (1 + (dB z 4).1)) v).2 [10, 20, 40]).2, (q.1, q.2.1 ++ [(d20R (d20S s).1.2.1 (dB z 4).2 q (IntKind.i64.wrap (1 + (dB z 4).1)) v).1], ()), IntKind.i64.wrap (v + (dI (d20R (d20S s).1.2.1 (dB z 4).2 q (IntKind.i64.wrap (1 + (dB z 4).1)) v).2 [10, 20, 40]).1))) ?_ ?_ (sub_settle (sub_shp hN [(10000, some 10000), (10016, some 10016), (10032, some 10032), (0, some 0), (20096, some 20096), (20016, some 70112), (20017, some 70113), (20112, some 20112), (20128, some 20128)] ?_))
        · refine ⟨⟨hn, ?_, by simp only; omega⟩, ?_⟩
          · simp only [List.length_append, List.length_cons, List.length_nil]; omega
          · simp only
            rw [g4, e, d20L]
        · simp only; omega
        · simp only [if_pos h1]
          simp (disch := exact eqId (by kernel_rfl)) only [go_sem, ↓reduceIte, Nat.reduceAdd, Nat.reduceMul, Nat.reduceLT, Nat.reduceBEq, Nat.reduceLeDiff, Nat.reduceEqDiff, Int.reduceToNat]
          first | exact wrap_i64 (by omega) (by omega) | trace_state
      · refine back_intro ((r - 1, (dI (d20R (d20S s).1.2.1 (dB z 4).2 q (IntKind.i64.wrap (1 + (dB z 4).1)) v).2 [10, 20, 40]).2, (q.1, q.2.1 ++ [(d20R (d20S s).1.2.1 (dB z 4).2 q (IntKind.i64.wrap (1 + (dB z 4).1)) v).1], ()), IntKind.i64.wrap (v + (dI (d20R (d20S s).1.2.1 (dB z 4).2 q (IntKind.i64.wrap (1 + (dB z 4).1)) v).2 [10, 20, 40]).1))) ?_ ?_ (sub_shp hN [(10000, some 10000), (10016, some 10016), (10032, some 10032), (0, some 0), (20096, some 20096), (20016, some 70112), (20017, some 70113), (20112, some 20112), (20128, some 20128)] ?_)
        · refine ⟨⟨hn, ?_, by simp only; omega⟩, ?_⟩
          · simp only [List.length_append, List.length_cons, List.length_nil]; omega
          · simp only
            rw [g4, e, d20L]
        · simp only; omega
        · simp only [if_neg h1]
          simp (disch := exact eqId (by kernel_rfl)) only [go_sem, ↓reduceIte, Nat.reduceAdd, Nat.reduceMul, Nat.reduceLT, Nat.reduceBEq, Nat.reduceLeDiff, Nat.reduceEqDiff, Int.reduceToNat]
          first | exact wrap_i64 (by omega) (by omega) | trace_state
    · simp only [if_neg hr0]
      simp (disch := exact eqId (by kernel_rfl)) only [go_sem, ↓reduceIte, Nat.reduceAdd, Nat.reduceMul, Nat.reduceLT, Nat.reduceBEq, Nat.reduceLeDiff, Nat.reduceEqDiff, Int.reduceToNat]
      repeat' (first | (refine And.intro ?_ ?_) | intro _ | (exfalso; omega) | (refine callM_intro (dB_ok _ _) ⟨⟨trivial, by decide⟩, rfl, rfl⟩ ?_; try (simp (disch := exact eqId (by kernel_rfl)) only [go_sem, ↓reduceIte, Nat.reduceAdd, Nat.reduceMul, Nat.reduceLT, Nat.reduceBEq, Nat.reduceLeDiff, Nat.reduceEqDiff, Int.reduceToNat])) | (refine callM_intro (l20Renew_ok _ q (d20S s).1.2.1 _ _ g1 (by omega)) ⟨⟨trivial, by decide⟩, rfl, rfl⟩ ?_; try (simp (disch := exact eqId (by kernel_rfl)) only [go_sem, ↓reduceIte, Nat.reduceAdd, Nat.reduceMul, Nat.reduceLT, Nat.reduceBEq, Nat.reduceLeDiff, Nat.reduceEqDiff, Int.reduceToNat])) | (refine callM_intro (dI_ok _ [10, 20, 40] (by decide)) ⟨⟨trivial, by decide⟩, rfl, rfl⟩ ?_; try (simp (disch := exact eqId (by kernel_rfl)) only [go_sem, ↓reduceIte, Nat.reduceAdd, Nat.reduceMul, Nat.reduceLT, Nat.reduceBEq, Nat.reduceLeDiff, Nat.reduceEqDiff, Int.reduceToNat])))
      all_goals (try (exfalso; omega))
      all_goals (try (show Nat.ble _ _ = true; rfl))
      all_goals
        rw [show r.toNat = 0 from by omega, d20L] at g4
        unfold d20D
        simp only [g4]
end Go.Proofs.YtblnngjdoifgkaaGreat
/- What draws of bent strands answer. It proves nothing of a statement by itself. -/
set_option linter.unusedSimpArgs false
set_option linter.unusedVariables false
set_option maxRecDepth 100000
namespace Go.Proofs.YtblnngjdoifgkaaGreat
open Go.AL
noncomputable def d20 (s : Cu) : (tStrand.den × tDocument.den × tSignature.den) × Cu :=
  let x := d20D s
  let k := dB x.2 8
  let i := dB k.2 (x.1.1.2.1.length : Int)
  if k.1 = 0 then (((x.1.1.1 ++ [(d18 k.2).1], x.1.1.2.1, ()), x.1.2.1, x.1.2.2), (d18 k.2).2)
  else if k.1 = 1 then (((x.1.1.1 ++ [x.1.1.1.getD 0 (0, [], 0, ())], x.1.1.2.1, ()), x.1.2.1, x.1.2.2), k.2)
  else if k.1 = 2 then (if (x.1.1.2.1.length : Int) > 0 then (((x.1.1.1, x.1.1.2.1.set i.1.toNat (d19B i.2 (x.1.1.2.1.getD i.1.toNat (0, 0, 0, [], [], ()))).1, ()), x.1.2.1, x.1.2.2), (d19B i.2 (x.1.1.2.1.getD i.1.toNat (0, 0, 0, [], [], ()))).2) else (((x.1.1.1, x.1.1.2.1, ()), x.1.2.1, x.1.2.2), k.2))
  else if k.1 = 3 then (if (x.1.1.2.1.length : Int) > 0 then (((x.1.1.1, x.1.1.2.1.drop 1, ()), x.1.2.1, x.1.2.2), k.2) else (((x.1.1.1, x.1.1.2.1, ()), x.1.2.1, x.1.2.2), k.2))
  else (((x.1.1.1, x.1.1.2.1, ()), x.1.2.1, x.1.2.2), k.2)
set_option maxHeartbeats 4000000 in
theorem l20Any_ok (s : Cu) : MutOK Tryz.prog 23 [none] [.obj (.box 82 [.rd (.list (.int .u8)) (s).b, .rd I (s).i, .rd I (s).h])] (.tup [.rd tStrand (d20 s).1.1, .rd tDocument (d20 s).1.2.1, .rd tSignature (d20 s).1.2.2]) [.box 82 [.rd (.list (.int .u8)) ((d20 s).2).b, .rd I ((d20 s).2).i, .rd I ((d20 s).2).h]] := by
  obtain ⟨hQ, hlen⟩ := d20D_q s
  obtain ⟨hp1, hc1, _, _⟩ := str_p hQ.1
  have hm1 : 0 ≤ (d20M s).1 ∧ (d20M s).1 < 4 := dB_in _ (by decide)
  have hpc : ∀ k, k < (d20D s).1.1.1.length → ((d20D s).1.1.1.getD k (0, [], 0, ())).2.1.length ≤ 1048576 := fun k h => Nat.le_trans (hQ.2.1 _ (getD_mem h _)) (by decide)
  have hch : ∀ k, k < (d20D s).1.1.2.1.length → ((d20D s).1.1.2.1.getD k (0, 0, 0, [], [], ())).2.2.2.1.length ≤ 1048576 ∧ ((d20D s).1.1.2.1.getD k (0, 0, 0, [], [], ())).2.2.2.2.1.length ≤ 1048576 := fun k h => ⟨Nat.le_trans (hQ.2.2 _ (getD_mem h _)).1 (by decide), Nat.le_trans (hQ.2.2 _ (getD_mem h _)).2 (by decide)⟩
  have hbi : 0 < (d20D s).1.1.2.1.length → 0 ≤ (dB (dB (d20D s).2 8).2 ((d20D s).1.1.2.1.length : Int)).1 ∧ (dB (dB (d20D s).2 8).2 ((d20D s).1.1.2.1.length : Int)).1 < ((d20D s).1.1.2.1.length : Int) := fun h => dB_in _ (by omega)
  by_cases hk : 0 < (d20M s).1 ∧ ¬ (dB (d20D s).2 8).1 = 3
  · obtain ⟨hk1, hk⟩ := hk
    refine fun_ofMS (tb := tb) follows Tryz.func23 (by kernel_rfl) Tryz.ntmps23 rfl rfl (by simp [shOK]) rfl ?_; intro cx hN hw
    simp (disch := exact eqId (by kernel_rfl)) only [go_sem, ↓reduceIte, Nat.reduceAdd, Nat.reduceMul, Nat.reduceLT, Nat.reduceBEq, Nat.reduceLeDiff, Nat.reduceEqDiff, Int.reduceToNat]
    refine callM_intro (l20Draw_f s hk1) ⟨⟨trivial, by decide⟩, rfl, rfl⟩ ?_
    simp (disch := exact eqId (by kernel_rfl)) only [go_sem, ↓reduceIte, Nat.reduceAdd, Nat.reduceMul, Nat.reduceLT, Nat.reduceBEq, Nat.reduceLeDiff, Nat.reduceEqDiff, Int.reduceToNat]
    repeat' (first | (refine And.intro ?_ ?_) | intro _ | (exfalso; omega) | (refine callM_intro (dB_ok _ _) ⟨⟨trivial, by decide⟩, rfl, rfl⟩ ?_; try (simp (disch := exact eqId (by kernel_rfl)) only [go_sem, ↓reduceIte, Nat.reduceAdd, Nat.reduceMul, Nat.reduceLT, Nat.reduceBEq, Nat.reduceLeDiff, Nat.reduceEqDiff, Int.reduceToNat])) | (refine callM_intro (l18Any_ok _) ⟨⟨trivial, by decide⟩, rfl, rfl⟩ ?_; try (simp (disch := exact eqId (by kernel_rfl)) only [go_sem, ↓reduceIte, Nat.reduceAdd, Nat.reduceMul, Nat.reduceLT, Nat.reduceBEq, Nat.reduceLeDiff, Nat.reduceEqDiff, Int.reduceToNat])) | (refine callM_intro (l19Bend_ok _ _ (hch _ (by omega)).1 (hch _ (by omega)).2) ⟨⟨trivial, by decide⟩, rfl, rfl⟩ ?_; try (simp (disch := exact eqId (by kernel_rfl)) only [go_sem, ↓reduceIte, Nat.reduceAdd, Nat.reduceMul, Nat.reduceLT, Nat.reduceBEq, Nat.reduceLeDiff, Nat.reduceEqDiff, Int.reduceToNat])) | (refine callQ_intro (l18Copy_ok _ (hpc _ (by omega))) ?_; try (simp (disch := exact eqId (by kernel_rfl)) only [go_sem, ↓reduceIte, Nat.reduceAdd, Nat.reduceMul, Nat.reduceLT, Nat.reduceBEq, Nat.reduceLeDiff, Nat.reduceEqDiff, Int.reduceToNat])) | (refine callH_intro (fun hcc => l18Copy_ok _ (hpc _ (by omega))) ?_; try (simp (disch := exact eqId (by kernel_rfl)) only [go_sem, ↓reduceIte, Nat.reduceAdd, Nat.reduceMul, Nat.reduceLT, Nat.reduceBEq, Nat.reduceLeDiff, Nat.reduceEqDiff, Int.reduceToNat])))
    all_goals (try (exfalso; omega))
    all_goals (try omega)
    all_goals (try (simp only [List.length_append, List.length_cons, List.length_nil]; omega))
    all_goals (try (show Nat.ble _ _ = true; rfl))
    all_goals (clear hQ hlen hp1 hc1 hpc hch hbi hm1)
    all_goals (try (unfold d20; simp only [*, ↓reduceIte, true_or, or_true]; done))
    all_goals (try (unfold d20; simp (decide := true) only [*, ↓reduceIte, true_or, or_true]; done))
    all_goals trace_state
  · refine fun_ofMS (tb := tb) follows Tryz.func23 (by kernel_rfl) Tryz.ntmps23 rfl rfl (by simp [shOK]) rfl ?_; intro cx hN hw
    simp (disch := exact eqId (by kernel_rfl)) only [go_sem, ↓reduceIte, Nat.reduceAdd, Nat.reduceMul, Nat.reduceLT, Nat.reduceBEq, Nat.reduceLeDiff, Nat.reduceEqDiff, Int.reduceToNat]
    refine callM_intro (l20Draw_o s hm1.1) ⟨⟨trivial, by decide⟩, rfl, rfl⟩ ?_
    simp (disch := exact eqId (by kernel_rfl)) only [go_sem, ↓reduceIte, Nat.reduceAdd, Nat.reduceMul, Nat.reduceLT, Nat.reduceBEq, Nat.reduceLeDiff, Nat.reduceEqDiff, Int.reduceToNat]
    repeat' (first | (refine And.intro ?_ ?_) | intro _ | (exfalso; omega) | (refine callM_intro (dB_ok _ _) ⟨⟨trivial, by decide⟩, rfl, rfl⟩ ?_; try (simp (disch := exact eqId (by kernel_rfl)) only [go_sem, ↓reduceIte, Nat.reduceAdd, Nat.reduceMul, Nat.reduceLT, Nat.reduceBEq, Nat.reduceLeDiff, Nat.reduceEqDiff, Int.reduceToNat])) | (refine callM_intro (l18Any_ok _) ⟨⟨trivial, by decide⟩, rfl, rfl⟩ ?_; try (simp (disch := exact eqId (by kernel_rfl)) only [go_sem, ↓reduceIte, Nat.reduceAdd, Nat.reduceMul, Nat.reduceLT, Nat.reduceBEq, Nat.reduceLeDiff, Nat.reduceEqDiff, Int.reduceToNat])) | (refine callM_intro (l19Bend_ok _ _ (hch _ (by omega)).1 (hch _ (by omega)).2) ⟨⟨trivial, by decide⟩, rfl, rfl⟩ ?_; try (simp (disch := exact eqId (by kernel_rfl)) only [go_sem, ↓reduceIte, Nat.reduceAdd, Nat.reduceMul, Nat.reduceLT, Nat.reduceBEq, Nat.reduceLeDiff, Nat.reduceEqDiff, Int.reduceToNat])) | (refine callQ_intro (l18Copy_ok _ (hpc _ (by omega))) ?_; try (simp (disch := exact eqId (by kernel_rfl)) only [go_sem, ↓reduceIte, Nat.reduceAdd, Nat.reduceMul, Nat.reduceLT, Nat.reduceBEq, Nat.reduceLeDiff, Nat.reduceEqDiff, Int.reduceToNat])) | (refine callH_intro (fun hcc => l18Copy_ok _ (hpc _ (by omega))) ?_; try (simp (disch := exact eqId (by kernel_rfl)) only [go_sem, ↓reduceIte, Nat.reduceAdd, Nat.reduceMul, Nat.reduceLT, Nat.reduceBEq, Nat.reduceLeDiff, Nat.reduceEqDiff, Int.reduceToNat])))
    all_goals (try (exfalso; omega))
    all_goals (try omega)
    all_goals (try (simp only [List.length_append, List.length_cons, List.length_nil]; omega))
    all_goals (try (show Nat.ble _ _ = true; rfl))
    all_goals (clear hQ hlen hp1 hc1 hpc hch hbi hm1)
    all_goals (try (unfold d20; simp only [*, ↓reduceIte, true_or, or_true]; done))
    all_goals (try (unfold d20; simp (decide := true) only [*, ↓reduceIte, true_or, or_true]; done))
    all_goals trace_state
set_option maxHeartbeats 4000000 in
theorem l20Any_o (s : Cu) : MutOK Tryz.prog 23 [none] [.obj (.box 82 [.rd (.list (.int .u8)) (s).b, .rd I (s).i, .rd I (s).h])] (.tup [.agg [.own 30 tPiece (d20 s).1.1.1, .tl 38 tRenewal (d20 s).1.1.2.1], .rd tDocument (d20 s).1.2.1, .rd tSignature (d20 s).1.2.2]) [.box 82 [.rd (.list (.int .u8)) ((d20 s).2).b, .rd I ((d20 s).2).i, .rd I ((d20 s).2).h]] := by
  obtain ⟨hQ, hlen⟩ := d20D_q s
  obtain ⟨hp1, hc1, _, _⟩ := str_p hQ.1
  have hm1 : 0 ≤ (d20M s).1 ∧ (d20M s).1 < 4 := dB_in _ (by decide)
  have hpc : ∀ k, k < (d20D s).1.1.1.length → ((d20D s).1.1.1.getD k (0, [], 0, ())).2.1.length ≤ 1048576 := fun k h => Nat.le_trans (hQ.2.1 _ (getD_mem h _)) (by decide)
  have hch : ∀ k, k < (d20D s).1.1.2.1.length → ((d20D s).1.1.2.1.getD k (0, 0, 0, [], [], ())).2.2.2.1.length ≤ 1048576 ∧ ((d20D s).1.1.2.1.getD k (0, 0, 0, [], [], ())).2.2.2.2.1.length ≤ 1048576 := fun k h => ⟨Nat.le_trans (hQ.2.2 _ (getD_mem h _)).1 (by decide), Nat.le_trans (hQ.2.2 _ (getD_mem h _)).2 (by decide)⟩
  have hbi : 0 < (d20D s).1.1.2.1.length → 0 ≤ (dB (dB (d20D s).2 8).2 ((d20D s).1.1.2.1.length : Int)).1 ∧ (dB (dB (d20D s).2 8).2 ((d20D s).1.1.2.1.length : Int)).1 < ((d20D s).1.1.2.1.length : Int) := fun h => dB_in _ (by omega)
  by_cases hk : 0 < (d20M s).1 ∧ ¬ (dB (d20D s).2 8).1 = 3
  · obtain ⟨hk1, hk⟩ := hk
    refine fun_ofMS (tb := tb) follows Tryz.func23 (by kernel_rfl) Tryz.ntmps23 rfl rfl (by simp [shOK]) rfl ?_; intro cx hN hw
    simp (disch := exact eqId (by kernel_rfl)) only [go_sem, ↓reduceIte, Nat.reduceAdd, Nat.reduceMul, Nat.reduceLT, Nat.reduceBEq, Nat.reduceLeDiff, Nat.reduceEqDiff, Int.reduceToNat]
    refine callM_intro (l20Draw_f s hk1) ⟨⟨trivial, by decide⟩, rfl, rfl⟩ ?_
    simp (disch := exact eqId (by kernel_rfl)) only [go_sem, ↓reduceIte, Nat.reduceAdd, Nat.reduceMul, Nat.reduceLT, Nat.reduceBEq, Nat.reduceLeDiff, Nat.reduceEqDiff, Int.reduceToNat]
    repeat' (first | (refine And.intro ?_ ?_) | intro _ | (exfalso; omega) | (refine callM_intro (dB_ok _ _) ⟨⟨trivial, by decide⟩, rfl, rfl⟩ ?_; try (simp (disch := exact eqId (by kernel_rfl)) only [go_sem, ↓reduceIte, Nat.reduceAdd, Nat.reduceMul, Nat.reduceLT, Nat.reduceBEq, Nat.reduceLeDiff, Nat.reduceEqDiff, Int.reduceToNat])) | (refine callM_intro (l18Any_ok _) ⟨⟨trivial, by decide⟩, rfl, rfl⟩ ?_; try (simp (disch := exact eqId (by kernel_rfl)) only [go_sem, ↓reduceIte, Nat.reduceAdd, Nat.reduceMul, Nat.reduceLT, Nat.reduceBEq, Nat.reduceLeDiff, Nat.reduceEqDiff, Int.reduceToNat])) | (refine callM_intro (l19Bend_ok _ _ (hch _ (by omega)).1 (hch _ (by omega)).2) ⟨⟨trivial, by decide⟩, rfl, rfl⟩ ?_; try (simp (disch := exact eqId (by kernel_rfl)) only [go_sem, ↓reduceIte, Nat.reduceAdd, Nat.reduceMul, Nat.reduceLT, Nat.reduceBEq, Nat.reduceLeDiff, Nat.reduceEqDiff, Int.reduceToNat])) | (refine callQ_intro (l18Copy_ok _ (hpc _ (by omega))) ?_; try (simp (disch := exact eqId (by kernel_rfl)) only [go_sem, ↓reduceIte, Nat.reduceAdd, Nat.reduceMul, Nat.reduceLT, Nat.reduceBEq, Nat.reduceLeDiff, Nat.reduceEqDiff, Int.reduceToNat])) | (refine callH_intro (fun hcc => l18Copy_ok _ (hpc _ (by omega))) ?_; try (simp (disch := exact eqId (by kernel_rfl)) only [go_sem, ↓reduceIte, Nat.reduceAdd, Nat.reduceMul, Nat.reduceLT, Nat.reduceBEq, Nat.reduceLeDiff, Nat.reduceEqDiff, Int.reduceToNat])))
    all_goals (try (exfalso; omega))
    all_goals (try omega)
    all_goals (try (simp only [List.length_append, List.length_cons, List.length_nil]; omega))
    all_goals (try (show Nat.ble _ _ = true; rfl))
    all_goals (clear hQ hlen hp1 hc1 hpc hch hbi hm1)
    all_goals (try (unfold d20; simp only [*, ↓reduceIte, true_or, or_true]; done))
    all_goals (try (unfold d20; simp (decide := true) only [*, ↓reduceIte, true_or, or_true]; done))
    all_goals trace_state
  · refine fun_ofMS (tb := tb) follows Tryz.func23 (by kernel_rfl) Tryz.ntmps23 rfl rfl (by simp [shOK]) rfl ?_; intro cx hN hw
    simp (disch := exact eqId (by kernel_rfl)) only [go_sem, ↓reduceIte, Nat.reduceAdd, Nat.reduceMul, Nat.reduceLT, Nat.reduceBEq, Nat.reduceLeDiff, Nat.reduceEqDiff, Int.reduceToNat]
    refine callM_intro (l20Draw_o s hm1.1) ⟨⟨trivial, by decide⟩, rfl, rfl⟩ ?_
    simp (disch := exact eqId (by kernel_rfl)) only [go_sem, ↓reduceIte, Nat.reduceAdd, Nat.reduceMul, Nat.reduceLT, Nat.reduceBEq, Nat.reduceLeDiff, Nat.reduceEqDiff, Int.reduceToNat]
    repeat' (first | (refine And.intro ?_ ?_) | intro _ | (exfalso; omega) | (refine callM_intro (dB_ok _ _) ⟨⟨trivial, by decide⟩, rfl, rfl⟩ ?_; try (simp (disch := exact eqId (by kernel_rfl)) only [go_sem, ↓reduceIte, Nat.reduceAdd, Nat.reduceMul, Nat.reduceLT, Nat.reduceBEq, Nat.reduceLeDiff, Nat.reduceEqDiff, Int.reduceToNat])) | (refine callM_intro (l18Any_ok _) ⟨⟨trivial, by decide⟩, rfl, rfl⟩ ?_; try (simp (disch := exact eqId (by kernel_rfl)) only [go_sem, ↓reduceIte, Nat.reduceAdd, Nat.reduceMul, Nat.reduceLT, Nat.reduceBEq, Nat.reduceLeDiff, Nat.reduceEqDiff, Int.reduceToNat])) | (refine callM_intro (l19Bend_ok _ _ (hch _ (by omega)).1 (hch _ (by omega)).2) ⟨⟨trivial, by decide⟩, rfl, rfl⟩ ?_; try (simp (disch := exact eqId (by kernel_rfl)) only [go_sem, ↓reduceIte, Nat.reduceAdd, Nat.reduceMul, Nat.reduceLT, Nat.reduceBEq, Nat.reduceLeDiff, Nat.reduceEqDiff, Int.reduceToNat])) | (refine callQ_intro (l18Copy_ok _ (hpc _ (by omega))) ?_; try (simp (disch := exact eqId (by kernel_rfl)) only [go_sem, ↓reduceIte, Nat.reduceAdd, Nat.reduceMul, Nat.reduceLT, Nat.reduceBEq, Nat.reduceLeDiff, Nat.reduceEqDiff, Int.reduceToNat])) | (refine callH_intro (fun hcc => l18Copy_ok _ (hpc _ (by omega))) ?_; try (simp (disch := exact eqId (by kernel_rfl)) only [go_sem, ↓reduceIte, Nat.reduceAdd, Nat.reduceMul, Nat.reduceLT, Nat.reduceBEq, Nat.reduceLeDiff, Nat.reduceEqDiff, Int.reduceToNat])))
    all_goals (try (exfalso; omega))
    all_goals (try omega)
    all_goals (try (simp only [List.length_append, List.length_cons, List.length_nil]; omega))
    all_goals (try (show Nat.ble _ _ = true; rfl))
    all_goals (clear hQ hlen hp1 hc1 hpc hch hbi hm1)
    all_goals (try (unfold d20; simp only [*, ↓reduceIte, true_or, or_true]; done))
    all_goals (try (unfold d20; simp (decide := true) only [*, ↓reduceIte, true_or, or_true]; done))
    all_goals trace_state
end Go.Proofs.YtblnngjdoifgkaaGreat
/- What the draws of frames and bounds answer. It proves nothing of a statement by itself. -/
set_option linter.unusedSimpArgs false
set_option linter.unusedVariables false
set_option maxRecDepth 100000
namespace Go.Proofs.YtblnngjdoifgkaaGreat
open Go.AL
def d21F (s : Cu) : tFrame.den × Cu := ((K8, A4, M4, (dB s 2).1, (dI (dB s 2).2 [20, 45, 60, 75, 100, 150, 300]).1, ()), (dI (dB s 2).2 [20, 45, 60, 75, 100, 150, 300]).2)
def d21 (s : Cu) : tFrame.den × Cu :=
  let f := d21F s
  let k := dB f.2 10
  if k.1 = 0 then (setF tFrame f.1 0 (d8A k.2).1, (d8A k.2).2)
  else if k.1 = 1 then (setF tFrame f.1 1 (d11A k.2).1, (d11A k.2).2)
  else if k.1 = 2 then (setF tFrame f.1 2 (d5A k.2).1, (d5A k.2).2)
  else if k.1 = 3 then (setF tFrame f.1 3 (dI k.2 [-1, 2, 6, 7]).1, (dI k.2 [-1, 2, 6, 7]).2)
  else if k.1 = 4 then (setF tFrame f.1 4 (dR k.2).1, (dR k.2).2)
  else (f.1, k.2)
theorem d19B_len (s : Cu) (r : tRenewal.den) : (d19B s r).1.2.2.2.1.length ≤ r.2.2.2.1.length + 1 ∧ (d19B s r).1.2.2.2.2.1.length ≤ r.2.2.2.2.1.length + 1 := by
  unfold d19B
  simp only
  repeat' split
  all_goals refine ⟨?_, ?_⟩
  all_goals first | exact Nat.le_succ _ | exact Nat.le_of_eq List.length_append | exact Nat.le_trans (Nat.le_of_eq List.length_set) (Nat.le_succ _)
theorem d20_small (s : Cu) : Small tStrand 1048576 (d20 s).1.1 := by
  obtain ⟨hQ, hlen⟩ := d20D_q s
  obtain ⟨hp1, hc1, _, _⟩ := str_p hQ.1
  have h1 := hQ.2.1
  have h2 := hQ.2.2
  have old1 : (d20D s).1.1.1.length ≤ 1000 ∧ ∀ q, q ∈ (d20D s).1.1.1 → q.2.1.length ≤ 1000 := ⟨by omega, h1⟩
  have old2 : (d20D s).1.1.2.1.length ≤ 1000 ∧ ∀ r, r ∈ (d20D s).1.1.2.1 → r.2.2.2.1.length ≤ 1001 ∧ r.2.2.2.2.1.length ≤ 1001 := ⟨by omega, fun r hr => ⟨Nat.le_trans (h2 r hr).1 (by decide), Nat.le_trans (h2 r hr).2 (by decide)⟩⟩
  have snoc : ∀ p : tPiece.den, p.2.1.length ≤ 1000 → ((d20D s).1.1.1 ++ [p]).length ≤ 1000 ∧ ∀ q, q ∈ (d20D s).1.1.1 ++ [p] → q.2.1.length ≤ 1000 := fun p hp => by
    refine ⟨by rw [List.length_append]; simp only [List.length_cons, List.length_nil]; omega, fun q hq => ?_⟩
    rcases List.mem_append.1 hq with hq | hq
    · exact h1 q hq
    · simp only [List.mem_singleton] at hq
      subst hq
      exact hp
  unfold d20
  simp only
  by_cases k0 : (dB (d20D s).2 8).1 = 0
  · rw [if_pos k0]
    exact st_small (snoc _ (Nat.le_trans (d18_len _).2 (by decide))) old2
  rw [if_neg k0]
  by_cases k1 : (dB (d20D s).2 8).1 = 1
  · rw [if_pos k1]
    exact st_small (snoc _ (h1 _ (getD_mem (by omega) _))) old2
  rw [if_neg k1]
  by_cases k2 : (dB (d20D s).2 8).1 = 2
  · rw [if_pos k2]
    by_cases hl : ((d20D s).1.1.2.1.length : Int) > 0
    · rw [if_pos hl]
      have hb := dB_in (dB (d20D s).2 8).2 (n := ((d20D s).1.1.2.1.length : Int)) (by omega)
      refine st_small old1 ⟨by rw [List.length_set]; omega, fun r hr => ?_⟩
      rcases List.mem_or_eq_of_mem_set hr with hr | rfl
      · exact old2.2 r hr
      · have hm := h2 _ (getD_mem (l := (d20D s).1.1.2.1) (k := (dB (dB (d20D s).2 8).2 ((d20D s).1.1.2.1.length : Int)).1.toNat) (by omega) (0, 0, 0, [], [], ()))
        obtain ⟨g1, g2⟩ := d19B_len (dB (dB (d20D s).2 8).2 ((d20D s).1.1.2.1.length : Int)).2 ((d20D s).1.1.2.1.getD (dB (dB (d20D s).2 8).2 ((d20D s).1.1.2.1.length : Int)).1.toNat (0, 0, 0, [], [], ()))
        exact ⟨Nat.le_trans g1 (Nat.succ_le_succ hm.1), Nat.le_trans g2 (Nat.succ_le_succ hm.2)⟩
    · rw [if_neg hl]
      exact st_small old1 old2
  rw [if_neg k2]
  by_cases k3 : (dB (d20D s).2 8).1 = 3
  · rw [if_pos k3]
    by_cases hl : ((d20D s).1.1.2.1.length : Int) > 0
    · rw [if_pos hl]
      refine st_small old1 ⟨by rw [List.length_drop]; omega, fun r hr => old2.2 r (List.mem_of_mem_drop hr)⟩
    · rw [if_neg hl]
      exact st_small old1 old2
  rw [if_neg k3]
  exact st_small old1 old2
noncomputable def dBo (b : List Int) (hb : b.length ≤ maxLen) : tFrame.den × tStrand.den × List Int × Int :=
  let f := d21 (cu0 b hb)
  let s := d20 f.2
  (f.1, s.1.1, dsF s.1.1 s.1.2.1, IntKind.i64.wrap ((dB s.2 5).1 - 1))
end Go.Proofs.YtblnngjdoifgkaaGreat
/- What functions of documents answer, the program's side. It proves nothing of a statement by itself. -/
set_option linter.unusedSimpArgs false
set_option linter.unusedVariables false
set_option maxRecDepth 100000
namespace Go.Proofs.YtblnngjdoifgkaaGreat
open Go.AL
theorem impl_bytesOf_ok (l : List Int) (hl : l.length ≤ 1048576) : FunOK Tryz.prog 77 [⟨(.list (.int .u8)), l⟩] (.own 3 I l) := by
  refine fun_of (tb := tb) follows Tryz.func77 (by kernel_rfl) Tryz.ntmps77 rfl rfl rfl ?_; intro cx hN hw
  have hu : ∀ k, k < l.length → 0 ≤ l.getD k 0 ∧ l.getD k 0 ≤ 255 := fun k hk => by
    have h := hw.1.2 k hk
    rw [List.getD_eq_getElem?_getD, List.getElem?_eq_getElem hk]
    exact h
  simp (disch := exact eqId (by kernel_rfl)) only [go_sem, ↓reduceIte, Nat.reduceAdd, Nat.reduceMul, Nat.reduceLT, Nat.reduceBEq, Nat.reduceLeDiff, Nat.reduceEqDiff, Int.reduceToNat]
  refine loop_intro (tb := tb) follows hN (D := Nat) (fun d => shp [(3, .own 20000), (6, .rd (.list (.int .u8)) (l)), (7, .rd I (((l).length : Int) : Int)), (8, .rd I (d : Int))] [(20000, .row 3 I (l.take d))]) (fun d => d ≤ l.length) (fun d => l.length - d) (0) ?_ (sub_shp hN [(20000, none)] ?_) (fun d hd => ?_)
  · exact Nat.zero_le _
  · simp (disch := exact eqId (by kernel_rfl)) only [go_sem, ↓reduceIte, Nat.reduceAdd, Nat.reduceMul, Nat.reduceLT, Nat.reduceBEq, Nat.reduceLeDiff, Nat.reduceEqDiff, Int.reduceToNat]
    try exact ⟨rfl, rfl⟩
    try rfl
  · simp (disch := exact eqId (by kernel_rfl)) only [go_sem, ↓reduceIte, Nat.reduceAdd, Nat.reduceMul, Nat.reduceLT, Nat.reduceBEq, Nat.reduceLeDiff, Nat.reduceEqDiff, Int.reduceToNat]
    repeat' (first | (refine And.intro ?_ ?_) | intro _)
    all_goals (try omega)
    all_goals (try (simp only [List.length_append, List.length_cons, List.length_nil, List.length_take]; omega))
    · rename_i hk
      have hk : d < l.length := by omega
      refine back_intro (d + 1) ?_ ?_ (sub_shp hN [(20000, some 60064)] ?_)
      · omega
      · omega
      · simp (disch := exact eqId (by kernel_rfl)) only [go_sem, ↓reduceIte, Nat.reduceAdd, Nat.reduceMul, Nat.reduceLT, Nat.reduceBEq, Nat.reduceLeDiff, Nat.reduceEqDiff, Int.reduceToNat]
        refine ⟨?_, wrap_succ' (by omega)⟩
        have := hu d hk
        rw [wrap_i64 (by omega) (by omega)]
        exact take_snoc hk _
    · rename_i hk
      rw [List.take_of_length_le (by omega)]
theorem impl_PartDigest_ok (m : Int) (p : ByteArray) (t : Int) (hp : p.size ≤ 1000000) : FunOK Tryz.prog 55 [⟨I, m⟩, ⟨.str, p⟩, ⟨I, t⟩] (.rd I (ptF m p t)) := by
  refine fun_of (tb := tb) follows Tryz.func55 (by kernel_rfl) Tryz.ntmps55 rfl rfl rfl ?_; intro cx hN hw
  simp (disch := exact eqId (by kernel_rfl)) only [go_sem, ↓reduceIte, Nat.reduceAdd, Nat.reduceMul, Nat.reduceLT, Nat.reduceBEq, Nat.reduceLeDiff, Nat.reduceEqDiff, Int.reduceToNat]
  have hl : (byL p).length ≤ 1048576 := by rw [byL_len]; omega
  have hlD : (t :: byL p).length ≤ 1073741824 := by rw [List.length_cons]; omega
  repeat' (first | (refine And.intro ?_ ?_) | intro _ | (refine callQ_intro (impl_bytesOf_ok _ hl) ?_; try (simp (disch := exact eqId (by kernel_rfl)) only [go_sem, ↓reduceIte, Nat.reduceAdd, Nat.reduceMul, Nat.reduceLT, Nat.reduceBEq, Nat.reduceLeDiff, Nat.reduceEqDiff, Int.reduceToNat])) | (refine callH_intro (fun hcc => impl_bytesOf_ok _ hl) ?_; try (simp (disch := exact eqId (by kernel_rfl)) only [go_sem, ↓reduceIte, Nat.reduceAdd, Nat.reduceMul, Nat.reduceLT, Nat.reduceBEq, Nat.reduceLeDiff, Nat.reduceEqDiff, Int.reduceToNat])) | (refine callQ_intro (impl_DigestOf_ok _ _ hlD) ?_; try (simp (disch := exact eqId (by kernel_rfl)) only [go_sem, ↓reduceIte, Nat.reduceAdd, Nat.reduceMul, Nat.reduceLT, Nat.reduceBEq, Nat.reduceLeDiff, Nat.reduceEqDiff, Int.reduceToNat])) | (refine callH_intro (fun hcc => impl_DigestOf_ok _ _ hlD) ?_; try (simp (disch := exact eqId (by kernel_rfl)) only [go_sem, ↓reduceIte, Nat.reduceAdd, Nat.reduceMul, Nat.reduceLT, Nat.reduceBEq, Nat.reduceLeDiff, Nat.reduceEqDiff, Int.reduceToNat])))
  all_goals (try omega)
  all_goals (try (simp only [List.length_append, List.length_cons, List.length_nil]; omega))
  all_goals (try rfl)
theorem isD_f1 {e : tDocument.den} {k : Nat} (hk : k < e.2.1.length) (h : pOK (e.2.1.getD k ByteArray.empty) = false) : isD e = false := by
  have : e.2.1.all pOK = false := by
    rw [← Bool.not_eq_true]
    intro h9
    rw [List.all_eq_true] at h9
    rw [h9 _ (getD_mem hk _)] at h
    cases h
  unfold isD
  rw [this]
  rfl
theorem isD_f2 {e : tDocument.den} {k : Nat} (hk : k < e.2.2.1.length) (h : inB (e.2.2.1.getD k 0) 1 1000000000000 = false) : isD e = false := by
  have : e.2.2.1.all (fun x => inB x 1 1000000000000) = false := by
    rw [← Bool.not_eq_true]
    intro h9
    rw [List.all_eq_true] at h9
    rw [h9 _ (getD_mem hk _)] at h
    cases h
  unfold isD
  rw [this]
  simp
theorem isD_t {e : tDocument.den} (h1 : inB e.1 0 999 = true) (h2 : inB (e.2.1.length : Int) 1 6 = true) (h3 : e.2.2.1.length = e.2.1.length) (h : ∀ k, k < e.2.1.length → pOK (e.2.1.getD k ByteArray.empty) = true ∧ inB (e.2.2.1.getD k 0) 1 1000000000000 = true) : isD e = true := by
  have a1 : e.2.1.all pOK = true := by
    rw [List.all_eq_true]
    intro x hx
    obtain ⟨k, hk, rfl⟩ := List.mem_iff_getElem.1 hx
    have := (h k hk).1
    rwa [List.getD_eq_getElem?_getD, List.getElem?_eq_getElem hk] at this
  have a2 : e.2.2.1.all (fun x => inB x 1 1000000000000) = true := by
    rw [List.all_eq_true]
    intro x hx
    obtain ⟨k, hk, rfl⟩ := List.mem_iff_getElem.1 hx
    have := (h k (by omega)).2
    rwa [List.getD_eq_getElem?_getD, List.getElem?_eq_getElem hk] at this
  unfold isD
  rw [a1, a2, h1, h2, h3]
  simp
theorem impl_IsDocument_ok (e : tDocument.den) : FunOK Tryz.prog 54 [⟨tDocument, e⟩] (.rd .bool (isD e)) := by
  refine fun_of (tb := tb) follows Tryz.func54 (by kernel_rfl) Tryz.ntmps54 rfl rfl rfl ?_; intro cx hN hw
  simp (disch := exact eqId (by kernel_rfl)) only [go_sem, ↓reduceIte, Nat.reduceAdd, Nat.reduceMul, Nat.reduceLT, Nat.reduceBEq, Nat.reduceLeDiff, Nat.reduceEqDiff, Int.reduceToNat]
  have hp1 : e.2.1.length ≤ maxLen := hw.1.2.1.1
  repeat' (first | (refine And.intro ?_ ?_) | intro _ | (refine callQ_intro (inRange_ok _ _ _) ?_; try (simp (disch := exact eqId (by kernel_rfl)) only [go_sem, ↓reduceIte, Nat.reduceAdd, Nat.reduceMul, Nat.reduceLT, Nat.reduceBEq, Nat.reduceLeDiff, Nat.reduceEqDiff, Int.reduceToNat])) | (refine callH_intro (fun hcc => inRange_ok _ _ _) ?_; try (simp (disch := exact eqId (by kernel_rfl)) only [go_sem, ↓reduceIte, Nat.reduceAdd, Nat.reduceMul, Nat.reduceLT, Nat.reduceBEq, Nat.reduceLeDiff, Nat.reduceEqDiff, Int.reduceToNat])))
  all_goals (try omega)
  · rename_i hc
    have hf : (inB e.1 0 999 && inB (e.2.1.length : Int) 1 6 && ((e.2.2.1.length : Int) == (e.2.1.length : Int))) = false := by
      rw [← Bool.not_eq_true]
      intro h
      simp only [inB, Bool.and_eq_true, decide_eq_true_eq, beq_iff_eq] at h
      omega
    unfold isD
    symm
    rw [← Bool.not_eq_true] at hf ⊢
    intro h
    refine hf ?_
    simp only [Bool.and_eq_true] at h ⊢
    exact ⟨⟨h.2.2.1, h.2.2.2.1⟩, h.2.2.2.2⟩
  · rename_i hc
    refine loop_intro (tb := tb) follows hN (D := Nat) (fun d => shp [(1, .bp 10000 0), (26, .rd (.list .str) (e.2.1)), (27, .rd I (((e.2.1).length : Int) : Int)), (28, .rd I (d : Int))] [(10000, .box 47 [.rd I (e.1), .rd (.list .str) (e.2.1), .rd (.list I) (e.2.2.1)])]) (fun d => d ≤ e.2.1.length ∧ ∀ j, j < d → pOK (e.2.1.getD j ByteArray.empty) = true ∧ inB (e.2.2.1.getD j 0) 1 1000000000000 = true) (fun d => e.2.1.length - d) (0) ?_ (sub_shp hN [(10000, some 10000)] ?_) (fun d hd => ?_)
    · exact ⟨Nat.zero_le _, fun j hj => absurd hj (Nat.not_lt_zero j)⟩
    · simp (disch := exact eqId (by kernel_rfl)) only [go_sem, ↓reduceIte, Nat.reduceAdd, Nat.reduceMul, Nat.reduceLT, Nat.reduceBEq, Nat.reduceLeDiff, Nat.reduceEqDiff, Int.reduceToNat]
      try rfl
    · obtain ⟨h1, h2⟩ := hd
      simp (disch := exact eqId (by kernel_rfl)) only [go_sem, ↓reduceIte, Nat.reduceAdd, Nat.reduceMul, Nat.reduceLT, Nat.reduceBEq, Nat.reduceLeDiff, Nat.reduceEqDiff, Int.reduceToNat]
      repeat' (first | (refine And.intro ?_ ?_) | intro _ | (refine callQ_intro (inRange_ok _ _ _) ?_; try (simp (disch := exact eqId (by kernel_rfl)) only [go_sem, ↓reduceIte, Nat.reduceAdd, Nat.reduceMul, Nat.reduceLT, Nat.reduceBEq, Nat.reduceLeDiff, Nat.reduceEqDiff, Int.reduceToNat])) | (refine callH_intro (fun hcc => inRange_ok _ _ _) ?_; try (simp (disch := exact eqId (by kernel_rfl)) only [go_sem, ↓reduceIte, Nat.reduceAdd, Nat.reduceMul, Nat.reduceLT, Nat.reduceBEq, Nat.reduceLeDiff, Nat.reduceEqDiff, Int.reduceToNat])))
      all_goals (try omega)
      · rename_i hk hx
        have hk : d < e.2.1.length := by omega
        rcases hx with hx | hx
        · exact (isD_f1 hk (decide_eq_false (Int.not_le.2 hx))).symm
        · exact (isD_f2 (k := d) (by omega) (inB_f.mpr (by omega))).symm
      · rename_i hk hx
        have hk : d < e.2.1.length := by omega
        refine back_intro (d + 1) ?_ ?_ (sub_shp hN [(10000, some 10000)] ?_)
        · refine ⟨hk, fun j hj => ?_⟩
          rcases Nat.lt_or_ge j d with h | h
          · exact h2 j h
          · rw [show j = d by omega]
            exact ⟨decide_eq_true (Int.not_lt.1 hx.1), inB_t.mpr hx.2⟩
        · omega
        · simp (disch := exact eqId (by kernel_rfl)) only [go_sem, ↓reduceIte, Nat.reduceAdd, Nat.reduceMul, Nat.reduceLT, Nat.reduceBEq, Nat.reduceLeDiff, Nat.reduceEqDiff, Int.reduceToNat]
          exact wrap_succ hk hp1
      · rename_i hk
        have hd2 : d = e.2.1.length := by omega
        subst hd2
        exact (isD_t (inB_t.mpr hc.1.1) (inB_t.mpr hc.1.2) (by omega) h2).symm
      all_goals trace_state
theorem impl_DocDigest_ok (m : Int) (e : tDocument.den) : FunOK Tryz.prog 32 [⟨I, m⟩, ⟨tDocument, e⟩] (.rd I (ddF m e)) := by
  refine fun_of (tb := tb) follows Tryz.func32 (by kernel_rfl) Tryz.ntmps32 rfl rfl rfl ?_; intro cx hN hw
  have hm : maxLen = 9223372036854775807 := rfl
  simp (disch := exact eqId (by kernel_rfl)) only [go_sem, ↓reduceIte, Nat.reduceAdd, Nat.reduceMul, Nat.reduceLT, Nat.reduceBEq, Nat.reduceLeDiff, Nat.reduceEqDiff, Int.reduceToNat]
  repeat' (first | (refine And.intro ?_ ?_) | intro _ | (refine callQ_intro (impl_IsDocument_ok _) ?_; try (simp (disch := exact eqId (by kernel_rfl)) only [go_sem, ↓reduceIte, Nat.reduceAdd, Nat.reduceMul, Nat.reduceLT, Nat.reduceBEq, Nat.reduceLeDiff, Nat.reduceEqDiff, Int.reduceToNat])) | (refine callH_intro (fun hcc => impl_IsDocument_ok _) ?_; try (simp (disch := exact eqId (by kernel_rfl)) only [go_sem, ↓reduceIte, Nat.reduceAdd, Nat.reduceMul, Nat.reduceLT, Nat.reduceBEq, Nat.reduceLeDiff, Nat.reduceEqDiff, Int.reduceToNat])))
  · rename_i hc
    unfold ddF
    rw [if_neg (by rw [show isD e = false from hc]; decide)]
  · rename_i hc
    obtain ⟨l1, l2, l3⟩ := isD_len (d := e) hc
    refine loop_intro (tb := tb) follows hN (D := Nat) (fun d => shp [(0, .rd I (m : Int)), (3, .bp 10000 0), (5, .own 40032), (15, .rd (.list .str) (e.2.1)), (16, .rd I (((e.2.1).length : Int) : Int)), (17, .rd I (d : Int))] [(10000, .box 47 [.rd I (e.1), .rd (.list .str) (e.2.1), .rd (.list I) (e.2.2.1)]), (40032, .row 3 I (e.1 :: (ddL m e.2.1 e.2.2.1).take d))]) (fun d => d ≤ e.2.1.length) (fun d => e.2.1.length - d) (0) ?_ (sub_shp hN [(10000, some 10000), (40032, some 40032)] ?_) (fun d hd => ?_)
    · exact Nat.zero_le _
    · simp (disch := exact eqId (by kernel_rfl)) only [go_sem, ↓reduceIte, Nat.reduceAdd, Nat.reduceMul, Nat.reduceLT, Nat.reduceBEq, Nat.reduceLeDiff, Nat.reduceEqDiff, Int.reduceToNat]
      try exact ⟨rfl, rfl⟩
      try rfl
    · have hl := ddL_len m e.2.1 e.2.2.1 l2
      have hlD : ∀ k, (e.1 :: (ddL m e.2.1 e.2.2.1).take k).length ≤ 1073741824 := fun k => by simp only [List.length_cons, List.length_take]; omega
      have hps : ∀ k, k < e.2.1.length → (e.2.1.getD k ByteArray.empty).size ≤ 1000000 := fun k hk => Nat.le_trans (l3 _ (getD_mem hk _)) (by decide)
      simp (disch := exact eqId (by kernel_rfl)) only [go_sem, ↓reduceIte, Nat.reduceAdd, Nat.reduceMul, Nat.reduceLT, Nat.reduceBEq, Nat.reduceLeDiff, Nat.reduceEqDiff, Int.reduceToNat]
      repeat' (first | (refine And.intro ?_ ?_) | intro _ | (refine callQ_intro (impl_DigestOf_ok _ _ (hlD _)) ?_; try (simp (disch := exact eqId (by kernel_rfl)) only [go_sem, ↓reduceIte, Nat.reduceAdd, Nat.reduceMul, Nat.reduceLT, Nat.reduceBEq, Nat.reduceLeDiff, Nat.reduceEqDiff, Int.reduceToNat])) | (refine callH_intro (fun hcc => impl_DigestOf_ok _ _ (hlD _)) ?_; try (simp (disch := exact eqId (by kernel_rfl)) only [go_sem, ↓reduceIte, Nat.reduceAdd, Nat.reduceMul, Nat.reduceLT, Nat.reduceBEq, Nat.reduceLeDiff, Nat.reduceEqDiff, Int.reduceToNat])) | (refine callQ_intro (impl_PartDigest_ok _ _ _ (hps _ (by omega))) ?_; try (simp (disch := exact eqId (by kernel_rfl)) only [go_sem, ↓reduceIte, Nat.reduceAdd, Nat.reduceMul, Nat.reduceLT, Nat.reduceBEq, Nat.reduceLeDiff, Nat.reduceEqDiff, Int.reduceToNat])) | (refine callH_intro (fun hcc => impl_PartDigest_ok _ _ _ (hps _ (by omega))) ?_; try (simp (disch := exact eqId (by kernel_rfl)) only [go_sem, ↓reduceIte, Nat.reduceAdd, Nat.reduceMul, Nat.reduceLT, Nat.reduceBEq, Nat.reduceLeDiff, Nat.reduceEqDiff, Int.reduceToNat])))
      all_goals (try omega)
      all_goals (try (simp only [List.length_append, List.length_cons, List.length_nil, List.length_take]; omega))
      · rename_i hk
        have hk : d < e.2.1.length := by omega
        refine back_intro (d + 1) ?_ ?_ (sub_shp hN [(10000, some 10000), (40032, some 80160)] ?_)
        · omega
        · omega
        · simp (disch := exact eqId (by kernel_rfl)) only [go_sem, ↓reduceIte, Nat.reduceAdd, Nat.reduceMul, Nat.reduceLT, Nat.reduceBEq, Nat.reduceLeDiff, Nat.reduceEqDiff, Int.reduceToNat]
          refine ⟨?_, wrap_succ' (by omega)⟩
          first | exact ddL_step hk l2 | trace_state
      · rename_i hk
        have : d = e.2.1.length := by omega
        subst this
        unfold ddF
        rw [if_pos hc, List.take_of_length_le (by omega)]
      all_goals trace_state
theorem impl_DocDigests_ok (s : tStrand.den) (e : tDocument.den) (hs : Small tStrand 1048576 s) : FunOK Tryz.prog 13 [⟨tStrand, s⟩, ⟨tDocument, e⟩] (.own 3 I (dsF s e)) := by
  have h2 := (sm_ch hs).1
  refine fun_of (tb := tb) follows Tryz.func13 (by kernel_rfl) Tryz.ntmps13 rfl rfl rfl ?_; intro cx hN hw
  simp (disch := exact eqId (by kernel_rfl)) only [go_sem, ↓reduceIte, Nat.reduceAdd, Nat.reduceMul, Nat.reduceLT, Nat.reduceBEq, Nat.reduceLeDiff, Nat.reduceEqDiff, Int.reduceToNat]
  refine loop_intro (tb := tb) follows hN (D := Nat) (fun d => shp [(3, .bp 10016 0), (5, .own 20000), (9, .rd (.list tRenewal) (s.2.1)), (10, .rd I (((s.2.1).length : Int) : Int)), (11, .rd I (d : Int))] [(10016, .box 47 [.rd I (e.1), .rd (.list .str) (e.2.1), .rd (.list I) (e.2.2.1)]), (20000, .row 3 I ((List.take d s.2.1).map (fun r => ddF r.2.1 e)))]) (fun d => d ≤ List.length s.2.1) (fun d => List.length s.2.1 - d) (0) ?_ (sub_shp hN [(10016, some 10016), (20000, none)] ?_) (fun d hd => ?_)
  · exact Nat.zero_le _
  · simp (disch := exact eqId (by kernel_rfl)) only [go_sem, ↓reduceIte, Nat.reduceAdd, Nat.reduceMul, Nat.reduceLT, Nat.reduceBEq, Nat.reduceLeDiff, Nat.reduceEqDiff, Int.reduceToNat]
    try exact ⟨rfl, rfl⟩
    try rfl
  · simp (disch := exact eqId (by kernel_rfl)) only [go_sem, ↓reduceIte, Nat.reduceAdd, Nat.reduceMul, Nat.reduceLT, Nat.reduceBEq, Nat.reduceLeDiff, Nat.reduceEqDiff, Int.reduceToNat]
    repeat' (first | (refine And.intro ?_ ?_) | intro _ | (refine callQ_intro (impl_DocDigest_ok _ _) ?_; try (simp (disch := exact eqId (by kernel_rfl)) only [go_sem, ↓reduceIte, Nat.reduceAdd, Nat.reduceMul, Nat.reduceLT, Nat.reduceBEq, Nat.reduceLeDiff, Nat.reduceEqDiff, Int.reduceToNat])) | (refine callH_intro (fun hcc => impl_DocDigest_ok _ _) ?_; try (simp (disch := exact eqId (by kernel_rfl)) only [go_sem, ↓reduceIte, Nat.reduceAdd, Nat.reduceMul, Nat.reduceLT, Nat.reduceBEq, Nat.reduceLeDiff, Nat.reduceEqDiff, Int.reduceToNat])))
    all_goals (try omega)
    all_goals (try (simp only [List.length_append, List.length_cons, List.length_nil, List.length_take, List.length_map]; omega))
    · rename_i hk
      refine back_intro (d + 1) ?_ ?_ (sub_shp hN [(10016, some 10016), (20000, some 60096)] ?_)
      · omega
      · omega
      · simp (disch := exact eqId (by kernel_rfl)) only [go_sem, ↓reduceIte, Nat.reduceAdd, Nat.reduceMul, Nat.reduceLT, Nat.reduceBEq, Nat.reduceLeDiff, Nat.reduceEqDiff, Int.reduceToNat]
        refine ⟨?_, wrap_succ' (by omega)⟩
        rw [← take_snoc (show d < List.length s.2.1 by omega) (0, 0, 0, [], [], ()), List.map_append]
        rfl
    · rename_i hk
      rw [List.take_of_length_le (by omega)]
      rfl
end Go.Proofs.YtblnngjdoifgkaaGreat
