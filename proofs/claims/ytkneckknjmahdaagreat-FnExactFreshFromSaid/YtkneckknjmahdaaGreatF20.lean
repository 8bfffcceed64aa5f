/- What the functions of fresh stamps answer, on both sides. It proves nothing of a statement by itself. -/
import Derived.Test.YtkneckknjmahdaaGreatF19
set_option linter.unusedSimpArgs false
set_option linter.unusedVariables false
set_option maxRecDepth 100000
namespace Go.Proofs.YtkneckknjmahdaaGreat
open Go.AL
noncomputable def hasL (l : List tAuthority.den) (us : List tPiece.den) (ss : List tStamp.den) : Bool := ss.all (fun s => hpF (stP l s) us)
noncomputable def goodL (l : List tAuthority.den) (us : List tPiece.den) (s : tStamp.den) : Bool := (sspF l s).2 && hpF (stP l s) us
noncomputable def aftB (l : List tAuthority.den) (us : List tPiece.den) (ss : List tStamp.den) : Bool := areG (goodL l us) (fun x : tStamp.den => (x.1 : Int)) none ss
noncomputable def aftF (l : List tAuthority.den) (us : List tPiece.den) (n : Int) (ss : List tStamp.den) : Int × Bool := if aftB l us ss = true then ((agF (sspL l ss) n).1.1, (agF (sspL l ss) n).2) else (0, false)
theorem all_and {α : Type} (p q : α → Bool) : ∀ (l : List α), l.all (fun x => p x && q x) = (l.all p && l.all q)
  | [] => rfl
  | x :: xs => by
    rw [List.all_cons, List.all_cons, List.all_cons, all_and p q xs]
    cases p x <;> cases q x <;> cases xs.all p <;> cases xs.all q <;> rfl
theorem goodL_f {l : List tAuthority.den} {us : List tPiece.den} {s : tStamp.den} (h : (sspF l s).2 = false ∨ hpF (stP l s) us = false) : goodL l us s = false := by
  unfold goodL
  rcases h with h | h
  · rw [h, Bool.false_and]
  · rw [h, Bool.and_false]
theorem goodL_t {l : List tAuthority.den} {us : List tPiece.den} {s : tStamp.den} (h1 : (sspF l s).2 = true) (h2 : hpF (stP l s) us = true) : goodL l us s = true := by
  unfold goodL
  rw [h1, h2]
  rfl
theorem small_fr {e : tEvidence.den} (he : Small tEvidence 1048576 e) (k : Nat) : List.length (List.getD e.2.1 k []) ≤ 1048576 := by
  by_cases hk : k < List.length e.2.1
  · exact (he.2.1.2 _ (getD_mem hk _)).1
  · rw [List.getD_eq_getElem?_getD, List.getElem?_eq_none (by omega)]
    exact Nat.zero_le _
theorem aft_eq (l : List tAuthority.den) (us : List tPiece.den) (n : Int) (ss : List tStamp.den) : (aftF l us n ss).2 = (risF ss && (hasL l us ss && (agoF l ss n).2)) ∧ ((aftF l us n ss).2 = true → (aftF l us n ss).1 = (agoF l ss n).1.1) := by
  have e : aftB l us ss = (risF ss && (hasL l us ss && ss.all (fun s => (sspF l s).2))) := by
    unfold aftB
    rw [areG_all]
    unfold risF hasL
    congr 1
    rw [Bool.and_comm, ← all_and]
    rfl
  unfold aftF agoF
  rw [e]
  cases risF ss <;> cases hasL l us ss <;> cases hA : ss.all (fun s => (sspF l s).2) <;> simp
noncomputable def frB (l : List tAuthority.den) (us : List tPiece.den) (n : Int) (x : tSignature.den) (ss : List tStamp.den) : Bool := !decide ((x.2.2.2.2.2.2.2.1 : Int) = 0) && (decide (sdF x.2.2.1 ss = (x.2.2.2.2.2.2.2.1 : Int)) && (risF ss && (hasL l us ss && (agoF l ss n).2)))
noncomputable def frL (l : List tAuthority.den) (us : List tPiece.den) (n : Int) (x : tSignature.den) : Int → List (List tStamp.den) → Int
  | a, [] => a
  | a, ss :: r => frL l us n x (if frB l us n x ss = true then mxF a (agoF l ss n).1.1 else a) r
theorem frL_z {l : List tAuthority.den} {us : List tPiece.den} {n : Int} {x : tSignature.den} (h : (x.2.2.2.2.2.2.2.1 : Int) = 0) : ∀ (r : List (List tStamp.den)) (a : Int), frL l us n x a r = a
  | [], a => rfl
  | ss :: r, a => by
    have e : frB l us n x ss = false := by unfold frB; rw [decide_eq_true h]; rfl
    rw [frL, if_neg (by rw [e]; decide)]
    exact frL_z h r a
theorem frB_g {l : List tAuthority.den} {us : List tPiece.den} {n : Int} {x : tSignature.den} {ss : List tStamp.den} (h0 : ¬ (x.2.2.2.2.2.2.2.1 : Int) = 0) (h1 : sdF x.2.2.1 ss = (x.2.2.2.2.2.2.2.1 : Int)) : frB l us n x ss = (risF ss && (hasL l us ss && (agoF l ss n).2)) := by
  unfold frB
  rw [decide_eq_false h0, decide_eq_true h1, Bool.true_and]
  rfl
theorem frB_n {l : List tAuthority.den} {us : List tPiece.den} {n : Int} {x : tSignature.den} {ss : List tStamp.den} (h : ((x.2.2.2.2.2.2.2.1 : Int) = 0 ∨ risF ss = false) ∨ ¬ sdF x.2.2.1 ss = (x.2.2.2.2.2.2.2.1 : Int)) : ¬ frB l us n x ss = true := by
  unfold frB
  rcases h with (h | h) | h
  · rw [decide_eq_true h]
    intro h; cases h
  · rw [h]
    simp
  · rw [decide_eq_false h]
    simp
def bornF (ks : List tKey.den) (n : Int) : Int := if 0 ≤ finF (fun x : tKey.den => x.1) n ks 0 then (ks.getD (finF (fun x : tKey.den => x.1) n ks 0).toNat (0, 0, 0, 0, 0, ())).2.2.2.1 else 0
theorem spec_l23After_ok (f : tFrame.den) (us : List tPiece.den) (l : List tStamp.den) (hs : l.length ≤ 1048576) : FunOK Tryz.prog 58 [⟨tFrame, f⟩, ⟨(.list tPiece), us⟩, ⟨(.list tStamp), l⟩] (.tup [.rd I (aftF f.2.1 us f.2.2.2.1 l).1, .rd .bool (aftF f.2.1 us f.2.2.2.1 l).2]) := by
  refine fun_of (tb := tb) follows Tryz.func58 (by kernel_rfl) Tryz.ntmps58 rfl rfl rfl ?_
  intro cx hN hw
  simp (disch := exact eqId (by kernel_rfl)) only [go_sem, ↓reduceIte, Nat.reduceAdd, Nat.reduceMul, Nat.reduceLT, Nat.reduceBEq, Nat.reduceLeDiff, Nat.reduceEqDiff, Int.reduceToNat]
  refine loop_intro (tb := tb) follows hN (D := Nat) (fun d => shp [(1, .rd (.list tPiece) (us)), (2, .rd (.list tStamp) (l)), (3, .bp 10000 0), (8, .own 1), (9, .rd I (d : Int))] [(1, .row 99 tSpan (sspL f.2.1 (List.take d l))), (10000, .box 39 [.rd (.list tKey) (f.1), .rd (.list tAuthority) (f.2.1), .rd (.list tMethod) (f.2.2.1), .rd I (f.2.2.2.1), .rd I (f.2.2.2.2.1)])]) (fun d => d ≤ List.length l ∧ aftB f.2.1 us l = areG (goodL f.2.1 us) (fun x : tStamp.den => (x.1 : Int)) (pvG (fun x : tStamp.den => (x.1 : Int)) (0, 0, 0, 0, 0, ()) l d) (List.drop d l)) (fun d => List.length l - d) (0) ?_ (sub_shp hN [(10000, some 10000), (1, some 20000)] ?_) (fun d hd => ?_)
  · exact ⟨Nat.zero_le _, rfl⟩
  · simp (disch := exact eqId (by kernel_rfl)) only [go_sem, ↓reduceIte, Nat.reduceAdd, Nat.reduceMul, Nat.reduceLT, Nat.reduceBEq, Nat.reduceLeDiff, Nat.reduceEqDiff, Int.reduceToNat]
    try exact ⟨rfl, rfl⟩
  · obtain ⟨h1, h2⟩ := hd
    have hl9 : (sspL f.2.1 (List.take d l)).length ≤ List.length l := by rw [sspL_len, List.length_take]; omega
    have e1 : IntKind.i64.wrap ((d : Int) - 1) = (d : Int) - 1 := wrap_i64 (by omega) (by omega)
    simp (disch := exact eqId (by kernel_rfl)) only [go_sem, ↓reduceIte, Nat.reduceAdd, Nat.reduceMul, Nat.reduceLT, Nat.reduceBEq, Nat.reduceLeDiff, Nat.reduceEqDiff, Int.reduceToNat, e1]
    repeat' (first | (refine And.intro ?_ ?_) | intro _ | (refine callQ_intro (spec_StampSpan_ok _ _) ?_; try (simp (disch := exact eqId (by kernel_rfl)) only [go_sem, ↓reduceIte, Nat.reduceAdd, Nat.reduceMul, Nat.reduceLT, Nat.reduceBEq, Nat.reduceLeDiff, Nat.reduceEqDiff, Int.reduceToNat])) | (refine callH_intro (fun hcc => spec_StampSpan_ok _ _) ?_; try (simp (disch := exact eqId (by kernel_rfl)) only [go_sem, ↓reduceIte, Nat.reduceAdd, Nat.reduceMul, Nat.reduceLT, Nat.reduceBEq, Nat.reduceLeDiff, Nat.reduceEqDiff, Int.reduceToNat])) | (refine callQ_intro (spec_StampKey_ok _ _) ?_; try (simp (disch := exact eqId (by kernel_rfl)) only [go_sem, ↓reduceIte, Nat.reduceAdd, Nat.reduceMul, Nat.reduceLT, Nat.reduceBEq, Nat.reduceLeDiff, Nat.reduceEqDiff, Int.reduceToNat])) | (refine callH_intro (fun hcc => spec_StampKey_ok _ _) ?_; try (simp (disch := exact eqId (by kernel_rfl)) only [go_sem, ↓reduceIte, Nat.reduceAdd, Nat.reduceMul, Nat.reduceLT, Nat.reduceBEq, Nat.reduceLeDiff, Nat.reduceEqDiff, Int.reduceToNat])) | (refine callQ_intro (spec_StampPiece_ok _ _) ?_; try (simp (disch := exact eqId (by kernel_rfl)) only [go_sem, ↓reduceIte, Nat.reduceAdd, Nat.reduceMul, Nat.reduceLT, Nat.reduceBEq, Nat.reduceLeDiff, Nat.reduceEqDiff, Int.reduceToNat])) | (refine callH_intro (fun hcc => spec_StampPiece_ok _ _) ?_; try (simp (disch := exact eqId (by kernel_rfl)) only [go_sem, ↓reduceIte, Nat.reduceAdd, Nat.reduceMul, Nat.reduceLT, Nat.reduceBEq, Nat.reduceLeDiff, Nat.reduceEqDiff, Int.reduceToNat])) | (refine callQ_intro (spec_l23Has_ok _ _) ?_; try (simp (disch := exact eqId (by kernel_rfl)) only [go_sem, ↓reduceIte, Nat.reduceAdd, Nat.reduceMul, Nat.reduceLT, Nat.reduceBEq, Nat.reduceLeDiff, Nat.reduceEqDiff, Int.reduceToNat])) | (refine callH_intro (fun hcc => spec_l23Has_ok _ _) ?_; try (simp (disch := exact eqId (by kernel_rfl)) only [go_sem, ↓reduceIte, Nat.reduceAdd, Nat.reduceMul, Nat.reduceLT, Nat.reduceBEq, Nat.reduceLeDiff, Nat.reduceEqDiff, Int.reduceToNat])))
    all_goals (try omega)
    all_goals (try (simp only [List.length_append, List.length_cons, List.length_nil]; omega))
    iterate 2
      · rename_i hk hc
        rw [e1] at hc
        have hb : aftB f.2.1 us l = false := by
          rw [h2, drop_getD (show d < List.length l by omega) (0, 0, 0, 0, 0, ()), areG_cons]
          rcases hc with (hc | ⟨hp, hge⟩) | hc
          · rw [goodL_f (.inl hc), Bool.false_and]
          · unfold pvG
            rw [if_pos hp, show ltG (some (List.getD l ((d : Int) - 1).toNat (0, 0, 0, 0, 0, ())).1) (List.getD l d (0, 0, 0, 0, 0, ())).1 = false from decide_eq_false (Int.not_lt.mpr hge)]
            simp
          · rw [goodL_f (.inr hc), Bool.false_and]
        have ha : aftF f.2.1 us f.2.2.2.1 l = (0, false) := by unfold aftF; exact if_neg (by rw [hb]; decide)
        first | exact (congrArg Prod.fst ha).symm | exact (congrArg Prod.snd ha).symm
    · rename_i hk hc
      rw [e1] at hc
      obtain ⟨⟨he1, he2⟩, he3⟩ := hc
      have hk : d < List.length l := by omega
      refine back_intro (d + 1) ?_ ?_ (sub_shp hN [(10000, some 10000), (1, some 90048)] ?_)
      · refine ⟨hk, ?_⟩
        rw [h2, drop_getD hk (0, 0, 0, 0, 0, ()), areG_cons, pvG_succ, goodL_t he1 he3, Bool.true_and]
        unfold pvG
        by_cases h0 : (d : Int) > 0
        · rw [if_pos h0, show ltG (some (List.getD l ((d : Int) - 1).toNat (0, 0, 0, 0, 0, ())).1) (List.getD l d (0, 0, 0, 0, 0, ())).1 = true from decide_eq_true (Int.not_le.mp (he2.resolve_left (fun hx => hx h0))), Bool.true_and]
        · rw [if_neg h0]
          rfl
      · omega
      · simp (disch := exact eqId (by kernel_rfl)) only [go_sem, ↓reduceIte, Nat.reduceAdd, Nat.reduceMul, Nat.reduceLT, Nat.reduceBEq, Nat.reduceLeDiff, Nat.reduceEqDiff, Int.reduceToNat]
        rw [sspL_take f.2.1 hk]
        exact ⟨rfl, wrap_succ' (by omega)⟩
    · rename_i hk
      have hk : d = List.length l := by omega
      have hb : aftB f.2.1 us l = true := by
        rw [h2, drop_end (show List.length l ≤ d by omega), areG_nil]
      have ha : aftF f.2.1 us f.2.2.2.1 l = ((agF (sspL f.2.1 l) f.2.2.2.1).1.1, (agF (sspL f.2.1 l) f.2.2.2.1).2) := by unfold aftF; exact if_pos hb
      rw [hk, List.take_length]
      refine callQ_intro (spec_AgreedSpan_ok _ _) ?_
      simp (disch := exact eqId (by kernel_rfl)) only [go_sem, ↓reduceIte, Nat.reduceAdd, Nat.reduceMul, Nat.reduceLT, Nat.reduceBEq, Nat.reduceLeDiff, Nat.reduceEqDiff, Int.reduceToNat]
      first | exact ⟨(congrArg Prod.fst ha).symm, (congrArg Prod.snd ha).symm⟩ | rw [ha]
theorem impl_FreshFrom_ok (f : tFrame.den) (e : tEvidence.den) (us : List tPiece.den) (x : tSignature.den) (he : Small tEvidence 1048576 e) : FunOK Tryz.prog 31 [⟨tFrame, f⟩, ⟨tEvidence, e⟩, ⟨(.list tPiece), us⟩, ⟨tSignature, x⟩] (.rd I (frL f.2.1 us f.2.2.2.1 x (bornF f.1 x.1) e.2.1)) := by
  have q1 : List.length e.2.1 ≤ 1048576 := he.2.1.1
  have hf := finF_lt (fun x : tKey.den => x.1) x.1 f.1 0
  refine fun_of (tb := tb) follows Tryz.func31 (by kernel_rfl) Tryz.ntmps31 rfl rfl rfl ?_
  intro cx hN hw
  simp (disch := exact eqId (by kernel_rfl)) only [go_sem, ↓reduceIte, Nat.reduceAdd, Nat.reduceMul, Nat.reduceLT, Nat.reduceBEq, Nat.reduceLeDiff, Nat.reduceEqDiff, Int.reduceToNat]
  repeat' (first | (refine And.intro ?_ ?_) | intro _ | (refine callQ_intro (impl_FindKey_ok _ _) ?_; try (simp (disch := exact eqId (by kernel_rfl)) only [go_sem, ↓reduceIte, Nat.reduceAdd, Nat.reduceMul, Nat.reduceLT, Nat.reduceBEq, Nat.reduceLeDiff, Nat.reduceEqDiff, Int.reduceToNat])) | (refine callH_intro (fun hcc => impl_FindKey_ok _ _) ?_; try (simp (disch := exact eqId (by kernel_rfl)) only [go_sem, ↓reduceIte, Nat.reduceAdd, Nat.reduceMul, Nat.reduceLT, Nat.reduceBEq, Nat.reduceLeDiff, Nat.reduceEqDiff, Int.reduceToNat])))
  all_goals (try omega)
  iterate 2
    · rename_i hc
      refine loop_intro (tb := tb) follows hN (D := Nat × Int) (fun d => shp [(2, .rd (.list tPiece) (us)), (4, .bp 10000 0), (7, .bp 10032 0), (9, .rd I (d.2 : Int)), (32, .rd (.list (.list tStamp)) (e.2.1)), (33, .rd I (((e.2.1).length : Int) : Int)), (34, .rd I (d.1 : Int))] [(10000, .box 39 [.rd (.list tKey) (f.1), .rd (.list tAuthority) (f.2.1), .rd (.list tMethod) (f.2.2.1), .rd I (f.2.2.2.1), .rd I (f.2.2.2.2.1)]), (10032, .box 76 [.rd I (x.1), .rd I (x.2.1), .rd I (x.2.2.1), .rd I (x.2.2.2.1), .rd I (x.2.2.2.2.1), .rd I (x.2.2.2.2.2.1), .rd I (x.2.2.2.2.2.2.1), .rd I (x.2.2.2.2.2.2.2.1), .rd I (x.2.2.2.2.2.2.2.2.1)])]) (fun d => d.1 ≤ List.length e.2.1 ∧ frL f.2.1 us f.2.2.2.1 x (bornF f.1 x.1) e.2.1 = frL f.2.1 us f.2.2.2.1 x d.2 (List.drop d.1 e.2.1)) (fun d => List.length e.2.1 - d.1) ((0, bornF f.1 x.1)) ?_ (sub_shp hN [(10000, some 10000), (10032, some 10032)] ?_) (fun d hd => ?_)
      · exact ⟨Nat.zero_le _, rfl⟩
      · simp (disch := exact eqId (by kernel_rfl)) only [go_sem, ↓reduceIte, Nat.reduceAdd, Nat.reduceMul, Nat.reduceLT, Nat.reduceBEq, Nat.reduceLeDiff, Nat.reduceEqDiff, Int.reduceToNat]
        unfold bornF
        first | rw [if_pos hc] | rw [if_neg hc]
        exact ⟨rfl, rfl⟩
      · obtain ⟨k, a⟩ := d
        obtain ⟨h1, h2⟩ := hd
        simp only at h1 h2
        simp (disch := exact eqId (by kernel_rfl)) only [go_sem, ↓reduceIte, Nat.reduceAdd, Nat.reduceMul, Nat.reduceLT, Nat.reduceBEq, Nat.reduceLeDiff, Nat.reduceEqDiff, Int.reduceToNat]
        repeat' (first | (refine And.intro ?_ ?_) | intro _ | (refine callQ_intro (impl_risingAuthorities_ok _) ?_; try (simp (disch := exact eqId (by kernel_rfl)) only [go_sem, ↓reduceIte, Nat.reduceAdd, Nat.reduceMul, Nat.reduceLT, Nat.reduceBEq, Nat.reduceLeDiff, Nat.reduceEqDiff, Int.reduceToNat])) | (refine callH_intro (fun hcc => impl_risingAuthorities_ok _) ?_; try (simp (disch := exact eqId (by kernel_rfl)) only [go_sem, ↓reduceIte, Nat.reduceAdd, Nat.reduceMul, Nat.reduceLT, Nat.reduceBEq, Nat.reduceLeDiff, Nat.reduceEqDiff, Int.reduceToNat])) | (refine callQ_intro (impl_StampsDigest_ok _ _ (small_fr he _)) ?_; try (simp (disch := exact eqId (by kernel_rfl)) only [go_sem, ↓reduceIte, Nat.reduceAdd, Nat.reduceMul, Nat.reduceLT, Nat.reduceBEq, Nat.reduceLeDiff, Nat.reduceEqDiff, Int.reduceToNat])) | (refine callH_intro (fun hcc => impl_StampsDigest_ok _ _ (small_fr he _)) ?_; try (simp (disch := exact eqId (by kernel_rfl)) only [go_sem, ↓reduceIte, Nat.reduceAdd, Nat.reduceMul, Nat.reduceLT, Nat.reduceBEq, Nat.reduceLeDiff, Nat.reduceEqDiff, Int.reduceToNat])))
        all_goals (try omega)
        · rename_i hk hc
          have hk : k < List.length e.2.1 := by omega
          refine back_intro ((k + 1, a)) ?_ ?_ (sub_shp hN [(10000, some 10000), (10032, some 10032)] ?_)
          · refine ⟨hk, ?_⟩
            simp only
            rw [h2, drop_getD hk [], frL, if_neg (frB_n hc)]
          · simp only; omega
          · simp (disch := exact eqId (by kernel_rfl)) only [go_sem, ↓reduceIte, Nat.reduceAdd, Nat.reduceMul, Nat.reduceLT, Nat.reduceBEq, Nat.reduceLeDiff, Nat.reduceEqDiff, Int.reduceToNat]
            first | exact ⟨rfl, wrap_succ' (by omega)⟩ | exact wrap_succ' (by omega)
        · rename_i hk hc
          have hk : k < List.length e.2.1 := by omega
          have hF : frB f.2.1 us f.2.2.2.1 x (List.getD e.2.1 k []) = (hasL f.2.1 us (List.getD e.2.1 k []) && (agoF f.2.1 (List.getD e.2.1 k []) f.2.2.2.1).2) := by rw [frB_g hc.1.1 hc.2, hc.1.2, Bool.true_and]
          have q2 := small_fr he k
          refine loop_intro (tb := tb) follows hN (D := Nat × Bool) (fun d => shp [(2, .rd (.list tPiece) (us)), (4, .bp 10000 0), (7, .bp 10032 0), (9, .rd I (a : Int)), (12, .rd (.list tStamp) (List.getD e.2.1 k [])), (13, .rd .bool (d.2)), (32, .rd (.list (.list tStamp)) (e.2.1)), (33, .rd I (((e.2.1).length : Int) : Int)), (34, .rd I (k : Int)), (55, .rd (.list tStamp) (List.getD e.2.1 k [])), (56, .rd I (List.length (List.getD e.2.1 k []) : Int)), (57, .rd I (d.1 : Int))] [(10000, .box 39 [.rd (.list tKey) (f.1), .rd (.list tAuthority) (f.2.1), .rd (.list tMethod) (f.2.2.1), .rd I (f.2.2.2.1), .rd I (f.2.2.2.2.1)]), (10032, .box 76 [.rd I (x.1), .rd I (x.2.1), .rd I (x.2.2.1), .rd I (x.2.2.2.1), .rd I (x.2.2.2.2.1), .rd I (x.2.2.2.2.2.1), .rd I (x.2.2.2.2.2.2.1), .rd I (x.2.2.2.2.2.2.2.1), .rd I (x.2.2.2.2.2.2.2.2.1)])]) (fun d => d.1 ≤ List.length (List.getD e.2.1 k []) ∧ hasL f.2.1 us (List.getD e.2.1 k []) = (d.2 && hasL f.2.1 us (List.drop d.1 (List.getD e.2.1 k [])))) (fun d => List.length (List.getD e.2.1 k []) - d.1) ((0, true)) ?_ (sub_shp hN [(10000, some 10000), (10032, some 10032)] ?_) (fun d hd => ?_)
          · exact ⟨Nat.zero_le _, rfl⟩
          · simp (disch := exact eqId (by kernel_rfl)) only [go_sem, ↓reduceIte, Nat.reduceAdd, Nat.reduceMul, Nat.reduceLT, Nat.reduceBEq, Nat.reduceLeDiff, Nat.reduceEqDiff, Int.reduceToNat]
            try rfl
          · obtain ⟨j, b⟩ := d
            obtain ⟨h3, h4⟩ := hd
            simp only at h3 h4
            simp (disch := exact eqId (by kernel_rfl)) only [go_sem, ↓reduceIte, Nat.reduceAdd, Nat.reduceMul, Nat.reduceLT, Nat.reduceBEq, Nat.reduceLeDiff, Nat.reduceEqDiff, Int.reduceToNat]
            repeat' (first | (refine And.intro ?_ ?_) | intro _ | (refine callQ_intro (impl_StampKey_ok _ _) ?_; try (simp (disch := exact eqId (by kernel_rfl)) only [go_sem, ↓reduceIte, Nat.reduceAdd, Nat.reduceMul, Nat.reduceLT, Nat.reduceBEq, Nat.reduceLeDiff, Nat.reduceEqDiff, Int.reduceToNat])) | (refine callH_intro (fun hcc => impl_StampKey_ok _ _) ?_; try (simp (disch := exact eqId (by kernel_rfl)) only [go_sem, ↓reduceIte, Nat.reduceAdd, Nat.reduceMul, Nat.reduceLT, Nat.reduceBEq, Nat.reduceLeDiff, Nat.reduceEqDiff, Int.reduceToNat])) | (refine callQ_intro (impl_StampPiece_ok _ _) ?_; try (simp (disch := exact eqId (by kernel_rfl)) only [go_sem, ↓reduceIte, Nat.reduceAdd, Nat.reduceMul, Nat.reduceLT, Nat.reduceBEq, Nat.reduceLeDiff, Nat.reduceEqDiff, Int.reduceToNat])) | (refine callH_intro (fun hcc => impl_StampPiece_ok _ _) ?_; try (simp (disch := exact eqId (by kernel_rfl)) only [go_sem, ↓reduceIte, Nat.reduceAdd, Nat.reduceMul, Nat.reduceLT, Nat.reduceBEq, Nat.reduceLeDiff, Nat.reduceEqDiff, Int.reduceToNat])) | (refine callQ_intro (impl_hasPiece_ok _ _) ?_; try (simp (disch := exact eqId (by kernel_rfl)) only [go_sem, ↓reduceIte, Nat.reduceAdd, Nat.reduceMul, Nat.reduceLT, Nat.reduceBEq, Nat.reduceLeDiff, Nat.reduceEqDiff, Int.reduceToNat])) | (refine callH_intro (fun hcc => impl_hasPiece_ok _ _) ?_; try (simp (disch := exact eqId (by kernel_rfl)) only [go_sem, ↓reduceIte, Nat.reduceAdd, Nat.reduceMul, Nat.reduceLT, Nat.reduceBEq, Nat.reduceLeDiff, Nat.reduceEqDiff, Int.reduceToNat])) | (refine callQ_intro (impl_agreedOn_ok _ _ _ (small_fr he _)) ?_; try (simp (disch := exact eqId (by kernel_rfl)) only [go_sem, ↓reduceIte, Nat.reduceAdd, Nat.reduceMul, Nat.reduceLT, Nat.reduceBEq, Nat.reduceLeDiff, Nat.reduceEqDiff, Int.reduceToNat])) | (refine callH_intro (fun hcc => impl_agreedOn_ok _ _ _ (small_fr he _)) ?_; try (simp (disch := exact eqId (by kernel_rfl)) only [go_sem, ↓reduceIte, Nat.reduceAdd, Nat.reduceMul, Nat.reduceLT, Nat.reduceBEq, Nat.reduceLeDiff, Nat.reduceEqDiff, Int.reduceToNat])))
            all_goals (try omega)
            · rename_i hj
              have hj : j < List.length (List.getD e.2.1 k []) := by omega
              refine back_intro ((j + 1, b && hpF (stP f.2.1 (List.getD (List.getD e.2.1 k []) j (0, 0, 0, 0, 0, ()))) us)) ?_ ?_ (sub_shp hN [(10000, some 10000), (10032, some 10032)] ?_)
              · refine ⟨hj, ?_⟩
                simp only
                rw [h4, drop_getD hj (0, 0, 0, 0, 0, ())]
                unfold hasL
                rw [List.all_cons, Bool.and_assoc]
              · simp only; omega
              · simp (disch := exact eqId (by kernel_rfl)) only [go_sem, ↓reduceIte, Nat.reduceAdd, Nat.reduceMul, Nat.reduceLT, Nat.reduceBEq, Nat.reduceLeDiff, Nat.reduceEqDiff, Int.reduceToNat]
                exact ⟨rfl, wrap_succ' (by omega)⟩
            · rename_i hj ho
              have hb : hasL f.2.1 us (List.getD e.2.1 k []) = b := by
                rw [h4, drop_end (show List.length (List.getD e.2.1 k []) ≤ j by omega)]
                exact Bool.and_true _
              refine back_intro ((k + 1, mxF a (agoF f.2.1 (List.getD e.2.1 k []) f.2.2.2.1).1.1)) ?_ ?_ (sub_shp hN [(10000, some 10000), (10032, some 10032)] ?_)
              · refine ⟨hk, ?_⟩
                simp only
                rw [h2, drop_getD hk [], frL, if_pos (by rw [hF, hb, ho.1]; exact ho.2)]
              · simp only; omega
              · simp (disch := exact eqId (by kernel_rfl)) only [go_sem, ↓reduceIte, Nat.reduceAdd, Nat.reduceMul, Nat.reduceLT, Nat.reduceBEq, Nat.reduceLeDiff, Nat.reduceEqDiff, Int.reduceToNat]
                exact ⟨rfl, wrap_succ' (by omega)⟩
            · rename_i hj ho
              have hb : hasL f.2.1 us (List.getD e.2.1 k []) = b := by
                rw [h4, drop_end (show List.length (List.getD e.2.1 k []) ≤ j by omega)]
                exact Bool.and_true _
              refine back_intro ((k + 1, a)) ?_ ?_ (sub_shp hN [(10000, some 10000), (10032, some 10032)] ?_)
              · refine ⟨hk, ?_⟩
                simp only
                rw [h2, drop_getD hk [], frL, if_neg (by rw [hF, hb]; rcases ho with ho | ho; rw [ho, Bool.false_and]; decide; rw [show (agoF f.2.1 (List.getD e.2.1 k []) f.2.2.2.1).2 = false from ho, Bool.and_false]; decide)]
              · simp only; omega
              · simp (disch := exact eqId (by kernel_rfl)) only [go_sem, ↓reduceIte, Nat.reduceAdd, Nat.reduceMul, Nat.reduceLT, Nat.reduceBEq, Nat.reduceLeDiff, Nat.reduceEqDiff, Int.reduceToNat]
                first | exact ⟨rfl, wrap_succ' (by omega)⟩ | exact wrap_succ' (by omega)
        · rename_i hk
          rw [h2, drop_end (show List.length e.2.1 ≤ k by omega)]
          rfl
theorem spec_FreshFrom_ok (f : tFrame.den) (e : tEvidence.den) (us : List tPiece.den) (x : tSignature.den) (he : Small tEvidence 1048576 e) : FunOK Tryz.prog 27 [⟨tFrame, f⟩, ⟨tEvidence, e⟩, ⟨(.list tPiece), us⟩, ⟨tSignature, x⟩] (.rd I (frL f.2.1 us f.2.2.2.1 x (bornF f.1 x.1) e.2.1)) := by
  have q1 : List.length e.2.1 ≤ 1048576 := he.2.1.1
  have hf := finF_lt (fun x : tKey.den => x.1) x.1 f.1 0
  refine fun_of (tb := tb) follows Tryz.func27 (by kernel_rfl) Tryz.ntmps27 rfl rfl rfl ?_
  intro cx hN hw
  simp (disch := exact eqId (by kernel_rfl)) only [go_sem, ↓reduceIte, Nat.reduceAdd, Nat.reduceMul, Nat.reduceLT, Nat.reduceBEq, Nat.reduceLeDiff, Nat.reduceEqDiff, Int.reduceToNat]
  repeat' (first | (refine And.intro ?_ ?_) | intro _ | (refine callQ_intro (spec_FindKey_ok _ _) ?_; try (simp (disch := exact eqId (by kernel_rfl)) only [go_sem, ↓reduceIte, Nat.reduceAdd, Nat.reduceMul, Nat.reduceLT, Nat.reduceBEq, Nat.reduceLeDiff, Nat.reduceEqDiff, Int.reduceToNat])) | (refine callH_intro (fun hcc => spec_FindKey_ok _ _) ?_; try (simp (disch := exact eqId (by kernel_rfl)) only [go_sem, ↓reduceIte, Nat.reduceAdd, Nat.reduceMul, Nat.reduceLT, Nat.reduceBEq, Nat.reduceLeDiff, Nat.reduceEqDiff, Int.reduceToNat])))
  all_goals (try omega)
  iterate 2
    · rename_i hc
      refine loop_intro (tb := tb) follows hN (D := Nat × Int) (fun d => shp [(2, .rd (.list tPiece) (us)), (4, .bp 10000 0), (5, .bp 10016 0), (7, .bp 10032 0), (9, .rd I (d.2 : Int)), (11, .rd I (d.1 : Int))] [(10000, .box 39 [.rd (.list tKey) (f.1), .rd (.list tAuthority) (f.2.1), .rd (.list tMethod) (f.2.2.1), .rd I (f.2.2.2.1), .rd I (f.2.2.2.2.1)]), (10016, .box 73 [.rd (.list tStrand) (e.1), .rd (.list (.list tStamp)) (e.2.1)]), (10032, .box 76 [.rd I (x.1), .rd I (x.2.1), .rd I (x.2.2.1), .rd I (x.2.2.2.1), .rd I (x.2.2.2.2.1), .rd I (x.2.2.2.2.2.1), .rd I (x.2.2.2.2.2.2.1), .rd I (x.2.2.2.2.2.2.2.1), .rd I (x.2.2.2.2.2.2.2.2.1)])]) (fun d => d.1 ≤ List.length e.2.1 ∧ frL f.2.1 us f.2.2.2.1 x (bornF f.1 x.1) e.2.1 = frL f.2.1 us f.2.2.2.1 x d.2 (List.drop d.1 e.2.1)) (fun d => List.length e.2.1 - d.1) ((0, bornF f.1 x.1)) ?_ (sub_shp hN [(10000, some 10000), (10016, some 10016), (10032, some 10032)] ?_) (fun d hd => ?_)
      · exact ⟨Nat.zero_le _, rfl⟩
      · simp (disch := exact eqId (by kernel_rfl)) only [go_sem, ↓reduceIte, Nat.reduceAdd, Nat.reduceMul, Nat.reduceLT, Nat.reduceBEq, Nat.reduceLeDiff, Nat.reduceEqDiff, Int.reduceToNat]
        unfold bornF
        first | rw [if_pos hc] | rw [if_neg hc]
        exact ⟨rfl, rfl⟩
      · obtain ⟨k, a⟩ := d
        obtain ⟨h1, h2⟩ := hd
        simp only at h1 h2
        simp (disch := exact eqId (by kernel_rfl)) only [go_sem, ↓reduceIte, Nat.reduceAdd, Nat.reduceMul, Nat.reduceLT, Nat.reduceBEq, Nat.reduceLeDiff, Nat.reduceEqDiff, Int.reduceToNat]
        repeat' (first | (refine And.intro ?_ ?_) | intro _ | (refine callQ_intro (spec_StampsDigest_ok _ _ (small_fr he _)) ?_; try (simp (disch := exact eqId (by kernel_rfl)) only [go_sem, ↓reduceIte, Nat.reduceAdd, Nat.reduceMul, Nat.reduceLT, Nat.reduceBEq, Nat.reduceLeDiff, Nat.reduceEqDiff, Int.reduceToNat])) | (refine callH_intro (fun hcc => spec_StampsDigest_ok _ _ (small_fr he _)) ?_; try (simp (disch := exact eqId (by kernel_rfl)) only [go_sem, ↓reduceIte, Nat.reduceAdd, Nat.reduceMul, Nat.reduceLT, Nat.reduceBEq, Nat.reduceLeDiff, Nat.reduceEqDiff, Int.reduceToNat])) | (refine callQ_intro (spec_l23After_ok _ _ _ (small_fr he _)) ?_; try (simp (disch := exact eqId (by kernel_rfl)) only [go_sem, ↓reduceIte, Nat.reduceAdd, Nat.reduceMul, Nat.reduceLT, Nat.reduceBEq, Nat.reduceLeDiff, Nat.reduceEqDiff, Int.reduceToNat])) | (refine callH_intro (fun hcc => spec_l23After_ok _ _ _ (small_fr he _)) ?_; try (simp (disch := exact eqId (by kernel_rfl)) only [go_sem, ↓reduceIte, Nat.reduceAdd, Nat.reduceMul, Nat.reduceLT, Nat.reduceBEq, Nat.reduceLeDiff, Nat.reduceEqDiff, Int.reduceToNat])) | (refine callQ_intro (spec_Max_ok _ _) ?_; try (simp (disch := exact eqId (by kernel_rfl)) only [go_sem, ↓reduceIte, Nat.reduceAdd, Nat.reduceMul, Nat.reduceLT, Nat.reduceBEq, Nat.reduceLeDiff, Nat.reduceEqDiff, Int.reduceToNat])) | (refine callH_intro (fun hcc => spec_Max_ok _ _) ?_; try (simp (disch := exact eqId (by kernel_rfl)) only [go_sem, ↓reduceIte, Nat.reduceAdd, Nat.reduceMul, Nat.reduceLT, Nat.reduceBEq, Nat.reduceLeDiff, Nat.reduceEqDiff, Int.reduceToNat])))
        all_goals (try omega)
        · rename_i hk hc
          have hl : k < List.length e.2.1 := by omega
          refine back_intro ((k + 1, a)) ?_ ?_ (sub_shp hN [(10000, some 10000), (10016, some 10016), (10032, some 10032)] ?_)
          · refine ⟨hl, ?_⟩
            simp only
            rw [h2, drop_getD hl [], frL, if_neg (frB_n (.inr hc))]
          · simp only; omega
          · simp (disch := exact eqId (by kernel_rfl)) only [go_sem, ↓reduceIte, Nat.reduceAdd, Nat.reduceMul, Nat.reduceLT, Nat.reduceBEq, Nat.reduceLeDiff, Nat.reduceEqDiff, Int.reduceToNat]
            first | exact ⟨rfl, wrap_succ' (by omega)⟩ | exact wrap_succ' (by omega)
        · rename_i hk hc ho
          have hl : k < List.length e.2.1 := by omega
          have hq := aft_eq f.2.1 us f.2.2.2.1 (List.getD e.2.1 k [])
          have ho : (aftF f.2.1 us f.2.2.2.1 (List.getD e.2.1 k [])).2 = true := ho
          have hF : frB f.2.1 us f.2.2.2.1 x (List.getD e.2.1 k []) = true := by rw [frB_g hk.2 hc, ← hq.1, ho]
          refine back_intro ((k + 1, mxF a (agoF f.2.1 (List.getD e.2.1 k []) f.2.2.2.1).1.1)) ?_ ?_ (sub_shp hN [(10000, some 10000), (10016, some 10016), (10032, some 10032)] ?_)
          · refine ⟨hl, ?_⟩
            simp only
            rw [h2, drop_getD hl [], frL, if_pos hF]
          · simp only; omega
          · simp (disch := exact eqId (by kernel_rfl)) only [go_sem, ↓reduceIte, Nat.reduceAdd, Nat.reduceMul, Nat.reduceLT, Nat.reduceBEq, Nat.reduceLeDiff, Nat.reduceEqDiff, Int.reduceToNat]
            first | exact ⟨congrArg (mxF a) (hq.2 ho), wrap_succ' (by omega)⟩ | trace_state
        · rename_i hk hc ho
          have hl : k < List.length e.2.1 := by omega
          have hq := aft_eq f.2.1 us f.2.2.2.1 (List.getD e.2.1 k [])
          have ho : (aftF f.2.1 us f.2.2.2.1 (List.getD e.2.1 k [])).2 = false := ho
          have hF : ¬ frB f.2.1 us f.2.2.2.1 x (List.getD e.2.1 k []) = true := by rw [frB_g hk.2 hc, ← hq.1, ho]; decide
          refine back_intro ((k + 1, a)) ?_ ?_ (sub_shp hN [(10000, some 10000), (10016, some 10016), (10032, some 10032)] ?_)
          · refine ⟨hl, ?_⟩
            simp only
            rw [h2, drop_getD hl [], frL, if_neg hF]
          · simp only; omega
          · simp (disch := exact eqId (by kernel_rfl)) only [go_sem, ↓reduceIte, Nat.reduceAdd, Nat.reduceMul, Nat.reduceLT, Nat.reduceBEq, Nat.reduceLeDiff, Nat.reduceEqDiff, Int.reduceToNat]
            first | exact ⟨rfl, wrap_succ' (by omega)⟩ | exact wrap_succ' (by omega)
        · rename_i hk
          rw [h2]
          by_cases h0 : (x.2.2.2.2.2.2.2.1 : Int) = 0
          · rw [frL_z h0]
          · rw [drop_end (show List.length e.2.1 ≤ k by rcases hk with hk | hk; omega; exact absurd hk h0)]
            rfl
end Go.Proofs.YtkneckknjmahdaaGreat
