/- What the functions of agreed spans, of renewals' spans and breaks and of links answer, on both sides. It proves nothing of a statement by itself. -/
import Derived.Test.YthllljccckiobaaGreatB6
set_option linter.unusedSimpArgs false
set_option linter.unusedVariables false
set_option maxRecDepth 100000
namespace Go.Proofs.YthllljccckiobaaGreat
open Go.AL
theorem cntF_cons (x : tSpan.den) (xs : List tSpan.den) (t : Int) : cntF (x :: xs) t = cntF xs t + if inS t x = true then 1 else 0 := by
  unfold cntF
  rw [List.countP_cons]
theorem inS_iff {t : Int} {x : tSpan.den} : (inS t x = true) = (spB x = true ∧ (x.1 : Int) ≤ t ∧ t ≤ (x.2.1 : Int)) := by
  simp [inS]
theorem impl_CountAt_ok (l : List tSpan.den) (t : Int) : FunOK Tryz.prog 89 [⟨(.list tSpan), l⟩, ⟨I, t⟩] (.rd I (cntF l t : Int)) := by
  refine fun_of (tb := tb) follows Tryz.func89 (by kernel_rfl) Tryz.ntmps89 rfl rfl rfl ?_; intro cx hN hw
  have hm : maxLen = 9223372036854775807 := rfl
  have hl : l.length ≤ maxLen := hw.1.1
  simp (disch := exact eqId (by kernel_rfl)) only [go_sem, ↓reduceIte, Nat.reduceAdd, Nat.reduceMul, Nat.reduceLT, Nat.reduceBEq, Nat.reduceLeDiff, Nat.reduceEqDiff, Int.reduceToNat]
  refine loop_intro (tb := tb) follows hN (D := Nat × Nat) (fun d => shp [(1, .rd I (t : Int)), (5, .rd I (d.2 : Int)), (8, .rd (.list tSpan) (l)), (9, .rd I (((l).length : Int) : Int)), (10, .rd I (d.1 : Int))] []) (fun d => (d.1 ≤ l.length ∧ d.2 ≤ d.1) ∧ cntF l t = d.2 + cntF (l.drop d.1) t) (fun d => l.length - d.1) ((0, 0)) ?_ (sub_shp hN [] ?_) (fun d hd => ?_)
  · exact ⟨⟨Nat.zero_le _, Nat.le_refl _⟩, by simp⟩
  · simp (disch := exact eqId (by kernel_rfl)) only [go_sem, ↓reduceIte, Nat.reduceAdd, Nat.reduceMul, Nat.reduceLT, Nat.reduceBEq, Nat.reduceLeDiff, Nat.reduceEqDiff, Int.reduceToNat]
    try exact ⟨rfl, rfl⟩
  · obtain ⟨k, n⟩ := d
    obtain ⟨⟨h0, h1⟩, h2⟩ := hd
    simp only at h0 h1 h2
    simp (disch := exact eqId (by kernel_rfl)) only [go_sem, ↓reduceIte, Nat.reduceAdd, Nat.reduceMul, Nat.reduceLT, Nat.reduceBEq, Nat.reduceLeDiff, Nat.reduceEqDiff, Int.reduceToNat]
    repeat' (first | (refine And.intro ?_ ?_) | intro _ | (refine callQ_intro (impl_IsSpan_ok _) ?_; try (simp (disch := exact eqId (by kernel_rfl)) only [go_sem, ↓reduceIte, Nat.reduceAdd, Nat.reduceMul, Nat.reduceLT, Nat.reduceBEq, Nat.reduceLeDiff, Nat.reduceEqDiff, Int.reduceToNat])) | (refine callH_intro (fun hcc => impl_IsSpan_ok _) ?_; try (simp (disch := exact eqId (by kernel_rfl)) only [go_sem, ↓reduceIte, Nat.reduceAdd, Nat.reduceMul, Nat.reduceLT, Nat.reduceBEq, Nat.reduceLeDiff, Nat.reduceEqDiff, Int.reduceToNat])) | (refine callQ_intro (inRange_ok _ _ _) ?_; try (simp (disch := exact eqId (by kernel_rfl)) only [go_sem, ↓reduceIte, Nat.reduceAdd, Nat.reduceMul, Nat.reduceLT, Nat.reduceBEq, Nat.reduceLeDiff, Nat.reduceEqDiff, Int.reduceToNat])) | (refine callH_intro (fun hcc => inRange_ok _ _ _) ?_; try (simp (disch := exact eqId (by kernel_rfl)) only [go_sem, ↓reduceIte, Nat.reduceAdd, Nat.reduceMul, Nat.reduceLT, Nat.reduceBEq, Nat.reduceLeDiff, Nat.reduceEqDiff, Int.reduceToNat])))
    all_goals (try omega)
    · rename_i hk hc
      have hk : k < l.length := by omega
      have hi : inS t (l.getD k (0, 0, ())) = true := by rw [inS_iff]; simp_all
      refine back_intro ((k + 1, n + 1)) ?_ ?_ (sub_shp hN [] ?_)
      · refine ⟨⟨hk, by simp only; omega⟩, ?_⟩
        simp only
        rw [h2, drop_getD hk (0, 0, ()), cntF_cons, if_pos hi]
        omega
      · simp only; omega
      · simp (disch := exact eqId (by kernel_rfl)) only [go_sem, ↓reduceIte, Nat.reduceAdd, Nat.reduceMul, Nat.reduceLT, Nat.reduceBEq, Nat.reduceLeDiff, Nat.reduceEqDiff, Int.reduceToNat]
        exact ⟨(wrap_i64 (by omega) (by omega)).trans (by omega), wrap_succ hk hw.1.1⟩
    · rename_i hk hc
      have hk : k < l.length := by omega
      have hi : ¬ inS t (l.getD k (0, 0, ())) = true := by
        rw [inS_iff]
        rintro ⟨x1, x2, x3⟩
        first
          | (rcases hc with hc | hc | hc
             · rw [show spB (l.getD k (0, 0, ())) = false from hc] at x1; cases x1
             · exact hc x2
             · exact hc x3)
          | (rcases hc with (hc | hc) | hc
             · rw [show spB (l.getD k (0, 0, ())) = false from hc] at x1; cases x1
             · exact hc x2
             · exact hc x3)
      refine back_intro ((k + 1, n)) ?_ ?_ (sub_shp hN [] ?_)
      · refine ⟨⟨hk, by simp only; omega⟩, ?_⟩
        simp only
        rw [h2, drop_getD hk (0, 0, ()), cntF_cons, if_neg hi]
        omega
      · simp only; omega
      · simp (disch := exact eqId (by kernel_rfl)) only [go_sem, ↓reduceIte, Nat.reduceAdd, Nat.reduceMul, Nat.reduceLT, Nat.reduceBEq, Nat.reduceLeDiff, Nat.reduceEqDiff, Int.reduceToNat]
        exact wrap_succ hk hw.1.1
    · rename_i hk
      rw [h2, drop_end (show l.length ≤ k by omega)]
      simp [cntF]
theorem impl_IsSupported_ok (l : List tSpan.den) (t n : Int) : FunOK Tryz.prog 65 [⟨(.list tSpan), l⟩, ⟨I, t⟩, ⟨I, n⟩] (.rd .bool (supF l n t)) := by
  refine fun_of (tb := tb) follows Tryz.func65 (by kernel_rfl) Tryz.ntmps65 rfl rfl rfl ?_; intro cx hN hw
  have hm : maxLen = 9223372036854775807 := rfl
  have hl : l.length ≤ maxLen := hw.1.1
  have e1 : IntKind.i64.wrap ((l.length : Int) - 1) = (l.length : Int) - 1 := wrap_i64 (by omega) (by omega)
  simp (disch := exact eqId (by kernel_rfl)) only [go_sem, ↓reduceIte, Nat.reduceAdd, Nat.reduceMul, Nat.reduceLT, Nat.reduceBEq, Nat.reduceLeDiff, Nat.reduceEqDiff, Int.reduceToNat, e1]
  repeat' (first | (refine And.intro ?_ ?_) | intro _ | (refine callQ_intro (inRange_ok _ _ _) ?_; try (simp (disch := exact eqId (by kernel_rfl)) only [go_sem, ↓reduceIte, Nat.reduceAdd, Nat.reduceMul, Nat.reduceLT, Nat.reduceBEq, Nat.reduceLeDiff, Nat.reduceEqDiff, Int.reduceToNat])) | (refine callH_intro (fun hcc => inRange_ok _ _ _) ?_; try (simp (disch := exact eqId (by kernel_rfl)) only [go_sem, ↓reduceIte, Nat.reduceAdd, Nat.reduceMul, Nat.reduceLT, Nat.reduceBEq, Nat.reduceLeDiff, Nat.reduceEqDiff, Int.reduceToNat])) | (refine callQ_intro (impl_CountAt_ok _ _) ?_; try (simp (disch := exact eqId (by kernel_rfl)) only [go_sem, ↓reduceIte, Nat.reduceAdd, Nat.reduceMul, Nat.reduceLT, Nat.reduceBEq, Nat.reduceLeDiff, Nat.reduceEqDiff, Int.reduceToNat])) | (refine callH_intro (fun hcc => impl_CountAt_ok _ _) ?_; try (simp (disch := exact eqId (by kernel_rfl)) only [go_sem, ↓reduceIte, Nat.reduceAdd, Nat.reduceMul, Nat.reduceLT, Nat.reduceBEq, Nat.reduceLeDiff, Nat.reduceEqDiff, Int.reduceToNat])))
  by_cases h : 0 ≤ n ∧ n ≤ (l.length : Int) - 1
  · rw [wrap_i64 (by omega) (by omega)]
    rfl
  · have h9 : (decide (0 ≤ n) && decide (n ≤ (l.length : Int) - 1)) = false := by
      rw [← Bool.not_eq_true, Bool.and_eq_true, decide_eq_true_eq, decide_eq_true_eq]
      exact h
    unfold supF inB
    rw [h9, Bool.false_and, Bool.false_and]
theorem agI_no {sup : Int → Bool} {n : Nat} (h : sup (n : Int) = false) : agI sup (n + 1) = agI sup n := by rw [agI, if_neg (by rw [h]; decide)]
theorem agI_new {sup : Int → Bool} {n : Nat} (h : sup (n : Int) = true) (hb : (agI sup n).2 = false) : agI sup (n + 1) = (((n : Int), (n : Int), ()), true) := by rw [agI, if_pos h, if_neg (by rw [hb]; decide)]
theorem agI_old {sup : Int → Bool} {n : Nat} (h : sup (n : Int) = true) (hb : (agI sup n).2 = true) : agI sup (n + 1) = (((agI sup n).1.1, (n : Int), ()), true) := by rw [agI, if_pos h, if_pos hb]
theorem impl_AgreedSpan_ok (l : List tSpan.den) (n : Int) : FunOK Tryz.prog 40 [⟨(.list tSpan), l⟩, ⟨I, n⟩] (.tup [.rd tSpan (agF l n).1, .rd .bool (agF l n).2]) := by
  rw [← ag_eq l n]
  refine fun_of (tb := tb) follows Tryz.func40 (by kernel_rfl) Tryz.ntmps40 rfl rfl rfl ?_; intro cx hN hw
  simp (disch := exact eqId (by kernel_rfl)) only [go_sem, ↓reduceIte, Nat.reduceAdd, Nat.reduceMul, Nat.reduceLT, Nat.reduceBEq, Nat.reduceLeDiff, Nat.reduceEqDiff, Int.reduceToNat]
  refine loop_intro (tb := tb) follows hN (D := Nat) (fun d => shp [(0, .rd (.list tSpan) (l)), (1, .rd I (n : Int)), (4, .bp 10000 0), (6, .bp 20000 0), (7, .rd .bool ((agI (supF l n) d).2)), (8, .rd I (d : Int))] [(10000, .box 40 [.rd I (0), .rd I (0)]), (20000, .box 40 [.rd I ((agI (supF l n) d).1.1 : Int), .rd I ((agI (supF l n) d).1.2.1 : Int)])]) (fun d => d ≤ 10001) (fun d => 10001 - d) (0) ?_ (sub_shp hN [(10000, some 10000), (20000, some 20000)] ?_) (fun d hd => ?_)
  · exact Nat.zero_le _
  · simp (disch := exact eqId (by kernel_rfl)) only [go_sem, ↓reduceIte, Nat.reduceAdd, Nat.reduceMul, Nat.reduceLT, Nat.reduceBEq, Nat.reduceLeDiff, Nat.reduceEqDiff, Int.reduceToNat]
    exact ⟨⟨rfl, rfl⟩, rfl, rfl⟩
  · simp (disch := exact eqId (by kernel_rfl)) only [go_sem, ↓reduceIte, Nat.reduceAdd, Nat.reduceMul, Nat.reduceLT, Nat.reduceBEq, Nat.reduceLeDiff, Nat.reduceEqDiff, Int.reduceToNat]
    repeat' (first | (refine And.intro ?_ ?_) | intro _ | (refine callQ_intro (impl_IsSupported_ok _ _ _) ?_; try (simp (disch := exact eqId (by kernel_rfl)) only [go_sem, ↓reduceIte, Nat.reduceAdd, Nat.reduceMul, Nat.reduceLT, Nat.reduceBEq, Nat.reduceLeDiff, Nat.reduceEqDiff, Int.reduceToNat])) | (refine callH_intro (fun hcc => impl_IsSupported_ok _ _ _) ?_; try (simp (disch := exact eqId (by kernel_rfl)) only [go_sem, ↓reduceIte, Nat.reduceAdd, Nat.reduceMul, Nat.reduceLT, Nat.reduceBEq, Nat.reduceLeDiff, Nat.reduceEqDiff, Int.reduceToNat])))
    all_goals (try omega)
    · rename_i h1 h2 h3
      refine back_intro (d + 1) ?_ ?_ (sub_shp hN [(10000, some 10000), (20000, some 20000)] ?_)
      · omega
      · omega
      · simp (disch := exact eqId (by kernel_rfl)) only [go_sem, ↓reduceIte, Nat.reduceAdd, Nat.reduceMul, Nat.reduceLT, Nat.reduceBEq, Nat.reduceLeDiff, Nat.reduceEqDiff, Int.reduceToNat]
        rw [agI_new h2 h3]
        exact ⟨⟨rfl, rfl⟩, rfl, wrap_succ' (by omega)⟩
    · rename_i h1 h2 h3
      refine back_intro (d + 1) ?_ ?_ (sub_shp hN [(10000, some 10000), (20000, some 20000)] ?_)
      · omega
      · omega
      · simp (disch := exact eqId (by kernel_rfl)) only [go_sem, ↓reduceIte, Nat.reduceAdd, Nat.reduceMul, Nat.reduceLT, Nat.reduceBEq, Nat.reduceLeDiff, Nat.reduceEqDiff, Int.reduceToNat]
        rw [agI_old h2 h3]
        exact ⟨⟨rfl, rfl⟩, rfl, wrap_succ' (by omega)⟩
    · rename_i h1 h2
      refine back_intro (d + 1) ?_ ?_ (sub_shp hN [(10000, some 10000), (20000, some 20000)] ?_)
      · omega
      · omega
      · simp (disch := exact eqId (by kernel_rfl)) only [go_sem, ↓reduceIte, Nat.reduceAdd, Nat.reduceMul, Nat.reduceLT, Nat.reduceBEq, Nat.reduceLeDiff, Nat.reduceEqDiff, Int.reduceToNat]
        rw [agI_no h2]
        first | exact ⟨⟨rfl, rfl⟩, rfl, wrap_succ' (by omega)⟩ | exact wrap_succ' (by omega)
    all_goals
      have hd2 : d = 10001 := by omega
      subst hd2
      rfl
def sspL (l : List tAuthority.den) (ss : List tStamp.den) : List tSpan.den := ss.map (fun s => (sspF l s).1)
def agoF (l : List tAuthority.den) (ss : List tStamp.den) (n : Int) : tSpan.den × Bool := if ss.all (fun s => (sspF l s).2) = true then agF (sspL l ss) n else ((0, 0, ()), false)
theorem sspL_take (l : List tAuthority.den) {ss : List tStamp.den} {k : Nat} (hk : k < ss.length) : sspL l (ss.take (k + 1)) = sspL l (ss.take k) ++ [(sspF l (ss.getD k (0, 0, 0, 0, 0, ()))).1] := by
  unfold sspL
  exact map_take_succ _ hk _
theorem sspL_len (l : List tAuthority.den) (ss : List tStamp.den) : (sspL l ss).length = ss.length := by simp [sspL]
noncomputable def rbF (ks : List tKey.den) (l : List tAuthority.den) (ms : List tMethod.den) : Int → List tStamp.den → Int
  | a, [] => a
  | a, s :: ss => if finF (fun x : tKey.den => x.1) (skyF l s) ks 0 < 0 then 0 else rbF ks l ms (mnF a (brkF ms (ks.getD (finF (fun x : tKey.den => x.1) (skyF l s) ks 0).toNat (0, 0, 0, 0, 0, ())).2.2.1)) ss
theorem impl_agreedOn_ok (l : List tAuthority.den) (ss : List tStamp.den) (n : Int) (hs : ss.length ≤ 1048576) : FunOK Tryz.prog 19 [⟨(.list tAuthority), l⟩, ⟨(.list tStamp), ss⟩, ⟨I, n⟩] (.tup [.rd tSpan (agoF l ss n).1, .rd .bool (agoF l ss n).2]) := by
  refine fun_of (tb := tb) follows Tryz.func19 (by kernel_rfl) Tryz.ntmps19 rfl rfl rfl ?_; intro cx hN hw
  simp (disch := exact eqId (by kernel_rfl)) only [go_sem, ↓reduceIte, Nat.reduceAdd, Nat.reduceMul, Nat.reduceLT, Nat.reduceBEq, Nat.reduceLeDiff, Nat.reduceEqDiff, Int.reduceToNat]
  refine loop_intro (tb := tb) follows hN (D := Nat) (fun d => shp [(0, .rd (.list tAuthority) (l)), (2, .rd I (n : Int)), (6, .bp 10000 0), (8, .own 1), (13, .rd (.list tStamp) (ss)), (14, .rd I (((ss).length : Int) : Int)), (15, .rd I (d : Int))] [(1, .row 40 tSpan (sspL l (List.take d ss))), (10000, .box 40 [.rd I (0), .rd I (0)])]) (fun d => d ≤ List.length ss ∧ List.all ss (fun s => (sspF l s).2) = (List.drop d ss).all (fun s => (sspF l s).2)) (fun d => List.length ss - d) (0) ?_ (sub_shp hN [(10000, some 10000), (1, none)] ?_) (fun d hd => ?_)
  · exact ⟨Nat.zero_le _, rfl⟩
  · simp (disch := exact eqId (by kernel_rfl)) only [go_sem, ↓reduceIte, Nat.reduceAdd, Nat.reduceMul, Nat.reduceLT, Nat.reduceBEq, Nat.reduceLeDiff, Nat.reduceEqDiff, Int.reduceToNat]
    try exact ⟨rfl, rfl⟩
  · obtain ⟨h1, h2⟩ := hd
    have hl9 : (sspL l (List.take d ss)).length ≤ List.length ss := by rw [sspL_len, List.length_take]; omega
    simp (disch := exact eqId (by kernel_rfl)) only [go_sem, ↓reduceIte, Nat.reduceAdd, Nat.reduceMul, Nat.reduceLT, Nat.reduceBEq, Nat.reduceLeDiff, Nat.reduceEqDiff, Int.reduceToNat]
    repeat' (first | (refine And.intro ?_ ?_) | intro _ | (refine callQ_intro (impl_StampSpan_ok _ _) ?_; try (simp (disch := exact eqId (by kernel_rfl)) only [go_sem, ↓reduceIte, Nat.reduceAdd, Nat.reduceMul, Nat.reduceLT, Nat.reduceBEq, Nat.reduceLeDiff, Nat.reduceEqDiff, Int.reduceToNat])) | (refine callH_intro (fun hcc => impl_StampSpan_ok _ _) ?_; try (simp (disch := exact eqId (by kernel_rfl)) only [go_sem, ↓reduceIte, Nat.reduceAdd, Nat.reduceMul, Nat.reduceLT, Nat.reduceBEq, Nat.reduceLeDiff, Nat.reduceEqDiff, Int.reduceToNat])))
    all_goals (try omega)
    all_goals (try (simp only [List.length_append, List.length_cons, List.length_nil]; omega))
    iterate 2
      · rename_i hk hc
        have hall : List.all ss (fun s => (sspF l s).2) = false := by
          rw [h2, drop_getD (show d < List.length ss by omega) (0, 0, 0, 0, 0, ()), List.all_cons]
          rw [show (sspF l (List.getD ss d (0, 0, 0, 0, 0, ()))).2 = false from hc, Bool.false_and]
        have hag : agoF l ss n = ((0, 0, ()), false) := by unfold agoF; exact if_neg (by rw [hall]; decide)
        first | exact (congrArg Prod.fst hag).symm | exact (congrArg Prod.snd hag).symm
    · rename_i hk hc
      have hk : d < List.length ss := by omega
      refine back_intro (d + 1) ?_ ?_ (sub_shp hN [(10000, some 10000), (1, some 90048)] ?_)
      · refine ⟨hk, ?_⟩
        rw [h2, drop_getD hk (0, 0, 0, 0, 0, ()), List.all_cons]
        rw [show (sspF l (List.getD ss d (0, 0, 0, 0, 0, ()))).2 = true from hc, Bool.true_and]
      · omega
      · simp (disch := exact eqId (by kernel_rfl)) only [go_sem, ↓reduceIte, Nat.reduceAdd, Nat.reduceMul, Nat.reduceLT, Nat.reduceBEq, Nat.reduceLeDiff, Nat.reduceEqDiff, Int.reduceToNat]
        rw [sspL_take l hk]
        try exact ⟨rfl, wrap_succ hk hw.2.1.1⟩
    · rename_i hk
      have hk : d = List.length ss := by omega
      have hall : List.all ss (fun s => (sspF l s).2) = true := by
        rw [h2, drop_end (show List.length ss ≤ d by omega)]
        rfl
      have hag : agoF l ss n = agF (sspL l ss) n := by unfold agoF; exact if_pos hall
      rw [hk, List.take_length]
      refine callQ_intro (impl_AgreedSpan_ok _ _) ?_
      simp (disch := exact eqId (by kernel_rfl)) only [go_sem, ↓reduceIte, Nat.reduceAdd, Nat.reduceMul, Nat.reduceLT, Nat.reduceBEq, Nat.reduceLeDiff, Nat.reduceEqDiff, Int.reduceToNat]
      first | exact ⟨(congrArg Prod.fst hag).symm, (congrArg Prod.snd hag).symm⟩ | rw [hag]
theorem impl_RenewalSpan_ok (l : List tAuthority.den) (r : tRenewal.den) (n : Int) (hs : List.length r.2.2.2.2.1 ≤ 1048576) : FunOK Tryz.prog 9 [⟨(.list tAuthority), l⟩, ⟨tRenewal, r⟩, ⟨I, n⟩] (.tup [.rd tSpan (agoF l r.2.2.2.2.1 n).1, .rd .bool (agoF l r.2.2.2.2.1 n).2]) := by
  refine fun_of (tb := tb) follows Tryz.func9 (by kernel_rfl) Tryz.ntmps9 rfl rfl rfl ?_; intro cx hN hw
  simp (disch := exact eqId (by kernel_rfl)) only [go_sem, ↓reduceIte, Nat.reduceAdd, Nat.reduceMul, Nat.reduceLT, Nat.reduceBEq, Nat.reduceLeDiff, Nat.reduceEqDiff, Int.reduceToNat]
  repeat' (first | (refine And.intro ?_ ?_) | intro _ | (refine callQ_intro (impl_agreedOn_ok _ _ _ hs) ?_; try (simp (disch := exact eqId (by kernel_rfl)) only [go_sem, ↓reduceIte, Nat.reduceAdd, Nat.reduceMul, Nat.reduceLT, Nat.reduceBEq, Nat.reduceLeDiff, Nat.reduceEqDiff, Int.reduceToNat])) | (refine callH_intro (fun hcc => impl_agreedOn_ok _ _ _ hs) ?_; try (simp (disch := exact eqId (by kernel_rfl)) only [go_sem, ↓reduceIte, Nat.reduceAdd, Nat.reduceMul, Nat.reduceLT, Nat.reduceBEq, Nat.reduceLeDiff, Nat.reduceEqDiff, Int.reduceToNat])))
  all_goals (try rfl)
theorem impl_RenewalBreak_ok (ks : List tKey.den) (l : List tAuthority.den) (ms : List tMethod.den) (r : tRenewal.den) : FunOK Tryz.prog 21 [⟨(.list tKey), ks⟩, ⟨(.list tAuthority), l⟩, ⟨(.list tMethod), ms⟩, ⟨tRenewal, r⟩] (.rd I (rbF ks l ms (brkF ms r.2.1) r.2.2.2.2.1)) := by
  refine fun_of (tb := tb) follows Tryz.func21 (by kernel_rfl) Tryz.ntmps21 rfl rfl rfl ?_; intro cx hN hw
  simp (disch := exact eqId (by kernel_rfl)) only [go_sem, ↓reduceIte, Nat.reduceAdd, Nat.reduceMul, Nat.reduceLT, Nat.reduceBEq, Nat.reduceLeDiff, Nat.reduceEqDiff, Int.reduceToNat]
  refine callQ_intro (impl_BreakOf_ok _ _) ?_
  simp (disch := exact eqId (by kernel_rfl)) only [go_sem, ↓reduceIte, Nat.reduceAdd, Nat.reduceMul, Nat.reduceLT, Nat.reduceBEq, Nat.reduceLeDiff, Nat.reduceEqDiff, Int.reduceToNat]
  refine loop_intro (tb := tb) follows hN (D := Nat × Int) (fun d => shp [(0, .rd (.list tKey) (ks)), (1, .rd (.list tAuthority) (l)), (2, .rd (.list tMethod) (ms)), (9, .rd I (d.2 : Int)), (18, .rd (.list tStamp) (r.2.2.2.2.1)), (19, .rd I (((r.2.2.2.2.1).length : Int) : Int)), (20, .rd I (d.1 : Int))] []) (fun d => d.1 ≤ List.length r.2.2.2.2.1 ∧ rbF ks l ms (brkF ms r.2.1) r.2.2.2.2.1 = rbF ks l ms d.2 (List.drop d.1 r.2.2.2.2.1)) (fun d => List.length r.2.2.2.2.1 - d.1) ((0, brkF ms r.2.1)) ?_ (sub_shp hN [] ?_) (fun d hd => ?_)
  · exact ⟨Nat.zero_le _, rfl⟩
  · simp (disch := exact eqId (by kernel_rfl)) only [go_sem, ↓reduceIte, Nat.reduceAdd, Nat.reduceMul, Nat.reduceLT, Nat.reduceBEq, Nat.reduceLeDiff, Nat.reduceEqDiff, Int.reduceToNat]
    try rfl
  · obtain ⟨k, a⟩ := d
    obtain ⟨h1, h2⟩ := hd
    simp only at h1 h2
    have hf := finF_lt (fun x : tKey.den => x.1) (skyF l (List.getD r.2.2.2.2.1 k (0, 0, 0, 0, 0, ()))) ks 0
    have hf2 := finF_lt (fun x : tKey.den => x.1) (skyF l ((List.getD r.2.2.2.2.1 k (0, 0, 0, 0, 0, ())).1, (List.getD r.2.2.2.2.1 k (0, 0, 0, 0, 0, ())).2.1, (List.getD r.2.2.2.2.1 k (0, 0, 0, 0, 0, ())).2.2.1, (List.getD r.2.2.2.2.1 k (0, 0, 0, 0, 0, ())).2.2.2.1, (List.getD r.2.2.2.2.1 k (0, 0, 0, 0, 0, ())).2.2.2.2.1, ())) ks 0
    simp (disch := exact eqId (by kernel_rfl)) only [go_sem, ↓reduceIte, Nat.reduceAdd, Nat.reduceMul, Nat.reduceLT, Nat.reduceBEq, Nat.reduceLeDiff, Nat.reduceEqDiff, Int.reduceToNat]
    repeat' (first | (refine And.intro ?_ ?_) | intro _ | (refine callQ_intro (impl_StampKey_ok _ _) ?_; try (simp (disch := exact eqId (by kernel_rfl)) only [go_sem, ↓reduceIte, Nat.reduceAdd, Nat.reduceMul, Nat.reduceLT, Nat.reduceBEq, Nat.reduceLeDiff, Nat.reduceEqDiff, Int.reduceToNat])) | (refine callH_intro (fun hcc => impl_StampKey_ok _ _) ?_; try (simp (disch := exact eqId (by kernel_rfl)) only [go_sem, ↓reduceIte, Nat.reduceAdd, Nat.reduceMul, Nat.reduceLT, Nat.reduceBEq, Nat.reduceLeDiff, Nat.reduceEqDiff, Int.reduceToNat])) | (refine callQ_intro (impl_FindKey_ok _ _) ?_; try (simp (disch := exact eqId (by kernel_rfl)) only [go_sem, ↓reduceIte, Nat.reduceAdd, Nat.reduceMul, Nat.reduceLT, Nat.reduceBEq, Nat.reduceLeDiff, Nat.reduceEqDiff, Int.reduceToNat])) | (refine callH_intro (fun hcc => impl_FindKey_ok _ _) ?_; try (simp (disch := exact eqId (by kernel_rfl)) only [go_sem, ↓reduceIte, Nat.reduceAdd, Nat.reduceMul, Nat.reduceLT, Nat.reduceBEq, Nat.reduceLeDiff, Nat.reduceEqDiff, Int.reduceToNat])) | (refine callQ_intro (impl_BreakOf_ok _ _) ?_; try (simp (disch := exact eqId (by kernel_rfl)) only [go_sem, ↓reduceIte, Nat.reduceAdd, Nat.reduceMul, Nat.reduceLT, Nat.reduceBEq, Nat.reduceLeDiff, Nat.reduceEqDiff, Int.reduceToNat])) | (refine callH_intro (fun hcc => impl_BreakOf_ok _ _) ?_; try (simp (disch := exact eqId (by kernel_rfl)) only [go_sem, ↓reduceIte, Nat.reduceAdd, Nat.reduceMul, Nat.reduceLT, Nat.reduceBEq, Nat.reduceLeDiff, Nat.reduceEqDiff, Int.reduceToNat])))
    all_goals (try omega)
    · rename_i hk hc
      rw [h2, drop_getD (show k < List.length r.2.2.2.2.1 by omega) (0, 0, 0, 0, 0, ()), rbF, if_pos hc]
    · rename_i hk hc
      have hk : k < List.length r.2.2.2.2.1 := by omega
      refine back_intro ((k + 1, mnF a (brkF ms (ks.getD (finF (fun x : tKey.den => x.1) (skyF l (List.getD r.2.2.2.2.1 k (0, 0, 0, 0, 0, ()))) ks 0).toNat (0, 0, 0, 0, 0, ())).2.2.1))) ?_ ?_ (sub_shp hN [] ?_)
      · refine ⟨hk, ?_⟩
        simp only
        rw [h2, drop_getD hk (0, 0, 0, 0, 0, ()), rbF, if_neg hc]
      · simp only; omega
      · simp (disch := exact eqId (by kernel_rfl)) only [go_sem, ↓reduceIte, Nat.reduceAdd, Nat.reduceMul, Nat.reduceLT, Nat.reduceBEq, Nat.reduceLeDiff, Nat.reduceEqDiff, Int.reduceToNat]
        first | exact ⟨rfl, wrap_succ hk hw.2.2.2.1.2.2.2.2.1.1⟩ | exact wrap_succ hk hw.2.2.2.1.2.2.2.2.1.1
    · rename_i hk
      rw [h2, drop_end (show List.length r.2.2.2.2.1 ≤ k by omega)]
      rfl
theorem small_ren {s : tStrand.den} (hs : Small tStrand 1048576 s) {k : Nat} (hk : k < List.length s.2.1) : List.length (List.getD s.2.1 k (0, 0, 0, [], [], ())).2.2.2.2.1 ≤ 1048576 := (hs.2.1.2 _ (getD_mem hk _)).2.2.2.2.1.1
noncomputable def linkF (f : tFrame.den) (s : tStrand.den) (k : Int) : Bool :=
  if 0 ≤ k ∧ k ≤ (List.length s.2.1 : Int) - 1 then
    (if k = (List.length s.2.1 : Int) - 1 then decide ((f.2.2.2.2.1 : Int) < rbF f.1 f.2.1 f.2.2.1 (brkF f.2.2.1 (List.getD s.2.1 k.toNat (0, 0, 0, [], [], ())).2.1) (List.getD s.2.1 k.toNat (0, 0, 0, [], [], ())).2.2.2.2.1)
    else (agoF f.2.1 (List.getD s.2.1 (k + 1).toNat (0, 0, 0, [], [], ())).2.2.2.2.1 f.2.2.2.1).2 && decide ((agoF f.2.1 (List.getD s.2.1 (k + 1).toNat (0, 0, 0, [], [], ())).2.2.2.2.1 f.2.2.2.1).1.2.1 < rbF f.1 f.2.1 f.2.2.1 (brkF f.2.2.1 (List.getD s.2.1 k.toNat (0, 0, 0, [], [], ())).2.1) (List.getD s.2.1 k.toNat (0, 0, 0, [], [], ())).2.2.2.2.1))
  else false
noncomputable def ffF (ks : List tKey.den) (l : List tAuthority.den) (s : tStrand.den) (docs : List Int) : Nat → List tRenewal.den → Int
  | k, [] => k
  | k, r :: rs => if crF ks l r (laF s docs k) = true then ffF ks l s docs (k + 1) rs else k
theorem impl_spanOf_ok (f : tFrame.den) (r : tRenewal.den) (hs : List.length r.2.2.2.2.1 ≤ 1048576) : FunOK Tryz.prog 16 [⟨tFrame, f⟩, ⟨tRenewal, r⟩] (.tup [.rd tSpan (agoF f.2.1 r.2.2.2.2.1 f.2.2.2.1).1, .rd .bool (agoF f.2.1 r.2.2.2.2.1 f.2.2.2.1).2]) := by
  refine fun_of (tb := tb) follows Tryz.func16 (by kernel_rfl) Tryz.ntmps16 rfl rfl rfl ?_
  intro cx hN hw
  simp (disch := exact eqId (by kernel_rfl)) only [go_sem, ↓reduceIte, Nat.reduceAdd, Nat.reduceMul, Nat.reduceLT, Nat.reduceBEq, Nat.reduceLeDiff, Nat.reduceEqDiff, Int.reduceToNat]
  repeat' (first | (refine And.intro ?_ ?_) | intro _ | (refine callQ_intro (impl_RenewalSpan_ok _ _ _ hs) ?_; try (simp (disch := exact eqId (by kernel_rfl)) only [go_sem, ↓reduceIte, Nat.reduceAdd, Nat.reduceMul, Nat.reduceLT, Nat.reduceBEq, Nat.reduceLeDiff, Nat.reduceEqDiff, Int.reduceToNat])) | (refine callH_intro (fun hcc => impl_RenewalSpan_ok _ _ _ hs) ?_; try (simp (disch := exact eqId (by kernel_rfl)) only [go_sem, ↓reduceIte, Nat.reduceAdd, Nat.reduceMul, Nat.reduceLT, Nat.reduceBEq, Nat.reduceLeDiff, Nat.reduceEqDiff, Int.reduceToNat])))
  all_goals (try rfl)
theorem impl_LinkHolds_ok (f : tFrame.den) (s : tStrand.den) (k : Int) (hs : Small tStrand 1048576 s) : FunOK Tryz.prog 10 [⟨tFrame, f⟩, ⟨tStrand, s⟩, ⟨I, k⟩] (.rd .bool (linkF f s k)) := by
  have q1 : List.length s.2.1 ≤ 1048576 := hs.2.1.1
  have e1 : IntKind.i64.wrap ((List.length s.2.1 : Int) - 1) = (List.length s.2.1 : Int) - 1 := wrap_i64 (by omega) (by omega)
  have e2 : 0 ≤ k → k ≤ 1048576 → IntKind.i64.wrap (k + 1) = k + 1 := fun h1 h2 => wrap_i64 (by omega) (by omega)
  refine fun_of (tb := tb) follows Tryz.func10 (by kernel_rfl) Tryz.ntmps10 rfl rfl rfl ?_; intro cx hN hw
  simp (disch := exact eqId (by kernel_rfl)) only [go_sem, ↓reduceIte, Nat.reduceAdd, Nat.reduceMul, Nat.reduceLT, Nat.reduceBEq, Nat.reduceLeDiff, Nat.reduceEqDiff, Int.reduceToNat, e1]
  repeat' (first | (refine And.intro ?_ ?_) | intro _ | (refine callQ_intro (inRange_ok _ _ _) ?_; try (simp (disch := exact eqId (by kernel_rfl)) only [go_sem, ↓reduceIte, Nat.reduceAdd, Nat.reduceMul, Nat.reduceLT, Nat.reduceBEq, Nat.reduceLeDiff, Nat.reduceEqDiff, Int.reduceToNat])) | (refine callH_intro (fun hcc => inRange_ok _ _ _) ?_; try (simp (disch := exact eqId (by kernel_rfl)) only [go_sem, ↓reduceIte, Nat.reduceAdd, Nat.reduceMul, Nat.reduceLT, Nat.reduceBEq, Nat.reduceLeDiff, Nat.reduceEqDiff, Int.reduceToNat])) | (refine callQ_intro (impl_RenewalBreak_ok _ _ _ _) ?_; try (simp (disch := exact eqId (by kernel_rfl)) only [go_sem, ↓reduceIte, Nat.reduceAdd, Nat.reduceMul, Nat.reduceLT, Nat.reduceBEq, Nat.reduceLeDiff, Nat.reduceEqDiff, Int.reduceToNat])) | (refine callH_intro (fun hcc => impl_RenewalBreak_ok _ _ _ _) ?_; try (simp (disch := exact eqId (by kernel_rfl)) only [go_sem, ↓reduceIte, Nat.reduceAdd, Nat.reduceMul, Nat.reduceLT, Nat.reduceBEq, Nat.reduceLeDiff, Nat.reduceEqDiff, Int.reduceToNat])))
  all_goals (try omega)
  · rename_i h1
    unfold linkF
    rw [if_neg (by omega)]
  · rename_i h1 h2
    rw [e1] at h2
    unfold linkF
    rw [if_pos h1, if_pos h2]
  · rename_i h1 h2
    rw [e1] at h2
    rw [e2 h1.1 (by omega)]
    refine callQ_intro (impl_spanOf_ok _ _ (small_ren hs (by omega))) ?_
    simp (disch := exact eqId (by kernel_rfl)) only [go_sem, ↓reduceIte, Nat.reduceAdd, Nat.reduceMul, Nat.reduceLT, Nat.reduceBEq, Nat.reduceLeDiff, Nat.reduceEqDiff, Int.reduceToNat]
    repeat' (first | (refine And.intro ?_ ?_) | intro _)
    all_goals (try omega)
    all_goals
      unfold linkF
      rw [if_pos h1, if_neg h2]
end Go.Proofs.YthllljccckiobaaGreat
/- What the functions of kept renewals, of bounds and of fresh stamps answer, on both sides. It proves nothing of a statement by itself. -/
set_option linter.unusedSimpArgs false
set_option linter.unusedVariables false
set_option maxRecDepth 100000
namespace Go.Proofs.YthllljccckiobaaGreat
open Go.AL
theorem and3 (a b c : Bool) : ((a && b) && c) = (a && (c && b)) := by cases a <;> cases b <;> cases c <;> rfl
noncomputable def keptB (f : tFrame.den) (s : tStrand.den) (docs : List Int) (k : Int) : Bool :=
  (agoF f.2.1 (List.getD s.2.1 k.toNat (0, 0, 0, [], [], ())).2.2.2.2.1 f.2.2.2.1).2 && (crF f.1 f.2.1 (List.getD s.2.1 k.toNat (0, 0, 0, [], [], ())) (laF s docs k) && linkF f s k)
def fkN (p : Int → Bool) : Nat → Nat
  | 0 => 0
  | k + 1 => if p k = true then fkN p k else k + 1
theorem fkN_le (p : Int → Bool) : ∀ (n : Nat), fkN p n ≤ n
  | 0 => Nat.le_refl _
  | k + 1 => by
    unfold fkN
    split
    · exact Nat.le_succ_of_le (fkN_le p k)
    · exact Nat.le_refl _
theorem fkN_go {p : Int → Bool} {d : Nat} (h : 0 < d) (hp : p ((d : Int) - 1) = true) : fkN p d = fkN p (d - 1) := by
  cases d with
  | zero => omega
  | succ k =>
    rw [show ((k + 1 : Nat) : Int) - 1 = (k : Int) from by omega] at hp
    rw [fkN, if_pos hp]
    rfl
theorem fkN_no {p : Int → Bool} {d : Nat} (h : d = 0 ∨ p ((d : Int) - 1) = false) : fkN p d = d := by
  cases d with
  | zero => rfl
  | succ k =>
    rcases h with h | hp
    · omega
    · rw [show ((k + 1 : Nat) : Int) - 1 = (k : Int) from by omega] at hp
      rw [fkN, if_neg (by rw [hp]; decide)]
theorem kept_f {f : tFrame.den} {s : tStrand.den} {docs : List Int} {k : Int} (h : ((agoF f.2.1 (List.getD s.2.1 k.toNat (0, 0, 0, [], [], ())).2.2.2.2.1 f.2.2.2.1).2 = false ∨ crF f.1 f.2.1 (List.getD s.2.1 k.toNat (0, 0, 0, [], [], ())) (laF s docs k) = false) ∨ linkF f s k = false) : keptB f s docs k = false := by
  unfold keptB
  rcases h with (h | h) | h
  · rw [h, Bool.false_and]
  · rw [h, Bool.false_and, Bool.and_false]
  · rw [h, Bool.and_false, Bool.and_false]
theorem kept_t {f : tFrame.den} {s : tStrand.den} {docs : List Int} {k : Int} (h : ((agoF f.2.1 (List.getD s.2.1 k.toNat (0, 0, 0, [], [], ())).2.2.2.2.1 f.2.2.2.1).2 = true ∧ crF f.1 f.2.1 (List.getD s.2.1 k.toNat (0, 0, 0, [], [], ())) (laF s docs k) = true) ∧ linkF f s k = true) : keptB f s docs k = true := by
  unfold keptB
  rw [h.1.1, h.1.2, h.2]
  rfl
noncomputable def fkF (f : tFrame.den) (s : tStrand.den) (docs : List Int) : Nat := fkN (keptB f s docs) (List.length s.2.1)
noncomputable def bdL (f : tFrame.den) (p : Int) : Int → List tRenewal.den → Int
  | b, [] => b
  | b, r :: rs => bdL f p (if (r.1 : Int) > p then mnF b (agoF f.2.1 r.2.2.2.2.1 f.2.2.2.1).1.2.1 else b) rs
noncomputable def boF (f : tFrame.den) (s : tStrand.den) (docs : List Int) (p : Int) : Int := bdL f p f.2.2.2.2.1 (s.2.1.drop (fkF f s docs))
noncomputable def pbF (f : tFrame.den) (s : tStrand.den) (docs : List Int) (p : tPiece.den) : Int := if fpiF p s.1 0 < 0 then f.2.2.2.2.1 else boF f s docs (fpiF p s.1 0)
theorem impl_FirstKept_ok (f : tFrame.den) (s : tStrand.den) (docs : List Int) (hs : Small tStrand 1048576 s) : FunOK Tryz.prog 7 [⟨tFrame, f⟩, ⟨tStrand, s⟩, ⟨(.list I), docs⟩] (.rd I (fkF f s docs : Int)) := by
  have q1 : List.length s.2.1 ≤ 1048576 := hs.2.1.1
  refine fun_of (tb := tb) follows Tryz.func7 (by kernel_rfl) Tryz.ntmps7 rfl rfl rfl ?_; intro cx hN hw
  simp (disch := exact eqId (by kernel_rfl)) only [go_sem, ↓reduceIte, Nat.reduceAdd, Nat.reduceMul, Nat.reduceLT, Nat.reduceBEq, Nat.reduceLeDiff, Nat.reduceEqDiff, Int.reduceToNat]
  refine loop_intro (tb := tb) follows hN (D := Nat) (fun d => shp [(2, .rd (.list I) (docs)), (3, .bp 10000 0), (4, .bp 10016 0), (7, .rd I (d : Int))] [(10000, .box 28 [.rd (.list tKey) (f.1), .rd (.list tAuthority) (f.2.1), .rd (.list tMethod) (f.2.2.1), .rd I (f.2.2.2.1), .rd I (f.2.2.2.2.1)]), (10016, .box 32 [.rd (.list tPiece) (s.1), .rd (.list tRenewal) (s.2.1)])]) (fun d => d ≤ List.length s.2.1 ∧ fkF f s docs = fkN (keptB f s docs) d) (fun d => d) ((List.length s.2.1)) ?_ (sub_shp hN [(10000, some 10000), (10016, some 10016)] ?_) (fun d hd => ?_)
  · exact ⟨Nat.le_refl _, rfl⟩
  · simp (disch := exact eqId (by kernel_rfl)) only [go_sem, ↓reduceIte, Nat.reduceAdd, Nat.reduceMul, Nat.reduceLT, Nat.reduceBEq, Nat.reduceLeDiff, Nat.reduceEqDiff, Int.reduceToNat]
    try rfl
  · obtain ⟨h1, h2⟩ := hd
    have e1 : IntKind.i64.wrap ((d : Int) - 1) = (d : Int) - 1 := wrap_i64 (by omega) (by omega)
    have hA : decide ((d : Int) > 0) = true → 0 ≤ IntKind.i64.wrap ((d : Int) - 1) ∧ IntKind.i64.wrap ((d : Int) - 1) < (List.length s.2.1 : Int) := fun h => by
      rw [decide_eq_true_eq] at h
      rw [e1]
      omega
    simp (disch := exact eqId (by kernel_rfl)) only [go_sem, ↓reduceIte, Nat.reduceAdd, Nat.reduceMul, Nat.reduceLT, Nat.reduceBEq, Nat.reduceLeDiff, Nat.reduceEqDiff, Int.reduceToNat, e1]
    repeat' (first | (refine And.intro ?_ ?_) | intro _ | (refine callQ_intro (impl_spanOf_ok _ _ (small_ren hs (by omega))) ?_; try (simp (disch := exact eqId (by kernel_rfl)) only [go_sem, ↓reduceIte, Nat.reduceAdd, Nat.reduceMul, Nat.reduceLT, Nat.reduceBEq, Nat.reduceLeDiff, Nat.reduceEqDiff, Int.reduceToNat])) | (refine callH_intro (fun hcc => impl_spanOf_ok _ _ (small_ren hs (by omega))) ?_; try (simp (disch := exact eqId (by kernel_rfl)) only [go_sem, ↓reduceIte, Nat.reduceAdd, Nat.reduceMul, Nat.reduceLT, Nat.reduceBEq, Nat.reduceLeDiff, Nat.reduceEqDiff, Int.reduceToNat])) | (refine callQ_intro (impl_LeafAt_ok _ _ _ hs) ?_; try (simp (disch := exact eqId (by kernel_rfl)) only [go_sem, ↓reduceIte, Nat.reduceAdd, Nat.reduceMul, Nat.reduceLT, Nat.reduceBEq, Nat.reduceLeDiff, Nat.reduceEqDiff, Int.reduceToNat])) | (refine callH_intro (fun hcc => impl_LeafAt_ok _ _ _ hs) ?_; try (simp (disch := exact eqId (by kernel_rfl)) only [go_sem, ↓reduceIte, Nat.reduceAdd, Nat.reduceMul, Nat.reduceLT, Nat.reduceBEq, Nat.reduceLeDiff, Nat.reduceEqDiff, Int.reduceToNat])) | (refine callQ_intro (impl_CheckRenewal_ok _ _ _ _) ?_; try (simp (disch := exact eqId (by kernel_rfl)) only [go_sem, ↓reduceIte, Nat.reduceAdd, Nat.reduceMul, Nat.reduceLT, Nat.reduceBEq, Nat.reduceLeDiff, Nat.reduceEqDiff, Int.reduceToNat])) | (refine callH_intro (fun hcc => impl_CheckRenewal_ok _ _ _ _) ?_; try (simp (disch := exact eqId (by kernel_rfl)) only [go_sem, ↓reduceIte, Nat.reduceAdd, Nat.reduceMul, Nat.reduceLT, Nat.reduceBEq, Nat.reduceLeDiff, Nat.reduceEqDiff, Int.reduceToNat])) | (refine callQ_intro (impl_LinkHolds_ok _ _ _ hs) ?_; try (simp (disch := exact eqId (by kernel_rfl)) only [go_sem, ↓reduceIte, Nat.reduceAdd, Nat.reduceMul, Nat.reduceLT, Nat.reduceBEq, Nat.reduceLeDiff, Nat.reduceEqDiff, Int.reduceToNat])) | (refine callH_intro (fun hcc => impl_LinkHolds_ok _ _ _ hs) ?_; try (simp (disch := exact eqId (by kernel_rfl)) only [go_sem, ↓reduceIte, Nat.reduceAdd, Nat.reduceMul, Nat.reduceLT, Nat.reduceBEq, Nat.reduceLeDiff, Nat.reduceEqDiff, Int.reduceToNat])))
    all_goals (try omega)
    · rename_i hp hc
      rw [e1] at hc
      have hk9 : keptB f s docs ((d : Int) - 1) = false := kept_f hc
      rw [h2, fkN_no (.inr hk9)]
    · rename_i hp hc
      rw [e1] at hc
      have hk9 : keptB f s docs ((d : Int) - 1) = true := kept_t hc
      refine back_intro (d - 1) ?_ ?_ (sub_shp hN [(10000, some 10000), (10016, some 10016)] ?_)
      · exact ⟨by omega, by rw [h2, fkN_go (by omega) hk9]⟩
      · omega
      · simp (disch := exact eqId (by kernel_rfl)) only [go_sem, ↓reduceIte, Nat.reduceAdd, Nat.reduceMul, Nat.reduceLT, Nat.reduceBEq, Nat.reduceLeDiff, Nat.reduceEqDiff, Int.reduceToNat]
        exact e1.trans (by omega)
    · rename_i hp
      rw [h2, fkN_no (.inl (by omega))]
theorem impl_BoundOf_ok (f : tFrame.den) (s : tStrand.den) (docs : List Int) (p : Int) (hs : Small tStrand 1048576 s) : FunOK Tryz.prog 6 [⟨tFrame, f⟩, ⟨tStrand, s⟩, ⟨(.list I), docs⟩, ⟨I, p⟩] (.rd I (boF f s docs p)) := by
  have q1 : List.length s.2.1 ≤ 1048576 := hs.2.1.1
  refine fun_of (tb := tb) follows Tryz.func6 (by kernel_rfl) Tryz.ntmps6 rfl rfl rfl ?_; intro cx hN hw
  simp (disch := exact eqId (by kernel_rfl)) only [go_sem, ↓reduceIte, Nat.reduceAdd, Nat.reduceMul, Nat.reduceLT, Nat.reduceBEq, Nat.reduceLeDiff, Nat.reduceEqDiff, Int.reduceToNat]
  refine callQ_intro (impl_FirstKept_ok _ _ _ hs) ?_
  simp (disch := exact eqId (by kernel_rfl)) only [go_sem, ↓reduceIte, Nat.reduceAdd, Nat.reduceMul, Nat.reduceLT, Nat.reduceBEq, Nat.reduceLeDiff, Nat.reduceEqDiff, Int.reduceToNat]
  refine loop_intro (tb := tb) follows hN (D := Nat × Int) (fun d => shp [(3, .rd I (p : Int)), (4, .bp 10000 0), (5, .bp 10016 0), (9, .rd I (d.2 : Int)), (10, .rd I (d.1 : Int))] [(10000, .box 28 [.rd (.list tKey) (f.1), .rd (.list tAuthority) (f.2.1), .rd (.list tMethod) (f.2.2.1), .rd I (f.2.2.2.1), .rd I (f.2.2.2.2.1)]), (10016, .box 32 [.rd (.list tPiece) (s.1), .rd (.list tRenewal) (s.2.1)])]) (fun d => d.1 ≤ List.length s.2.1 ∧ boF f s docs p = bdL f p d.2 (List.drop d.1 s.2.1)) (fun d => List.length s.2.1 - d.1) ((fkF f s docs, (f.2.2.2.2.1 : Int))) ?_ (sub_shp hN [(10000, some 10000), (10016, some 10016)] ?_) (fun d hd => ?_)
  · exact ⟨fkN_le _ _, rfl⟩
  · simp (disch := exact eqId (by kernel_rfl)) only [go_sem, ↓reduceIte, Nat.reduceAdd, Nat.reduceMul, Nat.reduceLT, Nat.reduceBEq, Nat.reduceLeDiff, Nat.reduceEqDiff, Int.reduceToNat]
    try rfl
  · obtain ⟨k, a⟩ := d
    obtain ⟨h1, h2⟩ := hd
    simp only at h1 h2
    simp (disch := exact eqId (by kernel_rfl)) only [go_sem, ↓reduceIte, Nat.reduceAdd, Nat.reduceMul, Nat.reduceLT, Nat.reduceBEq, Nat.reduceLeDiff, Nat.reduceEqDiff, Int.reduceToNat]
    repeat' (first | (refine And.intro ?_ ?_) | intro _ | (refine callQ_intro (impl_spanOf_ok _ _ (small_ren hs (by omega))) ?_; try (simp (disch := exact eqId (by kernel_rfl)) only [go_sem, ↓reduceIte, Nat.reduceAdd, Nat.reduceMul, Nat.reduceLT, Nat.reduceBEq, Nat.reduceLeDiff, Nat.reduceEqDiff, Int.reduceToNat])) | (refine callH_intro (fun hcc => impl_spanOf_ok _ _ (small_ren hs (by omega))) ?_; try (simp (disch := exact eqId (by kernel_rfl)) only [go_sem, ↓reduceIte, Nat.reduceAdd, Nat.reduceMul, Nat.reduceLT, Nat.reduceBEq, Nat.reduceLeDiff, Nat.reduceEqDiff, Int.reduceToNat])))
    all_goals (try omega)
    · rename_i hk hc
      have hk : k < List.length s.2.1 := by omega
      refine back_intro ((k + 1, mnF a (agoF f.2.1 (List.getD s.2.1 k (0, 0, 0, [], [], ())).2.2.2.2.1 f.2.2.2.1).1.2.1)) ?_ ?_ (sub_shp hN [(10000, some 10000), (10016, some 10016)] ?_)
      · refine ⟨hk, ?_⟩
        simp only
        rw [h2, drop_getD hk (0, 0, 0, [], [], ()), bdL, if_pos hc]
      · simp only; omega
      · simp (disch := exact eqId (by kernel_rfl)) only [go_sem, ↓reduceIte, Nat.reduceAdd, Nat.reduceMul, Nat.reduceLT, Nat.reduceBEq, Nat.reduceLeDiff, Nat.reduceEqDiff, Int.reduceToNat]
        first | exact ⟨rfl, wrap_succ' (by omega)⟩ | exact wrap_succ' (by omega)
    · rename_i hk hc
      have hk : k < List.length s.2.1 := by omega
      refine back_intro ((k + 1, a)) ?_ ?_ (sub_shp hN [(10000, some 10000), (10016, some 10016)] ?_)
      · refine ⟨hk, ?_⟩
        simp only
        rw [h2, drop_getD hk (0, 0, 0, [], [], ()), bdL, if_neg hc]
      · simp only; omega
      · simp (disch := exact eqId (by kernel_rfl)) only [go_sem, ↓reduceIte, Nat.reduceAdd, Nat.reduceMul, Nat.reduceLT, Nat.reduceBEq, Nat.reduceLeDiff, Nat.reduceEqDiff, Int.reduceToNat]
        first | exact ⟨rfl, wrap_succ' (by omega)⟩ | exact wrap_succ' (by omega)
    · rename_i hk
      rw [h2, drop_end (show List.length s.2.1 ≤ k by omega)]
      rfl
theorem impl_IsUnbroken_ok (f : tFrame.den) (s : tStrand.den) (docs : List Int) (hs : Small tStrand 1048576 s) : FunOK Tryz.prog 8 [⟨tFrame, f⟩, ⟨tStrand, s⟩, ⟨(.list I), docs⟩] (.rd .bool (decide ((List.length s.2.1 : Int) > 0) && decide ((fkF f s docs : Int) = 0))) := by
  refine fun_of (tb := tb) follows Tryz.func8 (by kernel_rfl) Tryz.ntmps8 rfl rfl rfl ?_; intro cx hN hw
  simp (disch := exact eqId (by kernel_rfl)) only [go_sem, ↓reduceIte, Nat.reduceAdd, Nat.reduceMul, Nat.reduceLT, Nat.reduceBEq, Nat.reduceLeDiff, Nat.reduceEqDiff, Int.reduceToNat]
  repeat' (first | (refine And.intro ?_ ?_) | intro _ | (refine callQ_intro (impl_FirstKept_ok _ _ _ hs) ?_; try (simp (disch := exact eqId (by kernel_rfl)) only [go_sem, ↓reduceIte, Nat.reduceAdd, Nat.reduceMul, Nat.reduceLT, Nat.reduceBEq, Nat.reduceLeDiff, Nat.reduceEqDiff, Int.reduceToNat])) | (refine callH_intro (fun hcc => impl_FirstKept_ok _ _ _ hs) ?_; try (simp (disch := exact eqId (by kernel_rfl)) only [go_sem, ↓reduceIte, Nat.reduceAdd, Nat.reduceMul, Nat.reduceLT, Nat.reduceBEq, Nat.reduceLeDiff, Nat.reduceEqDiff, Int.reduceToNat])))
  all_goals (try omega)
  all_goals (try rfl)
def sdF (m : Int) (l : List tStamp.den) : Int := if l = [] then 0 else mxF 1 (digF m (l.map (fun s : tStamp.den => (s.2.2.2.2.1 : Int))))
theorem sdF_no {m : Int} {l : List tStamp.den} (h : (l.length : Int) = 0) : sdF m l = 0 := by
  rw [sdF, if_pos (List.eq_nil_of_length_eq_zero (by omega))]
theorem sdF_go {m : Int} {l : List tStamp.den} (h : ¬ (l.length : Int) = 0) : sdF m l = mxF 1 (digF m (l.map (fun s : tStamp.den => (s.2.2.2.2.1 : Int)))) := by
  rw [sdF, if_neg (by rintro rfl; exact h rfl)]
def stP (l : List tAuthority.den) (s : tStamp.den) : tPiece.den := (skyF l s, [103, s.1, s.2.1, s.2.2.1, s.2.2.2.1], s.2.2.2.2.1, ())
end Go.Proofs.YthllljccckiobaaGreat
/- The law of existence: by its draws and by plain maths. It proves nothing of a statement by itself. -/
set_option linter.unusedSimpArgs false
set_option linter.unusedVariables false
set_option maxRecDepth 100000
namespace Go.Proofs.YthllljccckiobaaGreat
open Go.AL
theorem big_ok (b : List Int) : FunOK Tryz.prog 4 [⟨(.list (.int .u8)), b⟩] (.rd .bool (decide ((b.length : Int) > 1048576))) := by
  refine fun_of (tb := tb) follows Tryz.func4 (by kernel_rfl) Tryz.ntmps4 rfl rfl rfl ?_; intro cx hN hw
  simp (disch := exact eqId (by kernel_rfl)) only [go_sem, ↓reduceIte, Nat.reduceAdd, Nat.reduceMul, Nat.reduceLT, Nat.reduceBEq, Nat.reduceLeDiff, Nat.reduceEqDiff, Int.reduceToNat]
theorem fkN_at {p : Int → Bool} : ∀ (n : Nat) (k : Nat), fkN p n ≤ k → k < n → p (k : Int) = true
  | 0, k, _, h => absurd h (by omega)
  | n + 1, k, h1, h2 => by
    unfold fkN at h1
    split at h1
    · rename_i hp
      rcases Nat.lt_or_ge k n with h | h
      · exact fkN_at n k h1 h
      · rw [show k = n by omega]
        exact hp
    · omega
theorem fkN_mono {p q : Int → Bool} : ∀ (n : Nat), (∀ k : Nat, k < n → q (k : Int) = true → p (k : Int) = true) → fkN p n ≤ fkN q n
  | 0, _ => Nat.le_refl _
  | n + 1, h => by
    have ih := fkN_mono (p := p) (q := q) n (fun k hk => h k (by omega))
    have hl := fkN_le p (n + 1)
    by_cases hq : q (n : Int) = true
    · have hp := h n (by omega) hq
      rw [fkN, if_pos hp, fkN, if_pos hq]
      exact ih
    · have e : fkN q (n + 1) = n + 1 := by rw [fkN, if_neg hq]
      rw [e]
      exact hl
theorem bdL_le (f : tFrame.den) (p : Int) : ∀ (rs : List tRenewal.den) (b : Int), bdL f p b rs ≤ b
  | [], b => Int.le_refl b
  | r :: rs, b => by
    rw [bdL]
    refine Int.le_trans (bdL_le f p rs _) ?_
    split
    · rw [mnF_eq]; omega
    · exact Int.le_refl b
theorem bdL_mem (f : tFrame.den) (p : Int) : ∀ (rs : List tRenewal.den) (b : Int) (r : tRenewal.den), r ∈ rs → (r.1 : Int) > p → bdL f p b rs ≤ (agoF f.2.1 r.2.2.2.2.1 f.2.2.2.1).1.2.1
  | [], b, r, h, _ => absurd h List.not_mem_nil
  | x :: rs, b, r, h, hp => by
    rw [bdL]
    rcases List.mem_cons.1 h with rfl | h
    · rw [if_pos hp]
      refine Int.le_trans (bdL_le f p rs _) ?_
      rw [mnF_eq]; omega
    · exact bdL_mem f p rs _ r h hp
theorem bdL_mono (f : tFrame.den) {p p' : Int} (hp : p ≤ p') : ∀ (rs : List tRenewal.den) (b b' : Int), b ≤ b' → bdL f p b rs ≤ bdL f p' b' rs
  | [], b, b', h => h
  | r :: rs, b, b', h => by
    rw [bdL, bdL]
    refine bdL_mono f hp rs _ _ ?_
    by_cases h1 : (r.1 : Int) > p
    · rw [if_pos h1]
      by_cases h2 : (r.1 : Int) > p'
      · rw [if_pos h2, mnF_eq, mnF_eq]; omega
      · rw [if_neg h2, mnF_eq]; omega
    · rw [if_neg h1, if_neg (fun h2 => h1 (Int.lt_of_le_of_lt hp h2))]
      exact h
theorem rb_le (ks : List tKey.den) (l : List tAuthority.den) (ms : List tMethod.den) (hm : ∀ n, 0 ≤ brkF ms n) : ∀ (ss : List tStamp.den) (a : Int), 0 ≤ a → rbF ks l ms a ss ≤ a
  | [], a, h => Int.le_refl a
  | s :: ss, a, h => by
    unfold rbF
    split
    · exact h
    · have hb := hm (ks.getD (finF (fun x : tKey.den => x.1) (skyF l s) ks 0).toNat (0, 0, 0, 0, 0, ())).2.2.1
      have := rb_le ks l ms hm ss (mnF a (brkF ms (ks.getD (finF (fun x : tKey.den => x.1) (skyF l s) ks 0).toNat (0, 0, 0, 0, 0, ())).2.2.1)) (by rw [mnF_eq]; omega)
      rw [mnF_eq] at this ⊢
      omega
theorem brk_in {ms : List tMethod.den} (h : ∀ m, m ∈ ms → (0 : Int) ≤ m.2.2.2.1 ∧ (m.2.2.2.1 : Int) ≤ 10001) (n : Int) : 0 ≤ brkF ms n ∧ brkF ms n ≤ 10001 := by
  unfold brkF
  split
  · rename_i h0
    have := finF_lt (fun x : tMethod.den => x.1) n ms 0
    exact h _ (getD_mem (by unfold finM at *; omega) _)
  · exact ⟨Int.le_refl 0, by decide⟩
theorem M4_in : ∀ m, m ∈ M4 → (0 : Int) ≤ m.2.2.2.1 ∧ (m.2.2.2.1 : Int) ≤ 10001 := by
  intro m hm
  simp only [M4, List.mem_cons, List.not_mem_nil, or_false] at hm
  rcases hm with rfl | rfl | rfl | rfl <;> decide
theorem d21_now (s : Cu) : ((d21 s).1.2.2.2.2.1 : Int) ≤ 10000 ∨ (d21 s).1.2.2.1 = M4 := by
  have h : ((d21F s).1.2.2.2.2.1 : Int) ≤ 10000 := by
    have h := dI_mem (dB s 2).2 (l := [20, 45, 60, 75, 100, 150, 300]) (by decide)
    have h9 : ∀ x : Int, x ∈ ([20, 45, 60, 75, 100, 150, 300] : List Int) → x ≤ 10000 := by decide
    exact h9 _ h
  unfold d21
  simp only
  by_cases k0 : (dB (d21F s).2 10).1 = 0
  · rw [if_pos k0]; exact .inl h
  rw [if_neg k0]
  by_cases k1 : (dB (d21F s).2 10).1 = 1
  · rw [if_pos k1]; exact .inl h
  rw [if_neg k1]
  by_cases k2 : (dB (d21F s).2 10).1 = 2
  · rw [if_pos k2]; exact .inl h
  rw [if_neg k2]
  by_cases k3 : (dB (d21F s).2 10).1 = 3
  · rw [if_pos k3]; exact .inl h
  rw [if_neg k3]
  by_cases k4 : (dB (d21F s).2 10).1 = 4
  · rw [if_pos k4]; exact .inr rfl
  rw [if_neg k4]
  exact .inl h
theorem kept_no {f : tFrame.den} {s : tStrand.den} {docs : List Int} (hm : f.2.2.1 = M4) (hn : (f.2.2.2.2.1 : Int) > 10000) : fkF f s docs = s.2.1.length := by
  unfold fkF
  refine fkN_no ?_
  rcases Nat.eq_zero_or_pos s.2.1.length with h | h
  · exact .inl h
  · refine .inr (kept_f (.inr ?_))
    unfold linkF
    rw [if_pos ⟨by omega, Int.le_refl _⟩, if_pos rfl]
    refine decide_eq_false fun hlt => ?_
    rw [hm] at hlt
    have hb := fun n => brk_in M4_in n
    have := rb_le f.1 f.2.1 M4 (fun n => (hb n).1) (s.2.1.getD ((s.2.1.length : Int) - 1).toNat (0, 0, 0, [], [], ())).2.2.2.2.1 _ (hb (s.2.1.getD ((s.2.1.length : Int) - 1).toNat (0, 0, 0, [], [], ())).2.1).1
    have h2 := (hb (s.2.1.getD ((s.2.1.length : Int) - 1).toNat (0, 0, 0, [], [], ())).2.1).2
    exact absurd (Int.lt_of_lt_of_le hlt (Int.le_trans this h2)) (Int.not_lt.2 hn)
theorem kept_g {f : tFrame.den} {s : tStrand.den} {docs : List Int} {n : Int} (hn : (f.2.2.2.2.1 : Int) ≤ n) (k : Int) (h : keptB (f.1, f.2.1, f.2.2.1, f.2.2.2.1, n, ()) s docs k = true) : keptB f s docs k = true := by
  unfold keptB at h ⊢
  rw [Bool.and_eq_true, Bool.and_eq_true] at h ⊢
  refine ⟨h.1, h.2.1, ?_⟩
  have h := h.2.2
  unfold linkF at h ⊢
  split
  · rename_i h1
    rw [if_pos h1] at h
    split
    · rename_i h2
      rw [if_pos h2] at h
      rw [decide_eq_true_eq] at h ⊢
      exact Int.lt_of_le_of_lt hn h
    · rename_i h2
      rw [if_neg h2] at h
      exact h
  · rename_i h1
    rw [if_neg h1] at h
    exact h
theorem bo_eq {f : tFrame.den} {s : tStrand.den} {docs : List Int} {p : Int} (h : s.2.1.length ≤ fkF f s docs) : boF f s docs p = f.2.2.2.2.1 := by
  unfold boF
  rw [drop_end h]
  rfl
theorem law_FnExistence_ok (b : List Int) : FunOK Tryz.prog 3 [⟨(.list (.int .u8)), b⟩] (.rd .bool true) := by
  have hq : ∀ hb : b.length ≤ maxLen, Small tStrand 1048576 (dBo b hb).2.1 ∧ (dBo b hb).2.2.1.length = (dBo b hb).2.1.2.1.length ∧ (-1 ≤ (dBo b hb).2.2.2 ∧ (dBo b hb).2.2.2 ≤ 3) ∧ (((dBo b hb).1.2.2.2.2.1 : Int) ≤ 10000 ∨ (dBo b hb).1.2.2.1 = M4) := fun hb => by
    refine ⟨d20_small _, List.length_map _, ?_, d21_now _⟩
    have h := dB_in (d20 (d21 (cu0 b hb)).2).2 (n := 5) (by decide)
    have e : (dBo b hb).2.2.2 = IntKind.i64.wrap ((dB (d20 (d21 (cu0 b hb)).2).2 5).1 - 1) := rfl
    rw [e, wrap_i64 (by omega) (by omega)]
    omega
  rcases Nat.lt_or_ge maxLen b.length with hb | hb
  · refine fun_of (tb := tb) follows Tryz.func3 (by kernel_rfl) Tryz.ntmps3 rfl rfl rfl ?_; intro cx hN hw
    exact absurd hw.1.1 (Nat.not_le.2 hb)
  have hdr := DrawBoundOf_ok b hb
  have hq9 := hq hb
  generalize dBo b hb = q at hdr hq9
  clear hq
  obtain ⟨⟨f1, f2, f3, (f4 : Int), (f5 : Int), _⟩, ⟨s1, s2, _⟩, dc, p⟩ := q
  obtain ⟨hs, hD, hP, hnow⟩ := hq9
  have hs : Small tStrand 1048576 (s1, s2, ()) := hs
  have hsm : ∀ k : Nat, k < s2.length → List.length (List.getD s2 k (0, 0, 0, [], [], ())).2.2.2.2.1 ≤ 1048576 := fun k hk => small_ren hs hk
  have hl : s2.length ≤ 1048576 := hs.2.1.1
  have hj : fkF (f1, f2, f3, f4, f5, ()) (s1, s2, ()) dc ≤ s2.length := fkN_le _ _
  have ht : boF (f1, f2, f3, f4, f5, ()) (s1, s2, ()) dc p ≤ (f5 : Int) := bdL_le _ _ _ _
  simp only at hD hP hnow hdr
  refine fun_of (tb := tb) follows Tryz.func3 (by kernel_rfl) Tryz.ntmps3 rfl rfl rfl ?_; intro cx hN hw
  simp (disch := exact eqId (by kernel_rfl)) only [go_sem, ↓reduceIte, Nat.reduceAdd, Nat.reduceMul, Nat.reduceLT, Nat.reduceBEq, Nat.reduceLeDiff, Nat.reduceEqDiff, Int.reduceToNat]
  repeat' (first | (refine And.intro ?_ ?_) | intro _ | (refine callQ_intro (big_ok _) ?_; try (simp (disch := exact eqId (by kernel_rfl)) only [go_sem, ↓reduceIte, Nat.reduceAdd, Nat.reduceMul, Nat.reduceLT, Nat.reduceBEq, Nat.reduceLeDiff, Nat.reduceEqDiff, Int.reduceToNat])) | (refine callH_intro (fun hcc => big_ok _) ?_; try (simp (disch := exact eqId (by kernel_rfl)) only [go_sem, ↓reduceIte, Nat.reduceAdd, Nat.reduceMul, Nat.reduceLT, Nat.reduceBEq, Nat.reduceLeDiff, Nat.reduceEqDiff, Int.reduceToNat])) | (refine callQ_intro (hdr) ?_; try (simp (disch := exact eqId (by kernel_rfl)) only [go_sem, ↓reduceIte, Nat.reduceAdd, Nat.reduceMul, Nat.reduceLT, Nat.reduceBEq, Nat.reduceLeDiff, Nat.reduceEqDiff, Int.reduceToNat])) | (refine callH_intro (fun hcc => hdr) ?_; try (simp (disch := exact eqId (by kernel_rfl)) only [go_sem, ↓reduceIte, Nat.reduceAdd, Nat.reduceMul, Nat.reduceLT, Nat.reduceBEq, Nat.reduceLeDiff, Nat.reduceEqDiff, Int.reduceToNat])) | (refine callQ_intro (impl_BoundOf_ok _ _ _ _ hs) ?_; try (simp (disch := exact eqId (by kernel_rfl)) only [go_sem, ↓reduceIte, Nat.reduceAdd, Nat.reduceMul, Nat.reduceLT, Nat.reduceBEq, Nat.reduceLeDiff, Nat.reduceEqDiff, Int.reduceToNat])) | (refine callH_intro (fun hcc => impl_BoundOf_ok _ _ _ _ hs) ?_; try (simp (disch := exact eqId (by kernel_rfl)) only [go_sem, ↓reduceIte, Nat.reduceAdd, Nat.reduceMul, Nat.reduceLT, Nat.reduceBEq, Nat.reduceLeDiff, Nat.reduceEqDiff, Int.reduceToNat])) | (refine callQ_intro (impl_FirstKept_ok _ _ _ hs) ?_; try (simp (disch := exact eqId (by kernel_rfl)) only [go_sem, ↓reduceIte, Nat.reduceAdd, Nat.reduceMul, Nat.reduceLT, Nat.reduceBEq, Nat.reduceLeDiff, Nat.reduceEqDiff, Int.reduceToNat])) | (refine callH_intro (fun hcc => impl_FirstKept_ok _ _ _ hs) ?_; try (simp (disch := exact eqId (by kernel_rfl)) only [go_sem, ↓reduceIte, Nat.reduceAdd, Nat.reduceMul, Nat.reduceLT, Nat.reduceBEq, Nat.reduceLeDiff, Nat.reduceEqDiff, Int.reduceToNat])) | (refine callQ_intro (impl_IsUnbroken_ok _ _ _ hs) ?_; try (simp (disch := exact eqId (by kernel_rfl)) only [go_sem, ↓reduceIte, Nat.reduceAdd, Nat.reduceMul, Nat.reduceLT, Nat.reduceBEq, Nat.reduceLeDiff, Nat.reduceEqDiff, Int.reduceToNat])) | (refine callH_intro (fun hcc => impl_IsUnbroken_ok _ _ _ hs) ?_; try (simp (disch := exact eqId (by kernel_rfl)) only [go_sem, ↓reduceIte, Nat.reduceAdd, Nat.reduceMul, Nat.reduceLT, Nat.reduceBEq, Nat.reduceLeDiff, Nat.reduceEqDiff, Int.reduceToNat])))
  all_goals (try omega)
  · rename_i h
    rcases h with ((h | h) | h) | h
    · omega
    · omega
    · omega
    · exact h rfl
  refine loop_intro (tb := tb) follows hN (D := Nat) (fun d => shp [(3, .bp 40112 0), (4, .bp 40128 0), (5, .rd (.list I) dc), (6, .rd I p), (7, .rd I (boF (f1, f2, f3, f4, f5, ()) (s1, s2, ()) dc p : Int)), (8, .rd I (fkF (f1, f2, f3, f4, f5, ()) (s1, s2, ()) dc : Int)), (9, .rd I (d : Int))] [(40112, .box 28 [.rd (.list tKey) f1, .rd (.list tAuthority) f2, .rd (.list tMethod) f3, .rd I f4, .rd I f5]), (40128, .box 32 [.rd (.list tPiece) s1, .rd (.list tRenewal) s2])]) (fun d => fkF (f1, f2, f3, f4, f5, ()) (s1, s2, ()) dc ≤ d ∧ d ≤ s2.length) (fun d => s2.length - d) ((fkF (f1, f2, f3, f4, f5, ()) (s1, s2, ()) dc)) ?_ (sub_shp hN [(40112, some 40112), (40128, some 40128)] ?_) (fun d hd => ?_)
  · exact ⟨Nat.le_refl _, hj⟩
  · simp (disch := exact eqId (by kernel_rfl)) only [go_sem, ↓reduceIte, Nat.reduceAdd, Nat.reduceMul, Nat.reduceLT, Nat.reduceBEq, Nat.reduceLeDiff, Nat.reduceEqDiff, Int.reduceToNat]
    try rfl
  · obtain ⟨h1, h2⟩ := hd
    have hat : d < s2.length → (agoF f2 (List.getD s2 d (0, 0, 0, [], [], ())).2.2.2.2.1 f4).2 = true ∧ linkF (f1, f2, f3, f4, f5, ()) (s1, s2, ()) d = true ∧ (((List.getD s2 d (0, 0, 0, [], [], ())).1 : Int) > p → boF (f1, f2, f3, f4, f5, ()) (s1, s2, ()) dc p ≤ (agoF f2 (List.getD s2 d (0, 0, 0, [], [], ())).2.2.2.2.1 f4).1.2.1) := fun hk => by
      have h := fkN_at (p := keptB (f1, f2, f3, f4, f5, ()) (s1, s2, ()) dc) s2.length d h1 hk
      unfold keptB at h
      rw [Bool.and_eq_true, Bool.and_eq_true] at h
      refine ⟨h.1, h.2.2, fun hc => bdL_mem (f1, f2, f3, f4, f5, ()) p _ _ _ ?_ hc⟩
      show List.getD s2 d (0, 0, 0, [], [], ()) ∈ List.drop (fkF (f1, f2, f3, f4, f5, ()) (s1, s2, ()) dc) s2
      rw [List.mem_iff_getElem]
      refine ⟨d - fkF (f1, f2, f3, f4, f5, ()) (s1, s2, ()) dc, by rw [List.length_drop]; omega, ?_⟩
      rw [List.getElem_drop, List.getD_eq_getElem?_getD, List.getElem?_eq_getElem hk, Option.getD_some]
      congr 1
      omega
    simp (disch := exact eqId (by kernel_rfl)) only [go_sem, ↓reduceIte, Nat.reduceAdd, Nat.reduceMul, Nat.reduceLT, Nat.reduceBEq, Nat.reduceLeDiff, Nat.reduceEqDiff, Int.reduceToNat]
    repeat' (first | (refine And.intro ?_ ?_) | intro _ | (refine callQ_intro (impl_RenewalSpan_ok _ _ _ (hsm _ (by omega))) ?_; try (simp (disch := exact eqId (by kernel_rfl)) only [go_sem, ↓reduceIte, Nat.reduceAdd, Nat.reduceMul, Nat.reduceLT, Nat.reduceBEq, Nat.reduceLeDiff, Nat.reduceEqDiff, Int.reduceToNat])) | (refine callH_intro (fun hcc => impl_RenewalSpan_ok _ _ _ (hsm _ (by omega))) ?_; try (simp (disch := exact eqId (by kernel_rfl)) only [go_sem, ↓reduceIte, Nat.reduceAdd, Nat.reduceMul, Nat.reduceLT, Nat.reduceBEq, Nat.reduceLeDiff, Nat.reduceEqDiff, Int.reduceToNat])) | (refine callQ_intro (impl_LinkHolds_ok _ _ _ hs) ?_; try (simp (disch := exact eqId (by kernel_rfl)) only [go_sem, ↓reduceIte, Nat.reduceAdd, Nat.reduceMul, Nat.reduceLT, Nat.reduceBEq, Nat.reduceLeDiff, Nat.reduceEqDiff, Int.reduceToNat])) | (refine callH_intro (fun hcc => impl_LinkHolds_ok _ _ _ hs) ?_; try (simp (disch := exact eqId (by kernel_rfl)) only [go_sem, ↓reduceIte, Nat.reduceAdd, Nat.reduceMul, Nat.reduceLT, Nat.reduceBEq, Nat.reduceLeDiff, Nat.reduceEqDiff, Int.reduceToNat])) | (refine callQ_intro (impl_BoundOf_ok _ _ _ _ hs) ?_; try (simp (disch := exact eqId (by kernel_rfl)) only [go_sem, ↓reduceIte, Nat.reduceAdd, Nat.reduceMul, Nat.reduceLT, Nat.reduceBEq, Nat.reduceLeDiff, Nat.reduceEqDiff, Int.reduceToNat])) | (refine callH_intro (fun hcc => impl_BoundOf_ok _ _ _ _ hs) ?_; try (simp (disch := exact eqId (by kernel_rfl)) only [go_sem, ↓reduceIte, Nat.reduceAdd, Nat.reduceMul, Nat.reduceLT, Nat.reduceBEq, Nat.reduceLeDiff, Nat.reduceEqDiff, Int.reduceToNat])) | (refine callQ_intro (impl_FirstKept_ok _ _ _ hs) ?_; try (simp (disch := exact eqId (by kernel_rfl)) only [go_sem, ↓reduceIte, Nat.reduceAdd, Nat.reduceMul, Nat.reduceLT, Nat.reduceBEq, Nat.reduceLeDiff, Nat.reduceEqDiff, Int.reduceToNat])) | (refine callH_intro (fun hcc => impl_FirstKept_ok _ _ _ hs) ?_; try (simp (disch := exact eqId (by kernel_rfl)) only [go_sem, ↓reduceIte, Nat.reduceAdd, Nat.reduceMul, Nat.reduceLT, Nat.reduceBEq, Nat.reduceLeDiff, Nat.reduceEqDiff, Int.reduceToNat])))
    all_goals (try omega)
    all_goals (try (rename_i h _; first | exact h.1 | exact h.2))
    all_goals (try (rename_i h; first | exact h.1 | exact h.2))
    · rename_i hk hx
      obtain ⟨g1, g2, g3⟩ := hat (by omega)
      rcases hx with (hx | hx) | hx
      · rw [g1] at hx; cases hx
      · rw [g2] at hx; cases hx
      · exact absurd (g3 hx.1) (Int.not_le.2 hx.2)
    · rename_i hk hx
      refine back_intro (d + 1) ?_ ?_ (sub_shp hN [(40112, some 40112), (40128, some 40128)] ?_)
      · omega
      · omega
      · simp (disch := exact eqId (by kernel_rfl)) only [go_sem, ↓reduceIte, Nat.reduceAdd, Nat.reduceMul, Nat.reduceLT, Nat.reduceBEq, Nat.reduceLeDiff, Nat.reduceEqDiff, Int.reduceToNat]
        exact wrap_succ' (by omega)
    · rename_i hk hx
      exact bo_eq (f := (f1, f2, f3, f4, f5, ())) (s := (s1, s2, ())) (by show s2.length ≤ fkF (f1, f2, f3, f4, f5, ()) (s1, s2, ()) dc; omega)
    · rename_i hk hx
      by_cases hp : p < 0
      · exact .inl (.inl hp)
      rw [wrap_i64 (by omega) (by omega)]
      rcases hnow with hn | hn
      · refine .inr ⟨bdL_mono _ (by omega) _ _ _ (Int.le_refl _), ?_⟩
        refine Int.ofNat_le.2 ?_
        exact fkN_mono _ (fun k _ hk => kept_g (f := (f1, f2, f3, f4, f5, ())) hn _ hk)
      · by_cases hn2 : f5 > 10000
        · exact .inl (.inr (bo_eq (f := (f1, f2, f3, f4, f5, ())) (s := (s1, s2, ())) (Nat.le_of_eq (kept_no (f := (f1, f2, f3, f4, f5, ())) hn hn2).symm)))
        · refine .inr ⟨bdL_mono _ (by omega) _ _ _ (Int.le_refl _), ?_⟩
          refine Int.ofNat_le.2 ?_
          exact fkN_mono _ (fun k _ hk => kept_g (f := (f1, f2, f3, f4, f5, ())) (n := 10000) (Int.not_lt.1 hn2) _ hk)
    all_goals trace_state
end Go.Proofs.YthllljccckiobaaGreat
