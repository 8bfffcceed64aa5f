/- What the laws' own looks at marks answer over nested lists. It proves nothing of a statement by itself. -/
import Derived.Test.YtfkdkblbhilghaaB8
set_option linter.unusedSimpArgs false
set_option linter.unusedVariables false
set_option maxRecDepth 100000
namespace Go.Proofs.Ytfkdkblbhilghaa
open Go.AL
theorem heldIntS_m (l : List (I : Ty).den) (n : Int) (h0 : 0 ≤ n) (h1 : n ≤ 1152921504606846976) (hs : l.length ≤ 1073741824) : FunOK Try.prog 22 [⟨(.list I), (mrk (.list I) l n).1⟩, ⟨I, n⟩] (.rd I (mrk (.list I) l n).2) := by
  rw [show mrk (.list I) l n = _ from mrk_list I rfl l n]
  exact heldIntS_ok l.length n h0 h1 hs
theorem heldStepS_m (l : List (tStep : Ty).den) (n : Int) (h0 : 0 ≤ n) (h1 : n ≤ 1152921504606846976) (hs : l.length ≤ 1073741824) : FunOK Try.prog 129 [⟨(.list tStep), (mrk (.list tStep) l n).1⟩, ⟨I, n⟩] (.rd I (mrk (.list tStep) l n).2) := by
  rw [show mrk (.list tStep) l n = _ from mrk_list tStep rfl l n]
  exact heldStepS_ok l.length n h0 h1 hs
theorem heldStampS_m (l : List (tStamp : Ty).den) (n : Int) (h0 : 0 ≤ n) (h1 : n ≤ 1152921504606846976) (hs : l.length ≤ 1073741824) : FunOK Try.prog 130 [⟨(.list tStamp), (mrk (.list tStamp) l n).1⟩, ⟨I, n⟩] (.rd I (mrk (.list tStamp) l n).2) := by
  rw [show mrk (.list tStamp) l n = _ from mrk_list tStamp rfl l n]
  exact heldStampS_ok l.length n h0 h1 hs
theorem heldPieceS_d (l : List (tPiece : Ty).den) (n : Int) (h0 : 0 ≤ n) (h1 : n + cnv (.list tPiece) l ≤ 1152921504606846976) (hs : Small (.list tPiece) 1073741824 l) : FunOK Try.prog 78 [⟨(.list tPiece), (mrk (.list tPiece) l n).1⟩, ⟨I, n⟩] (.rd I (mrk (.list tPiece) l n).2) := by
  have hl : l.length ≤ 1073741824 := hs.1
  have hml : (mrk (.list tPiece) l n).1.length = l.length := mrkL_len _ l n
  have hq : ∀ d : Nat, (mrkL (mrk tPiece) (l.take d) n).2 = n + (((l.take d).map (cnv tPiece)).sum : Nat) := fun d => mrk_snd (.list tPiece) (l.take d) n
  have hc : ∀ d : Nat, d < l.length → n + (((l.take d).map (cnv tPiece)).sum : Nat) + cnv tPiece (l.getD d (tPiece : Ty).dflt) ≤ 1152921504606846976 := fun d hd => by
    have := sum_take (cnv tPiece) hd (tPiece : Ty).dflt
    simp only [cnv] at h1 this ⊢
    omega
  have hg : ∀ d : Nat, d < l.length → (mrk (.list tPiece) l n).1.getD d ((0, [], 0, ()) : (tPiece : Ty).den) = (mrk tPiece (l.getD d (0, [], 0, ())) (mrkL (mrk tPiece) (l.take d) n).2).1 := fun d hd => mrkL_get (mrk tPiece) _ n hd
  have hend : mrk (.list tPiece) l n = mrkL (mrk tPiece) (l.take l.length) n := by rw [List.take_length]; rfl
  refine fun_of (tb := tb) follows Try.func78 (by kernel_rfl) Try.ntmps78 rfl rfl rfl ?_; intro cx hN hw
  simp (disch := exact eqId (by kernel_rfl)) only [go_sem, ↓reduceIte, Nat.reduceAdd, Nat.reduceMul, Nat.reduceLT, Nat.reduceBEq, Nat.reduceLeDiff, Nat.reduceEqDiff, Int.reduceToNat]
  refine loop_intro (tb := tb) follows hN (D := Nat) (fun d => shp [(0, .rd (.list tPiece) ((mrk (.list tPiece) l n).1)), (1, .rd I ((mrkL (mrk tPiece) (l.take d) n).2 : Int)), (5, .rd I (d : Int))] []) (fun d => d ≤ l.length) (fun d => l.length - d) (0) ?_ (sub_shp hN [] ?_) (fun d hd => ?_)
  · exact Nat.zero_le _
  · simp (disch := exact eqId (by kernel_rfl)) only [go_sem, ↓reduceIte, Nat.reduceAdd, Nat.reduceMul, Nat.reduceLT, Nat.reduceBEq, Nat.reduceLeDiff, Nat.reduceEqDiff, Int.reduceToNat]
    simp [mrkL]
  · simp (disch := exact eqId (by kernel_rfl)) only [go_sem, ↓reduceIte, Nat.reduceAdd, Nat.reduceMul, Nat.reduceLT, Nat.reduceBEq, Nat.reduceLeDiff, Nat.reduceEqDiff, Int.reduceToNat]
    rw [hml]
    refine ⟨fun hk => ?_, fun hk => ?_⟩
    · have hk : d < l.length := by omega
      have htk := congrArg Prod.snd (mrkL_take (mrk tPiece) hk ((0, [], 0, ()) : (tPiece : Ty).den) n)
      have hK : 0 ≤ (mrkL (mrk tPiece) (l.take d) n).2 := by rw [hq d]; omega
      have c : (mrkL (mrk tPiece) (l.take d) n).2 + cnv tPiece (l.getD d (0, [], 0, ())) ≤ 1152921504606846976 := by rw [hq d]; exact hc d hk
      have hm : Small tPiece 1073741824 (l.getD d (0, [], 0, ())) := hs.2 _ (getD_mem hk _)
      have hgd := hg d hk
      generalize (mrk (.list tPiece) l n).1 = A at *
      generalize (mrkL (mrk tPiece) (l.take d) n).2 = K at *
      generalize l.getD d (0, [], 0, ()) = y at *
      try simp only [cnv_c, cnv_i, cnv_n] at c
      have := mrk_snd (.list I) y.2.1 (K + 1)
      try simp only [mrk_c, mrk_i, mrk_n] at hgd
      try simp (disch := omega) only [wrap_i64] at hgd
      simp only [hml, hgd]
      try simp (disch := omega) only [wrap_i64]
      repeat' (first | (refine And.intro ?_ ?_) | intro _ | (refine callQ_intro (heldIntS_m _ _ (by omega) (by omega) hm.2.1.1) ?_; try (simp (disch := exact eqId (by kernel_rfl)) only [go_sem, ↓reduceIte, Nat.reduceAdd, Nat.reduceMul, Nat.reduceLT, Nat.reduceBEq, Nat.reduceLeDiff, Nat.reduceEqDiff, Int.reduceToNat])) | (refine callH_intro (fun hcc => heldIntS_m _ _ (by omega) (by omega) hm.2.1.1) ?_; try (simp (disch := exact eqId (by kernel_rfl)) only [go_sem, ↓reduceIte, Nat.reduceAdd, Nat.reduceMul, Nat.reduceLT, Nat.reduceBEq, Nat.reduceLeDiff, Nat.reduceEqDiff, Int.reduceToNat])))
      all_goals (try simp only [hgd])
      all_goals (try simp (disch := omega) only [wrap_i64])
      repeat' (first | (refine And.intro ?_ ?_) | intro _ | (refine callQ_intro (heldIntS_m _ _ (by omega) (by omega) hm.2.1.1) ?_; try (simp (disch := exact eqId (by kernel_rfl)) only [go_sem, ↓reduceIte, Nat.reduceAdd, Nat.reduceMul, Nat.reduceLT, Nat.reduceBEq, Nat.reduceLeDiff, Nat.reduceEqDiff, Int.reduceToNat])) | (refine callH_intro (fun hcc => heldIntS_m _ _ (by omega) (by omega) hm.2.1.1) ?_; try (simp (disch := exact eqId (by kernel_rfl)) only [go_sem, ↓reduceIte, Nat.reduceAdd, Nat.reduceMul, Nat.reduceLT, Nat.reduceBEq, Nat.reduceLeDiff, Nat.reduceEqDiff, Int.reduceToNat])))
      all_goals (try simp only [hgd] at *)
      all_goals (try simp (disch := omega) only [wrap_i64] at *)
      all_goals (try omega)
      all_goals (try (exfalso; rename_i hx; first | exact hx rfl | exact hx trivial))
      · refine back_intro (d + 1) ?_ ?_ (sub_shp hN [] ?_)
        · exact hk
        · omega
        · simp (disch := exact eqId (by kernel_rfl)) only [go_sem, ↓reduceIte, Nat.reduceAdd, Nat.reduceMul, Nat.reduceLT, Nat.reduceBEq, Nat.reduceLeDiff, Nat.reduceEqDiff, Int.reduceToNat]
          rw [htk]
          simp only [mrk_c, mrk_i, mrk_n]
          try simp (disch := omega) only [wrap_i64]
          repeat' (refine And.intro ?_ ?_)
          all_goals first | trivial | rfl | omega | (exact I_eq (by omega))
    · have hk : d = l.length := by omega
      rw [hend, hk]
theorem heldRenewalS_d (l : List (tRenewal : Ty).den) (n : Int) (h0 : 0 ≤ n) (h1 : n + cnv (.list tRenewal) l ≤ 1152921504606846976) (hs : Small (.list tRenewal) 1073741824 l) : FunOK Try.prog 79 [⟨(.list tRenewal), (mrk (.list tRenewal) l n).1⟩, ⟨I, n⟩] (.rd I (mrk (.list tRenewal) l n).2) := by
  have hl : l.length ≤ 1073741824 := hs.1
  have hml : (mrk (.list tRenewal) l n).1.length = l.length := mrkL_len _ l n
  have hq : ∀ d : Nat, (mrkL (mrk tRenewal) (l.take d) n).2 = n + (((l.take d).map (cnv tRenewal)).sum : Nat) := fun d => mrk_snd (.list tRenewal) (l.take d) n
  have hc : ∀ d : Nat, d < l.length → n + (((l.take d).map (cnv tRenewal)).sum : Nat) + cnv tRenewal (l.getD d (tRenewal : Ty).dflt) ≤ 1152921504606846976 := fun d hd => by
    have := sum_take (cnv tRenewal) hd (tRenewal : Ty).dflt
    simp only [cnv] at h1 this ⊢
    omega
  have hg : ∀ d : Nat, d < l.length → (mrk (.list tRenewal) l n).1.getD d ((0, 0, 0, [], [], ()) : (tRenewal : Ty).den) = (mrk tRenewal (l.getD d (0, 0, 0, [], [], ())) (mrkL (mrk tRenewal) (l.take d) n).2).1 := fun d hd => mrkL_get (mrk tRenewal) _ n hd
  have hend : mrk (.list tRenewal) l n = mrkL (mrk tRenewal) (l.take l.length) n := by rw [List.take_length]; rfl
  refine fun_of (tb := tb) follows Try.func79 (by kernel_rfl) Try.ntmps79 rfl rfl rfl ?_; intro cx hN hw
  simp (disch := exact eqId (by kernel_rfl)) only [go_sem, ↓reduceIte, Nat.reduceAdd, Nat.reduceMul, Nat.reduceLT, Nat.reduceBEq, Nat.reduceLeDiff, Nat.reduceEqDiff, Int.reduceToNat]
  refine loop_intro (tb := tb) follows hN (D := Nat) (fun d => shp [(0, .rd (.list tRenewal) ((mrk (.list tRenewal) l n).1)), (1, .rd I ((mrkL (mrk tRenewal) (l.take d) n).2 : Int)), (5, .rd I (d : Int))] []) (fun d => d ≤ l.length) (fun d => l.length - d) (0) ?_ (sub_shp hN [] ?_) (fun d hd => ?_)
  · exact Nat.zero_le _
  · simp (disch := exact eqId (by kernel_rfl)) only [go_sem, ↓reduceIte, Nat.reduceAdd, Nat.reduceMul, Nat.reduceLT, Nat.reduceBEq, Nat.reduceLeDiff, Nat.reduceEqDiff, Int.reduceToNat]
    simp [mrkL]
  · simp (disch := exact eqId (by kernel_rfl)) only [go_sem, ↓reduceIte, Nat.reduceAdd, Nat.reduceMul, Nat.reduceLT, Nat.reduceBEq, Nat.reduceLeDiff, Nat.reduceEqDiff, Int.reduceToNat]
    rw [hml]
    refine ⟨fun hk => ?_, fun hk => ?_⟩
    · have hk : d < l.length := by omega
      have htk := congrArg Prod.snd (mrkL_take (mrk tRenewal) hk ((0, 0, 0, [], [], ()) : (tRenewal : Ty).den) n)
      have hK : 0 ≤ (mrkL (mrk tRenewal) (l.take d) n).2 := by rw [hq d]; omega
      have c : (mrkL (mrk tRenewal) (l.take d) n).2 + cnv tRenewal (l.getD d (0, 0, 0, [], [], ())) ≤ 1152921504606846976 := by rw [hq d]; exact hc d hk
      have hm : Small tRenewal 1073741824 (l.getD d (0, 0, 0, [], [], ())) := hs.2 _ (getD_mem hk _)
      have hgd := hg d hk
      generalize (mrk (.list tRenewal) l n).1 = A at *
      generalize (mrkL (mrk tRenewal) (l.take d) n).2 = K at *
      generalize l.getD d (0, 0, 0, [], [], ()) = y at *
      try simp only [cnv_c, cnv_i, cnv_n] at c
      have := mrk_snd (.list tStep) y.2.2.2.1 (K + 1 + 1 + 1)
      have := mrk_snd (.list tStamp) y.2.2.2.2.1 (mrk (.list tStep) y.2.2.2.1 (K + 1 + 1 + 1)).2
      try simp only [mrk_c, mrk_i, mrk_n] at hgd
      try simp (disch := omega) only [wrap_i64] at hgd
      simp only [hml, hgd]
      try simp (disch := omega) only [wrap_i64]
      repeat' (first | (refine And.intro ?_ ?_) | intro _ | (refine callQ_intro (heldStepS_m _ _ (by omega) (by omega) hm.2.2.2.1.1) ?_; try (simp (disch := exact eqId (by kernel_rfl)) only [go_sem, ↓reduceIte, Nat.reduceAdd, Nat.reduceMul, Nat.reduceLT, Nat.reduceBEq, Nat.reduceLeDiff, Nat.reduceEqDiff, Int.reduceToNat])) | (refine callH_intro (fun hcc => heldStepS_m _ _ (by omega) (by omega) hm.2.2.2.1.1) ?_; try (simp (disch := exact eqId (by kernel_rfl)) only [go_sem, ↓reduceIte, Nat.reduceAdd, Nat.reduceMul, Nat.reduceLT, Nat.reduceBEq, Nat.reduceLeDiff, Nat.reduceEqDiff, Int.reduceToNat])) | (refine callQ_intro (heldStampS_m _ _ (by omega) (by omega) hm.2.2.2.2.1.1) ?_; try (simp (disch := exact eqId (by kernel_rfl)) only [go_sem, ↓reduceIte, Nat.reduceAdd, Nat.reduceMul, Nat.reduceLT, Nat.reduceBEq, Nat.reduceLeDiff, Nat.reduceEqDiff, Int.reduceToNat])) | (refine callH_intro (fun hcc => heldStampS_m _ _ (by omega) (by omega) hm.2.2.2.2.1.1) ?_; try (simp (disch := exact eqId (by kernel_rfl)) only [go_sem, ↓reduceIte, Nat.reduceAdd, Nat.reduceMul, Nat.reduceLT, Nat.reduceBEq, Nat.reduceLeDiff, Nat.reduceEqDiff, Int.reduceToNat])))
      all_goals (try simp only [hgd])
      all_goals (try simp (disch := omega) only [wrap_i64])
      repeat' (first | (refine And.intro ?_ ?_) | intro _ | (refine callQ_intro (heldStepS_m _ _ (by omega) (by omega) hm.2.2.2.1.1) ?_; try (simp (disch := exact eqId (by kernel_rfl)) only [go_sem, ↓reduceIte, Nat.reduceAdd, Nat.reduceMul, Nat.reduceLT, Nat.reduceBEq, Nat.reduceLeDiff, Nat.reduceEqDiff, Int.reduceToNat])) | (refine callH_intro (fun hcc => heldStepS_m _ _ (by omega) (by omega) hm.2.2.2.1.1) ?_; try (simp (disch := exact eqId (by kernel_rfl)) only [go_sem, ↓reduceIte, Nat.reduceAdd, Nat.reduceMul, Nat.reduceLT, Nat.reduceBEq, Nat.reduceLeDiff, Nat.reduceEqDiff, Int.reduceToNat])) | (refine callQ_intro (heldStampS_m _ _ (by omega) (by omega) hm.2.2.2.2.1.1) ?_; try (simp (disch := exact eqId (by kernel_rfl)) only [go_sem, ↓reduceIte, Nat.reduceAdd, Nat.reduceMul, Nat.reduceLT, Nat.reduceBEq, Nat.reduceLeDiff, Nat.reduceEqDiff, Int.reduceToNat])) | (refine callH_intro (fun hcc => heldStampS_m _ _ (by omega) (by omega) hm.2.2.2.2.1.1) ?_; try (simp (disch := exact eqId (by kernel_rfl)) only [go_sem, ↓reduceIte, Nat.reduceAdd, Nat.reduceMul, Nat.reduceLT, Nat.reduceBEq, Nat.reduceLeDiff, Nat.reduceEqDiff, Int.reduceToNat])))
      all_goals (try simp only [hgd] at *)
      all_goals (try simp (disch := omega) only [wrap_i64] at *)
      all_goals (try omega)
      all_goals (try (exfalso; rename_i hx; first | exact hx rfl | exact hx trivial))
      · refine back_intro (d + 1) ?_ ?_ (sub_shp hN [] ?_)
        · exact hk
        · omega
        · simp (disch := exact eqId (by kernel_rfl)) only [go_sem, ↓reduceIte, Nat.reduceAdd, Nat.reduceMul, Nat.reduceLT, Nat.reduceBEq, Nat.reduceLeDiff, Nat.reduceEqDiff, Int.reduceToNat]
          rw [htk]
          simp only [mrk_c, mrk_i, mrk_n]
          try simp (disch := omega) only [wrap_i64]
          repeat' (refine And.intro ?_ ?_)
          all_goals first | trivial | rfl | omega | (exact I_eq (by omega))
    · have hk : d = l.length := by omega
      rw [hend, hk]
theorem heldStrandS_d (l : List (tStrand : Ty).den) (n : Int) (h0 : 0 ≤ n) (h1 : n + cnv (.list tStrand) l ≤ 1152921504606846976) (hs : Small (.list tStrand) 1073741824 l) : FunOK Try.prog 113 [⟨(.list tStrand), (mrk (.list tStrand) l n).1⟩, ⟨I, n⟩] (.rd I (mrk (.list tStrand) l n).2) := by
  have hl : l.length ≤ 1073741824 := hs.1
  have hml : (mrk (.list tStrand) l n).1.length = l.length := mrkL_len _ l n
  have hq : ∀ d : Nat, (mrkL (mrk tStrand) (l.take d) n).2 = n + (((l.take d).map (cnv tStrand)).sum : Nat) := fun d => mrk_snd (.list tStrand) (l.take d) n
  have hc : ∀ d : Nat, d < l.length → n + (((l.take d).map (cnv tStrand)).sum : Nat) + cnv tStrand (l.getD d (tStrand : Ty).dflt) ≤ 1152921504606846976 := fun d hd => by
    have := sum_take (cnv tStrand) hd (tStrand : Ty).dflt
    simp only [cnv] at h1 this ⊢
    omega
  have hg : ∀ d : Nat, d < l.length → (mrk (.list tStrand) l n).1.getD d (([], [], ()) : (tStrand : Ty).den) = (mrk tStrand (l.getD d ([], [], ())) (mrkL (mrk tStrand) (l.take d) n).2).1 := fun d hd => mrkL_get (mrk tStrand) _ n hd
  have hend : mrk (.list tStrand) l n = mrkL (mrk tStrand) (l.take l.length) n := by rw [List.take_length]; rfl
  refine fun_of (tb := tb) follows Try.func113 (by kernel_rfl) Try.ntmps113 rfl rfl rfl ?_; intro cx hN hw
  simp (disch := exact eqId (by kernel_rfl)) only [go_sem, ↓reduceIte, Nat.reduceAdd, Nat.reduceMul, Nat.reduceLT, Nat.reduceBEq, Nat.reduceLeDiff, Nat.reduceEqDiff, Int.reduceToNat]
  refine loop_intro (tb := tb) follows hN (D := Nat) (fun d => shp [(0, .rd (.list tStrand) ((mrk (.list tStrand) l n).1)), (1, .rd I ((mrkL (mrk tStrand) (l.take d) n).2 : Int)), (5, .rd I (d : Int))] []) (fun d => d ≤ l.length) (fun d => l.length - d) (0) ?_ (sub_shp hN [] ?_) (fun d hd => ?_)
  · exact Nat.zero_le _
  · simp (disch := exact eqId (by kernel_rfl)) only [go_sem, ↓reduceIte, Nat.reduceAdd, Nat.reduceMul, Nat.reduceLT, Nat.reduceBEq, Nat.reduceLeDiff, Nat.reduceEqDiff, Int.reduceToNat]
    simp [mrkL]
  · simp (disch := exact eqId (by kernel_rfl)) only [go_sem, ↓reduceIte, Nat.reduceAdd, Nat.reduceMul, Nat.reduceLT, Nat.reduceBEq, Nat.reduceLeDiff, Nat.reduceEqDiff, Int.reduceToNat]
    rw [hml]
    refine ⟨fun hk => ?_, fun hk => ?_⟩
    · have hk : d < l.length := by omega
      have htk := congrArg Prod.snd (mrkL_take (mrk tStrand) hk (([], [], ()) : (tStrand : Ty).den) n)
      have hK : 0 ≤ (mrkL (mrk tStrand) (l.take d) n).2 := by rw [hq d]; omega
      have c : (mrkL (mrk tStrand) (l.take d) n).2 + cnv tStrand (l.getD d ([], [], ())) ≤ 1152921504606846976 := by rw [hq d]; exact hc d hk
      have hm : Small tStrand 1073741824 (l.getD d ([], [], ())) := hs.2 _ (getD_mem hk _)
      have hgd := hg d hk
      generalize (mrk (.list tStrand) l n).1 = A at *
      generalize (mrkL (mrk tStrand) (l.take d) n).2 = K at *
      generalize l.getD d ([], [], ()) = y at *
      try simp only [cnv_c, cnv_i, cnv_n] at c
      have := mrk_snd (.list tPiece) y.1 K
      have := mrk_snd (.list tRenewal) y.2.1 (mrk (.list tPiece) y.1 K).2
      try simp only [mrk_c, mrk_i, mrk_n] at hgd
      try simp (disch := omega) only [wrap_i64] at hgd
      simp only [hml, hgd]
      try simp (disch := omega) only [wrap_i64]
      repeat' (first | (refine And.intro ?_ ?_) | intro _ | (refine callQ_intro (heldPieceS_d _ _ (by omega) (by omega) hm.1) ?_; try (simp (disch := exact eqId (by kernel_rfl)) only [go_sem, ↓reduceIte, Nat.reduceAdd, Nat.reduceMul, Nat.reduceLT, Nat.reduceBEq, Nat.reduceLeDiff, Nat.reduceEqDiff, Int.reduceToNat])) | (refine callH_intro (fun hcc => heldPieceS_d _ _ (by omega) (by omega) hm.1) ?_; try (simp (disch := exact eqId (by kernel_rfl)) only [go_sem, ↓reduceIte, Nat.reduceAdd, Nat.reduceMul, Nat.reduceLT, Nat.reduceBEq, Nat.reduceLeDiff, Nat.reduceEqDiff, Int.reduceToNat])) | (refine callQ_intro (heldRenewalS_d _ _ (by omega) (by omega) hm.2.1) ?_; try (simp (disch := exact eqId (by kernel_rfl)) only [go_sem, ↓reduceIte, Nat.reduceAdd, Nat.reduceMul, Nat.reduceLT, Nat.reduceBEq, Nat.reduceLeDiff, Nat.reduceEqDiff, Int.reduceToNat])) | (refine callH_intro (fun hcc => heldRenewalS_d _ _ (by omega) (by omega) hm.2.1) ?_; try (simp (disch := exact eqId (by kernel_rfl)) only [go_sem, ↓reduceIte, Nat.reduceAdd, Nat.reduceMul, Nat.reduceLT, Nat.reduceBEq, Nat.reduceLeDiff, Nat.reduceEqDiff, Int.reduceToNat])))
      all_goals (try simp only [hgd])
      all_goals (try simp (disch := omega) only [wrap_i64])
      repeat' (first | (refine And.intro ?_ ?_) | intro _ | (refine callQ_intro (heldPieceS_d _ _ (by omega) (by omega) hm.1) ?_; try (simp (disch := exact eqId (by kernel_rfl)) only [go_sem, ↓reduceIte, Nat.reduceAdd, Nat.reduceMul, Nat.reduceLT, Nat.reduceBEq, Nat.reduceLeDiff, Nat.reduceEqDiff, Int.reduceToNat])) | (refine callH_intro (fun hcc => heldPieceS_d _ _ (by omega) (by omega) hm.1) ?_; try (simp (disch := exact eqId (by kernel_rfl)) only [go_sem, ↓reduceIte, Nat.reduceAdd, Nat.reduceMul, Nat.reduceLT, Nat.reduceBEq, Nat.reduceLeDiff, Nat.reduceEqDiff, Int.reduceToNat])) | (refine callQ_intro (heldRenewalS_d _ _ (by omega) (by omega) hm.2.1) ?_; try (simp (disch := exact eqId (by kernel_rfl)) only [go_sem, ↓reduceIte, Nat.reduceAdd, Nat.reduceMul, Nat.reduceLT, Nat.reduceBEq, Nat.reduceLeDiff, Nat.reduceEqDiff, Int.reduceToNat])) | (refine callH_intro (fun hcc => heldRenewalS_d _ _ (by omega) (by omega) hm.2.1) ?_; try (simp (disch := exact eqId (by kernel_rfl)) only [go_sem, ↓reduceIte, Nat.reduceAdd, Nat.reduceMul, Nat.reduceLT, Nat.reduceBEq, Nat.reduceLeDiff, Nat.reduceEqDiff, Int.reduceToNat])))
      all_goals (try simp only [hgd] at *)
      all_goals (try simp (disch := omega) only [wrap_i64] at *)
      all_goals (try omega)
      all_goals (try (exfalso; rename_i hx; first | exact hx rfl | exact hx trivial))
      · refine back_intro (d + 1) ?_ ?_ (sub_shp hN [] ?_)
        · exact hk
        · omega
        · simp (disch := exact eqId (by kernel_rfl)) only [go_sem, ↓reduceIte, Nat.reduceAdd, Nat.reduceMul, Nat.reduceLT, Nat.reduceBEq, Nat.reduceLeDiff, Nat.reduceEqDiff, Int.reduceToNat]
          rw [htk]
          simp only [mrk_c, mrk_i, mrk_n]
          try simp (disch := omega) only [wrap_i64]
          repeat' (refine And.intro ?_ ?_)
          all_goals first | trivial | rfl | omega | (exact I_eq (by omega))
    · have hk : d = l.length := by omega
      rw [hend, hk]
theorem heldStampSS_d (l : List ((.list tStamp) : Ty).den) (n : Int) (h0 : 0 ≤ n) (h1 : n + cnv (.list (.list tStamp)) l ≤ 1152921504606846976) (hs : Small (.list (.list tStamp)) 1073741824 l) : FunOK Try.prog 114 [⟨(.list (.list tStamp)), (mrk (.list (.list tStamp)) l n).1⟩, ⟨I, n⟩] (.rd I (mrk (.list (.list tStamp)) l n).2) := by
  have hl : l.length ≤ 1073741824 := hs.1
  have hml : (mrk (.list (.list tStamp)) l n).1.length = l.length := mrkL_len _ l n
  have hq : ∀ d : Nat, (mrkL (mrk (.list tStamp)) (l.take d) n).2 = n + (((l.take d).map (cnv (.list tStamp))).sum : Nat) := fun d => mrk_snd (.list (.list tStamp)) (l.take d) n
  have hc : ∀ d : Nat, d < l.length → n + (((l.take d).map (cnv (.list tStamp))).sum : Nat) + cnv (.list tStamp) (l.getD d ((.list tStamp) : Ty).dflt) ≤ 1152921504606846976 := fun d hd => by
    have := sum_take (cnv (.list tStamp)) hd ((.list tStamp) : Ty).dflt
    simp only [cnv] at h1 this ⊢
    omega
  have hg : ∀ d : Nat, d < l.length → (mrk (.list (.list tStamp)) l n).1.getD d ([] : ((.list tStamp) : Ty).den) = (mrk (.list tStamp) (l.getD d []) (mrkL (mrk (.list tStamp)) (l.take d) n).2).1 := fun d hd => mrkL_get (mrk (.list tStamp)) _ n hd
  have hend : mrk (.list (.list tStamp)) l n = mrkL (mrk (.list tStamp)) (l.take l.length) n := by rw [List.take_length]; rfl
  refine fun_of (tb := tb) follows Try.func114 (by kernel_rfl) Try.ntmps114 rfl rfl rfl ?_; intro cx hN hw
  simp (disch := exact eqId (by kernel_rfl)) only [go_sem, ↓reduceIte, Nat.reduceAdd, Nat.reduceMul, Nat.reduceLT, Nat.reduceBEq, Nat.reduceLeDiff, Nat.reduceEqDiff, Int.reduceToNat]
  refine loop_intro (tb := tb) follows hN (D := Nat) (fun d => shp [(0, .rd (.list (.list tStamp)) ((mrk (.list (.list tStamp)) l n).1)), (1, .rd I ((mrkL (mrk (.list tStamp)) (l.take d) n).2 : Int)), (5, .rd I (d : Int))] []) (fun d => d ≤ l.length) (fun d => l.length - d) (0) ?_ (sub_shp hN [] ?_) (fun d hd => ?_)
  · exact Nat.zero_le _
  · simp (disch := exact eqId (by kernel_rfl)) only [go_sem, ↓reduceIte, Nat.reduceAdd, Nat.reduceMul, Nat.reduceLT, Nat.reduceBEq, Nat.reduceLeDiff, Nat.reduceEqDiff, Int.reduceToNat]
    simp [mrkL]
  · simp (disch := exact eqId (by kernel_rfl)) only [go_sem, ↓reduceIte, Nat.reduceAdd, Nat.reduceMul, Nat.reduceLT, Nat.reduceBEq, Nat.reduceLeDiff, Nat.reduceEqDiff, Int.reduceToNat]
    rw [hml]
    refine ⟨fun hk => ?_, fun hk => ?_⟩
    · have hk : d < l.length := by omega
      have htk := congrArg Prod.snd (mrkL_take (mrk (.list tStamp)) hk ([] : ((.list tStamp) : Ty).den) n)
      have hK : 0 ≤ (mrkL (mrk (.list tStamp)) (l.take d) n).2 := by rw [hq d]; omega
      have c : (mrkL (mrk (.list tStamp)) (l.take d) n).2 + cnv (.list tStamp) (l.getD d []) ≤ 1152921504606846976 := by rw [hq d]; exact hc d hk
      have hm : Small (.list tStamp) 1073741824 (l.getD d []) := hs.2 _ (getD_mem hk _)
      have hgd := hg d hk
      generalize (mrk (.list (.list tStamp)) l n).1 = A at *
      generalize (mrkL (mrk (.list tStamp)) (l.take d) n).2 = K at *
      generalize l.getD d [] = y at *
      try simp only [cnv_c, cnv_i, cnv_n] at c
      have := mrk_snd (.list tStamp) y K
      try simp only [mrk_c, mrk_i, mrk_n] at hgd
      try simp (disch := omega) only [wrap_i64] at hgd
      simp only [hml, hgd]
      try simp (disch := omega) only [wrap_i64]
      repeat' (first | (refine And.intro ?_ ?_) | intro _ | (refine callQ_intro (heldStampS_m _ _ (by omega) (by omega) hm.1) ?_; try (simp (disch := exact eqId (by kernel_rfl)) only [go_sem, ↓reduceIte, Nat.reduceAdd, Nat.reduceMul, Nat.reduceLT, Nat.reduceBEq, Nat.reduceLeDiff, Nat.reduceEqDiff, Int.reduceToNat])) | (refine callH_intro (fun hcc => heldStampS_m _ _ (by omega) (by omega) hm.1) ?_; try (simp (disch := exact eqId (by kernel_rfl)) only [go_sem, ↓reduceIte, Nat.reduceAdd, Nat.reduceMul, Nat.reduceLT, Nat.reduceBEq, Nat.reduceLeDiff, Nat.reduceEqDiff, Int.reduceToNat])))
      all_goals (try simp only [hgd])
      all_goals (try simp (disch := omega) only [wrap_i64])
      repeat' (first | (refine And.intro ?_ ?_) | intro _ | (refine callQ_intro (heldStampS_m _ _ (by omega) (by omega) hm.1) ?_; try (simp (disch := exact eqId (by kernel_rfl)) only [go_sem, ↓reduceIte, Nat.reduceAdd, Nat.reduceMul, Nat.reduceLT, Nat.reduceBEq, Nat.reduceLeDiff, Nat.reduceEqDiff, Int.reduceToNat])) | (refine callH_intro (fun hcc => heldStampS_m _ _ (by omega) (by omega) hm.1) ?_; try (simp (disch := exact eqId (by kernel_rfl)) only [go_sem, ↓reduceIte, Nat.reduceAdd, Nat.reduceMul, Nat.reduceLT, Nat.reduceBEq, Nat.reduceLeDiff, Nat.reduceEqDiff, Int.reduceToNat])))
      all_goals (try simp only [hgd] at *)
      all_goals (try simp (disch := omega) only [wrap_i64] at *)
      all_goals (try omega)
      all_goals (try (exfalso; rename_i hx; first | exact hx rfl | exact hx trivial))
      · refine back_intro (d + 1) ?_ ?_ (sub_shp hN [] ?_)
        · exact hk
        · omega
        · simp (disch := exact eqId (by kernel_rfl)) only [go_sem, ↓reduceIte, Nat.reduceAdd, Nat.reduceMul, Nat.reduceLT, Nat.reduceBEq, Nat.reduceLeDiff, Nat.reduceEqDiff, Int.reduceToNat]
          rw [htk]
          simp only [mrk_c, mrk_i, mrk_n]
          try simp (disch := omega) only [wrap_i64]
          repeat' (refine And.intro ?_ ?_)
          all_goals first | trivial | rfl | omega | (exact I_eq (by omega))
    · have hk : d = l.length := by omega
      rw [hend, hk]
theorem heldIntSS_d (l : List ((.list I) : Ty).den) (n : Int) (h0 : 0 ≤ n) (h1 : n + cnv (.list (.list I)) l ≤ 1152921504606846976) (hs : Small (.list (.list I)) 1073741824 l) : FunOK Try.prog 44 [⟨(.list (.list I)), (mrk (.list (.list I)) l n).1⟩, ⟨I, n⟩] (.rd I (mrk (.list (.list I)) l n).2) := by
  have hl : l.length ≤ 1073741824 := hs.1
  have hml : (mrk (.list (.list I)) l n).1.length = l.length := mrkL_len _ l n
  have hq : ∀ d : Nat, (mrkL (mrk (.list I)) (l.take d) n).2 = n + (((l.take d).map (cnv (.list I))).sum : Nat) := fun d => mrk_snd (.list (.list I)) (l.take d) n
  have hc : ∀ d : Nat, d < l.length → n + (((l.take d).map (cnv (.list I))).sum : Nat) + cnv (.list I) (l.getD d ((.list I) : Ty).dflt) ≤ 1152921504606846976 := fun d hd => by
    have := sum_take (cnv (.list I)) hd ((.list I) : Ty).dflt
    simp only [cnv] at h1 this ⊢
    omega
  have hg : ∀ d : Nat, d < l.length → (mrk (.list (.list I)) l n).1.getD d ([] : ((.list I) : Ty).den) = (mrk (.list I) (l.getD d []) (mrkL (mrk (.list I)) (l.take d) n).2).1 := fun d hd => mrkL_get (mrk (.list I)) _ n hd
  have hend : mrk (.list (.list I)) l n = mrkL (mrk (.list I)) (l.take l.length) n := by rw [List.take_length]; rfl
  refine fun_of (tb := tb) follows Try.func44 (by kernel_rfl) Try.ntmps44 rfl rfl rfl ?_; intro cx hN hw
  simp (disch := exact eqId (by kernel_rfl)) only [go_sem, ↓reduceIte, Nat.reduceAdd, Nat.reduceMul, Nat.reduceLT, Nat.reduceBEq, Nat.reduceLeDiff, Nat.reduceEqDiff, Int.reduceToNat]
  refine loop_intro (tb := tb) follows hN (D := Nat) (fun d => shp [(0, .rd (.list (.list I)) ((mrk (.list (.list I)) l n).1)), (1, .rd I ((mrkL (mrk (.list I)) (l.take d) n).2 : Int)), (5, .rd I (d : Int))] []) (fun d => d ≤ l.length) (fun d => l.length - d) (0) ?_ (sub_shp hN [] ?_) (fun d hd => ?_)
  · exact Nat.zero_le _
  · simp (disch := exact eqId (by kernel_rfl)) only [go_sem, ↓reduceIte, Nat.reduceAdd, Nat.reduceMul, Nat.reduceLT, Nat.reduceBEq, Nat.reduceLeDiff, Nat.reduceEqDiff, Int.reduceToNat]
    simp [mrkL]
  · simp (disch := exact eqId (by kernel_rfl)) only [go_sem, ↓reduceIte, Nat.reduceAdd, Nat.reduceMul, Nat.reduceLT, Nat.reduceBEq, Nat.reduceLeDiff, Nat.reduceEqDiff, Int.reduceToNat]
    rw [hml]
    refine ⟨fun hk => ?_, fun hk => ?_⟩
    · have hk : d < l.length := by omega
      have htk := congrArg Prod.snd (mrkL_take (mrk (.list I)) hk ([] : ((.list I) : Ty).den) n)
      have hK : 0 ≤ (mrkL (mrk (.list I)) (l.take d) n).2 := by rw [hq d]; omega
      have c : (mrkL (mrk (.list I)) (l.take d) n).2 + cnv (.list I) (l.getD d []) ≤ 1152921504606846976 := by rw [hq d]; exact hc d hk
      have hm : Small (.list I) 1073741824 (l.getD d []) := hs.2 _ (getD_mem hk _)
      have hgd := hg d hk
      generalize (mrk (.list (.list I)) l n).1 = A at *
      generalize (mrkL (mrk (.list I)) (l.take d) n).2 = K at *
      generalize l.getD d [] = y at *
      try simp only [cnv_c, cnv_i, cnv_n] at c
      have := mrk_snd (.list I) y K
      try simp only [mrk_c, mrk_i, mrk_n] at hgd
      try simp (disch := omega) only [wrap_i64] at hgd
      simp only [hml, hgd]
      try simp (disch := omega) only [wrap_i64]
      repeat' (first | (refine And.intro ?_ ?_) | intro _ | (refine callQ_intro (heldIntS_m _ _ (by omega) (by omega) hm.1) ?_; try (simp (disch := exact eqId (by kernel_rfl)) only [go_sem, ↓reduceIte, Nat.reduceAdd, Nat.reduceMul, Nat.reduceLT, Nat.reduceBEq, Nat.reduceLeDiff, Nat.reduceEqDiff, Int.reduceToNat])) | (refine callH_intro (fun hcc => heldIntS_m _ _ (by omega) (by omega) hm.1) ?_; try (simp (disch := exact eqId (by kernel_rfl)) only [go_sem, ↓reduceIte, Nat.reduceAdd, Nat.reduceMul, Nat.reduceLT, Nat.reduceBEq, Nat.reduceLeDiff, Nat.reduceEqDiff, Int.reduceToNat])))
      all_goals (try simp only [hgd])
      all_goals (try simp (disch := omega) only [wrap_i64])
      repeat' (first | (refine And.intro ?_ ?_) | intro _ | (refine callQ_intro (heldIntS_m _ _ (by omega) (by omega) hm.1) ?_; try (simp (disch := exact eqId (by kernel_rfl)) only [go_sem, ↓reduceIte, Nat.reduceAdd, Nat.reduceMul, Nat.reduceLT, Nat.reduceBEq, Nat.reduceLeDiff, Nat.reduceEqDiff, Int.reduceToNat])) | (refine callH_intro (fun hcc => heldIntS_m _ _ (by omega) (by omega) hm.1) ?_; try (simp (disch := exact eqId (by kernel_rfl)) only [go_sem, ↓reduceIte, Nat.reduceAdd, Nat.reduceMul, Nat.reduceLT, Nat.reduceBEq, Nat.reduceLeDiff, Nat.reduceEqDiff, Int.reduceToNat])))
      all_goals (try simp only [hgd] at *)
      all_goals (try simp (disch := omega) only [wrap_i64] at *)
      all_goals (try omega)
      all_goals (try (exfalso; rename_i hx; first | exact hx rfl | exact hx trivial))
      · refine back_intro (d + 1) ?_ ?_ (sub_shp hN [] ?_)
        · exact hk
        · omega
        · simp (disch := exact eqId (by kernel_rfl)) only [go_sem, ↓reduceIte, Nat.reduceAdd, Nat.reduceMul, Nat.reduceLT, Nat.reduceBEq, Nat.reduceLeDiff, Nat.reduceEqDiff, Int.reduceToNat]
          rw [htk]
          simp only [mrk_c, mrk_i, mrk_n]
          try simp (disch := omega) only [wrap_i64]
          repeat' (refine And.intro ?_ ?_)
          all_goals first | trivial | rfl | omega | (exact I_eq (by omega))
    · have hk : d = l.length := by omega
      rw [hend, hk]
theorem markStrand_d (a : tStrand.den) (n : Int) (h0 : 0 ≤ n) (h1 : n + cnv tStrand a ≤ 1152921504606846976) (hs : Small tStrand 1073741824 a) : MutOK Try.prog 19 [some 2, none] [.obj (.deep TE tPiece a.1), .obj (.deep TE tRenewal a.2.1), .rd ⟨I, n⟩] (.rd I (mrk tStrand a n).2) [.deep TE tPiece (mrk tStrand a n).1.1, .deep TE tRenewal (mrk tStrand a n).1.2.1] := by
  have f1 := mrk_snd (.list tPiece) a.1 n
  have f2 := mrk_snd (.list tRenewal) a.2.1 (mrk (.list tPiece) a.1 n).2
  simp only [cnv_c, cnv_n] at h1
  refine fun_ofM (tb := tb) follows Try.func19 (by kernel_rfl) Try.ntmps19 rfl rfl (by simp [shOK]) rfl ?_; intro cx hN hw
  simp (disch := exact eqId (by kernel_rfl)) only [go_sem, ↓reduceIte, Nat.reduceAdd, Nat.reduceMul, Nat.reduceLT, Nat.reduceBEq, Nat.reduceLeDiff, Nat.reduceEqDiff, Int.reduceToNat]
  refine callM_intro (markPieceS_d a.1 n h0 (by omega) hs.1) ⟨⟨trivial, by decide⟩, rfl, rfl⟩ ?_
  simp (disch := exact eqId (by kernel_rfl)) only [go_sem, ↓reduceIte, Nat.reduceAdd, Nat.reduceMul, Nat.reduceLT, Nat.reduceBEq, Nat.reduceLeDiff, Nat.reduceEqDiff, Int.reduceToNat]
  refine callM_intro (markRenewalS_d a.2.1 _ (by omega) (by omega) hs.2.1) ⟨⟨trivial, by decide⟩, rfl, rfl⟩ ?_
  simp (disch := exact eqId (by kernel_rfl)) only [go_sem, ↓reduceIte, Nat.reduceAdd, Nat.reduceMul, Nat.reduceLT, Nat.reduceBEq, Nat.reduceLeDiff, Nat.reduceEqDiff, Int.reduceToNat]
  try simp only [mrk_c, mrk_n]
  try exact ⟨trivial, trivial, trivial⟩
theorem heldStrand_d (a : tStrand.den) (n : Int) (h0 : 0 ≤ n) (h1 : n + cnv tStrand a ≤ 1152921504606846976) (hs : Small tStrand 1073741824 a) : FunOK Try.prog 29 [⟨tStrand, (mrk tStrand a n).1⟩, ⟨I, n⟩] (.rd I (mrk tStrand a n).2) := by
  have f1 := mrk_snd (.list tPiece) a.1 n
  have f2 := mrk_snd (.list tRenewal) a.2.1 (mrk (.list tPiece) a.1 n).2
  simp only [cnv_c, cnv_n] at h1
  simp only [mrk_c, mrk_n]
  refine fun_of (tb := tb) follows Try.func29 (by kernel_rfl) Try.ntmps29 rfl rfl rfl ?_; intro cx hN hw
  simp (disch := exact eqId (by kernel_rfl)) only [go_sem, ↓reduceIte, Nat.reduceAdd, Nat.reduceMul, Nat.reduceLT, Nat.reduceBEq, Nat.reduceLeDiff, Nat.reduceEqDiff, Int.reduceToNat]
  repeat' (first | (refine And.intro ?_ ?_) | intro _ | (refine callQ_intro (heldPieceS_d a.1 n h0 (by omega) hs.1) ?_; try (simp (disch := exact eqId (by kernel_rfl)) only [go_sem, ↓reduceIte, Nat.reduceAdd, Nat.reduceMul, Nat.reduceLT, Nat.reduceBEq, Nat.reduceLeDiff, Nat.reduceEqDiff, Int.reduceToNat])) | (refine callH_intro (fun hcc => heldPieceS_d a.1 n h0 (by omega) hs.1) ?_; try (simp (disch := exact eqId (by kernel_rfl)) only [go_sem, ↓reduceIte, Nat.reduceAdd, Nat.reduceMul, Nat.reduceLT, Nat.reduceBEq, Nat.reduceLeDiff, Nat.reduceEqDiff, Int.reduceToNat])) | (refine callQ_intro (heldRenewalS_d a.2.1 _ (by omega) (by omega) hs.2.1) ?_; try (simp (disch := exact eqId (by kernel_rfl)) only [go_sem, ↓reduceIte, Nat.reduceAdd, Nat.reduceMul, Nat.reduceLT, Nat.reduceBEq, Nat.reduceLeDiff, Nat.reduceEqDiff, Int.reduceToNat])) | (refine callH_intro (fun hcc => heldRenewalS_d a.2.1 _ (by omega) (by omega) hs.2.1) ?_; try (simp (disch := exact eqId (by kernel_rfl)) only [go_sem, ↓reduceIte, Nat.reduceAdd, Nat.reduceMul, Nat.reduceLT, Nat.reduceBEq, Nat.reduceLeDiff, Nat.reduceEqDiff, Int.reduceToNat])))
  all_goals (try omega)
theorem markRenewal_d (a : tRenewal.den) (n : Int) (h0 : 0 ≤ n) (h1 : n + cnv (.list tStep) a.2.2.2.1 + cnv (.list tStamp) a.2.2.2.2.1 ≤ 1152921504606846976) (hs : Small tRenewal 1073741824 a) : MutOK Try.prog 35 [some 5, none] [.rd ⟨I, a.1⟩, .rd ⟨I, a.2.1⟩, .rd ⟨I, a.2.2.1⟩, .obj (.arr 151 tStep a.2.2.2.1), .obj (.arr 155 tStamp a.2.2.2.2.1), .rd ⟨I, n⟩] (.rd I (n + cnv (.list tStep) a.2.2.2.1 + cnv (.list tStamp) a.2.2.2.2.1 : Int)) [.arr 151 tStep (mrk (.list tStep) a.2.2.2.1 n).1, .arr 155 tStamp (mrk (.list tStamp) a.2.2.2.2.1 (mrk (.list tStep) a.2.2.2.1 n).2).1] := by
  have f1 := mrk_snd (.list tStep) a.2.2.2.1 n
  have f2 := mrk_snd (.list tStamp) a.2.2.2.2.1 (mrk (.list tStep) a.2.2.2.1 n).2
  refine fun_ofM (tb := tb) follows Try.func35 (by kernel_rfl) Try.ntmps35 rfl rfl (by simp [shOK]) rfl ?_; intro cx hN hw
  simp (disch := exact eqId (by kernel_rfl)) only [go_sem, ↓reduceIte, Nat.reduceAdd, Nat.reduceMul, Nat.reduceLT, Nat.reduceBEq, Nat.reduceLeDiff, Nat.reduceEqDiff, Int.reduceToNat]
  refine callM_intro (markStepS_m a.2.2.2.1 n h0 (by omega) hs.2.2.2.1.1) ⟨⟨trivial, by decide⟩, rfl, rfl⟩ ?_
  simp (disch := exact eqId (by kernel_rfl)) only [go_sem, ↓reduceIte, Nat.reduceAdd, Nat.reduceMul, Nat.reduceLT, Nat.reduceBEq, Nat.reduceLeDiff, Nat.reduceEqDiff, Int.reduceToNat]
  refine callM_intro (markStampS_m a.2.2.2.2.1 _ (by omega) (by omega) hs.2.2.2.2.1.1) ⟨⟨trivial, by decide⟩, rfl, rfl⟩ ?_
  simp (disch := exact eqId (by kernel_rfl)) only [go_sem, ↓reduceIte, Nat.reduceAdd, Nat.reduceMul, Nat.reduceLT, Nat.reduceBEq, Nat.reduceLeDiff, Nat.reduceEqDiff, Int.reduceToNat]
  first | (rw [f2, f1]; done) | exact I_eq (by rw [f2, f1]) | omega
theorem markEvidence_d (a : tEvidence.den) (n : Int) (h0 : 0 ≤ n) (h1 : n + cnv tEvidence a ≤ 1152921504606846976) (hs : Small tEvidence 1073741824 a) : MutOK Try.prog 42 [some 2, none] [.obj (.deep TE tStrand a.1), .obj (.deep TE (.list tStamp) a.2.1), .rd ⟨I, n⟩] (.rd I (mrk tEvidence a n).2) [.deep TE tStrand (mrk tEvidence a n).1.1, .deep TE (.list tStamp) (mrk tEvidence a n).1.2.1] := by
  have f1 := mrk_snd (.list tStrand) a.1 n
  have f2 := mrk_snd (.list (.list tStamp)) a.2.1 (mrk (.list tStrand) a.1 n).2
  simp only [cnv_c (.list tStrand), cnv_c (.list (.list tStamp)), cnv_n] at h1
  refine fun_ofM (tb := tb) follows Try.func42 (by kernel_rfl) Try.ntmps42 rfl rfl (by simp [shOK]) rfl ?_; intro cx hN hw
  simp (disch := exact eqId (by kernel_rfl)) only [go_sem, ↓reduceIte, Nat.reduceAdd, Nat.reduceMul, Nat.reduceLT, Nat.reduceBEq, Nat.reduceLeDiff, Nat.reduceEqDiff, Int.reduceToNat]
  refine callM_intro (markStrandS_d a.1 n h0 (by omega) hs.1) ⟨⟨trivial, by decide⟩, rfl, rfl⟩ ?_
  simp (disch := exact eqId (by kernel_rfl)) only [go_sem, ↓reduceIte, Nat.reduceAdd, Nat.reduceMul, Nat.reduceLT, Nat.reduceBEq, Nat.reduceLeDiff, Nat.reduceEqDiff, Int.reduceToNat]
  refine callM_intro (markStampSS_d a.2.1 _ (by omega) (by omega) hs.2.1) ⟨⟨trivial, by decide⟩, rfl, rfl⟩ ?_
  simp (disch := exact eqId (by kernel_rfl)) only [go_sem, ↓reduceIte, Nat.reduceAdd, Nat.reduceMul, Nat.reduceLT, Nat.reduceBEq, Nat.reduceLeDiff, Nat.reduceEqDiff, Int.reduceToNat]
  try simp only [mrk_c (.list tStrand), mrk_c (.list (.list tStamp)), mrk_n]
  try exact ⟨trivial, trivial, trivial⟩
theorem heldEvidence_d (a : tEvidence.den) (n : Int) (h0 : 0 ≤ n) (h1 : n + cnv tEvidence a ≤ 1152921504606846976) (hs : Small tEvidence 1073741824 a) : FunOK Try.prog 53 [⟨tEvidence, (mrk tEvidence a n).1⟩, ⟨I, n⟩] (.rd I (mrk tEvidence a n).2) := by
  have f1 := mrk_snd (.list tStrand) a.1 n
  have f2 := mrk_snd (.list (.list tStamp)) a.2.1 (mrk (.list tStrand) a.1 n).2
  simp only [cnv_c (.list tStrand), cnv_c (.list (.list tStamp)), cnv_n] at h1
  simp only [mrk_c (.list tStrand), mrk_c (.list (.list tStamp)), mrk_n]
  refine fun_of (tb := tb) follows Try.func53 (by kernel_rfl) Try.ntmps53 rfl rfl rfl ?_; intro cx hN hw
  simp (disch := exact eqId (by kernel_rfl)) only [go_sem, ↓reduceIte, Nat.reduceAdd, Nat.reduceMul, Nat.reduceLT, Nat.reduceBEq, Nat.reduceLeDiff, Nat.reduceEqDiff, Int.reduceToNat]
  repeat' (first | (refine And.intro ?_ ?_) | intro _ | (refine callQ_intro (heldStrandS_d a.1 n h0 (by omega) hs.1) ?_; try (simp (disch := exact eqId (by kernel_rfl)) only [go_sem, ↓reduceIte, Nat.reduceAdd, Nat.reduceMul, Nat.reduceLT, Nat.reduceBEq, Nat.reduceLeDiff, Nat.reduceEqDiff, Int.reduceToNat])) | (refine callH_intro (fun hcc => heldStrandS_d a.1 n h0 (by omega) hs.1) ?_; try (simp (disch := exact eqId (by kernel_rfl)) only [go_sem, ↓reduceIte, Nat.reduceAdd, Nat.reduceMul, Nat.reduceLT, Nat.reduceBEq, Nat.reduceLeDiff, Nat.reduceEqDiff, Int.reduceToNat])) | (refine callQ_intro (heldStampSS_d a.2.1 _ (by omega) (by omega) hs.2.1) ?_; try (simp (disch := exact eqId (by kernel_rfl)) only [go_sem, ↓reduceIte, Nat.reduceAdd, Nat.reduceMul, Nat.reduceLT, Nat.reduceBEq, Nat.reduceLeDiff, Nat.reduceEqDiff, Int.reduceToNat])) | (refine callH_intro (fun hcc => heldStampSS_d a.2.1 _ (by omega) (by omega) hs.2.1) ?_; try (simp (disch := exact eqId (by kernel_rfl)) only [go_sem, ↓reduceIte, Nat.reduceAdd, Nat.reduceMul, Nat.reduceLT, Nat.reduceBEq, Nat.reduceLeDiff, Nat.reduceEqDiff, Int.reduceToNat])))
  all_goals (try omega)
end Go.Proofs.Ytfkdkblbhilghaa
