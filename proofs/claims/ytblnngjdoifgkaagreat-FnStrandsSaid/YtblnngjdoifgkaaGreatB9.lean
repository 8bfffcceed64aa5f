/- What functions of growing strands answer, the program's side. It proves nothing of a statement by itself. -/
import Derived.Test.YtblnngjdoifgkaaGreatB8
set_option linter.unusedSimpArgs false
set_option linter.unusedVariables false
set_option maxRecDepth 100000
namespace Go.Proofs.YtblnngjdoifgkaaGreat
open Go.AL
theorem copyInts_ok (l : List Int) (hl : l.length ≤ 1048576) : FunOK Tryz.prog 45 [⟨(.list I), l⟩] (.own 3 I l) := by
  refine fun_of (tb := tb) follows Tryz.func45 (by kernel_rfl) Tryz.ntmps45 rfl rfl rfl ?_; intro cx hN hw
  simp (disch := exact eqId (by kernel_rfl)) only [go_sem, ↓reduceIte, Nat.reduceAdd, Nat.reduceMul, Nat.reduceLT, Nat.reduceBEq, Nat.reduceLeDiff, Nat.reduceEqDiff, Int.reduceToNat]
  repeat' (first | (refine And.intro ?_ ?_) | intro _)
  all_goals (try omega)
theorem copyStamps_ok (l : List tStamp.den) (hl : l.length ≤ 1048576) : FunOK Tryz.prog 51 [⟨(.list tStamp), l⟩] (.own 108 tStamp l) := by
  refine fun_of (tb := tb) follows Tryz.func51 (by kernel_rfl) Tryz.ntmps51 rfl rfl rfl ?_; intro cx hN hw
  simp (disch := exact eqId (by kernel_rfl)) only [go_sem, ↓reduceIte, Nat.reduceAdd, Nat.reduceMul, Nat.reduceLT, Nat.reduceBEq, Nat.reduceLeDiff, Nat.reduceEqDiff, Int.reduceToNat]
  repeat' (first | (refine And.intro ?_ ?_) | intro _)
  all_goals (try omega)
theorem copyPiece_ok (p : tPiece.den) (hp : p.2.1.length ≤ 1048576) : FunOK Tryz.prog 22 [⟨tPiece, p⟩] (.agg [.rd I p.1, .own 3 I p.2.1, .rd I p.2.2.1]) := by
  refine fun_of (tb := tb) follows Tryz.func22 (by kernel_rfl) Tryz.ntmps22 rfl rfl rfl ?_; intro cx hN hw
  simp (disch := exact eqId (by kernel_rfl)) only [go_sem, ↓reduceIte, Nat.reduceAdd, Nat.reduceMul, Nat.reduceLT, Nat.reduceBEq, Nat.reduceLeDiff, Nat.reduceEqDiff, Int.reduceToNat]
  repeat' (first | (refine And.intro ?_ ?_) | intro _ | (refine callQ_intro (copyInts_ok _ hp) ?_; try (simp (disch := exact eqId (by kernel_rfl)) only [go_sem, ↓reduceIte, Nat.reduceAdd, Nat.reduceMul, Nat.reduceLT, Nat.reduceBEq, Nat.reduceLeDiff, Nat.reduceEqDiff, Int.reduceToNat])) | (refine callH_intro (fun hcc => copyInts_ok _ hp) ?_; try (simp (disch := exact eqId (by kernel_rfl)) only [go_sem, ↓reduceIte, Nat.reduceAdd, Nat.reduceMul, Nat.reduceLT, Nat.reduceBEq, Nat.reduceLeDiff, Nat.reduceEqDiff, Int.reduceToNat])))
  all_goals (try omega)
theorem copyRenewal_ok (r : tRenewal.den) (h1 : r.2.2.2.1.length ≤ 1048576) (h2 : r.2.2.2.2.1.length ≤ 1048576) : FunOK Tryz.prog 26 [⟨tRenewal, r⟩] (.agg [.rd I r.1, .rd I r.2.1, .rd I r.2.2.1, .own 93 tStep r.2.2.2.1, .own 108 tStamp r.2.2.2.2.1]) := by
  refine fun_of (tb := tb) follows Tryz.func26 (by kernel_rfl) Tryz.ntmps26 rfl rfl rfl ?_; intro cx hN hw
  simp (disch := exact eqId (by kernel_rfl)) only [go_sem, ↓reduceIte, Nat.reduceAdd, Nat.reduceMul, Nat.reduceLT, Nat.reduceBEq, Nat.reduceLeDiff, Nat.reduceEqDiff, Int.reduceToNat]
  repeat' (first | (refine And.intro ?_ ?_) | intro _ | (refine callQ_intro (copyStamps_ok _ h2) ?_; try (simp (disch := exact eqId (by kernel_rfl)) only [go_sem, ↓reduceIte, Nat.reduceAdd, Nat.reduceMul, Nat.reduceLT, Nat.reduceBEq, Nat.reduceLeDiff, Nat.reduceEqDiff, Int.reduceToNat])) | (refine callH_intro (fun hcc => copyStamps_ok _ h2) ?_; try (simp (disch := exact eqId (by kernel_rfl)) only [go_sem, ↓reduceIte, Nat.reduceAdd, Nat.reduceMul, Nat.reduceLT, Nat.reduceBEq, Nat.reduceLeDiff, Nat.reduceEqDiff, Int.reduceToNat])))
  all_goals (try omega)
theorem copyPieces_ok (l : List tPiece.den) (hl : l.length ≤ 1048576) (hp : ∀ p, p ∈ l → p.2.1.length ≤ 1048576) : FunOK Tryz.prog 44 [⟨(.list tPiece), l⟩] (.own 30 tPiece l) := by
  refine fun_of (tb := tb) follows Tryz.func44 (by kernel_rfl) Tryz.ntmps44 rfl rfl rfl ?_; intro cx hN hw
  simp (disch := exact eqId (by kernel_rfl)) only [go_sem, ↓reduceIte, Nat.reduceAdd, Nat.reduceMul, Nat.reduceLT, Nat.reduceBEq, Nat.reduceLeDiff, Nat.reduceEqDiff, Int.reduceToNat]
  refine loop_intro (tb := tb) follows hN (D := Nat) (fun d => shp [(3, .own 20000), (6, .rd (.list tPiece) (l)), (7, .rd I (((l).length : Int) : Int)), (8, .rd I (d : Int))] [(20000, .row 30 tPiece (l.take d))]) (fun d => d ≤ l.length) (fun d => l.length - d) (0) ?_ (sub_shp hN [(20000, none)] ?_) (fun d hd => ?_)
  · exact Nat.zero_le _
  · simp (disch := exact eqId (by kernel_rfl)) only [go_sem, ↓reduceIte, Nat.reduceAdd, Nat.reduceMul, Nat.reduceLT, Nat.reduceBEq, Nat.reduceLeDiff, Nat.reduceEqDiff, Int.reduceToNat]
    try exact ⟨rfl, rfl⟩
    try rfl
  · simp (disch := exact eqId (by kernel_rfl)) only [go_sem, ↓reduceIte, Nat.reduceAdd, Nat.reduceMul, Nat.reduceLT, Nat.reduceBEq, Nat.reduceLeDiff, Nat.reduceEqDiff, Int.reduceToNat]
    repeat' (first | (refine And.intro ?_ ?_) | intro _ | (refine callQ_intro (copyPiece_ok _ (hp _ (getD_mem (by omega) _))) ?_; try (simp (disch := exact eqId (by kernel_rfl)) only [go_sem, ↓reduceIte, Nat.reduceAdd, Nat.reduceMul, Nat.reduceLT, Nat.reduceBEq, Nat.reduceLeDiff, Nat.reduceEqDiff, Int.reduceToNat])) | (refine callH_intro (fun hcc => copyPiece_ok _ (hp _ (getD_mem (by omega) _))) ?_; try (simp (disch := exact eqId (by kernel_rfl)) only [go_sem, ↓reduceIte, Nat.reduceAdd, Nat.reduceMul, Nat.reduceLT, Nat.reduceBEq, Nat.reduceLeDiff, Nat.reduceEqDiff, Int.reduceToNat])))
    all_goals (try omega)
    all_goals (try (simp only [List.length_append, List.length_cons, List.length_nil, List.length_take]; omega))
    · rename_i hk
      refine back_intro (d + 1) ?_ ?_ (sub_shp hN [(20000, some 60064)] ?_)
      · omega
      · omega
      · simp (disch := exact eqId (by kernel_rfl)) only [go_sem, ↓reduceIte, Nat.reduceAdd, Nat.reduceMul, Nat.reduceLT, Nat.reduceBEq, Nat.reduceLeDiff, Nat.reduceEqDiff, Int.reduceToNat]
        refine ⟨?_, wrap_succ' (by omega)⟩
        exact take_snoc (show d < l.length by omega) _
    · rename_i hk
      rw [List.take_of_length_le (by omega)]
    all_goals trace_state
theorem copyStrand_ok (s : tStrand.den) (hs : Small tStrand 1048576 s) : FunOK Tryz.prog 21 [⟨tStrand, s⟩] (.agg [.own 30 tPiece s.1, .own 38 tRenewal s.2.1]) := by
  obtain ⟨h1, h2⟩ := sm_pc hs
  obtain ⟨h3, h4⟩ := sm_ch hs
  refine fun_of (tb := tb) follows Tryz.func21 (by kernel_rfl) Tryz.ntmps21 rfl rfl rfl ?_; intro cx hN hw
  simp (disch := exact eqId (by kernel_rfl)) only [go_sem, ↓reduceIte, Nat.reduceAdd, Nat.reduceMul, Nat.reduceLT, Nat.reduceBEq, Nat.reduceLeDiff, Nat.reduceEqDiff, Int.reduceToNat]
  repeat' (first | (refine And.intro ?_ ?_) | intro _ | (refine callQ_intro (copyPieces_ok _ h1 h2) ?_; try (simp (disch := exact eqId (by kernel_rfl)) only [go_sem, ↓reduceIte, Nat.reduceAdd, Nat.reduceMul, Nat.reduceLT, Nat.reduceBEq, Nat.reduceLeDiff, Nat.reduceEqDiff, Int.reduceToNat])) | (refine callH_intro (fun hcc => copyPieces_ok _ h1 h2) ?_; try (simp (disch := exact eqId (by kernel_rfl)) only [go_sem, ↓reduceIte, Nat.reduceAdd, Nat.reduceMul, Nat.reduceLT, Nat.reduceBEq, Nat.reduceLeDiff, Nat.reduceEqDiff, Int.reduceToNat])))
  refine loop_intro (tb := tb) follows hN (D := Nat) (fun d => shp [(2, .bp 10016 0), (3, .bp 20064 0), (11, .rd (.list tRenewal) (s.2.1)), (12, .rd I (((s.2.1).length : Int) : Int)), (13, .rd I (d : Int))] [(10016, .box 27 [.nils, .nils]), (20032, .row 30 tPiece s.1), (20064, .box 27 [.own 20032, .own 90000]), (90000, .row 38 tRenewal (List.take d s.2.1))]) (fun d => d ≤ List.length s.2.1) (fun d => List.length s.2.1 - d) (0) ?_ (sub_shp hN [(10016, some 10016), (20064, some 20064), (20032, some 20032), (90000, none)] ?_) (fun d hd => ?_)
  · exact Nat.zero_le _
  · simp (disch := exact eqId (by kernel_rfl)) only [go_sem, ↓reduceIte, Nat.reduceAdd, Nat.reduceMul, Nat.reduceLT, Nat.reduceBEq, Nat.reduceLeDiff, Nat.reduceEqDiff, Int.reduceToNat]
    try exact ⟨rfl, rfl⟩
    try rfl
  · simp (disch := exact eqId (by kernel_rfl)) only [go_sem, ↓reduceIte, Nat.reduceAdd, Nat.reduceMul, Nat.reduceLT, Nat.reduceBEq, Nat.reduceLeDiff, Nat.reduceEqDiff, Int.reduceToNat]
    repeat' (first | (refine And.intro ?_ ?_) | intro _ | (refine callQ_intro (copyRenewal_ok _ (h4 _ (getD_mem (by omega) _)).1 (h4 _ (getD_mem (by omega) _)).2) ?_; try (simp (disch := exact eqId (by kernel_rfl)) only [go_sem, ↓reduceIte, Nat.reduceAdd, Nat.reduceMul, Nat.reduceLT, Nat.reduceBEq, Nat.reduceLeDiff, Nat.reduceEqDiff, Int.reduceToNat])) | (refine callH_intro (fun hcc => copyRenewal_ok _ (h4 _ (getD_mem (by omega) _)).1 (h4 _ (getD_mem (by omega) _)).2) ?_; try (simp (disch := exact eqId (by kernel_rfl)) only [go_sem, ↓reduceIte, Nat.reduceAdd, Nat.reduceMul, Nat.reduceLT, Nat.reduceBEq, Nat.reduceLeDiff, Nat.reduceEqDiff, Int.reduceToNat])))
    all_goals (try omega)
    all_goals (try (simp only [List.length_append, List.length_cons, List.length_nil, List.length_take]; omega))
    · rename_i hk
      refine back_intro (d + 1) ?_ ?_ (sub_shp hN [(10016, some 10016), (20064, some 20064), (20032, some 20032), (90000, some 60080)] ?_)
      · omega
      · omega
      · simp (disch := exact eqId (by kernel_rfl)) only [go_sem, ↓reduceIte, Nat.reduceAdd, Nat.reduceMul, Nat.reduceLT, Nat.reduceBEq, Nat.reduceLeDiff, Nat.reduceEqDiff, Int.reduceToNat]
        refine ⟨?_, wrap_succ' (by omega)⟩
        exact take_snoc (show d < List.length s.2.1 by omega) _
    · rename_i hk
      rw [List.take_of_length_le (by omega)]
    all_goals trace_state
theorem impl_AddPiece_ok (s : tStrand.den) (p : tPiece.den) (hs : Small tStrand 1048576 s) (hp : p.2.1.length ≤ 1048576) : FunOK Tryz.prog 6 [⟨tStrand, s⟩, ⟨tPiece, p⟩] (.tup [.agg [.own 30 tPiece (apF s p).1.1, .own 38 tRenewal (apF s p).1.2.1], .rd .bool (apF s p).2]) := by
  have h1 := (sm_pc hs).1
  have h2 := (sm_ch hs).1
  refine fun_of (tb := tb) follows Tryz.func6 (by kernel_rfl) Tryz.ntmps6 rfl rfl rfl ?_; intro cx hN hw
  simp (disch := exact eqId (by kernel_rfl)) only [go_sem, ↓reduceIte, Nat.reduceAdd, Nat.reduceMul, Nat.reduceLT, Nat.reduceBEq, Nat.reduceLeDiff, Nat.reduceEqDiff, Int.reduceToNat]
  repeat' (first | (refine And.intro ?_ ?_) | intro _ | (refine callQ_intro (copyStrand_ok _ hs) ?_; try (simp (disch := exact eqId (by kernel_rfl)) only [go_sem, ↓reduceIte, Nat.reduceAdd, Nat.reduceMul, Nat.reduceLT, Nat.reduceBEq, Nat.reduceLeDiff, Nat.reduceEqDiff, Int.reduceToNat])) | (refine callH_intro (fun hcc => copyStrand_ok _ hs) ?_; try (simp (disch := exact eqId (by kernel_rfl)) only [go_sem, ↓reduceIte, Nat.reduceAdd, Nat.reduceMul, Nat.reduceLT, Nat.reduceBEq, Nat.reduceLeDiff, Nat.reduceEqDiff, Int.reduceToNat])) | (refine callQ_intro (copyPiece_ok _ hp) ?_; try (simp (disch := exact eqId (by kernel_rfl)) only [go_sem, ↓reduceIte, Nat.reduceAdd, Nat.reduceMul, Nat.reduceLT, Nat.reduceBEq, Nat.reduceLeDiff, Nat.reduceEqDiff, Int.reduceToNat])) | (refine callH_intro (fun hcc => copyPiece_ok _ hp) ?_; try (simp (disch := exact eqId (by kernel_rfl)) only [go_sem, ↓reduceIte, Nat.reduceAdd, Nat.reduceMul, Nat.reduceLT, Nat.reduceBEq, Nat.reduceLeDiff, Nat.reduceEqDiff, Int.reduceToNat])) | (refine callQ_intro (impl_IsStrand_ok _) ?_; try (simp (disch := exact eqId (by kernel_rfl)) only [go_sem, ↓reduceIte, Nat.reduceAdd, Nat.reduceMul, Nat.reduceLT, Nat.reduceBEq, Nat.reduceLeDiff, Nat.reduceEqDiff, Int.reduceToNat])) | (refine callH_intro (fun hcc => impl_IsStrand_ok _) ?_; try (simp (disch := exact eqId (by kernel_rfl)) only [go_sem, ↓reduceIte, Nat.reduceAdd, Nat.reduceMul, Nat.reduceLT, Nat.reduceBEq, Nat.reduceLeDiff, Nat.reduceEqDiff, Int.reduceToNat])))
  all_goals (try omega)
  all_goals (try (simp only [List.length_append, List.length_cons, List.length_nil]; omega))
  all_goals (rename_i hc; first | exact (congrArg (fun x => x.1.1) (apF_y hc)).symm | exact (congrArg (fun x => x.1.2.1) (apF_y hc)).symm | exact (congrArg (fun x => x.2) (apF_y hc)).symm | exact (congrArg (fun x => x.1.1) (apF_n hc)).symm | exact (congrArg (fun x => x.1.2.1) (apF_n hc)).symm | exact (congrArg (fun x => x.2) (apF_n hc)).symm | trace_state)
theorem impl_AddRenewal_ok (s : tStrand.den) (r : tRenewal.den) (hs : Small tStrand 1048576 s) (hr1 : r.2.2.2.1.length ≤ 1048576) (hr2 : r.2.2.2.2.1.length ≤ 1048576) : FunOK Tryz.prog 8 [⟨tStrand, s⟩, ⟨tRenewal, r⟩] (.tup [.agg [.own 30 tPiece (arF s r).1.1, .own 38 tRenewal (arF s r).1.2.1], .rd .bool (arF s r).2]) := by
  have h1 := (sm_pc hs).1
  have h2 := (sm_ch hs).1
  refine fun_of (tb := tb) follows Tryz.func8 (by kernel_rfl) Tryz.ntmps8 rfl rfl rfl ?_; intro cx hN hw
  simp (disch := exact eqId (by kernel_rfl)) only [go_sem, ↓reduceIte, Nat.reduceAdd, Nat.reduceMul, Nat.reduceLT, Nat.reduceBEq, Nat.reduceLeDiff, Nat.reduceEqDiff, Int.reduceToNat]
  repeat' (first | (refine And.intro ?_ ?_) | intro _ | (refine callQ_intro (copyStrand_ok _ hs) ?_; try (simp (disch := exact eqId (by kernel_rfl)) only [go_sem, ↓reduceIte, Nat.reduceAdd, Nat.reduceMul, Nat.reduceLT, Nat.reduceBEq, Nat.reduceLeDiff, Nat.reduceEqDiff, Int.reduceToNat])) | (refine callH_intro (fun hcc => copyStrand_ok _ hs) ?_; try (simp (disch := exact eqId (by kernel_rfl)) only [go_sem, ↓reduceIte, Nat.reduceAdd, Nat.reduceMul, Nat.reduceLT, Nat.reduceBEq, Nat.reduceLeDiff, Nat.reduceEqDiff, Int.reduceToNat])) | (refine callQ_intro (copyRenewal_ok _ hr1 hr2) ?_; try (simp (disch := exact eqId (by kernel_rfl)) only [go_sem, ↓reduceIte, Nat.reduceAdd, Nat.reduceMul, Nat.reduceLT, Nat.reduceBEq, Nat.reduceLeDiff, Nat.reduceEqDiff, Int.reduceToNat])) | (refine callH_intro (fun hcc => copyRenewal_ok _ hr1 hr2) ?_; try (simp (disch := exact eqId (by kernel_rfl)) only [go_sem, ↓reduceIte, Nat.reduceAdd, Nat.reduceMul, Nat.reduceLT, Nat.reduceBEq, Nat.reduceLeDiff, Nat.reduceEqDiff, Int.reduceToNat])) | (refine callQ_intro (impl_IsStrand_ok _) ?_; try (simp (disch := exact eqId (by kernel_rfl)) only [go_sem, ↓reduceIte, Nat.reduceAdd, Nat.reduceMul, Nat.reduceLT, Nat.reduceBEq, Nat.reduceLeDiff, Nat.reduceEqDiff, Int.reduceToNat])) | (refine callH_intro (fun hcc => impl_IsStrand_ok _) ?_; try (simp (disch := exact eqId (by kernel_rfl)) only [go_sem, ↓reduceIte, Nat.reduceAdd, Nat.reduceMul, Nat.reduceLT, Nat.reduceBEq, Nat.reduceLeDiff, Nat.reduceEqDiff, Int.reduceToNat])))
  all_goals (try omega)
  all_goals (try (simp only [List.length_append, List.length_cons, List.length_nil]; omega))
  all_goals (rename_i hc; first | exact (congrArg (fun x => x.1.1) (arF_y hc)).symm | exact (congrArg (fun x => x.1.2.1) (arF_y hc)).symm | exact (congrArg (fun x => x.2) (arF_y hc)).symm | exact (congrArg (fun x => x.1.1) (arF_n hc)).symm | exact (congrArg (fun x => x.1.2.1) (arF_n hc)).symm | exact (congrArg (fun x => x.2) (arF_n hc)).symm | trace_state)
end Go.Proofs.YtblnngjdoifgkaaGreat
/- What the draws of FnStrands answer. It proves nothing of a statement by itself. -/
set_option linter.unusedSimpArgs false
set_option linter.unusedVariables false
set_option maxRecDepth 100000
namespace Go.Proofs.YtblnngjdoifgkaaGreat
open Go.AL
theorem d20_pcs (s : Cu) : 1 ≤ (d20 s).1.1.1.length := by
  obtain ⟨hQ, hlen⟩ := d20D_q s
  obtain ⟨hp1, hc1, _, _⟩ := str_p hQ.1
  unfold d20
  simp only
  repeat' split
  all_goals first | omega | (simp only [List.length_append, List.length_cons, List.length_nil]; omega)
noncomputable def dFP (b : List Int) (hb : b.length ≤ maxLen) : tStrand.den × tPiece.den :=
  let x := d20 (cu0 b hb)
  let o := dO x.2 3
  if o.1 = true then (x.1.1, (d18 o.2).1) else (x.1.1, x.1.1.1.getD (dB o.2 (x.1.1.1.length : Int)).1.toNat (0, [], 0, ()))
def pcI (k : Nat) : List tPiece.den := (List.range k).map (fun i : Nat => ((i : Int), [], 0, ()))
theorem pcI_len (k : Nat) : (pcI k).length = k := by unfold pcI; rw [List.length_map, List.length_range]
theorem pcI_succ (k : Nat) : pcI (k + 1) = pcI k ++ [((k : Int), [], 0, ())] := by
  unfold pcI
  rw [List.range_succ, List.map_append]
  rfl
noncomputable def dAP (b : List Int) (hb : b.length ≤ maxLen) : tStrand.den × tPiece.den :=
  let x := dFP b hb
  if (dO (cu0 b hb) 8).1 = true then ((x.1.1 ++ pcI (12 - x.1.1.length), x.1.2.1, ()), x.2) else ((x.1.1, x.1.2.1, ()), x.2)
noncomputable def dAR (b : List Int) (hb : b.length ≤ maxLen) : tStrand.den × tRenewal.den :=
  let x := d20 (cu0 b hb)
  let o := dO x.2 8
  let k := dB o.2 5
  ((x.1.1.1, if o.1 = true then x.1.1.2.1 ++ List.replicate (8 - x.1.1.2.1.length) ((x.1.1.1.length : Int), 0, 0, [], [], ()) else x.1.1.2.1, ()), (d19 k.2 7 k.1 9).1)
noncomputable def dDD (b : List Int) (hb : b.length ≤ maxLen) : tStrand.den × tDocument.den := ((d20 (cu0 b hb)).1.1, (d20 (cu0 b hb)).1.2.1)
noncomputable def dFF (b : List Int) (hb : b.length ≤ maxLen) : tStrand.den × List Int :=
  let x := d20 (cu0 b hb)
  let o := dO x.2 6
  (x.1.1, dsF x.1.1 (if o.1 = true then (d6 o.2).1 else x.1.2.1))
theorem DrawDocDigests_ok (b : List Int) (hb : b.length ≤ maxLen) : FunOK Tryz.prog 12 [⟨(.list (.int .u8)), b⟩] (.tup [.rd tStrand (dDD b hb).1, .rd tDocument (dDD b hb).2]) := by
  refine fun_of (tb := tb) follows Tryz.func12 (by kernel_rfl) Tryz.ntmps12 rfl rfl rfl ?_; intro cx hN hw
  have hm : maxLen = 9223372036854775807 := rfl
  simp (disch := exact eqId (by kernel_rfl)) only [go_sem, ↓reduceIte, Nat.reduceAdd, Nat.reduceMul, Nat.reduceLT, Nat.reduceBEq, Nat.reduceLeDiff, Nat.reduceEqDiff, Int.reduceToNat]
  refine callI_intro (tb := tb) (rs := [.tmp 2]) follows Tryz.func18 (by kernel_rfl) rfl rfl Tryz.ntmps18 rfl ⟨trivial, trivial⟩ ?_
  intro cx2 hN2
  simp (disch := exact eqId (by kernel_rfl)) only [go_sem, ↓reduceIte, Nat.reduceAdd, Nat.reduceMul, Nat.reduceLT, Nat.reduceBEq, Nat.reduceLeDiff, Nat.reduceEqDiff, Int.reduceToNat]
  refine loop_introF (tb := tb.at 900000000000000) follows hN2 (D := Nat × Int) (fun d => shp [(0, .rd (.list (.int .u8)) b), (3, .rd I d.2), (4, .rd I (d.1 : Int))] [(10000, .box 27 [.nils, .nils]), (10016, .box 47 [.rd I 0, .nils, .nils])]) (fun d => d.1 ≤ 4000 ∧ newH b = nwK b (4000 - d.1) d.1 d.2) (fun d => 4000 - d.1) (0, IntKind.i64.wrap (193017 + (b.length : Int))) ?_ (sub_shpF [(10000, some 10000), (10016, some 10016)] ?_) (fun d hd => ?_)
  · exact ⟨Nat.zero_le _, rfl⟩
  · simp (disch := exact eqId (by kernel_rfl)) only [go_sem, ↓reduceIte, Nat.reduceAdd, Nat.reduceMul, Nat.reduceLT, Nat.reduceBEq, Nat.reduceLeDiff, Nat.reduceEqDiff, Int.reduceToNat]
    try rfl
  · obtain ⟨k, h⟩ := d
    obtain ⟨h1, h2⟩ := hd
    simp only at h1 h2
    simp (disch := exact eqId (by kernel_rfl)) only [go_sem, ↓reduceIte, Nat.reduceAdd, Nat.reduceMul, Nat.reduceLT, Nat.reduceBEq, Nat.reduceLeDiff, Nat.reduceEqDiff, Int.reduceToNat]
    repeat' (first | (refine And.intro ?_ ?_) | intro _)
    all_goals (try omega)
    · rename_i hk
      refine back_intro (k + 1, nwG h (b.getD k 0)) ?_ ?_ (sub_shpF [(10000, some 10000), (10016, some 10016)] ?_)
      · refine ⟨by omega, ?_⟩
        simp only
        rw [h2, show 4000 - k = (4000 - (k + 1)) + 1 from by omega, nwK, if_pos (by omega)]
      · simp only; omega
      · simp (disch := exact eqId (by kernel_rfl)) only [go_sem, ↓reduceIte, Nat.reduceAdd, Nat.reduceMul, Nat.reduceLT, Nat.reduceBEq, Nat.reduceLeDiff, Nat.reduceEqDiff, Int.reduceToNat]
        first | exact ⟨rfl, wrap_i64 (by omega) (by omega)⟩ | exact wrap_i64 (by omega) (by omega) | trace_state
    · rename_i hk
      have hh : h = newH b := by
        rw [h2]
        exact (nwK_end (by omega)).symm
      subst hh
      clear h1 h2
      refine callM_intro (l20Any_ok (cu0 b hb)) ⟨⟨trivial, by decide⟩, rfl, rfl⟩ ?_
      simp (disch := exact eqId (by kernel_rfl)) only [go_sem, ↓reduceIte, Nat.reduceAdd, Nat.reduceMul, Nat.reduceLT, Nat.reduceBEq, Nat.reduceLeDiff, Nat.reduceEqDiff, Int.reduceToNat]
      repeat' (first | (refine And.intro ?_ ?_) | intro _)
      all_goals (try omega)
      all_goals (try rfl)
theorem DrawFirstFault_ok (b : List Int) (hb : b.length ≤ maxLen) : FunOK Tryz.prog 14 [⟨(.list (.int .u8)), b⟩] (.tup [.rd (.list tKey) K8, .rd (.list tAuthority) A4, .rd tStrand (dFF b hb).1, .rd (.list I) (dFF b hb).2]) := by
  refine fun_of (tb := tb) follows Tryz.func14 (by kernel_rfl) Tryz.ntmps14 rfl rfl rfl ?_; intro cx hN hw
  have hm : maxLen = 9223372036854775807 := rfl
  simp (disch := exact eqId (by kernel_rfl)) only [go_sem, ↓reduceIte, Nat.reduceAdd, Nat.reduceMul, Nat.reduceLT, Nat.reduceBEq, Nat.reduceLeDiff, Nat.reduceEqDiff, Int.reduceToNat]
  refine callI_intro (tb := tb) (rs := [.tmp 2]) follows Tryz.func18 (by kernel_rfl) rfl rfl Tryz.ntmps18 rfl ⟨trivial, trivial⟩ ?_
  intro cx2 hN2
  simp (disch := exact eqId (by kernel_rfl)) only [go_sem, ↓reduceIte, Nat.reduceAdd, Nat.reduceMul, Nat.reduceLT, Nat.reduceBEq, Nat.reduceLeDiff, Nat.reduceEqDiff, Int.reduceToNat]
  refine loop_introF (tb := tb.at 900000000000000) follows hN2 (D := Nat × Int) (fun d => shp [(0, .rd (.list (.int .u8)) b), (3, .rd I d.2), (4, .rd I (d.1 : Int))] [(10032, .box 27 [.nils, .nils])]) (fun d => d.1 ≤ 4000 ∧ newH b = nwK b (4000 - d.1) d.1 d.2) (fun d => 4000 - d.1) (0, IntKind.i64.wrap (193017 + (b.length : Int))) ?_ (sub_shpF [(10032, some 10032)] ?_) (fun d hd => ?_)
  · exact ⟨Nat.zero_le _, rfl⟩
  · simp (disch := exact eqId (by kernel_rfl)) only [go_sem, ↓reduceIte, Nat.reduceAdd, Nat.reduceMul, Nat.reduceLT, Nat.reduceBEq, Nat.reduceLeDiff, Nat.reduceEqDiff, Int.reduceToNat]
    try rfl
  · obtain ⟨k, h⟩ := d
    obtain ⟨h1, h2⟩ := hd
    simp only at h1 h2
    simp (disch := exact eqId (by kernel_rfl)) only [go_sem, ↓reduceIte, Nat.reduceAdd, Nat.reduceMul, Nat.reduceLT, Nat.reduceBEq, Nat.reduceLeDiff, Nat.reduceEqDiff, Int.reduceToNat]
    repeat' (first | (refine And.intro ?_ ?_) | intro _)
    all_goals (try omega)
    · rename_i hk
      refine back_intro (k + 1, nwG h (b.getD k 0)) ?_ ?_ (sub_shpF [(10032, some 10032)] ?_)
      · refine ⟨by omega, ?_⟩
        simp only
        rw [h2, show 4000 - k = (4000 - (k + 1)) + 1 from by omega, nwK, if_pos (by omega)]
      · simp only; omega
      · simp (disch := exact eqId (by kernel_rfl)) only [go_sem, ↓reduceIte, Nat.reduceAdd, Nat.reduceMul, Nat.reduceLT, Nat.reduceBEq, Nat.reduceLeDiff, Nat.reduceEqDiff, Int.reduceToNat]
        first | exact ⟨rfl, wrap_i64 (by omega) (by omega)⟩ | exact wrap_i64 (by omega) (by omega) | trace_state
    · rename_i hk
      have hh : h = newH b := by
        rw [h2]
        exact (nwK_end (by omega)).symm
      subst hh
      clear h1 h2
      refine callM_intro (l20Any_ok (cu0 b hb)) ⟨⟨trivial, by decide⟩, rfl, rfl⟩ ?_
      simp (disch := exact eqId (by kernel_rfl)) only [go_sem, ↓reduceIte, Nat.reduceAdd, Nat.reduceMul, Nat.reduceLT, Nat.reduceBEq, Nat.reduceLeDiff, Nat.reduceEqDiff, Int.reduceToNat]
      repeat' (first | (refine And.intro ?_ ?_) | intro _ | (refine callM_intro (dO_ok _ _) ⟨⟨trivial, by decide⟩, rfl, rfl⟩ ?_; try (simp (disch := exact eqId (by kernel_rfl)) only [go_sem, ↓reduceIte, Nat.reduceAdd, Nat.reduceMul, Nat.reduceLT, Nat.reduceBEq, Nat.reduceLeDiff, Nat.reduceEqDiff, Int.reduceToNat])) | (refine callM_intro (l6Draw_ok _) ⟨⟨trivial, by decide⟩, rfl, rfl⟩ ?_; try (simp (disch := exact eqId (by kernel_rfl)) only [go_sem, ↓reduceIte, Nat.reduceAdd, Nat.reduceMul, Nat.reduceLT, Nat.reduceBEq, Nat.reduceLeDiff, Nat.reduceEqDiff, Int.reduceToNat])) | (refine callQ_intro (l8Keys_ok) ?_; try (simp (disch := exact eqId (by kernel_rfl)) only [go_sem, ↓reduceIte, Nat.reduceAdd, Nat.reduceMul, Nat.reduceLT, Nat.reduceBEq, Nat.reduceLeDiff, Nat.reduceEqDiff, Int.reduceToNat])) | (refine callH_intro (fun hcc => l8Keys_ok) ?_; try (simp (disch := exact eqId (by kernel_rfl)) only [go_sem, ↓reduceIte, Nat.reduceAdd, Nat.reduceMul, Nat.reduceLT, Nat.reduceBEq, Nat.reduceLeDiff, Nat.reduceEqDiff, Int.reduceToNat])) | (refine callQ_intro (l11Authorities_ok) ?_; try (simp (disch := exact eqId (by kernel_rfl)) only [go_sem, ↓reduceIte, Nat.reduceAdd, Nat.reduceMul, Nat.reduceLT, Nat.reduceBEq, Nat.reduceLeDiff, Nat.reduceEqDiff, Int.reduceToNat])) | (refine callH_intro (fun hcc => l11Authorities_ok) ?_; try (simp (disch := exact eqId (by kernel_rfl)) only [go_sem, ↓reduceIte, Nat.reduceAdd, Nat.reduceMul, Nat.reduceLT, Nat.reduceBEq, Nat.reduceLeDiff, Nat.reduceEqDiff, Int.reduceToNat])) | (refine callQ_intro (spec_DocDigests_ok _ _ (d20_small _)) ?_; try (simp (disch := exact eqId (by kernel_rfl)) only [go_sem, ↓reduceIte, Nat.reduceAdd, Nat.reduceMul, Nat.reduceLT, Nat.reduceBEq, Nat.reduceLeDiff, Nat.reduceEqDiff, Int.reduceToNat])) | (refine callH_intro (fun hcc => spec_DocDigests_ok _ _ (d20_small _)) ?_; try (simp (disch := exact eqId (by kernel_rfl)) only [go_sem, ↓reduceIte, Nat.reduceAdd, Nat.reduceMul, Nat.reduceLT, Nat.reduceBEq, Nat.reduceLeDiff, Nat.reduceEqDiff, Int.reduceToNat])))
      all_goals (try omega)
      all_goals (try rfl)
      all_goals (try (unfold dFF; simp only [*, ↓reduceIte, Bool.false_eq_true]; done))
      all_goals (try (unfold dFF; simp only [*]; rfl))
      all_goals trace_state
theorem DrawFindPiece_ok (b : List Int) (hb : b.length ≤ maxLen) : FunOK Tryz.prog 19 [⟨(.list (.int .u8)), b⟩] (.tup [.agg [.own 30 tPiece (dFP b hb).1.1, .rd (.list tRenewal) (dFP b hb).1.2.1], .rd tPiece (dFP b hb).2]) := by
  have hp1 := d20_pcs (cu0 b hb)
  have hbi : 0 ≤ (dB (dO (d20 (cu0 b hb)).2 3).2 ((d20 (cu0 b hb)).1.1.1.length : Int)).1 ∧ (dB (dO (d20 (cu0 b hb)).2 3).2 ((d20 (cu0 b hb)).1.1.1.length : Int)).1 < ((d20 (cu0 b hb)).1.1.1.length : Int) := dB_in _ (by omega)
  have hpl := (sm_pc (d20_small (cu0 b hb))).2 _ (getD_mem (l := (d20 (cu0 b hb)).1.1.1) (k := (dB (dO (d20 (cu0 b hb)).2 3).2 ((d20 (cu0 b hb)).1.1.1.length : Int)).1.toNat) (by omega) (0, [], 0, ()))
  refine fun_of (tb := tb) follows Tryz.func19 (by kernel_rfl) Tryz.ntmps19 rfl rfl rfl ?_; intro cx hN hw
  have hm : maxLen = 9223372036854775807 := rfl
  simp (disch := exact eqId (by kernel_rfl)) only [go_sem, ↓reduceIte, Nat.reduceAdd, Nat.reduceMul, Nat.reduceLT, Nat.reduceBEq, Nat.reduceLeDiff, Nat.reduceEqDiff, Int.reduceToNat]
  refine callI_intro (tb := tb) (rs := [.tmp 2]) follows Tryz.func18 (by kernel_rfl) rfl rfl Tryz.ntmps18 rfl ⟨trivial, trivial⟩ ?_
  intro cx2 hN2
  simp (disch := exact eqId (by kernel_rfl)) only [go_sem, ↓reduceIte, Nat.reduceAdd, Nat.reduceMul, Nat.reduceLT, Nat.reduceBEq, Nat.reduceLeDiff, Nat.reduceEqDiff, Int.reduceToNat]
  refine loop_introF (tb := tb.at 900000000000000) follows hN2 (D := Nat × Int) (fun d => shp [(0, .rd (.list (.int .u8)) b), (3, .rd I d.2), (4, .rd I (d.1 : Int))] [(10000, .box 27 [.nils, .nils]), (10016, .box 30 [.rd I 0, .nils, .rd I 0])]) (fun d => d.1 ≤ 4000 ∧ newH b = nwK b (4000 - d.1) d.1 d.2) (fun d => 4000 - d.1) (0, IntKind.i64.wrap (193017 + (b.length : Int))) ?_ (sub_shpF [(10000, some 10000), (10016, some 10016)] ?_) (fun d hd => ?_)
  · exact ⟨Nat.zero_le _, rfl⟩
  · simp (disch := exact eqId (by kernel_rfl)) only [go_sem, ↓reduceIte, Nat.reduceAdd, Nat.reduceMul, Nat.reduceLT, Nat.reduceBEq, Nat.reduceLeDiff, Nat.reduceEqDiff, Int.reduceToNat]
    try rfl
  · obtain ⟨k, h⟩ := d
    obtain ⟨h1, h2⟩ := hd
    simp only at h1 h2
    simp (disch := exact eqId (by kernel_rfl)) only [go_sem, ↓reduceIte, Nat.reduceAdd, Nat.reduceMul, Nat.reduceLT, Nat.reduceBEq, Nat.reduceLeDiff, Nat.reduceEqDiff, Int.reduceToNat]
    repeat' (first | (refine And.intro ?_ ?_) | intro _)
    all_goals (try omega)
    · rename_i hk
      refine back_intro (k + 1, nwG h (b.getD k 0)) ?_ ?_ (sub_shpF [(10000, some 10000), (10016, some 10016)] ?_)
      · refine ⟨by omega, ?_⟩
        simp only
        rw [h2, show 4000 - k = (4000 - (k + 1)) + 1 from by omega, nwK, if_pos (by omega)]
      · simp only; omega
      · simp (disch := exact eqId (by kernel_rfl)) only [go_sem, ↓reduceIte, Nat.reduceAdd, Nat.reduceMul, Nat.reduceLT, Nat.reduceBEq, Nat.reduceLeDiff, Nat.reduceEqDiff, Int.reduceToNat]
        first | exact ⟨rfl, wrap_i64 (by omega) (by omega)⟩ | exact wrap_i64 (by omega) (by omega) | trace_state
    · rename_i hk
      have hh : h = newH b := by
        rw [h2]
        exact (nwK_end (by omega)).symm
      subst hh
      clear h1 h2
      refine callM_intro (l20Any_o (cu0 b hb)) ⟨⟨trivial, by decide⟩, rfl, rfl⟩ ?_
      simp (disch := exact eqId (by kernel_rfl)) only [go_sem, ↓reduceIte, Nat.reduceAdd, Nat.reduceMul, Nat.reduceLT, Nat.reduceBEq, Nat.reduceLeDiff, Nat.reduceEqDiff, Int.reduceToNat]
      repeat' (first | (refine And.intro ?_ ?_) | intro _ | (refine callM_intro (dO_ok _ _) ⟨⟨trivial, by decide⟩, rfl, rfl⟩ ?_; try (simp (disch := exact eqId (by kernel_rfl)) only [go_sem, ↓reduceIte, Nat.reduceAdd, Nat.reduceMul, Nat.reduceLT, Nat.reduceBEq, Nat.reduceLeDiff, Nat.reduceEqDiff, Int.reduceToNat])) | (refine callM_intro (l18Any_ok _) ⟨⟨trivial, by decide⟩, rfl, rfl⟩ ?_; try (simp (disch := exact eqId (by kernel_rfl)) only [go_sem, ↓reduceIte, Nat.reduceAdd, Nat.reduceMul, Nat.reduceLT, Nat.reduceBEq, Nat.reduceLeDiff, Nat.reduceEqDiff, Int.reduceToNat])) | (refine callM_intro (dB_ok _ _) ⟨⟨trivial, by decide⟩, rfl, rfl⟩ ?_; try (simp (disch := exact eqId (by kernel_rfl)) only [go_sem, ↓reduceIte, Nat.reduceAdd, Nat.reduceMul, Nat.reduceLT, Nat.reduceBEq, Nat.reduceLeDiff, Nat.reduceEqDiff, Int.reduceToNat])) | (refine callQ_intro (l18Copy_ok _ hpl) ?_; try (simp (disch := exact eqId (by kernel_rfl)) only [go_sem, ↓reduceIte, Nat.reduceAdd, Nat.reduceMul, Nat.reduceLT, Nat.reduceBEq, Nat.reduceLeDiff, Nat.reduceEqDiff, Int.reduceToNat])) | (refine callH_intro (fun hcc => l18Copy_ok _ hpl) ?_; try (simp (disch := exact eqId (by kernel_rfl)) only [go_sem, ↓reduceIte, Nat.reduceAdd, Nat.reduceMul, Nat.reduceLT, Nat.reduceBEq, Nat.reduceLeDiff, Nat.reduceEqDiff, Int.reduceToNat])))
      all_goals (try omega)
      all_goals (try rfl)
      all_goals (try (unfold dFP; simp only [*, ↓reduceIte, Bool.false_eq_true]; done))
      all_goals (try (unfold dFP; simp only [*]; rfl))
      all_goals trace_state
theorem DrawAddPiece_ok (b : List Int) (hb : b.length ≤ maxLen) : FunOK Tryz.prog 5 [⟨(.list (.int .u8)), b⟩] (.tup [.agg [.own 30 tPiece (dAP b hb).1.1, .rd (.list tRenewal) (dAP b hb).1.2.1], .rd tPiece (dAP b hb).2]) := by
  refine fun_of (tb := tb) follows Tryz.func5 (by kernel_rfl) Tryz.ntmps5 rfl rfl rfl ?_; intro cx hN hw
  have hm : maxLen = 9223372036854775807 := rfl
  simp (disch := exact eqId (by kernel_rfl)) only [go_sem, ↓reduceIte, Nat.reduceAdd, Nat.reduceMul, Nat.reduceLT, Nat.reduceBEq, Nat.reduceLeDiff, Nat.reduceEqDiff, Int.reduceToNat]
  refine callI_intro (tb := tb) (rs := [.tmp 2]) follows Tryz.func18 (by kernel_rfl) rfl rfl Tryz.ntmps18 rfl ⟨trivial, trivial⟩ ?_
  intro cx2 hN2
  simp (disch := exact eqId (by kernel_rfl)) only [go_sem, ↓reduceIte, Nat.reduceAdd, Nat.reduceMul, Nat.reduceLT, Nat.reduceBEq, Nat.reduceLeDiff, Nat.reduceEqDiff, Int.reduceToNat]
  refine loop_introF (tb := tb.at 900000000000000) follows hN2 (D := Nat × Int) (fun d => shp [(0, .rd (.list (.int .u8)) b), (3, .rd I d.2), (4, .rd I (d.1 : Int))] [(10000, .box 27 [.nils, .nils]), (10016, .box 30 [.rd I 0, .nils, .rd I 0])]) (fun d => d.1 ≤ 4000 ∧ newH b = nwK b (4000 - d.1) d.1 d.2) (fun d => 4000 - d.1) (0, IntKind.i64.wrap (193017 + (b.length : Int))) ?_ (sub_shpF [(10000, some 10000), (10016, some 10016)] ?_) (fun d hd => ?_)
  · exact ⟨Nat.zero_le _, rfl⟩
  · simp (disch := exact eqId (by kernel_rfl)) only [go_sem, ↓reduceIte, Nat.reduceAdd, Nat.reduceMul, Nat.reduceLT, Nat.reduceBEq, Nat.reduceLeDiff, Nat.reduceEqDiff, Int.reduceToNat]
    try rfl
  · obtain ⟨k, h⟩ := d
    obtain ⟨h1, h2⟩ := hd
    simp only at h1 h2
    simp (disch := exact eqId (by kernel_rfl)) only [go_sem, ↓reduceIte, Nat.reduceAdd, Nat.reduceMul, Nat.reduceLT, Nat.reduceBEq, Nat.reduceLeDiff, Nat.reduceEqDiff, Int.reduceToNat]
    repeat' (first | (refine And.intro ?_ ?_) | intro _)
    all_goals (try omega)
    · rename_i hk
      refine back_intro (k + 1, nwG h (b.getD k 0)) ?_ ?_ (sub_shpF [(10000, some 10000), (10016, some 10016)] ?_)
      · refine ⟨by omega, ?_⟩
        simp only
        rw [h2, show 4000 - k = (4000 - (k + 1)) + 1 from by omega, nwK, if_pos (by omega)]
      · simp only; omega
      · simp (disch := exact eqId (by kernel_rfl)) only [go_sem, ↓reduceIte, Nat.reduceAdd, Nat.reduceMul, Nat.reduceLT, Nat.reduceBEq, Nat.reduceLeDiff, Nat.reduceEqDiff, Int.reduceToNat]
        first | exact ⟨rfl, wrap_i64 (by omega) (by omega)⟩ | exact wrap_i64 (by omega) (by omega) | trace_state
    · rename_i hk
      have hh : h = newH b := by
        rw [h2]
        exact (nwK_end (by omega)).symm
      subst hh
      clear h1 h2
      refine callQ_intro (DrawFindPiece_ok _ hb) ?_
      simp (disch := exact eqId (by kernel_rfl)) only [go_sem, ↓reduceIte, Nat.reduceAdd, Nat.reduceMul, Nat.reduceLT, Nat.reduceBEq, Nat.reduceLeDiff, Nat.reduceEqDiff, Int.reduceToNat]
      refine callM_intro (dO_ok (cu0 b hb) 8) ⟨⟨trivial, by decide⟩, rfl, rfl⟩ ?_
      simp (disch := exact eqId (by kernel_rfl)) only [go_sem, ↓reduceIte, Nat.reduceAdd, Nat.reduceMul, Nat.reduceLT, Nat.reduceBEq, Nat.reduceLeDiff, Nat.reduceEqDiff, Int.reduceToNat]
      repeat' (first | (refine And.intro ?_ ?_) | intro _ | (refine callM_intro (dO_ok _ _) ⟨⟨trivial, by decide⟩, rfl, rfl⟩ ?_; try (simp (disch := exact eqId (by kernel_rfl)) only [go_sem, ↓reduceIte, Nat.reduceAdd, Nat.reduceMul, Nat.reduceLT, Nat.reduceBEq, Nat.reduceLeDiff, Nat.reduceEqDiff, Int.reduceToNat])))
      all_goals (try omega)
      all_goals (try rfl)
      · refine loop_intro (tb := tb) follows hN (D := Nat) (fun d => shp [(2, .bp 10000 0), (3, .bp 10016 0), (5, .bp 30080 0), (6, .bp 30096 0), (7, .rd I (d : Int))] [(10000, .box 27 [.nils, .nils]), (10016, .box 30 [.rd I 0, .nils, .rd I 0]), (30016, .row 30 tPiece ((dFP b hb).1.1 ++ pcI d)), (30080, .box 27 [.own 30016, .rd (.list tRenewal) (dFP b hb).1.2.1]), (30096, .box 30 [.rd I (dFP b hb).2.1, .rd (.list I) (dFP b hb).2.2.1, .rd I (dFP b hb).2.2.2.1])]) (fun d => d ≤ 12 - (dFP b hb).1.1.length) (fun d => 12 - ((dFP b hb).1.1.length + d)) (0) ?_ (sub_shp hN [(10000, some 10000), (10016, some 10016), (30080, some 30080), (30016, some 30016), (30096, some 30096)] ?_) (fun d hd => ?_)
        · exact Nat.zero_le _
        · simp (disch := exact eqId (by kernel_rfl)) only [go_sem, ↓reduceIte, Nat.reduceAdd, Nat.reduceMul, Nat.reduceLT, Nat.reduceBEq, Nat.reduceLeDiff, Nat.reduceEqDiff, Int.reduceToNat]
          exact ⟨(List.append_nil _).symm, rfl⟩
        · have hpl := pcI_len d
          have hal : ((dFP b hb).1.1 ++ pcI d).length = (dFP b hb).1.1.length + d := by rw [List.length_append, hpl]
          simp (disch := exact eqId (by kernel_rfl)) only [go_sem, ↓reduceIte, Nat.reduceAdd, Nat.reduceMul, Nat.reduceLT, Nat.reduceBEq, Nat.reduceLeDiff, Nat.reduceEqDiff, Int.reduceToNat]
          repeat' (first | (refine And.intro ?_ ?_) | intro _)
          all_goals (try omega)
          · rename_i hlt
            refine back_intro (d + 1) ?_ ?_ (sub_shp hN [(10000, some 10000), (10016, some 10016), (30080, some 30080), (30016, some 80080), (30096, some 30096)] ?_)
            · omega
            · omega
            · simp (disch := exact eqId (by kernel_rfl)) only [go_sem, ↓reduceIte, Nat.reduceAdd, Nat.reduceMul, Nat.reduceLT, Nat.reduceBEq, Nat.reduceLeDiff, Nat.reduceEqDiff, Int.reduceToNat]
              refine ⟨?_, wrap_succ' (by omega)⟩
              rw [pcI_succ, List.append_assoc]
          all_goals (rename_i hlt)
          all_goals (have e9 : d = 12 - (dFP b hb).1.1.length := by omega)
          all_goals (subst e9)
          all_goals (rename_i h1)
          all_goals (unfold dAP)
          all_goals (simp only [h1, ↓reduceIte])
          all_goals trace_state
      all_goals (rename_i h1)
      all_goals (unfold dAP)
      all_goals (simp only [h1, Bool.false_eq_true, ↓reduceIte])
      all_goals trace_state
theorem DrawAddRenewal_ok (b : List Int) (hb : b.length ≤ maxLen) : FunOK Tryz.prog 7 [⟨(.list (.int .u8)), b⟩] (.tup [.rd tStrand (dAR b hb).1, .rd tRenewal (dAR b hb).2]) := by
  refine fun_of (tb := tb) follows Tryz.func7 (by kernel_rfl) Tryz.ntmps7 rfl rfl rfl ?_; intro cx hN hw
  have hm : maxLen = 9223372036854775807 := rfl
  simp (disch := exact eqId (by kernel_rfl)) only [go_sem, ↓reduceIte, Nat.reduceAdd, Nat.reduceMul, Nat.reduceLT, Nat.reduceBEq, Nat.reduceLeDiff, Nat.reduceEqDiff, Int.reduceToNat]
  refine callI_intro (tb := tb) (rs := [.tmp 2]) follows Tryz.func18 (by kernel_rfl) rfl rfl Tryz.ntmps18 rfl ⟨trivial, trivial⟩ ?_
  intro cx2 hN2
  simp (disch := exact eqId (by kernel_rfl)) only [go_sem, ↓reduceIte, Nat.reduceAdd, Nat.reduceMul, Nat.reduceLT, Nat.reduceBEq, Nat.reduceLeDiff, Nat.reduceEqDiff, Int.reduceToNat]
  refine loop_introF (tb := tb.at 900000000000000) follows hN2 (D := Nat × Int) (fun d => shp [(0, .rd (.list (.int .u8)) b), (3, .rd I d.2), (4, .rd I (d.1 : Int))] [(10000, .box 27 [.nils, .nils]), (10016, .box 38 [.rd I 0, .rd I 0, .rd I 0, .nils, .nils])]) (fun d => d.1 ≤ 4000 ∧ newH b = nwK b (4000 - d.1) d.1 d.2) (fun d => 4000 - d.1) (0, IntKind.i64.wrap (193017 + (b.length : Int))) ?_ (sub_shpF [(10000, some 10000), (10016, some 10016)] ?_) (fun d hd => ?_)
  · exact ⟨Nat.zero_le _, rfl⟩
  · simp (disch := exact eqId (by kernel_rfl)) only [go_sem, ↓reduceIte, Nat.reduceAdd, Nat.reduceMul, Nat.reduceLT, Nat.reduceBEq, Nat.reduceLeDiff, Nat.reduceEqDiff, Int.reduceToNat]
    try rfl
  · obtain ⟨k, h⟩ := d
    obtain ⟨h1, h2⟩ := hd
    simp only at h1 h2
    simp (disch := exact eqId (by kernel_rfl)) only [go_sem, ↓reduceIte, Nat.reduceAdd, Nat.reduceMul, Nat.reduceLT, Nat.reduceBEq, Nat.reduceLeDiff, Nat.reduceEqDiff, Int.reduceToNat]
    repeat' (first | (refine And.intro ?_ ?_) | intro _)
    all_goals (try omega)
    · rename_i hk
      refine back_intro (k + 1, nwG h (b.getD k 0)) ?_ ?_ (sub_shpF [(10000, some 10000), (10016, some 10016)] ?_)
      · refine ⟨by omega, ?_⟩
        simp only
        rw [h2, show 4000 - k = (4000 - (k + 1)) + 1 from by omega, nwK, if_pos (by omega)]
      · simp only; omega
      · simp (disch := exact eqId (by kernel_rfl)) only [go_sem, ↓reduceIte, Nat.reduceAdd, Nat.reduceMul, Nat.reduceLT, Nat.reduceBEq, Nat.reduceLeDiff, Nat.reduceEqDiff, Int.reduceToNat]
        first | exact ⟨rfl, wrap_i64 (by omega) (by omega)⟩ | exact wrap_i64 (by omega) (by omega) | trace_state
    · rename_i hk
      have hh : h = newH b := by
        rw [h2]
        exact (nwK_end (by omega)).symm
      subst hh
      clear h1 h2
      refine callM_intro (l20Any_o (cu0 b hb)) ⟨⟨trivial, by decide⟩, rfl, rfl⟩ ?_
      simp (disch := exact eqId (by kernel_rfl)) only [go_sem, ↓reduceIte, Nat.reduceAdd, Nat.reduceMul, Nat.reduceLT, Nat.reduceBEq, Nat.reduceLeDiff, Nat.reduceEqDiff, Int.reduceToNat]
      repeat' (first | (refine And.intro ?_ ?_) | intro _ | (refine callM_intro (dO_ok _ _) ⟨⟨trivial, by decide⟩, rfl, rfl⟩ ?_; try (simp (disch := exact eqId (by kernel_rfl)) only [go_sem, ↓reduceIte, Nat.reduceAdd, Nat.reduceMul, Nat.reduceLT, Nat.reduceBEq, Nat.reduceLeDiff, Nat.reduceEqDiff, Int.reduceToNat])) | (refine callM_intro (dB_ok _ _) ⟨⟨trivial, by decide⟩, rfl, rfl⟩ ?_; try (simp (disch := exact eqId (by kernel_rfl)) only [go_sem, ↓reduceIte, Nat.reduceAdd, Nat.reduceMul, Nat.reduceLT, Nat.reduceBEq, Nat.reduceLeDiff, Nat.reduceEqDiff, Int.reduceToNat])) | (refine callM_intro (l19Draw_ok _ _ _ _) ⟨⟨trivial, by decide⟩, rfl, rfl⟩ ?_; try (simp (disch := exact eqId (by kernel_rfl)) only [go_sem, ↓reduceIte, Nat.reduceAdd, Nat.reduceMul, Nat.reduceLT, Nat.reduceBEq, Nat.reduceLeDiff, Nat.reduceEqDiff, Int.reduceToNat])))
      all_goals (try omega)
      all_goals (try rfl)
      · refine loop_intro (tb := tb) follows hN (D := Nat) (fun d => shp [(2, .bp 10000 0), (3, .bp 10016 0), (4, .bp 20016070048 0), (5, .bp 30096 0)] [(10000, .box 27 [.nils, .nils]), (10016, .box 38 [.rd I 0, .rd I 0, .rd I 0, .nils, .nils]), (30016, .row 30 tPiece (d20 (cu0 b hb)).1.1.1), (30017, .tl 38 tRenewal ((d20 (cu0 b hb)).1.1.2.1 ++ List.replicate d (((d20 (cu0 b hb)).1.1.1.length : Int), 0, 0, [], [], ()))), (30096, .box 27 [.own 30016, .own 30017]), (20016070048, .box 82 [.rd (.list (.int .u8)) ((dO (d20 (cu0 b hb)).2 8).2).b, .rd I ((dO (d20 (cu0 b hb)).2 8).2).i, .rd I ((dO (d20 (cu0 b hb)).2 8).2).h])]) (fun d => d ≤ 8 - (d20 (cu0 b hb)).1.1.2.1.length) (fun d => 8 - ((d20 (cu0 b hb)).1.1.2.1.length + d)) (0) ?_ (sub_shp hN [(10000, some 10000), (10016, some 10016), (30096, some 30096), (30016, some 30016), (30017, some 30017), (20016070048, some 20016070048)] ?_) (fun d hd => ?_)
        · exact Nat.zero_le _
        · simp (disch := exact eqId (by kernel_rfl)) only [go_sem, ↓reduceIte, Nat.reduceAdd, Nat.reduceMul, Nat.reduceLT, Nat.reduceBEq, Nat.reduceLeDiff, Nat.reduceEqDiff, Int.reduceToNat]
          all_goals (try exact (List.append_nil _).symm)
          all_goals trace_state
        · have hal : ((d20 (cu0 b hb)).1.1.2.1 ++ List.replicate d (((d20 (cu0 b hb)).1.1.1.length : Int), 0, 0, [], [], ())).length = (d20 (cu0 b hb)).1.1.2.1.length + d := by rw [List.length_append, List.length_replicate]
          simp (disch := exact eqId (by kernel_rfl)) only [go_sem, ↓reduceIte, Nat.reduceAdd, Nat.reduceMul, Nat.reduceLT, Nat.reduceBEq, Nat.reduceLeDiff, Nat.reduceEqDiff, Int.reduceToNat]
          repeat' (first | (refine And.intro ?_ ?_) | intro _)
          all_goals (try omega)
          · rename_i hlt
            refine back_intro (d + 1) ?_ ?_ (sub_shp hN [(10000, some 10000), (10016, some 10016), (30096, some 30096), (30016, some 30016), (30017, some 60112), (20016070048, some 20016070048)] ?_)
            · omega
            · omega
            · simp (disch := exact eqId (by kernel_rfl)) only [go_sem, ↓reduceIte, Nat.reduceAdd, Nat.reduceMul, Nat.reduceLT, Nat.reduceBEq, Nat.reduceLeDiff, Nat.reduceEqDiff, Int.reduceToNat]
              all_goals (try (rw [List.append_assoc, ← List.replicate_succ']; done))
              all_goals trace_state
          · rename_i hlt
            have e9 : d = 8 - (d20 (cu0 b hb)).1.1.2.1.length := by omega
            subst e9
            rename_i h1
            repeat' (first | (refine And.intro ?_ ?_) | intro _ | (refine callM_intro (dO_ok _ _) ⟨⟨trivial, by decide⟩, rfl, rfl⟩ ?_; try (simp (disch := exact eqId (by kernel_rfl)) only [go_sem, ↓reduceIte, Nat.reduceAdd, Nat.reduceMul, Nat.reduceLT, Nat.reduceBEq, Nat.reduceLeDiff, Nat.reduceEqDiff, Int.reduceToNat])) | (refine callM_intro (dB_ok _ _) ⟨⟨trivial, by decide⟩, rfl, rfl⟩ ?_; try (simp (disch := exact eqId (by kernel_rfl)) only [go_sem, ↓reduceIte, Nat.reduceAdd, Nat.reduceMul, Nat.reduceLT, Nat.reduceBEq, Nat.reduceLeDiff, Nat.reduceEqDiff, Int.reduceToNat])) | (refine callM_intro (l19Draw_ok _ _ _ _) ⟨⟨trivial, by decide⟩, rfl, rfl⟩ ?_; try (simp (disch := exact eqId (by kernel_rfl)) only [go_sem, ↓reduceIte, Nat.reduceAdd, Nat.reduceMul, Nat.reduceLT, Nat.reduceBEq, Nat.reduceLeDiff, Nat.reduceEqDiff, Int.reduceToNat])))
            all_goals (try omega)
            all_goals (unfold dAR)
            all_goals (simp only [h1, ↓reduceIte])
            all_goals trace_state
      all_goals (rename_i h1)
      all_goals (unfold dAR)
      all_goals (simp only [h1, Bool.false_eq_true, ↓reduceIte])
      all_goals trace_state
end Go.Proofs.YtblnngjdoifgkaaGreat
/- What the functions of agreed spans, of renewals' spans and breaks and of links answer, on both sides. It proves nothing of a statement by itself. -/
set_option linter.unusedSimpArgs false
set_option linter.unusedVariables false
set_option maxRecDepth 100000
namespace Go.Proofs.YtblnngjdoifgkaaGreat
open Go.AL
theorem cntF_cons (x : tSpan.den) (xs : List tSpan.den) (t : Int) : cntF (x :: xs) t = cntF xs t + if inS t x = true then 1 else 0 := by
  unfold cntF
  rw [List.countP_cons]
theorem inS_iff {t : Int} {x : tSpan.den} : (inS t x = true) = (spB x = true ∧ (x.1 : Int) ≤ t ∧ t ≤ (x.2.1 : Int)) := by
  simp [inS]
theorem agI_no {sup : Int → Bool} {n : Nat} (h : sup (n : Int) = false) : agI sup (n + 1) = agI sup n := by rw [agI, if_neg (by rw [h]; decide)]
theorem agI_new {sup : Int → Bool} {n : Nat} (h : sup (n : Int) = true) (hb : (agI sup n).2 = false) : agI sup (n + 1) = (((n : Int), (n : Int), ()), true) := by rw [agI, if_pos h, if_neg (by rw [hb]; decide)]
theorem agI_old {sup : Int → Bool} {n : Nat} (h : sup (n : Int) = true) (hb : (agI sup n).2 = true) : agI sup (n + 1) = (((agI sup n).1.1, (n : Int), ()), true) := by rw [agI, if_pos h, if_pos hb]
def sspL (l : List tAuthority.den) (ss : List tStamp.den) : List tSpan.den := ss.map (fun s => (sspF l s).1)
def agoF (l : List tAuthority.den) (ss : List tStamp.den) (n : Int) : tSpan.den × Bool := if ss.all (fun s => (sspF l s).2) = true then agF (sspL l ss) n else ((0, 0, ()), false)
theorem sspL_take (l : List tAuthority.den) {ss : List tStamp.den} {k : Nat} (hk : k < ss.length) : sspL l (ss.take (k + 1)) = sspL l (ss.take k) ++ [(sspF l (ss.getD k (0, 0, 0, 0, 0, ()))).1] := by
  unfold sspL
  exact map_take_succ _ hk _
theorem sspL_len (l : List tAuthority.den) (ss : List tStamp.den) : (sspL l ss).length = ss.length := by simp [sspL]
noncomputable def rbF (ks : List tKey.den) (l : List tAuthority.den) (ms : List tMethod.den) : Int → List tStamp.den → Int
  | a, [] => a
  | a, s :: ss => if finF (fun x : tKey.den => x.1) (skyF l s) ks 0 < 0 then 0 else rbF ks l ms (mnF a (brkF ms (ks.getD (finF (fun x : tKey.den => x.1) (skyF l s) ks 0).toNat (0, 0, 0, 0, 0, ())).2.2.1)) ss
theorem small_ren {s : tStrand.den} (hs : Small tStrand 1048576 s) {k : Nat} (hk : k < List.length s.2.1) : List.length (List.getD s.2.1 k (0, 0, 0, [], [], ())).2.2.2.2.1 ≤ 1048576 := (hs.2.1.2 _ (getD_mem hk _)).2.2.2.2.1.1
noncomputable def linkF (f : tFrame.den) (s : tStrand.den) (k : Int) : Bool :=
  if 0 ≤ k ∧ k ≤ (List.length s.2.1 : Int) - 1 then
    (if k = (List.length s.2.1 : Int) - 1 then decide ((f.2.2.2.2.1 : Int) < rbF f.1 f.2.1 f.2.2.1 (brkF f.2.2.1 (List.getD s.2.1 k.toNat (0, 0, 0, [], [], ())).2.1) (List.getD s.2.1 k.toNat (0, 0, 0, [], [], ())).2.2.2.2.1)
    else (agoF f.2.1 (List.getD s.2.1 (k + 1).toNat (0, 0, 0, [], [], ())).2.2.2.2.1 f.2.2.2.1).2 && decide ((agoF f.2.1 (List.getD s.2.1 (k + 1).toNat (0, 0, 0, [], [], ())).2.2.2.2.1 f.2.2.2.1).1.2.1 < rbF f.1 f.2.1 f.2.2.1 (brkF f.2.2.1 (List.getD s.2.1 k.toNat (0, 0, 0, [], [], ())).2.1) (List.getD s.2.1 k.toNat (0, 0, 0, [], [], ())).2.2.2.2.1))
  else false
noncomputable def ffF (ks : List tKey.den) (l : List tAuthority.den) (s : tStrand.den) (docs : List Int) : Nat → List tRenewal.den → Int
  | k, [] => k
  | k, r :: rs => if crF ks l r (laF s docs k) = true then ffF ks l s docs (k + 1) rs else k
theorem impl_FirstFault_ok (ks : List tKey.den) (l : List tAuthority.den) (s : tStrand.den) (docs : List Int) (hs : Small tStrand 1048576 s) : FunOK Tryz.prog 15 [⟨(.list tKey), ks⟩, ⟨(.list tAuthority), l⟩, ⟨tStrand, s⟩, ⟨(.list I), docs⟩] (.rd I (ffF ks l s docs 0 s.2.1)) := by
  refine fun_of (tb := tb) follows Tryz.func15 (by kernel_rfl) Tryz.ntmps15 rfl rfl rfl ?_; intro cx hN hw
  simp (disch := exact eqId (by kernel_rfl)) only [go_sem, ↓reduceIte, Nat.reduceAdd, Nat.reduceMul, Nat.reduceLT, Nat.reduceBEq, Nat.reduceLeDiff, Nat.reduceEqDiff, Int.reduceToNat]
  refine loop_intro (tb := tb) follows hN (D := Nat) (fun d => shp [(0, .rd (.list tKey) (ks)), (1, .rd (.list tAuthority) (l)), (3, .rd (.list I) (docs)), (6, .bp 10000 0), (12, .rd (.list tRenewal) (s.2.1)), (13, .rd I (((s.2.1).length : Int) : Int)), (14, .rd I (d : Int))] [(10000, .box 27 [.rd (.list tPiece) (s.1), .rd (.list tRenewal) (s.2.1)])]) (fun d => d ≤ List.length s.2.1 ∧ ffF ks l s docs 0 s.2.1 = ffF ks l s docs d (List.drop d s.2.1)) (fun d => List.length s.2.1 - d) (0) ?_ (sub_shp hN [(10000, some 10000)] ?_) (fun d hd => ?_)
  · exact ⟨Nat.zero_le _, rfl⟩
  · simp (disch := exact eqId (by kernel_rfl)) only [go_sem, ↓reduceIte, Nat.reduceAdd, Nat.reduceMul, Nat.reduceLT, Nat.reduceBEq, Nat.reduceLeDiff, Nat.reduceEqDiff, Int.reduceToNat]
    try rfl
  · obtain ⟨h1, h2⟩ := hd
    simp (disch := exact eqId (by kernel_rfl)) only [go_sem, ↓reduceIte, Nat.reduceAdd, Nat.reduceMul, Nat.reduceLT, Nat.reduceBEq, Nat.reduceLeDiff, Nat.reduceEqDiff, Int.reduceToNat]
    repeat' (first | (refine And.intro ?_ ?_) | intro _ | (refine callQ_intro (impl_LeafAt_ok _ _ _ hs) ?_; try (simp (disch := exact eqId (by kernel_rfl)) only [go_sem, ↓reduceIte, Nat.reduceAdd, Nat.reduceMul, Nat.reduceLT, Nat.reduceBEq, Nat.reduceLeDiff, Nat.reduceEqDiff, Int.reduceToNat])) | (refine callH_intro (fun hcc => impl_LeafAt_ok _ _ _ hs) ?_; try (simp (disch := exact eqId (by kernel_rfl)) only [go_sem, ↓reduceIte, Nat.reduceAdd, Nat.reduceMul, Nat.reduceLT, Nat.reduceBEq, Nat.reduceLeDiff, Nat.reduceEqDiff, Int.reduceToNat])) | (refine callQ_intro (impl_CheckRenewal_ok _ _ _ _) ?_; try (simp (disch := exact eqId (by kernel_rfl)) only [go_sem, ↓reduceIte, Nat.reduceAdd, Nat.reduceMul, Nat.reduceLT, Nat.reduceBEq, Nat.reduceLeDiff, Nat.reduceEqDiff, Int.reduceToNat])) | (refine callH_intro (fun hcc => impl_CheckRenewal_ok _ _ _ _) ?_; try (simp (disch := exact eqId (by kernel_rfl)) only [go_sem, ↓reduceIte, Nat.reduceAdd, Nat.reduceMul, Nat.reduceLT, Nat.reduceBEq, Nat.reduceLeDiff, Nat.reduceEqDiff, Int.reduceToNat])))
    all_goals (try omega)
    · rename_i hk hc
      rw [h2, drop_getD (show d < List.length s.2.1 by omega) (0, 0, 0, [], [], ()), ffF, if_neg (by rw [show crF ks l (List.getD s.2.1 d (0, 0, 0, [], [], ())) (laF s docs d) = false from hc]; decide)]
    · rename_i hk hc
      have hk : d < List.length s.2.1 := by omega
      refine back_intro (d + 1) ?_ ?_ (sub_shp hN [(10000, some 10000)] ?_)
      · refine ⟨hk, ?_⟩
        rw [h2, drop_getD hk (0, 0, 0, [], [], ()), ffF, if_pos (by exact hc)]
      · omega
      · simp (disch := exact eqId (by kernel_rfl)) only [go_sem, ↓reduceIte, Nat.reduceAdd, Nat.reduceMul, Nat.reduceLT, Nat.reduceBEq, Nat.reduceLeDiff, Nat.reduceEqDiff, Int.reduceToNat]
        exact wrap_succ hk hw.2.2.1.2.1.1
    · rename_i hk
      have hd9 : List.length s.2.1 = d := by omega
      rw [h2, drop_end (show List.length s.2.1 ≤ d by omega), ffF, hd9]
end Go.Proofs.YtblnngjdoifgkaaGreat
/- The law of strands: by its draws and by plain maths. It proves nothing of a statement by itself. -/
set_option linter.unusedSimpArgs false
set_option linter.unusedVariables false
set_option maxRecDepth 100000
namespace Go.Proofs.YtblnngjdoifgkaaGreat
open Go.AL
theorem big_ok (b : List Int) : FunOK Tryz.prog 4 [⟨(.list (.int .u8)), b⟩] (.rd .bool (decide ((b.length : Int) > 1048576))) := by
  refine fun_of (tb := tb) follows Tryz.func4 (by kernel_rfl) Tryz.ntmps4 rfl rfl rfl ?_; intro cx hN hw
  simp (disch := exact eqId (by kernel_rfl)) only [go_sem, ↓reduceIte, Nat.reduceAdd, Nat.reduceMul, Nat.reduceLT, Nat.reduceBEq, Nat.reduceLeDiff, Nat.reduceEqDiff, Int.reduceToNat]
theorem fpi_new (p : tPiece.den) : ∀ (l : List tPiece.den) (i : Int), hpF p l = false → fpiF p (l ++ [p]) i = i + l.length
  | [], i, _ => by
    show (bif eqC p p then i else _) = _
    rw [eqC_self]
    show i = i + 0
    omega
  | x :: xs, i, h => by
    unfold hpF at h
    rw [Bool.or_eq_false_iff] at h
    show (bif eqC x p then i else fpiF p (xs ++ [p]) (i + 1)) = _
    rw [h.1, fpi_new p xs (i + 1) h.2, List.length_cons]
    show i + 1 + _ = _
    omega
theorem nd_last {l : List tPiece.den} {p : tPiece.den} (h : ndB (l ++ [p]) = true) : hpF p l = false := by
  have h9 := List.all_eq_true.1 h l.length (List.mem_range.2 (by rw [List.length_append]; exact Nat.lt_succ_self _))
  have e1 : (l ++ [p]).getD l.length (0, [], 0, ()) = p := by
    rw [List.getD_eq_getElem?_getD, List.getElem?_append_right (Nat.le_refl _), Nat.sub_self]
    rfl
  have e2 : (l ++ [p]).take l.length = l := List.take_left
  rw [e1, e2] at h9
  simpa using h9
theorem chG_mem {n : Int} : ∀ {l : List tRenewal.den} {pr : Option Int}, chG n pr l = true → ∀ r, r ∈ l → 1 ≤ (r.1 : Int) ∧ (r.1 : Int) ≤ n
  | [], _, _, r, hr => absurd hr List.not_mem_nil
  | x :: xs, pr, h, r, hr => by
    rw [chG_cons, Bool.and_eq_true, Bool.and_eq_true, inB_t] at h
    rcases List.mem_cons.1 hr with rfl | hr
    · exact h.1
    · exact chG_mem h.2.2 r hr
theorem la_same {s : tStrand.den} {p : tPiece.den} {docs : List Int} (h : strB s = true) (k : Int) : laF (s.1 ++ [p], s.2.1, ()) docs k = laF s docs k := by
  obtain ⟨_, _, _, h4⟩ := str_p h
  unfold laF
  simp only
  by_cases hk : 0 ≤ k ∧ k < (List.length s.2.1 : Int)
  · have hm := chG_mem h4 _ (getD_mem (l := s.2.1) (k := k.toNat) (by omega) (0, 0, 0, [], [], ()))
    have hn : ((List.getD s.2.1 k.toNat (0, 0, 0, [], [], ())).1 : Int).toNat ≤ s.1.length := Int.toNat_le.2 hm.2
    rw [List.take_append_of_le_length hn]
    by_cases hd : (docs.length : Int) = (List.length s.2.1 : Int)
    · refine Eq.trans (if_pos ⟨hk, hd, Int.le_trans (by decide) hm.1, Int.le_trans hm.2 (by rw [List.length_append]; exact Int.ofNat_le.2 (Nat.le_succ _))⟩) (Eq.symm (if_pos ⟨hk, hd, Int.le_trans (by decide) hm.1, hm.2⟩))
    · exact Eq.trans (if_neg (fun h => hd h.2.1)) (Eq.symm (if_neg (fun h => hd h.2.1)))
  · exact Eq.trans (if_neg (fun h => hk h.1)) (Eq.symm (if_neg (fun h => hk h.1)))
theorem ff_same {ks : List tKey.den} {l : List tAuthority.den} {s w : tStrand.den} {docs : List Int} (h : ∀ k, laF w docs k = laF s docs k) : ∀ (rs : List tRenewal.den) (k : Nat), ffF ks l w docs k rs = ffF ks l s docs k rs
  | [], k => rfl
  | r :: rs, k => by
    unfold ffF
    rw [h, ff_same h rs (k + 1)]
theorem ff_le {ks : List tKey.den} {l : List tAuthority.den} {s : tStrand.den} {docs : List Int} : ∀ (rs : List tRenewal.den) (k : Nat), (k : Int) ≤ ffF ks l s docs k rs ∧ (ffF ks l s docs k rs : Int) ≤ (k : Int) + (rs.length : Int)
  | [], k => by
    unfold ffF
    exact ⟨Int.le_refl _, by show (k : Int) ≤ k + 0; omega⟩
  | r :: rs, k => by
    unfold ffF
    split
    · have := ff_le (ks := ks) (l := l) (s := s) (docs := docs) rs (k + 1)
      rw [List.length_cons]
      omega
    · exact ⟨Int.le_refl _, by rw [List.length_cons]; omega⟩
theorem apS_small {s : tStrand.den} {p : tPiece.den} (hs : Small tStrand 1048576 s) (hp : p.2.1.length ≤ 1048576) : Small tStrand 1048576 (apF s p).1 := by
  cases h : strB (s.1 ++ [p], s.2.1, ()) with
  | false => rw [apF_y h]; exact hs
  | true =>
    rw [apF_n h]
    obtain ⟨h1, _, _, _⟩ := str_p h
    refine ⟨⟨Nat.le_trans h1.2 (by decide), fun q hq => ?_⟩, hs.2⟩
    rcases List.mem_append.1 hq with hq | hq
    · exact hs.1.2 q hq
    · simp only [List.mem_singleton] at hq
      subst hq
      exact ⟨trivial, ⟨hp, fun _ _ => trivial⟩, trivial, trivial⟩
theorem apL {s : tStrand.den} {p : tPiece.den} (h : (apF s p).2 = true) : strB (apF s p).1 = true ∧ fpiF p (apF s p).1.1 0 = (s.1.length : Int) ∧ (apF s p).1 = (s.1 ++ [p], s.2.1, ()) := by
  cases h9 : strB (s.1 ++ [p], s.2.1, ()) with
  | false => rw [apF_y h9] at h; cases h
  | true =>
    rw [apF_n h9]
    refine ⟨h9, ?_, rfl⟩
    rw [fpi_new p _ _ (nd_last (str_p h9).2.2.1)]
    exact Int.zero_add _
theorem apL2 {s : tStrand.den} {p : tPiece.den} (h : (apF s p).2 = false) : (apF s p).1 = s := by
  cases h9 : strB (s.1 ++ [p], s.2.1, ()) with
  | false => rw [apF_y h9]
  | true => rw [apF_n h9] at h; cases h
theorem arL {s : tStrand.den} {r : tRenewal.den} (h : (arF s r).2 = true) : strB (arF s r).1 = true ∧ (arF s r).1.2.1.length = s.2.1.length + 1 := by
  cases h9 : strB (s.1, s.2.1 ++ [r], ()) with
  | false => rw [arF_y h9] at h; cases h
  | true =>
    rw [arF_n h9]
    exact ⟨h9, by simp only; rw [List.length_append]; rfl⟩
theorem d19_len9 (s : Cu) (leaf ct tm : Int) : (d19 s leaf ct tm).1.2.2.2.1.length ≤ 1000 ∧ (d19 s leaf ct tm).1.2.2.2.2.1.length ≤ 4 := by
  refine ⟨path_len _ _ _, Nat.le_trans (mkT_all _ _ _ _ _ _) ?_⟩
  rw [List.length_take]
  exact Nat.min_le_right _ _
theorem dFP_s (b : List Int) (hb : b.length ≤ maxLen) : Small tStrand 1048576 (dFP b hb).1 ∧ (dFP b hb).2.2.1.length ≤ 1048576 := by
  have hs := d20_small (cu0 b hb)
  have hp1 := d20_pcs (cu0 b hb)
  have hbi : 0 ≤ (dB (dO (d20 (cu0 b hb)).2 3).2 ((d20 (cu0 b hb)).1.1.1.length : Int)).1 ∧ (dB (dO (d20 (cu0 b hb)).2 3).2 ((d20 (cu0 b hb)).1.1.1.length : Int)).1 < ((d20 (cu0 b hb)).1.1.1.length : Int) := dB_in _ (by omega)
  have hpl := (sm_pc hs).2 _ (getD_mem (l := (d20 (cu0 b hb)).1.1.1) (k := (dB (dO (d20 (cu0 b hb)).2 3).2 ((d20 (cu0 b hb)).1.1.1.length : Int)).1.toNat) (by omega) (0, [], 0, ()))
  unfold dFP
  simp only
  split
  · exact ⟨hs, Nat.le_trans (d18_len _).2 (by decide)⟩
  · exact ⟨hs, hpl⟩
theorem dAP_s (b : List Int) (hb : b.length ≤ maxLen) : Small tStrand 1048576 (dAP b hb).1 ∧ (dAP b hb).2.2.1.length ≤ 1048576 := by
  obtain ⟨hs, hp⟩ := dFP_s b hb
  have h1 := (sm_pc hs).1
  unfold dAP
  simp only
  split
  · refine ⟨⟨⟨?_, fun q hq => ?_⟩, hs.2⟩, hp⟩
    · rw [List.length_append, pcI_len]
      omega
    · rcases List.mem_append.1 hq with hq | hq
      · exact hs.1.2 q hq
      · unfold pcI at hq
        obtain ⟨i, _, rfl⟩ := List.mem_map.1 hq
        exact ⟨trivial, ⟨Nat.zero_le _, fun _ _ => trivial⟩, trivial, trivial⟩
  · exact ⟨hs, hp⟩
theorem dAR_s (b : List Int) (hb : b.length ≤ maxLen) : Small tStrand 1048576 (dAR b hb).1 ∧ (dAR b hb).2.2.2.2.1.length ≤ 1048576 ∧ (dAR b hb).2.2.2.2.2.1.length ≤ 1048576 := by
  have hs := d20_small (cu0 b hb)
  have h1 := (sm_ch hs).1
  refine ⟨?_, ?_⟩
  · unfold dAR
    simp only
    split
    · refine ⟨hs.1, ⟨?_, fun q hq => ?_⟩, trivial⟩
      · rw [List.length_append, List.length_replicate]
        omega
      · rcases List.mem_append.1 hq with hq | hq
        · exact hs.2.1.2 q hq
        · obtain ⟨_, rfl⟩ := List.mem_replicate.1 hq
          exact ⟨trivial, trivial, trivial, ⟨Nat.zero_le _, fun _ h => absurd h List.not_mem_nil⟩, ⟨Nat.zero_le _, fun _ h => absurd h List.not_mem_nil⟩, trivial⟩
    · exact hs
  · have h := d19_len9 (dB (dO (d20 (cu0 b hb)).2 8).2 5).2 7 (dB (dO (d20 (cu0 b hb)).2 8).2 5).1 9
    exact ⟨Nat.le_trans h.1 (by decide), Nat.le_trans h.2 (by decide)⟩
theorem law_FnStrands_ok (b : List Int) : FunOK Tryz.prog 3 [⟨(.list (.int .u8)), b⟩] (.rd .bool true) := by
  rcases Nat.lt_or_ge maxLen b.length with hb | hb
  · refine fun_of (tb := tb) follows Tryz.func3 (by kernel_rfl) Tryz.ntmps3 rfl rfl rfl ?_; intro cx hN hw
    exact absurd hw.1.1 (Nat.not_le.2 hb)
  have h1 := DrawAddPiece_ok b hb
  have h2 := DrawAddRenewal_ok b hb
  have h3 := DrawDocDigests_ok b hb
  have h4 := DrawFirstFault_ok b hb
  have q1 := dAP_s b hb
  have q2 := dAR_s b hb
  have q3 : Small tStrand 1048576 (dDD b hb).1 := d20_small _
  have q4 : Small tStrand 1048576 (dFF b hb).1 := d20_small _
  generalize dAP b hb = x1 at h1 q1
  generalize dAR b hb = x2 at h2 q2
  generalize dDD b hb = x3 at h3 q3
  generalize dFF b hb = x4 at h4 q4
  obtain ⟨⟨s1, s2, _⟩, ⟨p1, p2, p3, _⟩⟩ := x1
  obtain ⟨⟨t1, t2, _⟩, ⟨r1, r2, r3, r4, r5, _⟩⟩ := x2
  obtain ⟨⟨u1, u2, _⟩, ⟨e1, e2, e3, _⟩⟩ := x3
  obtain ⟨⟨v1, v2, _⟩, dg⟩ := x4
  obtain ⟨qs, qp⟩ := q1
  obtain ⟨qt, qr1, qr2⟩ := q2
  have qs : Small tStrand 1048576 (s1, s2, ()) := qs
  have qt : Small tStrand 1048576 (t1, t2, ()) := qt
  have qu : Small tStrand 1048576 (u1, u2, ()) := q3
  have qv : Small tStrand 1048576 (v1, v2, ()) := q4
  have qw := apS_small (p := (p1, p2, p3, ())) qv qp
  have ht2 : t2.length ≤ 1048576 := (sm_ch qt).1
  have a1 := fun h => apL (s := (s1, s2, ())) (p := (p1, p2, p3, ())) h
  have a2 := fun h => apL2 (s := (s1, s2, ())) (p := (p1, p2, p3, ())) h
  have a3 := fun h => arL (s := (t1, t2, ())) (r := (r1, r2, r3, r4, r5, ())) h
  have a4 := fun h => apL (s := (v1, v2, ())) (p := (p1, p2, p3, ())) h
  have a5 := ff_le (ks := K8) (l := A4) (s := (v1, v2, ())) (docs := dg) v2 0
  have a6 : (dsF (u1, u2, ()) (e1, e2, e3, ())).length = u2.length := List.length_map _
  have c1 := impl_AddPiece_ok _ _ qs qp
  have c2 := impl_AddPiece_ok _ _ qv qp
  have c3 := impl_AddRenewal_ok _ _ qt qr1 qr2
  have c1 : FunOK Tryz.prog 6 [⟨tStrand, (s1, s2, ())⟩, ⟨tPiece, (p1, p2, p3, ())⟩] _ := c1
  have c2 : FunOK Tryz.prog 6 [⟨tStrand, (v1, v2, ())⟩, ⟨tPiece, (p1, p2, p3, ())⟩] _ := c2
  have c3 : FunOK Tryz.prog 8 [⟨tStrand, (t1, t2, ())⟩, ⟨tRenewal, (r1, r2, r3, r4, r5, ())⟩] _ := c3
  have b1 : ∀ h : strB (v1, v2, ()) = true, ∀ k, laF (v1 ++ [(p1, p2, p3, ())], v2, ()) dg k = laF (v1, v2, ()) dg k := fun h k => la_same (s := (v1, v2, ())) h k
  generalize apF (s1, s2, ()) (p1, p2, p3, ()) = A at c1 a1 a2
  generalize apF (v1, v2, ()) (p1, p2, p3, ()) = B at c2 a4 qw
  generalize arF (t1, t2, ()) (r1, r2, r3, r4, r5, ()) = C at c3 a3
  obtain ⟨⟨A1, A2, _⟩, A3⟩ := A
  obtain ⟨⟨B1, B2, _⟩, B3⟩ := B
  obtain ⟨⟨C1, C2, _⟩, C3⟩ := C
  have qw : Small tStrand 1048576 (B1, B2, ()) := qw
  simp only at h1 h2 h3 h4 c1 c2 c3 a1 a2 a3 a4
  clear qs qt q3 q4
  have f1 : A3 = false ∨ strB (A1, A2, ()) = true ∧ fpiF (p1, p2, p3, ()) A1 0 = (s1.length : Int) := by
    cases A3 with
    | false => exact .inl rfl
    | true => exact .inr ⟨(a1 rfl).1, (a1 rfl).2.1⟩
  have f2 : A3 = true ∨ (A1, A2, ()) = (s1, s2, ()) := by
    cases A3 with
    | false => exact .inr (a2 rfl)
    | true => exact .inl rfl
  have f3 : C3 = true → strB (C1, C2, ()) = true ∧ C2.length = t2.length + 1 := a3
  clear a1 a2 a3
  have f4 : B3 = true → (B1, B2, ()) = (v1 ++ [(p1, p2, p3, ())], v2, ()) := fun h => (a4 h).2.2
  have f5 : B3 = true → strB (v1, v2, ()) = true → ∀ k, laF (B1, B2, ()) dg k = laF (v1, v2, ()) dg k := fun h h9 k => by
    rw [f4 h]
    exact b1 h9 k
  have f6 : B3 = true → strB (v1, v2, ()) = true → ffF K8 A4 (B1, B2, ()) dg 0 B2 = ffF K8 A4 (v1, v2, ()) dg 0 v2 := fun h h9 => by
    have e2 : B2 = v2 := congrArg (fun x : tStrand.den => x.2.1) (f4 h)
    rw [ff_same (f5 h h9), e2]
  clear a4 b1
  have hwl : IntKind.i64.wrap ((t2.length : Int) + 1) = (t2.length : Int) + 1 := wrap_i64 (by omega) (by omega)
  refine fun_of (tb := tb) follows Tryz.func3 (by kernel_rfl) Tryz.ntmps3 rfl rfl rfl ?_; intro cx hN hw
  simp (disch := exact eqId (by kernel_rfl)) only [go_sem, ↓reduceIte, Nat.reduceAdd, Nat.reduceMul, Nat.reduceLT, Nat.reduceBEq, Nat.reduceLeDiff, Nat.reduceEqDiff, Int.reduceToNat]
  repeat' (first | (refine And.intro ?_ ?_) | intro _ | (refine callQ_intro (big_ok _) ?_; try (simp (disch := exact eqId (by kernel_rfl)) only [go_sem, ↓reduceIte, Nat.reduceAdd, Nat.reduceMul, Nat.reduceLT, Nat.reduceBEq, Nat.reduceLeDiff, Nat.reduceEqDiff, Int.reduceToNat])) | (refine callH_intro (fun hcc => big_ok _) ?_; try (simp (disch := exact eqId (by kernel_rfl)) only [go_sem, ↓reduceIte, Nat.reduceAdd, Nat.reduceMul, Nat.reduceLT, Nat.reduceBEq, Nat.reduceLeDiff, Nat.reduceEqDiff, Int.reduceToNat])) | (refine callQ_intro (h1) ?_; try (simp (disch := exact eqId (by kernel_rfl)) only [go_sem, ↓reduceIte, Nat.reduceAdd, Nat.reduceMul, Nat.reduceLT, Nat.reduceBEq, Nat.reduceLeDiff, Nat.reduceEqDiff, Int.reduceToNat])) | (refine callH_intro (fun hcc => h1) ?_; try (simp (disch := exact eqId (by kernel_rfl)) only [go_sem, ↓reduceIte, Nat.reduceAdd, Nat.reduceMul, Nat.reduceLT, Nat.reduceBEq, Nat.reduceLeDiff, Nat.reduceEqDiff, Int.reduceToNat])) | (refine callQ_intro (h2) ?_; try (simp (disch := exact eqId (by kernel_rfl)) only [go_sem, ↓reduceIte, Nat.reduceAdd, Nat.reduceMul, Nat.reduceLT, Nat.reduceBEq, Nat.reduceLeDiff, Nat.reduceEqDiff, Int.reduceToNat])) | (refine callH_intro (fun hcc => h2) ?_; try (simp (disch := exact eqId (by kernel_rfl)) only [go_sem, ↓reduceIte, Nat.reduceAdd, Nat.reduceMul, Nat.reduceLT, Nat.reduceBEq, Nat.reduceLeDiff, Nat.reduceEqDiff, Int.reduceToNat])) | (refine callQ_intro (h3) ?_; try (simp (disch := exact eqId (by kernel_rfl)) only [go_sem, ↓reduceIte, Nat.reduceAdd, Nat.reduceMul, Nat.reduceLT, Nat.reduceBEq, Nat.reduceLeDiff, Nat.reduceEqDiff, Int.reduceToNat])) | (refine callH_intro (fun hcc => h3) ?_; try (simp (disch := exact eqId (by kernel_rfl)) only [go_sem, ↓reduceIte, Nat.reduceAdd, Nat.reduceMul, Nat.reduceLT, Nat.reduceBEq, Nat.reduceLeDiff, Nat.reduceEqDiff, Int.reduceToNat])) | (refine callQ_intro (h4) ?_; try (simp (disch := exact eqId (by kernel_rfl)) only [go_sem, ↓reduceIte, Nat.reduceAdd, Nat.reduceMul, Nat.reduceLT, Nat.reduceBEq, Nat.reduceLeDiff, Nat.reduceEqDiff, Int.reduceToNat])) | (refine callH_intro (fun hcc => h4) ?_; try (simp (disch := exact eqId (by kernel_rfl)) only [go_sem, ↓reduceIte, Nat.reduceAdd, Nat.reduceMul, Nat.reduceLT, Nat.reduceBEq, Nat.reduceLeDiff, Nat.reduceEqDiff, Int.reduceToNat])) | (refine callQ_intro (c1) ?_; try (simp (disch := exact eqId (by kernel_rfl)) only [go_sem, ↓reduceIte, Nat.reduceAdd, Nat.reduceMul, Nat.reduceLT, Nat.reduceBEq, Nat.reduceLeDiff, Nat.reduceEqDiff, Int.reduceToNat])) | (refine callH_intro (fun hcc => c1) ?_; try (simp (disch := exact eqId (by kernel_rfl)) only [go_sem, ↓reduceIte, Nat.reduceAdd, Nat.reduceMul, Nat.reduceLT, Nat.reduceBEq, Nat.reduceLeDiff, Nat.reduceEqDiff, Int.reduceToNat])) | (refine callQ_intro (c2) ?_; try (simp (disch := exact eqId (by kernel_rfl)) only [go_sem, ↓reduceIte, Nat.reduceAdd, Nat.reduceMul, Nat.reduceLT, Nat.reduceBEq, Nat.reduceLeDiff, Nat.reduceEqDiff, Int.reduceToNat])) | (refine callH_intro (fun hcc => c2) ?_; try (simp (disch := exact eqId (by kernel_rfl)) only [go_sem, ↓reduceIte, Nat.reduceAdd, Nat.reduceMul, Nat.reduceLT, Nat.reduceBEq, Nat.reduceLeDiff, Nat.reduceEqDiff, Int.reduceToNat])) | (refine callQ_intro (c3) ?_; try (simp (disch := exact eqId (by kernel_rfl)) only [go_sem, ↓reduceIte, Nat.reduceAdd, Nat.reduceMul, Nat.reduceLT, Nat.reduceBEq, Nat.reduceLeDiff, Nat.reduceEqDiff, Int.reduceToNat])) | (refine callH_intro (fun hcc => c3) ?_; try (simp (disch := exact eqId (by kernel_rfl)) only [go_sem, ↓reduceIte, Nat.reduceAdd, Nat.reduceMul, Nat.reduceLT, Nat.reduceBEq, Nat.reduceLeDiff, Nat.reduceEqDiff, Int.reduceToNat])) | (refine callQ_intro (impl_IsStrand_ok _) ?_; try (simp (disch := exact eqId (by kernel_rfl)) only [go_sem, ↓reduceIte, Nat.reduceAdd, Nat.reduceMul, Nat.reduceLT, Nat.reduceBEq, Nat.reduceLeDiff, Nat.reduceEqDiff, Int.reduceToNat])) | (refine callH_intro (fun hcc => impl_IsStrand_ok _) ?_; try (simp (disch := exact eqId (by kernel_rfl)) only [go_sem, ↓reduceIte, Nat.reduceAdd, Nat.reduceMul, Nat.reduceLT, Nat.reduceBEq, Nat.reduceLeDiff, Nat.reduceEqDiff, Int.reduceToNat])) | (refine callQ_intro (spec_IsStrand_ok _) ?_; try (simp (disch := exact eqId (by kernel_rfl)) only [go_sem, ↓reduceIte, Nat.reduceAdd, Nat.reduceMul, Nat.reduceLT, Nat.reduceBEq, Nat.reduceLeDiff, Nat.reduceEqDiff, Int.reduceToNat])) | (refine callH_intro (fun hcc => spec_IsStrand_ok _) ?_; try (simp (disch := exact eqId (by kernel_rfl)) only [go_sem, ↓reduceIte, Nat.reduceAdd, Nat.reduceMul, Nat.reduceLT, Nat.reduceBEq, Nat.reduceLeDiff, Nat.reduceEqDiff, Int.reduceToNat])) | (refine callQ_intro (impl_FindPiece_ok _ _) ?_; try (simp (disch := exact eqId (by kernel_rfl)) only [go_sem, ↓reduceIte, Nat.reduceAdd, Nat.reduceMul, Nat.reduceLT, Nat.reduceBEq, Nat.reduceLeDiff, Nat.reduceEqDiff, Int.reduceToNat])) | (refine callH_intro (fun hcc => impl_FindPiece_ok _ _) ?_; try (simp (disch := exact eqId (by kernel_rfl)) only [go_sem, ↓reduceIte, Nat.reduceAdd, Nat.reduceMul, Nat.reduceLT, Nat.reduceBEq, Nat.reduceLeDiff, Nat.reduceEqDiff, Int.reduceToNat])) | (refine callQ_intro (impl_EqualStrands_ok _ _) ?_; try (simp (disch := exact eqId (by kernel_rfl)) only [go_sem, ↓reduceIte, Nat.reduceAdd, Nat.reduceMul, Nat.reduceLT, Nat.reduceBEq, Nat.reduceLeDiff, Nat.reduceEqDiff, Int.reduceToNat])) | (refine callH_intro (fun hcc => impl_EqualStrands_ok _ _) ?_; try (simp (disch := exact eqId (by kernel_rfl)) only [go_sem, ↓reduceIte, Nat.reduceAdd, Nat.reduceMul, Nat.reduceLT, Nat.reduceBEq, Nat.reduceLeDiff, Nat.reduceEqDiff, Int.reduceToNat])) | (refine callQ_intro (impl_DocDigests_ok _ _ qu) ?_; try (simp (disch := exact eqId (by kernel_rfl)) only [go_sem, ↓reduceIte, Nat.reduceAdd, Nat.reduceMul, Nat.reduceLT, Nat.reduceBEq, Nat.reduceLeDiff, Nat.reduceEqDiff, Int.reduceToNat])) | (refine callH_intro (fun hcc => impl_DocDigests_ok _ _ qu) ?_; try (simp (disch := exact eqId (by kernel_rfl)) only [go_sem, ↓reduceIte, Nat.reduceAdd, Nat.reduceMul, Nat.reduceLT, Nat.reduceBEq, Nat.reduceLeDiff, Nat.reduceEqDiff, Int.reduceToNat])) | (refine callQ_intro (impl_FirstFault_ok _ _ _ _ qv) ?_; try (simp (disch := exact eqId (by kernel_rfl)) only [go_sem, ↓reduceIte, Nat.reduceAdd, Nat.reduceMul, Nat.reduceLT, Nat.reduceBEq, Nat.reduceLeDiff, Nat.reduceEqDiff, Int.reduceToNat])) | (refine callH_intro (fun hcc => impl_FirstFault_ok _ _ _ _ qv) ?_; try (simp (disch := exact eqId (by kernel_rfl)) only [go_sem, ↓reduceIte, Nat.reduceAdd, Nat.reduceMul, Nat.reduceLT, Nat.reduceBEq, Nat.reduceLeDiff, Nat.reduceEqDiff, Int.reduceToNat])) | (refine callQ_intro (impl_FirstFault_ok _ _ _ _ qw) ?_; try (simp (disch := exact eqId (by kernel_rfl)) only [go_sem, ↓reduceIte, Nat.reduceAdd, Nat.reduceMul, Nat.reduceLT, Nat.reduceBEq, Nat.reduceLeDiff, Nat.reduceEqDiff, Int.reduceToNat])) | (refine callH_intro (fun hcc => impl_FirstFault_ok _ _ _ _ qw) ?_; try (simp (disch := exact eqId (by kernel_rfl)) only [go_sem, ↓reduceIte, Nat.reduceAdd, Nat.reduceMul, Nat.reduceLT, Nat.reduceBEq, Nat.reduceLeDiff, Nat.reduceEqDiff, Int.reduceToNat])) | (refine callQ_intro (impl_LeafAt_ok _ _ _ qv) ?_; try (simp (disch := exact eqId (by kernel_rfl)) only [go_sem, ↓reduceIte, Nat.reduceAdd, Nat.reduceMul, Nat.reduceLT, Nat.reduceBEq, Nat.reduceLeDiff, Nat.reduceEqDiff, Int.reduceToNat])) | (refine callH_intro (fun hcc => impl_LeafAt_ok _ _ _ qv) ?_; try (simp (disch := exact eqId (by kernel_rfl)) only [go_sem, ↓reduceIte, Nat.reduceAdd, Nat.reduceMul, Nat.reduceLT, Nat.reduceBEq, Nat.reduceLeDiff, Nat.reduceEqDiff, Int.reduceToNat])) | (refine callQ_intro (impl_LeafAt_ok _ _ _ qw) ?_; try (simp (disch := exact eqId (by kernel_rfl)) only [go_sem, ↓reduceIte, Nat.reduceAdd, Nat.reduceMul, Nat.reduceLT, Nat.reduceBEq, Nat.reduceLeDiff, Nat.reduceEqDiff, Int.reduceToNat])) | (refine callH_intro (fun hcc => impl_LeafAt_ok _ _ _ qw) ?_; try (simp (disch := exact eqId (by kernel_rfl)) only [go_sem, ↓reduceIte, Nat.reduceAdd, Nat.reduceMul, Nat.reduceLT, Nat.reduceBEq, Nat.reduceLeDiff, Nat.reduceEqDiff, Int.reduceToNat])))
  all_goals (clear h1 h2 h3 h4 c1 c2 c3 qp qr1 qr2)
  all_goals (try exact f1)
  all_goals (try exact f2)
  all_goals (try omega)
  · rename_i h
    exact h.2.2
  · rename_i h
    exact h.2.2
  · rename_i h _
    exact h.2.2
  · rename_i h _
    exact h.2.2
  · rename_i h
    rcases h with (⟨g1, g2 | g2⟩ | ⟨g1, g2⟩) | ⟨g1, g2 | g2⟩
    · rcases f1 with f | f
      · rw [g1] at f; cases f
      · rw [f.1] at g2; cases g2
    · rcases f1 with f | f
      · rw [g1] at f; cases f
      · exact g2 f.2
    · rcases f2 with f | f
      · rw [g1] at f; cases f
      · exact g2 f
    · rw [(f3 g1).1] at g2; cases g2
    · have := (f3 g1).2
      omega
  · rename_i h
    exact h.1
  · rename_i h
    exact h.2
  · rename_i h
    rcases h with (g | g) | ⟨g, g2⟩
    · omega
    · omega
    · exact g2 (f6 g.1 g.2)
  · rename_i h
    cases hB : B3 with
    | false => exact .inl (.inl (.inl rfl))
    | true =>
      cases hv : strB (v1, v2, ()) with
      | false => exact .inl (.inl (.inr rfl))
      | true => exact .inr (f5 hB hv 0)
end Go.Proofs.YtblnngjdoifgkaaGreat
