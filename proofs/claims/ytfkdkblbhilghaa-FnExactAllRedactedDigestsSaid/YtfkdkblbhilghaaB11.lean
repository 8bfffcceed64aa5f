/- What functions of growing strands answer, with all rows their own. It proves nothing of a statement by itself. -/
import Derived.Test.YtfkdkblbhilghaaB10
set_option linter.unusedSimpArgs false
set_option linter.unusedVariables false
set_option maxRecDepth 100000
namespace Go.Proofs.Ytfkdkblbhilghaa
open Go.AL
theorem copyPiece_fr (p : tPiece.den) (hp : p.2.1.length ≤ 1048576) : FunOK Try.prog 76 [⟨tPiece, p⟩] (.agg [.rd I p.1, .fresh 3 I p.2.1, .rd I p.2.2.1]) := (copyPiece_ok p hp).fr rfl
theorem copyStamps_fr (l : List tStamp.den) (hl : l.length ≤ 1048576) : FunOK Try.prog 112 [⟨(.list tStamp), l⟩] (.fresh 155 tStamp l) := (copyStamps_ok l hl).fr rfl
theorem copyRenewal_fr (r : tRenewal.den) (h1 : r.2.2.2.1.length ≤ 1048576) (h2 : r.2.2.2.2.1.length ≤ 1048576) : FunOK Try.prog 85 [⟨tRenewal, r⟩] (.agg [.rd I r.1, .rd I r.2.1, .rd I r.2.2.1, .fresh 151 tStep r.2.2.2.1, .fresh 155 tStamp r.2.2.2.2.1]) := (copyRenewal_ok r h1 h2).fr rfl
theorem copyPieces_d (l : List tPiece.den) (hl : l.length ≤ 1048576) (hp : ∀ p, p ∈ l → p.2.1.length ≤ 1048576) : FunOK Try.prog 125 [⟨(.list tPiece), l⟩] (.deep TE tPiece l) := by
  refine fun_ofN (tb := tbd) follows Try.func125 (by kernel_rfl) Try.ntmps125 rfl rfl rfl ?_; intro cx hN hw
  simp (disch := exact eqId (by kernel_rfl)) only [go_sem, ↓reduceIte, Nat.reduceAdd, Nat.reduceMul, Nat.reduceLT, Nat.reduceBEq, Nat.reduceLeDiff, Nat.reduceEqDiff, Int.reduceToNat]
  refine loop_intro (tb := tbd) follows hN (D := Nat) (fun d => shp [(3, .own 20000), (6, .rd (.list tPiece) (l)), (7, .rd I (((l).length : Int) : Int)), (8, .rd I (d : Int))] [(20000, .deep TE tPiece (l.take d))]) (fun d => d ≤ l.length) (fun d => l.length - d) (0) ?_ (sub_shp hN [(20000, none)] ?_) (fun d hd => ?_)
  · exact Nat.zero_le _
  · simp (disch := exact eqId (by kernel_rfl)) only [go_sem, ↓reduceIte, Nat.reduceAdd, Nat.reduceMul, Nat.reduceLT, Nat.reduceBEq, Nat.reduceLeDiff, Nat.reduceEqDiff, Int.reduceToNat]
    try exact ⟨rfl, rfl⟩
    try rfl
  · simp (disch := exact eqId (by kernel_rfl)) only [go_sem, ↓reduceIte, Nat.reduceAdd, Nat.reduceMul, Nat.reduceLT, Nat.reduceBEq, Nat.reduceLeDiff, Nat.reduceEqDiff, Int.reduceToNat]
    repeat' (first | (refine And.intro ?_ ?_) | intro _ | (refine callQ_intro (copyPiece_fr _ (hp _ (getD_mem (by omega) _))) ?_; try (simp (disch := exact eqId (by kernel_rfl)) only [go_sem, ↓reduceIte, Nat.reduceAdd, Nat.reduceMul, Nat.reduceLT, Nat.reduceBEq, Nat.reduceLeDiff, Nat.reduceEqDiff, Int.reduceToNat])) | (refine callH_intro (fun hcc => copyPiece_fr _ (hp _ (getD_mem (by omega) _))) ?_; try (simp (disch := exact eqId (by kernel_rfl)) only [go_sem, ↓reduceIte, Nat.reduceAdd, Nat.reduceMul, Nat.reduceLT, Nat.reduceBEq, Nat.reduceLeDiff, Nat.reduceEqDiff, Int.reduceToNat])))
    all_goals (try omega)
    all_goals (try (simp only [List.length_append, List.length_cons, List.length_nil, List.length_take]; omega))
    · rename_i hk
      refine back_intro (d + 1) ?_ ?_ (sub_shp hN [(20000, some 60064)] ?_)
      · omega
      · omega
      · simp (disch := exact eqId (by kernel_rfl)) only [go_sem, ↓reduceIte, Nat.reduceAdd, Nat.reduceMul, Nat.reduceLT, Nat.reduceBEq, Nat.reduceLeDiff, Nat.reduceEqDiff, Int.reduceToNat]
        refine ⟨?_, wrap_succ' (by omega)⟩
        exact take_snoc (show d < l.length by omega) _
    · rename_i hk
      rw [List.take_of_length_le (by omega)]
      try exact .inl rfl
    all_goals trace_state
theorem copyStrand_d (s : tStrand.den) (hs : Small tStrand 1048576 s) : FunOK Try.prog 75 [⟨tStrand, s⟩] (.agg [.deep TE tPiece s.1, .deep TE tRenewal s.2.1]) := by
  obtain ⟨h1, h2⟩ := sm_pc hs
  obtain ⟨h3, h4⟩ := sm_ch hs
  refine fun_ofN (tb := tbd) follows Try.func75 (by kernel_rfl) Try.ntmps75 rfl rfl rfl ?_; intro cx hN hw
  simp (disch := exact eqId (by kernel_rfl)) only [go_sem, ↓reduceIte, Nat.reduceAdd, Nat.reduceMul, Nat.reduceLT, Nat.reduceBEq, Nat.reduceLeDiff, Nat.reduceEqDiff, Int.reduceToNat]
  repeat' (first | (refine And.intro ?_ ?_) | intro _ | (refine callQ_intro (copyPieces_d _ h1 h2) ?_; try (simp (disch := exact eqId (by kernel_rfl)) only [go_sem, ↓reduceIte, Nat.reduceAdd, Nat.reduceMul, Nat.reduceLT, Nat.reduceBEq, Nat.reduceLeDiff, Nat.reduceEqDiff, Int.reduceToNat])) | (refine callH_intro (fun hcc => copyPieces_d _ h1 h2) ?_; try (simp (disch := exact eqId (by kernel_rfl)) only [go_sem, ↓reduceIte, Nat.reduceAdd, Nat.reduceMul, Nat.reduceLT, Nat.reduceBEq, Nat.reduceLeDiff, Nat.reduceEqDiff, Int.reduceToNat])))
  refine loop_intro (tb := tbd) follows hN (D := Nat) (fun d => shp [(2, .bp 10016 0), (3, .bp 20064 0), (11, .rd (.list tRenewal) (s.2.1)), (12, .rd I (((s.2.1).length : Int) : Int)), (13, .rd I (d : Int))] [(10016, .box 36 [.nils, .nils]), (20032, .deep TE tPiece s.1), (20064, .box 36 [.own 20032, .own 90000]), (90000, .deep TE tRenewal (List.take d s.2.1))]) (fun d => d ≤ List.length s.2.1) (fun d => List.length s.2.1 - d) (0) ?_ (sub_shp hN [(10016, some 10016), (20064, some 20064), (20032, some 20032), (90000, none)] ?_) (fun d hd => ?_)
  · exact Nat.zero_le _
  · simp (disch := exact eqId (by kernel_rfl)) only [go_sem, ↓reduceIte, Nat.reduceAdd, Nat.reduceMul, Nat.reduceLT, Nat.reduceBEq, Nat.reduceLeDiff, Nat.reduceEqDiff, Int.reduceToNat]
    try exact ⟨rfl, rfl⟩
    try rfl
  · simp (disch := exact eqId (by kernel_rfl)) only [go_sem, ↓reduceIte, Nat.reduceAdd, Nat.reduceMul, Nat.reduceLT, Nat.reduceBEq, Nat.reduceLeDiff, Nat.reduceEqDiff, Int.reduceToNat]
    repeat' (first | (refine And.intro ?_ ?_) | intro _ | (refine callQ_intro (copyRenewal_fr _ (h4 _ (getD_mem (by omega) _)).1 (h4 _ (getD_mem (by omega) _)).2) ?_; try (simp (disch := exact eqId (by kernel_rfl)) only [go_sem, ↓reduceIte, Nat.reduceAdd, Nat.reduceMul, Nat.reduceLT, Nat.reduceBEq, Nat.reduceLeDiff, Nat.reduceEqDiff, Int.reduceToNat])) | (refine callH_intro (fun hcc => copyRenewal_fr _ (h4 _ (getD_mem (by omega) _)).1 (h4 _ (getD_mem (by omega) _)).2) ?_; try (simp (disch := exact eqId (by kernel_rfl)) only [go_sem, ↓reduceIte, Nat.reduceAdd, Nat.reduceMul, Nat.reduceLT, Nat.reduceBEq, Nat.reduceLeDiff, Nat.reduceEqDiff, Int.reduceToNat])))
    all_goals (try omega)
    all_goals (try (simp only [List.length_append, List.length_cons, List.length_nil, List.length_take]; omega))
    · rename_i hk
      refine back_intro (d + 1) ?_ ?_ (sub_shp hN [(10016, some 10016), (20064, some 20064), (20032, some 20032), (90000, some 60080)] ?_)
      · omega
      · omega
      · simp (disch := exact eqId (by kernel_rfl)) only [go_sem, ↓reduceIte, Nat.reduceAdd, Nat.reduceMul, Nat.reduceLT, Nat.reduceBEq, Nat.reduceLeDiff, Nat.reduceEqDiff, Int.reduceToNat]
        refine ⟨?_, wrap_succ' (by omega)⟩
        exact take_snoc (show d < List.length s.2.1 by omega) _
    · rename_i hk
      rw [List.take_of_length_le (by omega)]
      try exact .inl rfl
    all_goals trace_state
theorem impl_AddPiece_d (s : tStrand.den) (p : tPiece.den) (hs : Small tStrand 1048576 s) (hp : p.2.1.length ≤ 1048576) : FunOK Try.prog 26 [⟨tStrand, s⟩, ⟨tPiece, p⟩] (.tup [.agg [.deep TE tPiece (apF s p).1.1, .deep TE tRenewal (apF s p).1.2.1], .rd .bool (apF s p).2]) := by
  have h1 := (sm_pc hs).1
  have h2 := (sm_ch hs).1
  refine fun_ofN (tb := tbd) follows Try.func26 (by kernel_rfl) Try.ntmps26 rfl rfl rfl ?_; intro cx hN hw
  simp (disch := exact eqId (by kernel_rfl)) only [go_sem, ↓reduceIte, Nat.reduceAdd, Nat.reduceMul, Nat.reduceLT, Nat.reduceBEq, Nat.reduceLeDiff, Nat.reduceEqDiff, Int.reduceToNat]
  repeat' (first | (refine And.intro ?_ ?_) | intro _ | (refine callB_intro (impl_IsStrand_ok _) rfl trivial ?_; try (simp (disch := exact eqId (by kernel_rfl)) only [go_sem, ↓reduceIte, Nat.reduceAdd, Nat.reduceMul, Nat.reduceLT, Nat.reduceBEq, Nat.reduceLeDiff, Nat.reduceEqDiff, Int.reduceToNat])) | (refine callQ_intro (copyStrand_d _ hs) ?_; try (simp (disch := exact eqId (by kernel_rfl)) only [go_sem, ↓reduceIte, Nat.reduceAdd, Nat.reduceMul, Nat.reduceLT, Nat.reduceBEq, Nat.reduceLeDiff, Nat.reduceEqDiff, Int.reduceToNat])) | (refine callH_intro (fun hcc => copyStrand_d _ hs) ?_; try (simp (disch := exact eqId (by kernel_rfl)) only [go_sem, ↓reduceIte, Nat.reduceAdd, Nat.reduceMul, Nat.reduceLT, Nat.reduceBEq, Nat.reduceLeDiff, Nat.reduceEqDiff, Int.reduceToNat])) | (refine callQ_intro (copyPiece_fr _ hp) ?_; try (simp (disch := exact eqId (by kernel_rfl)) only [go_sem, ↓reduceIte, Nat.reduceAdd, Nat.reduceMul, Nat.reduceLT, Nat.reduceBEq, Nat.reduceLeDiff, Nat.reduceEqDiff, Int.reduceToNat])) | (refine callH_intro (fun hcc => copyPiece_fr _ hp) ?_; try (simp (disch := exact eqId (by kernel_rfl)) only [go_sem, ↓reduceIte, Nat.reduceAdd, Nat.reduceMul, Nat.reduceLT, Nat.reduceBEq, Nat.reduceLeDiff, Nat.reduceEqDiff, Int.reduceToNat])))
  all_goals (try refine .inl ?_)
  all_goals (try omega)
  all_goals (try (simp only [List.length_append, List.length_cons, List.length_nil]; omega))
  all_goals (rename_i hc; first | exact (congrArg (fun x => x.1.1) (apF_y hc)).symm | exact (congrArg (fun x => x.1.2.1) (apF_y hc)).symm | exact (congrArg (fun x => x.2) (apF_y hc)).symm | exact (congrArg (fun x => x.1.1) (apF_n hc)).symm | exact (congrArg (fun x => x.1.2.1) (apF_n hc)).symm | exact (congrArg (fun x => x.2) (apF_n hc)).symm | trace_state)
theorem impl_AddRenewal_d (s : tStrand.den) (r : tRenewal.den) (hs : Small tStrand 1048576 s) (hr1 : r.2.2.2.1.length ≤ 1048576) (hr2 : r.2.2.2.2.1.length ≤ 1048576) : FunOK Try.prog 33 [⟨tStrand, s⟩, ⟨tRenewal, r⟩] (.tup [.agg [.deep TE tPiece (arF s r).1.1, .deep TE tRenewal (arF s r).1.2.1], .rd .bool (arF s r).2]) := by
  have h1 := (sm_pc hs).1
  have h2 := (sm_ch hs).1
  refine fun_ofN (tb := tbd) follows Try.func33 (by kernel_rfl) Try.ntmps33 rfl rfl rfl ?_; intro cx hN hw
  simp (disch := exact eqId (by kernel_rfl)) only [go_sem, ↓reduceIte, Nat.reduceAdd, Nat.reduceMul, Nat.reduceLT, Nat.reduceBEq, Nat.reduceLeDiff, Nat.reduceEqDiff, Int.reduceToNat]
  repeat' (first | (refine And.intro ?_ ?_) | intro _ | (refine callB_intro (impl_IsStrand_ok _) rfl trivial ?_; try (simp (disch := exact eqId (by kernel_rfl)) only [go_sem, ↓reduceIte, Nat.reduceAdd, Nat.reduceMul, Nat.reduceLT, Nat.reduceBEq, Nat.reduceLeDiff, Nat.reduceEqDiff, Int.reduceToNat])) | (refine callQ_intro (copyStrand_d _ hs) ?_; try (simp (disch := exact eqId (by kernel_rfl)) only [go_sem, ↓reduceIte, Nat.reduceAdd, Nat.reduceMul, Nat.reduceLT, Nat.reduceBEq, Nat.reduceLeDiff, Nat.reduceEqDiff, Int.reduceToNat])) | (refine callH_intro (fun hcc => copyStrand_d _ hs) ?_; try (simp (disch := exact eqId (by kernel_rfl)) only [go_sem, ↓reduceIte, Nat.reduceAdd, Nat.reduceMul, Nat.reduceLT, Nat.reduceBEq, Nat.reduceLeDiff, Nat.reduceEqDiff, Int.reduceToNat])) | (refine callQ_intro (copyRenewal_fr _ hr1 hr2) ?_; try (simp (disch := exact eqId (by kernel_rfl)) only [go_sem, ↓reduceIte, Nat.reduceAdd, Nat.reduceMul, Nat.reduceLT, Nat.reduceBEq, Nat.reduceLeDiff, Nat.reduceEqDiff, Int.reduceToNat])) | (refine callH_intro (fun hcc => copyRenewal_fr _ hr1 hr2) ?_; try (simp (disch := exact eqId (by kernel_rfl)) only [go_sem, ↓reduceIte, Nat.reduceAdd, Nat.reduceMul, Nat.reduceLT, Nat.reduceBEq, Nat.reduceLeDiff, Nat.reduceEqDiff, Int.reduceToNat])))
  all_goals (try refine .inl ?_)
  all_goals (try omega)
  all_goals (try (simp only [List.length_append, List.length_cons, List.length_nil]; omega))
  all_goals (rename_i hc; first | exact (congrArg (fun x => x.1.1) (arF_y hc)).symm | exact (congrArg (fun x => x.1.2.1) (arF_y hc)).symm | exact (congrArg (fun x => x.2) (arF_y hc)).symm | exact (congrArg (fun x => x.1.1) (arF_n hc)).symm | exact (congrArg (fun x => x.1.2.1) (arF_n hc)).symm | exact (congrArg (fun x => x.2) (arF_n hc)).symm | trace_state)
end Go.Proofs.Ytfkdkblbhilghaa
/- What functions of all documents' digests answer. It proves nothing of a statement by itself. -/
set_option linter.unusedSimpArgs false
set_option linter.unusedVariables false
set_option maxRecDepth 100000
namespace Go.Proofs.Ytfkdkblbhilghaa
open Go.AL
theorem impl_DocDigests_fr (s : tStrand.den) (e : tDocument.den) (hs : Small tStrand 1048576 s) : FunOK Try.prog 15 [⟨tStrand, s⟩, ⟨tDocument, e⟩] (.fresh 3 I (dsF s e)) := (impl_DocDigests_ok s e hs).fr rfl
theorem spec_AllDocDigests_ok (e : tEvidence.den) (dd : tDocument.den) (hs : Small tEvidence 1048576 e) : FunOK Try.prog 37 [⟨tEvidence, e⟩, ⟨tDocument, dd⟩] (.own 27 (.list I) (e.1.map (fun s => dsF s dd))) := by
  have hl : e.1.length ≤ 1048576 := hs.1.1
  have hq : ∀ s, s ∈ e.1 → Small tStrand 1048576 s := hs.1.2
  refine fun_of (tb := tb) follows Try.func37 (by kernel_rfl) Try.ntmps37 rfl rfl rfl ?_; intro cx hN hw
  simp (disch := exact eqId (by kernel_rfl)) only [go_sem, ↓reduceIte, Nat.reduceAdd, Nat.reduceMul, Nat.reduceLT, Nat.reduceBEq, Nat.reduceLeDiff, Nat.reduceEqDiff, Int.reduceToNat]
  refine loop_intro (tb := tb) follows hN (D := Nat) (fun d => shp [(2, .bp 10000 0), (3, .bp 10016 0), (5, .own 20000), (6, .rd I (d : Int))] [(10000, .box 81 [.rd (.list tStrand) (e.1), .rd (.list (.list tStamp)) (e.2.1)]), (10016, .box 38 [.rd I (dd.1), .rd (.list .str) (dd.2.1), .rd (.list I) (dd.2.2.1)]), (20000, .row 27 (.list I) ((List.take d e.1).map (fun s => dsF s dd)))]) (fun d => d ≤ List.length e.1) (fun d => List.length e.1 - d) (0) ?_ (sub_shp hN [(10000, some 10000), (10016, some 10016), (20000, some 20000)] ?_) (fun d hd => ?_)
  · exact Nat.zero_le _
  · simp (disch := exact eqId (by kernel_rfl)) only [go_sem, ↓reduceIte, Nat.reduceAdd, Nat.reduceMul, Nat.reduceLT, Nat.reduceBEq, Nat.reduceLeDiff, Nat.reduceEqDiff, Int.reduceToNat]
    try exact ⟨rfl, rfl⟩
    try rfl
  · simp (disch := exact eqId (by kernel_rfl)) only [go_sem, ↓reduceIte, Nat.reduceAdd, Nat.reduceMul, Nat.reduceLT, Nat.reduceBEq, Nat.reduceLeDiff, Nat.reduceEqDiff, Int.reduceToNat]
    repeat' (first | (refine And.intro ?_ ?_) | intro _ | (refine callQ_intro (spec_DocDigests_ok _ _ (hq _ (getD_mem (by omega) _))) ?_; try (simp (disch := exact eqId (by kernel_rfl)) only [go_sem, ↓reduceIte, Nat.reduceAdd, Nat.reduceMul, Nat.reduceLT, Nat.reduceBEq, Nat.reduceLeDiff, Nat.reduceEqDiff, Int.reduceToNat])) | (refine callH_intro (fun hcc => spec_DocDigests_ok _ _ (hq _ (getD_mem (by omega) _))) ?_; try (simp (disch := exact eqId (by kernel_rfl)) only [go_sem, ↓reduceIte, Nat.reduceAdd, Nat.reduceMul, Nat.reduceLT, Nat.reduceBEq, Nat.reduceLeDiff, Nat.reduceEqDiff, Int.reduceToNat])))
    all_goals (try omega)
    all_goals (try (simp only [List.length_append, List.length_cons, List.length_nil, List.length_take, List.length_map]; omega))
    · rename_i hk
      refine back_intro (d + 1) ?_ ?_ (sub_shp hN [(10000, some 10000), (10016, some 10016), (20000, some 60144)] ?_)
      · omega
      · omega
      · simp (disch := exact eqId (by kernel_rfl)) only [go_sem, ↓reduceIte, Nat.reduceAdd, Nat.reduceMul, Nat.reduceLT, Nat.reduceBEq, Nat.reduceLeDiff, Nat.reduceEqDiff, Int.reduceToNat]
        refine ⟨?_, wrap_succ' (by omega)⟩
        rw [← take_snoc (show d < List.length e.1 by omega) ([], [], ()), List.map_append]
        rfl
    · rename_i hk
      rw [List.take_of_length_le (by omega)]
      try exact .inl rfl
    all_goals trace_state
theorem impl_AllDocDigests_ok (e : tEvidence.den) (dd : tDocument.den) (hs : Small tEvidence 1048576 e) : FunOK Try.prog 39 [⟨tEvidence, e⟩, ⟨tDocument, dd⟩] (.own 27 (.list I) (e.1.map (fun s => dsF s dd))) := by
  have hl : e.1.length ≤ 1048576 := hs.1.1
  have hq : ∀ s, s ∈ e.1 → Small tStrand 1048576 s := hs.1.2
  refine fun_of (tb := tb) follows Try.func39 (by kernel_rfl) Try.ntmps39 rfl rfl rfl ?_; intro cx hN hw
  simp (disch := exact eqId (by kernel_rfl)) only [go_sem, ↓reduceIte, Nat.reduceAdd, Nat.reduceMul, Nat.reduceLT, Nat.reduceBEq, Nat.reduceLeDiff, Nat.reduceEqDiff, Int.reduceToNat]
  refine loop_intro (tb := tb) follows hN (D := Nat) (fun d => shp [(3, .bp 10016 0), (5, .own 20000), (9, .rd (.list tStrand) (e.1)), (10, .rd I (((e.1).length : Int) : Int)), (11, .rd I (d : Int))] [(10016, .box 38 [.rd I (dd.1), .rd (.list .str) (dd.2.1), .rd (.list I) (dd.2.2.1)]), (20000, .row 27 (.list I) ((List.take d e.1).map (fun s => dsF s dd)))]) (fun d => d ≤ List.length e.1) (fun d => List.length e.1 - d) (0) ?_ (sub_shp hN [(10016, some 10016), (20000, none)] ?_) (fun d hd => ?_)
  · exact Nat.zero_le _
  · simp (disch := exact eqId (by kernel_rfl)) only [go_sem, ↓reduceIte, Nat.reduceAdd, Nat.reduceMul, Nat.reduceLT, Nat.reduceBEq, Nat.reduceLeDiff, Nat.reduceEqDiff, Int.reduceToNat]
    try exact ⟨rfl, rfl⟩
    try rfl
  · simp (disch := exact eqId (by kernel_rfl)) only [go_sem, ↓reduceIte, Nat.reduceAdd, Nat.reduceMul, Nat.reduceLT, Nat.reduceBEq, Nat.reduceLeDiff, Nat.reduceEqDiff, Int.reduceToNat]
    repeat' (first | (refine And.intro ?_ ?_) | intro _ | (refine callQ_intro (impl_DocDigests_ok _ _ (hq _ (getD_mem (by omega) _))) ?_; try (simp (disch := exact eqId (by kernel_rfl)) only [go_sem, ↓reduceIte, Nat.reduceAdd, Nat.reduceMul, Nat.reduceLT, Nat.reduceBEq, Nat.reduceLeDiff, Nat.reduceEqDiff, Int.reduceToNat])) | (refine callH_intro (fun hcc => impl_DocDigests_ok _ _ (hq _ (getD_mem (by omega) _))) ?_; try (simp (disch := exact eqId (by kernel_rfl)) only [go_sem, ↓reduceIte, Nat.reduceAdd, Nat.reduceMul, Nat.reduceLT, Nat.reduceBEq, Nat.reduceLeDiff, Nat.reduceEqDiff, Int.reduceToNat])))
    all_goals (try omega)
    all_goals (try (simp only [List.length_append, List.length_cons, List.length_nil, List.length_take, List.length_map]; omega))
    · rename_i hk
      refine back_intro (d + 1) ?_ ?_ (sub_shp hN [(10016, some 10016), (20000, some 60080)] ?_)
      · omega
      · omega
      · simp (disch := exact eqId (by kernel_rfl)) only [go_sem, ↓reduceIte, Nat.reduceAdd, Nat.reduceMul, Nat.reduceLT, Nat.reduceBEq, Nat.reduceLeDiff, Nat.reduceEqDiff, Int.reduceToNat]
        refine ⟨?_, wrap_succ' (by omega)⟩
        rw [← take_snoc (show d < List.length e.1 by omega) ([], [], ()), List.map_append]
        rfl
    · rename_i hk
      rw [List.take_of_length_le (by omega)]
      try exact .inl rfl
    all_goals trace_state
theorem impl_AllDocDigests_d (e : tEvidence.den) (dd : tDocument.den) (hs : Small tEvidence 1048576 e) : FunOK Try.prog 39 [⟨tEvidence, e⟩, ⟨tDocument, dd⟩] (.deep TE (.list I) (e.1.map (fun s => dsF s dd))) := by
  have hl : e.1.length ≤ 1048576 := hs.1.1
  have hq : ∀ s, s ∈ e.1 → Small tStrand 1048576 s := hs.1.2
  refine fun_ofN (tb := tbd) follows Try.func39 (by kernel_rfl) Try.ntmps39 rfl rfl rfl ?_; intro cx hN hw
  simp (disch := exact eqId (by kernel_rfl)) only [go_sem, ↓reduceIte, Nat.reduceAdd, Nat.reduceMul, Nat.reduceLT, Nat.reduceBEq, Nat.reduceLeDiff, Nat.reduceEqDiff, Int.reduceToNat]
  refine loop_intro (tb := tbd) follows hN (D := Nat) (fun d => shp [(3, .bp 10016 0), (5, .own 20000), (9, .rd (.list tStrand) (e.1)), (10, .rd I (((e.1).length : Int) : Int)), (11, .rd I (d : Int))] [(10016, .box 38 [.rd I (dd.1), .rd (.list .str) (dd.2.1), .rd (.list I) (dd.2.2.1)]), (20000, .deep TE (.list I) ((List.take d e.1).map (fun s => dsF s dd)))]) (fun d => d ≤ List.length e.1) (fun d => List.length e.1 - d) (0) ?_ (sub_shp hN [(10016, some 10016), (20000, none)] ?_) (fun d hd => ?_)
  · exact Nat.zero_le _
  · simp (disch := exact eqId (by kernel_rfl)) only [go_sem, ↓reduceIte, Nat.reduceAdd, Nat.reduceMul, Nat.reduceLT, Nat.reduceBEq, Nat.reduceLeDiff, Nat.reduceEqDiff, Int.reduceToNat]
    try exact ⟨rfl, rfl⟩
    try rfl
  · simp (disch := exact eqId (by kernel_rfl)) only [go_sem, ↓reduceIte, Nat.reduceAdd, Nat.reduceMul, Nat.reduceLT, Nat.reduceBEq, Nat.reduceLeDiff, Nat.reduceEqDiff, Int.reduceToNat]
    repeat' (first | (refine And.intro ?_ ?_) | intro _ | (refine callQ_intro (impl_DocDigests_fr _ _ (hq _ (getD_mem (by omega) _))) ?_; try (simp (disch := exact eqId (by kernel_rfl)) only [go_sem, ↓reduceIte, Nat.reduceAdd, Nat.reduceMul, Nat.reduceLT, Nat.reduceBEq, Nat.reduceLeDiff, Nat.reduceEqDiff, Int.reduceToNat])) | (refine callH_intro (fun hcc => impl_DocDigests_fr _ _ (hq _ (getD_mem (by omega) _))) ?_; try (simp (disch := exact eqId (by kernel_rfl)) only [go_sem, ↓reduceIte, Nat.reduceAdd, Nat.reduceMul, Nat.reduceLT, Nat.reduceBEq, Nat.reduceLeDiff, Nat.reduceEqDiff, Int.reduceToNat])))
    all_goals (try omega)
    all_goals (try (simp only [List.length_append, List.length_cons, List.length_nil, List.length_take, List.length_map]; omega))
    · rename_i hk
      refine back_intro (d + 1) ?_ ?_ (sub_shp hN [(10016, some 10016), (20000, some 60080)] ?_)
      · omega
      · omega
      · simp (disch := exact eqId (by kernel_rfl)) only [go_sem, ↓reduceIte, Nat.reduceAdd, Nat.reduceMul, Nat.reduceLT, Nat.reduceBEq, Nat.reduceLeDiff, Nat.reduceEqDiff, Int.reduceToNat]
        refine ⟨?_, wrap_succ' (by omega)⟩
        rw [← take_snoc (show d < List.length e.1 by omega) ([], [], ()), List.map_append]
        rfl
    · rename_i hk
      rw [List.take_of_length_le (by omega)]
      try exact .inl rfl
    all_goals trace_state
end Go.Proofs.Ytfkdkblbhilghaa
/- What functions of redacted documents answer. It proves nothing of a statement by itself. -/
set_option linter.unusedSimpArgs false
set_option linter.unusedVariables false
set_option maxRecDepth 100000
namespace Go.Proofs.Ytfkdkblbhilghaa
open Go.AL
def rPp (sh : List Bool) (ps : List ByteArray) : Nat → List ByteArray
  | 0 => []
  | k + 1 => if sh.getD k false = true then rPp sh ps k ++ [ps.getD k ByteArray.empty] else rPp sh ps k
def rPt (sh : List Bool) (ts : List Int) : Nat → List Int
  | 0 => []
  | k + 1 => if sh.getD k false = true then rPt sh ts k ++ [ts.getD k 0] else rPt sh ts k
theorem rPp_len (sh : List Bool) (ps : List ByteArray) : ∀ k, (rPp sh ps k).length ≤ k := by
  intro k
  induction k with
  | zero => exact Nat.le_refl _
  | succ k ih =>
    rw [rPp]
    split
    · rw [List.length_append, List.length_singleton]; omega
    · omega
theorem rPt_len (sh : List Bool) (ts : List Int) : ∀ k, (rPt sh ts k).length ≤ k := by
  intro k
  induction k with
  | zero => exact Nat.le_refl _
  | succ k ih =>
    rw [rPt]
    split
    · rw [List.length_append, List.length_singleton]; omega
    · omega
theorem rPp_mem (sh : List Bool) (ps : List ByteArray) : ∀ n k, k < n → sh.getD k false = true → ps.getD k ByteArray.empty ∈ rPp sh ps n := by
  intro n
  induction n with
  | zero => intro k hk; omega
  | succ n ih =>
    intro k hk h
    rw [rPp]
    rcases Nat.lt_or_ge k n with h1 | h1
    · have h2 := ih k h1 h
      split
      · exact List.mem_append_left _ h2
      · exact h2
    · have h3 : k = n := by omega
      subst h3
      rw [if_pos h]
      exact List.mem_append_right _ List.mem_cons_self
def rOK (r : tRedacted.den) (k : Nat) : Prop := (r.2.2.1.getD k false = true → (r.2.2.2.2.2.1.getD k []).length = 0) ∧ (r.2.2.1.getD k false = false → (r.2.2.2.2.2.1.getD k []).length = r.2.1.length ∧ r.2.2.2.1.getD k ByteArray.empty = ByteArray.empty ∧ r.2.2.2.2.1.getD k 0 = 0)
def rLen (r : tRedacted.den) : Prop := inB (r.2.2.1.length : Int) 1 6 = true ∧ r.2.2.2.1.length = r.2.2.1.length ∧ r.2.2.2.2.1.length = r.2.2.1.length ∧ r.2.2.2.2.2.1.length = r.2.2.1.length
def rD (r : tRedacted.den) : tDocument.den := (r.1, rPp r.2.2.1 r.2.2.2.1 r.2.2.1.length, rPt r.2.2.1 r.2.2.2.2.1 r.2.2.1.length, ())
def rEnd (r : tRedacted.den) : Prop := isD (rD r) = true ∨ (rD r).2.1.length = 0 ∧ inB r.1 0 999 = true
noncomputable def isR (r : tRedacted.den) : Bool := @decide (rLen r ∧ (∀ k, k < r.2.2.1.length → rOK r k) ∧ rEnd r) (Classical.propDecidable _)
theorem isR_l {r : tRedacted.den} (h : ¬ rLen r) : isR r = false := by
  unfold isR
  exact @decide_eq_false _ (Classical.propDecidable _) (fun q => h q.1)
theorem isR_k {r : tRedacted.den} {k : Nat} (hk : k < r.2.2.1.length) (h : ¬ rOK r k) : isR r = false := by
  unfold isR
  exact @decide_eq_false _ (Classical.propDecidable _) (fun q => h (q.2.1 k hk))
theorem isR_e {r : tRedacted.den} (h1 : rLen r) (h2 : ∀ k, k < r.2.2.1.length → rOK r k) {x : Bool} (h3 : x = true ↔ rEnd r) : x = isR r := by
  unfold isR
  cases x with
  | true => exact (@decide_eq_true _ (Classical.propDecidable _) ⟨h1, h2, h3.1 rfl⟩).symm
  | false => exact (@decide_eq_false _ (Classical.propDecidable _) (fun q => by have := h3.2 q.2.2; cases this)).symm
theorem by_e {s : ByteArray} (h : s.toList = (⟨#[]⟩ : ByteArray).toList) : s = ByteArray.empty := str_inj h
theorem rOK_t {r : tRedacted.den} {d : Nat} (h1 : r.2.2.1.getD d false = false ∨ ((r.2.2.2.2.2.1.getD d []).length : Int) = 0) (h2 : r.2.2.1.getD d false = true ∨ (((r.2.2.2.2.2.1.getD d []).length : Int) = (r.2.1.length : Int) ∧ (r.2.2.2.1.getD d ByteArray.empty).toList = (⟨#[]⟩ : ByteArray).toList) ∧ r.2.2.2.2.1.getD d 0 = 0) : rOK r d := by
  refine ⟨fun q => ?_, fun q => ?_⟩
  · rcases h1 with h1 | h1
    · rw [q] at h1; cases h1
    · omega
  · rcases h2 with h2 | h2
    · rw [q] at h2; cases h2
    · exact ⟨by omega, by_e h2.1.2, h2.2⟩
theorem rOK_f {r : tRedacted.den} {d : Nat} (h : r.2.2.1.getD d false = true ∧ ¬ ((r.2.2.2.2.2.1.getD d []).length : Int) = 0 ∨ r.2.2.1.getD d false = false ∧ ((¬ ((r.2.2.2.2.2.1.getD d []).length : Int) = (r.2.1.length : Int) ∨ ¬ (r.2.2.2.1.getD d ByteArray.empty).toList = (⟨#[]⟩ : ByteArray).toList) ∨ ¬ r.2.2.2.2.1.getD d 0 = 0)) : ¬ rOK r d := by
  intro q
  rcases h with ⟨h1, h2⟩ | ⟨h1, h2⟩
  · have := q.1 h1
    omega
  · obtain ⟨q1, q2, q3⟩ := q.2 h1
    rcases h2 with (h2 | h2) | h2
    · omega
    · exact h2 (by rw [q2]; rfl)
    · exact h2 q3
theorem rP_s {sh : List Bool} {ps : List ByteArray} {k : Nat} (h : sh.getD k false = true) : rPp sh ps (k + 1) = rPp sh ps k ++ [ps.getD k ByteArray.empty] := if_pos h
theorem rP_h {sh : List Bool} {ps : List ByteArray} {k : Nat} (h : sh.getD k false = false) : rPp sh ps (k + 1) = rPp sh ps k := if_neg (by rw [h]; decide)
theorem rT_s {sh : List Bool} {ps : List Int} {k : Nat} (h : sh.getD k false = true) : rPt sh ps (k + 1) = rPt sh ps k ++ [ps.getD k 0] := if_pos h
theorem rT_h {sh : List Bool} {ps : List Int} {k : Nat} (h : sh.getD k false = false) : rPt sh ps (k + 1) = rPt sh ps k := if_neg (by rw [h]; decide)
theorem spec_IsRedacted_ok (r : tRedacted.den) : FunOK Try.prog 135 [⟨tRedacted, r⟩] (.rd .bool (isR r)) := by
  refine fun_of (tb := tb) follows Try.func135 (by kernel_rfl) Try.ntmps135 rfl rfl rfl ?_; intro cx hN hw
  simp (disch := exact eqId (by kernel_rfl)) only [go_sem, ↓reduceIte, Nat.reduceAdd, Nat.reduceMul, Nat.reduceLT, Nat.reduceBEq, Nat.reduceLeDiff, Nat.reduceEqDiff, Int.reduceToNat]
  repeat' (first | (refine And.intro ?_ ?_) | intro _ | (refine callQ_intro (l1In_ok _ _ _) ?_; try (simp (disch := exact eqId (by kernel_rfl)) only [go_sem, ↓reduceIte, Nat.reduceAdd, Nat.reduceMul, Nat.reduceLT, Nat.reduceBEq, Nat.reduceLeDiff, Nat.reduceEqDiff, Int.reduceToNat])) | (refine callH_intro (fun hcc => l1In_ok _ _ _) ?_; try (simp (disch := exact eqId (by kernel_rfl)) only [go_sem, ↓reduceIte, Nat.reduceAdd, Nat.reduceMul, Nat.reduceLT, Nat.reduceBEq, Nat.reduceLeDiff, Nat.reduceEqDiff, Int.reduceToNat])))
  · rename_i hc
    refine (isR_l fun h => ?_).symm
    obtain ⟨h1, h2, h3, h4⟩ := h
    have h1 := inB_t.mp h1
    omega
  · rename_i hc
    have hL : rLen r := ⟨inB_t.mpr hc.1.1.1, by omega, by omega, by omega⟩
    obtain ⟨⟨⟨⟨c1, c2⟩, c3⟩, c4⟩, c5⟩ := hc
    refine loop_intro (tb := tb) follows hN (D := Nat) (fun d => shp [(1, .bp 10000 0), (3, .rd I (r.2.2.1.length : Int)), (4, .bp 50048 0), (5, .rd I (d : Int))] [(10000, .box 93 [.rd I r.1, .rd (.list I) r.2.1, .rd (.list .bool) r.2.2.1, .rd (.list .str) r.2.2.2.1, .rd (.list I) r.2.2.2.2.1, .rd (.list (.list I)) r.2.2.2.2.2.1]), (50048, .box 38 [.rd I r.1, .own 90000, .own 90001]), (90000, .row 9 .str (rPp r.2.2.1 r.2.2.2.1 d)), (90001, .row 3 I (rPt r.2.2.1 r.2.2.2.2.1 d))]) (fun d => d ≤ r.2.2.1.length ∧ ∀ j, j < d → rOK r j) (fun d => r.2.2.1.length - d) (0) ?_ (sub_shp hN [(10000, some 10000), (50048, some 50048), (90000, none), (90001, none)] ?_) (fun d hd => ?_)
    · exact ⟨Nat.zero_le _, fun j hj => absurd hj (Nat.not_lt_zero j)⟩
    · simp (disch := exact eqId (by kernel_rfl)) only [go_sem, ↓reduceIte, Nat.reduceAdd, Nat.reduceMul, Nat.reduceLT, Nat.reduceBEq, Nat.reduceLeDiff, Nat.reduceEqDiff, Int.reduceToNat]
      exact ⟨⟨rfl, rfl⟩, rfl⟩
    · obtain ⟨h1, h2⟩ := hd
      have g1 := rPp_len r.2.2.1 r.2.2.2.1 d
      have g2 := rPt_len r.2.2.1 r.2.2.2.2.1 d
      simp (disch := exact eqId (by kernel_rfl)) only [go_sem, ↓reduceIte, Nat.reduceAdd, Nat.reduceMul, Nat.reduceLT, Nat.reduceBEq, Nat.reduceLeDiff, Nat.reduceEqDiff, Int.reduceToNat]
      repeat' (first | (refine And.intro ?_ ?_) | intro _ | (refine callQ_intro (l1In_ok _ _ _) ?_; try (simp (disch := exact eqId (by kernel_rfl)) only [go_sem, ↓reduceIte, Nat.reduceAdd, Nat.reduceMul, Nat.reduceLT, Nat.reduceBEq, Nat.reduceLeDiff, Nat.reduceEqDiff, Int.reduceToNat])) | (refine callH_intro (fun hcc => l1In_ok _ _ _) ?_; try (simp (disch := exact eqId (by kernel_rfl)) only [go_sem, ↓reduceIte, Nat.reduceAdd, Nat.reduceMul, Nat.reduceLT, Nat.reduceBEq, Nat.reduceLeDiff, Nat.reduceEqDiff, Int.reduceToNat])) | (refine callQ_intro (spec_IsDocument_ok _) ?_; try (simp (disch := exact eqId (by kernel_rfl)) only [go_sem, ↓reduceIte, Nat.reduceAdd, Nat.reduceMul, Nat.reduceLT, Nat.reduceBEq, Nat.reduceLeDiff, Nat.reduceEqDiff, Int.reduceToNat])) | (refine callH_intro (fun hcc => spec_IsDocument_ok _) ?_; try (simp (disch := exact eqId (by kernel_rfl)) only [go_sem, ↓reduceIte, Nat.reduceAdd, Nat.reduceMul, Nat.reduceLT, Nat.reduceBEq, Nat.reduceLeDiff, Nat.reduceEqDiff, Int.reduceToNat])))
      all_goals (try omega)
      all_goals (try (simp only [List.length_append, List.length_cons, List.length_nil]; omega))
      all_goals (try (exfalso; simp_all only [Bool.true_eq_false, Bool.false_eq_true, false_or, or_false, and_false, false_and, not_true_eq_false]; done))
      all_goals (try (left; assumption))
      all_goals (try (rename_i q; exact q.2))
      · rename_i hk q1 q2
        exact (isR_k (by omega) (rOK_f q2)).symm
      · rename_i hk q1 q2
        refine back_intro (d + 1) ?_ ?_ (sub_shp hN [(10000, some 10000), (50048, some 50048), (90000, some 100128), (90001, some 110128)] ?_)
        · refine ⟨by omega, fun j hj => ?_⟩
          rcases Nat.lt_or_ge j d with h | h
          · exact h2 j h
          · rw [show j = d by omega]
            exact rOK_t q2.1 q2.2
        · omega
        · simp (disch := exact eqId (by kernel_rfl)) only [go_sem, ↓reduceIte, Nat.reduceAdd, Nat.reduceMul, Nat.reduceLT, Nat.reduceBEq, Nat.reduceLeDiff, Nat.reduceEqDiff, Int.reduceToNat]
          exact ⟨⟨(rP_s q1).symm, (rT_s q1).symm⟩, wrap_succ' (by omega)⟩
      · rename_i hk q1 q2
        exact (isR_k (by omega) (rOK_f q2)).symm
      · rename_i hk q1 q2
        refine back_intro (d + 1) ?_ ?_ (sub_shp hN [(10000, some 10000), (50048, some 50048), (90000, some 90000), (90001, some 90001)] ?_)
        · refine ⟨by omega, fun j hj => ?_⟩
          rcases Nat.lt_or_ge j d with h | h
          · exact h2 j h
          · rw [show j = d by omega]
            exact rOK_t q2.1 q2.2
        · omega
        · simp (disch := exact eqId (by kernel_rfl)) only [go_sem, ↓reduceIte, Nat.reduceAdd, Nat.reduceMul, Nat.reduceLT, Nat.reduceBEq, Nat.reduceLeDiff, Nat.reduceEqDiff, Int.reduceToNat]
          exact ⟨⟨(rP_h q1).symm, (rT_h q1).symm⟩, wrap_succ' (by omega)⟩
      · rename_i hk
        have hk : d = r.2.2.1.length := by omega
        subst hk
        refine isR_e hL h2 ?_
        show _ ↔ isD (rD r) = true ∨ (rD r).2.1.length = 0 ∧ inB r.1 0 999 = true
        simp only [Bool.or_eq_true, Bool.and_eq_true, beq_iff_eq, inB]
        refine or_congr Iff.rfl (and_congr ⟨fun h => by have : ((rD r).2.1.length : Int) = 0 := h; omega, fun h => ?_⟩ Iff.rfl)
        show ((rD r).2.1.length : Int) = 0
        omega
      all_goals trace_state
theorem rOK_f1 {r : tRedacted.den} {d : Nat} (h : r.2.2.1.getD d false = true) (h2 : 0 < ((r.2.2.2.2.2.1.getD d []).length : Int)) : ¬ rOK r d := rOK_f (.inl ⟨h, by omega⟩)
theorem impl_IsRedacted_ok (r : tRedacted.den) : FunOK Try.prog 137 [⟨tRedacted, r⟩] (.rd .bool (isR r)) := by
  refine fun_of (tb := tb) follows Try.func137 (by kernel_rfl) Try.ntmps137 rfl rfl rfl ?_; intro cx hN hw
  simp (disch := exact eqId (by kernel_rfl)) only [go_sem, ↓reduceIte, Nat.reduceAdd, Nat.reduceMul, Nat.reduceLT, Nat.reduceBEq, Nat.reduceLeDiff, Nat.reduceEqDiff, Int.reduceToNat]
  repeat' (first | (refine And.intro ?_ ?_) | intro _ | (refine callQ_intro (inRange_ok _ _ _) ?_; try (simp (disch := exact eqId (by kernel_rfl)) only [go_sem, ↓reduceIte, Nat.reduceAdd, Nat.reduceMul, Nat.reduceLT, Nat.reduceBEq, Nat.reduceLeDiff, Nat.reduceEqDiff, Int.reduceToNat])) | (refine callH_intro (fun hcc => inRange_ok _ _ _) ?_; try (simp (disch := exact eqId (by kernel_rfl)) only [go_sem, ↓reduceIte, Nat.reduceAdd, Nat.reduceMul, Nat.reduceLT, Nat.reduceBEq, Nat.reduceLeDiff, Nat.reduceEqDiff, Int.reduceToNat])))
  · rename_i hc
    refine (isR_l fun h => ?_).symm
    obtain ⟨h1, h2, h3, h4⟩ := h
    have h1 := inB_t.mp h1
    omega
  · rename_i hc
    have hL : rLen r := ⟨inB_t.mpr hc.1.1.1, by omega, by omega, by omega⟩
    obtain ⟨⟨⟨⟨c1, c2⟩, c3⟩, c4⟩, c5⟩ := hc
    refine loop_intro (tb := tb) follows hN (D := Nat) (fun d => shp [(1, .bp 10000 0), (4, .bp 50048 0), (38, .rd (.list .bool) (r.2.2.1)), (39, .rd I (((r.2.2.1).length : Int) : Int)), (40, .rd I (d : Int))] [(10000, .box 93 [.rd I r.1, .rd (.list I) r.2.1, .rd (.list .bool) r.2.2.1, .rd (.list .str) r.2.2.2.1, .rd (.list I) r.2.2.2.2.1, .rd (.list (.list I)) r.2.2.2.2.2.1]), (50048, .box 38 [.rd I r.1, .own 90000, .own 90001]), (90000, .row 9 .str (rPp r.2.2.1 r.2.2.2.1 d)), (90001, .row 3 I (rPt r.2.2.1 r.2.2.2.2.1 d))]) (fun d => d ≤ r.2.2.1.length ∧ ∀ j, j < d → rOK r j) (fun d => r.2.2.1.length - d) (0) ?_ (sub_shp hN [(10000, some 10000), (50048, some 50048), (90000, none), (90001, none)] ?_) (fun d hd => ?_)
    · exact ⟨Nat.zero_le _, fun j hj => absurd hj (Nat.not_lt_zero j)⟩
    · simp (disch := exact eqId (by kernel_rfl)) only [go_sem, ↓reduceIte, Nat.reduceAdd, Nat.reduceMul, Nat.reduceLT, Nat.reduceBEq, Nat.reduceLeDiff, Nat.reduceEqDiff, Int.reduceToNat]
      exact ⟨⟨rfl, rfl⟩, rfl⟩
    · obtain ⟨h1, h2⟩ := hd
      have g1 := rPp_len r.2.2.1 r.2.2.2.1 d
      have g2 := rPt_len r.2.2.1 r.2.2.2.2.1 d
      simp (disch := exact eqId (by kernel_rfl)) only [go_sem, ↓reduceIte, Nat.reduceAdd, Nat.reduceMul, Nat.reduceLT, Nat.reduceBEq, Nat.reduceLeDiff, Nat.reduceEqDiff, Int.reduceToNat]
      repeat' (first | (refine And.intro ?_ ?_) | intro _ | (refine callQ_intro (inRange_ok _ _ _) ?_; try (simp (disch := exact eqId (by kernel_rfl)) only [go_sem, ↓reduceIte, Nat.reduceAdd, Nat.reduceMul, Nat.reduceLT, Nat.reduceBEq, Nat.reduceLeDiff, Nat.reduceEqDiff, Int.reduceToNat])) | (refine callH_intro (fun hcc => inRange_ok _ _ _) ?_; try (simp (disch := exact eqId (by kernel_rfl)) only [go_sem, ↓reduceIte, Nat.reduceAdd, Nat.reduceMul, Nat.reduceLT, Nat.reduceBEq, Nat.reduceLeDiff, Nat.reduceEqDiff, Int.reduceToNat])) | (refine callQ_intro (impl_IsDocument_ok _) ?_; try (simp (disch := exact eqId (by kernel_rfl)) only [go_sem, ↓reduceIte, Nat.reduceAdd, Nat.reduceMul, Nat.reduceLT, Nat.reduceBEq, Nat.reduceLeDiff, Nat.reduceEqDiff, Int.reduceToNat])) | (refine callH_intro (fun hcc => impl_IsDocument_ok _) ?_; try (simp (disch := exact eqId (by kernel_rfl)) only [go_sem, ↓reduceIte, Nat.reduceAdd, Nat.reduceMul, Nat.reduceLT, Nat.reduceBEq, Nat.reduceLeDiff, Nat.reduceEqDiff, Int.reduceToNat])))
      all_goals (try omega)
      all_goals (try (simp only [List.length_append, List.length_cons, List.length_nil]; omega))
      all_goals (try (exfalso; simp_all only [Bool.true_eq_false, Bool.false_eq_true, false_or, or_false, and_false, false_and, not_true_eq_false]; done))
      all_goals (try (left; assumption))
      all_goals (try (rename_i q; exact q.2))
      · rename_i hk q1 q2
        exact (isR_k (by omega) (rOK_f1 q1 q2)).symm
      · rename_i hk q1 q2
        refine back_intro (d + 1) ?_ ?_ (sub_shp hN [(10000, some 10000), (50048, some 50048), (90000, some 120128), (90001, some 130128)] ?_)
        · refine ⟨by omega, fun j hj => ?_⟩
          rcases Nat.lt_or_ge j d with h | h
          · exact h2 j h
          · rw [show j = d by omega]
            exact rOK_t (.inr (by omega)) (.inl q1)
        · omega
        · simp (disch := exact eqId (by kernel_rfl)) only [go_sem, ↓reduceIte, Nat.reduceAdd, Nat.reduceMul, Nat.reduceLT, Nat.reduceBEq, Nat.reduceLeDiff, Nat.reduceEqDiff, Int.reduceToNat]
          exact ⟨⟨(rP_s q1).symm, (rT_s q1).symm⟩, wrap_succ' (by omega)⟩
      · rename_i hk q1 q2
        exact (isR_k (by omega) (rOK_f (.inr ⟨q1, by rcases q2 with (q2 | q2) | q2 <;> first | exact .inl (.inr q2) | exact .inr q2 | exact .inl (.inl q2)⟩))).symm
      · rename_i hk q1 q2
        refine back_intro (d + 1) ?_ ?_ (sub_shp hN [(10000, some 10000), (50048, some 50048), (90000, some 90000), (90001, some 90001)] ?_)
        · refine ⟨by omega, fun j hj => ?_⟩
          rcases Nat.lt_or_ge j d with h | h
          · exact h2 j h
          · rw [show j = d by omega]
            exact rOK_t (.inl q1) (.inr ⟨⟨q2.2, q2.1.1⟩, q2.1.2⟩)
        · omega
        · simp (disch := exact eqId (by kernel_rfl)) only [go_sem, ↓reduceIte, Nat.reduceAdd, Nat.reduceMul, Nat.reduceLT, Nat.reduceBEq, Nat.reduceLeDiff, Nat.reduceEqDiff, Int.reduceToNat]
          exact ⟨⟨(rP_h q1).symm, (rT_h q1).symm⟩, wrap_succ' (by omega)⟩
      · rename_i hk
        have hk : d = r.2.2.1.length := by omega
        subst hk
        refine isR_e hL h2 ?_
        show _ ↔ isD (rD r) = true ∨ (rD r).2.1.length = 0 ∧ inB r.1 0 999 = true
        simp only [Bool.or_eq_true, Bool.and_eq_true, beq_iff_eq, inB]
        refine or_congr Iff.rfl (and_congr ⟨fun h => by have : ((rD r).2.1.length : Int) = 0 := h; omega, fun h => ?_⟩ Iff.rfl)
        show ((rD r).2.1.length : Int) = 0
        omega
      all_goals trace_state
end Go.Proofs.Ytfkdkblbhilghaa
/- What functions of redacted documents' digests answer. It proves nothing of a statement by itself. -/
set_option linter.unusedSimpArgs false
set_option linter.unusedVariables false
set_option maxRecDepth 100000
namespace Go.Proofs.Ytfkdkblbhilghaa
open Go.AL
def csF (sh : List Bool) : Nat → Nat
  | 0 => 0
  | k + 1 => if sh.getD k false = true then csF sh k + 1 else csF sh k
theorem csF_le (sh : List Bool) : ∀ k, csF sh k ≤ k := by
  intro k
  induction k with
  | zero => exact Nat.le_refl _
  | succ k ih =>
    rw [csF]
    split <;> omega
theorem csF_s {sh : List Bool} {k : Nat} (h : sh.getD k false = true) : csF sh (k + 1) = csF sh k + 1 := if_pos h
theorem csF_h {sh : List Bool} {k : Nat} (h : sh.getD k false = false) : csF sh (k + 1) = csF sh k := if_neg (by rw [h]; decide)
theorem csF_lt {sh : List Bool} {d : Nat} (h : sh.getD d false = false) : ∀ n, d < n → csF sh n < n := by
  intro n
  induction n with
  | zero => intro hd; omega
  | succ n ih =>
    intro hd
    rcases Nat.lt_or_ge d n with h1 | h1
    · have := ih h1
      rw [csF]
      split <;> omega
    · have h2 : d = n := by omega
      subst h2
      rw [csF_h h]
      have := csF_le sh d
      omega
theorem csF_eq {sh : List Bool} {n : Nat} (h : ¬ csF sh n < n) {d : Nat} (hd : d < n) : sh.getD d false = true := by
  cases h1 : sh.getD d false with
  | true => rfl
  | false => exact absurd (csF_lt h1 n hd) h
def ixF (m : Int) : List Int → Nat
  | [] => 0
  | x :: xs => if x = m then 0 else ixF m xs + 1
theorem ixF_le (m : Int) : ∀ l : List Int, ixF m l ≤ l.length
  | [] => Nat.le_refl _
  | x :: xs => by
    rw [ixF]
    have := ixF_le m xs
    split <;> simp only [List.length_cons] <;> omega
theorem ixF_fin (m : Int) : ∀ (l : List Int) (i : Int), finF (fun x : Int => x) m l i = if ixF m l < l.length then i + ixF m l else -1
  | [], i => rfl
  | x :: xs, i => by
    rw [finF, ixF]
    split
    · rw [if_pos (by simp only [List.length_cons]; omega)]; simp
    · rw [ixF_fin m xs (i + 1)]
      by_cases h : ixF m xs < xs.length
      · rw [if_pos h, if_pos (by simp only [List.length_cons]; omega)]; omega
      · rw [if_neg h, if_neg (by simp only [List.length_cons]; omega)]
theorem ixF_at (m : Int) : ∀ (l : List Int) (k : Nat), k ≤ l.length → (∀ j, j < k → l.getD j 0 ≠ m) → (k = l.length ∨ l.getD k 0 = m) → ixF m l = k
  | [], k, h1, h2, h3 => by simp only [List.length_nil] at h1; rw [ixF]; omega
  | x :: xs, 0, h1, h2, h3 => by
    rcases h3 with h3 | h3
    · simp only [List.length_cons] at h3; omega
    · rw [ixF]; exact if_pos h3
  | x :: xs, k + 1, h1, h2, h3 => by
    have h4 : ¬ x = m := h2 0 (by omega)
    rw [ixF, if_neg h4, ixF_at m xs k (by simp only [List.length_cons] at h1; omega) (fun j hj => h2 (j + 1) (by omega)) (by
      rcases h3 with h3 | h3
      · left; simp only [List.length_cons] at h3; omega
      · right; exact h3)]
def rdL (m : Int) (r : tRedacted.den) (a k : Nat) : List Int := (List.range k).map (fun i => if r.2.2.1.getD i false = true then ptF m (r.2.2.2.1.getD i ByteArray.empty) (r.2.2.2.2.1.getD i 0) else (r.2.2.2.2.2.1.getD i []).getD a 0)
theorem rdL_len (m : Int) (r : tRedacted.den) (a k : Nat) : (rdL m r a k).length = k := by unfold rdL; rw [List.length_map, List.length_range]
theorem rdL_s {m : Int} {r : tRedacted.den} {a k : Nat} {t : Int} (h : r.2.2.1.getD k false = true) : (t :: rdL m r a k) ++ [ptF m (r.2.2.2.1.getD k ByteArray.empty) (r.2.2.2.2.1.getD k 0)] = t :: rdL m r a (k + 1) := by
  unfold rdL
  rw [List.range_succ, List.map_append, List.map_cons, List.map_nil, if_pos h]
  rfl
theorem rdL_h {m : Int} {r : tRedacted.den} {a k : Nat} {t : Int} (h : r.2.2.1.getD k false = false) : (t :: rdL m r a k) ++ [(r.2.2.2.2.2.1.getD k []).getD a 0] = t :: rdL m r a (k + 1) := by
  unfold rdL
  rw [List.range_succ, List.map_append, List.map_cons, List.map_nil, if_neg (by rw [h]; decide)]
  rfl
noncomputable def rxF (m : Int) (r : tRedacted.den) : Int := if isR r = false then -1 else if ixF m r.2.1 = r.2.1.length ∧ csF r.2.2.1 r.2.2.1.length < r.2.2.1.length then -1 else digF m (r.1 :: rdL m r (ixF m r.2.1) r.2.2.1.length)
theorem rxF_n {m : Int} {r : tRedacted.den} (h : isR r = false) : rxF m r = -1 := if_pos h
theorem rxF_b {m : Int} {r : tRedacted.den} (h : isR r = true) (h1 : ixF m r.2.1 = r.2.1.length) (h2 : csF r.2.2.1 r.2.2.1.length < r.2.2.1.length) : rxF m r = -1 := by
  unfold rxF
  rw [if_neg (by rw [h]; decide), if_pos ⟨h1, h2⟩]
theorem rxF_y {m : Int} {r : tRedacted.den} (h : isR r = true) (h1 : ¬ (ixF m r.2.1 = r.2.1.length ∧ csF r.2.2.1 r.2.2.1.length < r.2.2.1.length)) : rxF m r = digF m (r.1 :: rdL m r (ixF m r.2.1) r.2.2.1.length) := by
  unfold rxF
  rw [if_neg (by rw [h]; decide), if_neg h1]
theorem isR_ok {r : tRedacted.den} (h : isR r = true) : rLen r ∧ (∀ k, k < r.2.2.1.length → rOK r k) ∧ rEnd r := by
  unfold isR at h
  exact @of_decide_eq_true _ (Classical.propDecidable _) h
theorem isR_p {r : tRedacted.den} (h : isR r = true) {k : Nat} (hk : k < r.2.2.1.length) (hs : r.2.2.1.getD k false = true) : (r.2.2.2.1.getD k ByteArray.empty).size ≤ 1000000 := by
  have hm : r.2.2.2.1.getD k ByteArray.empty ∈ (rD r).2.1 := rPp_mem r.2.2.1 r.2.2.2.1 _ k hk hs
  rcases (isR_ok h).2.2 with h1 | h1
  · exact Nat.le_trans ((isD_len h1).2.2 _ hm) (by decide)
  · rw [List.length_eq_zero_iff.1 h1.1] at hm
    cases hm
theorem CountShown_ok (r : tRedacted.den) : FunOK Try.prog 138 [⟨tRedacted, r⟩] (.rd I (csF r.2.2.1 r.2.2.1.length : Int)) := by
  refine fun_of (tb := tb) follows Try.func138 (by kernel_rfl) Try.ntmps138 rfl rfl rfl ?_; intro cx hN hw
  have hp1 : r.2.2.1.length ≤ maxLen := hw.1.2.2.1.1
  have hm : maxLen = 9223372036854775807 := rfl
  simp (disch := exact eqId (by kernel_rfl)) only [go_sem, ↓reduceIte, Nat.reduceAdd, Nat.reduceMul, Nat.reduceLT, Nat.reduceBEq, Nat.reduceLeDiff, Nat.reduceEqDiff, Int.reduceToNat]
  refine loop_intro (tb := tb) follows hN (D := Nat) (fun d => shp [(3, .rd I (csF r.2.2.1 d : Int)), (7, .rd (.list .bool) (r.2.2.1)), (8, .rd I (((r.2.2.1).length : Int) : Int)), (9, .rd I (d : Int))] []) (fun d => d ≤ r.2.2.1.length) (fun d => r.2.2.1.length - d) (0) ?_ (sub_shp hN [] ?_) (fun d hd => ?_)
  · exact Nat.zero_le _
  · simp (disch := exact eqId (by kernel_rfl)) only [go_sem, ↓reduceIte, Nat.reduceAdd, Nat.reduceMul, Nat.reduceLT, Nat.reduceBEq, Nat.reduceLeDiff, Nat.reduceEqDiff, Int.reduceToNat]
    try exact ⟨rfl, rfl⟩
    try rfl
  · have hc := csF_le r.2.2.1 d
    simp (disch := exact eqId (by kernel_rfl)) only [go_sem, ↓reduceIte, Nat.reduceAdd, Nat.reduceMul, Nat.reduceLT, Nat.reduceBEq, Nat.reduceLeDiff, Nat.reduceEqDiff, Int.reduceToNat]
    repeat' (first | (refine And.intro ?_ ?_) | intro _)
    all_goals (try omega)
    · rename_i hk q
      refine back_intro (d + 1) ?_ ?_ (sub_shp hN [] ?_)
      · omega
      · omega
      · simp (disch := exact eqId (by kernel_rfl)) only [go_sem, ↓reduceIte, Nat.reduceAdd, Nat.reduceMul, Nat.reduceLT, Nat.reduceBEq, Nat.reduceLeDiff, Nat.reduceEqDiff, Int.reduceToNat]
        rw [csF_s q]
        exact ⟨wrap_succ (show csF r.2.2.1 d < r.2.2.1.length by omega) hp1, wrap_succ (show d < r.2.2.1.length by omega) hp1⟩
    · rename_i hk q
      refine back_intro (d + 1) ?_ ?_ (sub_shp hN [] ?_)
      · omega
      · omega
      · simp (disch := exact eqId (by kernel_rfl)) only [go_sem, ↓reduceIte, Nat.reduceAdd, Nat.reduceMul, Nat.reduceLT, Nat.reduceBEq, Nat.reduceLeDiff, Nat.reduceEqDiff, Int.reduceToNat]
        rw [csF_h q]
        exact ⟨rfl, wrap_succ (show d < r.2.2.1.length by omega) hp1⟩
    · rename_i hk
      rw [show d = r.2.2.1.length by omega]
    all_goals trace_state
theorem spec_RedactedDigest_ok (m : Int) (r : tRedacted.den) : FunOK Try.prog 100 [⟨I, m⟩, ⟨tRedacted, r⟩] (.rd I (rxF m r)) := by
  refine fun_of (tb := tb) follows Try.func100 (by kernel_rfl) Try.ntmps100 rfl rfl rfl ?_; intro cx hN hw
  have hp1 : r.2.1.length ≤ maxLen := hw.2.1.2.1.1
  simp (disch := exact eqId (by kernel_rfl)) only [go_sem, ↓reduceIte, Nat.reduceAdd, Nat.reduceMul, Nat.reduceLT, Nat.reduceBEq, Nat.reduceLeDiff, Nat.reduceEqDiff, Int.reduceToNat]
  repeat' (first | (refine And.intro ?_ ?_) | intro _ | (refine callQ_intro (spec_IsRedacted_ok _) ?_; try (simp (disch := exact eqId (by kernel_rfl)) only [go_sem, ↓reduceIte, Nat.reduceAdd, Nat.reduceMul, Nat.reduceLT, Nat.reduceBEq, Nat.reduceLeDiff, Nat.reduceEqDiff, Int.reduceToNat])) | (refine callH_intro (fun hcc => spec_IsRedacted_ok _) ?_; try (simp (disch := exact eqId (by kernel_rfl)) only [go_sem, ↓reduceIte, Nat.reduceAdd, Nat.reduceMul, Nat.reduceLT, Nat.reduceBEq, Nat.reduceLeDiff, Nat.reduceEqDiff, Int.reduceToNat])))
  · rename_i hc
    exact (rxF_n hc).symm
  · rename_i hc
    have hc : isR r = true := hc
    obtain ⟨hL, hK, hE⟩ := isR_ok hc
    obtain ⟨e1, e2, e3, e4⟩ := hL
    have e1 := inB_t.mp e1
    refine loop_intro (tb := tb) follows hN (D := Nat) (fun d => shp [(0, .rd I m), (3, .bp 10000 0), (5, .rd I (d : Int))] [(10000, .box 93 [.rd I r.1, .rd (.list I) r.2.1, .rd (.list .bool) r.2.2.1, .rd (.list .str) r.2.2.2.1, .rd (.list I) r.2.2.2.2.1, .rd (.list (.list I)) r.2.2.2.2.2.1])]) (fun d => d ≤ r.2.1.length ∧ ∀ j, j < d → r.2.1.getD j 0 ≠ m) (fun d => r.2.1.length - d) (0) ?_ (sub_shp hN [(10000, some 10000)] ?_) (fun d hd => ?_)
    · exact ⟨Nat.zero_le _, fun j hj => absurd hj (Nat.not_lt_zero j)⟩
    · simp (disch := exact eqId (by kernel_rfl)) only [go_sem, ↓reduceIte, Nat.reduceAdd, Nat.reduceMul, Nat.reduceLT, Nat.reduceBEq, Nat.reduceLeDiff, Nat.reduceEqDiff, Int.reduceToNat]
      try rfl
      try exact ⟨rfl, rfl⟩
    · obtain ⟨h1, h2⟩ := hd
      simp (disch := exact eqId (by kernel_rfl)) only [go_sem, ↓reduceIte, Nat.reduceAdd, Nat.reduceMul, Nat.reduceLT, Nat.reduceBEq, Nat.reduceLeDiff, Nat.reduceEqDiff, Int.reduceToNat]
      repeat' (first | (refine And.intro ?_ ?_) | intro _)
      all_goals (try omega)
      · rename_i q
        refine back_intro (d + 1) ?_ ?_ (sub_shp hN [(10000, some 10000)] ?_)
        · refine ⟨by omega, fun j hj => ?_⟩
          rcases Nat.lt_or_ge j d with h | h
          · exact h2 j h
          · rw [show j = d by omega]
            exact q.2
        · omega
        · simp (disch := exact eqId (by kernel_rfl)) only [go_sem, ↓reduceIte, Nat.reduceAdd, Nat.reduceMul, Nat.reduceLT, Nat.reduceBEq, Nat.reduceLeDiff, Nat.reduceEqDiff, Int.reduceToNat]
          exact wrap_succ (show d < r.2.1.length by omega) hp1
      · rename_i q
        have hix := ixF_at m r.2.1 d h1 h2 (by rcases q with q | q; (left; omega); (right; exact q))
        subst hix
        refine loop_intro (tb := tb) follows hN (D := Nat) (fun d => shp [(0, .rd I m), (3, .bp 10000 0), (5, .rd I (ixF m r.2.1 : Int)), (6, .own 70032), (7, .rd I (d : Int))] [(10000, .box 93 [.rd I r.1, .rd (.list I) r.2.1, .rd (.list .bool) r.2.2.1, .rd (.list .str) r.2.2.2.1, .rd (.list I) r.2.2.2.2.1, .rd (.list (.list I)) r.2.2.2.2.2.1]), (70032, .row 3 I (r.1 :: rdL m r (ixF m r.2.1) d))]) (fun d => d ≤ r.2.2.1.length ∧ (ixF m r.2.1 = r.2.1.length → csF r.2.2.1 d = d)) (fun d => r.2.2.1.length - d) (0) ?_ (sub_shp hN [(10000, some 10000), (70032, some 70032)] ?_) (fun d hd => ?_)
        · exact ⟨Nat.zero_le _, fun _ => rfl⟩
        · simp (disch := exact eqId (by kernel_rfl)) only [go_sem, ↓reduceIte, Nat.reduceAdd, Nat.reduceMul, Nat.reduceLT, Nat.reduceBEq, Nat.reduceLeDiff, Nat.reduceEqDiff, Int.reduceToNat]
          try exact ⟨rfl, rfl⟩
          try rfl
        · obtain ⟨h3, h4⟩ := hd
          have hlD : ∀ a k, k ≤ 6 → (r.1 :: rdL m r a k).length ≤ 1073741824 := fun a k hk => by rw [List.length_cons, rdL_len]; omega
          have hlE : ∀ a k, (rdL m r a k).length = k := rdL_len m r
          have hlA := ixF_le m r.2.1
          simp (disch := exact eqId (by kernel_rfl)) only [go_sem, ↓reduceIte, Nat.reduceAdd, Nat.reduceMul, Nat.reduceLT, Nat.reduceBEq, Nat.reduceLeDiff, Nat.reduceEqDiff, Int.reduceToNat]
          repeat' (first | (refine And.intro ?_ ?_) | intro _ | (refine callQ_intro (spec_PartDigest_ok _ _ _ (isR_p hc (by omega) (by assumption))) ?_; try (simp (disch := exact eqId (by kernel_rfl)) only [go_sem, ↓reduceIte, Nat.reduceAdd, Nat.reduceMul, Nat.reduceLT, Nat.reduceBEq, Nat.reduceLeDiff, Nat.reduceEqDiff, Int.reduceToNat])) | (refine callH_intro (fun hcc => spec_PartDigest_ok _ _ _ (isR_p hc (by omega) (by assumption))) ?_; try (simp (disch := exact eqId (by kernel_rfl)) only [go_sem, ↓reduceIte, Nat.reduceAdd, Nat.reduceMul, Nat.reduceLT, Nat.reduceBEq, Nat.reduceLeDiff, Nat.reduceEqDiff, Int.reduceToNat])) | (refine callQ_intro (spec_DigestOf_ok _ _ (hlD _ _ (by omega))) ?_; try (simp (disch := exact eqId (by kernel_rfl)) only [go_sem, ↓reduceIte, Nat.reduceAdd, Nat.reduceMul, Nat.reduceLT, Nat.reduceBEq, Nat.reduceLeDiff, Nat.reduceEqDiff, Int.reduceToNat])) | (refine callH_intro (fun hcc => spec_DigestOf_ok _ _ (hlD _ _ (by omega))) ?_; try (simp (disch := exact eqId (by kernel_rfl)) only [go_sem, ↓reduceIte, Nat.reduceAdd, Nat.reduceMul, Nat.reduceLT, Nat.reduceBEq, Nat.reduceLeDiff, Nat.reduceEqDiff, Int.reduceToNat])))
          all_goals (try omega)
          all_goals (try (simp only [List.length_append, List.length_cons, List.length_nil, hlE]; omega))
          · rename_i hk q1
            refine back_intro (d + 1) ?_ ?_ (sub_shp hN [(10000, some 10000), (70032, some 120224)] ?_)
            · refine ⟨by omega, fun h => ?_⟩
              rw [csF_s q1, h4 h]
            · omega
            · simp (disch := exact eqId (by kernel_rfl)) only [go_sem, ↓reduceIte, Nat.reduceAdd, Nat.reduceMul, Nat.reduceLT, Nat.reduceBEq, Nat.reduceLeDiff, Nat.reduceEqDiff, Int.reduceToNat]
              exact ⟨rdL_s q1, wrap_succ' (by omega)⟩
          · rename_i hk q1 q2
            exact (rxF_b hc (by omega) (csF_lt q1 _ (by omega))).symm
          · rename_i hk q1 q2
            have hx := ((hK d (by omega)).2 q1).1
            omega
          · rename_i hk q1 q2
            refine back_intro (d + 1) ?_ ?_ (sub_shp hN [(10000, some 10000), (70032, some 150160)] ?_)
            · exact ⟨by omega, fun h => absurd (congrArg Int.ofNat h) q2⟩
            · omega
            · simp (disch := exact eqId (by kernel_rfl)) only [go_sem, ↓reduceIte, Nat.reduceAdd, Nat.reduceMul, Nat.reduceLT, Nat.reduceBEq, Nat.reduceLeDiff, Nat.reduceEqDiff, Int.reduceToNat]
              exact ⟨rdL_h q1, wrap_succ' (by omega)⟩
          · rename_i hk
            have hk : d = r.2.2.1.length := by omega
            rw [hk] at h4 ⊢
            exact (rxF_y hc (fun q => by have := h4 q.1; omega)).symm
          all_goals trace_state
theorem impl_RedactedDigest_ok (m : Int) (r : tRedacted.den) : FunOK Try.prog 103 [⟨I, m⟩, ⟨tRedacted, r⟩] (.rd I (rxF m r)) := by
  refine fun_of (tb := tb) follows Try.func103 (by kernel_rfl) Try.ntmps103 rfl rfl rfl ?_; intro cx hN hw
  simp (disch := exact eqId (by kernel_rfl)) only [go_sem, ↓reduceIte, Nat.reduceAdd, Nat.reduceMul, Nat.reduceLT, Nat.reduceBEq, Nat.reduceLeDiff, Nat.reduceEqDiff, Int.reduceToNat]
  have hx := ixF_fin m r.2.1 0
  have hlA := ixF_le m r.2.1
  repeat' (first | (refine And.intro ?_ ?_) | intro _ | (refine callQ_intro (impl_indexOf_ok _ _) ?_; try (simp (disch := exact eqId (by kernel_rfl)) only [go_sem, ↓reduceIte, Nat.reduceAdd, Nat.reduceMul, Nat.reduceLT, Nat.reduceBEq, Nat.reduceLeDiff, Nat.reduceEqDiff, Int.reduceToNat])) | (refine callH_intro (fun hcc => impl_indexOf_ok _ _) ?_; try (simp (disch := exact eqId (by kernel_rfl)) only [go_sem, ↓reduceIte, Nat.reduceAdd, Nat.reduceMul, Nat.reduceLT, Nat.reduceBEq, Nat.reduceLeDiff, Nat.reduceEqDiff, Int.reduceToNat])) | (refine callQ_intro (impl_IsRedacted_ok _) ?_; try (simp (disch := exact eqId (by kernel_rfl)) only [go_sem, ↓reduceIte, Nat.reduceAdd, Nat.reduceMul, Nat.reduceLT, Nat.reduceBEq, Nat.reduceLeDiff, Nat.reduceEqDiff, Int.reduceToNat])) | (refine callH_intro (fun hcc => impl_IsRedacted_ok _) ?_; try (simp (disch := exact eqId (by kernel_rfl)) only [go_sem, ↓reduceIte, Nat.reduceAdd, Nat.reduceMul, Nat.reduceLT, Nat.reduceBEq, Nat.reduceLeDiff, Nat.reduceEqDiff, Int.reduceToNat])) | (refine callQ_intro (CountShown_ok _) ?_; try (simp (disch := exact eqId (by kernel_rfl)) only [go_sem, ↓reduceIte, Nat.reduceAdd, Nat.reduceMul, Nat.reduceLT, Nat.reduceBEq, Nat.reduceLeDiff, Nat.reduceEqDiff, Int.reduceToNat])) | (refine callH_intro (fun hcc => CountShown_ok _) ?_; try (simp (disch := exact eqId (by kernel_rfl)) only [go_sem, ↓reduceIte, Nat.reduceAdd, Nat.reduceMul, Nat.reduceLT, Nat.reduceBEq, Nat.reduceLeDiff, Nat.reduceEqDiff, Int.reduceToNat])))
  all_goals (try assumption)
  · rename_i q
    rcases q with q | q
    · exact (rxF_n q).symm
    · cases hq : isR r with
      | false => exact (rxF_n hq).symm
      | true =>
        refine (rxF_b hq ?_ (by omega)).symm
        rcases Nat.lt_or_ge (ixF m r.2.1) r.2.1.length with h | h
        · rw [if_pos h] at hx; omega
        · omega
  · rename_i q
    have hc : isR r = true := q.1
    obtain ⟨hL, hK, hE⟩ := isR_ok hc
    obtain ⟨e1, e2, e3, e4⟩ := hL
    have e1 := inB_t.mp e1
    have hz : finF (fun x : Int => x) m r.2.1 0 < 0 ↔ ixF m r.2.1 = r.2.1.length := by
      rcases Nat.lt_or_ge (ixF m r.2.1) r.2.1.length with h | h
      · rw [if_pos h] at hx; omega
      · rw [if_neg (by omega)] at hx; omega
    have hh : ∀ d, d < r.2.2.1.length → r.2.2.1.getD d false = false → finF (fun x : Int => x) m r.2.1 0 = ixF m r.2.1 ∧ ixF m r.2.1 < r.2.1.length ∧ (r.2.2.2.2.2.1.getD d []).length = r.2.1.length := fun d hd hs => by
      have h1 := csF_lt hs _ hd
      have h2 := ((hK d hd).2 hs).1
      rcases Nat.lt_or_ge (ixF m r.2.1) r.2.1.length with h | h
      · rw [if_pos h] at hx; omega
      · rw [if_neg (by omega)] at hx; omega
    have hw1 : ¬ (ixF m r.2.1 = r.2.1.length ∧ csF r.2.2.1 r.2.2.1.length < r.2.2.1.length) := fun h => by
      have := hz.2 h.1
      omega
    refine loop_intro (tb := tb) follows hN (D := Nat) (fun d => shp [(0, .rd I m), (3, .bp 10000 0), (5, .rd I (finF (fun x : Int => x) m r.2.1 0 : Int)), (6, .own 50032), (32, .rd (.list .bool) (r.2.2.1)), (33, .rd I (((r.2.2.1).length : Int) : Int)), (34, .rd I (d : Int))] [(10000, .box 93 [.rd I r.1, .rd (.list I) r.2.1, .rd (.list .bool) r.2.2.1, .rd (.list .str) r.2.2.2.1, .rd (.list I) r.2.2.2.2.1, .rd (.list (.list I)) r.2.2.2.2.2.1]), (50032, .row 3 I (r.1 :: rdL m r (ixF m r.2.1) d))]) (fun d => d ≤ r.2.2.1.length) (fun d => r.2.2.1.length - d) (0) ?_ (sub_shp hN [(10000, some 10000), (50032, some 50032)] ?_) (fun d hd => ?_)
    · exact Nat.zero_le _
    · simp (disch := exact eqId (by kernel_rfl)) only [go_sem, ↓reduceIte, Nat.reduceAdd, Nat.reduceMul, Nat.reduceLT, Nat.reduceBEq, Nat.reduceLeDiff, Nat.reduceEqDiff, Int.reduceToNat]
      try exact ⟨rfl, rfl⟩
      try rfl
    · have hlD : ∀ a k, k ≤ 6 → (r.1 :: rdL m r a k).length ≤ 1073741824 := fun a k hk => by rw [List.length_cons, rdL_len]; omega
      have hlE : ∀ a k, (rdL m r a k).length = k := rdL_len m r
      simp (disch := exact eqId (by kernel_rfl)) only [go_sem, ↓reduceIte, Nat.reduceAdd, Nat.reduceMul, Nat.reduceLT, Nat.reduceBEq, Nat.reduceLeDiff, Nat.reduceEqDiff, Int.reduceToNat]
      repeat' (first | (refine And.intro ?_ ?_) | intro _ | (refine callQ_intro (impl_PartDigest_ok _ _ _ (isR_p hc (by omega) (by assumption))) ?_; try (simp (disch := exact eqId (by kernel_rfl)) only [go_sem, ↓reduceIte, Nat.reduceAdd, Nat.reduceMul, Nat.reduceLT, Nat.reduceBEq, Nat.reduceLeDiff, Nat.reduceEqDiff, Int.reduceToNat])) | (refine callH_intro (fun hcc => impl_PartDigest_ok _ _ _ (isR_p hc (by omega) (by assumption))) ?_; try (simp (disch := exact eqId (by kernel_rfl)) only [go_sem, ↓reduceIte, Nat.reduceAdd, Nat.reduceMul, Nat.reduceLT, Nat.reduceBEq, Nat.reduceLeDiff, Nat.reduceEqDiff, Int.reduceToNat])) | (refine callQ_intro (impl_DigestOf_ok _ _ (hlD _ _ (by omega))) ?_; try (simp (disch := exact eqId (by kernel_rfl)) only [go_sem, ↓reduceIte, Nat.reduceAdd, Nat.reduceMul, Nat.reduceLT, Nat.reduceBEq, Nat.reduceLeDiff, Nat.reduceEqDiff, Int.reduceToNat])) | (refine callH_intro (fun hcc => impl_DigestOf_ok _ _ (hlD _ _ (by omega))) ?_; try (simp (disch := exact eqId (by kernel_rfl)) only [go_sem, ↓reduceIte, Nat.reduceAdd, Nat.reduceMul, Nat.reduceLT, Nat.reduceBEq, Nat.reduceLeDiff, Nat.reduceEqDiff, Int.reduceToNat])))
      all_goals (try omega)
      all_goals (try (simp only [List.length_append, List.length_cons, List.length_nil, hlE]; omega))
      · rename_i hk q1
        refine back_intro (d + 1) ?_ ?_ (sub_shp hN [(10000, some 10000), (50032, some 100224)] ?_)
        · omega
        · omega
        · simp (disch := exact eqId (by kernel_rfl)) only [go_sem, ↓reduceIte, Nat.reduceAdd, Nat.reduceMul, Nat.reduceLT, Nat.reduceBEq, Nat.reduceLeDiff, Nat.reduceEqDiff, Int.reduceToNat]
          exact ⟨rdL_s q1, wrap_succ' (by omega)⟩
      · rename_i hk q1
        have := hh d (by omega) q1
        omega
      · rename_i hk q1
        have := hh d (by omega) q1
        omega
      · rename_i hk q1
        have hn : (finF (fun x : Int => x) m r.2.1 0).toNat = ixF m r.2.1 := by
          have := hh d (by omega) q1
          omega
        refine back_intro (d + 1) ?_ ?_ (sub_shp hN [(10000, some 10000), (50032, some 110160)] ?_)
        · omega
        · omega
        · simp (disch := exact eqId (by kernel_rfl)) only [go_sem, ↓reduceIte, Nat.reduceAdd, Nat.reduceMul, Nat.reduceLT, Nat.reduceBEq, Nat.reduceLeDiff, Nat.reduceEqDiff, Int.reduceToNat]
          rw [hn]
          exact ⟨rdL_h q1, wrap_succ' (by omega)⟩
      · rename_i hk
        rw [show d = r.2.2.1.length by omega]
        exact (rxF_y hc hw1).symm
      all_goals trace_state
end Go.Proofs.Ytfkdkblbhilghaa
/- What functions of all redacted documents' digests answer. It proves nothing of a statement by itself. -/
set_option linter.unusedSimpArgs false
set_option linter.unusedVariables false
set_option maxRecDepth 100000
namespace Go.Proofs.Ytfkdkblbhilghaa
open Go.AL
noncomputable def rxS (s : tStrand.den) (d : tRedacted.den) : List Int := s.2.1.map (fun r => rxF r.2.1 d)
theorem spec_RedactedDigests_ok (s : tStrand.den) (e : tRedacted.den) (hs : Small tStrand 1048576 s) : FunOK Try.prog 46 [⟨tStrand, s⟩, ⟨tRedacted, e⟩] (.own 3 I (rxS s e)) := by
  have h2 := (sm_ch hs).1
  refine fun_of (tb := tb) follows Try.func46 (by kernel_rfl) Try.ntmps46 rfl rfl rfl ?_; intro cx hN hw
  simp (disch := exact eqId (by kernel_rfl)) only [go_sem, ↓reduceIte, Nat.reduceAdd, Nat.reduceMul, Nat.reduceLT, Nat.reduceBEq, Nat.reduceLeDiff, Nat.reduceEqDiff, Int.reduceToNat]
  refine loop_intro (tb := tb) follows hN (D := Nat) (fun d => shp [(2, .bp 10000 0), (3, .bp 10016 0), (5, .own 20000), (6, .rd I (d : Int))] [(10000, .box 36 [.rd (.list tPiece) (s.1), .rd (.list tRenewal) (s.2.1)]), (10016, .box 93 [.rd I (e.1), .rd (.list I) (e.2.1), .rd (.list .bool) (e.2.2.1), .rd (.list .str) (e.2.2.2.1), .rd (.list I) (e.2.2.2.2.1), .rd (.list (.list I)) (e.2.2.2.2.2.1)]), (20000, .row 3 I ((List.take d s.2.1).map (fun r => rxF r.2.1 e)))]) (fun d => d ≤ List.length s.2.1) (fun d => List.length s.2.1 - d) (0) ?_ (sub_shp hN [(10000, some 10000), (10016, some 10016), (20000, some 20000)] ?_) (fun d hd => ?_)
  · exact Nat.zero_le _
  · simp (disch := exact eqId (by kernel_rfl)) only [go_sem, ↓reduceIte, Nat.reduceAdd, Nat.reduceMul, Nat.reduceLT, Nat.reduceBEq, Nat.reduceLeDiff, Nat.reduceEqDiff, Int.reduceToNat]
    try exact ⟨rfl, rfl⟩
    try rfl
  · simp (disch := exact eqId (by kernel_rfl)) only [go_sem, ↓reduceIte, Nat.reduceAdd, Nat.reduceMul, Nat.reduceLT, Nat.reduceBEq, Nat.reduceLeDiff, Nat.reduceEqDiff, Int.reduceToNat]
    repeat' (first | (refine And.intro ?_ ?_) | intro _ | (refine callQ_intro (spec_RedactedDigest_ok _ _) ?_; try (simp (disch := exact eqId (by kernel_rfl)) only [go_sem, ↓reduceIte, Nat.reduceAdd, Nat.reduceMul, Nat.reduceLT, Nat.reduceBEq, Nat.reduceLeDiff, Nat.reduceEqDiff, Int.reduceToNat])) | (refine callH_intro (fun hcc => spec_RedactedDigest_ok _ _) ?_; try (simp (disch := exact eqId (by kernel_rfl)) only [go_sem, ↓reduceIte, Nat.reduceAdd, Nat.reduceMul, Nat.reduceLT, Nat.reduceBEq, Nat.reduceLeDiff, Nat.reduceEqDiff, Int.reduceToNat])))
    all_goals (try omega)
    all_goals (try (simp only [List.length_append, List.length_cons, List.length_nil, List.length_take, List.length_map]; omega))
    · rename_i hk
      refine back_intro (d + 1) ?_ ?_ (sub_shp hN [(10000, some 10000), (10016, some 10016), (20000, some 60160)] ?_)
      · omega
      · omega
      · simp (disch := exact eqId (by kernel_rfl)) only [go_sem, ↓reduceIte, Nat.reduceAdd, Nat.reduceMul, Nat.reduceLT, Nat.reduceBEq, Nat.reduceLeDiff, Nat.reduceEqDiff, Int.reduceToNat]
        refine ⟨?_, wrap_succ' (by omega)⟩
        rw [← take_snoc (show d < List.length s.2.1 by omega) (0, 0, 0, [], [], ()), List.map_append]
        rfl
    · rename_i hk
      rw [List.take_of_length_le (by omega)]
      rfl
theorem impl_RedactedDigests_ok (s : tStrand.den) (e : tRedacted.den) (hs : Small tStrand 1048576 s) : FunOK Try.prog 48 [⟨tStrand, s⟩, ⟨tRedacted, e⟩] (.own 3 I (rxS s e)) := by
  have h2 := (sm_ch hs).1
  refine fun_of (tb := tb) follows Try.func48 (by kernel_rfl) Try.ntmps48 rfl rfl rfl ?_; intro cx hN hw
  simp (disch := exact eqId (by kernel_rfl)) only [go_sem, ↓reduceIte, Nat.reduceAdd, Nat.reduceMul, Nat.reduceLT, Nat.reduceBEq, Nat.reduceLeDiff, Nat.reduceEqDiff, Int.reduceToNat]
  refine loop_intro (tb := tb) follows hN (D := Nat) (fun d => shp [(3, .bp 10016 0), (5, .own 20000), (9, .rd (.list tRenewal) (s.2.1)), (10, .rd I (((s.2.1).length : Int) : Int)), (11, .rd I (d : Int))] [(10016, .box 93 [.rd I (e.1), .rd (.list I) (e.2.1), .rd (.list .bool) (e.2.2.1), .rd (.list .str) (e.2.2.2.1), .rd (.list I) (e.2.2.2.2.1), .rd (.list (.list I)) (e.2.2.2.2.2.1)]), (20000, .row 3 I ((List.take d s.2.1).map (fun r => rxF r.2.1 e)))]) (fun d => d ≤ List.length s.2.1) (fun d => List.length s.2.1 - d) (0) ?_ (sub_shp hN [(10016, some 10016), (20000, none)] ?_) (fun d hd => ?_)
  · exact Nat.zero_le _
  · simp (disch := exact eqId (by kernel_rfl)) only [go_sem, ↓reduceIte, Nat.reduceAdd, Nat.reduceMul, Nat.reduceLT, Nat.reduceBEq, Nat.reduceLeDiff, Nat.reduceEqDiff, Int.reduceToNat]
    try exact ⟨rfl, rfl⟩
    try rfl
  · simp (disch := exact eqId (by kernel_rfl)) only [go_sem, ↓reduceIte, Nat.reduceAdd, Nat.reduceMul, Nat.reduceLT, Nat.reduceBEq, Nat.reduceLeDiff, Nat.reduceEqDiff, Int.reduceToNat]
    repeat' (first | (refine And.intro ?_ ?_) | intro _ | (refine callQ_intro (impl_RedactedDigest_ok _ _) ?_; try (simp (disch := exact eqId (by kernel_rfl)) only [go_sem, ↓reduceIte, Nat.reduceAdd, Nat.reduceMul, Nat.reduceLT, Nat.reduceBEq, Nat.reduceLeDiff, Nat.reduceEqDiff, Int.reduceToNat])) | (refine callH_intro (fun hcc => impl_RedactedDigest_ok _ _) ?_; try (simp (disch := exact eqId (by kernel_rfl)) only [go_sem, ↓reduceIte, Nat.reduceAdd, Nat.reduceMul, Nat.reduceLT, Nat.reduceBEq, Nat.reduceLeDiff, Nat.reduceEqDiff, Int.reduceToNat])))
    all_goals (try omega)
    all_goals (try (simp only [List.length_append, List.length_cons, List.length_nil, List.length_take, List.length_map]; omega))
    · rename_i hk
      refine back_intro (d + 1) ?_ ?_ (sub_shp hN [(10016, some 10016), (20000, some 60096)] ?_)
      · omega
      · omega
      · simp (disch := exact eqId (by kernel_rfl)) only [go_sem, ↓reduceIte, Nat.reduceAdd, Nat.reduceMul, Nat.reduceLT, Nat.reduceBEq, Nat.reduceLeDiff, Nat.reduceEqDiff, Int.reduceToNat]
        refine ⟨?_, wrap_succ' (by omega)⟩
        rw [← take_snoc (show d < List.length s.2.1 by omega) (0, 0, 0, [], [], ()), List.map_append]
        rfl
    · rename_i hk
      rw [List.take_of_length_le (by omega)]
      rfl
theorem impl_RedactedDigests_fr (s : tStrand.den) (e : tRedacted.den) (hs : Small tStrand 1048576 s) : FunOK Try.prog 48 [⟨tStrand, s⟩, ⟨tRedacted, e⟩] (.fresh 3 I (rxS s e)) := (impl_RedactedDigests_ok s e hs).fr rfl
theorem spec_AllRedactedDigests_ok (e : tEvidence.den) (dd : tRedacted.den) (hs : Small tEvidence 1048576 e) : FunOK Try.prog 54 [⟨tEvidence, e⟩, ⟨tRedacted, dd⟩] (.own 27 (.list I) (e.1.map (fun s => rxS s dd))) := by
  have hl : e.1.length ≤ 1048576 := hs.1.1
  have hq : ∀ s, s ∈ e.1 → Small tStrand 1048576 s := hs.1.2
  refine fun_of (tb := tb) follows Try.func54 (by kernel_rfl) Try.ntmps54 rfl rfl rfl ?_; intro cx hN hw
  simp (disch := exact eqId (by kernel_rfl)) only [go_sem, ↓reduceIte, Nat.reduceAdd, Nat.reduceMul, Nat.reduceLT, Nat.reduceBEq, Nat.reduceLeDiff, Nat.reduceEqDiff, Int.reduceToNat]
  refine loop_intro (tb := tb) follows hN (D := Nat) (fun d => shp [(2, .bp 10000 0), (3, .bp 10016 0), (5, .own 20000), (6, .rd I (d : Int))] [(10000, .box 81 [.rd (.list tStrand) (e.1), .rd (.list (.list tStamp)) (e.2.1)]), (10016, .box 93 [.rd I (dd.1), .rd (.list I) (dd.2.1), .rd (.list .bool) (dd.2.2.1), .rd (.list .str) (dd.2.2.2.1), .rd (.list I) (dd.2.2.2.2.1), .rd (.list (.list I)) (dd.2.2.2.2.2.1)]), (20000, .row 27 (.list I) ((List.take d e.1).map (fun s => rxS s dd)))]) (fun d => d ≤ List.length e.1) (fun d => List.length e.1 - d) (0) ?_ (sub_shp hN [(10000, some 10000), (10016, some 10016), (20000, some 20000)] ?_) (fun d hd => ?_)
  · exact Nat.zero_le _
  · simp (disch := exact eqId (by kernel_rfl)) only [go_sem, ↓reduceIte, Nat.reduceAdd, Nat.reduceMul, Nat.reduceLT, Nat.reduceBEq, Nat.reduceLeDiff, Nat.reduceEqDiff, Int.reduceToNat]
    try exact ⟨rfl, rfl⟩
    try rfl
  · simp (disch := exact eqId (by kernel_rfl)) only [go_sem, ↓reduceIte, Nat.reduceAdd, Nat.reduceMul, Nat.reduceLT, Nat.reduceBEq, Nat.reduceLeDiff, Nat.reduceEqDiff, Int.reduceToNat]
    repeat' (first | (refine And.intro ?_ ?_) | intro _ | (refine callQ_intro (spec_RedactedDigests_ok _ _ (hq _ (getD_mem (by omega) _))) ?_; try (simp (disch := exact eqId (by kernel_rfl)) only [go_sem, ↓reduceIte, Nat.reduceAdd, Nat.reduceMul, Nat.reduceLT, Nat.reduceBEq, Nat.reduceLeDiff, Nat.reduceEqDiff, Int.reduceToNat])) | (refine callH_intro (fun hcc => spec_RedactedDigests_ok _ _ (hq _ (getD_mem (by omega) _))) ?_; try (simp (disch := exact eqId (by kernel_rfl)) only [go_sem, ↓reduceIte, Nat.reduceAdd, Nat.reduceMul, Nat.reduceLT, Nat.reduceBEq, Nat.reduceLeDiff, Nat.reduceEqDiff, Int.reduceToNat])))
    all_goals (try omega)
    all_goals (try (simp only [List.length_append, List.length_cons, List.length_nil, List.length_take, List.length_map]; omega))
    · rename_i hk
      refine back_intro (d + 1) ?_ ?_ (sub_shp hN [(10000, some 10000), (10016, some 10016), (20000, some 60144)] ?_)
      · omega
      · omega
      · simp (disch := exact eqId (by kernel_rfl)) only [go_sem, ↓reduceIte, Nat.reduceAdd, Nat.reduceMul, Nat.reduceLT, Nat.reduceBEq, Nat.reduceLeDiff, Nat.reduceEqDiff, Int.reduceToNat]
        refine ⟨?_, wrap_succ' (by omega)⟩
        rw [← take_snoc (show d < List.length e.1 by omega) ([], [], ()), List.map_append]
        rfl
    · rename_i hk
      rw [List.take_of_length_le (by omega)]
      try exact .inl rfl
    all_goals trace_state
theorem impl_AllRedactedDigests_ok (e : tEvidence.den) (dd : tRedacted.den) (hs : Small tEvidence 1048576 e) : FunOK Try.prog 55 [⟨tEvidence, e⟩, ⟨tRedacted, dd⟩] (.own 27 (.list I) (e.1.map (fun s => rxS s dd))) := by
  have hl : e.1.length ≤ 1048576 := hs.1.1
  have hq : ∀ s, s ∈ e.1 → Small tStrand 1048576 s := hs.1.2
  refine fun_of (tb := tb) follows Try.func55 (by kernel_rfl) Try.ntmps55 rfl rfl rfl ?_; intro cx hN hw
  simp (disch := exact eqId (by kernel_rfl)) only [go_sem, ↓reduceIte, Nat.reduceAdd, Nat.reduceMul, Nat.reduceLT, Nat.reduceBEq, Nat.reduceLeDiff, Nat.reduceEqDiff, Int.reduceToNat]
  refine loop_intro (tb := tb) follows hN (D := Nat) (fun d => shp [(3, .bp 10016 0), (5, .own 20000), (9, .rd (.list tStrand) (e.1)), (10, .rd I (((e.1).length : Int) : Int)), (11, .rd I (d : Int))] [(10016, .box 93 [.rd I (dd.1), .rd (.list I) (dd.2.1), .rd (.list .bool) (dd.2.2.1), .rd (.list .str) (dd.2.2.2.1), .rd (.list I) (dd.2.2.2.2.1), .rd (.list (.list I)) (dd.2.2.2.2.2.1)]), (20000, .row 27 (.list I) ((List.take d e.1).map (fun s => rxS s dd)))]) (fun d => d ≤ List.length e.1) (fun d => List.length e.1 - d) (0) ?_ (sub_shp hN [(10016, some 10016), (20000, none)] ?_) (fun d hd => ?_)
  · exact Nat.zero_le _
  · simp (disch := exact eqId (by kernel_rfl)) only [go_sem, ↓reduceIte, Nat.reduceAdd, Nat.reduceMul, Nat.reduceLT, Nat.reduceBEq, Nat.reduceLeDiff, Nat.reduceEqDiff, Int.reduceToNat]
    try exact ⟨rfl, rfl⟩
    try rfl
  · simp (disch := exact eqId (by kernel_rfl)) only [go_sem, ↓reduceIte, Nat.reduceAdd, Nat.reduceMul, Nat.reduceLT, Nat.reduceBEq, Nat.reduceLeDiff, Nat.reduceEqDiff, Int.reduceToNat]
    repeat' (first | (refine And.intro ?_ ?_) | intro _ | (refine callQ_intro (impl_RedactedDigests_ok _ _ (hq _ (getD_mem (by omega) _))) ?_; try (simp (disch := exact eqId (by kernel_rfl)) only [go_sem, ↓reduceIte, Nat.reduceAdd, Nat.reduceMul, Nat.reduceLT, Nat.reduceBEq, Nat.reduceLeDiff, Nat.reduceEqDiff, Int.reduceToNat])) | (refine callH_intro (fun hcc => impl_RedactedDigests_ok _ _ (hq _ (getD_mem (by omega) _))) ?_; try (simp (disch := exact eqId (by kernel_rfl)) only [go_sem, ↓reduceIte, Nat.reduceAdd, Nat.reduceMul, Nat.reduceLT, Nat.reduceBEq, Nat.reduceLeDiff, Nat.reduceEqDiff, Int.reduceToNat])))
    all_goals (try omega)
    all_goals (try (simp only [List.length_append, List.length_cons, List.length_nil, List.length_take, List.length_map]; omega))
    · rename_i hk
      refine back_intro (d + 1) ?_ ?_ (sub_shp hN [(10016, some 10016), (20000, some 60080)] ?_)
      · omega
      · omega
      · simp (disch := exact eqId (by kernel_rfl)) only [go_sem, ↓reduceIte, Nat.reduceAdd, Nat.reduceMul, Nat.reduceLT, Nat.reduceBEq, Nat.reduceLeDiff, Nat.reduceEqDiff, Int.reduceToNat]
        refine ⟨?_, wrap_succ' (by omega)⟩
        rw [← take_snoc (show d < List.length e.1 by omega) ([], [], ()), List.map_append]
        rfl
    · rename_i hk
      rw [List.take_of_length_le (by omega)]
      try exact .inl rfl
    all_goals trace_state
theorem impl_AllRedactedDigests_d (e : tEvidence.den) (dd : tRedacted.den) (hs : Small tEvidence 1048576 e) : FunOK Try.prog 55 [⟨tEvidence, e⟩, ⟨tRedacted, dd⟩] (.deep TE (.list I) (e.1.map (fun s => rxS s dd))) := by
  have hl : e.1.length ≤ 1048576 := hs.1.1
  have hq : ∀ s, s ∈ e.1 → Small tStrand 1048576 s := hs.1.2
  refine fun_ofN (tb := tbd) follows Try.func55 (by kernel_rfl) Try.ntmps55 rfl rfl rfl ?_; intro cx hN hw
  simp (disch := exact eqId (by kernel_rfl)) only [go_sem, ↓reduceIte, Nat.reduceAdd, Nat.reduceMul, Nat.reduceLT, Nat.reduceBEq, Nat.reduceLeDiff, Nat.reduceEqDiff, Int.reduceToNat]
  refine loop_intro (tb := tbd) follows hN (D := Nat) (fun d => shp [(3, .bp 10016 0), (5, .own 20000), (9, .rd (.list tStrand) (e.1)), (10, .rd I (((e.1).length : Int) : Int)), (11, .rd I (d : Int))] [(10016, .box 93 [.rd I (dd.1), .rd (.list I) (dd.2.1), .rd (.list .bool) (dd.2.2.1), .rd (.list .str) (dd.2.2.2.1), .rd (.list I) (dd.2.2.2.2.1), .rd (.list (.list I)) (dd.2.2.2.2.2.1)]), (20000, .deep TE (.list I) ((List.take d e.1).map (fun s => rxS s dd)))]) (fun d => d ≤ List.length e.1) (fun d => List.length e.1 - d) (0) ?_ (sub_shp hN [(10016, some 10016), (20000, none)] ?_) (fun d hd => ?_)
  · exact Nat.zero_le _
  · simp (disch := exact eqId (by kernel_rfl)) only [go_sem, ↓reduceIte, Nat.reduceAdd, Nat.reduceMul, Nat.reduceLT, Nat.reduceBEq, Nat.reduceLeDiff, Nat.reduceEqDiff, Int.reduceToNat]
    try exact ⟨rfl, rfl⟩
    try rfl
  · simp (disch := exact eqId (by kernel_rfl)) only [go_sem, ↓reduceIte, Nat.reduceAdd, Nat.reduceMul, Nat.reduceLT, Nat.reduceBEq, Nat.reduceLeDiff, Nat.reduceEqDiff, Int.reduceToNat]
    repeat' (first | (refine And.intro ?_ ?_) | intro _ | (refine callQ_intro (impl_RedactedDigests_fr _ _ (hq _ (getD_mem (by omega) _))) ?_; try (simp (disch := exact eqId (by kernel_rfl)) only [go_sem, ↓reduceIte, Nat.reduceAdd, Nat.reduceMul, Nat.reduceLT, Nat.reduceBEq, Nat.reduceLeDiff, Nat.reduceEqDiff, Int.reduceToNat])) | (refine callH_intro (fun hcc => impl_RedactedDigests_fr _ _ (hq _ (getD_mem (by omega) _))) ?_; try (simp (disch := exact eqId (by kernel_rfl)) only [go_sem, ↓reduceIte, Nat.reduceAdd, Nat.reduceMul, Nat.reduceLT, Nat.reduceBEq, Nat.reduceLeDiff, Nat.reduceEqDiff, Int.reduceToNat])))
    all_goals (try omega)
    all_goals (try (simp only [List.length_append, List.length_cons, List.length_nil, List.length_take, List.length_map]; omega))
    · rename_i hk
      refine back_intro (d + 1) ?_ ?_ (sub_shp hN [(10016, some 10016), (20000, some 60080)] ?_)
      · omega
      · omega
      · simp (disch := exact eqId (by kernel_rfl)) only [go_sem, ↓reduceIte, Nat.reduceAdd, Nat.reduceMul, Nat.reduceLT, Nat.reduceBEq, Nat.reduceLeDiff, Nat.reduceEqDiff, Int.reduceToNat]
        refine ⟨?_, wrap_succ' (by omega)⟩
        rw [← take_snoc (show d < List.length e.1 by omega) ([], [], ()), List.map_append]
        rfl
    · rename_i hk
      rw [List.take_of_length_le (by omega)]
      try exact .inl rfl
    all_goals trace_state
end Go.Proofs.Ytfkdkblbhilghaa
/- Laws of strands and evidence. It proves nothing of a statement by itself. -/
set_option linter.unusedSimpArgs false
set_option linter.unusedVariables false
set_option maxRecDepth 100000
namespace Go.Proofs.Ytfkdkblbhilghaa
open Go.AL
theorem szS {t : Ty} {x : t.den} {l : Int} (g : ¬ szD t x l < 0) (h0 : 0 ≤ l) (h1 : l ≤ 1073741824) : Small t 1073741824 x :=
  (szD_le t x l h0).2 (by omega) 1073741824 h1
theorem szS1 {t : Ty} {x : t.den} {l : Int} (g : ¬ szD t x l < 0) (h0 : 0 ≤ l) (h1 : l ≤ 1048576) : Small t 1048576 x :=
  (szD_le t x l h0).2 (by omega) 1048576 h1
end Go.Proofs.Ytfkdkblbhilghaa
/- Laws of strands that grow. It proves nothing of a statement by itself. -/
set_option linter.unusedSimpArgs false
set_option linter.unusedVariables false
set_option maxRecDepth 100000
namespace Go.Proofs.Ytfkdkblbhilghaa
open Go.AL
theorem okS {X : Ty} {x : X.den} {l : Int} (g : ¬ szD X x l < 0) (h0 : 0 ≤ l) (h1 : l ≤ 1048576) (hk : okc 8 X = true) : cnv X x ≤ flc X + 8388608 := by
  have h2 := sz_tot X x l h0 (by omega)
  have h3 := cnv_le 8 X x hk
  omega
theorem apF_sm {s : tStrand.den} {p : tPiece.den} (hs : Small tStrand 1048576 s) (hp : Small tPiece 1048576 p) : Small tStrand 1073741824 (apF s p).1 ∧ cnv tStrand (apF s p).1 ≤ cnv tStrand s + cnv tPiece p := by
  cases h : strB (s.1 ++ [p], s.2.1, ()) with
  | false =>
    rw [apF_y h]
    exact ⟨⟨hs.1.mono (by omega), hs.2.1.mono (by omega), trivial⟩, Nat.le_add_right _ _⟩
  | true =>
    rw [apF_n h]
    refine ⟨⟨⟨?_, fun x hx => ?_⟩, hs.2.1.mono (by omega), trivial⟩, ?_⟩
    · have := hs.1.1
      simp only [List.length_append, List.length_cons, List.length_nil]
      omega
    · rcases List.mem_append.1 hx with hx | hx
      · exact (hs.1.2 x hx).mono (by omega)
      · have : x = p := by simpa using hx
        subst this
        exact hp.mono (by omega)
    · simp only [cnv, List.map_append, List.sum_append, List.map_cons, List.map_nil, List.sum_cons, List.sum_nil]
      omega
theorem arF_sm {s : tStrand.den} {r : tRenewal.den} (hs : Small tStrand 1048576 s) (hr : Small tRenewal 1048576 r) : Small tStrand 1073741824 (arF s r).1 ∧ cnv tStrand (arF s r).1 ≤ cnv tStrand s + cnv tRenewal r := by
  cases h : strB (s.1, s.2.1 ++ [r], ()) with
  | false =>
    rw [arF_y h]
    exact ⟨⟨hs.1.mono (by omega), hs.2.1.mono (by omega), trivial⟩, Nat.le_add_right _ _⟩
  | true =>
    rw [arF_n h]
    refine ⟨⟨hs.1.mono (by omega), ⟨?_, fun x hx => ?_⟩, trivial⟩, ?_⟩
    · have := hs.2.1.1
      simp only [List.length_append, List.length_cons, List.length_nil]
      omega
    · rcases List.mem_append.1 hx with hx | hx
      · exact (hs.2.1.2 x hx).mono (by omega)
      · have : x = r := by simpa using hx
        subst this
        exact hr.mono (by omega)
    · simp only [cnv, List.map_append, List.sum_append, List.map_cons, List.map_nil, List.sum_cons, List.sum_nil]
      omega
theorem law_FnExactAddPiece_ok (a : tStrand.den) (b : tPiece.den) : FunOK Try.prog 4 [⟨tStrand, a⟩, ⟨tPiece, b⟩] (.rd .bool true) := by
  refine fun_of (tb := tb) follows Try.func4 (by kernel_rfl) Try.ntmps4 rfl rfl rfl ?_; intro cx hN hw
  simp (disch := exact eqId (by kernel_rfl)) only [go_sem, ↓reduceIte, Nat.reduceAdd, Nat.reduceMul, Nat.reduceLT, Nat.reduceBEq, Nat.reduceLeDiff, Nat.reduceEqDiff, Int.reduceToNat]
  have b0 := (szD_le tStrand a (1048576) (by omega)).1
  refine callQ_intro (szStrand_ok a _ (by omega) (by omega)) ?_
  simp (disch := exact eqId (by kernel_rfl)) only [go_sem, ↓reduceIte, Nat.reduceAdd, Nat.reduceMul, Nat.reduceLT, Nat.reduceBEq, Nat.reduceLeDiff, Nat.reduceEqDiff, Int.reduceToNat]
  intro g0
  have s0 := szS g0 (by omega) (by omega)
  have u0 := szS1 g0 (by omega) (by omega)
  have b1 := (szD_le tPiece b (szD tStrand a (1048576)) (by omega)).1
  refine callQ_intro (szPiece_ok b _ (by omega) (by omega)) ?_
  simp (disch := exact eqId (by kernel_rfl)) only [go_sem, ↓reduceIte, Nat.reduceAdd, Nat.reduceMul, Nat.reduceLT, Nat.reduceBEq, Nat.reduceLeDiff, Nat.reduceEqDiff, Int.reduceToNat]
  intro g1
  have s1 := szS g1 (by omega) (by omega)
  have u1 := szS1 g1 (by omega) (by omega)
  have c0 := okS g0 (by omega) (by omega) rfl
  have c1 := okS g1 (by omega) (by omega) rfl
  have f0 : flc tStrand = 0 := rfl
  have f1 : flc tPiece = 2 := rfl
  have hA := apF_sm u0 u1
  have n0 := mrk_snd tStrand (apF a b).1 1
  have n1 := mrk_snd tStrand a 1
  refine callQ_intro (toStrand_ok _ s0) ?_
  simp (disch := exact eqId (by kernel_rfl)) only [go_sem, ↓reduceIte, Nat.reduceAdd, Nat.reduceMul, Nat.reduceLT, Nat.reduceBEq, Nat.reduceLeDiff, Nat.reduceEqDiff, Int.reduceToNat]
  refine callQ_intro (toPiece_ok _ s1) ?_
  simp (disch := exact eqId (by kernel_rfl)) only [go_sem, ↓reduceIte, Nat.reduceAdd, Nat.reduceMul, Nat.reduceLT, Nat.reduceBEq, Nat.reduceLeDiff, Nat.reduceEqDiff, Int.reduceToNat]
  refine callQ_intro (spec_AddPiece_ok _ _ u0 u1.2.1.1) ?_
  simp (disch := exact eqId (by kernel_rfl)) only [go_sem, ↓reduceIte, Nat.reduceAdd, Nat.reduceMul, Nat.reduceLT, Nat.reduceBEq, Nat.reduceLeDiff, Nat.reduceEqDiff, Int.reduceToNat]
  refine callQ_intro (toStrand_d _ s0) ?_
  simp (disch := exact eqId (by kernel_rfl)) only [go_sem, ↓reduceIte, Nat.reduceAdd, Nat.reduceMul, Nat.reduceLT, Nat.reduceBEq, Nat.reduceLeDiff, Nat.reduceEqDiff, Int.reduceToNat]
  refine callQ_intro (toPiece_fr _ s1) ?_
  simp (disch := exact eqId (by kernel_rfl)) only [go_sem, ↓reduceIte, Nat.reduceAdd, Nat.reduceMul, Nat.reduceLT, Nat.reduceBEq, Nat.reduceLeDiff, Nat.reduceEqDiff, Int.reduceToNat]
  refine callB_intro (impl_AddPiece_d _ _ u0 u1.2.1.1) rfl trivial ?_
  simp (disch := exact eqId (by kernel_rfl)) only [go_sem, ↓reduceIte, Nat.reduceAdd, Nat.reduceMul, Nat.reduceLT, Nat.reduceBEq, Nat.reduceLeDiff, Nat.reduceEqDiff, Int.reduceToNat]
  repeat' (first | (refine And.intro ?_ ?_) | intro _ | (refine callB_intro (eqStrand_ok _ _) rfl trivial ?_; try (simp (disch := exact eqId (by kernel_rfl)) only [go_sem, ↓reduceIte, Nat.reduceAdd, Nat.reduceMul, Nat.reduceLT, Nat.reduceBEq, Nat.reduceLeDiff, Nat.reduceEqDiff, Int.reduceToNat])) | (refine callH_intro (fun hcc => eqStrand_ok _ _) ?_; try (simp (disch := exact eqId (by kernel_rfl)) only [go_sem, ↓reduceIte, Nat.reduceAdd, Nat.reduceMul, Nat.reduceLT, Nat.reduceBEq, Nat.reduceLeDiff, Nat.reduceEqDiff, Int.reduceToNat])) | (refine callB_intro (eqPiece_ok _ _) rfl trivial ?_; try (simp (disch := exact eqId (by kernel_rfl)) only [go_sem, ↓reduceIte, Nat.reduceAdd, Nat.reduceMul, Nat.reduceLT, Nat.reduceBEq, Nat.reduceLeDiff, Nat.reduceEqDiff, Int.reduceToNat])) | (refine callM_intro (markStrand_d a 1 (by omega) (by omega) s0) ⟨⟨trivial, by decide⟩, rfl, rfl⟩ ?_; try (simp (disch := exact eqId (by kernel_rfl)) only [go_sem, ↓reduceIte, Nat.reduceAdd, Nat.reduceMul, Nat.reduceLT, Nat.reduceBEq, Nat.reduceLeDiff, Nat.reduceEqDiff, Int.reduceToNat])) | (refine callM_intro (markPiece_ok _ _ _ _ (by omega) (by omega) s1.2.1.1) ⟨⟨trivial, by decide⟩, rfl, rfl⟩ ?_; try (simp (disch := exact eqId (by kernel_rfl)) only [go_sem, ↓reduceIte, Nat.reduceAdd, Nat.reduceMul, Nat.reduceLT, Nat.reduceBEq, Nat.reduceLeDiff, Nat.reduceEqDiff, Int.reduceToNat])) | (refine callM_intro (markStrand_d (apF a b).1 1 (by omega) (by omega) hA.1) ⟨⟨trivial, by decide⟩, rfl, rfl⟩ ?_; try (simp (disch := exact eqId (by kernel_rfl)) only [go_sem, ↓reduceIte, Nat.reduceAdd, Nat.reduceMul, Nat.reduceLT, Nat.reduceBEq, Nat.reduceLeDiff, Nat.reduceEqDiff, Int.reduceToNat])) | (refine callB_intro (heldStrand_d (apF a b).1 1 (by omega) (by omega) hA.1) rfl trivial ?_; try (simp (disch := exact eqId (by kernel_rfl)) only [go_sem, ↓reduceIte, Nat.reduceAdd, Nat.reduceMul, Nat.reduceLT, Nat.reduceBEq, Nat.reduceLeDiff, Nat.reduceEqDiff, Int.reduceToNat])) | (refine callQ_intro (toStrand_ok _ s0) ?_; try (simp (disch := exact eqId (by kernel_rfl)) only [go_sem, ↓reduceIte, Nat.reduceAdd, Nat.reduceMul, Nat.reduceLT, Nat.reduceBEq, Nat.reduceLeDiff, Nat.reduceEqDiff, Int.reduceToNat])) | (refine callH_intro (fun hcc => toStrand_ok _ s0) ?_; try (simp (disch := exact eqId (by kernel_rfl)) only [go_sem, ↓reduceIte, Nat.reduceAdd, Nat.reduceMul, Nat.reduceLT, Nat.reduceBEq, Nat.reduceLeDiff, Nat.reduceEqDiff, Int.reduceToNat])) | (refine callQ_intro (toPiece_ok _ s1) ?_; try (simp (disch := exact eqId (by kernel_rfl)) only [go_sem, ↓reduceIte, Nat.reduceAdd, Nat.reduceMul, Nat.reduceLT, Nat.reduceBEq, Nat.reduceLeDiff, Nat.reduceEqDiff, Int.reduceToNat])) | (refine callH_intro (fun hcc => toPiece_ok _ s1) ?_; try (simp (disch := exact eqId (by kernel_rfl)) only [go_sem, ↓reduceIte, Nat.reduceAdd, Nat.reduceMul, Nat.reduceLT, Nat.reduceBEq, Nat.reduceLeDiff, Nat.reduceEqDiff, Int.reduceToNat])) | (refine callQ_intro (impl_AddPiece_ok _ _ u0 u1.2.1.1) ?_; try (simp (disch := exact eqId (by kernel_rfl)) only [go_sem, ↓reduceIte, Nat.reduceAdd, Nat.reduceMul, Nat.reduceLT, Nat.reduceBEq, Nat.reduceLeDiff, Nat.reduceEqDiff, Int.reduceToNat])) | (refine callH_intro (fun hcc => impl_AddPiece_ok _ _ u0 u1.2.1.1) ?_; try (simp (disch := exact eqId (by kernel_rfl)) only [go_sem, ↓reduceIte, Nat.reduceAdd, Nat.reduceMul, Nat.reduceLT, Nat.reduceBEq, Nat.reduceLeDiff, Nat.reduceEqDiff, Int.reduceToNat])) | (refine callQ_intro (eqStrand_ok _ _) ?_; try (simp (disch := exact eqId (by kernel_rfl)) only [go_sem, ↓reduceIte, Nat.reduceAdd, Nat.reduceMul, Nat.reduceLT, Nat.reduceBEq, Nat.reduceLeDiff, Nat.reduceEqDiff, Int.reduceToNat])) | (refine callH_intro (fun hcc => eqStrand_ok _ _) ?_; try (simp (disch := exact eqId (by kernel_rfl)) only [go_sem, ↓reduceIte, Nat.reduceAdd, Nat.reduceMul, Nat.reduceLT, Nat.reduceBEq, Nat.reduceLeDiff, Nat.reduceEqDiff, Int.reduceToNat])))
  all_goals (try omega)
  all_goals trace_state
theorem law_FnExactAddRenewal_ok (a : tStrand.den) (b : tRenewal.den) : FunOK Try.prog 5 [⟨tStrand, a⟩, ⟨tRenewal, b⟩] (.rd .bool true) := by
  refine fun_of (tb := tb) follows Try.func5 (by kernel_rfl) Try.ntmps5 rfl rfl rfl ?_; intro cx hN hw
  simp (disch := exact eqId (by kernel_rfl)) only [go_sem, ↓reduceIte, Nat.reduceAdd, Nat.reduceMul, Nat.reduceLT, Nat.reduceBEq, Nat.reduceLeDiff, Nat.reduceEqDiff, Int.reduceToNat]
  have b0 := (szD_le tStrand a (1048576) (by omega)).1
  refine callQ_intro (szStrand_ok a _ (by omega) (by omega)) ?_
  simp (disch := exact eqId (by kernel_rfl)) only [go_sem, ↓reduceIte, Nat.reduceAdd, Nat.reduceMul, Nat.reduceLT, Nat.reduceBEq, Nat.reduceLeDiff, Nat.reduceEqDiff, Int.reduceToNat]
  intro g0
  have s0 := szS g0 (by omega) (by omega)
  have u0 := szS1 g0 (by omega) (by omega)
  have b1 := (szD_le tRenewal b (szD tStrand a (1048576)) (by omega)).1
  refine callQ_intro (szRenewal_ok b _ (by omega) (by omega)) ?_
  simp (disch := exact eqId (by kernel_rfl)) only [go_sem, ↓reduceIte, Nat.reduceAdd, Nat.reduceMul, Nat.reduceLT, Nat.reduceBEq, Nat.reduceLeDiff, Nat.reduceEqDiff, Int.reduceToNat]
  intro g1
  have s1 := szS g1 (by omega) (by omega)
  have u1 := szS1 g1 (by omega) (by omega)
  have c0 := okS g0 (by omega) (by omega) rfl
  have c1 := okS g1 (by omega) (by omega) rfl
  have f0 : flc tStrand = 0 := rfl
  have f1 : flc tRenewal = 3 := rfl
  have hA := arF_sm u0 u1
  have e1 : cnv tRenewal b = 1 + (1 + (1 + (cnv (.list tStep) b.2.2.2.1 + (cnv (.list tStamp) b.2.2.2.2.1 + 0)))) := rfl
  have n0 := mrk_snd tStrand (arF a b).1 1
  have n1 := mrk_snd tStrand a 1
  refine callQ_intro (toStrand_ok _ s0) ?_
  simp (disch := exact eqId (by kernel_rfl)) only [go_sem, ↓reduceIte, Nat.reduceAdd, Nat.reduceMul, Nat.reduceLT, Nat.reduceBEq, Nat.reduceLeDiff, Nat.reduceEqDiff, Int.reduceToNat]
  refine callQ_intro (toRenewal_ok _ s1) ?_
  simp (disch := exact eqId (by kernel_rfl)) only [go_sem, ↓reduceIte, Nat.reduceAdd, Nat.reduceMul, Nat.reduceLT, Nat.reduceBEq, Nat.reduceLeDiff, Nat.reduceEqDiff, Int.reduceToNat]
  refine callQ_intro (spec_AddRenewal_fr _ _ u0 u1.2.2.2.1.1 u1.2.2.2.2.1.1) ?_
  simp (disch := exact eqId (by kernel_rfl)) only [go_sem, ↓reduceIte, Nat.reduceAdd, Nat.reduceMul, Nat.reduceLT, Nat.reduceBEq, Nat.reduceLeDiff, Nat.reduceEqDiff, Int.reduceToNat]
  refine callQ_intro (toStrand_d _ s0) ?_
  simp (disch := exact eqId (by kernel_rfl)) only [go_sem, ↓reduceIte, Nat.reduceAdd, Nat.reduceMul, Nat.reduceLT, Nat.reduceBEq, Nat.reduceLeDiff, Nat.reduceEqDiff, Int.reduceToNat]
  refine callQ_intro (toRenewal_fr _ s1) ?_
  simp (disch := exact eqId (by kernel_rfl)) only [go_sem, ↓reduceIte, Nat.reduceAdd, Nat.reduceMul, Nat.reduceLT, Nat.reduceBEq, Nat.reduceLeDiff, Nat.reduceEqDiff, Int.reduceToNat]
  refine callB_intro (impl_AddRenewal_d _ _ u0 u1.2.2.2.1.1 u1.2.2.2.2.1.1) rfl trivial ?_
  simp (disch := exact eqId (by kernel_rfl)) only [go_sem, ↓reduceIte, Nat.reduceAdd, Nat.reduceMul, Nat.reduceLT, Nat.reduceBEq, Nat.reduceLeDiff, Nat.reduceEqDiff, Int.reduceToNat]
  repeat' (first | (refine And.intro ?_ ?_) | intro _ | (refine callB_intro (eqStrand_ok _ _) rfl trivial ?_; try (simp (disch := exact eqId (by kernel_rfl)) only [go_sem, ↓reduceIte, Nat.reduceAdd, Nat.reduceMul, Nat.reduceLT, Nat.reduceBEq, Nat.reduceLeDiff, Nat.reduceEqDiff, Int.reduceToNat])) | (refine callH_intro (fun hcc => eqStrand_ok _ _) ?_; try (simp (disch := exact eqId (by kernel_rfl)) only [go_sem, ↓reduceIte, Nat.reduceAdd, Nat.reduceMul, Nat.reduceLT, Nat.reduceBEq, Nat.reduceLeDiff, Nat.reduceEqDiff, Int.reduceToNat])) | (refine callB_intro (eqRenewal_ok _ _) rfl trivial ?_; try (simp (disch := exact eqId (by kernel_rfl)) only [go_sem, ↓reduceIte, Nat.reduceAdd, Nat.reduceMul, Nat.reduceLT, Nat.reduceBEq, Nat.reduceLeDiff, Nat.reduceEqDiff, Int.reduceToNat])) | (refine callM_intro (markStrand_d a 1 (by omega) (by omega) s0) ⟨⟨trivial, by decide⟩, rfl, rfl⟩ ?_; try (simp (disch := exact eqId (by kernel_rfl)) only [go_sem, ↓reduceIte, Nat.reduceAdd, Nat.reduceMul, Nat.reduceLT, Nat.reduceBEq, Nat.reduceLeDiff, Nat.reduceEqDiff, Int.reduceToNat])) | (refine callM_intro (markRenewal_d b _ (by omega) (by omega) s1) ⟨⟨trivial, by decide⟩, rfl, rfl⟩ ?_; try (simp (disch := exact eqId (by kernel_rfl)) only [go_sem, ↓reduceIte, Nat.reduceAdd, Nat.reduceMul, Nat.reduceLT, Nat.reduceBEq, Nat.reduceLeDiff, Nat.reduceEqDiff, Int.reduceToNat])) | (refine callM_intro (markStrand_d (arF a b).1 1 (by omega) (by omega) hA.1) ⟨⟨trivial, by decide⟩, rfl, rfl⟩ ?_; try (simp (disch := exact eqId (by kernel_rfl)) only [go_sem, ↓reduceIte, Nat.reduceAdd, Nat.reduceMul, Nat.reduceLT, Nat.reduceBEq, Nat.reduceLeDiff, Nat.reduceEqDiff, Int.reduceToNat])) | (refine callB_intro (heldStrand_d (arF a b).1 1 (by omega) (by omega) hA.1) rfl trivial ?_; try (simp (disch := exact eqId (by kernel_rfl)) only [go_sem, ↓reduceIte, Nat.reduceAdd, Nat.reduceMul, Nat.reduceLT, Nat.reduceBEq, Nat.reduceLeDiff, Nat.reduceEqDiff, Int.reduceToNat])) | (refine callQ_intro (toStrand_ok _ s0) ?_; try (simp (disch := exact eqId (by kernel_rfl)) only [go_sem, ↓reduceIte, Nat.reduceAdd, Nat.reduceMul, Nat.reduceLT, Nat.reduceBEq, Nat.reduceLeDiff, Nat.reduceEqDiff, Int.reduceToNat])) | (refine callH_intro (fun hcc => toStrand_ok _ s0) ?_; try (simp (disch := exact eqId (by kernel_rfl)) only [go_sem, ↓reduceIte, Nat.reduceAdd, Nat.reduceMul, Nat.reduceLT, Nat.reduceBEq, Nat.reduceLeDiff, Nat.reduceEqDiff, Int.reduceToNat])) | (refine callQ_intro (toRenewal_ok _ s1) ?_; try (simp (disch := exact eqId (by kernel_rfl)) only [go_sem, ↓reduceIte, Nat.reduceAdd, Nat.reduceMul, Nat.reduceLT, Nat.reduceBEq, Nat.reduceLeDiff, Nat.reduceEqDiff, Int.reduceToNat])) | (refine callH_intro (fun hcc => toRenewal_ok _ s1) ?_; try (simp (disch := exact eqId (by kernel_rfl)) only [go_sem, ↓reduceIte, Nat.reduceAdd, Nat.reduceMul, Nat.reduceLT, Nat.reduceBEq, Nat.reduceLeDiff, Nat.reduceEqDiff, Int.reduceToNat])) | (refine callQ_intro (impl_AddRenewal_ok _ _ u0 u1.2.2.2.1.1 u1.2.2.2.2.1.1) ?_; try (simp (disch := exact eqId (by kernel_rfl)) only [go_sem, ↓reduceIte, Nat.reduceAdd, Nat.reduceMul, Nat.reduceLT, Nat.reduceBEq, Nat.reduceLeDiff, Nat.reduceEqDiff, Int.reduceToNat])) | (refine callH_intro (fun hcc => impl_AddRenewal_ok _ _ u0 u1.2.2.2.1.1 u1.2.2.2.2.1.1) ?_; try (simp (disch := exact eqId (by kernel_rfl)) only [go_sem, ↓reduceIte, Nat.reduceAdd, Nat.reduceMul, Nat.reduceLT, Nat.reduceBEq, Nat.reduceLeDiff, Nat.reduceEqDiff, Int.reduceToNat])) | (refine callQ_intro (eqStrand_ok _ _) ?_; try (simp (disch := exact eqId (by kernel_rfl)) only [go_sem, ↓reduceIte, Nat.reduceAdd, Nat.reduceMul, Nat.reduceLT, Nat.reduceBEq, Nat.reduceLeDiff, Nat.reduceEqDiff, Int.reduceToNat])) | (refine callH_intro (fun hcc => eqStrand_ok _ _) ?_; try (simp (disch := exact eqId (by kernel_rfl)) only [go_sem, ↓reduceIte, Nat.reduceAdd, Nat.reduceMul, Nat.reduceLT, Nat.reduceBEq, Nat.reduceLeDiff, Nat.reduceEqDiff, Int.reduceToNat])))
  all_goals (try omega)
  all_goals trace_state
end Go.Proofs.Ytfkdkblbhilghaa
/- Laws of redacted documents' digests. It proves nothing of a statement by itself. -/
set_option linter.unusedSimpArgs false
set_option linter.unusedVariables false
set_option maxRecDepth 100000
namespace Go.Proofs.Ytfkdkblbhilghaa
open Go.AL
theorem rxS_sm {e : tEvidence.den} (b : tRedacted.den) (hs : Small tEvidence 1048576 e) : Small (.list (.list I)) 1073741824 (e.1.map (fun s => rxS s b)) ∧ cnv (.list (.list I)) (e.1.map (fun s => rxS s b)) ≤ cnv tEvidence e := by
  refine ⟨⟨by rw [List.length_map]; have := hs.1.1; omega, fun x hx => ?_⟩, ?_⟩
  · obtain ⟨s, h1, h2⟩ := List.mem_map.1 hx
    have h3 := (hs.1.2 s h1).2.1.1
    subst h2
    refine ⟨by unfold rxS; rw [List.length_map]; omega, fun _ _ => trivial⟩
  · have key : ∀ l : List tStrand.den, ((l.map (fun s => rxS s b)).map (cnv (.list I))).sum ≤ (l.map (cnv tStrand)).sum := fun l => by
      induction l with
      | nil => exact Nat.le_refl _
      | cons s l ih =>
        simp only [List.map_cons, List.sum_cons]
        have h4 : cnv (.list I) (rxS s b) = s.2.1.length := by rw [cnv_ints]; unfold rxS; rw [List.length_map]
        have h5 : s.2.1.length ≤ cnv (.list tRenewal) s.2.1 := len_cnv _ (fun x => Nat.le_add_right 1 _)
        have h6 : cnv tStrand s = cnv (.list tPiece) s.1 + (cnv (.list tRenewal) s.2.1 + 0) := rfl
        omega
    have h7 := key e.1
    have h8 : cnv tEvidence e = (e.1.map (cnv tStrand)).sum + (cnv (.list (.list tStamp)) e.2.1 + 0) := rfl
    have h9 : cnv (.list (.list I)) (e.1.map (fun s => rxS s b)) = ((e.1.map (fun s => rxS s b)).map (cnv (.list I))).sum := rfl
    omega
theorem law_FnExactRedactedDigests_ok (a : tStrand.den) (b : tRedacted.den) : FunOK Try.prog 7 [⟨tStrand, a⟩, ⟨tRedacted, b⟩] (.rd .bool true) := by
  refine fun_of (tb := tb) follows Try.func7 (by kernel_rfl) Try.ntmps7 rfl rfl rfl ?_; intro cx hN hw
  simp (disch := exact eqId (by kernel_rfl)) only [go_sem, ↓reduceIte, Nat.reduceAdd, Nat.reduceMul, Nat.reduceLT, Nat.reduceBEq, Nat.reduceLeDiff, Nat.reduceEqDiff, Int.reduceToNat]
  have b0 := (szD_le tStrand a (1048576) (by omega)).1
  refine callQ_intro (szStrand_ok a _ (by omega) (by omega)) ?_
  simp (disch := exact eqId (by kernel_rfl)) only [go_sem, ↓reduceIte, Nat.reduceAdd, Nat.reduceMul, Nat.reduceLT, Nat.reduceBEq, Nat.reduceLeDiff, Nat.reduceEqDiff, Int.reduceToNat]
  intro g0
  have s0 := szS g0 (by omega) (by omega)
  have u0 := szS1 g0 (by omega) (by omega)
  have b1 := (szD_le tRedacted b (szD tStrand a (1048576)) (by omega)).1
  refine callQ_intro (szRedacted_ok b _ (by omega) (by omega)) ?_
  simp (disch := exact eqId (by kernel_rfl)) only [go_sem, ↓reduceIte, Nat.reduceAdd, Nat.reduceMul, Nat.reduceLT, Nat.reduceBEq, Nat.reduceLeDiff, Nat.reduceEqDiff, Int.reduceToNat]
  intro g1
  have s1 := szS g1 (by omega) (by omega)
  have u1 := szS1 g1 (by omega) (by omega)
  have c0 := okS g0 (by omega) (by omega) rfl
  have f0 : flc tStrand = 0 := rfl
  have n1 := mrk_snd tStrand a 1
  have n2 := mrk_snd (.list I) (rxS a b) 1
  have hd : (rxS a b).length ≤ 1073741824 := by
    have := u0.2.1.1
    unfold rxS
    rw [List.length_map]
    omega
  have f9 : flc tRedacted = 1 := rfl
  have c9 := okS g1 (by omega) (by omega) rfl
  have p1 : b.2.1.length ≤ 1048576 := u1.2.1.1
  have p2 : b.2.2.1.length ≤ 1048576 := u1.2.2.1.1
  have p3 : b.2.2.2.1.length ≤ 1048576 := u1.2.2.2.1.1
  have p4 : b.2.2.2.2.1.length ≤ 1048576 := u1.2.2.2.2.1.1
  have p5 : cnv (.list (.list I)) b.2.2.2.2.2.1 ≤ 10000000 := by
    have h8 : cnv tRedacted b = 1 + (cnv (.list I) b.2.1 + (cnv (.list .bool) b.2.2.1 + (cnv (.list .str) b.2.2.2.1 + (cnv (.list I) b.2.2.2.2.1 + (cnv (.list (.list I)) b.2.2.2.2.2.1 + 0))))) := rfl
    omega
  have n9 := mrk_snd (.list (.list I)) b.2.2.2.2.2.1 ((mrk tStrand a 1).2 + b.2.1.length + b.2.2.1.length + b.2.2.2.1.length + b.2.2.2.2.1.length)
  refine callQ_intro (toStrand_ok _ s0) ?_
  simp (disch := exact eqId (by kernel_rfl)) only [go_sem, ↓reduceIte, Nat.reduceAdd, Nat.reduceMul, Nat.reduceLT, Nat.reduceBEq, Nat.reduceLeDiff, Nat.reduceEqDiff, Int.reduceToNat]
  refine callQ_intro (toRedacted_ok _ s1) ?_
  simp (disch := exact eqId (by kernel_rfl)) only [go_sem, ↓reduceIte, Nat.reduceAdd, Nat.reduceMul, Nat.reduceLT, Nat.reduceBEq, Nat.reduceLeDiff, Nat.reduceEqDiff, Int.reduceToNat]
  refine callQ_intro (spec_RedactedDigests_ok _ _ u0) ?_
  simp (disch := exact eqId (by kernel_rfl)) only [go_sem, ↓reduceIte, Nat.reduceAdd, Nat.reduceMul, Nat.reduceLT, Nat.reduceBEq, Nat.reduceLeDiff, Nat.reduceEqDiff, Int.reduceToNat]
  refine callQ_intro (toStrand_d _ s0) ?_
  simp (disch := exact eqId (by kernel_rfl)) only [go_sem, ↓reduceIte, Nat.reduceAdd, Nat.reduceMul, Nat.reduceLT, Nat.reduceBEq, Nat.reduceLeDiff, Nat.reduceEqDiff, Int.reduceToNat]
  refine callQ_intro (toRedacted_d _ s1) ?_
  simp (disch := exact eqId (by kernel_rfl)) only [go_sem, ↓reduceIte, Nat.reduceAdd, Nat.reduceMul, Nat.reduceLT, Nat.reduceBEq, Nat.reduceLeDiff, Nat.reduceEqDiff, Int.reduceToNat]
  refine callB_intro (impl_RedactedDigests_fr _ _ u0) rfl trivial ?_
  simp (disch := exact eqId (by kernel_rfl)) only [go_sem, ↓reduceIte, Nat.reduceAdd, Nat.reduceMul, Nat.reduceLT, Nat.reduceBEq, Nat.reduceLeDiff, Nat.reduceEqDiff, Int.reduceToNat]
  repeat' (first | (refine And.intro ?_ ?_) | intro _ | (refine callB_intro (eqStrand_ok _ _) rfl trivial ?_; try (simp (disch := exact eqId (by kernel_rfl)) only [go_sem, ↓reduceIte, Nat.reduceAdd, Nat.reduceMul, Nat.reduceLT, Nat.reduceBEq, Nat.reduceLeDiff, Nat.reduceEqDiff, Int.reduceToNat])) | (refine callH_intro (fun hcc => eqStrand_ok _ _) ?_; try (simp (disch := exact eqId (by kernel_rfl)) only [go_sem, ↓reduceIte, Nat.reduceAdd, Nat.reduceMul, Nat.reduceLT, Nat.reduceBEq, Nat.reduceLeDiff, Nat.reduceEqDiff, Int.reduceToNat])) | (refine callB_intro (eqIntS_ok _ _) rfl trivial ?_; try (simp (disch := exact eqId (by kernel_rfl)) only [go_sem, ↓reduceIte, Nat.reduceAdd, Nat.reduceMul, Nat.reduceLT, Nat.reduceBEq, Nat.reduceLeDiff, Nat.reduceEqDiff, Int.reduceToNat])) | (refine callH_intro (fun hcc => eqIntS_ok _ _) ?_; try (simp (disch := exact eqId (by kernel_rfl)) only [go_sem, ↓reduceIte, Nat.reduceAdd, Nat.reduceMul, Nat.reduceLT, Nat.reduceBEq, Nat.reduceLeDiff, Nat.reduceEqDiff, Int.reduceToNat])) | (refine callB_intro (eqRedacted_ok _ _) rfl trivial ?_; try (simp (disch := exact eqId (by kernel_rfl)) only [go_sem, ↓reduceIte, Nat.reduceAdd, Nat.reduceMul, Nat.reduceLT, Nat.reduceBEq, Nat.reduceLeDiff, Nat.reduceEqDiff, Int.reduceToNat])) | (refine callH_intro (fun hcc => eqRedacted_ok _ _) ?_; try (simp (disch := exact eqId (by kernel_rfl)) only [go_sem, ↓reduceIte, Nat.reduceAdd, Nat.reduceMul, Nat.reduceLT, Nat.reduceBEq, Nat.reduceLeDiff, Nat.reduceEqDiff, Int.reduceToNat])) | (refine callB_intro (heldIntS_m (rxS a b) 1 (by omega) (by omega) hd) rfl trivial ?_; try (simp (disch := exact eqId (by kernel_rfl)) only [go_sem, ↓reduceIte, Nat.reduceAdd, Nat.reduceMul, Nat.reduceLT, Nat.reduceBEq, Nat.reduceLeDiff, Nat.reduceEqDiff, Int.reduceToNat])) | (refine callH_intro (fun hcc => heldIntS_m (rxS a b) 1 (by omega) (by omega) hd) ?_; try (simp (disch := exact eqId (by kernel_rfl)) only [go_sem, ↓reduceIte, Nat.reduceAdd, Nat.reduceMul, Nat.reduceLT, Nat.reduceBEq, Nat.reduceLeDiff, Nat.reduceEqDiff, Int.reduceToNat])) | (refine callM_intro (markStrand_d a 1 (by omega) (by omega) s0) ⟨⟨trivial, by decide⟩, rfl, rfl⟩ ?_; try (simp (disch := exact eqId (by kernel_rfl)) only [go_sem, ↓reduceIte, Nat.reduceAdd, Nat.reduceMul, Nat.reduceLT, Nat.reduceBEq, Nat.reduceLeDiff, Nat.reduceEqDiff, Int.reduceToNat])) | (refine callM_intro (markRedacted_m b (mrk tStrand a 1).2 (by omega) (by omega) u1 p5) ⟨⟨trivial, by decide⟩, rfl, rfl⟩ ?_; try (simp (disch := exact eqId (by kernel_rfl)) only [go_sem, ↓reduceIte, Nat.reduceAdd, Nat.reduceMul, Nat.reduceLT, Nat.reduceBEq, Nat.reduceLeDiff, Nat.reduceEqDiff, Int.reduceToNat])) | (refine callM_intro (markIntS_m (rxS a b) 1 (by omega) (by omega) hd) ⟨⟨trivial, by decide⟩, rfl, rfl⟩ ?_; try (simp (disch := exact eqId (by kernel_rfl)) only [go_sem, ↓reduceIte, Nat.reduceAdd, Nat.reduceMul, Nat.reduceLT, Nat.reduceBEq, Nat.reduceLeDiff, Nat.reduceEqDiff, Int.reduceToNat])) | (refine callQ_intro (toStrand_ok _ s0) ?_; try (simp (disch := exact eqId (by kernel_rfl)) only [go_sem, ↓reduceIte, Nat.reduceAdd, Nat.reduceMul, Nat.reduceLT, Nat.reduceBEq, Nat.reduceLeDiff, Nat.reduceEqDiff, Int.reduceToNat])) | (refine callH_intro (fun hcc => toStrand_ok _ s0) ?_; try (simp (disch := exact eqId (by kernel_rfl)) only [go_sem, ↓reduceIte, Nat.reduceAdd, Nat.reduceMul, Nat.reduceLT, Nat.reduceBEq, Nat.reduceLeDiff, Nat.reduceEqDiff, Int.reduceToNat])) | (refine callQ_intro (toRedacted_ok _ s1) ?_; try (simp (disch := exact eqId (by kernel_rfl)) only [go_sem, ↓reduceIte, Nat.reduceAdd, Nat.reduceMul, Nat.reduceLT, Nat.reduceBEq, Nat.reduceLeDiff, Nat.reduceEqDiff, Int.reduceToNat])) | (refine callH_intro (fun hcc => toRedacted_ok _ s1) ?_; try (simp (disch := exact eqId (by kernel_rfl)) only [go_sem, ↓reduceIte, Nat.reduceAdd, Nat.reduceMul, Nat.reduceLT, Nat.reduceBEq, Nat.reduceLeDiff, Nat.reduceEqDiff, Int.reduceToNat])) | (refine callQ_intro (impl_RedactedDigests_ok _ _ u0) ?_; try (simp (disch := exact eqId (by kernel_rfl)) only [go_sem, ↓reduceIte, Nat.reduceAdd, Nat.reduceMul, Nat.reduceLT, Nat.reduceBEq, Nat.reduceLeDiff, Nat.reduceEqDiff, Int.reduceToNat])) | (refine callH_intro (fun hcc => impl_RedactedDigests_ok _ _ u0) ?_; try (simp (disch := exact eqId (by kernel_rfl)) only [go_sem, ↓reduceIte, Nat.reduceAdd, Nat.reduceMul, Nat.reduceLT, Nat.reduceBEq, Nat.reduceLeDiff, Nat.reduceEqDiff, Int.reduceToNat])) | (refine callQ_intro (eqStrand_ok _ _) ?_; try (simp (disch := exact eqId (by kernel_rfl)) only [go_sem, ↓reduceIte, Nat.reduceAdd, Nat.reduceMul, Nat.reduceLT, Nat.reduceBEq, Nat.reduceLeDiff, Nat.reduceEqDiff, Int.reduceToNat])) | (refine callH_intro (fun hcc => eqStrand_ok _ _) ?_; try (simp (disch := exact eqId (by kernel_rfl)) only [go_sem, ↓reduceIte, Nat.reduceAdd, Nat.reduceMul, Nat.reduceLT, Nat.reduceBEq, Nat.reduceLeDiff, Nat.reduceEqDiff, Int.reduceToNat])) | (refine callQ_intro (eqIntS_ok _ _) ?_; try (simp (disch := exact eqId (by kernel_rfl)) only [go_sem, ↓reduceIte, Nat.reduceAdd, Nat.reduceMul, Nat.reduceLT, Nat.reduceBEq, Nat.reduceLeDiff, Nat.reduceEqDiff, Int.reduceToNat])) | (refine callH_intro (fun hcc => eqIntS_ok _ _) ?_; try (simp (disch := exact eqId (by kernel_rfl)) only [go_sem, ↓reduceIte, Nat.reduceAdd, Nat.reduceMul, Nat.reduceLT, Nat.reduceBEq, Nat.reduceLeDiff, Nat.reduceEqDiff, Int.reduceToNat])) | (refine callQ_intro (eqRedacted_ok _ _) ?_; try (simp (disch := exact eqId (by kernel_rfl)) only [go_sem, ↓reduceIte, Nat.reduceAdd, Nat.reduceMul, Nat.reduceLT, Nat.reduceBEq, Nat.reduceLeDiff, Nat.reduceEqDiff, Int.reduceToNat])) | (refine callH_intro (fun hcc => eqRedacted_ok _ _) ?_; try (simp (disch := exact eqId (by kernel_rfl)) only [go_sem, ↓reduceIte, Nat.reduceAdd, Nat.reduceMul, Nat.reduceLT, Nat.reduceBEq, Nat.reduceLeDiff, Nat.reduceEqDiff, Int.reduceToNat])) | (refine callQ_intro (heldIntS_m (rxS a b) 1 (by omega) (by omega) hd) ?_; try (simp (disch := exact eqId (by kernel_rfl)) only [go_sem, ↓reduceIte, Nat.reduceAdd, Nat.reduceMul, Nat.reduceLT, Nat.reduceBEq, Nat.reduceLeDiff, Nat.reduceEqDiff, Int.reduceToNat])) | (refine callH_intro (fun hcc => heldIntS_m (rxS a b) 1 (by omega) (by omega) hd) ?_; try (simp (disch := exact eqId (by kernel_rfl)) only [go_sem, ↓reduceIte, Nat.reduceAdd, Nat.reduceMul, Nat.reduceLT, Nat.reduceBEq, Nat.reduceLeDiff, Nat.reduceEqDiff, Int.reduceToNat])))
  all_goals (try omega)
  all_goals trace_state
theorem law_FnExactAllRedactedDigests_ok (a : tEvidence.den) (b : tRedacted.den) : FunOK Try.prog 9 [⟨tEvidence, a⟩, ⟨tRedacted, b⟩] (.rd .bool true) := by
  refine fun_of (tb := tb) follows Try.func9 (by kernel_rfl) Try.ntmps9 rfl rfl rfl ?_; intro cx hN hw
  simp (disch := exact eqId (by kernel_rfl)) only [go_sem, ↓reduceIte, Nat.reduceAdd, Nat.reduceMul, Nat.reduceLT, Nat.reduceBEq, Nat.reduceLeDiff, Nat.reduceEqDiff, Int.reduceToNat]
  have b0 := (szD_le tEvidence a (1048576) (by omega)).1
  refine callQ_intro (szEvidence_ok a _ (by omega) (by omega)) ?_
  simp (disch := exact eqId (by kernel_rfl)) only [go_sem, ↓reduceIte, Nat.reduceAdd, Nat.reduceMul, Nat.reduceLT, Nat.reduceBEq, Nat.reduceLeDiff, Nat.reduceEqDiff, Int.reduceToNat]
  intro g0
  have s0 := szS g0 (by omega) (by omega)
  have u0 := szS1 g0 (by omega) (by omega)
  have b1 := (szD_le tRedacted b (szD tEvidence a (1048576)) (by omega)).1
  refine callQ_intro (szRedacted_ok b _ (by omega) (by omega)) ?_
  simp (disch := exact eqId (by kernel_rfl)) only [go_sem, ↓reduceIte, Nat.reduceAdd, Nat.reduceMul, Nat.reduceLT, Nat.reduceBEq, Nat.reduceLeDiff, Nat.reduceEqDiff, Int.reduceToNat]
  intro g1
  have s1 := szS g1 (by omega) (by omega)
  have u1 := szS1 g1 (by omega) (by omega)
  have c0 := okS g0 (by omega) (by omega) rfl
  have f0 : flc tEvidence = 0 := rfl
  have n1 := mrk_snd tEvidence a 1
  have n2 := mrk_snd (.list (.list I)) (a.1.map (fun s => rxS s b)) 1
  have hR : Small (.list (.list I)) 1073741824 (a.1.map (fun s => rxS s b)) ∧ cnv (.list (.list I)) (a.1.map (fun s => rxS s b)) ≤ cnv tEvidence a := rxS_sm b u0
  have f9 : flc tRedacted = 1 := rfl
  have c9 := okS g1 (by omega) (by omega) rfl
  have p1 : b.2.1.length ≤ 1048576 := u1.2.1.1
  have p2 : b.2.2.1.length ≤ 1048576 := u1.2.2.1.1
  have p3 : b.2.2.2.1.length ≤ 1048576 := u1.2.2.2.1.1
  have p4 : b.2.2.2.2.1.length ≤ 1048576 := u1.2.2.2.2.1.1
  have p5 : cnv (.list (.list I)) b.2.2.2.2.2.1 ≤ 10000000 := by
    have h8 : cnv tRedacted b = 1 + (cnv (.list I) b.2.1 + (cnv (.list .bool) b.2.2.1 + (cnv (.list .str) b.2.2.2.1 + (cnv (.list I) b.2.2.2.2.1 + (cnv (.list (.list I)) b.2.2.2.2.2.1 + 0))))) := rfl
    omega
  have n9 := mrk_snd (.list (.list I)) b.2.2.2.2.2.1 ((mrk tEvidence a 1).2 + b.2.1.length + b.2.2.1.length + b.2.2.2.1.length + b.2.2.2.2.1.length)
  refine callQ_intro (toEvidence_ok _ s0) ?_
  simp (disch := exact eqId (by kernel_rfl)) only [go_sem, ↓reduceIte, Nat.reduceAdd, Nat.reduceMul, Nat.reduceLT, Nat.reduceBEq, Nat.reduceLeDiff, Nat.reduceEqDiff, Int.reduceToNat]
  refine callQ_intro (toRedacted_ok _ s1) ?_
  simp (disch := exact eqId (by kernel_rfl)) only [go_sem, ↓reduceIte, Nat.reduceAdd, Nat.reduceMul, Nat.reduceLT, Nat.reduceBEq, Nat.reduceLeDiff, Nat.reduceEqDiff, Int.reduceToNat]
  refine callQ_intro (spec_AllRedactedDigests_ok _ _ u0) ?_
  simp (disch := exact eqId (by kernel_rfl)) only [go_sem, ↓reduceIte, Nat.reduceAdd, Nat.reduceMul, Nat.reduceLT, Nat.reduceBEq, Nat.reduceLeDiff, Nat.reduceEqDiff, Int.reduceToNat]
  refine callQ_intro (toEvidence_d _ s0) ?_
  simp (disch := exact eqId (by kernel_rfl)) only [go_sem, ↓reduceIte, Nat.reduceAdd, Nat.reduceMul, Nat.reduceLT, Nat.reduceBEq, Nat.reduceLeDiff, Nat.reduceEqDiff, Int.reduceToNat]
  refine callQ_intro (toRedacted_d _ s1) ?_
  simp (disch := exact eqId (by kernel_rfl)) only [go_sem, ↓reduceIte, Nat.reduceAdd, Nat.reduceMul, Nat.reduceLT, Nat.reduceBEq, Nat.reduceLeDiff, Nat.reduceEqDiff, Int.reduceToNat]
  refine callB_intro (impl_AllRedactedDigests_d _ _ u0) rfl trivial ?_
  simp (disch := exact eqId (by kernel_rfl)) only [go_sem, ↓reduceIte, Nat.reduceAdd, Nat.reduceMul, Nat.reduceLT, Nat.reduceBEq, Nat.reduceLeDiff, Nat.reduceEqDiff, Int.reduceToNat]
  repeat' (first | (refine And.intro ?_ ?_) | intro _ | (refine callB_intro (eqEvidence_ok _ _) rfl trivial ?_; try (simp (disch := exact eqId (by kernel_rfl)) only [go_sem, ↓reduceIte, Nat.reduceAdd, Nat.reduceMul, Nat.reduceLT, Nat.reduceBEq, Nat.reduceLeDiff, Nat.reduceEqDiff, Int.reduceToNat])) | (refine callH_intro (fun hcc => eqEvidence_ok _ _) ?_; try (simp (disch := exact eqId (by kernel_rfl)) only [go_sem, ↓reduceIte, Nat.reduceAdd, Nat.reduceMul, Nat.reduceLT, Nat.reduceBEq, Nat.reduceLeDiff, Nat.reduceEqDiff, Int.reduceToNat])) | (refine callB_intro (eqIntSS_ok _ _) rfl trivial ?_; try (simp (disch := exact eqId (by kernel_rfl)) only [go_sem, ↓reduceIte, Nat.reduceAdd, Nat.reduceMul, Nat.reduceLT, Nat.reduceBEq, Nat.reduceLeDiff, Nat.reduceEqDiff, Int.reduceToNat])) | (refine callH_intro (fun hcc => eqIntSS_ok _ _) ?_; try (simp (disch := exact eqId (by kernel_rfl)) only [go_sem, ↓reduceIte, Nat.reduceAdd, Nat.reduceMul, Nat.reduceLT, Nat.reduceBEq, Nat.reduceLeDiff, Nat.reduceEqDiff, Int.reduceToNat])) | (refine callB_intro (eqRedacted_ok _ _) rfl trivial ?_; try (simp (disch := exact eqId (by kernel_rfl)) only [go_sem, ↓reduceIte, Nat.reduceAdd, Nat.reduceMul, Nat.reduceLT, Nat.reduceBEq, Nat.reduceLeDiff, Nat.reduceEqDiff, Int.reduceToNat])) | (refine callH_intro (fun hcc => eqRedacted_ok _ _) ?_; try (simp (disch := exact eqId (by kernel_rfl)) only [go_sem, ↓reduceIte, Nat.reduceAdd, Nat.reduceMul, Nat.reduceLT, Nat.reduceBEq, Nat.reduceLeDiff, Nat.reduceEqDiff, Int.reduceToNat])) | (refine callB_intro (heldIntSS_d (a.1.map (fun s => rxS s b)) 1 (by omega) (by omega) hR.1) rfl trivial ?_; try (simp (disch := exact eqId (by kernel_rfl)) only [go_sem, ↓reduceIte, Nat.reduceAdd, Nat.reduceMul, Nat.reduceLT, Nat.reduceBEq, Nat.reduceLeDiff, Nat.reduceEqDiff, Int.reduceToNat])) | (refine callH_intro (fun hcc => heldIntSS_d (a.1.map (fun s => rxS s b)) 1 (by omega) (by omega) hR.1) ?_; try (simp (disch := exact eqId (by kernel_rfl)) only [go_sem, ↓reduceIte, Nat.reduceAdd, Nat.reduceMul, Nat.reduceLT, Nat.reduceBEq, Nat.reduceLeDiff, Nat.reduceEqDiff, Int.reduceToNat])) | (refine callM_intro (markEvidence_d a 1 (by omega) (by omega) s0) ⟨⟨trivial, by decide⟩, rfl, rfl⟩ ?_; try (simp (disch := exact eqId (by kernel_rfl)) only [go_sem, ↓reduceIte, Nat.reduceAdd, Nat.reduceMul, Nat.reduceLT, Nat.reduceBEq, Nat.reduceLeDiff, Nat.reduceEqDiff, Int.reduceToNat])) | (refine callM_intro (markRedacted_m b (mrk tEvidence a 1).2 (by omega) (by omega) u1 p5) ⟨⟨trivial, by decide⟩, rfl, rfl⟩ ?_; try (simp (disch := exact eqId (by kernel_rfl)) only [go_sem, ↓reduceIte, Nat.reduceAdd, Nat.reduceMul, Nat.reduceLT, Nat.reduceBEq, Nat.reduceLeDiff, Nat.reduceEqDiff, Int.reduceToNat])) | (refine callM_intro (markIntSS_d (a.1.map (fun s => rxS s b)) 1 (by omega) (by omega) hR.1) ⟨⟨trivial, by decide⟩, rfl, rfl⟩ ?_; try (simp (disch := exact eqId (by kernel_rfl)) only [go_sem, ↓reduceIte, Nat.reduceAdd, Nat.reduceMul, Nat.reduceLT, Nat.reduceBEq, Nat.reduceLeDiff, Nat.reduceEqDiff, Int.reduceToNat])) | (refine callQ_intro (toEvidence_ok _ s0) ?_; try (simp (disch := exact eqId (by kernel_rfl)) only [go_sem, ↓reduceIte, Nat.reduceAdd, Nat.reduceMul, Nat.reduceLT, Nat.reduceBEq, Nat.reduceLeDiff, Nat.reduceEqDiff, Int.reduceToNat])) | (refine callH_intro (fun hcc => toEvidence_ok _ s0) ?_; try (simp (disch := exact eqId (by kernel_rfl)) only [go_sem, ↓reduceIte, Nat.reduceAdd, Nat.reduceMul, Nat.reduceLT, Nat.reduceBEq, Nat.reduceLeDiff, Nat.reduceEqDiff, Int.reduceToNat])) | (refine callQ_intro (toRedacted_ok _ s1) ?_; try (simp (disch := exact eqId (by kernel_rfl)) only [go_sem, ↓reduceIte, Nat.reduceAdd, Nat.reduceMul, Nat.reduceLT, Nat.reduceBEq, Nat.reduceLeDiff, Nat.reduceEqDiff, Int.reduceToNat])) | (refine callH_intro (fun hcc => toRedacted_ok _ s1) ?_; try (simp (disch := exact eqId (by kernel_rfl)) only [go_sem, ↓reduceIte, Nat.reduceAdd, Nat.reduceMul, Nat.reduceLT, Nat.reduceBEq, Nat.reduceLeDiff, Nat.reduceEqDiff, Int.reduceToNat])) | (refine callQ_intro (impl_AllRedactedDigests_ok _ _ u0) ?_; try (simp (disch := exact eqId (by kernel_rfl)) only [go_sem, ↓reduceIte, Nat.reduceAdd, Nat.reduceMul, Nat.reduceLT, Nat.reduceBEq, Nat.reduceLeDiff, Nat.reduceEqDiff, Int.reduceToNat])) | (refine callH_intro (fun hcc => impl_AllRedactedDigests_ok _ _ u0) ?_; try (simp (disch := exact eqId (by kernel_rfl)) only [go_sem, ↓reduceIte, Nat.reduceAdd, Nat.reduceMul, Nat.reduceLT, Nat.reduceBEq, Nat.reduceLeDiff, Nat.reduceEqDiff, Int.reduceToNat])) | (refine callQ_intro (eqEvidence_ok _ _) ?_; try (simp (disch := exact eqId (by kernel_rfl)) only [go_sem, ↓reduceIte, Nat.reduceAdd, Nat.reduceMul, Nat.reduceLT, Nat.reduceBEq, Nat.reduceLeDiff, Nat.reduceEqDiff, Int.reduceToNat])) | (refine callH_intro (fun hcc => eqEvidence_ok _ _) ?_; try (simp (disch := exact eqId (by kernel_rfl)) only [go_sem, ↓reduceIte, Nat.reduceAdd, Nat.reduceMul, Nat.reduceLT, Nat.reduceBEq, Nat.reduceLeDiff, Nat.reduceEqDiff, Int.reduceToNat])) | (refine callQ_intro (eqIntSS_ok _ _) ?_; try (simp (disch := exact eqId (by kernel_rfl)) only [go_sem, ↓reduceIte, Nat.reduceAdd, Nat.reduceMul, Nat.reduceLT, Nat.reduceBEq, Nat.reduceLeDiff, Nat.reduceEqDiff, Int.reduceToNat])) | (refine callH_intro (fun hcc => eqIntSS_ok _ _) ?_; try (simp (disch := exact eqId (by kernel_rfl)) only [go_sem, ↓reduceIte, Nat.reduceAdd, Nat.reduceMul, Nat.reduceLT, Nat.reduceBEq, Nat.reduceLeDiff, Nat.reduceEqDiff, Int.reduceToNat])) | (refine callQ_intro (eqRedacted_ok _ _) ?_; try (simp (disch := exact eqId (by kernel_rfl)) only [go_sem, ↓reduceIte, Nat.reduceAdd, Nat.reduceMul, Nat.reduceLT, Nat.reduceBEq, Nat.reduceLeDiff, Nat.reduceEqDiff, Int.reduceToNat])) | (refine callH_intro (fun hcc => eqRedacted_ok _ _) ?_; try (simp (disch := exact eqId (by kernel_rfl)) only [go_sem, ↓reduceIte, Nat.reduceAdd, Nat.reduceMul, Nat.reduceLT, Nat.reduceBEq, Nat.reduceLeDiff, Nat.reduceEqDiff, Int.reduceToNat])) | (refine callQ_intro (heldIntSS_d (a.1.map (fun s => rxS s b)) 1 (by omega) (by omega) hR.1) ?_; try (simp (disch := exact eqId (by kernel_rfl)) only [go_sem, ↓reduceIte, Nat.reduceAdd, Nat.reduceMul, Nat.reduceLT, Nat.reduceBEq, Nat.reduceLeDiff, Nat.reduceEqDiff, Int.reduceToNat])) | (refine callH_intro (fun hcc => heldIntSS_d (a.1.map (fun s => rxS s b)) 1 (by omega) (by omega) hR.1) ?_; try (simp (disch := exact eqId (by kernel_rfl)) only [go_sem, ↓reduceIte, Nat.reduceAdd, Nat.reduceMul, Nat.reduceLT, Nat.reduceBEq, Nat.reduceLeDiff, Nat.reduceEqDiff, Int.reduceToNat])))
  all_goals (try omega)
  all_goals trace_state
end Go.Proofs.Ytfkdkblbhilghaa
