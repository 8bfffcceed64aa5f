/- What draws of stamps, mandates and pieces answer. It proves nothing of a statement by itself. -/
import Derived.Test.YtchefiaimblieaaGreatB5
set_option linter.unusedSimpArgs false
set_option linter.unusedVariables false
set_option maxRecDepth 100000
namespace Go.Proofs.YtchefiaimblieaaGreat
open Go.AL
def A4 : List tAuthority.den := [(1, 31, 1, ()), (2, 32, 2, ()), (3, 33, 1, ()), (4, 34, 0, ())]
def isM (x : tMandate.den) : Bool := inB x.1 1 99 && inB x.2.1 0 99 && inB x.2.2.2.2.1 1 99 && spB (x.2.2.1, x.2.2.2.1, ())
def mmF (ks : List tKey.den) (x : tMandate.den) : tMandate.den × Bool := if isM x = false ∨ fnK ks x.2.2.2.2.1 < 0 then (tMandate.dflt, false) else ((x.1, x.2.1, x.2.2.1, x.2.2.2.1, x.2.2.2.2.1, mwF (ks.getD (fnK ks x.2.2.2.2.1).toNat tKey.dflt) [105, x.1, x.2.1, x.2.2.1, x.2.2.2.1, x.2.2.2.2.1], ()), true)
theorem mmF_y {ks : List tKey.den} {x : tMandate.den} (h : isM x = false ∨ fnK ks x.2.2.2.2.1 < 0) : mmF ks x = (tMandate.dflt, false) := if_pos h
theorem mmF_n {ks : List tKey.den} {x : tMandate.den} (h : isM x = true ∧ ¬ fnK ks x.2.2.2.2.1 < 0) : mmF ks x = ((x.1, x.2.1, x.2.2.1, x.2.2.2.1, x.2.2.2.2.1, mwF (ks.getD (fnK ks x.2.2.2.2.1).toNat tKey.dflt) [105, x.1, x.2.1, x.2.2.1, x.2.2.2.1, x.2.2.2.2.1], ()), true) := if_neg (by simp only [not_or, Bool.not_eq_false]; exact h)
def d11 (s : Cu) : tStamp.den × Cu :=
  let a := dB s 4
  let q := dB a.2 9
  let t := dB q.2 60
  let e := dB t.2 99
  ((mksF K8 A4 (IntKind.i64.wrap (1 + a.1), q.1, t.1, e.1, 0, ())).1, e.2)
def d11B (s : Cu) : tStamp.den × Cu :=
  let x := d11 s
  let k := dB x.2 9
  if k.1 = 0 then (setF tStamp x.1 0 (dB k.2 6).1, (dB k.2 6).2)
  else if k.1 = 1 then (setF tStamp x.1 1 (dI k.2 [-1, 3]).1, (dI k.2 [-1, 3]).2)
  else if k.1 = 2 then (setF tStamp x.1 2 (dR k.2).1, (dR k.2).2)
  else if k.1 = 3 then (setF tStamp x.1 3 (IntKind.i64.wrap (x.1.2.2.2.1 + 1)), k.2)
  else if k.1 = 4 then (setF tStamp x.1 4 (IntKind.i64.wrap (x.1.2.2.2.2.1 + 1)), k.2)
  else (x.1, k.2)
def d15 (s : Cu) : tMandate.den × Cu :=
  let f := dB s 40
  let p := dB f.2 2
  let t := dB p.2 30
  ((mmF K8 (50, IntKind.i64.wrap (1 + p.1), f.1, IntKind.i64.wrap (f.1 + t.1), 21, 0, ())).1, t.2)
def d15A (s : Cu) : tMandate.den × Cu :=
  let x := d15 s
  let k := dB x.2 9
  if k.1 = 0 then (setF tMandate x.1 0 (dI k.2 [0, 51, 100]).1, (dI k.2 [0, 51, 100]).2)
  else if k.1 = 1 then (setF tMandate x.1 1 (dI k.2 [-1, 2, 100]).1, (dI k.2 [-1, 2, 100]).2)
  else if k.1 = 2 then (setF tMandate x.1 3 (dR k.2).1, (dR k.2).2)
  else if k.1 = 3 then (setF tMandate x.1 4 (dN k.2).1, (dN k.2).2)
  else if k.1 = 4 then (setF tMandate x.1 5 (IntKind.i64.wrap (x.1.2.2.2.2.2.1 + 1)), k.2)
  else (x.1, k.2)
def d18D (s : Cu) : tPiece.den × Cu :=
  let k := dB s 5
  if k.1 = 0 then
    let j := dB k.2 3
    let x := C3.getD j.1.toNat tCert.dflt
    ((x.2.2.2.2.2.1, certI x, x.2.2.2.2.2.2.1, ()), j.2)
  else if k.1 = 1 then
    let x := d10D k.2
    ((x.1.2.2.2.1, [102, x.1.1, x.1.2.1, x.1.2.2.1, x.1.2.2.2.1], x.1.2.2.2.2.1, ()), x.2)
  else if k.1 = 2 then
    let x := d11 k.2
    ((skyF A4 x.1, [103, x.1.1, x.1.2.1, x.1.2.2.1, x.1.2.2.2.1], x.1.2.2.2.2.1, ()), x.2)
  else if k.1 = 3 then
    let x := d13 k.2
    ((x.1.1.1, [104, x.1.1.1, x.1.1.2.1, x.1.1.2.2.1, x.1.1.2.2.2.1, x.1.1.2.2.2.2.1, x.1.1.2.2.2.2.2.1, x.1.1.2.2.2.2.2.2.1, x.1.1.2.2.2.2.2.2.2.1], x.1.1.2.2.2.2.2.2.2.2.1, ()), x.2)
  else
    let x := d15 k.2
    ((x.1.2.2.2.2.1, [105, x.1.1, x.1.2.1, x.1.2.2.1, x.1.2.2.2.1, x.1.2.2.2.2.1], x.1.2.2.2.2.2.1, ()), x.2)
theorem d18D_len (s : Cu) : 5 ≤ (d18D s).1.2.1.length ∧ (d18D s).1.2.1.length ≤ 9 := by
  unfold d18D
  simp only
  repeat' split
  all_goals (simp only [List.length_cons, List.length_nil, certI]; omega)
def d18 (s : Cu) : tPiece.den × Cu :=
  let p := d18D s
  let k := dB p.2 8
  if k.1 = 0 then (((dN k.2).1, p.1.2.1, p.1.2.2.1, ()), (dN k.2).2)
  else if k.1 = 1 then ((p.1.1, p.1.2.1 ++ [5], p.1.2.2.1, ()), k.2)
  else if k.1 = 2 then ((p.1.1, p.1.2.1, IntKind.i64.wrap (p.1.2.2.1 + 1), ()), k.2)
  else if k.1 = 3 then ((p.1.1, p.1.2.1.set 0 (dI k.2 [100, 101, 103, 105, 106, -1]).1, p.1.2.2.1, ()), (dI k.2 [100, 101, 103, 105, 106, -1]).2)
  else if k.1 = 4 then ((p.1.1, p.1.2.1.set 1 (IntKind.i64.wrap (p.1.2.1.getD 1 0 + 1)), p.1.2.2.1, ()), k.2)
  else (p.1, k.2)
theorem l11Authorities_ok : FunOK Tryz.prog 62 [] (.own 116 tAuthority A4) := by
  refine fun_of (tb := tb) follows Tryz.func62 (by kernel_rfl) Tryz.ntmps62 rfl rfl rfl ?_
  intro cx hN hw
  simp (disch := exact eqId (by kernel_rfl)) only [go_sem, ↓reduceIte, Nat.reduceAdd, Nat.reduceMul, Nat.reduceLT, Nat.reduceBEq, Nat.reduceLeDiff, Nat.reduceEqDiff, Int.reduceToNat]
  try rfl
theorem spec_IsMandate_ok (x : tMandate.den) : FunOK Tryz.prog 95 [⟨tMandate, x⟩] (.rd .bool (isM x)) := by
  refine fun_of (tb := tb) follows Tryz.func95 (by kernel_rfl) Tryz.ntmps95 rfl rfl rfl ?_
  intro cx hN hw
  simp (disch := exact eqId (by kernel_rfl)) only [go_sem, ↓reduceIte, Nat.reduceAdd, Nat.reduceMul, Nat.reduceLT, Nat.reduceBEq, Nat.reduceLeDiff, Nat.reduceEqDiff, Int.reduceToNat]
  repeat' (first | (refine And.intro ?_ ?_) | intro _ | (refine callQ_intro (l1In_ok _ _ _) ?_; try (simp (disch := exact eqId (by kernel_rfl)) only [go_sem, ↓reduceIte, Nat.reduceAdd, Nat.reduceMul, Nat.reduceLT, Nat.reduceBEq, Nat.reduceLeDiff, Nat.reduceEqDiff, Int.reduceToNat])) | (refine callH_intro (fun hcc => l1In_ok _ _ _) ?_; try (simp (disch := exact eqId (by kernel_rfl)) only [go_sem, ↓reduceIte, Nat.reduceAdd, Nat.reduceMul, Nat.reduceLT, Nat.reduceBEq, Nat.reduceLeDiff, Nat.reduceEqDiff, Int.reduceToNat])) | (refine callQ_intro (spec_IsSpan_ok _) ?_; try (simp (disch := exact eqId (by kernel_rfl)) only [go_sem, ↓reduceIte, Nat.reduceAdd, Nat.reduceMul, Nat.reduceLT, Nat.reduceBEq, Nat.reduceLeDiff, Nat.reduceEqDiff, Int.reduceToNat])) | (refine callH_intro (fun hcc => spec_IsSpan_ok _) ?_; try (simp (disch := exact eqId (by kernel_rfl)) only [go_sem, ↓reduceIte, Nat.reduceAdd, Nat.reduceMul, Nat.reduceLT, Nat.reduceBEq, Nat.reduceLeDiff, Nat.reduceEqDiff, Int.reduceToNat])))
  all_goals (try rfl)
  all_goals (try (simp_all [isM, inB]; done))
  all_goals (try trace_state)
theorem spec_MakeMandate_ok (ks : List tKey.den) (x : tMandate.den) : FunOK Tryz.prog 81 [⟨(.list tKey), ks⟩, ⟨tMandate, x⟩] (.tup [.rd tMandate (mmF ks x).1, .rd .bool (mmF ks x).2]) := by
  have hf1 := fnK_lt ks x.2.2.2.2.1
  refine fun_of (tb := tb) follows Tryz.func81 (by kernel_rfl) Tryz.ntmps81 rfl rfl rfl ?_
  intro cx hN hw
  simp (disch := exact eqId (by kernel_rfl)) only [go_sem, ↓reduceIte, Nat.reduceAdd, Nat.reduceMul, Nat.reduceLT, Nat.reduceBEq, Nat.reduceLeDiff, Nat.reduceEqDiff, Int.reduceToNat]
  repeat' (first | (refine And.intro ?_ ?_) | intro _ | (refine callQ_intro (spec_FindK_ok _ _) ?_; try (simp (disch := exact eqId (by kernel_rfl)) only [go_sem, ↓reduceIte, Nat.reduceAdd, Nat.reduceMul, Nat.reduceLT, Nat.reduceBEq, Nat.reduceLeDiff, Nat.reduceEqDiff, Int.reduceToNat])) | (refine callH_intro (fun hcc => spec_FindK_ok _ _) ?_; try (simp (disch := exact eqId (by kernel_rfl)) only [go_sem, ↓reduceIte, Nat.reduceAdd, Nat.reduceMul, Nat.reduceLT, Nat.reduceBEq, Nat.reduceLeDiff, Nat.reduceEqDiff, Int.reduceToNat])) | (refine callQ_intro (spec_IsMandate_ok _) ?_; try (simp (disch := exact eqId (by kernel_rfl)) only [go_sem, ↓reduceIte, Nat.reduceAdd, Nat.reduceMul, Nat.reduceLT, Nat.reduceBEq, Nat.reduceLeDiff, Nat.reduceEqDiff, Int.reduceToNat])) | (refine callH_intro (fun hcc => spec_IsMandate_ok _) ?_; try (simp (disch := exact eqId (by kernel_rfl)) only [go_sem, ↓reduceIte, Nat.reduceAdd, Nat.reduceMul, Nat.reduceLT, Nat.reduceBEq, Nat.reduceLeDiff, Nat.reduceEqDiff, Int.reduceToNat])) | (refine callQ_intro (spec_MandateInts_ok _) ?_; try (simp (disch := exact eqId (by kernel_rfl)) only [go_sem, ↓reduceIte, Nat.reduceAdd, Nat.reduceMul, Nat.reduceLT, Nat.reduceBEq, Nat.reduceLeDiff, Nat.reduceEqDiff, Int.reduceToNat])) | (refine callH_intro (fun hcc => spec_MandateInts_ok _) ?_; try (simp (disch := exact eqId (by kernel_rfl)) only [go_sem, ↓reduceIte, Nat.reduceAdd, Nat.reduceMul, Nat.reduceLT, Nat.reduceBEq, Nat.reduceLeDiff, Nat.reduceEqDiff, Int.reduceToNat])) | (refine callQ_intro (spec_MarkWith_ok _ _ (show (List.length _) ≤ 1073741823 by simp)) ?_; try (simp (disch := exact eqId (by kernel_rfl)) only [go_sem, ↓reduceIte, Nat.reduceAdd, Nat.reduceMul, Nat.reduceLT, Nat.reduceBEq, Nat.reduceLeDiff, Nat.reduceEqDiff, Int.reduceToNat])) | (refine callH_intro (fun hcc => spec_MarkWith_ok _ _ (show (List.length _) ≤ 1073741823 by simp)) ?_; try (simp (disch := exact eqId (by kernel_rfl)) only [go_sem, ↓reduceIte, Nat.reduceAdd, Nat.reduceMul, Nat.reduceLT, Nat.reduceBEq, Nat.reduceLeDiff, Nat.reduceEqDiff, Int.reduceToNat])))
  all_goals (try omega)
  all_goals (rename_i hc; first | exact (congrArg Prod.fst (mmF_y hc)).symm | exact (congrArg Prod.snd (mmF_y hc)).symm | exact (congrArg Prod.fst (mmF_n hc)).symm | exact (congrArg Prod.snd (mmF_n hc)).symm | trace_state)
theorem l11Stamp_ok (s : Cu)  : MutOK Tryz.prog 51 [none] [.obj (.box 90 [.rd (.list (.int .u8)) (s).b, .rd I (s).i, .rd I (s).h])] (.rd tStamp (d11 s).1) [.box 90 [.rd (.list (.int .u8)) ((d11 s).2).b, .rd I ((d11 s).2).i, .rd I ((d11 s).2).h]] := by
  refine fun_ofM (tb := tb) follows Tryz.func51 (by kernel_rfl) Tryz.ntmps51 rfl rfl (by simp [shOK]) rfl ?_
  intro cx hN hw
  simp (disch := exact eqId (by kernel_rfl)) only [go_sem, ↓reduceIte, Nat.reduceAdd, Nat.reduceMul, Nat.reduceLT, Nat.reduceBEq, Nat.reduceLeDiff, Nat.reduceEqDiff, Int.reduceToNat]
  repeat' (first | (refine And.intro ?_ ?_) | intro _ | (refine callM_intro (dB_ok _ _) ⟨⟨trivial, by decide⟩, rfl, rfl⟩ ?_; try (simp (disch := exact eqId (by kernel_rfl)) only [go_sem, ↓reduceIte, Nat.reduceAdd, Nat.reduceMul, Nat.reduceLT, Nat.reduceBEq, Nat.reduceLeDiff, Nat.reduceEqDiff, Int.reduceToNat])) | (refine callQ_intro (l8Keys_ok) ?_; try (simp (disch := exact eqId (by kernel_rfl)) only [go_sem, ↓reduceIte, Nat.reduceAdd, Nat.reduceMul, Nat.reduceLT, Nat.reduceBEq, Nat.reduceLeDiff, Nat.reduceEqDiff, Int.reduceToNat])) | (refine callH_intro (fun hcc => l8Keys_ok) ?_; try (simp (disch := exact eqId (by kernel_rfl)) only [go_sem, ↓reduceIte, Nat.reduceAdd, Nat.reduceMul, Nat.reduceLT, Nat.reduceBEq, Nat.reduceLeDiff, Nat.reduceEqDiff, Int.reduceToNat])) | (refine callQ_intro (l11Authorities_ok) ?_; try (simp (disch := exact eqId (by kernel_rfl)) only [go_sem, ↓reduceIte, Nat.reduceAdd, Nat.reduceMul, Nat.reduceLT, Nat.reduceBEq, Nat.reduceLeDiff, Nat.reduceEqDiff, Int.reduceToNat])) | (refine callH_intro (fun hcc => l11Authorities_ok) ?_; try (simp (disch := exact eqId (by kernel_rfl)) only [go_sem, ↓reduceIte, Nat.reduceAdd, Nat.reduceMul, Nat.reduceLT, Nat.reduceBEq, Nat.reduceLeDiff, Nat.reduceEqDiff, Int.reduceToNat])) | (refine callQ_intro (spec_MakeStamp_ok _ _ _) ?_; try (simp (disch := exact eqId (by kernel_rfl)) only [go_sem, ↓reduceIte, Nat.reduceAdd, Nat.reduceMul, Nat.reduceLT, Nat.reduceBEq, Nat.reduceLeDiff, Nat.reduceEqDiff, Int.reduceToNat])) | (refine callH_intro (fun hcc => spec_MakeStamp_ok _ _ _) ?_; try (simp (disch := exact eqId (by kernel_rfl)) only [go_sem, ↓reduceIte, Nat.reduceAdd, Nat.reduceMul, Nat.reduceLT, Nat.reduceBEq, Nat.reduceLeDiff, Nat.reduceEqDiff, Int.reduceToNat])))
  all_goals (try omega)
  all_goals (try (show Nat.ble _ _ = true; rfl))
  all_goals (try (unfold d11; simp only [*, ↓reduceIte]; done))
  all_goals (try (unfold d11; simp only [*, ↓reduceIte]; first | rfl | exact ⟨rfl, rfl⟩ | exact ⟨rfl, rfl, rfl⟩))
theorem l11Bent_ok (s : Cu)  : MutOK Tryz.prog 33 [none] [.obj (.box 90 [.rd (.list (.int .u8)) (s).b, .rd I (s).i, .rd I (s).h])] (.rd tStamp (d11B s).1) [.box 90 [.rd (.list (.int .u8)) ((d11B s).2).b, .rd I ((d11B s).2).i, .rd I ((d11B s).2).h]] := by
  refine fun_ofM (tb := tb) follows Tryz.func33 (by kernel_rfl) Tryz.ntmps33 rfl rfl (by simp [shOK]) rfl ?_
  intro cx hN hw
  simp (disch := exact eqId (by kernel_rfl)) only [go_sem, ↓reduceIte, Nat.reduceAdd, Nat.reduceMul, Nat.reduceLT, Nat.reduceBEq, Nat.reduceLeDiff, Nat.reduceEqDiff, Int.reduceToNat]
  repeat' (first | (refine And.intro ?_ ?_) | intro _ | (refine callM_intro (dI_ok _ [-1, 3] (by decide)) ⟨⟨trivial, by decide⟩, rfl, rfl⟩ ?_; try (simp (disch := exact eqId (by kernel_rfl)) only [go_sem, ↓reduceIte, Nat.reduceAdd, Nat.reduceMul, Nat.reduceLT, Nat.reduceBEq, Nat.reduceLeDiff, Nat.reduceEqDiff, Int.reduceToNat])) | (refine callM_intro (l11Stamp_ok _) ⟨⟨trivial, by decide⟩, rfl, rfl⟩ ?_; try (simp (disch := exact eqId (by kernel_rfl)) only [go_sem, ↓reduceIte, Nat.reduceAdd, Nat.reduceMul, Nat.reduceLT, Nat.reduceBEq, Nat.reduceLeDiff, Nat.reduceEqDiff, Int.reduceToNat])) | (refine callM_intro (l4Raw_ok _) ⟨⟨trivial, by decide⟩, rfl, rfl⟩ ?_; try (simp (disch := exact eqId (by kernel_rfl)) only [go_sem, ↓reduceIte, Nat.reduceAdd, Nat.reduceMul, Nat.reduceLT, Nat.reduceBEq, Nat.reduceLeDiff, Nat.reduceEqDiff, Int.reduceToNat])) | (refine callM_intro (dB_ok _ _) ⟨⟨trivial, by decide⟩, rfl, rfl⟩ ?_; try (simp (disch := exact eqId (by kernel_rfl)) only [go_sem, ↓reduceIte, Nat.reduceAdd, Nat.reduceMul, Nat.reduceLT, Nat.reduceBEq, Nat.reduceLeDiff, Nat.reduceEqDiff, Int.reduceToNat])))
  all_goals (try omega)
  all_goals (try (show Nat.ble _ _ = true; rfl))
  all_goals (try (unfold d11B; simp only [*, ↓reduceIte]; done))
  all_goals (try (unfold d11B; simp only [*, ↓reduceIte]; first | rfl | exact ⟨rfl, rfl⟩ | exact ⟨rfl, rfl, rfl⟩))
theorem l15Draw_ok (s : Cu)  : MutOK Tryz.prog 64 [none] [.obj (.box 90 [.rd (.list (.int .u8)) (s).b, .rd I (s).i, .rd I (s).h])] (.rd tMandate (d15 s).1) [.box 90 [.rd (.list (.int .u8)) ((d15 s).2).b, .rd I ((d15 s).2).i, .rd I ((d15 s).2).h]] := by
  refine fun_ofM (tb := tb) follows Tryz.func64 (by kernel_rfl) Tryz.ntmps64 rfl rfl (by simp [shOK]) rfl ?_
  intro cx hN hw
  simp (disch := exact eqId (by kernel_rfl)) only [go_sem, ↓reduceIte, Nat.reduceAdd, Nat.reduceMul, Nat.reduceLT, Nat.reduceBEq, Nat.reduceLeDiff, Nat.reduceEqDiff, Int.reduceToNat]
  repeat' (first | (refine And.intro ?_ ?_) | intro _ | (refine callM_intro (dB_ok _ _) ⟨⟨trivial, by decide⟩, rfl, rfl⟩ ?_; try (simp (disch := exact eqId (by kernel_rfl)) only [go_sem, ↓reduceIte, Nat.reduceAdd, Nat.reduceMul, Nat.reduceLT, Nat.reduceBEq, Nat.reduceLeDiff, Nat.reduceEqDiff, Int.reduceToNat])) | (refine callQ_intro (l8Keys_ok) ?_; try (simp (disch := exact eqId (by kernel_rfl)) only [go_sem, ↓reduceIte, Nat.reduceAdd, Nat.reduceMul, Nat.reduceLT, Nat.reduceBEq, Nat.reduceLeDiff, Nat.reduceEqDiff, Int.reduceToNat])) | (refine callH_intro (fun hcc => l8Keys_ok) ?_; try (simp (disch := exact eqId (by kernel_rfl)) only [go_sem, ↓reduceIte, Nat.reduceAdd, Nat.reduceMul, Nat.reduceLT, Nat.reduceBEq, Nat.reduceLeDiff, Nat.reduceEqDiff, Int.reduceToNat])) | (refine callQ_intro (spec_MakeMandate_ok _ _) ?_; try (simp (disch := exact eqId (by kernel_rfl)) only [go_sem, ↓reduceIte, Nat.reduceAdd, Nat.reduceMul, Nat.reduceLT, Nat.reduceBEq, Nat.reduceLeDiff, Nat.reduceEqDiff, Int.reduceToNat])) | (refine callH_intro (fun hcc => spec_MakeMandate_ok _ _) ?_; try (simp (disch := exact eqId (by kernel_rfl)) only [go_sem, ↓reduceIte, Nat.reduceAdd, Nat.reduceMul, Nat.reduceLT, Nat.reduceBEq, Nat.reduceLeDiff, Nat.reduceEqDiff, Int.reduceToNat])))
  all_goals (try omega)
  all_goals (try (show Nat.ble _ _ = true; rfl))
  all_goals (try (unfold d15; simp only [*, ↓reduceIte]; done))
  all_goals (try (unfold d15; simp only [*, ↓reduceIte]; first | rfl | exact ⟨rfl, rfl⟩ | exact ⟨rfl, rfl, rfl⟩))
theorem l15Any_ok (s : Cu)  : MutOK Tryz.prog 54 [none] [.obj (.box 90 [.rd (.list (.int .u8)) (s).b, .rd I (s).i, .rd I (s).h])] (.rd tMandate (d15A s).1) [.box 90 [.rd (.list (.int .u8)) ((d15A s).2).b, .rd I ((d15A s).2).i, .rd I ((d15A s).2).h]] := by
  refine fun_ofM (tb := tb) follows Tryz.func54 (by kernel_rfl) Tryz.ntmps54 rfl rfl (by simp [shOK]) rfl ?_
  intro cx hN hw
  simp (disch := exact eqId (by kernel_rfl)) only [go_sem, ↓reduceIte, Nat.reduceAdd, Nat.reduceMul, Nat.reduceLT, Nat.reduceBEq, Nat.reduceLeDiff, Nat.reduceEqDiff, Int.reduceToNat]
  repeat' (first | (refine And.intro ?_ ?_) | intro _ | (refine callM_intro (dI_ok _ [0, 51, 100] (by decide)) ⟨⟨trivial, by decide⟩, rfl, rfl⟩ ?_; try (simp (disch := exact eqId (by kernel_rfl)) only [go_sem, ↓reduceIte, Nat.reduceAdd, Nat.reduceMul, Nat.reduceLT, Nat.reduceBEq, Nat.reduceLeDiff, Nat.reduceEqDiff, Int.reduceToNat])) | (refine callM_intro (dI_ok _ [-1, 2, 100] (by decide)) ⟨⟨trivial, by decide⟩, rfl, rfl⟩ ?_; try (simp (disch := exact eqId (by kernel_rfl)) only [go_sem, ↓reduceIte, Nat.reduceAdd, Nat.reduceMul, Nat.reduceLT, Nat.reduceBEq, Nat.reduceLeDiff, Nat.reduceEqDiff, Int.reduceToNat])) | (refine callM_intro (l15Draw_ok _) ⟨⟨trivial, by decide⟩, rfl, rfl⟩ ?_; try (simp (disch := exact eqId (by kernel_rfl)) only [go_sem, ↓reduceIte, Nat.reduceAdd, Nat.reduceMul, Nat.reduceLT, Nat.reduceBEq, Nat.reduceLeDiff, Nat.reduceEqDiff, Int.reduceToNat])) | (refine callM_intro (l4Raw_ok _) ⟨⟨trivial, by decide⟩, rfl, rfl⟩ ?_; try (simp (disch := exact eqId (by kernel_rfl)) only [go_sem, ↓reduceIte, Nat.reduceAdd, Nat.reduceMul, Nat.reduceLT, Nat.reduceBEq, Nat.reduceLeDiff, Nat.reduceEqDiff, Int.reduceToNat])) | (refine callM_intro (l8Number_ok _) ⟨⟨trivial, by decide⟩, rfl, rfl⟩ ?_; try (simp (disch := exact eqId (by kernel_rfl)) only [go_sem, ↓reduceIte, Nat.reduceAdd, Nat.reduceMul, Nat.reduceLT, Nat.reduceBEq, Nat.reduceLeDiff, Nat.reduceEqDiff, Int.reduceToNat])) | (refine callM_intro (dB_ok _ _) ⟨⟨trivial, by decide⟩, rfl, rfl⟩ ?_; try (simp (disch := exact eqId (by kernel_rfl)) only [go_sem, ↓reduceIte, Nat.reduceAdd, Nat.reduceMul, Nat.reduceLT, Nat.reduceBEq, Nat.reduceLeDiff, Nat.reduceEqDiff, Int.reduceToNat])))
  all_goals (try omega)
  all_goals (try (show Nat.ble _ _ = true; rfl))
  all_goals (try (unfold d15A; simp only [*, ↓reduceIte]; done))
  all_goals (try (unfold d15A; simp only [*, ↓reduceIte]; first | rfl | exact ⟨rfl, rfl⟩ | exact ⟨rfl, rfl, rfl⟩))
theorem l18Draw_ok (s : Cu)  : MutOK Tryz.prog 55 [none] [.obj (.box 90 [.rd (.list (.int .u8)) (s).b, .rd I (s).i, .rd I (s).h])] (.agg [.rd I (d18D s).1.1, .own 3 I (d18D s).1.2.1, .rd I (d18D s).1.2.2.1]) [.box 90 [.rd (.list (.int .u8)) ((d18D s).2).b, .rd I ((d18D s).2).i, .rd I ((d18D s).2).h]] := by
  have h1 := dB_in (dB s 5).2 (n := 3) (by decide)
  have hl : C3.length = 3 := rfl
  refine fun_ofM (tb := tb) follows Tryz.func55 (by kernel_rfl) Tryz.ntmps55 rfl rfl (by simp [shOK]) rfl ?_
  intro cx hN hw
  simp (disch := exact eqId (by kernel_rfl)) only [go_sem, ↓reduceIte, Nat.reduceAdd, Nat.reduceMul, Nat.reduceLT, Nat.reduceBEq, Nat.reduceLeDiff, Nat.reduceEqDiff, Int.reduceToNat]
  repeat' (first | (refine And.intro ?_ ?_) | intro _ | (refine callM_intro (l10Draw_ok _) ⟨⟨trivial, by decide⟩, rfl, rfl⟩ ?_; try (simp (disch := exact eqId (by kernel_rfl)) only [go_sem, ↓reduceIte, Nat.reduceAdd, Nat.reduceMul, Nat.reduceLT, Nat.reduceBEq, Nat.reduceLeDiff, Nat.reduceEqDiff, Int.reduceToNat])) | (refine callM_intro (l11Stamp_ok _) ⟨⟨trivial, by decide⟩, rfl, rfl⟩ ?_; try (simp (disch := exact eqId (by kernel_rfl)) only [go_sem, ↓reduceIte, Nat.reduceAdd, Nat.reduceMul, Nat.reduceLT, Nat.reduceBEq, Nat.reduceLeDiff, Nat.reduceEqDiff, Int.reduceToNat])) | (refine callM_intro (l13Draw_ok _) ⟨⟨trivial, by decide⟩, rfl, rfl⟩ ?_; try (simp (disch := exact eqId (by kernel_rfl)) only [go_sem, ↓reduceIte, Nat.reduceAdd, Nat.reduceMul, Nat.reduceLT, Nat.reduceBEq, Nat.reduceLeDiff, Nat.reduceEqDiff, Int.reduceToNat])) | (refine callM_intro (l15Draw_ok _) ⟨⟨trivial, by decide⟩, rfl, rfl⟩ ?_; try (simp (disch := exact eqId (by kernel_rfl)) only [go_sem, ↓reduceIte, Nat.reduceAdd, Nat.reduceMul, Nat.reduceLT, Nat.reduceBEq, Nat.reduceLeDiff, Nat.reduceEqDiff, Int.reduceToNat])) | (refine callM_intro (dB_ok _ _) ⟨⟨trivial, by decide⟩, rfl, rfl⟩ ?_; try (simp (disch := exact eqId (by kernel_rfl)) only [go_sem, ↓reduceIte, Nat.reduceAdd, Nat.reduceMul, Nat.reduceLT, Nat.reduceBEq, Nat.reduceLeDiff, Nat.reduceEqDiff, Int.reduceToNat])) | (refine callQ_intro (l9Certs_ok) ?_; try (simp (disch := exact eqId (by kernel_rfl)) only [go_sem, ↓reduceIte, Nat.reduceAdd, Nat.reduceMul, Nat.reduceLT, Nat.reduceBEq, Nat.reduceLeDiff, Nat.reduceEqDiff, Int.reduceToNat])) | (refine callH_intro (fun hcc => l9Certs_ok) ?_; try (simp (disch := exact eqId (by kernel_rfl)) only [go_sem, ↓reduceIte, Nat.reduceAdd, Nat.reduceMul, Nat.reduceLT, Nat.reduceBEq, Nat.reduceLeDiff, Nat.reduceEqDiff, Int.reduceToNat])) | (refine callQ_intro (l11Authorities_ok) ?_; try (simp (disch := exact eqId (by kernel_rfl)) only [go_sem, ↓reduceIte, Nat.reduceAdd, Nat.reduceMul, Nat.reduceLT, Nat.reduceBEq, Nat.reduceLeDiff, Nat.reduceEqDiff, Int.reduceToNat])) | (refine callH_intro (fun hcc => l11Authorities_ok) ?_; try (simp (disch := exact eqId (by kernel_rfl)) only [go_sem, ↓reduceIte, Nat.reduceAdd, Nat.reduceMul, Nat.reduceLT, Nat.reduceBEq, Nat.reduceLeDiff, Nat.reduceEqDiff, Int.reduceToNat])) | (refine callQ_intro (spec_CertPiece_ok _) ?_; try (simp (disch := exact eqId (by kernel_rfl)) only [go_sem, ↓reduceIte, Nat.reduceAdd, Nat.reduceMul, Nat.reduceLT, Nat.reduceBEq, Nat.reduceLeDiff, Nat.reduceEqDiff, Int.reduceToNat])) | (refine callH_intro (fun hcc => spec_CertPiece_ok _) ?_; try (simp (disch := exact eqId (by kernel_rfl)) only [go_sem, ↓reduceIte, Nat.reduceAdd, Nat.reduceMul, Nat.reduceLT, Nat.reduceBEq, Nat.reduceLeDiff, Nat.reduceEqDiff, Int.reduceToNat])) | (refine callQ_intro (spec_StatusPiece_ok _) ?_; try (simp (disch := exact eqId (by kernel_rfl)) only [go_sem, ↓reduceIte, Nat.reduceAdd, Nat.reduceMul, Nat.reduceLT, Nat.reduceBEq, Nat.reduceLeDiff, Nat.reduceEqDiff, Int.reduceToNat])) | (refine callH_intro (fun hcc => spec_StatusPiece_ok _) ?_; try (simp (disch := exact eqId (by kernel_rfl)) only [go_sem, ↓reduceIte, Nat.reduceAdd, Nat.reduceMul, Nat.reduceLT, Nat.reduceBEq, Nat.reduceLeDiff, Nat.reduceEqDiff, Int.reduceToNat])) | (refine callQ_intro (spec_StampKey_ok _ _) ?_; try (simp (disch := exact eqId (by kernel_rfl)) only [go_sem, ↓reduceIte, Nat.reduceAdd, Nat.reduceMul, Nat.reduceLT, Nat.reduceBEq, Nat.reduceLeDiff, Nat.reduceEqDiff, Int.reduceToNat])) | (refine callH_intro (fun hcc => spec_StampKey_ok _ _) ?_; try (simp (disch := exact eqId (by kernel_rfl)) only [go_sem, ↓reduceIte, Nat.reduceAdd, Nat.reduceMul, Nat.reduceLT, Nat.reduceBEq, Nat.reduceLeDiff, Nat.reduceEqDiff, Int.reduceToNat])) | (refine callQ_intro (spec_StampPiece_ok _ _) ?_; try (simp (disch := exact eqId (by kernel_rfl)) only [go_sem, ↓reduceIte, Nat.reduceAdd, Nat.reduceMul, Nat.reduceLT, Nat.reduceBEq, Nat.reduceLeDiff, Nat.reduceEqDiff, Int.reduceToNat])) | (refine callH_intro (fun hcc => spec_StampPiece_ok _ _) ?_; try (simp (disch := exact eqId (by kernel_rfl)) only [go_sem, ↓reduceIte, Nat.reduceAdd, Nat.reduceMul, Nat.reduceLT, Nat.reduceBEq, Nat.reduceLeDiff, Nat.reduceEqDiff, Int.reduceToNat])) | (refine callQ_intro (spec_SignPiece_ok _) ?_; try (simp (disch := exact eqId (by kernel_rfl)) only [go_sem, ↓reduceIte, Nat.reduceAdd, Nat.reduceMul, Nat.reduceLT, Nat.reduceBEq, Nat.reduceLeDiff, Nat.reduceEqDiff, Int.reduceToNat])) | (refine callH_intro (fun hcc => spec_SignPiece_ok _) ?_; try (simp (disch := exact eqId (by kernel_rfl)) only [go_sem, ↓reduceIte, Nat.reduceAdd, Nat.reduceMul, Nat.reduceLT, Nat.reduceBEq, Nat.reduceLeDiff, Nat.reduceEqDiff, Int.reduceToNat])) | (refine callQ_intro (spec_MandatePiece_ok _) ?_; try (simp (disch := exact eqId (by kernel_rfl)) only [go_sem, ↓reduceIte, Nat.reduceAdd, Nat.reduceMul, Nat.reduceLT, Nat.reduceBEq, Nat.reduceLeDiff, Nat.reduceEqDiff, Int.reduceToNat])) | (refine callH_intro (fun hcc => spec_MandatePiece_ok _) ?_; try (simp (disch := exact eqId (by kernel_rfl)) only [go_sem, ↓reduceIte, Nat.reduceAdd, Nat.reduceMul, Nat.reduceLT, Nat.reduceBEq, Nat.reduceLeDiff, Nat.reduceEqDiff, Int.reduceToNat])))
  all_goals (try omega)
  all_goals (try (show Nat.ble _ _ = true; rfl))
  all_goals (try (unfold d18D; simp only [*, ↓reduceIte]; done))
  all_goals (try (unfold d18D; simp only [*, ↓reduceIte]; first | rfl | exact ⟨rfl, rfl⟩ | exact ⟨rfl, rfl, rfl⟩))
theorem spec_CertPiece_fr (x : tCert.den) : FunOK Tryz.prog 65 [⟨tCert, x⟩] (.agg [.rd I (x.2.2.2.2.2.1), .fresh 3 I [101, x.1, x.2.1, x.2.2.1, x.2.2.2.1, x.2.2.2.2.1, x.2.2.2.2.2.1], .rd I (x.2.2.2.2.2.2.1)]) := (spec_CertPiece_ok x).fr rfl
theorem spec_StatusPiece_fr (x : tStatus.den) : FunOK Tryz.prog 66 [⟨tStatus, x⟩] (.agg [.rd I (x.2.2.2.1), .fresh 3 I [102, x.1, x.2.1, x.2.2.1, x.2.2.2.1], .rd I (x.2.2.2.2.1)]) := (spec_StatusPiece_ok x).fr rfl
theorem spec_StampPiece_fr (key : Int) (x : tStamp.den) : FunOK Tryz.prog 67 [⟨I, key⟩, ⟨tStamp, x⟩] (.agg [.rd I (key), .fresh 3 I [103, x.1, x.2.1, x.2.2.1, x.2.2.2.1], .rd I (x.2.2.2.2.1)]) := (spec_StampPiece_ok key x).fr rfl
theorem spec_SignPiece_fr (x : tSignature.den) : FunOK Tryz.prog 69 [⟨tSignature, x⟩] (.agg [.rd I (x.1), .fresh 3 I [104, x.1, x.2.1, x.2.2.1, x.2.2.2.1, x.2.2.2.2.1, x.2.2.2.2.2.1, x.2.2.2.2.2.2.1, x.2.2.2.2.2.2.2.1], .rd I (x.2.2.2.2.2.2.2.2.1)]) := (spec_SignPiece_ok x).fr rfl
theorem spec_MandatePiece_fr (x : tMandate.den) : FunOK Tryz.prog 70 [⟨tMandate, x⟩] (.agg [.rd I (x.2.2.2.2.1), .fresh 3 I [105, x.1, x.2.1, x.2.2.1, x.2.2.2.1, x.2.2.2.2.1], .rd I (x.2.2.2.2.2.1)]) := (spec_MandatePiece_ok x).fr rfl
theorem l18Draw_fr (s : Cu)  : MutOK Tryz.prog 55 [none] [.obj (.box 90 [.rd (.list (.int .u8)) (s).b, .rd I (s).i, .rd I (s).h])] (.agg [.rd I (d18D s).1.1, .fresh 3 I (d18D s).1.2.1, .rd I (d18D s).1.2.2.1]) [.box 90 [.rd (.list (.int .u8)) ((d18D s).2).b, .rd I ((d18D s).2).i, .rd I ((d18D s).2).h]] := by
  have h1 := dB_in (dB s 5).2 (n := 3) (by decide)
  have hl : C3.length = 3 := rfl
  refine fun_ofM (tb := tb) follows Tryz.func55 (by kernel_rfl) Tryz.ntmps55 rfl rfl (by simp [shOK]) rfl ?_
  intro cx hN hw
  simp (disch := exact eqId (by kernel_rfl)) only [go_sem, ↓reduceIte, Nat.reduceAdd, Nat.reduceMul, Nat.reduceLT, Nat.reduceBEq, Nat.reduceLeDiff, Nat.reduceEqDiff, Int.reduceToNat]
  repeat' (first | (refine And.intro ?_ ?_) | intro _ | (refine callM_intro (l10Draw_ok _) ⟨⟨trivial, by decide⟩, rfl, rfl⟩ ?_; try (simp (disch := exact eqId (by kernel_rfl)) only [go_sem, ↓reduceIte, Nat.reduceAdd, Nat.reduceMul, Nat.reduceLT, Nat.reduceBEq, Nat.reduceLeDiff, Nat.reduceEqDiff, Int.reduceToNat])) | (refine callM_intro (l11Stamp_ok _) ⟨⟨trivial, by decide⟩, rfl, rfl⟩ ?_; try (simp (disch := exact eqId (by kernel_rfl)) only [go_sem, ↓reduceIte, Nat.reduceAdd, Nat.reduceMul, Nat.reduceLT, Nat.reduceBEq, Nat.reduceLeDiff, Nat.reduceEqDiff, Int.reduceToNat])) | (refine callM_intro (l13Draw_ok _) ⟨⟨trivial, by decide⟩, rfl, rfl⟩ ?_; try (simp (disch := exact eqId (by kernel_rfl)) only [go_sem, ↓reduceIte, Nat.reduceAdd, Nat.reduceMul, Nat.reduceLT, Nat.reduceBEq, Nat.reduceLeDiff, Nat.reduceEqDiff, Int.reduceToNat])) | (refine callM_intro (l15Draw_ok _) ⟨⟨trivial, by decide⟩, rfl, rfl⟩ ?_; try (simp (disch := exact eqId (by kernel_rfl)) only [go_sem, ↓reduceIte, Nat.reduceAdd, Nat.reduceMul, Nat.reduceLT, Nat.reduceBEq, Nat.reduceLeDiff, Nat.reduceEqDiff, Int.reduceToNat])) | (refine callM_intro (dB_ok _ _) ⟨⟨trivial, by decide⟩, rfl, rfl⟩ ?_; try (simp (disch := exact eqId (by kernel_rfl)) only [go_sem, ↓reduceIte, Nat.reduceAdd, Nat.reduceMul, Nat.reduceLT, Nat.reduceBEq, Nat.reduceLeDiff, Nat.reduceEqDiff, Int.reduceToNat])) | (refine callQ_intro (l9Certs_ok) ?_; try (simp (disch := exact eqId (by kernel_rfl)) only [go_sem, ↓reduceIte, Nat.reduceAdd, Nat.reduceMul, Nat.reduceLT, Nat.reduceBEq, Nat.reduceLeDiff, Nat.reduceEqDiff, Int.reduceToNat])) | (refine callH_intro (fun hcc => l9Certs_ok) ?_; try (simp (disch := exact eqId (by kernel_rfl)) only [go_sem, ↓reduceIte, Nat.reduceAdd, Nat.reduceMul, Nat.reduceLT, Nat.reduceBEq, Nat.reduceLeDiff, Nat.reduceEqDiff, Int.reduceToNat])) | (refine callQ_intro (l11Authorities_ok) ?_; try (simp (disch := exact eqId (by kernel_rfl)) only [go_sem, ↓reduceIte, Nat.reduceAdd, Nat.reduceMul, Nat.reduceLT, Nat.reduceBEq, Nat.reduceLeDiff, Nat.reduceEqDiff, Int.reduceToNat])) | (refine callH_intro (fun hcc => l11Authorities_ok) ?_; try (simp (disch := exact eqId (by kernel_rfl)) only [go_sem, ↓reduceIte, Nat.reduceAdd, Nat.reduceMul, Nat.reduceLT, Nat.reduceBEq, Nat.reduceLeDiff, Nat.reduceEqDiff, Int.reduceToNat])) | (refine callQ_intro (spec_CertPiece_fr _) ?_; try (simp (disch := exact eqId (by kernel_rfl)) only [go_sem, ↓reduceIte, Nat.reduceAdd, Nat.reduceMul, Nat.reduceLT, Nat.reduceBEq, Nat.reduceLeDiff, Nat.reduceEqDiff, Int.reduceToNat])) | (refine callH_intro (fun hcc => spec_CertPiece_fr _) ?_; try (simp (disch := exact eqId (by kernel_rfl)) only [go_sem, ↓reduceIte, Nat.reduceAdd, Nat.reduceMul, Nat.reduceLT, Nat.reduceBEq, Nat.reduceLeDiff, Nat.reduceEqDiff, Int.reduceToNat])) | (refine callQ_intro (spec_StatusPiece_fr _) ?_; try (simp (disch := exact eqId (by kernel_rfl)) only [go_sem, ↓reduceIte, Nat.reduceAdd, Nat.reduceMul, Nat.reduceLT, Nat.reduceBEq, Nat.reduceLeDiff, Nat.reduceEqDiff, Int.reduceToNat])) | (refine callH_intro (fun hcc => spec_StatusPiece_fr _) ?_; try (simp (disch := exact eqId (by kernel_rfl)) only [go_sem, ↓reduceIte, Nat.reduceAdd, Nat.reduceMul, Nat.reduceLT, Nat.reduceBEq, Nat.reduceLeDiff, Nat.reduceEqDiff, Int.reduceToNat])) | (refine callQ_intro (spec_StampKey_ok _ _) ?_; try (simp (disch := exact eqId (by kernel_rfl)) only [go_sem, ↓reduceIte, Nat.reduceAdd, Nat.reduceMul, Nat.reduceLT, Nat.reduceBEq, Nat.reduceLeDiff, Nat.reduceEqDiff, Int.reduceToNat])) | (refine callH_intro (fun hcc => spec_StampKey_ok _ _) ?_; try (simp (disch := exact eqId (by kernel_rfl)) only [go_sem, ↓reduceIte, Nat.reduceAdd, Nat.reduceMul, Nat.reduceLT, Nat.reduceBEq, Nat.reduceLeDiff, Nat.reduceEqDiff, Int.reduceToNat])) | (refine callQ_intro (spec_StampPiece_fr _ _) ?_; try (simp (disch := exact eqId (by kernel_rfl)) only [go_sem, ↓reduceIte, Nat.reduceAdd, Nat.reduceMul, Nat.reduceLT, Nat.reduceBEq, Nat.reduceLeDiff, Nat.reduceEqDiff, Int.reduceToNat])) | (refine callH_intro (fun hcc => spec_StampPiece_fr _ _) ?_; try (simp (disch := exact eqId (by kernel_rfl)) only [go_sem, ↓reduceIte, Nat.reduceAdd, Nat.reduceMul, Nat.reduceLT, Nat.reduceBEq, Nat.reduceLeDiff, Nat.reduceEqDiff, Int.reduceToNat])) | (refine callQ_intro (spec_SignPiece_fr _) ?_; try (simp (disch := exact eqId (by kernel_rfl)) only [go_sem, ↓reduceIte, Nat.reduceAdd, Nat.reduceMul, Nat.reduceLT, Nat.reduceBEq, Nat.reduceLeDiff, Nat.reduceEqDiff, Int.reduceToNat])) | (refine callH_intro (fun hcc => spec_SignPiece_fr _) ?_; try (simp (disch := exact eqId (by kernel_rfl)) only [go_sem, ↓reduceIte, Nat.reduceAdd, Nat.reduceMul, Nat.reduceLT, Nat.reduceBEq, Nat.reduceLeDiff, Nat.reduceEqDiff, Int.reduceToNat])) | (refine callQ_intro (spec_MandatePiece_fr _) ?_; try (simp (disch := exact eqId (by kernel_rfl)) only [go_sem, ↓reduceIte, Nat.reduceAdd, Nat.reduceMul, Nat.reduceLT, Nat.reduceBEq, Nat.reduceLeDiff, Nat.reduceEqDiff, Int.reduceToNat])) | (refine callH_intro (fun hcc => spec_MandatePiece_fr _) ?_; try (simp (disch := exact eqId (by kernel_rfl)) only [go_sem, ↓reduceIte, Nat.reduceAdd, Nat.reduceMul, Nat.reduceLT, Nat.reduceBEq, Nat.reduceLeDiff, Nat.reduceEqDiff, Int.reduceToNat])))
  all_goals (try omega)
  all_goals (try (show Nat.ble _ _ = true; rfl))
  all_goals (try (unfold d18D; simp only [*, ↓reduceIte]; done))
  all_goals (try (unfold d18D; simp only [*, ↓reduceIte]; first | rfl | exact ⟨rfl, rfl⟩ | exact ⟨rfl, rfl, rfl⟩))
end Go.Proofs.YtchefiaimblieaaGreat
/- What draws of lists of keys, authorities and methods answer, and pieces copied and bent. It proves nothing of a statement by itself. -/
set_option linter.unusedSimpArgs false
set_option linter.unusedVariables false
set_option maxRecDepth 100000
namespace Go.Proofs.YtchefiaimblieaaGreat
open Go.AL
def M4 : List tMethod.den := [(1, 0, 40, 50, ()), (2, 20, 80, 70, ()), (3, 40, 120, 200, ()), (4, 60, 10001, 10001, ())]
def d8A (s : Cu) : List tKey.den × Cu :=
  let j := dB s 10
  let k := dB j.2 9
  if k.1 = 0 then (K8.set j.1.toNat (setF tKey (K8.getD j.1.toNat tKey.dflt) 0 (dI k.2 [0, 1, 50, 99, 100]).1), (dI k.2 [0, 1, 50, 99, 100]).2)
  else if k.1 = 1 then (K8.set j.1.toNat (setF tKey (K8.getD j.1.toNat tKey.dflt) 1 (dI k.2 [-1, 5, 100]).1), (dI k.2 [-1, 5, 100]).2)
  else if k.1 = 2 then (K8.set j.1.toNat (setF tKey (K8.getD j.1.toNat tKey.dflt) 4 (dI k.2 [0, 777]).1), (dI k.2 [0, 777]).2)
  else if k.1 = 3 then (K8.set j.1.toNat (setF tKey (K8.getD j.1.toNat tKey.dflt) 3 (dR k.2).1), (dR k.2).2)
  else if k.1 = 4 then (K8.set j.1.toNat (setF tKey (K8.getD j.1.toNat tKey.dflt) 2 (dI k.2 [-1, 0, 99, 100]).1), (dI k.2 [-1, 0, 99, 100]).2)
  else (K8, k.2)
def d11A (s : Cu) : List tAuthority.den × Cu :=
  let j := dB s 4
  let k := dB j.2 8
  if k.1 = 0 then (A4.set j.1.toNat (setF tAuthority (A4.getD j.1.toNat tAuthority.dflt) 0 (dI k.2 [-1, 2, 99, 100]).1), (dI k.2 [-1, 2, 99, 100]).2)
  else if k.1 = 1 then (A4.set j.1.toNat (setF tAuthority (A4.getD j.1.toNat tAuthority.dflt) 1 (dN k.2).1), (dN k.2).2)
  else if k.1 = 2 then (A4.set j.1.toNat (setF tAuthority (A4.getD j.1.toNat tAuthority.dflt) 2 (dI k.2 [-1, 100, 101, 9223372036854775807]).1), (dI k.2 [-1, 100, 101, 9223372036854775807]).2)
  else (A4, k.2)
def d5A (s : Cu) : List tMethod.den × Cu :=
  let j := dB s 4
  let k := dB j.2 9
  if k.1 = 0 then (M4.set j.1.toNat (setF tMethod (M4.getD j.1.toNat tMethod.dflt) 0 (dI k.2 [-1, 0, 1, 99, 100]).1), (dI k.2 [-1, 0, 1, 99, 100]).2)
  else if k.1 = 1 then (M4.set j.1.toNat (setF tMethod (M4.getD j.1.toNat tMethod.dflt) 1 (dR k.2).1), (dR k.2).2)
  else if k.1 = 2 then (M4.set j.1.toNat (setF tMethod (M4.getD j.1.toNat tMethod.dflt) 2 (dI k.2 [0, 1, 45, 10001, 10002]).1), (dI k.2 [0, 1, 45, 10001, 10002]).2)
  else if k.1 = 3 then (M4.set j.1.toNat (setF tMethod (M4.getD j.1.toNat tMethod.dflt) 3 (dI k.2 [0, 1, 45, 10001, 10002]).1), (dI k.2 [0, 1, 45, 10001, 10002]).2)
  else if k.1 = 4 then (M4.take j.1.toNat, k.2)
  else (M4, k.2)
theorem l8Keys_fr' : FunOK Tryz.prog 45 [] (.fresh 95 tKey K8) := l8Keys_ok.fr rfl
theorem l11Authorities_fr : FunOK Tryz.prog 62 [] (.fresh 116 tAuthority A4) := l11Authorities_ok.fr rfl
theorem l8Any_ok (s : Cu)  : MutOK Tryz.prog 44 [none] [.obj (.box 90 [.rd (.list (.int .u8)) (s).b, .rd I (s).i, .rd I (s).h])] (.fresh 95 tKey (d8A s).1) [.box 90 [.rd (.list (.int .u8)) ((d8A s).2).b, .rd I ((d8A s).2).i, .rd I ((d8A s).2).h]] := by
  have h0 := dB_in s (n := 10) (by decide)
  have hl : K8.length = 10 := rfl
  have hl2 : (((K8.length : Nat) : Int)) = 10 := rfl
  refine fun_ofM (tb := tb) follows Tryz.func44 (by kernel_rfl) Tryz.ntmps44 rfl rfl (by simp [shOK]) rfl ?_; intro cx hN hw
  simp (disch := exact eqId (by kernel_rfl)) only [go_sem, ↓reduceIte, Nat.reduceAdd, Nat.reduceMul, Nat.reduceLT, Nat.reduceBEq, Nat.reduceLeDiff, Nat.reduceEqDiff, Int.reduceToNat]
  repeat' (first | (refine And.intro ?_ ?_) | intro _ | (refine callM_intro (dI_ok _ [0, 1, 50, 99, 100] (by decide)) ⟨⟨trivial, by decide⟩, rfl, rfl⟩ ?_; try (simp (disch := exact eqId (by kernel_rfl)) only [go_sem, ↓reduceIte, Nat.reduceAdd, Nat.reduceMul, Nat.reduceLT, Nat.reduceBEq, Nat.reduceLeDiff, Nat.reduceEqDiff, Int.reduceToNat])) | (refine callM_intro (dI_ok _ [-1, 5, 100] (by decide)) ⟨⟨trivial, by decide⟩, rfl, rfl⟩ ?_; try (simp (disch := exact eqId (by kernel_rfl)) only [go_sem, ↓reduceIte, Nat.reduceAdd, Nat.reduceMul, Nat.reduceLT, Nat.reduceBEq, Nat.reduceLeDiff, Nat.reduceEqDiff, Int.reduceToNat])) | (refine callM_intro (dI_ok _ [0, 777] (by decide)) ⟨⟨trivial, by decide⟩, rfl, rfl⟩ ?_; try (simp (disch := exact eqId (by kernel_rfl)) only [go_sem, ↓reduceIte, Nat.reduceAdd, Nat.reduceMul, Nat.reduceLT, Nat.reduceBEq, Nat.reduceLeDiff, Nat.reduceEqDiff, Int.reduceToNat])) | (refine callM_intro (dI_ok _ [-1, 0, 99, 100] (by decide)) ⟨⟨trivial, by decide⟩, rfl, rfl⟩ ?_; try (simp (disch := exact eqId (by kernel_rfl)) only [go_sem, ↓reduceIte, Nat.reduceAdd, Nat.reduceMul, Nat.reduceLT, Nat.reduceBEq, Nat.reduceLeDiff, Nat.reduceEqDiff, Int.reduceToNat])) | (refine callM_intro (l4Raw_ok _) ⟨⟨trivial, by decide⟩, rfl, rfl⟩ ?_; try (simp (disch := exact eqId (by kernel_rfl)) only [go_sem, ↓reduceIte, Nat.reduceAdd, Nat.reduceMul, Nat.reduceLT, Nat.reduceBEq, Nat.reduceLeDiff, Nat.reduceEqDiff, Int.reduceToNat])) | (refine callM_intro (dB_ok _ 10) ⟨⟨trivial, by decide⟩, rfl, rfl⟩ ?_; try (simp (disch := exact eqId (by kernel_rfl)) only [go_sem, ↓reduceIte, Nat.reduceAdd, Nat.reduceMul, Nat.reduceLT, Nat.reduceBEq, Nat.reduceLeDiff, Nat.reduceEqDiff, Int.reduceToNat])) | (refine callM_intro (dB_ok _ _) ⟨⟨trivial, by decide⟩, rfl, rfl⟩ ?_; try (simp (disch := exact eqId (by kernel_rfl)) only [go_sem, ↓reduceIte, Nat.reduceAdd, Nat.reduceMul, Nat.reduceLT, Nat.reduceBEq, Nat.reduceLeDiff, Nat.reduceEqDiff, Int.reduceToNat])) | (refine callQ_intro (l8Keys_fr) ?_; try (simp (disch := exact eqId (by kernel_rfl)) only [go_sem, ↓reduceIte, Nat.reduceAdd, Nat.reduceMul, Nat.reduceLT, Nat.reduceBEq, Nat.reduceLeDiff, Nat.reduceEqDiff, Int.reduceToNat])) | (refine callH_intro (fun hcc => l8Keys_fr) ?_; try (simp (disch := exact eqId (by kernel_rfl)) only [go_sem, ↓reduceIte, Nat.reduceAdd, Nat.reduceMul, Nat.reduceLT, Nat.reduceBEq, Nat.reduceLeDiff, Nat.reduceEqDiff, Int.reduceToNat])))
  all_goals (try omega)
  all_goals (try (show Nat.ble _ _ = true; rfl))
  all_goals (try (unfold d8A; simp only [*, ↓reduceIte]; done))
  all_goals (try (unfold d8A; simp only [*, ↓reduceIte]; first | rfl | exact ⟨rfl, rfl⟩ | exact ⟨rfl, rfl, rfl⟩))
theorem l18Copy_ok (p : tPiece.den) (hp : p.2.1.length ≤ 100000) : FunOK Tryz.prog 41 [⟨tPiece, p⟩] (.agg [.rd I p.1, .own 3 I p.2.1, .rd I p.2.2.1]) := by
  refine fun_of (tb := tb) follows Tryz.func41 (by kernel_rfl) Tryz.ntmps41 rfl rfl rfl ?_; intro cx hN hw
  simp (disch := exact eqId (by kernel_rfl)) only [go_sem, ↓reduceIte, Nat.reduceAdd, Nat.reduceMul, Nat.reduceLT, Nat.reduceBEq, Nat.reduceLeDiff, Nat.reduceEqDiff, Int.reduceToNat]
  repeat' (first | (refine And.intro ?_ ?_) | intro _)
  all_goals (try omega)
theorem l18Any_ok (s : Cu) : MutOK Tryz.prog 39 [none] [.obj (.box 90 [.rd (.list (.int .u8)) (s).b, .rd I (s).i, .rd I (s).h])] (.agg [.rd I (d18 s).1.1, .own 3 I (d18 s).1.2.1, .rd I (d18 s).1.2.2.1]) [.box 90 [.rd (.list (.int .u8)) ((d18 s).2).b, .rd I ((d18 s).2).i, .rd I ((d18 s).2).h]] := by
  have hl := d18D_len s
  by_cases hk : (dB (d18D s).2 8).1 = 1
  · refine fun_ofMS (tb := tb) follows Tryz.func39 (by kernel_rfl) Tryz.ntmps39 rfl rfl (by simp [shOK]) rfl ?_; intro cx hN hw
    simp (disch := exact eqId (by kernel_rfl)) only [go_sem, ↓reduceIte, Nat.reduceAdd, Nat.reduceMul, Nat.reduceLT, Nat.reduceBEq, Nat.reduceLeDiff, Nat.reduceEqDiff, Int.reduceToNat]
    repeat' (first | (refine And.intro ?_ ?_) | intro _ | (refine callM_intro (l18Draw_ok _) ⟨⟨trivial, by decide⟩, rfl, rfl⟩ ?_; try (simp (disch := exact eqId (by kernel_rfl)) only [go_sem, ↓reduceIte, Nat.reduceAdd, Nat.reduceMul, Nat.reduceLT, Nat.reduceBEq, Nat.reduceLeDiff, Nat.reduceEqDiff, Int.reduceToNat])) | (refine callM_intro (dB_ok _ _) ⟨⟨trivial, by decide⟩, rfl, rfl⟩ ?_; try (simp (disch := exact eqId (by kernel_rfl)) only [go_sem, ↓reduceIte, Nat.reduceAdd, Nat.reduceMul, Nat.reduceLT, Nat.reduceBEq, Nat.reduceLeDiff, Nat.reduceEqDiff, Int.reduceToNat])))
    all_goals (try (exfalso; omega))
    all_goals (try omega)
    all_goals (try (show Nat.ble _ _ = true; rfl))
    all_goals (try (unfold d18; simp only [*, ↓reduceIte]; done))
    all_goals (try (unfold d18; simp only [hk]; rfl))
    all_goals (try (unfold d18; simp only [*]; rfl))
    all_goals trace_state
  · refine fun_ofMS (tb := tb) follows Tryz.func39 (by kernel_rfl) Tryz.ntmps39 rfl rfl (by simp [shOK]) rfl ?_; intro cx hN hw
    simp (disch := exact eqId (by kernel_rfl)) only [go_sem, ↓reduceIte, Nat.reduceAdd, Nat.reduceMul, Nat.reduceLT, Nat.reduceBEq, Nat.reduceLeDiff, Nat.reduceEqDiff, Int.reduceToNat]
    repeat' (first | (refine And.intro ?_ ?_) | intro _ | (refine callM_intro (dI_ok _ [100, 101, 103, 105, 106, -1] (by decide)) ⟨⟨trivial, by decide⟩, rfl, rfl⟩ ?_; try (simp (disch := exact eqId (by kernel_rfl)) only [go_sem, ↓reduceIte, Nat.reduceAdd, Nat.reduceMul, Nat.reduceLT, Nat.reduceBEq, Nat.reduceLeDiff, Nat.reduceEqDiff, Int.reduceToNat])) | (refine callM_intro (l18Draw_fr _) ⟨⟨trivial, by decide⟩, rfl, rfl⟩ ?_; try (simp (disch := exact eqId (by kernel_rfl)) only [go_sem, ↓reduceIte, Nat.reduceAdd, Nat.reduceMul, Nat.reduceLT, Nat.reduceBEq, Nat.reduceLeDiff, Nat.reduceEqDiff, Int.reduceToNat])) | (refine callM_intro (l8Number_ok _) ⟨⟨trivial, by decide⟩, rfl, rfl⟩ ?_; try (simp (disch := exact eqId (by kernel_rfl)) only [go_sem, ↓reduceIte, Nat.reduceAdd, Nat.reduceMul, Nat.reduceLT, Nat.reduceBEq, Nat.reduceLeDiff, Nat.reduceEqDiff, Int.reduceToNat])) | (refine callM_intro (dB_ok _ _) ⟨⟨trivial, by decide⟩, rfl, rfl⟩ ?_; try (simp (disch := exact eqId (by kernel_rfl)) only [go_sem, ↓reduceIte, Nat.reduceAdd, Nat.reduceMul, Nat.reduceLT, Nat.reduceBEq, Nat.reduceLeDiff, Nat.reduceEqDiff, Int.reduceToNat])))
    all_goals (try (exfalso; omega))
    all_goals (try omega)
    all_goals (try (show Nat.ble _ _ = true; rfl))
    all_goals (try (show Nat.ble _ _ = true; rfl))
    all_goals (try (unfold d18; simp only [*, ↓reduceIte]; done))
    all_goals (try (unfold d18; simp only [hk]; rfl))
    all_goals (try (unfold d18; simp only [*]; rfl))
    all_goals trace_state
theorem d18_len (s : Cu) : 5 ≤ (d18 s).1.2.1.length ∧ (d18 s).1.2.1.length ≤ 10 := by
  have hl := d18D_len s
  unfold d18
  simp only
  repeat' split
  all_goals (simp only [List.length_append, List.length_set, List.length_cons, List.length_nil]; omega)
end Go.Proofs.YtchefiaimblieaaGreat
/- What the functions of signed pieces answer, on both sides. It proves nothing of a statement by itself. -/
set_option linter.unusedSimpArgs false
set_option linter.unusedVariables false
set_option maxRecDepth 100000
namespace Go.Proofs.YtchefiaimblieaaGreat
open Go.AL
theorem pCert0 (p : tPiece.den) (h : ¬ kindF p.2.1 = 101) : (pieceCertF p).2 = false := by
  unfold pieceCertF
  split
  · rename_i hh
    first | exact absurd hh h | exact absurd hh.1 h
  · rfl
theorem pStatus0 (p : tPiece.den) (h : ¬ kindF p.2.1 = 102) : (pieceStatusF p).2 = false := by
  unfold pieceStatusF
  split
  · rename_i hh
    first | exact absurd hh h | exact absurd hh.1 h
  · rfl
theorem pStamp0 (p : tPiece.den) (h : ¬ kindF p.2.1 = 103) : (pieceStampF p).2 = false := by
  unfold pieceStampF
  split
  · rename_i hh
    first | exact absurd hh h | exact absurd hh.1 h
  · rfl
theorem pSign0 (p : tPiece.den) (h : ¬ kindF p.2.1 = 104) : (pieceSignF p).2 = false := by
  unfold pieceSignF
  split
  · rename_i hh
    first | exact absurd hh h | exact absurd hh.1 h
  · rfl
theorem pMandate0 (p : tPiece.den) (h : ¬ kindF p.2.1 = 105) : (pieceMandateF p).2 = false := by
  unfold pieceMandateF
  split
  · rename_i hh
    first | exact absurd hh h | exact absurd hh.1 h
  · rfl
def shapeF (p : tPiece.den) : Bool := (pieceCertF p).2 || (pieceStatusF p).2 || (pieceStampF p).2 || (pieceSignF p).2 || (pieceMandateF p).2
def cpF (l : List tKey.den) (p : tPiece.den) : Bool := shapeF p && cmF l p.1 p.2.1 p.2.2.1
theorem impl_CheckPiece_ok (l : List tKey.den) (p : tPiece.den) (hs : p.2.1.length ≤ 1073741823) : FunOK Tryz.prog 24 [⟨(.list tKey), l⟩, ⟨tPiece, p⟩] (.rd .bool (cpF l p)) := by
  refine fun_of (tb := tb) follows Tryz.func24 (by kernel_rfl) Tryz.ntmps24 rfl rfl rfl ?_
  intro cx hN hw
  simp (disch := exact eqId (by kernel_rfl)) only [go_sem, ↓reduceIte, Nat.reduceAdd, Nat.reduceMul, Nat.reduceLT, Nat.reduceBEq, Nat.reduceLeDiff, Nat.reduceEqDiff, Int.reduceToNat]
  repeat' (first | (refine And.intro ?_ ?_) | intro _ | (refine callQ_intro (impl_KindOfPiece_ok _) ?_; try (simp (disch := exact eqId (by kernel_rfl)) only [go_sem, ↓reduceIte, Nat.reduceAdd, Nat.reduceMul, Nat.reduceLT, Nat.reduceBEq, Nat.reduceLeDiff, Nat.reduceEqDiff, Int.reduceToNat])) | (refine callH_intro (fun hcc => impl_KindOfPiece_ok _) ?_; try (simp (disch := exact eqId (by kernel_rfl)) only [go_sem, ↓reduceIte, Nat.reduceAdd, Nat.reduceMul, Nat.reduceLT, Nat.reduceBEq, Nat.reduceLeDiff, Nat.reduceEqDiff, Int.reduceToNat])) | (refine callQ_intro (impl_PieceCert_ok _) ?_; try (simp (disch := exact eqId (by kernel_rfl)) only [go_sem, ↓reduceIte, Nat.reduceAdd, Nat.reduceMul, Nat.reduceLT, Nat.reduceBEq, Nat.reduceLeDiff, Nat.reduceEqDiff, Int.reduceToNat])) | (refine callH_intro (fun hcc => impl_PieceCert_ok _) ?_; try (simp (disch := exact eqId (by kernel_rfl)) only [go_sem, ↓reduceIte, Nat.reduceAdd, Nat.reduceMul, Nat.reduceLT, Nat.reduceBEq, Nat.reduceLeDiff, Nat.reduceEqDiff, Int.reduceToNat])) | (refine callQ_intro (impl_PieceStatus_ok _) ?_; try (simp (disch := exact eqId (by kernel_rfl)) only [go_sem, ↓reduceIte, Nat.reduceAdd, Nat.reduceMul, Nat.reduceLT, Nat.reduceBEq, Nat.reduceLeDiff, Nat.reduceEqDiff, Int.reduceToNat])) | (refine callH_intro (fun hcc => impl_PieceStatus_ok _) ?_; try (simp (disch := exact eqId (by kernel_rfl)) only [go_sem, ↓reduceIte, Nat.reduceAdd, Nat.reduceMul, Nat.reduceLT, Nat.reduceBEq, Nat.reduceLeDiff, Nat.reduceEqDiff, Int.reduceToNat])) | (refine callQ_intro (impl_PieceStamp_ok _) ?_; try (simp (disch := exact eqId (by kernel_rfl)) only [go_sem, ↓reduceIte, Nat.reduceAdd, Nat.reduceMul, Nat.reduceLT, Nat.reduceBEq, Nat.reduceLeDiff, Nat.reduceEqDiff, Int.reduceToNat])) | (refine callH_intro (fun hcc => impl_PieceStamp_ok _) ?_; try (simp (disch := exact eqId (by kernel_rfl)) only [go_sem, ↓reduceIte, Nat.reduceAdd, Nat.reduceMul, Nat.reduceLT, Nat.reduceBEq, Nat.reduceLeDiff, Nat.reduceEqDiff, Int.reduceToNat])) | (refine callQ_intro (impl_PieceSign_ok _) ?_; try (simp (disch := exact eqId (by kernel_rfl)) only [go_sem, ↓reduceIte, Nat.reduceAdd, Nat.reduceMul, Nat.reduceLT, Nat.reduceBEq, Nat.reduceLeDiff, Nat.reduceEqDiff, Int.reduceToNat])) | (refine callH_intro (fun hcc => impl_PieceSign_ok _) ?_; try (simp (disch := exact eqId (by kernel_rfl)) only [go_sem, ↓reduceIte, Nat.reduceAdd, Nat.reduceMul, Nat.reduceLT, Nat.reduceBEq, Nat.reduceLeDiff, Nat.reduceEqDiff, Int.reduceToNat])) | (refine callQ_intro (impl_PieceMandate_ok _) ?_; try (simp (disch := exact eqId (by kernel_rfl)) only [go_sem, ↓reduceIte, Nat.reduceAdd, Nat.reduceMul, Nat.reduceLT, Nat.reduceBEq, Nat.reduceLeDiff, Nat.reduceEqDiff, Int.reduceToNat])) | (refine callH_intro (fun hcc => impl_PieceMandate_ok _) ?_; try (simp (disch := exact eqId (by kernel_rfl)) only [go_sem, ↓reduceIte, Nat.reduceAdd, Nat.reduceMul, Nat.reduceLT, Nat.reduceBEq, Nat.reduceLeDiff, Nat.reduceEqDiff, Int.reduceToNat])) | (refine callQ_intro (impl_CheckMark_ok _ _ _ _ hs) ?_; try (simp (disch := exact eqId (by kernel_rfl)) only [go_sem, ↓reduceIte, Nat.reduceAdd, Nat.reduceMul, Nat.reduceLT, Nat.reduceBEq, Nat.reduceLeDiff, Nat.reduceEqDiff, Int.reduceToNat])) | (refine callH_intro (fun hcc => impl_CheckMark_ok _ _ _ _ hs) ?_; try (simp (disch := exact eqId (by kernel_rfl)) only [go_sem, ↓reduceIte, Nat.reduceAdd, Nat.reduceMul, Nat.reduceLT, Nat.reduceBEq, Nat.reduceLeDiff, Nat.reduceEqDiff, Int.reduceToNat])))
  all_goals (try omega)
  all_goals (try (simp only [cpF, shapeF, pCert0 p (by omega), pStatus0 p (by omega), pStamp0 p (by omega), pSign0 p (by omega), pMandate0 p (by omega), Bool.false_or, Bool.or_false, Bool.false_and]; done))
  all_goals (try (have h0 : kindF p.2.1 = 101 := by omega
                  simp only [cpF, shapeF, pStatus0 p (by omega), pStamp0 p (by omega), pSign0 p (by omega), pMandate0 p (by omega), Bool.false_or, Bool.or_false]; done))
  all_goals (try (have h0 : kindF p.2.1 = 102 := by omega
                  simp only [cpF, shapeF, pCert0 p (by omega), pStamp0 p (by omega), pSign0 p (by omega), pMandate0 p (by omega), Bool.false_or, Bool.or_false]; done))
  all_goals (try (have h0 : kindF p.2.1 = 103 := by omega
                  simp only [cpF, shapeF, pCert0 p (by omega), pStatus0 p (by omega), pSign0 p (by omega), pMandate0 p (by omega), Bool.false_or, Bool.or_false]; done))
  all_goals (try (have h0 : kindF p.2.1 = 104 := by omega
                  simp only [cpF, shapeF, pCert0 p (by omega), pStatus0 p (by omega), pStamp0 p (by omega), pMandate0 p (by omega), Bool.false_or, Bool.or_false]; done))
  all_goals (try (have h0 : kindF p.2.1 = 105 := by omega
                  simp only [cpF, shapeF, pCert0 p (by omega), pStatus0 p (by omega), pStamp0 p (by omega), pSign0 p (by omega), Bool.false_or, Bool.or_false]; done))
end Go.Proofs.YtchefiaimblieaaGreat
/- What the draws of pieces answer. It proves nothing of a statement by itself. -/
set_option linter.unusedSimpArgs false
set_option linter.unusedVariables false
set_option maxRecDepth 100000
namespace Go.Proofs.YtchefiaimblieaaGreat
open Go.AL
theorem DrawIsCert_ok (b : List Int) (hb : b.length ≤ maxLen) : FunOK Tryz.prog 27 [⟨(.list (.int .u8)), b⟩] (.rd tCert (d9 (cu0 b hb)).1) := by
  refine fun_of (tb := tb) follows Tryz.func27 (by kernel_rfl) Tryz.ntmps27 rfl rfl rfl ?_; intro cx hN hw
  have hm : maxLen = 9223372036854775807 := rfl
  simp (disch := exact eqId (by kernel_rfl)) only [go_sem, ↓reduceIte, Nat.reduceAdd, Nat.reduceMul, Nat.reduceLT, Nat.reduceBEq, Nat.reduceLeDiff, Nat.reduceEqDiff, Int.reduceToNat]
  refine callI_intro (tb := tb) (rs := [.tmp 2]) follows Tryz.func31 (by kernel_rfl) rfl rfl Tryz.ntmps31 rfl ⟨trivial, trivial⟩ ?_
  intro cx2 hN2
  simp (disch := exact eqId (by kernel_rfl)) only [go_sem, ↓reduceIte, Nat.reduceAdd, Nat.reduceMul, Nat.reduceLT, Nat.reduceBEq, Nat.reduceLeDiff, Nat.reduceEqDiff, Int.reduceToNat]
  refine loop_introF (tb := tb.at 900000000000000) follows hN2 (D := Nat × Int) (fun d => shp [(0, .rd (.list (.int .u8)) b), (3, .rd I d.2), (4, .rd I (d.1 : Int))] [(10000, .box 25 [.rd I 0, .rd I 0, .rd I 0, .rd I 0, .rd I 0, .rd I 0, .rd I 0])]) (fun d => d.1 ≤ 4000 ∧ newH b = nwK b (4000 - d.1) d.1 d.2) (fun d => 4000 - d.1) (0, IntKind.i64.wrap (193017 + (b.length : Int))) ?_ (sub_shpF [(10000, some 10000)] ?_) (fun d hd => ?_)
  · exact ⟨Nat.zero_le _, rfl⟩
  · simp (disch := exact eqId (by kernel_rfl)) only [go_sem, ↓reduceIte, Nat.reduceAdd, Nat.reduceMul, Nat.reduceLT, Nat.reduceBEq, Nat.reduceLeDiff, Nat.reduceEqDiff, Int.reduceToNat]
    try rfl
  · obtain ⟨k, h⟩ := d
    obtain ⟨h1, h2⟩ := hd
    simp only at h1 h2
    simp (disch := exact eqId (by kernel_rfl)) only [go_sem, ↓reduceIte, Nat.reduceAdd, Nat.reduceMul, Nat.reduceLT, Nat.reduceBEq, Nat.reduceLeDiff, Nat.reduceEqDiff, Int.reduceToNat]
    repeat' (first | (refine And.intro ?_ ?_) | intro _)
    all_goals (try omega)
    · rename_i hk
      refine back_intro (k + 1, nwG h (b.getD k 0)) ?_ ?_ (sub_shpF [(10000, some 10000)] ?_)
      · refine ⟨by omega, ?_⟩
        simp only
        rw [h2, show 4000 - k = (4000 - (k + 1)) + 1 from by omega, nwK, if_pos (by omega)]
      · simp only; omega
      · simp (disch := exact eqId (by kernel_rfl)) only [go_sem, ↓reduceIte, Nat.reduceAdd, Nat.reduceMul, Nat.reduceLT, Nat.reduceBEq, Nat.reduceLeDiff, Nat.reduceEqDiff, Int.reduceToNat]
        first | exact ⟨rfl, wrap_i64 (by omega) (by omega)⟩ | exact wrap_i64 (by omega) (by omega) | trace_state
    · rename_i hk
      have hh : h = newH b := by
        rw [h2]
        exact (nwK_end (by omega)).symm
      subst hh
      clear h1 h2
      refine callM_intro (l9Any_ok (cu0 b hb)) ⟨⟨trivial, by decide⟩, rfl, rfl⟩ ?_
      simp (disch := exact eqId (by kernel_rfl)) only [go_sem, ↓reduceIte, Nat.reduceAdd, Nat.reduceMul, Nat.reduceLT, Nat.reduceBEq, Nat.reduceLeDiff, Nat.reduceEqDiff, Int.reduceToNat]
      repeat' (first | (refine And.intro ?_ ?_) | intro _)
      all_goals (try omega)
      all_goals (try rfl)
theorem DrawCertPiece_ok (b : List Int) (hb : b.length ≤ maxLen) : FunOK Tryz.prog 5 [⟨(.list (.int .u8)), b⟩] (.rd tCert (d9 (cu0 b hb)).1) := by
  refine fun_of (tb := tb) follows Tryz.func5 (by kernel_rfl) Tryz.ntmps5 rfl rfl rfl ?_; intro cx hN hw
  simp (disch := exact eqId (by kernel_rfl)) only [go_sem, ↓reduceIte, Nat.reduceAdd, Nat.reduceMul, Nat.reduceLT, Nat.reduceBEq, Nat.reduceLeDiff, Nat.reduceEqDiff, Int.reduceToNat]
  refine callQ_intro (DrawIsCert_ok _ hb) ?_
  simp (disch := exact eqId (by kernel_rfl)) only [go_sem, ↓reduceIte, Nat.reduceAdd, Nat.reduceMul, Nat.reduceLT, Nat.reduceBEq, Nat.reduceLeDiff, Nat.reduceEqDiff, Int.reduceToNat]
theorem DrawIsStatus_ok (b : List Int) (hb : b.length ≤ maxLen) : FunOK Tryz.prog 29 [⟨(.list (.int .u8)), b⟩] (.rd tStatus (d10 (cu0 b hb)).1) := by
  refine fun_of (tb := tb) follows Tryz.func29 (by kernel_rfl) Tryz.ntmps29 rfl rfl rfl ?_; intro cx hN hw
  have hm : maxLen = 9223372036854775807 := rfl
  simp (disch := exact eqId (by kernel_rfl)) only [go_sem, ↓reduceIte, Nat.reduceAdd, Nat.reduceMul, Nat.reduceLT, Nat.reduceBEq, Nat.reduceLeDiff, Nat.reduceEqDiff, Int.reduceToNat]
  refine callI_intro (tb := tb) (rs := [.tmp 2]) follows Tryz.func31 (by kernel_rfl) rfl rfl Tryz.ntmps31 rfl ⟨trivial, trivial⟩ ?_
  intro cx2 hN2
  simp (disch := exact eqId (by kernel_rfl)) only [go_sem, ↓reduceIte, Nat.reduceAdd, Nat.reduceMul, Nat.reduceLT, Nat.reduceBEq, Nat.reduceLeDiff, Nat.reduceEqDiff, Int.reduceToNat]
  refine loop_introF (tb := tb.at 900000000000000) follows hN2 (D := Nat × Int) (fun d => shp [(0, .rd (.list (.int .u8)) b), (3, .rd I d.2), (4, .rd I (d.1 : Int))] [(10000, .box 34 [.rd I 0, .rd I 0, .rd I 0, .rd I 0, .rd I 0])]) (fun d => d.1 ≤ 4000 ∧ newH b = nwK b (4000 - d.1) d.1 d.2) (fun d => 4000 - d.1) (0, IntKind.i64.wrap (193017 + (b.length : Int))) ?_ (sub_shpF [(10000, some 10000)] ?_) (fun d hd => ?_)
  · exact ⟨Nat.zero_le _, rfl⟩
  · simp (disch := exact eqId (by kernel_rfl)) only [go_sem, ↓reduceIte, Nat.reduceAdd, Nat.reduceMul, Nat.reduceLT, Nat.reduceBEq, Nat.reduceLeDiff, Nat.reduceEqDiff, Int.reduceToNat]
    try rfl
  · obtain ⟨k, h⟩ := d
    obtain ⟨h1, h2⟩ := hd
    simp only at h1 h2
    simp (disch := exact eqId (by kernel_rfl)) only [go_sem, ↓reduceIte, Nat.reduceAdd, Nat.reduceMul, Nat.reduceLT, Nat.reduceBEq, Nat.reduceLeDiff, Nat.reduceEqDiff, Int.reduceToNat]
    repeat' (first | (refine And.intro ?_ ?_) | intro _)
    all_goals (try omega)
    · rename_i hk
      refine back_intro (k + 1, nwG h (b.getD k 0)) ?_ ?_ (sub_shpF [(10000, some 10000)] ?_)
      · refine ⟨by omega, ?_⟩
        simp only
        rw [h2, show 4000 - k = (4000 - (k + 1)) + 1 from by omega, nwK, if_pos (by omega)]
      · simp only; omega
      · simp (disch := exact eqId (by kernel_rfl)) only [go_sem, ↓reduceIte, Nat.reduceAdd, Nat.reduceMul, Nat.reduceLT, Nat.reduceBEq, Nat.reduceLeDiff, Nat.reduceEqDiff, Int.reduceToNat]
        first | exact ⟨rfl, wrap_i64 (by omega) (by omega)⟩ | exact wrap_i64 (by omega) (by omega) | trace_state
    · rename_i hk
      have hh : h = newH b := by
        rw [h2]
        exact (nwK_end (by omega)).symm
      subst hh
      clear h1 h2
      refine callM_intro (l10Any_ok (cu0 b hb)) ⟨⟨trivial, by decide⟩, rfl, rfl⟩ ?_
      simp (disch := exact eqId (by kernel_rfl)) only [go_sem, ↓reduceIte, Nat.reduceAdd, Nat.reduceMul, Nat.reduceLT, Nat.reduceBEq, Nat.reduceLeDiff, Nat.reduceEqDiff, Int.reduceToNat]
      repeat' (first | (refine And.intro ?_ ?_) | intro _)
      all_goals (try omega)
      all_goals (try rfl)
theorem DrawStatusPiece_ok (b : List Int) (hb : b.length ≤ maxLen) : FunOK Tryz.prog 8 [⟨(.list (.int .u8)), b⟩] (.rd tStatus (d10 (cu0 b hb)).1) := by
  refine fun_of (tb := tb) follows Tryz.func8 (by kernel_rfl) Tryz.ntmps8 rfl rfl rfl ?_; intro cx hN hw
  simp (disch := exact eqId (by kernel_rfl)) only [go_sem, ↓reduceIte, Nat.reduceAdd, Nat.reduceMul, Nat.reduceLT, Nat.reduceBEq, Nat.reduceLeDiff, Nat.reduceEqDiff, Int.reduceToNat]
  refine callQ_intro (DrawIsStatus_ok _ hb) ?_
  simp (disch := exact eqId (by kernel_rfl)) only [go_sem, ↓reduceIte, Nat.reduceAdd, Nat.reduceMul, Nat.reduceLT, Nat.reduceBEq, Nat.reduceLeDiff, Nat.reduceEqDiff, Int.reduceToNat]
theorem DrawIsSignature_ok (b : List Int) (hb : b.length ≤ maxLen) : FunOK Tryz.prog 35 [⟨(.list (.int .u8)), b⟩] (.rd tSignature (d13A (cu0 b hb)).1) := by
  refine fun_of (tb := tb) follows Tryz.func35 (by kernel_rfl) Tryz.ntmps35 rfl rfl rfl ?_; intro cx hN hw
  have hm : maxLen = 9223372036854775807 := rfl
  simp (disch := exact eqId (by kernel_rfl)) only [go_sem, ↓reduceIte, Nat.reduceAdd, Nat.reduceMul, Nat.reduceLT, Nat.reduceBEq, Nat.reduceLeDiff, Nat.reduceEqDiff, Int.reduceToNat]
  refine callI_intro (tb := tb) (rs := [.tmp 2]) follows Tryz.func31 (by kernel_rfl) rfl rfl Tryz.ntmps31 rfl ⟨trivial, trivial⟩ ?_
  intro cx2 hN2
  simp (disch := exact eqId (by kernel_rfl)) only [go_sem, ↓reduceIte, Nat.reduceAdd, Nat.reduceMul, Nat.reduceLT, Nat.reduceBEq, Nat.reduceLeDiff, Nat.reduceEqDiff, Int.reduceToNat]
  refine loop_introF (tb := tb.at 900000000000000) follows hN2 (D := Nat × Int) (fun d => shp [(0, .rd (.list (.int .u8)) b), (3, .rd I d.2), (4, .rd I (d.1 : Int))] [(10000, .box 47 [.rd I 0, .rd I 0, .rd I 0, .rd I 0, .rd I 0, .rd I 0, .rd I 0, .rd I 0, .rd I 0])]) (fun d => d.1 ≤ 4000 ∧ newH b = nwK b (4000 - d.1) d.1 d.2) (fun d => 4000 - d.1) (0, IntKind.i64.wrap (193017 + (b.length : Int))) ?_ (sub_shpF [(10000, some 10000)] ?_) (fun d hd => ?_)
  · exact ⟨Nat.zero_le _, rfl⟩
  · simp (disch := exact eqId (by kernel_rfl)) only [go_sem, ↓reduceIte, Nat.reduceAdd, Nat.reduceMul, Nat.reduceLT, Nat.reduceBEq, Nat.reduceLeDiff, Nat.reduceEqDiff, Int.reduceToNat]
    try rfl
  · obtain ⟨k, h⟩ := d
    obtain ⟨h1, h2⟩ := hd
    simp only at h1 h2
    simp (disch := exact eqId (by kernel_rfl)) only [go_sem, ↓reduceIte, Nat.reduceAdd, Nat.reduceMul, Nat.reduceLT, Nat.reduceBEq, Nat.reduceLeDiff, Nat.reduceEqDiff, Int.reduceToNat]
    repeat' (first | (refine And.intro ?_ ?_) | intro _)
    all_goals (try omega)
    · rename_i hk
      refine back_intro (k + 1, nwG h (b.getD k 0)) ?_ ?_ (sub_shpF [(10000, some 10000)] ?_)
      · refine ⟨by omega, ?_⟩
        simp only
        rw [h2, show 4000 - k = (4000 - (k + 1)) + 1 from by omega, nwK, if_pos (by omega)]
      · simp only; omega
      · simp (disch := exact eqId (by kernel_rfl)) only [go_sem, ↓reduceIte, Nat.reduceAdd, Nat.reduceMul, Nat.reduceLT, Nat.reduceBEq, Nat.reduceLeDiff, Nat.reduceEqDiff, Int.reduceToNat]
        first | exact ⟨rfl, wrap_i64 (by omega) (by omega)⟩ | exact wrap_i64 (by omega) (by omega) | trace_state
    · rename_i hk
      have hh : h = newH b := by
        rw [h2]
        exact (nwK_end (by omega)).symm
      subst hh
      clear h1 h2
      refine callM_intro (l13Any_ok (cu0 b hb)) ⟨⟨trivial, by decide⟩, rfl, rfl⟩ ?_
      simp (disch := exact eqId (by kernel_rfl)) only [go_sem, ↓reduceIte, Nat.reduceAdd, Nat.reduceMul, Nat.reduceLT, Nat.reduceBEq, Nat.reduceLeDiff, Nat.reduceEqDiff, Int.reduceToNat]
      repeat' (first | (refine And.intro ?_ ?_) | intro _)
      all_goals (try omega)
      all_goals (try rfl)
theorem DrawSignPiece_ok (b : List Int) (hb : b.length ≤ maxLen) : FunOK Tryz.prog 14 [⟨(.list (.int .u8)), b⟩] (.rd tSignature (d13A (cu0 b hb)).1) := by
  refine fun_of (tb := tb) follows Tryz.func14 (by kernel_rfl) Tryz.ntmps14 rfl rfl rfl ?_; intro cx hN hw
  simp (disch := exact eqId (by kernel_rfl)) only [go_sem, ↓reduceIte, Nat.reduceAdd, Nat.reduceMul, Nat.reduceLT, Nat.reduceBEq, Nat.reduceLeDiff, Nat.reduceEqDiff, Int.reduceToNat]
  refine callQ_intro (DrawIsSignature_ok _ hb) ?_
  simp (disch := exact eqId (by kernel_rfl)) only [go_sem, ↓reduceIte, Nat.reduceAdd, Nat.reduceMul, Nat.reduceLT, Nat.reduceBEq, Nat.reduceLeDiff, Nat.reduceEqDiff, Int.reduceToNat]
theorem DrawIsMandate_ok (b : List Int) (hb : b.length ≤ maxLen) : FunOK Tryz.prog 37 [⟨(.list (.int .u8)), b⟩] (.rd tMandate (d15A (cu0 b hb)).1) := by
  refine fun_of (tb := tb) follows Tryz.func37 (by kernel_rfl) Tryz.ntmps37 rfl rfl rfl ?_; intro cx hN hw
  have hm : maxLen = 9223372036854775807 := rfl
  simp (disch := exact eqId (by kernel_rfl)) only [go_sem, ↓reduceIte, Nat.reduceAdd, Nat.reduceMul, Nat.reduceLT, Nat.reduceBEq, Nat.reduceLeDiff, Nat.reduceEqDiff, Int.reduceToNat]
  refine callI_intro (tb := tb) (rs := [.tmp 2]) follows Tryz.func31 (by kernel_rfl) rfl rfl Tryz.ntmps31 rfl ⟨trivial, trivial⟩ ?_
  intro cx2 hN2
  simp (disch := exact eqId (by kernel_rfl)) only [go_sem, ↓reduceIte, Nat.reduceAdd, Nat.reduceMul, Nat.reduceLT, Nat.reduceBEq, Nat.reduceLeDiff, Nat.reduceEqDiff, Int.reduceToNat]
  refine loop_introF (tb := tb.at 900000000000000) follows hN2 (D := Nat × Int) (fun d => shp [(0, .rd (.list (.int .u8)) b), (3, .rd I d.2), (4, .rd I (d.1 : Int))] [(10000, .box 53 [.rd I 0, .rd I 0, .rd I 0, .rd I 0, .rd I 0, .rd I 0])]) (fun d => d.1 ≤ 4000 ∧ newH b = nwK b (4000 - d.1) d.1 d.2) (fun d => 4000 - d.1) (0, IntKind.i64.wrap (193017 + (b.length : Int))) ?_ (sub_shpF [(10000, some 10000)] ?_) (fun d hd => ?_)
  · exact ⟨Nat.zero_le _, rfl⟩
  · simp (disch := exact eqId (by kernel_rfl)) only [go_sem, ↓reduceIte, Nat.reduceAdd, Nat.reduceMul, Nat.reduceLT, Nat.reduceBEq, Nat.reduceLeDiff, Nat.reduceEqDiff, Int.reduceToNat]
    try rfl
  · obtain ⟨k, h⟩ := d
    obtain ⟨h1, h2⟩ := hd
    simp only at h1 h2
    simp (disch := exact eqId (by kernel_rfl)) only [go_sem, ↓reduceIte, Nat.reduceAdd, Nat.reduceMul, Nat.reduceLT, Nat.reduceBEq, Nat.reduceLeDiff, Nat.reduceEqDiff, Int.reduceToNat]
    repeat' (first | (refine And.intro ?_ ?_) | intro _)
    all_goals (try omega)
    · rename_i hk
      refine back_intro (k + 1, nwG h (b.getD k 0)) ?_ ?_ (sub_shpF [(10000, some 10000)] ?_)
      · refine ⟨by omega, ?_⟩
        simp only
        rw [h2, show 4000 - k = (4000 - (k + 1)) + 1 from by omega, nwK, if_pos (by omega)]
      · simp only; omega
      · simp (disch := exact eqId (by kernel_rfl)) only [go_sem, ↓reduceIte, Nat.reduceAdd, Nat.reduceMul, Nat.reduceLT, Nat.reduceBEq, Nat.reduceLeDiff, Nat.reduceEqDiff, Int.reduceToNat]
        first | exact ⟨rfl, wrap_i64 (by omega) (by omega)⟩ | exact wrap_i64 (by omega) (by omega) | trace_state
    · rename_i hk
      have hh : h = newH b := by
        rw [h2]
        exact (nwK_end (by omega)).symm
      subst hh
      clear h1 h2
      refine callM_intro (l15Any_ok (cu0 b hb)) ⟨⟨trivial, by decide⟩, rfl, rfl⟩ ?_
      simp (disch := exact eqId (by kernel_rfl)) only [go_sem, ↓reduceIte, Nat.reduceAdd, Nat.reduceMul, Nat.reduceLT, Nat.reduceBEq, Nat.reduceLeDiff, Nat.reduceEqDiff, Int.reduceToNat]
      repeat' (first | (refine And.intro ?_ ?_) | intro _)
      all_goals (try omega)
      all_goals (try rfl)
theorem DrawMandatePiece_ok (b : List Int) (hb : b.length ≤ maxLen) : FunOK Tryz.prog 17 [⟨(.list (.int .u8)), b⟩] (.rd tMandate (d15A (cu0 b hb)).1) := by
  refine fun_of (tb := tb) follows Tryz.func17 (by kernel_rfl) Tryz.ntmps17 rfl rfl rfl ?_; intro cx hN hw
  simp (disch := exact eqId (by kernel_rfl)) only [go_sem, ↓reduceIte, Nat.reduceAdd, Nat.reduceMul, Nat.reduceLT, Nat.reduceBEq, Nat.reduceLeDiff, Nat.reduceEqDiff, Int.reduceToNat]
  refine callQ_intro (DrawIsMandate_ok _ hb) ?_
  simp (disch := exact eqId (by kernel_rfl)) only [go_sem, ↓reduceIte, Nat.reduceAdd, Nat.reduceMul, Nat.reduceLT, Nat.reduceBEq, Nat.reduceLeDiff, Nat.reduceEqDiff, Int.reduceToNat]
theorem DrawStampPiece_ok (b : List Int) (hb : b.length ≤ maxLen) : FunOK Tryz.prog 11 [⟨(.list (.int .u8)), b⟩] (.tup [.rd I (dN (cu0 b hb)).1, .rd tStamp (d11B (dN (cu0 b hb)).2).1]) := by
  refine fun_of (tb := tb) follows Tryz.func11 (by kernel_rfl) Tryz.ntmps11 rfl rfl rfl ?_; intro cx hN hw
  have hm : maxLen = 9223372036854775807 := rfl
  simp (disch := exact eqId (by kernel_rfl)) only [go_sem, ↓reduceIte, Nat.reduceAdd, Nat.reduceMul, Nat.reduceLT, Nat.reduceBEq, Nat.reduceLeDiff, Nat.reduceEqDiff, Int.reduceToNat]
  refine callI_intro (tb := tb) (rs := [.tmp 2]) follows Tryz.func31 (by kernel_rfl) rfl rfl Tryz.ntmps31 rfl ⟨trivial, trivial⟩ ?_
  intro cx2 hN2
  simp (disch := exact eqId (by kernel_rfl)) only [go_sem, ↓reduceIte, Nat.reduceAdd, Nat.reduceMul, Nat.reduceLT, Nat.reduceBEq, Nat.reduceLeDiff, Nat.reduceEqDiff, Int.reduceToNat]
  refine loop_introF (tb := tb.at 900000000000000) follows hN2 (D := Nat × Int) (fun d => shp [(0, .rd (.list (.int .u8)) b), (3, .rd I d.2), (4, .rd I (d.1 : Int))] [(10016, .box 40 [.rd I 0, .rd I 0, .rd I 0, .rd I 0, .rd I 0])]) (fun d => d.1 ≤ 4000 ∧ newH b = nwK b (4000 - d.1) d.1 d.2) (fun d => 4000 - d.1) (0, IntKind.i64.wrap (193017 + (b.length : Int))) ?_ (sub_shpF [(10016, some 10016)] ?_) (fun d hd => ?_)
  · exact ⟨Nat.zero_le _, rfl⟩
  · simp (disch := exact eqId (by kernel_rfl)) only [go_sem, ↓reduceIte, Nat.reduceAdd, Nat.reduceMul, Nat.reduceLT, Nat.reduceBEq, Nat.reduceLeDiff, Nat.reduceEqDiff, Int.reduceToNat]
    try rfl
  · obtain ⟨k, h⟩ := d
    obtain ⟨h1, h2⟩ := hd
    simp only at h1 h2
    simp (disch := exact eqId (by kernel_rfl)) only [go_sem, ↓reduceIte, Nat.reduceAdd, Nat.reduceMul, Nat.reduceLT, Nat.reduceBEq, Nat.reduceLeDiff, Nat.reduceEqDiff, Int.reduceToNat]
    repeat' (first | (refine And.intro ?_ ?_) | intro _)
    all_goals (try omega)
    · rename_i hk
      refine back_intro (k + 1, nwG h (b.getD k 0)) ?_ ?_ (sub_shpF [(10016, some 10016)] ?_)
      · refine ⟨by omega, ?_⟩
        simp only
        rw [h2, show 4000 - k = (4000 - (k + 1)) + 1 from by omega, nwK, if_pos (by omega)]
      · simp only; omega
      · simp (disch := exact eqId (by kernel_rfl)) only [go_sem, ↓reduceIte, Nat.reduceAdd, Nat.reduceMul, Nat.reduceLT, Nat.reduceBEq, Nat.reduceLeDiff, Nat.reduceEqDiff, Int.reduceToNat]
        first | exact ⟨rfl, wrap_i64 (by omega) (by omega)⟩ | exact wrap_i64 (by omega) (by omega) | trace_state
    · rename_i hk
      have hh : h = newH b := by
        rw [h2]
        exact (nwK_end (by omega)).symm
      subst hh
      clear h1 h2
      refine callM_intro (l8Number_ok (cu0 b hb)) ⟨⟨trivial, by decide⟩, rfl, rfl⟩ ?_
      simp (disch := exact eqId (by kernel_rfl)) only [go_sem, ↓reduceIte, Nat.reduceAdd, Nat.reduceMul, Nat.reduceLT, Nat.reduceBEq, Nat.reduceLeDiff, Nat.reduceEqDiff, Int.reduceToNat]
      repeat' (first | (refine And.intro ?_ ?_) | intro _ | (refine callM_intro (l11Bent_ok _) ⟨⟨trivial, by decide⟩, rfl, rfl⟩ ?_; try (simp (disch := exact eqId (by kernel_rfl)) only [go_sem, ↓reduceIte, Nat.reduceAdd, Nat.reduceMul, Nat.reduceLT, Nat.reduceBEq, Nat.reduceLeDiff, Nat.reduceEqDiff, Int.reduceToNat])))
      all_goals (try omega)
      all_goals (try rfl)
def dPB (b : List Int) (hb : b.length ≤ maxLen) : tPiece.den × tPiece.den :=
  let x := d18 (cu0 b hb)
  let y := d18 x.2
  let k := dB y.2 4
  if k.1 = 0 then (x.1, x.1)
  else if k.1 = 1 then (x.1, (x.1.1, x.1.2.1 ++ [1], x.1.2.2.1, ()))
  else if k.1 = 2 then (x.1, (x.1.1, x.1.2.1, IntKind.i64.wrap (x.1.2.2.1 + 1), ()))
  else (x.1, y.1)
def dCP (b : List Int) (hb : b.length ≤ maxLen) : List tKey.den × tPiece.den :=
  let k := dO (cu0 b hb) 5
  if k.1 = true then ((d8A k.2).1, (d18 (d8A k.2).2).1) else (K8, (d18 k.2).1)
theorem DrawPieceBefore_ok (b : List Int) (hb : b.length ≤ maxLen) : FunOK Tryz.prog 20 [⟨(.list (.int .u8)), b⟩] (.tup [.rd tPiece (dPB b hb).1, .rd tPiece (dPB b hb).2]) := by
  have hl1 := d18_len (cu0 b hb)
  have hl2 := d18_len (d18 (cu0 b hb)).2
  refine fun_of (tb := tb) follows Tryz.func20 (by kernel_rfl) Tryz.ntmps20 rfl rfl rfl ?_; intro cx hN hw
  have hm : maxLen = 9223372036854775807 := rfl
  simp (disch := exact eqId (by kernel_rfl)) only [go_sem, ↓reduceIte, Nat.reduceAdd, Nat.reduceMul, Nat.reduceLT, Nat.reduceBEq, Nat.reduceLeDiff, Nat.reduceEqDiff, Int.reduceToNat]
  refine callI_intro (tb := tb) (rs := [.tmp 2]) follows Tryz.func31 (by kernel_rfl) rfl rfl Tryz.ntmps31 rfl ⟨trivial, trivial⟩ ?_
  intro cx2 hN2
  simp (disch := exact eqId (by kernel_rfl)) only [go_sem, ↓reduceIte, Nat.reduceAdd, Nat.reduceMul, Nat.reduceLT, Nat.reduceBEq, Nat.reduceLeDiff, Nat.reduceEqDiff, Int.reduceToNat]
  refine loop_introF (tb := tb.at 900000000000000) follows hN2 (D := Nat × Int) (fun d => shp [(0, .rd (.list (.int .u8)) b), (3, .rd I d.2), (4, .rd I (d.1 : Int))] [(10000, .box 31 [.rd I 0, .nils, .rd I 0]), (10016, .box 31 [.rd I 0, .nils, .rd I 0])]) (fun d => d.1 ≤ 4000 ∧ newH b = nwK b (4000 - d.1) d.1 d.2) (fun d => 4000 - d.1) (0, IntKind.i64.wrap (193017 + (b.length : Int))) ?_ (sub_shpF [(10000, some 10000), (10016, some 10016)] ?_) (fun d hd => ?_)
  · exact ⟨Nat.zero_le _, rfl⟩
  · simp (disch := exact eqId (by kernel_rfl)) only [go_sem, ↓reduceIte, Nat.reduceAdd, Nat.reduceMul, Nat.reduceLT, Nat.reduceBEq, Nat.reduceLeDiff, Nat.reduceEqDiff, Int.reduceToNat]
    try rfl
  · obtain ⟨k, h⟩ := d
    obtain ⟨h1, h2⟩ := hd
    simp only at h1 h2
    simp (disch := exact eqId (by kernel_rfl)) only [go_sem, ↓reduceIte, Nat.reduceAdd, Nat.reduceMul, Nat.reduceLT, Nat.reduceBEq, Nat.reduceLeDiff, Nat.reduceEqDiff, Int.reduceToNat]
    repeat' (first | (refine And.intro ?_ ?_) | intro _)
    all_goals (try omega)
    · rename_i hk
      refine back_intro (k + 1, nwG h (b.getD k 0)) ?_ ?_ (sub_shpF [(10000, some 10000), (10016, some 10016)] ?_)
      · refine ⟨by omega, ?_⟩
        simp only
        rw [h2, show 4000 - k = (4000 - (k + 1)) + 1 from by omega, nwK, if_pos (by omega)]
      · simp only; omega
      · simp (disch := exact eqId (by kernel_rfl)) only [go_sem, ↓reduceIte, Nat.reduceAdd, Nat.reduceMul, Nat.reduceLT, Nat.reduceBEq, Nat.reduceLeDiff, Nat.reduceEqDiff, Int.reduceToNat]
        first | exact ⟨rfl, wrap_i64 (by omega) (by omega)⟩ | exact wrap_i64 (by omega) (by omega) | trace_state
    · rename_i hk
      have hh : h = newH b := by
        rw [h2]
        exact (nwK_end (by omega)).symm
      subst hh
      clear h1 h2
      refine callM_intro (l18Any_ok (cu0 b hb)) ⟨⟨trivial, by decide⟩, rfl, rfl⟩ ?_
      simp (disch := exact eqId (by kernel_rfl)) only [go_sem, ↓reduceIte, Nat.reduceAdd, Nat.reduceMul, Nat.reduceLT, Nat.reduceBEq, Nat.reduceLeDiff, Nat.reduceEqDiff, Int.reduceToNat]
      repeat' (first | (refine And.intro ?_ ?_) | intro _ | (refine callM_intro (l18Any_ok _) ⟨⟨trivial, by decide⟩, rfl, rfl⟩ ?_; try (simp (disch := exact eqId (by kernel_rfl)) only [go_sem, ↓reduceIte, Nat.reduceAdd, Nat.reduceMul, Nat.reduceLT, Nat.reduceBEq, Nat.reduceLeDiff, Nat.reduceEqDiff, Int.reduceToNat])) | (refine callM_intro (dB_ok _ _) ⟨⟨trivial, by decide⟩, rfl, rfl⟩ ?_; try (simp (disch := exact eqId (by kernel_rfl)) only [go_sem, ↓reduceIte, Nat.reduceAdd, Nat.reduceMul, Nat.reduceLT, Nat.reduceBEq, Nat.reduceLeDiff, Nat.reduceEqDiff, Int.reduceToNat])) | (refine callQ_intro (l18Copy_ok _ (Nat.le_trans (d18_len (cu0 b hb)).2 (by decide))) ?_; try (simp (disch := exact eqId (by kernel_rfl)) only [go_sem, ↓reduceIte, Nat.reduceAdd, Nat.reduceMul, Nat.reduceLT, Nat.reduceBEq, Nat.reduceLeDiff, Nat.reduceEqDiff, Int.reduceToNat])) | (refine callH_intro (fun hcc => l18Copy_ok _ (Nat.le_trans (d18_len (cu0 b hb)).2 (by decide))) ?_; try (simp (disch := exact eqId (by kernel_rfl)) only [go_sem, ↓reduceIte, Nat.reduceAdd, Nat.reduceMul, Nat.reduceLT, Nat.reduceBEq, Nat.reduceLeDiff, Nat.reduceEqDiff, Int.reduceToNat])))
      all_goals (try omega)
      all_goals (try rfl)
      all_goals (try (unfold dPB; simp only [*, ↓reduceIte]; done))
      all_goals (try (unfold dPB; simp only [*]; rfl))
      all_goals trace_state
theorem DrawCheckPiece_ok (b : List Int) (hb : b.length ≤ maxLen) : FunOK Tryz.prog 23 [⟨(.list (.int .u8)), b⟩] (.tup [.rd (.list tKey) (dCP b hb).1, .rd tPiece (dCP b hb).2]) := by
  refine fun_of (tb := tb) follows Tryz.func23 (by kernel_rfl) Tryz.ntmps23 rfl rfl rfl ?_; intro cx hN hw
  have hm : maxLen = 9223372036854775807 := rfl
  simp (disch := exact eqId (by kernel_rfl)) only [go_sem, ↓reduceIte, Nat.reduceAdd, Nat.reduceMul, Nat.reduceLT, Nat.reduceBEq, Nat.reduceLeDiff, Nat.reduceEqDiff, Int.reduceToNat]
  refine callI_intro (tb := tb) (rs := [.tmp 2]) follows Tryz.func31 (by kernel_rfl) rfl rfl Tryz.ntmps31 rfl ⟨trivial, trivial⟩ ?_
  intro cx2 hN2
  simp (disch := exact eqId (by kernel_rfl)) only [go_sem, ↓reduceIte, Nat.reduceAdd, Nat.reduceMul, Nat.reduceLT, Nat.reduceBEq, Nat.reduceLeDiff, Nat.reduceEqDiff, Int.reduceToNat]
  refine loop_introF (tb := tb.at 900000000000000) follows hN2 (D := Nat × Int) (fun d => shp [(0, .rd (.list (.int .u8)) b), (3, .rd I d.2), (4, .rd I (d.1 : Int))] [(10016, .box 31 [.rd I 0, .nils, .rd I 0])]) (fun d => d.1 ≤ 4000 ∧ newH b = nwK b (4000 - d.1) d.1 d.2) (fun d => 4000 - d.1) (0, IntKind.i64.wrap (193017 + (b.length : Int))) ?_ (sub_shpF [(10016, some 10016)] ?_) (fun d hd => ?_)
  · exact ⟨Nat.zero_le _, rfl⟩
  · simp (disch := exact eqId (by kernel_rfl)) only [go_sem, ↓reduceIte, Nat.reduceAdd, Nat.reduceMul, Nat.reduceLT, Nat.reduceBEq, Nat.reduceLeDiff, Nat.reduceEqDiff, Int.reduceToNat]
    try rfl
  · obtain ⟨k, h⟩ := d
    obtain ⟨h1, h2⟩ := hd
    simp only at h1 h2
    simp (disch := exact eqId (by kernel_rfl)) only [go_sem, ↓reduceIte, Nat.reduceAdd, Nat.reduceMul, Nat.reduceLT, Nat.reduceBEq, Nat.reduceLeDiff, Nat.reduceEqDiff, Int.reduceToNat]
    repeat' (first | (refine And.intro ?_ ?_) | intro _)
    all_goals (try omega)
    · rename_i hk
      refine back_intro (k + 1, nwG h (b.getD k 0)) ?_ ?_ (sub_shpF [(10016, some 10016)] ?_)
      · refine ⟨by omega, ?_⟩
        simp only
        rw [h2, show 4000 - k = (4000 - (k + 1)) + 1 from by omega, nwK, if_pos (by omega)]
      · simp only; omega
      · simp (disch := exact eqId (by kernel_rfl)) only [go_sem, ↓reduceIte, Nat.reduceAdd, Nat.reduceMul, Nat.reduceLT, Nat.reduceBEq, Nat.reduceLeDiff, Nat.reduceEqDiff, Int.reduceToNat]
        first | exact ⟨rfl, wrap_i64 (by omega) (by omega)⟩ | exact wrap_i64 (by omega) (by omega) | trace_state
    · rename_i hk
      have hh : h = newH b := by
        rw [h2]
        exact (nwK_end (by omega)).symm
      subst hh
      clear h1 h2
      refine callM_intro (dO_ok (cu0 b hb) 5) ⟨⟨trivial, by decide⟩, rfl, rfl⟩ ?_
      simp (disch := exact eqId (by kernel_rfl)) only [go_sem, ↓reduceIte, Nat.reduceAdd, Nat.reduceMul, Nat.reduceLT, Nat.reduceBEq, Nat.reduceLeDiff, Nat.reduceEqDiff, Int.reduceToNat]
      repeat' (first | (refine And.intro ?_ ?_) | intro _ | (refine callM_intro (l18Any_ok _) ⟨⟨trivial, by decide⟩, rfl, rfl⟩ ?_; try (simp (disch := exact eqId (by kernel_rfl)) only [go_sem, ↓reduceIte, Nat.reduceAdd, Nat.reduceMul, Nat.reduceLT, Nat.reduceBEq, Nat.reduceLeDiff, Nat.reduceEqDiff, Int.reduceToNat])) | (refine callM_intro (l8Any_ok _) ⟨⟨trivial, by decide⟩, rfl, rfl⟩ ?_; try (simp (disch := exact eqId (by kernel_rfl)) only [go_sem, ↓reduceIte, Nat.reduceAdd, Nat.reduceMul, Nat.reduceLT, Nat.reduceBEq, Nat.reduceLeDiff, Nat.reduceEqDiff, Int.reduceToNat])) | (refine callQ_intro (l8Keys_ok) ?_; try (simp (disch := exact eqId (by kernel_rfl)) only [go_sem, ↓reduceIte, Nat.reduceAdd, Nat.reduceMul, Nat.reduceLT, Nat.reduceBEq, Nat.reduceLeDiff, Nat.reduceEqDiff, Int.reduceToNat])) | (refine callH_intro (fun hcc => l8Keys_ok) ?_; try (simp (disch := exact eqId (by kernel_rfl)) only [go_sem, ↓reduceIte, Nat.reduceAdd, Nat.reduceMul, Nat.reduceLT, Nat.reduceBEq, Nat.reduceLeDiff, Nat.reduceEqDiff, Int.reduceToNat])))
      all_goals (try omega)
      all_goals (try rfl)
      all_goals (try (unfold dCP; simp only [*, ↓reduceIte]; done))
      all_goals (try (unfold dCP; simp only [*]; rfl))
      all_goals trace_state
end Go.Proofs.YtchefiaimblieaaGreat
/- The law of pieces: by its draws and by plain maths. It proves nothing of a statement by itself. -/
set_option linter.unusedSimpArgs false
set_option linter.unusedVariables false
set_option maxRecDepth 100000
namespace Go.Proofs.YtchefiaimblieaaGreat
open Go.AL
theorem big_ok (b : List Int) : FunOK Tryz.prog 4 [⟨(.list (.int .u8)), b⟩] (.rd .bool (decide ((b.length : Int) > 1048576))) := by
  refine fun_of (tb := tb) follows Tryz.func4 (by kernel_rfl) Tryz.ntmps4 rfl rfl rfl ?_; intro cx hN hw
  simp (disch := exact eqId (by kernel_rfl)) only [go_sem, ↓reduceIte, Nat.reduceAdd, Nat.reduceMul, Nat.reduceLT, Nat.reduceBEq, Nat.reduceLeDiff, Nat.reduceEqDiff, Int.reduceToNat]
theorem bef_asym : ∀ (xs ys : List Int) (k l m n : Int), befF xs ys k l m n = true → befF ys xs l k n m = true → False
  | [], [], k, l, m, n, h1, h2 => by
    simp only [befF, List.length_nil, ne_eq, not_true_eq_false, ↓reduceIte] at h1 h2
    split at h1 <;> split at h2 <;> simp only [decide_eq_true_eq] at h1 h2 <;> omega
  | x :: xs, [], k, l, m, n, h1, h2 => by
    simp [befF] at h1
  | [], y :: ys, k, l, m, n, h1, h2 => by
    simp [befF] at h2
  | x :: xs, y :: ys, k, l, m, n, h1, h2 => by
    unfold befF at h1 h2
    by_cases h : x = y
    · rw [if_neg (by simpa using h)] at h1
      rw [if_neg (by simpa using h.symm)] at h2
      exact bef_asym xs ys k l m n h1 h2
    · rw [if_pos h] at h1
      rw [if_pos (fun e => h e.symm)] at h2
      simp only [decide_eq_true_eq] at h1 h2
      omega
theorem bef_tot : ∀ (xs ys : List Int) (k l m n : Int), befF xs ys k l m n = false → befF ys xs l k n m = false → xs = ys ∧ k = l ∧ m = n
  | [], [], k, l, m, n, h1, h2 => by
    simp only [befF, List.length_nil, ne_eq, not_true_eq_false, ↓reduceIte] at h1 h2
    split at h1 <;> split at h2 <;> simp only [decide_eq_false_iff_not] at h1 h2 <;> first | (exfalso; omega) | (refine ⟨rfl, by omega, by omega⟩)
  | x :: xs, [], k, l, m, n, h1, h2 => by
    simp [befF] at h2
  | [], y :: ys, k, l, m, n, h1, h2 => by
    simp [befF] at h1
  | x :: xs, y :: ys, k, l, m, n, h1, h2 => by
    unfold befF at h1 h2
    by_cases h : x = y
    · rw [if_neg (by simpa using h)] at h1
      rw [if_neg (by simpa using h.symm)] at h2
      obtain ⟨e1, e2⟩ := bef_tot xs ys k l m n h1 h2
      exact ⟨by rw [h, e1], e2⟩
    · rw [if_pos h] at h1
      rw [if_pos (fun e => h e.symm)] at h2
      simp only [decide_eq_false_iff_not] at h1 h2
      omega
theorem bef_self : ∀ (xs : List Int) (k m : Int), befF xs xs k k m m = false
  | [], k, m => by simp [befF]
  | x :: xs, k, m => by
    unfold befF
    rw [if_neg (by simp)]
    exact bef_self xs k m
def befP (p q : tPiece.den) : Bool := befF p.2.1 q.2.1 p.1 q.1 p.2.2.1 q.2.2.1
theorem bef_eq (p q : tPiece.den) : eqC p q = (!befP p q && !befP q p) := by
  obtain ⟨k, xs, m, ⟨⟩⟩ := p
  obtain ⟨l, ys, n, ⟨⟩⟩ := q
  unfold befP
  simp only
  cases h1 : befF xs ys k l m n with
  | true =>
    simp only [Bool.not_true, Bool.false_and]
    rw [eqC_f]
    intro e
    injection e with e1 e
    injection e with e2 e
    injection e with e3 e
    subst e1; subst e2; subst e3
    rw [bef_self] at h1
    cases h1
  | false =>
    cases h2 : befF ys xs l k n m with
    | true =>
      simp only [Bool.not_true, Bool.not_false, Bool.and_false]
      rw [eqC_f]
      intro e
      injection e with e1 e
      injection e with e2 e
      injection e with e3 e
      subst e1; subst e2; subst e3
      rw [bef_self] at h2
      cases h2
    | false =>
      simp only [Bool.not_false, Bool.and_true]
      rw [eqC_t]
      obtain ⟨e1, e2, e3⟩ := bef_tot xs ys k l m n h1 h2
      subst e1; subst e2; subst e3
      rfl
theorem shape_kind {p : tPiece.den} (h : shapeF p = true) : 101 ≤ kindF p.2.1 := by
  apply Classical.byContradiction
  intro hn
  have h1 := pCert0 p (by omega)
  have h2 := pStatus0 p (by omega)
  have h3 := pStamp0 p (by omega)
  have h4 := pSign0 p (by omega)
  have h5 := pMandate0 p (by omega)
  unfold shapeF at h
  rw [h1, h2, h3, h4, h5] at h
  cases h
theorem kindF_of {l : List Int} {c : Int} (h0 : l.getD 0 0 = c) (h1 : 101 ≤ c ∧ c ≤ 105) (h2 : l.length ≠ 0) (h3 : (l.length : Int) = [7, 5, 5, 9, 6].getD (c - 101).toNat 0) : kindF l = c := by
  unfold kindF
  subst h0
  exact if_pos ⟨h2, h1.1, h1.2, h3⟩
theorem rt_cert (x : tCert.den) : pieceCertF (x.2.2.2.2.2.1, [101, x.1, x.2.1, x.2.2.1, x.2.2.2.1, x.2.2.2.2.1, x.2.2.2.2.2.1], x.2.2.2.2.2.2.1, ()) = (x, true) :=
  if_pos ⟨kindF_of (c := 101) rfl (by decide) (by simp) rfl, rfl⟩
theorem rt_status (x : tStatus.den) : pieceStatusF (x.2.2.2.1, [102, x.1, x.2.1, x.2.2.1, x.2.2.2.1], x.2.2.2.2.1, ()) = (x, true) :=
  if_pos ⟨kindF_of (c := 102) rfl (by decide) (by simp) rfl, rfl⟩
theorem rt_stamp (k : Int) (x : tStamp.den) : pieceStampF (k, [103, x.1, x.2.1, x.2.2.1, x.2.2.2.1], x.2.2.2.2.1, ()) = (x, true) :=
  if_pos (kindF_of (c := 103) rfl (by decide) (by simp) rfl)
theorem rt_sign (x : tSignature.den) : pieceSignF (x.1, [104, x.1, x.2.1, x.2.2.1, x.2.2.2.1, x.2.2.2.2.1, x.2.2.2.2.2.1, x.2.2.2.2.2.2.1, x.2.2.2.2.2.2.2.1], x.2.2.2.2.2.2.2.2.1, ()) = (x, true) :=
  if_pos ⟨kindF_of (c := 104) rfl (by decide) (by simp) rfl, rfl⟩
theorem rt_mandate (x : tMandate.den) : pieceMandateF (x.2.2.2.2.1, [105, x.1, x.2.1, x.2.2.1, x.2.2.2.1, x.2.2.2.2.1], x.2.2.2.2.2.1, ()) = (x, true) :=
  if_pos ⟨kindF_of (c := 105) rfl (by decide) (by simp) rfl, rfl⟩
theorem impl_PieceCert_rt (x : tCert.den) : FunOK Tryz.prog 6 [⟨tPiece, (x.2.2.2.2.2.1, [101, x.1, x.2.1, x.2.2.1, x.2.2.2.1, x.2.2.2.2.1, x.2.2.2.2.2.1], x.2.2.2.2.2.2.1, ())⟩] (.tup [.rd tCert x, .rd .bool true]) := by
  have h := impl_PieceCert_ok (x.2.2.2.2.2.1, [101, x.1, x.2.1, x.2.2.1, x.2.2.2.1, x.2.2.2.2.1, x.2.2.2.2.2.1], x.2.2.2.2.2.2.1, ())
  rw [rt_cert x] at h
  exact h
theorem impl_PieceStatus_rt (x : tStatus.den) : FunOK Tryz.prog 9 [⟨tPiece, (x.2.2.2.1, [102, x.1, x.2.1, x.2.2.1, x.2.2.2.1], x.2.2.2.2.1, ())⟩] (.tup [.rd tStatus x, .rd .bool true]) := by
  have h := impl_PieceStatus_ok (x.2.2.2.1, [102, x.1, x.2.1, x.2.2.1, x.2.2.2.1], x.2.2.2.2.1, ())
  rw [rt_status x] at h
  exact h
theorem impl_PieceStamp_rt (k : Int) (x : tStamp.den) : FunOK Tryz.prog 12 [⟨tPiece, (k, [103, x.1, x.2.1, x.2.2.1, x.2.2.2.1], x.2.2.2.2.1, ())⟩] (.tup [.rd tStamp x, .rd .bool true]) := by
  have h := impl_PieceStamp_ok (k, [103, x.1, x.2.1, x.2.2.1, x.2.2.2.1], x.2.2.2.2.1, ())
  rw [rt_stamp k x] at h
  exact h
theorem impl_PieceSign_rt (x : tSignature.den) : FunOK Tryz.prog 15 [⟨tPiece, (x.1, [104, x.1, x.2.1, x.2.2.1, x.2.2.2.1, x.2.2.2.2.1, x.2.2.2.2.2.1, x.2.2.2.2.2.2.1, x.2.2.2.2.2.2.2.1], x.2.2.2.2.2.2.2.2.1, ())⟩] (.tup [.rd tSignature x, .rd .bool true]) := by
  have h := impl_PieceSign_ok (x.1, [104, x.1, x.2.1, x.2.2.1, x.2.2.2.1, x.2.2.2.2.1, x.2.2.2.2.2.1, x.2.2.2.2.2.2.1, x.2.2.2.2.2.2.2.1], x.2.2.2.2.2.2.2.2.1, ())
  rw [rt_sign x] at h
  exact h
theorem impl_PieceMandate_rt (x : tMandate.den) : FunOK Tryz.prog 18 [⟨tPiece, (x.2.2.2.2.1, [105, x.1, x.2.1, x.2.2.1, x.2.2.2.1, x.2.2.2.2.1], x.2.2.2.2.2.1, ())⟩] (.tup [.rd tMandate x, .rd .bool true]) := by
  have h := impl_PieceMandate_ok (x.2.2.2.2.1, [105, x.1, x.2.1, x.2.2.1, x.2.2.2.1, x.2.2.2.2.1], x.2.2.2.2.2.1, ())
  rw [rt_mandate x] at h
  exact h
theorem law_FnPieces_ok (b : List Int) : FunOK Tryz.prog 3 [⟨(.list (.int .u8)), b⟩] (.rd .bool true) := by
  refine fun_of (tb := tb) follows Tryz.func3 (by kernel_rfl) Tryz.ntmps3 rfl rfl rfl ?_; intro cx hN hw
  have hb : b.length ≤ maxLen := hw.1.1
  have hcl : (dCP b hb).2.2.1.length ≤ 1073741823 := by
    unfold dCP
    simp only
    split
    · exact Nat.le_trans (d18_len _).2 (by decide)
    · exact Nat.le_trans (d18_len _).2 (by decide)
  simp (disch := exact eqId (by kernel_rfl)) only [go_sem, ↓reduceIte, Nat.reduceAdd, Nat.reduceMul, Nat.reduceLT, Nat.reduceBEq, Nat.reduceLeDiff, Nat.reduceEqDiff, Int.reduceToNat]
  repeat' (first | (refine And.intro ?_ ?_) | intro _ | (refine callQ_intro (big_ok _) ?_; try (simp (disch := exact eqId (by kernel_rfl)) only [go_sem, ↓reduceIte, Nat.reduceAdd, Nat.reduceMul, Nat.reduceLT, Nat.reduceBEq, Nat.reduceLeDiff, Nat.reduceEqDiff, Int.reduceToNat])) | (refine callH_intro (fun hcc => big_ok _) ?_; try (simp (disch := exact eqId (by kernel_rfl)) only [go_sem, ↓reduceIte, Nat.reduceAdd, Nat.reduceMul, Nat.reduceLT, Nat.reduceBEq, Nat.reduceLeDiff, Nat.reduceEqDiff, Int.reduceToNat])) | (refine callQ_intro (DrawCertPiece_ok _ hb) ?_; try (simp (disch := exact eqId (by kernel_rfl)) only [go_sem, ↓reduceIte, Nat.reduceAdd, Nat.reduceMul, Nat.reduceLT, Nat.reduceBEq, Nat.reduceLeDiff, Nat.reduceEqDiff, Int.reduceToNat])) | (refine callH_intro (fun hcc => DrawCertPiece_ok _ hb) ?_; try (simp (disch := exact eqId (by kernel_rfl)) only [go_sem, ↓reduceIte, Nat.reduceAdd, Nat.reduceMul, Nat.reduceLT, Nat.reduceBEq, Nat.reduceLeDiff, Nat.reduceEqDiff, Int.reduceToNat])) | (refine callQ_intro (impl_CertPiece_ok _) ?_; try (simp (disch := exact eqId (by kernel_rfl)) only [go_sem, ↓reduceIte, Nat.reduceAdd, Nat.reduceMul, Nat.reduceLT, Nat.reduceBEq, Nat.reduceLeDiff, Nat.reduceEqDiff, Int.reduceToNat])) | (refine callH_intro (fun hcc => impl_CertPiece_ok _) ?_; try (simp (disch := exact eqId (by kernel_rfl)) only [go_sem, ↓reduceIte, Nat.reduceAdd, Nat.reduceMul, Nat.reduceLT, Nat.reduceBEq, Nat.reduceLeDiff, Nat.reduceEqDiff, Int.reduceToNat])) | (refine callQ_intro (impl_PieceCert_rt _) ?_; try (simp (disch := exact eqId (by kernel_rfl)) only [go_sem, ↓reduceIte, Nat.reduceAdd, Nat.reduceMul, Nat.reduceLT, Nat.reduceBEq, Nat.reduceLeDiff, Nat.reduceEqDiff, Int.reduceToNat])) | (refine callH_intro (fun hcc => impl_PieceCert_rt _) ?_; try (simp (disch := exact eqId (by kernel_rfl)) only [go_sem, ↓reduceIte, Nat.reduceAdd, Nat.reduceMul, Nat.reduceLT, Nat.reduceBEq, Nat.reduceLeDiff, Nat.reduceEqDiff, Int.reduceToNat])) | (refine callQ_intro (DrawStatusPiece_ok _ hb) ?_; try (simp (disch := exact eqId (by kernel_rfl)) only [go_sem, ↓reduceIte, Nat.reduceAdd, Nat.reduceMul, Nat.reduceLT, Nat.reduceBEq, Nat.reduceLeDiff, Nat.reduceEqDiff, Int.reduceToNat])) | (refine callH_intro (fun hcc => DrawStatusPiece_ok _ hb) ?_; try (simp (disch := exact eqId (by kernel_rfl)) only [go_sem, ↓reduceIte, Nat.reduceAdd, Nat.reduceMul, Nat.reduceLT, Nat.reduceBEq, Nat.reduceLeDiff, Nat.reduceEqDiff, Int.reduceToNat])) | (refine callQ_intro (impl_StatusPiece_ok _) ?_; try (simp (disch := exact eqId (by kernel_rfl)) only [go_sem, ↓reduceIte, Nat.reduceAdd, Nat.reduceMul, Nat.reduceLT, Nat.reduceBEq, Nat.reduceLeDiff, Nat.reduceEqDiff, Int.reduceToNat])) | (refine callH_intro (fun hcc => impl_StatusPiece_ok _) ?_; try (simp (disch := exact eqId (by kernel_rfl)) only [go_sem, ↓reduceIte, Nat.reduceAdd, Nat.reduceMul, Nat.reduceLT, Nat.reduceBEq, Nat.reduceLeDiff, Nat.reduceEqDiff, Int.reduceToNat])) | (refine callQ_intro (impl_PieceStatus_rt _) ?_; try (simp (disch := exact eqId (by kernel_rfl)) only [go_sem, ↓reduceIte, Nat.reduceAdd, Nat.reduceMul, Nat.reduceLT, Nat.reduceBEq, Nat.reduceLeDiff, Nat.reduceEqDiff, Int.reduceToNat])) | (refine callH_intro (fun hcc => impl_PieceStatus_rt _) ?_; try (simp (disch := exact eqId (by kernel_rfl)) only [go_sem, ↓reduceIte, Nat.reduceAdd, Nat.reduceMul, Nat.reduceLT, Nat.reduceBEq, Nat.reduceLeDiff, Nat.reduceEqDiff, Int.reduceToNat])) | (refine callQ_intro (DrawStampPiece_ok _ hb) ?_; try (simp (disch := exact eqId (by kernel_rfl)) only [go_sem, ↓reduceIte, Nat.reduceAdd, Nat.reduceMul, Nat.reduceLT, Nat.reduceBEq, Nat.reduceLeDiff, Nat.reduceEqDiff, Int.reduceToNat])) | (refine callH_intro (fun hcc => DrawStampPiece_ok _ hb) ?_; try (simp (disch := exact eqId (by kernel_rfl)) only [go_sem, ↓reduceIte, Nat.reduceAdd, Nat.reduceMul, Nat.reduceLT, Nat.reduceBEq, Nat.reduceLeDiff, Nat.reduceEqDiff, Int.reduceToNat])) | (refine callQ_intro (impl_StampPiece_ok _ _) ?_; try (simp (disch := exact eqId (by kernel_rfl)) only [go_sem, ↓reduceIte, Nat.reduceAdd, Nat.reduceMul, Nat.reduceLT, Nat.reduceBEq, Nat.reduceLeDiff, Nat.reduceEqDiff, Int.reduceToNat])) | (refine callH_intro (fun hcc => impl_StampPiece_ok _ _) ?_; try (simp (disch := exact eqId (by kernel_rfl)) only [go_sem, ↓reduceIte, Nat.reduceAdd, Nat.reduceMul, Nat.reduceLT, Nat.reduceBEq, Nat.reduceLeDiff, Nat.reduceEqDiff, Int.reduceToNat])) | (refine callQ_intro (impl_PieceStamp_rt _ _) ?_; try (simp (disch := exact eqId (by kernel_rfl)) only [go_sem, ↓reduceIte, Nat.reduceAdd, Nat.reduceMul, Nat.reduceLT, Nat.reduceBEq, Nat.reduceLeDiff, Nat.reduceEqDiff, Int.reduceToNat])) | (refine callH_intro (fun hcc => impl_PieceStamp_rt _ _) ?_; try (simp (disch := exact eqId (by kernel_rfl)) only [go_sem, ↓reduceIte, Nat.reduceAdd, Nat.reduceMul, Nat.reduceLT, Nat.reduceBEq, Nat.reduceLeDiff, Nat.reduceEqDiff, Int.reduceToNat])) | (refine callQ_intro (DrawSignPiece_ok _ hb) ?_; try (simp (disch := exact eqId (by kernel_rfl)) only [go_sem, ↓reduceIte, Nat.reduceAdd, Nat.reduceMul, Nat.reduceLT, Nat.reduceBEq, Nat.reduceLeDiff, Nat.reduceEqDiff, Int.reduceToNat])) | (refine callH_intro (fun hcc => DrawSignPiece_ok _ hb) ?_; try (simp (disch := exact eqId (by kernel_rfl)) only [go_sem, ↓reduceIte, Nat.reduceAdd, Nat.reduceMul, Nat.reduceLT, Nat.reduceBEq, Nat.reduceLeDiff, Nat.reduceEqDiff, Int.reduceToNat])) | (refine callQ_intro (impl_SignPiece_ok _) ?_; try (simp (disch := exact eqId (by kernel_rfl)) only [go_sem, ↓reduceIte, Nat.reduceAdd, Nat.reduceMul, Nat.reduceLT, Nat.reduceBEq, Nat.reduceLeDiff, Nat.reduceEqDiff, Int.reduceToNat])) | (refine callH_intro (fun hcc => impl_SignPiece_ok _) ?_; try (simp (disch := exact eqId (by kernel_rfl)) only [go_sem, ↓reduceIte, Nat.reduceAdd, Nat.reduceMul, Nat.reduceLT, Nat.reduceBEq, Nat.reduceLeDiff, Nat.reduceEqDiff, Int.reduceToNat])) | (refine callQ_intro (impl_PieceSign_rt _) ?_; try (simp (disch := exact eqId (by kernel_rfl)) only [go_sem, ↓reduceIte, Nat.reduceAdd, Nat.reduceMul, Nat.reduceLT, Nat.reduceBEq, Nat.reduceLeDiff, Nat.reduceEqDiff, Int.reduceToNat])) | (refine callH_intro (fun hcc => impl_PieceSign_rt _) ?_; try (simp (disch := exact eqId (by kernel_rfl)) only [go_sem, ↓reduceIte, Nat.reduceAdd, Nat.reduceMul, Nat.reduceLT, Nat.reduceBEq, Nat.reduceLeDiff, Nat.reduceEqDiff, Int.reduceToNat])) | (refine callQ_intro (DrawMandatePiece_ok _ hb) ?_; try (simp (disch := exact eqId (by kernel_rfl)) only [go_sem, ↓reduceIte, Nat.reduceAdd, Nat.reduceMul, Nat.reduceLT, Nat.reduceBEq, Nat.reduceLeDiff, Nat.reduceEqDiff, Int.reduceToNat])) | (refine callH_intro (fun hcc => DrawMandatePiece_ok _ hb) ?_; try (simp (disch := exact eqId (by kernel_rfl)) only [go_sem, ↓reduceIte, Nat.reduceAdd, Nat.reduceMul, Nat.reduceLT, Nat.reduceBEq, Nat.reduceLeDiff, Nat.reduceEqDiff, Int.reduceToNat])) | (refine callQ_intro (impl_MandatePiece_ok _) ?_; try (simp (disch := exact eqId (by kernel_rfl)) only [go_sem, ↓reduceIte, Nat.reduceAdd, Nat.reduceMul, Nat.reduceLT, Nat.reduceBEq, Nat.reduceLeDiff, Nat.reduceEqDiff, Int.reduceToNat])) | (refine callH_intro (fun hcc => impl_MandatePiece_ok _) ?_; try (simp (disch := exact eqId (by kernel_rfl)) only [go_sem, ↓reduceIte, Nat.reduceAdd, Nat.reduceMul, Nat.reduceLT, Nat.reduceBEq, Nat.reduceLeDiff, Nat.reduceEqDiff, Int.reduceToNat])) | (refine callQ_intro (impl_PieceMandate_rt _) ?_; try (simp (disch := exact eqId (by kernel_rfl)) only [go_sem, ↓reduceIte, Nat.reduceAdd, Nat.reduceMul, Nat.reduceLT, Nat.reduceBEq, Nat.reduceLeDiff, Nat.reduceEqDiff, Int.reduceToNat])) | (refine callH_intro (fun hcc => impl_PieceMandate_rt _) ?_; try (simp (disch := exact eqId (by kernel_rfl)) only [go_sem, ↓reduceIte, Nat.reduceAdd, Nat.reduceMul, Nat.reduceLT, Nat.reduceBEq, Nat.reduceLeDiff, Nat.reduceEqDiff, Int.reduceToNat])) | (refine callQ_intro (DrawPieceBefore_ok _ hb) ?_; try (simp (disch := exact eqId (by kernel_rfl)) only [go_sem, ↓reduceIte, Nat.reduceAdd, Nat.reduceMul, Nat.reduceLT, Nat.reduceBEq, Nat.reduceLeDiff, Nat.reduceEqDiff, Int.reduceToNat])) | (refine callH_intro (fun hcc => DrawPieceBefore_ok _ hb) ?_; try (simp (disch := exact eqId (by kernel_rfl)) only [go_sem, ↓reduceIte, Nat.reduceAdd, Nat.reduceMul, Nat.reduceLT, Nat.reduceBEq, Nat.reduceLeDiff, Nat.reduceEqDiff, Int.reduceToNat])) | (refine callQ_intro (impl_PieceBefore_ok _ _) ?_; try (simp (disch := exact eqId (by kernel_rfl)) only [go_sem, ↓reduceIte, Nat.reduceAdd, Nat.reduceMul, Nat.reduceLT, Nat.reduceBEq, Nat.reduceLeDiff, Nat.reduceEqDiff, Int.reduceToNat])) | (refine callH_intro (fun hcc => impl_PieceBefore_ok _ _) ?_; try (simp (disch := exact eqId (by kernel_rfl)) only [go_sem, ↓reduceIte, Nat.reduceAdd, Nat.reduceMul, Nat.reduceLT, Nat.reduceBEq, Nat.reduceLeDiff, Nat.reduceEqDiff, Int.reduceToNat])) | (refine callQ_intro (impl_EqualPieces_ok _ _) ?_; try (simp (disch := exact eqId (by kernel_rfl)) only [go_sem, ↓reduceIte, Nat.reduceAdd, Nat.reduceMul, Nat.reduceLT, Nat.reduceBEq, Nat.reduceLeDiff, Nat.reduceEqDiff, Int.reduceToNat])) | (refine callH_intro (fun hcc => impl_EqualPieces_ok _ _) ?_; try (simp (disch := exact eqId (by kernel_rfl)) only [go_sem, ↓reduceIte, Nat.reduceAdd, Nat.reduceMul, Nat.reduceLT, Nat.reduceBEq, Nat.reduceLeDiff, Nat.reduceEqDiff, Int.reduceToNat])) | (refine callQ_intro (DrawCheckPiece_ok _ hb) ?_; try (simp (disch := exact eqId (by kernel_rfl)) only [go_sem, ↓reduceIte, Nat.reduceAdd, Nat.reduceMul, Nat.reduceLT, Nat.reduceBEq, Nat.reduceLeDiff, Nat.reduceEqDiff, Int.reduceToNat])) | (refine callH_intro (fun hcc => DrawCheckPiece_ok _ hb) ?_; try (simp (disch := exact eqId (by kernel_rfl)) only [go_sem, ↓reduceIte, Nat.reduceAdd, Nat.reduceMul, Nat.reduceLT, Nat.reduceBEq, Nat.reduceLeDiff, Nat.reduceEqDiff, Int.reduceToNat])) | (refine callQ_intro (impl_CheckPiece_ok _ _ hcl) ?_; try (simp (disch := exact eqId (by kernel_rfl)) only [go_sem, ↓reduceIte, Nat.reduceAdd, Nat.reduceMul, Nat.reduceLT, Nat.reduceBEq, Nat.reduceLeDiff, Nat.reduceEqDiff, Int.reduceToNat])) | (refine callH_intro (fun hcc => impl_CheckPiece_ok _ _ hcl) ?_; try (simp (disch := exact eqId (by kernel_rfl)) only [go_sem, ↓reduceIte, Nat.reduceAdd, Nat.reduceMul, Nat.reduceLT, Nat.reduceBEq, Nat.reduceLeDiff, Nat.reduceEqDiff, Int.reduceToNat])) | (refine callQ_intro (impl_KindOfPiece_ok _) ?_; try (simp (disch := exact eqId (by kernel_rfl)) only [go_sem, ↓reduceIte, Nat.reduceAdd, Nat.reduceMul, Nat.reduceLT, Nat.reduceBEq, Nat.reduceLeDiff, Nat.reduceEqDiff, Int.reduceToNat])) | (refine callH_intro (fun hcc => impl_KindOfPiece_ok _) ?_; try (simp (disch := exact eqId (by kernel_rfl)) only [go_sem, ↓reduceIte, Nat.reduceAdd, Nat.reduceMul, Nat.reduceLT, Nat.reduceBEq, Nat.reduceLeDiff, Nat.reduceEqDiff, Int.reduceToNat])) | (refine callQ_intro (impl_CheckMark_ok _ _ _ _ hcl) ?_; try (simp (disch := exact eqId (by kernel_rfl)) only [go_sem, ↓reduceIte, Nat.reduceAdd, Nat.reduceMul, Nat.reduceLT, Nat.reduceBEq, Nat.reduceLeDiff, Nat.reduceEqDiff, Int.reduceToNat])) | (refine callH_intro (fun hcc => impl_CheckMark_ok _ _ _ _ hcl) ?_; try (simp (disch := exact eqId (by kernel_rfl)) only [go_sem, ↓reduceIte, Nat.reduceAdd, Nat.reduceMul, Nat.reduceLT, Nat.reduceBEq, Nat.reduceLeDiff, Nat.reduceEqDiff, Int.reduceToNat])))
  all_goals (try omega)
  · rename_i h
    rcases h with h | h
    · exact bef_asym _ _ _ _ _ _ h.1 h.2
    · exact h (bef_eq (dPB b hb).1 (dPB b hb).2)
  · cases hc : cpF (dCP b hb).1 (dCP b hb).2 with
    | false => exact .inl rfl
    | true =>
      have h2 := hc
      unfold cpF at h2
      rw [Bool.and_eq_true] at h2
      exact .inr ⟨shape_kind h2.1, h2.2⟩
end Go.Proofs.YtchefiaimblieaaGreat
