/- What draws of stamps, mandates and pieces answer. It proves nothing of a statement by itself. -/
import Derived.Test.YtgelnbhmalgliaaGreatB5
set_option linter.unusedSimpArgs false
set_option linter.unusedVariables false
set_option maxRecDepth 100000
namespace Go.Proofs.YtgelnbhmalgliaaGreat
open Go.AL
def A4 : List tAuthority.den := [(1, 31, 1, ()), (2, 32, 2, ()), (3, 33, 1, ()), (4, 34, 0, ())]
def isM (x : tMandate.den) : Bool := inB x.1 1 99 && inB x.2.1 0 99 && inB x.2.2.2.2.1 1 99 && spB (x.2.2.1, x.2.2.2.1, ())
def mmF (ks : List tKey.den) (x : tMandate.den) : tMandate.den × Bool := if isM x = false ∨ fnK ks x.2.2.2.2.1 < 0 then (tMandate.dflt, false) else ((x.1, x.2.1, x.2.2.1, x.2.2.2.1, x.2.2.2.2.1, mwF (ks.getD (fnK ks x.2.2.2.2.1).toNat tKey.dflt) [105, x.1, x.2.1, x.2.2.1, x.2.2.2.1, x.2.2.2.2.1], ()), true)
theorem mmF_y {ks : List tKey.den} {x : tMandate.den} (h : isM x = false ∨ fnK ks x.2.2.2.2.1 < 0) : mmF ks x = (tMandate.dflt, false) := if_pos h
theorem mmF_n {ks : List tKey.den} {x : tMandate.den} (h : isM x = true ∧ ¬ fnK ks x.2.2.2.2.1 < 0) : mmF ks x = ((x.1, x.2.1, x.2.2.1, x.2.2.2.1, x.2.2.2.2.1, mwF (ks.getD (fnK ks x.2.2.2.2.1).toNat tKey.dflt) [105, x.1, x.2.1, x.2.2.1, x.2.2.2.1, x.2.2.2.2.1], ()), true) := if_neg (by simp only [not_or, Bool.not_eq_false]; exact h)
def d11 (s : Cu) : tStamp.den × Cu :=
  let a := dB s 4
  let q := dB a.2 9
  let t := dB q.2 60
  let e := dB t.2 99
  ((mksF K8 A4 (IntKind.i64.wrap (1 + a.1), q.1, t.1, e.1, 0, ())).1, e.2)
def d11B (s : Cu) : tStamp.den × Cu :=
  let x := d11 s
  let k := dB x.2 9
  if k.1 = 0 then (setF tStamp x.1 0 (dB k.2 6).1, (dB k.2 6).2)
  else if k.1 = 1 then (setF tStamp x.1 1 (dI k.2 [-1, 3]).1, (dI k.2 [-1, 3]).2)
  else if k.1 = 2 then (setF tStamp x.1 2 (dR k.2).1, (dR k.2).2)
  else if k.1 = 3 then (setF tStamp x.1 3 (IntKind.i64.wrap (x.1.2.2.2.1 + 1)), k.2)
  else if k.1 = 4 then (setF tStamp x.1 4 (IntKind.i64.wrap (x.1.2.2.2.2.1 + 1)), k.2)
  else (x.1, k.2)
def d15 (s : Cu) : tMandate.den × Cu :=
  let f := dB s 40
  let p := dB f.2 2
  let t := dB p.2 30
  ((mmF K8 (50, IntKind.i64.wrap (1 + p.1), f.1, IntKind.i64.wrap (f.1 + t.1), 21, 0, ())).1, t.2)
def d15A (s : Cu) : tMandate.den × Cu :=
  let x := d15 s
  let k := dB x.2 9
  if k.1 = 0 then (setF tMandate x.1 0 (dI k.2 [0, 51, 100]).1, (dI k.2 [0, 51, 100]).2)
  else if k.1 = 1 then (setF tMandate x.1 1 (dI k.2 [-1, 2, 100]).1, (dI k.2 [-1, 2, 100]).2)
  else if k.1 = 2 then (setF tMandate x.1 3 (dR k.2).1, (dR k.2).2)
  else if k.1 = 3 then (setF tMandate x.1 4 (dN k.2).1, (dN k.2).2)
  else if k.1 = 4 then (setF tMandate x.1 5 (IntKind.i64.wrap (x.1.2.2.2.2.2.1 + 1)), k.2)
  else (x.1, k.2)
def d18D (s : Cu) : tPiece.den × Cu :=
  let k := dB s 5
  if k.1 = 0 then
    let j := dB k.2 3
    let x := C3.getD j.1.toNat tCert.dflt
    ((x.2.2.2.2.2.1, certI x, x.2.2.2.2.2.2.1, ()), j.2)
  else if k.1 = 1 then
    let x := d10D k.2
    ((x.1.2.2.2.1, [102, x.1.1, x.1.2.1, x.1.2.2.1, x.1.2.2.2.1], x.1.2.2.2.2.1, ()), x.2)
  else if k.1 = 2 then
    let x := d11 k.2
    ((skyF A4 x.1, [103, x.1.1, x.1.2.1, x.1.2.2.1, x.1.2.2.2.1], x.1.2.2.2.2.1, ()), x.2)
  else if k.1 = 3 then
    let x := d13 k.2
    ((x.1.1.1, [104, x.1.1.1, x.1.1.2.1, x.1.1.2.2.1, x.1.1.2.2.2.1, x.1.1.2.2.2.2.1, x.1.1.2.2.2.2.2.1, x.1.1.2.2.2.2.2.2.1, x.1.1.2.2.2.2.2.2.2.1], x.1.1.2.2.2.2.2.2.2.2.1, ()), x.2)
  else
    let x := d15 k.2
    ((x.1.2.2.2.2.1, [105, x.1.1, x.1.2.1, x.1.2.2.1, x.1.2.2.2.1, x.1.2.2.2.2.1], x.1.2.2.2.2.2.1, ()), x.2)
theorem d18D_len (s : Cu) : 5 ≤ (d18D s).1.2.1.length ∧ (d18D s).1.2.1.length ≤ 9 := by
  unfold d18D
  simp only
  repeat' split
  all_goals (simp only [List.length_cons, List.length_nil, certI]; omega)
def d18 (s : Cu) : tPiece.den × Cu :=
  let p := d18D s
  let k := dB p.2 8
  if k.1 = 0 then (((dN k.2).1, p.1.2.1, p.1.2.2.1, ()), (dN k.2).2)
  else if k.1 = 1 then ((p.1.1, p.1.2.1 ++ [5], p.1.2.2.1, ()), k.2)
  else if k.1 = 2 then ((p.1.1, p.1.2.1, IntKind.i64.wrap (p.1.2.2.1 + 1), ()), k.2)
  else if k.1 = 3 then ((p.1.1, p.1.2.1.set 0 (dI k.2 [100, 101, 103, 105, 106, -1]).1, p.1.2.2.1, ()), (dI k.2 [100, 101, 103, 105, 106, -1]).2)
  else if k.1 = 4 then ((p.1.1, p.1.2.1.set 1 (IntKind.i64.wrap (p.1.2.1.getD 1 0 + 1)), p.1.2.2.1, ()), k.2)
  else (p.1, k.2)
theorem l11Authorities_ok : FunOK Tryz.prog 22 [] (.own 84 tAuthority A4) := by
  refine fun_of (tb := tb) follows Tryz.func22 (by kernel_rfl) Tryz.ntmps22 rfl rfl rfl ?_; intro cx hN hw
  simp (disch := exact eqId (by kernel_rfl)) only [go_sem, ↓reduceIte, Nat.reduceAdd, Nat.reduceMul, Nat.reduceLT, Nat.reduceBEq, Nat.reduceLeDiff, Nat.reduceEqDiff, Int.reduceToNat]
  try rfl
theorem spec_IsMandate_ok (x : tMandate.den) : FunOK Tryz.prog 96 [⟨tMandate, x⟩] (.rd .bool (isM x)) := by
  refine fun_of (tb := tb) follows Tryz.func96 (by kernel_rfl) Tryz.ntmps96 rfl rfl rfl ?_; intro cx hN hw
  simp (disch := exact eqId (by kernel_rfl)) only [go_sem, ↓reduceIte, Nat.reduceAdd, Nat.reduceMul, Nat.reduceLT, Nat.reduceBEq, Nat.reduceLeDiff, Nat.reduceEqDiff, Int.reduceToNat]
  repeat' (first | (refine And.intro ?_ ?_) | intro _ | (refine callQ_intro (l1In_ok _ _ _) ?_; try (simp (disch := exact eqId (by kernel_rfl)) only [go_sem, ↓reduceIte, Nat.reduceAdd, Nat.reduceMul, Nat.reduceLT, Nat.reduceBEq, Nat.reduceLeDiff, Nat.reduceEqDiff, Int.reduceToNat])) | (refine callH_intro (fun hcc => l1In_ok _ _ _) ?_; try (simp (disch := exact eqId (by kernel_rfl)) only [go_sem, ↓reduceIte, Nat.reduceAdd, Nat.reduceMul, Nat.reduceLT, Nat.reduceBEq, Nat.reduceLeDiff, Nat.reduceEqDiff, Int.reduceToNat])) | (refine callQ_intro (spec_IsSpan_ok _) ?_; try (simp (disch := exact eqId (by kernel_rfl)) only [go_sem, ↓reduceIte, Nat.reduceAdd, Nat.reduceMul, Nat.reduceLT, Nat.reduceBEq, Nat.reduceLeDiff, Nat.reduceEqDiff, Int.reduceToNat])) | (refine callH_intro (fun hcc => spec_IsSpan_ok _) ?_; try (simp (disch := exact eqId (by kernel_rfl)) only [go_sem, ↓reduceIte, Nat.reduceAdd, Nat.reduceMul, Nat.reduceLT, Nat.reduceBEq, Nat.reduceLeDiff, Nat.reduceEqDiff, Int.reduceToNat])))
  all_goals (try rfl)
  all_goals (try (simp_all [isM, inB]; done))
  all_goals (try trace_state)
theorem spec_MakeMandate_ok (ks : List tKey.den) (x : tMandate.den) : FunOK Tryz.prog 89 [⟨(.list tKey), ks⟩, ⟨tMandate, x⟩] (.tup [.rd tMandate (mmF ks x).1, .rd .bool (mmF ks x).2]) := by
  have hf1 := fnK_lt ks x.2.2.2.2.1
  refine fun_of (tb := tb) follows Tryz.func89 (by kernel_rfl) Tryz.ntmps89 rfl rfl rfl ?_; intro cx hN hw
  simp (disch := exact eqId (by kernel_rfl)) only [go_sem, ↓reduceIte, Nat.reduceAdd, Nat.reduceMul, Nat.reduceLT, Nat.reduceBEq, Nat.reduceLeDiff, Nat.reduceEqDiff, Int.reduceToNat]
  repeat' (first | (refine And.intro ?_ ?_) | intro _ | (refine callQ_intro (spec_FindK_ok _ _) ?_; try (simp (disch := exact eqId (by kernel_rfl)) only [go_sem, ↓reduceIte, Nat.reduceAdd, Nat.reduceMul, Nat.reduceLT, Nat.reduceBEq, Nat.reduceLeDiff, Nat.reduceEqDiff, Int.reduceToNat])) | (refine callH_intro (fun hcc => spec_FindK_ok _ _) ?_; try (simp (disch := exact eqId (by kernel_rfl)) only [go_sem, ↓reduceIte, Nat.reduceAdd, Nat.reduceMul, Nat.reduceLT, Nat.reduceBEq, Nat.reduceLeDiff, Nat.reduceEqDiff, Int.reduceToNat])) | (refine callQ_intro (spec_IsMandate_ok _) ?_; try (simp (disch := exact eqId (by kernel_rfl)) only [go_sem, ↓reduceIte, Nat.reduceAdd, Nat.reduceMul, Nat.reduceLT, Nat.reduceBEq, Nat.reduceLeDiff, Nat.reduceEqDiff, Int.reduceToNat])) | (refine callH_intro (fun hcc => spec_IsMandate_ok _) ?_; try (simp (disch := exact eqId (by kernel_rfl)) only [go_sem, ↓reduceIte, Nat.reduceAdd, Nat.reduceMul, Nat.reduceLT, Nat.reduceBEq, Nat.reduceLeDiff, Nat.reduceEqDiff, Int.reduceToNat])) | (refine callQ_intro (spec_MandateInts_ok _) ?_; try (simp (disch := exact eqId (by kernel_rfl)) only [go_sem, ↓reduceIte, Nat.reduceAdd, Nat.reduceMul, Nat.reduceLT, Nat.reduceBEq, Nat.reduceLeDiff, Nat.reduceEqDiff, Int.reduceToNat])) | (refine callH_intro (fun hcc => spec_MandateInts_ok _) ?_; try (simp (disch := exact eqId (by kernel_rfl)) only [go_sem, ↓reduceIte, Nat.reduceAdd, Nat.reduceMul, Nat.reduceLT, Nat.reduceBEq, Nat.reduceLeDiff, Nat.reduceEqDiff, Int.reduceToNat])) | (refine callQ_intro (spec_MarkWith_ok _ _ (show (List.length _) ≤ 1073741823 by simp)) ?_; try (simp (disch := exact eqId (by kernel_rfl)) only [go_sem, ↓reduceIte, Nat.reduceAdd, Nat.reduceMul, Nat.reduceLT, Nat.reduceBEq, Nat.reduceLeDiff, Nat.reduceEqDiff, Int.reduceToNat])) | (refine callH_intro (fun hcc => spec_MarkWith_ok _ _ (show (List.length _) ≤ 1073741823 by simp)) ?_; try (simp (disch := exact eqId (by kernel_rfl)) only [go_sem, ↓reduceIte, Nat.reduceAdd, Nat.reduceMul, Nat.reduceLT, Nat.reduceBEq, Nat.reduceLeDiff, Nat.reduceEqDiff, Int.reduceToNat])))
  all_goals (try omega)
  all_goals (rename_i hc; first | exact (congrArg Prod.fst (mmF_y hc)).symm | exact (congrArg Prod.snd (mmF_y hc)).symm | exact (congrArg Prod.fst (mmF_n hc)).symm | exact (congrArg Prod.snd (mmF_n hc)).symm | trace_state)
theorem l11Stamp_ok (s : Cu)  : MutOK Tryz.prog 53 [none] [.obj (.box 76 [.rd (.list (.int .u8)) (s).b, .rd I (s).i, .rd I (s).h])] (.rd tStamp (d11 s).1) [.box 76 [.rd (.list (.int .u8)) ((d11 s).2).b, .rd I ((d11 s).2).i, .rd I ((d11 s).2).h]] := by
  refine fun_ofM (tb := tb) follows Tryz.func53 (by kernel_rfl) Tryz.ntmps53 rfl rfl (by simp [shOK]) rfl ?_; intro cx hN hw
  simp (disch := exact eqId (by kernel_rfl)) only [go_sem, ↓reduceIte, Nat.reduceAdd, Nat.reduceMul, Nat.reduceLT, Nat.reduceBEq, Nat.reduceLeDiff, Nat.reduceEqDiff, Int.reduceToNat]
  repeat' (first | (refine And.intro ?_ ?_) | intro _ | (refine callM_intro (dB_ok _ _) ⟨⟨trivial, by decide⟩, rfl, rfl⟩ ?_; try (simp (disch := exact eqId (by kernel_rfl)) only [go_sem, ↓reduceIte, Nat.reduceAdd, Nat.reduceMul, Nat.reduceLT, Nat.reduceBEq, Nat.reduceLeDiff, Nat.reduceEqDiff, Int.reduceToNat])) | (refine callQ_intro (l8Keys_ok) ?_; try (simp (disch := exact eqId (by kernel_rfl)) only [go_sem, ↓reduceIte, Nat.reduceAdd, Nat.reduceMul, Nat.reduceLT, Nat.reduceBEq, Nat.reduceLeDiff, Nat.reduceEqDiff, Int.reduceToNat])) | (refine callH_intro (fun hcc => l8Keys_ok) ?_; try (simp (disch := exact eqId (by kernel_rfl)) only [go_sem, ↓reduceIte, Nat.reduceAdd, Nat.reduceMul, Nat.reduceLT, Nat.reduceBEq, Nat.reduceLeDiff, Nat.reduceEqDiff, Int.reduceToNat])) | (refine callQ_intro (l11Authorities_ok) ?_; try (simp (disch := exact eqId (by kernel_rfl)) only [go_sem, ↓reduceIte, Nat.reduceAdd, Nat.reduceMul, Nat.reduceLT, Nat.reduceBEq, Nat.reduceLeDiff, Nat.reduceEqDiff, Int.reduceToNat])) | (refine callH_intro (fun hcc => l11Authorities_ok) ?_; try (simp (disch := exact eqId (by kernel_rfl)) only [go_sem, ↓reduceIte, Nat.reduceAdd, Nat.reduceMul, Nat.reduceLT, Nat.reduceBEq, Nat.reduceLeDiff, Nat.reduceEqDiff, Int.reduceToNat])) | (refine callQ_intro (spec_MakeStamp_ok _ _ _) ?_; try (simp (disch := exact eqId (by kernel_rfl)) only [go_sem, ↓reduceIte, Nat.reduceAdd, Nat.reduceMul, Nat.reduceLT, Nat.reduceBEq, Nat.reduceLeDiff, Nat.reduceEqDiff, Int.reduceToNat])) | (refine callH_intro (fun hcc => spec_MakeStamp_ok _ _ _) ?_; try (simp (disch := exact eqId (by kernel_rfl)) only [go_sem, ↓reduceIte, Nat.reduceAdd, Nat.reduceMul, Nat.reduceLT, Nat.reduceBEq, Nat.reduceLeDiff, Nat.reduceEqDiff, Int.reduceToNat])))
  all_goals (try omega)
  all_goals (try (show Nat.ble _ _ = true; rfl))
  all_goals (try (unfold d11; simp only [*, ↓reduceIte]; done))
  all_goals (try (unfold d11; simp only [*, ↓reduceIte]; first | rfl | exact ⟨rfl, rfl⟩ | exact ⟨rfl, rfl, rfl⟩))
theorem l11Bent_ok (s : Cu)  : MutOK Tryz.prog 41 [none] [.obj (.box 76 [.rd (.list (.int .u8)) (s).b, .rd I (s).i, .rd I (s).h])] (.rd tStamp (d11B s).1) [.box 76 [.rd (.list (.int .u8)) ((d11B s).2).b, .rd I ((d11B s).2).i, .rd I ((d11B s).2).h]] := by
  refine fun_ofM (tb := tb) follows Tryz.func41 (by kernel_rfl) Tryz.ntmps41 rfl rfl (by simp [shOK]) rfl ?_; intro cx hN hw
  simp (disch := exact eqId (by kernel_rfl)) only [go_sem, ↓reduceIte, Nat.reduceAdd, Nat.reduceMul, Nat.reduceLT, Nat.reduceBEq, Nat.reduceLeDiff, Nat.reduceEqDiff, Int.reduceToNat]
  repeat' (first | (refine And.intro ?_ ?_) | intro _ | (refine callM_intro (dI_ok _ [-1, 3] (by decide)) ⟨⟨trivial, by decide⟩, rfl, rfl⟩ ?_; try (simp (disch := exact eqId (by kernel_rfl)) only [go_sem, ↓reduceIte, Nat.reduceAdd, Nat.reduceMul, Nat.reduceLT, Nat.reduceBEq, Nat.reduceLeDiff, Nat.reduceEqDiff, Int.reduceToNat])) | (refine callM_intro (l11Stamp_ok _) ⟨⟨trivial, by decide⟩, rfl, rfl⟩ ?_; try (simp (disch := exact eqId (by kernel_rfl)) only [go_sem, ↓reduceIte, Nat.reduceAdd, Nat.reduceMul, Nat.reduceLT, Nat.reduceBEq, Nat.reduceLeDiff, Nat.reduceEqDiff, Int.reduceToNat])) | (refine callM_intro (l4Raw_ok _) ⟨⟨trivial, by decide⟩, rfl, rfl⟩ ?_; try (simp (disch := exact eqId (by kernel_rfl)) only [go_sem, ↓reduceIte, Nat.reduceAdd, Nat.reduceMul, Nat.reduceLT, Nat.reduceBEq, Nat.reduceLeDiff, Nat.reduceEqDiff, Int.reduceToNat])) | (refine callM_intro (dB_ok _ _) ⟨⟨trivial, by decide⟩, rfl, rfl⟩ ?_; try (simp (disch := exact eqId (by kernel_rfl)) only [go_sem, ↓reduceIte, Nat.reduceAdd, Nat.reduceMul, Nat.reduceLT, Nat.reduceBEq, Nat.reduceLeDiff, Nat.reduceEqDiff, Int.reduceToNat])))
  all_goals (try omega)
  all_goals (try (show Nat.ble _ _ = true; rfl))
  all_goals (try (unfold d11B; simp only [*, ↓reduceIte]; done))
  all_goals (try (unfold d11B; simp only [*, ↓reduceIte]; first | rfl | exact ⟨rfl, rfl⟩ | exact ⟨rfl, rfl, rfl⟩))
theorem l15Draw_ok (s : Cu)  : MutOK Tryz.prog 77 [none] [.obj (.box 76 [.rd (.list (.int .u8)) (s).b, .rd I (s).i, .rd I (s).h])] (.rd tMandate (d15 s).1) [.box 76 [.rd (.list (.int .u8)) ((d15 s).2).b, .rd I ((d15 s).2).i, .rd I ((d15 s).2).h]] := by
  refine fun_ofM (tb := tb) follows Tryz.func77 (by kernel_rfl) Tryz.ntmps77 rfl rfl (by simp [shOK]) rfl ?_; intro cx hN hw
  simp (disch := exact eqId (by kernel_rfl)) only [go_sem, ↓reduceIte, Nat.reduceAdd, Nat.reduceMul, Nat.reduceLT, Nat.reduceBEq, Nat.reduceLeDiff, Nat.reduceEqDiff, Int.reduceToNat]
  repeat' (first | (refine And.intro ?_ ?_) | intro _ | (refine callM_intro (dB_ok _ _) ⟨⟨trivial, by decide⟩, rfl, rfl⟩ ?_; try (simp (disch := exact eqId (by kernel_rfl)) only [go_sem, ↓reduceIte, Nat.reduceAdd, Nat.reduceMul, Nat.reduceLT, Nat.reduceBEq, Nat.reduceLeDiff, Nat.reduceEqDiff, Int.reduceToNat])) | (refine callQ_intro (l8Keys_ok) ?_; try (simp (disch := exact eqId (by kernel_rfl)) only [go_sem, ↓reduceIte, Nat.reduceAdd, Nat.reduceMul, Nat.reduceLT, Nat.reduceBEq, Nat.reduceLeDiff, Nat.reduceEqDiff, Int.reduceToNat])) | (refine callH_intro (fun hcc => l8Keys_ok) ?_; try (simp (disch := exact eqId (by kernel_rfl)) only [go_sem, ↓reduceIte, Nat.reduceAdd, Nat.reduceMul, Nat.reduceLT, Nat.reduceBEq, Nat.reduceLeDiff, Nat.reduceEqDiff, Int.reduceToNat])) | (refine callQ_intro (spec_MakeMandate_ok _ _) ?_; try (simp (disch := exact eqId (by kernel_rfl)) only [go_sem, ↓reduceIte, Nat.reduceAdd, Nat.reduceMul, Nat.reduceLT, Nat.reduceBEq, Nat.reduceLeDiff, Nat.reduceEqDiff, Int.reduceToNat])) | (refine callH_intro (fun hcc => spec_MakeMandate_ok _ _) ?_; try (simp (disch := exact eqId (by kernel_rfl)) only [go_sem, ↓reduceIte, Nat.reduceAdd, Nat.reduceMul, Nat.reduceLT, Nat.reduceBEq, Nat.reduceLeDiff, Nat.reduceEqDiff, Int.reduceToNat])))
  all_goals (try omega)
  all_goals (try (show Nat.ble _ _ = true; rfl))
  all_goals (try (unfold d15; simp only [*, ↓reduceIte]; done))
  all_goals (try (unfold d15; simp only [*, ↓reduceIte]; first | rfl | exact ⟨rfl, rfl⟩ | exact ⟨rfl, rfl, rfl⟩))
theorem l18Draw_ok (s : Cu)  : MutOK Tryz.prog 57 [none] [.obj (.box 76 [.rd (.list (.int .u8)) (s).b, .rd I (s).i, .rd I (s).h])] (.agg [.rd I (d18D s).1.1, .own 3 I (d18D s).1.2.1, .rd I (d18D s).1.2.2.1]) [.box 76 [.rd (.list (.int .u8)) ((d18D s).2).b, .rd I ((d18D s).2).i, .rd I ((d18D s).2).h]] := by
  have h1 := dB_in (dB s 5).2 (n := 3) (by decide)
  have hl : C3.length = 3 := rfl
  refine fun_ofM (tb := tb) follows Tryz.func57 (by kernel_rfl) Tryz.ntmps57 rfl rfl (by simp [shOK]) rfl ?_; intro cx hN hw
  simp (disch := exact eqId (by kernel_rfl)) only [go_sem, ↓reduceIte, Nat.reduceAdd, Nat.reduceMul, Nat.reduceLT, Nat.reduceBEq, Nat.reduceLeDiff, Nat.reduceEqDiff, Int.reduceToNat]
  repeat' (first | (refine And.intro ?_ ?_) | intro _ | (refine callM_intro (l10Draw_ok _) ⟨⟨trivial, by decide⟩, rfl, rfl⟩ ?_; try (simp (disch := exact eqId (by kernel_rfl)) only [go_sem, ↓reduceIte, Nat.reduceAdd, Nat.reduceMul, Nat.reduceLT, Nat.reduceBEq, Nat.reduceLeDiff, Nat.reduceEqDiff, Int.reduceToNat])) | (refine callM_intro (l11Stamp_ok _) ⟨⟨trivial, by decide⟩, rfl, rfl⟩ ?_; try (simp (disch := exact eqId (by kernel_rfl)) only [go_sem, ↓reduceIte, Nat.reduceAdd, Nat.reduceMul, Nat.reduceLT, Nat.reduceBEq, Nat.reduceLeDiff, Nat.reduceEqDiff, Int.reduceToNat])) | (refine callM_intro (l13Draw_ok _) ⟨⟨trivial, by decide⟩, rfl, rfl⟩ ?_; try (simp (disch := exact eqId (by kernel_rfl)) only [go_sem, ↓reduceIte, Nat.reduceAdd, Nat.reduceMul, Nat.reduceLT, Nat.reduceBEq, Nat.reduceLeDiff, Nat.reduceEqDiff, Int.reduceToNat])) | (refine callM_intro (l15Draw_ok _) ⟨⟨trivial, by decide⟩, rfl, rfl⟩ ?_; try (simp (disch := exact eqId (by kernel_rfl)) only [go_sem, ↓reduceIte, Nat.reduceAdd, Nat.reduceMul, Nat.reduceLT, Nat.reduceBEq, Nat.reduceLeDiff, Nat.reduceEqDiff, Int.reduceToNat])) | (refine callM_intro (dB_ok _ _) ⟨⟨trivial, by decide⟩, rfl, rfl⟩ ?_; try (simp (disch := exact eqId (by kernel_rfl)) only [go_sem, ↓reduceIte, Nat.reduceAdd, Nat.reduceMul, Nat.reduceLT, Nat.reduceBEq, Nat.reduceLeDiff, Nat.reduceEqDiff, Int.reduceToNat])) | (refine callQ_intro (l9Certs_ok) ?_; try (simp (disch := exact eqId (by kernel_rfl)) only [go_sem, ↓reduceIte, Nat.reduceAdd, Nat.reduceMul, Nat.reduceLT, Nat.reduceBEq, Nat.reduceLeDiff, Nat.reduceEqDiff, Int.reduceToNat])) | (refine callH_intro (fun hcc => l9Certs_ok) ?_; try (simp (disch := exact eqId (by kernel_rfl)) only [go_sem, ↓reduceIte, Nat.reduceAdd, Nat.reduceMul, Nat.reduceLT, Nat.reduceBEq, Nat.reduceLeDiff, Nat.reduceEqDiff, Int.reduceToNat])) | (refine callQ_intro (l11Authorities_ok) ?_; try (simp (disch := exact eqId (by kernel_rfl)) only [go_sem, ↓reduceIte, Nat.reduceAdd, Nat.reduceMul, Nat.reduceLT, Nat.reduceBEq, Nat.reduceLeDiff, Nat.reduceEqDiff, Int.reduceToNat])) | (refine callH_intro (fun hcc => l11Authorities_ok) ?_; try (simp (disch := exact eqId (by kernel_rfl)) only [go_sem, ↓reduceIte, Nat.reduceAdd, Nat.reduceMul, Nat.reduceLT, Nat.reduceBEq, Nat.reduceLeDiff, Nat.reduceEqDiff, Int.reduceToNat])) | (refine callQ_intro (spec_CertPiece_ok _) ?_; try (simp (disch := exact eqId (by kernel_rfl)) only [go_sem, ↓reduceIte, Nat.reduceAdd, Nat.reduceMul, Nat.reduceLT, Nat.reduceBEq, Nat.reduceLeDiff, Nat.reduceEqDiff, Int.reduceToNat])) | (refine callH_intro (fun hcc => spec_CertPiece_ok _) ?_; try (simp (disch := exact eqId (by kernel_rfl)) only [go_sem, ↓reduceIte, Nat.reduceAdd, Nat.reduceMul, Nat.reduceLT, Nat.reduceBEq, Nat.reduceLeDiff, Nat.reduceEqDiff, Int.reduceToNat])) | (refine callQ_intro (spec_StatusPiece_ok _) ?_; try (simp (disch := exact eqId (by kernel_rfl)) only [go_sem, ↓reduceIte, Nat.reduceAdd, Nat.reduceMul, Nat.reduceLT, Nat.reduceBEq, Nat.reduceLeDiff, Nat.reduceEqDiff, Int.reduceToNat])) | (refine callH_intro (fun hcc => spec_StatusPiece_ok _) ?_; try (simp (disch := exact eqId (by kernel_rfl)) only [go_sem, ↓reduceIte, Nat.reduceAdd, Nat.reduceMul, Nat.reduceLT, Nat.reduceBEq, Nat.reduceLeDiff, Nat.reduceEqDiff, Int.reduceToNat])) | (refine callQ_intro (spec_StampKey_ok _ _) ?_; try (simp (disch := exact eqId (by kernel_rfl)) only [go_sem, ↓reduceIte, Nat.reduceAdd, Nat.reduceMul, Nat.reduceLT, Nat.reduceBEq, Nat.reduceLeDiff, Nat.reduceEqDiff, Int.reduceToNat])) | (refine callH_intro (fun hcc => spec_StampKey_ok _ _) ?_; try (simp (disch := exact eqId (by kernel_rfl)) only [go_sem, ↓reduceIte, Nat.reduceAdd, Nat.reduceMul, Nat.reduceLT, Nat.reduceBEq, Nat.reduceLeDiff, Nat.reduceEqDiff, Int.reduceToNat])) | (refine callQ_intro (spec_StampPiece_ok _ _) ?_; try (simp (disch := exact eqId (by kernel_rfl)) only [go_sem, ↓reduceIte, Nat.reduceAdd, Nat.reduceMul, Nat.reduceLT, Nat.reduceBEq, Nat.reduceLeDiff, Nat.reduceEqDiff, Int.reduceToNat])) | (refine callH_intro (fun hcc => spec_StampPiece_ok _ _) ?_; try (simp (disch := exact eqId (by kernel_rfl)) only [go_sem, ↓reduceIte, Nat.reduceAdd, Nat.reduceMul, Nat.reduceLT, Nat.reduceBEq, Nat.reduceLeDiff, Nat.reduceEqDiff, Int.reduceToNat])) | (refine callQ_intro (spec_SignPiece_ok _) ?_; try (simp (disch := exact eqId (by kernel_rfl)) only [go_sem, ↓reduceIte, Nat.reduceAdd, Nat.reduceMul, Nat.reduceLT, Nat.reduceBEq, Nat.reduceLeDiff, Nat.reduceEqDiff, Int.reduceToNat])) | (refine callH_intro (fun hcc => spec_SignPiece_ok _) ?_; try (simp (disch := exact eqId (by kernel_rfl)) only [go_sem, ↓reduceIte, Nat.reduceAdd, Nat.reduceMul, Nat.reduceLT, Nat.reduceBEq, Nat.reduceLeDiff, Nat.reduceEqDiff, Int.reduceToNat])) | (refine callQ_intro (spec_MandatePiece_ok _) ?_; try (simp (disch := exact eqId (by kernel_rfl)) only [go_sem, ↓reduceIte, Nat.reduceAdd, Nat.reduceMul, Nat.reduceLT, Nat.reduceBEq, Nat.reduceLeDiff, Nat.reduceEqDiff, Int.reduceToNat])) | (refine callH_intro (fun hcc => spec_MandatePiece_ok _) ?_; try (simp (disch := exact eqId (by kernel_rfl)) only [go_sem, ↓reduceIte, Nat.reduceAdd, Nat.reduceMul, Nat.reduceLT, Nat.reduceBEq, Nat.reduceLeDiff, Nat.reduceEqDiff, Int.reduceToNat])))
  all_goals (try omega)
  all_goals (try (show Nat.ble _ _ = true; rfl))
  all_goals (try (unfold d18D; simp only [*, ↓reduceIte]; done))
  all_goals (try (unfold d18D; simp only [*, ↓reduceIte]; first | rfl | exact ⟨rfl, rfl⟩ | exact ⟨rfl, rfl, rfl⟩))
theorem spec_CertPiece_fr (x : tCert.den) : FunOK Tryz.prog 68 [⟨tCert, x⟩] (.agg [.rd I (x.2.2.2.2.2.1), .fresh 3 I [101, x.1, x.2.1, x.2.2.1, x.2.2.2.1, x.2.2.2.2.1, x.2.2.2.2.2.1], .rd I (x.2.2.2.2.2.2.1)]) := (spec_CertPiece_ok x).fr rfl
theorem spec_StatusPiece_fr (x : tStatus.den) : FunOK Tryz.prog 70 [⟨tStatus, x⟩] (.agg [.rd I (x.2.2.2.1), .fresh 3 I [102, x.1, x.2.1, x.2.2.1, x.2.2.2.1], .rd I (x.2.2.2.2.1)]) := (spec_StatusPiece_ok x).fr rfl
theorem spec_StampPiece_fr (key : Int) (x : tStamp.den) : FunOK Tryz.prog 72 [⟨I, key⟩, ⟨tStamp, x⟩] (.agg [.rd I (key), .fresh 3 I [103, x.1, x.2.1, x.2.2.1, x.2.2.2.1], .rd I (x.2.2.2.2.1)]) := (spec_StampPiece_ok key x).fr rfl
theorem spec_SignPiece_fr (x : tSignature.den) : FunOK Tryz.prog 75 [⟨tSignature, x⟩] (.agg [.rd I (x.1), .fresh 3 I [104, x.1, x.2.1, x.2.2.1, x.2.2.2.1, x.2.2.2.2.1, x.2.2.2.2.2.1, x.2.2.2.2.2.2.1, x.2.2.2.2.2.2.2.1], .rd I (x.2.2.2.2.2.2.2.2.1)]) := (spec_SignPiece_ok x).fr rfl
theorem spec_MandatePiece_fr (x : tMandate.den) : FunOK Tryz.prog 76 [⟨tMandate, x⟩] (.agg [.rd I (x.2.2.2.2.1), .fresh 3 I [105, x.1, x.2.1, x.2.2.1, x.2.2.2.1, x.2.2.2.2.1], .rd I (x.2.2.2.2.2.1)]) := (spec_MandatePiece_ok x).fr rfl
theorem l18Draw_fr (s : Cu)  : MutOK Tryz.prog 57 [none] [.obj (.box 76 [.rd (.list (.int .u8)) (s).b, .rd I (s).i, .rd I (s).h])] (.agg [.rd I (d18D s).1.1, .fresh 3 I (d18D s).1.2.1, .rd I (d18D s).1.2.2.1]) [.box 76 [.rd (.list (.int .u8)) ((d18D s).2).b, .rd I ((d18D s).2).i, .rd I ((d18D s).2).h]] := by
  have h1 := dB_in (dB s 5).2 (n := 3) (by decide)
  have hl : C3.length = 3 := rfl
  refine fun_ofM (tb := tb) follows Tryz.func57 (by kernel_rfl) Tryz.ntmps57 rfl rfl (by simp [shOK]) rfl ?_; intro cx hN hw
  simp (disch := exact eqId (by kernel_rfl)) only [go_sem, ↓reduceIte, Nat.reduceAdd, Nat.reduceMul, Nat.reduceLT, Nat.reduceBEq, Nat.reduceLeDiff, Nat.reduceEqDiff, Int.reduceToNat]
  repeat' (first | (refine And.intro ?_ ?_) | intro _ | (refine callM_intro (l10Draw_ok _) ⟨⟨trivial, by decide⟩, rfl, rfl⟩ ?_; try (simp (disch := exact eqId (by kernel_rfl)) only [go_sem, ↓reduceIte, Nat.reduceAdd, Nat.reduceMul, Nat.reduceLT, Nat.reduceBEq, Nat.reduceLeDiff, Nat.reduceEqDiff, Int.reduceToNat])) | (refine callM_intro (l11Stamp_ok _) ⟨⟨trivial, by decide⟩, rfl, rfl⟩ ?_; try (simp (disch := exact eqId (by kernel_rfl)) only [go_sem, ↓reduceIte, Nat.reduceAdd, Nat.reduceMul, Nat.reduceLT, Nat.reduceBEq, Nat.reduceLeDiff, Nat.reduceEqDiff, Int.reduceToNat])) | (refine callM_intro (l13Draw_ok _) ⟨⟨trivial, by decide⟩, rfl, rfl⟩ ?_; try (simp (disch := exact eqId (by kernel_rfl)) only [go_sem, ↓reduceIte, Nat.reduceAdd, Nat.reduceMul, Nat.reduceLT, Nat.reduceBEq, Nat.reduceLeDiff, Nat.reduceEqDiff, Int.reduceToNat])) | (refine callM_intro (l15Draw_ok _) ⟨⟨trivial, by decide⟩, rfl, rfl⟩ ?_; try (simp (disch := exact eqId (by kernel_rfl)) only [go_sem, ↓reduceIte, Nat.reduceAdd, Nat.reduceMul, Nat.reduceLT, Nat.reduceBEq, Nat.reduceLeDiff, Nat.reduceEqDiff, Int.reduceToNat])) | (refine callM_intro (dB_ok _ _) ⟨⟨trivial, by decide⟩, rfl, rfl⟩ ?_; try (simp (disch := exact eqId (by kernel_rfl)) only [go_sem, ↓reduceIte, Nat.reduceAdd, Nat.reduceMul, Nat.reduceLT, Nat.reduceBEq, Nat.reduceLeDiff, Nat.reduceEqDiff, Int.reduceToNat])) | (refine callQ_intro (l9Certs_ok) ?_; try (simp (disch := exact eqId (by kernel_rfl)) only [go_sem, ↓reduceIte, Nat.reduceAdd, Nat.reduceMul, Nat.reduceLT, Nat.reduceBEq, Nat.reduceLeDiff, Nat.reduceEqDiff, Int.reduceToNat])) | (refine callH_intro (fun hcc => l9Certs_ok) ?_; try (simp (disch := exact eqId (by kernel_rfl)) only [go_sem, ↓reduceIte, Nat.reduceAdd, Nat.reduceMul, Nat.reduceLT, Nat.reduceBEq, Nat.reduceLeDiff, Nat.reduceEqDiff, Int.reduceToNat])) | (refine callQ_intro (l11Authorities_ok) ?_; try (simp (disch := exact eqId (by kernel_rfl)) only [go_sem, ↓reduceIte, Nat.reduceAdd, Nat.reduceMul, Nat.reduceLT, Nat.reduceBEq, Nat.reduceLeDiff, Nat.reduceEqDiff, Int.reduceToNat])) | (refine callH_intro (fun hcc => l11Authorities_ok) ?_; try (simp (disch := exact eqId (by kernel_rfl)) only [go_sem, ↓reduceIte, Nat.reduceAdd, Nat.reduceMul, Nat.reduceLT, Nat.reduceBEq, Nat.reduceLeDiff, Nat.reduceEqDiff, Int.reduceToNat])) | (refine callQ_intro (spec_CertPiece_fr _) ?_; try (simp (disch := exact eqId (by kernel_rfl)) only [go_sem, ↓reduceIte, Nat.reduceAdd, Nat.reduceMul, Nat.reduceLT, Nat.reduceBEq, Nat.reduceLeDiff, Nat.reduceEqDiff, Int.reduceToNat])) | (refine callH_intro (fun hcc => spec_CertPiece_fr _) ?_; try (simp (disch := exact eqId (by kernel_rfl)) only [go_sem, ↓reduceIte, Nat.reduceAdd, Nat.reduceMul, Nat.reduceLT, Nat.reduceBEq, Nat.reduceLeDiff, Nat.reduceEqDiff, Int.reduceToNat])) | (refine callQ_intro (spec_StatusPiece_fr _) ?_; try (simp (disch := exact eqId (by kernel_rfl)) only [go_sem, ↓reduceIte, Nat.reduceAdd, Nat.reduceMul, Nat.reduceLT, Nat.reduceBEq, Nat.reduceLeDiff, Nat.reduceEqDiff, Int.reduceToNat])) | (refine callH_intro (fun hcc => spec_StatusPiece_fr _) ?_; try (simp (disch := exact eqId (by kernel_rfl)) only [go_sem, ↓reduceIte, Nat.reduceAdd, Nat.reduceMul, Nat.reduceLT, Nat.reduceBEq, Nat.reduceLeDiff, Nat.reduceEqDiff, Int.reduceToNat])) | (refine callQ_intro (spec_StampKey_ok _ _) ?_; try (simp (disch := exact eqId (by kernel_rfl)) only [go_sem, ↓reduceIte, Nat.reduceAdd, Nat.reduceMul, Nat.reduceLT, Nat.reduceBEq, Nat.reduceLeDiff, Nat.reduceEqDiff, Int.reduceToNat])) | (refine callH_intro (fun hcc => spec_StampKey_ok _ _) ?_; try (simp (disch := exact eqId (by kernel_rfl)) only [go_sem, ↓reduceIte, Nat.reduceAdd, Nat.reduceMul, Nat.reduceLT, Nat.reduceBEq, Nat.reduceLeDiff, Nat.reduceEqDiff, Int.reduceToNat])) | (refine callQ_intro (spec_StampPiece_fr _ _) ?_; try (simp (disch := exact eqId (by kernel_rfl)) only [go_sem, ↓reduceIte, Nat.reduceAdd, Nat.reduceMul, Nat.reduceLT, Nat.reduceBEq, Nat.reduceLeDiff, Nat.reduceEqDiff, Int.reduceToNat])) | (refine callH_intro (fun hcc => spec_StampPiece_fr _ _) ?_; try (simp (disch := exact eqId (by kernel_rfl)) only [go_sem, ↓reduceIte, Nat.reduceAdd, Nat.reduceMul, Nat.reduceLT, Nat.reduceBEq, Nat.reduceLeDiff, Nat.reduceEqDiff, Int.reduceToNat])) | (refine callQ_intro (spec_SignPiece_fr _) ?_; try (simp (disch := exact eqId (by kernel_rfl)) only [go_sem, ↓reduceIte, Nat.reduceAdd, Nat.reduceMul, Nat.reduceLT, Nat.reduceBEq, Nat.reduceLeDiff, Nat.reduceEqDiff, Int.reduceToNat])) | (refine callH_intro (fun hcc => spec_SignPiece_fr _) ?_; try (simp (disch := exact eqId (by kernel_rfl)) only [go_sem, ↓reduceIte, Nat.reduceAdd, Nat.reduceMul, Nat.reduceLT, Nat.reduceBEq, Nat.reduceLeDiff, Nat.reduceEqDiff, Int.reduceToNat])) | (refine callQ_intro (spec_MandatePiece_fr _) ?_; try (simp (disch := exact eqId (by kernel_rfl)) only [go_sem, ↓reduceIte, Nat.reduceAdd, Nat.reduceMul, Nat.reduceLT, Nat.reduceBEq, Nat.reduceLeDiff, Nat.reduceEqDiff, Int.reduceToNat])) | (refine callH_intro (fun hcc => spec_MandatePiece_fr _) ?_; try (simp (disch := exact eqId (by kernel_rfl)) only [go_sem, ↓reduceIte, Nat.reduceAdd, Nat.reduceMul, Nat.reduceLT, Nat.reduceBEq, Nat.reduceLeDiff, Nat.reduceEqDiff, Int.reduceToNat])))
  all_goals (try omega)
  all_goals (try (show Nat.ble _ _ = true; rfl))
  all_goals (try (unfold d18D; simp only [*, ↓reduceIte]; done))
  all_goals (try (unfold d18D; simp only [*, ↓reduceIte]; first | rfl | exact ⟨rfl, rfl⟩ | exact ⟨rfl, rfl, rfl⟩))
end Go.Proofs.YtgelnbhmalgliaaGreat
/- What draws of lists of keys, authorities and methods answer, and pieces copied and bent. It proves nothing of a statement by itself. -/
set_option linter.unusedSimpArgs false
set_option linter.unusedVariables false
set_option maxRecDepth 100000
namespace Go.Proofs.YtgelnbhmalgliaaGreat
open Go.AL
def M4 : List tMethod.den := [(1, 0, 40, 50, ()), (2, 20, 80, 70, ()), (3, 40, 120, 200, ()), (4, 60, 10001, 10001, ())]
def d8A (s : Cu) : List tKey.den × Cu :=
  let j := dB s 10
  let k := dB j.2 9
  if k.1 = 0 then (K8.set j.1.toNat (setF tKey (K8.getD j.1.toNat tKey.dflt) 0 (dI k.2 [0, 1, 50, 99, 100]).1), (dI k.2 [0, 1, 50, 99, 100]).2)
  else if k.1 = 1 then (K8.set j.1.toNat (setF tKey (K8.getD j.1.toNat tKey.dflt) 1 (dI k.2 [-1, 5, 100]).1), (dI k.2 [-1, 5, 100]).2)
  else if k.1 = 2 then (K8.set j.1.toNat (setF tKey (K8.getD j.1.toNat tKey.dflt) 4 (dI k.2 [0, 777]).1), (dI k.2 [0, 777]).2)
  else if k.1 = 3 then (K8.set j.1.toNat (setF tKey (K8.getD j.1.toNat tKey.dflt) 3 (dR k.2).1), (dR k.2).2)
  else if k.1 = 4 then (K8.set j.1.toNat (setF tKey (K8.getD j.1.toNat tKey.dflt) 2 (dI k.2 [-1, 0, 99, 100]).1), (dI k.2 [-1, 0, 99, 100]).2)
  else (K8, k.2)
def d11A (s : Cu) : List tAuthority.den × Cu :=
  let j := dB s 4
  let k := dB j.2 8
  if k.1 = 0 then (A4.set j.1.toNat (setF tAuthority (A4.getD j.1.toNat tAuthority.dflt) 0 (dI k.2 [-1, 2, 99, 100]).1), (dI k.2 [-1, 2, 99, 100]).2)
  else if k.1 = 1 then (A4.set j.1.toNat (setF tAuthority (A4.getD j.1.toNat tAuthority.dflt) 1 (dN k.2).1), (dN k.2).2)
  else if k.1 = 2 then (A4.set j.1.toNat (setF tAuthority (A4.getD j.1.toNat tAuthority.dflt) 2 (dI k.2 [-1, 100, 101, 9223372036854775807]).1), (dI k.2 [-1, 100, 101, 9223372036854775807]).2)
  else (A4, k.2)
def d5A (s : Cu) : List tMethod.den × Cu :=
  let j := dB s 4
  let k := dB j.2 9
  if k.1 = 0 then (M4.set j.1.toNat (setF tMethod (M4.getD j.1.toNat tMethod.dflt) 0 (dI k.2 [-1, 0, 1, 99, 100]).1), (dI k.2 [-1, 0, 1, 99, 100]).2)
  else if k.1 = 1 then (M4.set j.1.toNat (setF tMethod (M4.getD j.1.toNat tMethod.dflt) 1 (dR k.2).1), (dR k.2).2)
  else if k.1 = 2 then (M4.set j.1.toNat (setF tMethod (M4.getD j.1.toNat tMethod.dflt) 2 (dI k.2 [0, 1, 45, 10001, 10002]).1), (dI k.2 [0, 1, 45, 10001, 10002]).2)
  else if k.1 = 3 then (M4.set j.1.toNat (setF tMethod (M4.getD j.1.toNat tMethod.dflt) 3 (dI k.2 [0, 1, 45, 10001, 10002]).1), (dI k.2 [0, 1, 45, 10001, 10002]).2)
  else if k.1 = 4 then (M4.take j.1.toNat, k.2)
  else (M4, k.2)
theorem l5Table_ok : FunOK Tryz.prog 45 [] (.own 70 tMethod M4) := by
  refine fun_of (tb := tb) follows Tryz.func45 (by kernel_rfl) Tryz.ntmps45 rfl rfl rfl ?_; intro cx hN hw
  simp (disch := exact eqId (by kernel_rfl)) only [go_sem, ↓reduceIte, Nat.reduceAdd, Nat.reduceMul, Nat.reduceLT, Nat.reduceBEq, Nat.reduceLeDiff, Nat.reduceEqDiff, Int.reduceToNat]
  try rfl
theorem l5Table_fr : FunOK Tryz.prog 45 [] (.fresh 70 tMethod M4) := l5Table_ok.fr rfl
theorem l8Keys_fr' : FunOK Tryz.prog 21 [] (.fresh 68 tKey K8) := l8Keys_ok.fr rfl
theorem l11Authorities_fr : FunOK Tryz.prog 22 [] (.fresh 84 tAuthority A4) := l11Authorities_ok.fr rfl
theorem l8Any_ok (s : Cu)  : MutOK Tryz.prog 19 [none] [.obj (.box 76 [.rd (.list (.int .u8)) (s).b, .rd I (s).i, .rd I (s).h])] (.fresh 68 tKey (d8A s).1) [.box 76 [.rd (.list (.int .u8)) ((d8A s).2).b, .rd I ((d8A s).2).i, .rd I ((d8A s).2).h]] := by
  have h0 := dB_in s (n := 10) (by decide)
  have hl : K8.length = 10 := rfl
  have hl2 : (((K8.length : Nat) : Int)) = 10 := rfl
  refine fun_ofM (tb := tb) follows Tryz.func19 (by kernel_rfl) Tryz.ntmps19 rfl rfl (by simp [shOK]) rfl ?_; intro cx hN hw
  simp (disch := exact eqId (by kernel_rfl)) only [go_sem, ↓reduceIte, Nat.reduceAdd, Nat.reduceMul, Nat.reduceLT, Nat.reduceBEq, Nat.reduceLeDiff, Nat.reduceEqDiff, Int.reduceToNat]
  repeat' (first | (refine And.intro ?_ ?_) | intro _ | (refine callM_intro (dI_ok _ [0, 1, 50, 99, 100] (by decide)) ⟨⟨trivial, by decide⟩, rfl, rfl⟩ ?_; try (simp (disch := exact eqId (by kernel_rfl)) only [go_sem, ↓reduceIte, Nat.reduceAdd, Nat.reduceMul, Nat.reduceLT, Nat.reduceBEq, Nat.reduceLeDiff, Nat.reduceEqDiff, Int.reduceToNat])) | (refine callM_intro (dI_ok _ [-1, 5, 100] (by decide)) ⟨⟨trivial, by decide⟩, rfl, rfl⟩ ?_; try (simp (disch := exact eqId (by kernel_rfl)) only [go_sem, ↓reduceIte, Nat.reduceAdd, Nat.reduceMul, Nat.reduceLT, Nat.reduceBEq, Nat.reduceLeDiff, Nat.reduceEqDiff, Int.reduceToNat])) | (refine callM_intro (dI_ok _ [0, 777] (by decide)) ⟨⟨trivial, by decide⟩, rfl, rfl⟩ ?_; try (simp (disch := exact eqId (by kernel_rfl)) only [go_sem, ↓reduceIte, Nat.reduceAdd, Nat.reduceMul, Nat.reduceLT, Nat.reduceBEq, Nat.reduceLeDiff, Nat.reduceEqDiff, Int.reduceToNat])) | (refine callM_intro (dI_ok _ [-1, 0, 99, 100] (by decide)) ⟨⟨trivial, by decide⟩, rfl, rfl⟩ ?_; try (simp (disch := exact eqId (by kernel_rfl)) only [go_sem, ↓reduceIte, Nat.reduceAdd, Nat.reduceMul, Nat.reduceLT, Nat.reduceBEq, Nat.reduceLeDiff, Nat.reduceEqDiff, Int.reduceToNat])) | (refine callM_intro (l4Raw_ok _) ⟨⟨trivial, by decide⟩, rfl, rfl⟩ ?_; try (simp (disch := exact eqId (by kernel_rfl)) only [go_sem, ↓reduceIte, Nat.reduceAdd, Nat.reduceMul, Nat.reduceLT, Nat.reduceBEq, Nat.reduceLeDiff, Nat.reduceEqDiff, Int.reduceToNat])) | (refine callM_intro (dB_ok _ 10) ⟨⟨trivial, by decide⟩, rfl, rfl⟩ ?_; try (simp (disch := exact eqId (by kernel_rfl)) only [go_sem, ↓reduceIte, Nat.reduceAdd, Nat.reduceMul, Nat.reduceLT, Nat.reduceBEq, Nat.reduceLeDiff, Nat.reduceEqDiff, Int.reduceToNat])) | (refine callM_intro (dB_ok _ _) ⟨⟨trivial, by decide⟩, rfl, rfl⟩ ?_; try (simp (disch := exact eqId (by kernel_rfl)) only [go_sem, ↓reduceIte, Nat.reduceAdd, Nat.reduceMul, Nat.reduceLT, Nat.reduceBEq, Nat.reduceLeDiff, Nat.reduceEqDiff, Int.reduceToNat])) | (refine callQ_intro (l8Keys_fr) ?_; try (simp (disch := exact eqId (by kernel_rfl)) only [go_sem, ↓reduceIte, Nat.reduceAdd, Nat.reduceMul, Nat.reduceLT, Nat.reduceBEq, Nat.reduceLeDiff, Nat.reduceEqDiff, Int.reduceToNat])) | (refine callH_intro (fun hcc => l8Keys_fr) ?_; try (simp (disch := exact eqId (by kernel_rfl)) only [go_sem, ↓reduceIte, Nat.reduceAdd, Nat.reduceMul, Nat.reduceLT, Nat.reduceBEq, Nat.reduceLeDiff, Nat.reduceEqDiff, Int.reduceToNat])))
  all_goals (try omega)
  all_goals (try (show Nat.ble _ _ = true; rfl))
  all_goals (try (unfold d8A; simp only [*, ↓reduceIte]; done))
  all_goals (try (unfold d8A; simp only [*, ↓reduceIte]; first | rfl | exact ⟨rfl, rfl⟩ | exact ⟨rfl, rfl, rfl⟩))
theorem l11Any_ok (s : Cu)  : MutOK Tryz.prog 20 [none] [.obj (.box 76 [.rd (.list (.int .u8)) (s).b, .rd I (s).i, .rd I (s).h])] (.fresh 84 tAuthority (d11A s).1) [.box 76 [.rd (.list (.int .u8)) ((d11A s).2).b, .rd I ((d11A s).2).i, .rd I ((d11A s).2).h]] := by
  have h0 := dB_in s (n := 4) (by decide)
  have hl : A4.length = 4 := rfl
  have hl2 : (((A4.length : Nat) : Int)) = 4 := rfl
  refine fun_ofM (tb := tb) follows Tryz.func20 (by kernel_rfl) Tryz.ntmps20 rfl rfl (by simp [shOK]) rfl ?_; intro cx hN hw
  simp (disch := exact eqId (by kernel_rfl)) only [go_sem, ↓reduceIte, Nat.reduceAdd, Nat.reduceMul, Nat.reduceLT, Nat.reduceBEq, Nat.reduceLeDiff, Nat.reduceEqDiff, Int.reduceToNat]
  repeat' (first | (refine And.intro ?_ ?_) | intro _ | (refine callM_intro (dI_ok _ [-1, 2, 99, 100] (by decide)) ⟨⟨trivial, by decide⟩, rfl, rfl⟩ ?_; try (simp (disch := exact eqId (by kernel_rfl)) only [go_sem, ↓reduceIte, Nat.reduceAdd, Nat.reduceMul, Nat.reduceLT, Nat.reduceBEq, Nat.reduceLeDiff, Nat.reduceEqDiff, Int.reduceToNat])) | (refine callM_intro (dI_ok _ [-1, 100, 101, 9223372036854775807] (by decide)) ⟨⟨trivial, by decide⟩, rfl, rfl⟩ ?_; try (simp (disch := exact eqId (by kernel_rfl)) only [go_sem, ↓reduceIte, Nat.reduceAdd, Nat.reduceMul, Nat.reduceLT, Nat.reduceBEq, Nat.reduceLeDiff, Nat.reduceEqDiff, Int.reduceToNat])) | (refine callM_intro (l8Number_ok _) ⟨⟨trivial, by decide⟩, rfl, rfl⟩ ?_; try (simp (disch := exact eqId (by kernel_rfl)) only [go_sem, ↓reduceIte, Nat.reduceAdd, Nat.reduceMul, Nat.reduceLT, Nat.reduceBEq, Nat.reduceLeDiff, Nat.reduceEqDiff, Int.reduceToNat])) | (refine callM_intro (dB_ok _ _) ⟨⟨trivial, by decide⟩, rfl, rfl⟩ ?_; try (simp (disch := exact eqId (by kernel_rfl)) only [go_sem, ↓reduceIte, Nat.reduceAdd, Nat.reduceMul, Nat.reduceLT, Nat.reduceBEq, Nat.reduceLeDiff, Nat.reduceEqDiff, Int.reduceToNat])) | (refine callQ_intro (l11Authorities_fr) ?_; try (simp (disch := exact eqId (by kernel_rfl)) only [go_sem, ↓reduceIte, Nat.reduceAdd, Nat.reduceMul, Nat.reduceLT, Nat.reduceBEq, Nat.reduceLeDiff, Nat.reduceEqDiff, Int.reduceToNat])) | (refine callH_intro (fun hcc => l11Authorities_fr) ?_; try (simp (disch := exact eqId (by kernel_rfl)) only [go_sem, ↓reduceIte, Nat.reduceAdd, Nat.reduceMul, Nat.reduceLT, Nat.reduceBEq, Nat.reduceLeDiff, Nat.reduceEqDiff, Int.reduceToNat])))
  all_goals (try omega)
  all_goals (try (show Nat.ble _ _ = true; rfl))
  all_goals (try (unfold d11A; simp only [*, ↓reduceIte]; done))
  all_goals (try (unfold d11A; simp only [*, ↓reduceIte]; first | rfl | exact ⟨rfl, rfl⟩ | exact ⟨rfl, rfl, rfl⟩))
theorem l5Any_ok (s : Cu) : MutOK Tryz.prog 27 [none] [.obj (.box 76 [.rd (.list (.int .u8)) (s).b, .rd I (s).i, .rd I (s).h])] (.rd (.list tMethod) (d5A s).1) [.box 76 [.rd (.list (.int .u8)) ((d5A s).2).b, .rd I ((d5A s).2).i, .rd I ((d5A s).2).h]] := by
  have h0 := dB_in s (n := 4) (by decide)
  have hl : M4.length = 4 := rfl
  by_cases hk : (dB (dB s 4).2 9).1 = 4
  · refine fun_ofMS (tb := tb) follows Tryz.func27 (by kernel_rfl) Tryz.ntmps27 rfl rfl (by simp [shOK]) rfl ?_; intro cx hN hw
    simp (disch := exact eqId (by kernel_rfl)) only [go_sem, ↓reduceIte, Nat.reduceAdd, Nat.reduceMul, Nat.reduceLT, Nat.reduceBEq, Nat.reduceLeDiff, Nat.reduceEqDiff, Int.reduceToNat]
    repeat' (first | (refine And.intro ?_ ?_) | intro _ | (refine callM_intro (dB_ok _ _) ⟨⟨trivial, by decide⟩, rfl, rfl⟩ ?_; try (simp (disch := exact eqId (by kernel_rfl)) only [go_sem, ↓reduceIte, Nat.reduceAdd, Nat.reduceMul, Nat.reduceLT, Nat.reduceBEq, Nat.reduceLeDiff, Nat.reduceEqDiff, Int.reduceToNat])) | (refine callQ_intro (l5Table_ok) ?_; try (simp (disch := exact eqId (by kernel_rfl)) only [go_sem, ↓reduceIte, Nat.reduceAdd, Nat.reduceMul, Nat.reduceLT, Nat.reduceBEq, Nat.reduceLeDiff, Nat.reduceEqDiff, Int.reduceToNat])) | (refine callH_intro (fun hcc => l5Table_ok) ?_; try (simp (disch := exact eqId (by kernel_rfl)) only [go_sem, ↓reduceIte, Nat.reduceAdd, Nat.reduceMul, Nat.reduceLT, Nat.reduceBEq, Nat.reduceLeDiff, Nat.reduceEqDiff, Int.reduceToNat])))
    all_goals (try (exfalso; omega))
    all_goals (try omega)
    all_goals (try (unfold d5A; simp only [*, ↓reduceIte]; done))
    all_goals (try (show Nat.ble _ _ = true; rfl))
    all_goals (try (unfold d5A; simp only [hk]; rfl))
    all_goals (try (unfold d5A; simp only [*]; rfl))
    all_goals trace_state
  · refine fun_ofMS (tb := tb) follows Tryz.func27 (by kernel_rfl) Tryz.ntmps27 rfl rfl (by simp [shOK]) rfl ?_; intro cx hN hw
    simp (disch := exact eqId (by kernel_rfl)) only [go_sem, ↓reduceIte, Nat.reduceAdd, Nat.reduceMul, Nat.reduceLT, Nat.reduceBEq, Nat.reduceLeDiff, Nat.reduceEqDiff, Int.reduceToNat]
    repeat' (first | (refine And.intro ?_ ?_) | intro _ | (refine callM_intro (dI_ok _ [-1, 0, 1, 99, 100] (by decide)) ⟨⟨trivial, by decide⟩, rfl, rfl⟩ ?_; try (simp (disch := exact eqId (by kernel_rfl)) only [go_sem, ↓reduceIte, Nat.reduceAdd, Nat.reduceMul, Nat.reduceLT, Nat.reduceBEq, Nat.reduceLeDiff, Nat.reduceEqDiff, Int.reduceToNat])) | (refine callM_intro (dI_ok _ [0, 1, 45, 10001, 10002] (by decide)) ⟨⟨trivial, by decide⟩, rfl, rfl⟩ ?_; try (simp (disch := exact eqId (by kernel_rfl)) only [go_sem, ↓reduceIte, Nat.reduceAdd, Nat.reduceMul, Nat.reduceLT, Nat.reduceBEq, Nat.reduceLeDiff, Nat.reduceEqDiff, Int.reduceToNat])) | (refine callM_intro (l4Raw_ok _) ⟨⟨trivial, by decide⟩, rfl, rfl⟩ ?_; try (simp (disch := exact eqId (by kernel_rfl)) only [go_sem, ↓reduceIte, Nat.reduceAdd, Nat.reduceMul, Nat.reduceLT, Nat.reduceBEq, Nat.reduceLeDiff, Nat.reduceEqDiff, Int.reduceToNat])) | (refine callM_intro (dB_ok _ _) ⟨⟨trivial, by decide⟩, rfl, rfl⟩ ?_; try (simp (disch := exact eqId (by kernel_rfl)) only [go_sem, ↓reduceIte, Nat.reduceAdd, Nat.reduceMul, Nat.reduceLT, Nat.reduceBEq, Nat.reduceLeDiff, Nat.reduceEqDiff, Int.reduceToNat])) | (refine callQ_intro (l5Table_fr) ?_; try (simp (disch := exact eqId (by kernel_rfl)) only [go_sem, ↓reduceIte, Nat.reduceAdd, Nat.reduceMul, Nat.reduceLT, Nat.reduceBEq, Nat.reduceLeDiff, Nat.reduceEqDiff, Int.reduceToNat])) | (refine callH_intro (fun hcc => l5Table_fr) ?_; try (simp (disch := exact eqId (by kernel_rfl)) only [go_sem, ↓reduceIte, Nat.reduceAdd, Nat.reduceMul, Nat.reduceLT, Nat.reduceBEq, Nat.reduceLeDiff, Nat.reduceEqDiff, Int.reduceToNat])))
    all_goals (try (exfalso; omega))
    all_goals (try omega)
    all_goals (try (show Nat.ble _ _ = true; rfl))
    all_goals (try (unfold d5A; simp only [*, ↓reduceIte]; done))
    all_goals (try (unfold d5A; simp only [*]; rfl))
    all_goals trace_state
theorem d18_len (s : Cu) : 5 ≤ (d18 s).1.2.1.length ∧ (d18 s).1.2.1.length ≤ 10 := by
  have hl := d18D_len s
  unfold d18
  simp only
  repeat' split
  all_goals (simp only [List.length_append, List.length_set, List.length_cons, List.length_nil]; omega)
end Go.Proofs.YtgelnbhmalgliaaGreat
/- What the functions of paths in trees answer, on both sides. It proves nothing of a statement by itself. -/
set_option linter.unusedSimpArgs false
set_option linter.unusedVariables false
set_option maxRecDepth 100000
namespace Go.Proofs.YtgelnbhmalgliaaGreat
open Go.AL
def stepR (l : List Int) (j : Nat) : List tStep.den := if j % 2 = 1 then [(l.getD (j - 1) 0, true, ())] else if j + 1 < l.length then [(l.getD (j + 1) 0, false, ())] else []
def pathR (m : Int) (l : List Int) (j : Nat) : List tStep.den := if h : l.length ≤ 1 then [] else stepR l j ++ pathR m (upF m l) (j / 2)
termination_by l.length
decreasing_by have := upF_len m l; omega
theorem pathR_step (m : Int) (h : List Int) (j : Nat) (hh : 1 < h.length) : pathR m h j = stepR h j ++ pathR m (upF m h) (j / 2) := by
  conv => lhs; unfold pathR
  rw [dif_neg (by omega)]
def pathF (m : Int) (l : List Int) (i : Int) : List tStep.den := if (0 ≤ i ∧ i < (l.length : Int)) ∧ l.length ≤ 16 then pathR m l i.toNat else []
theorem spec_TreePath_ok (m : Int) (l : List Int) (i : Int) : FunOK Tryz.prog 51 [⟨I, m⟩, ⟨(.list I), l⟩, ⟨I, i⟩] (.own 62 tStep (pathF m l i)) := by
  have hw0 : 0 ≤ (l.length : Int) := by omega
  refine fun_of (tb := tb) follows Tryz.func51 (by kernel_rfl) Tryz.ntmps51 rfl rfl rfl ?_; intro cx hN hw
  have e1 : IntKind.i64.wrap ((l.length : Int) - 1) = (l.length : Int) - 1 := by
    have h9 : l.length ≤ maxLen := hw.2.1.1
    have hm : maxLen = 9223372036854775807 := rfl
    exact wrap_i64 (by omega) (by omega)
  simp (disch := exact eqId (by kernel_rfl)) only [go_sem, ↓reduceIte, Nat.reduceAdd, Nat.reduceMul, Nat.reduceLT, Nat.reduceBEq, Nat.reduceLeDiff, Nat.reduceEqDiff, Int.reduceToNat, e1]
  repeat' (first | (refine And.intro ?_ ?_) | intro _ | (refine callQ_intro (l1In_ok _ _ _) ?_; try (simp (disch := exact eqId (by kernel_rfl)) only [go_sem, ↓reduceIte, Nat.reduceAdd, Nat.reduceMul, Nat.reduceLT, Nat.reduceBEq, Nat.reduceLeDiff, Nat.reduceEqDiff, Int.reduceToNat])) | (refine callH_intro (fun hcc => l1In_ok _ _ _) ?_; try (simp (disch := exact eqId (by kernel_rfl)) only [go_sem, ↓reduceIte, Nat.reduceAdd, Nat.reduceMul, Nat.reduceLT, Nat.reduceBEq, Nat.reduceLeDiff, Nat.reduceEqDiff, Int.reduceToNat])))
  all_goals (try omega)
  · unfold pathF
    rw [if_neg (by omega)]
  · refine loop_intro (tb := tb) follows hN (D := (List Int) × Nat × (List tStep.den)) (fun d => shp [(0, .rd I (m : Int)), (2, .rd I (d.2.1 : Int)), (7, .own 1), (8, .rd (.list I) d.1)] [(1, .row 62 tStep d.2.2)]) (fun d => (1 ≤ d.1.length ∧ d.1.length ≤ 16 ∧ d.2.1 < d.1.length) ∧ d.2.2.length ≤ 20 - d.1.length ∧ d.2.2 ++ pathR m d.1 d.2.1 = pathR m l i.toNat) (fun d => d.1.length) (l, i.toNat, []) ?_ (sub_shp hN [(1, some 20000)] ?_) (fun d hd => ?_)
    · exact ⟨⟨by simp only; omega, by simp only; omega, by simp only; omega⟩, Nat.zero_le _, rfl⟩
    · simp (disch := exact eqId (by kernel_rfl)) only [go_sem, ↓reduceIte, Nat.reduceAdd, Nat.reduceMul, Nat.reduceLT, Nat.reduceBEq, Nat.reduceLeDiff, Nat.reduceEqDiff, Int.reduceToNat]
      exact I_eq (by omega)
    · obtain ⟨h, j, q⟩ := d
      obtain ⟨⟨h1, h2, h3⟩, h4, h5⟩ := hd
      dsimp only at h1 h2 h3 h4 h5
      have u1 := upF_len m h
      have u2 := upF_len2 m h
      have e2 : IntKind.i64.wrap ((j : Int) + 1) = (j : Int) + 1 := wrap_i64 (by omega) (by omega)
      have e3 : IntKind.i64.wrap ((j : Int) - 1) = (j : Int) - 1 := wrap_i64 (by omega) (by omega)
      have e4 : (j : Int).tmod 2 = (j : Int) % 2 := Int.tmod_eq_emod_of_nonneg (by omega)
      have e5 : (j : Int).tdiv 2 = (j : Int) / 2 := Int.tdiv_eq_ediv_of_nonneg (by omega)
      have e6 : IntKind.i64.wrap ((j : Int) / 2) = (j : Int) / 2 := wrap_i64 (by omega) (by omega)
      have e7 : ((j : Int) - 1).toNat = j - 1 := by omega
      have e8 : ((j : Int) + 1).toNat = j + 1 := by omega
      have e9 : (j : Int) / 2 = ((j / 2 : Nat) : Int) := by omega
      have hp : 1 < h.length → pathR m h j = stepR h j ++ pathR m (upF m h) (j / 2) := pathR_step m h j
      simp (disch := exact eqId (by kernel_rfl)) only [go_sem, ↓reduceIte, Nat.reduceAdd, Nat.reduceMul, Nat.reduceLT, Nat.reduceBEq, Nat.reduceLeDiff, Nat.reduceEqDiff, Int.reduceToNat, e2, e3, e4, e5, e6, e7, e8]
      repeat' (first | (refine And.intro ?_ ?_) | intro _ | (refine callQ_intro (spec_l17Up_ok _ _ (by omega)) ?_; try (simp (disch := exact eqId (by kernel_rfl)) only [go_sem, ↓reduceIte, Nat.reduceAdd, Nat.reduceMul, Nat.reduceLT, Nat.reduceBEq, Nat.reduceLeDiff, Nat.reduceEqDiff, Int.reduceToNat])) | (refine callH_intro (fun hcc => spec_l17Up_ok _ _ (by omega)) ?_; try (simp (disch := exact eqId (by kernel_rfl)) only [go_sem, ↓reduceIte, Nat.reduceAdd, Nat.reduceMul, Nat.reduceLT, Nat.reduceBEq, Nat.reduceLeDiff, Nat.reduceEqDiff, Int.reduceToNat])))
      all_goals (try omega)
      · refine back_intro ((upF m h, j / 2, q ++ [(h.getD (j - 1) 0, true, ())])) ?_ ?_ (sub_shp hN [(1, some 80128)] ?_)
        · refine ⟨⟨by simp only; omega, by simp only; omega, by simp only; omega⟩, by simp only [List.length_append, List.length_cons, List.length_nil]; omega, ?_⟩
          rw [← h5, hp (by omega), stepR, if_pos (by omega)]
          simp
        · simp only
          omega
        · simp (disch := exact eqId (by kernel_rfl)) only [go_sem, ↓reduceIte, Nat.reduceAdd, Nat.reduceMul, Nat.reduceLT, Nat.reduceBEq, Nat.reduceLeDiff, Nat.reduceEqDiff, Int.reduceToNat, e9]
          try trivial
      · refine back_intro ((upF m h, j / 2, q ++ [(h.getD (j + 1) 0, false, ())])) ?_ ?_ (sub_shp hN [(1, some 100128)] ?_)
        · refine ⟨⟨by simp only; omega, by simp only; omega, by simp only; omega⟩, by simp only [List.length_append, List.length_cons, List.length_nil]; omega, ?_⟩
          rw [← h5, hp (by omega), stepR, if_neg (by omega), if_pos (by omega)]
          simp
        · simp only
          omega
        · simp (disch := exact eqId (by kernel_rfl)) only [go_sem, ↓reduceIte, Nat.reduceAdd, Nat.reduceMul, Nat.reduceLT, Nat.reduceBEq, Nat.reduceLeDiff, Nat.reduceEqDiff, Int.reduceToNat, e9]
          try trivial
      · refine back_intro ((upF m h, j / 2, q)) ?_ ?_ (sub_shp hN [(1, some 1)] ?_)
        · refine ⟨⟨by simp only; omega, by simp only; omega, by simp only; omega⟩, by simp only [List.length_append, List.length_cons, List.length_nil]; omega, ?_⟩
          rw [← h5, hp (by omega), stepR, if_neg (by omega), if_neg (by omega)]
          simp
        · simp only
          omega
        · simp (disch := exact eqId (by kernel_rfl)) only [go_sem, ↓reduceIte, Nat.reduceAdd, Nat.reduceMul, Nat.reduceLT, Nat.reduceBEq, Nat.reduceLeDiff, Nat.reduceEqDiff, Int.reduceToNat, e9]
          try trivial
      · unfold pathF
        rw [if_pos (by omega), ← h5]
        unfold pathR
        rw [dif_pos (by omega)]
        simp
end Go.Proofs.YtgelnbhmalgliaaGreat
/- Plain maths of trees: a leaf leads to the root by its path, the next number does not. It proves nothing of a statement by itself. -/
set_option linter.unusedSimpArgs false
set_option linter.unusedVariables false
namespace Go.Proofs.YtgelnbhmalgliaaGreat
open Go.AL
theorem tmod_eq (n : Int) : ∃ q, n = 2147483647 * q + n.tmod 2147483647 ∧ (0 ≤ n → 0 ≤ n.tmod 2147483647) ∧ (n ≤ 0 → n.tmod 2147483647 ≤ 0) ∧ -2147483647 < n.tmod 2147483647 ∧ n.tmod 2147483647 < 2147483647 := by
  refine ⟨n.tdiv 2147483647, (Int.mul_tdiv_add_tmod n 2147483647).symm, fun h => Int.tmod_nonneg _ h, fun h => ?_, ?_, Int.tmod_lt_of_pos n (by decide)⟩
  · have := Int.tmod_nonneg (a := -n) 2147483647 (by omega)
    rw [Int.neg_tmod] at this
    omega
  · have := Int.tmod_lt_of_pos (-n) (b := 2147483647) (by decide)
    rw [Int.neg_tmod] at this
    omega
theorem tmod_pos {n : Int} (h : 0 ≤ n) : n.tmod 2147483647 = n % 2147483647 := Int.tmod_eq_emod_of_nonneg h
theorem modF_eq (v : Int) : modF v 2147483647 = v % 2147483647 := by
  obtain ⟨q, h1, h2, h3, h4, h5⟩ := tmod_eq v
  unfold modF
  rw [if_pos (by decide), wrap_i64 (by omega) (by omega), tmod_pos (by omega)]
  omega
theorem step_eq {h v : Int} (h0 : 0 ≤ h) (h1 : h < 2147483647) : hashStep h v = (h * 1000003 + v % 2147483647 + 13) % 2147483647 := by
  have := Int.emod_nonneg v (b := 2147483647) (by decide)
  have := Int.emod_lt_of_pos v (b := 2147483647) (by decide)
  unfold hashStep
  rw [modF_eq, wrap_i64 (n := h * 1000003) (by omega) (by omega), wrap_i64 (n := h * 1000003 + v % 2147483647) (by omega) (by omega), wrap_i64 (by omega) (by omega), tmod_pos (by omega)]
theorem step_in {h v : Int} (h0 : 0 ≤ h) (h1 : h < 2147483647) : 0 ≤ hashStep h v ∧ hashStep h v < 2147483647 := by
  rw [step_eq h0 h1]; omega
theorem inv0 {d k : Int} (h : 1000003 * d = 2147483647 * k) (h1 : -2147483647 < d) (h2 : d < 2147483647) : d = 0 := by
  have e : d = 2147483647 * (1523789695 * k - 709572 * d) := by
    have e1 : 1523789695 * (1000003 * d) = 1523789695 * (2147483647 * k) := by rw [h]
    omega
  generalize 1523789695 * k - 709572 * d = z at e
  omega
theorem em_sub {X Y p : Int} (e : X % p = Y % p) : ∃ k, X - Y = p * k := by
  refine ⟨X / p - Y / p, ?_⟩
  have e1 := Int.mul_ediv_add_emod X p
  have e2 := Int.mul_ediv_add_emod Y p
  rw [Int.mul_sub]
  omega
theorem step_inj {h g v : Int} (h0 : 0 ≤ h) (h1 : h < 2147483647) (g0 : 0 ≤ g) (g1 : g < 2147483647) (e : hashStep h v = hashStep g v) : h = g := by
  rw [step_eq h0 h1, step_eq g0 g1] at e
  have b1 : -2147483647 < h - g := by clear e; omega
  have b2 : h - g < 2147483647 := by clear e; omega
  obtain ⟨k, hk⟩ := em_sub e
  clear e
  generalize v % 2147483647 = c at hk
  have e4 : 1000003 * (h - g) = 2147483647 * k := by
    rw [← hk]
    omega
  have := inv0 e4 b1 b2
  clear hk e4
  omega
theorem step_ne {h v u : Int} (h0 : 0 ≤ h) (h1 : h < 2147483647) (e : hashStep h v = hashStep h u) : v % 2147483647 = u % 2147483647 := by
  rw [step_eq h0 h1, step_eq h0 h1] at e
  omega
theorem fold_in : ∀ (l : List Int) (h : Int), 0 ≤ h → h < 2147483647 → 0 ≤ l.foldl hashStep h ∧ l.foldl hashStep h < 2147483647
  | [], h, h0, h1 => ⟨h0, h1⟩
  | v :: l, h, h0, h1 => fold_in l _ (step_in h0 h1).1 (step_in h0 h1).2
theorem fold_inj : ∀ (l : List Int) (h g : Int), 0 ≤ h → h < 2147483647 → 0 ≤ g → g < 2147483647 → l.foldl hashStep h = l.foldl hashStep g → h = g
  | [], h, g, _, _, _, _, e => e
  | v :: l, h, g, h0, h1, g0, g1, e => step_inj h0 h1 g0 g1 (fold_inj l _ _ (step_in h0 h1).1 (step_in h0 h1).2 (step_in g0 g1).1 (step_in g0 g1).2 e)
theorem hash_ne (a c : List Int) (v u : Int) (h : v % 2147483647 ≠ u % 2147483647) : hashF (a ++ v :: c) ≠ hashF (a ++ u :: c) := by
  intro e
  unfold hashF at e
  rw [List.foldl_append, List.foldl_append, List.foldl_cons, List.foldl_cons] at e
  obtain ⟨h0, h1⟩ := fold_in a 11 (by decide) (by decide)
  exact h (step_ne h0 h1 (fold_inj c _ _ (step_in h0 h1).1 (step_in h0 h1).2 (step_in h0 h1).1 (step_in h0 h1).2 e))
theorem hash_in (l : List Int) : 0 ≤ hashF l ∧ hashF l < 2147483647 := fold_in l 11 (by decide) (by decide)
theorem next_ne {v : Int} (h1 : -9223372036854775808 ≤ v) (h2 : v ≤ 9223372036854775807) : v % 2147483647 ≠ IntKind.i64.wrap (v + 1) % 2147483647 := by
  by_cases h : v = 9223372036854775807
  · subst h; decide
  · rw [wrap_i64 (by omega) (by omega)]; omega
theorem up_get (m : Int) : ∀ (l : List Int) (i : Nat), (upF m l).getD i 0 = if 2 * i + 1 < l.length then pairF m (l.getD (2 * i) 0) (l.getD (2 * i + 1) 0) else l.getD (2 * i) 0
  | [], i => by simp [upF]
  | [x], i => by
    cases i with
    | zero => simp [upF]
    | succ i => simp [upF]
  | a :: b :: r, i => by
    cases i with
    | zero => simp [upF]
    | succ i =>
      have ih := up_get m r i
      simp only [upF, List.length_cons, List.getD_cons_succ, show 2 * (i + 1) = 2 * i + 1 + 1 by omega] at ih ⊢
      rw [ih]
      by_cases h : 2 * i + 1 < r.length
      · rw [if_pos h, if_pos (by omega)]
      · rw [if_neg h, if_neg (by omega)]
theorem up_step (m : Int) (l : List Int) (j : Nat) (hj : j < l.length) : (stepR l j).foldl (fpStep m) (l.getD j 0) = (upF m l).getD (j / 2) 0 := by
  rw [up_get]
  unfold stepR
  by_cases h : j % 2 = 1
  · rw [if_pos h, if_pos (by omega), show 2 * (j / 2) = j - 1 by omega, show j - 1 + 1 = j by omega, List.foldl_cons, List.foldl_nil, fpStep]
    exact if_pos rfl
  · rw [if_neg h]
    by_cases h2 : j + 1 < l.length
    · rw [if_pos h2, if_pos (by omega), show 2 * (j / 2) = j by omega, List.foldl_cons, List.foldl_nil, fpStep]
      exact if_neg (by simp)
    · rw [if_neg h2, if_neg (by omega), show 2 * (j / 2) = j by omega, List.foldl_nil]
theorem follow_top (m : Int) : ∀ (n : Nat) (l : List Int) (j : Nat), l.length ≤ n → j < l.length → (pathR m l j).foldl (fpStep m) (l.getD j 0) = (topR m l).getD 0 0
  | 0, l, j, h, hj => by omega
  | n + 1, l, j, h, hj => by
    by_cases h1 : l.length ≤ 1
    · unfold pathR topR
      rw [dif_pos h1, dif_pos h1, show j = 0 by omega]
      rfl
    · have u1 := upF_len m l
      have u2 := upF_len2 m l
      rw [pathR_step m l j (by omega), List.foldl_append, up_step m l j hj, follow_top m n (upF m l) (j / 2) (by omega) (by omega)]
      conv => rhs; unfold topR
      rw [dif_neg h1]
theorem path_pow (m : Int) : ∀ (k : Nat) (l : List Int) (j : Nat), l.length ≤ 2 ^ k → (pathR m l j).length ≤ k
  | 0, l, j, h => by
    unfold pathR
    rw [dif_pos (by simpa using h)]
    exact Nat.le_refl _
  | k + 1, l, j, h => by
    by_cases h1 : l.length ≤ 1
    · unfold pathR
      rw [dif_pos h1]
      exact Nat.zero_le _
    · have u1 := upF_len m l
      have hs : (stepR l j).length ≤ 1 := by
        unfold stepR
        repeat' split
        all_goals simp
      have := path_pow m k (upF m l) (j / 2) (by rw [Nat.pow_succ] at h; omega)
      rw [pathR_step m l j (by omega), List.length_append]
      omega
def lev (n : Int) : Int := if n < 1 ∨ 16 < n then 0 else if n ≤ 1 then 0 else if n ≤ 2 then 1 else if n ≤ 4 then 2 else if n ≤ 8 then 3 else 4
def levJ (n : Int) (d : Int × Int) : Prop := (d.1 = 0 ∧ d.2 = 1) ∨ (d.1 = 1 ∧ d.2 = 2 ∧ 1 < n) ∨ (d.1 = 2 ∧ d.2 = 4 ∧ 2 < n) ∨ (d.1 = 3 ∧ d.2 = 8 ∧ 4 < n) ∨ (d.1 = 4 ∧ d.2 = 16 ∧ 8 < n)
theorem pair_ne {m a x y : Int} (h : x % 2147483647 ≠ y % 2147483647) : pairF m a x % 2147483647 ≠ pairF m a y % 2147483647 ∧ pairF m x a % 2147483647 ≠ pairF m y a % 2147483647 := by
  have e : ∀ l, hashF l % 2147483647 = hashF l := fun l => Int.emod_eq_of_lt (hash_in l).1 (hash_in l).2
  unfold pairF digF
  rw [e, e, e, e]
  exact ⟨hash_ne [7, m, 1, a] [] x y h, hash_ne [7, m, 1] [a] x y h⟩
theorem fold_ne (m : Int) : ∀ (l : List tStep.den) (x y : Int), x % 2147483647 ≠ y % 2147483647 → l.foldl (fpStep m) x % 2147483647 ≠ l.foldl (fpStep m) y % 2147483647
  | [], x, y, h => h
  | s :: l, x, y, h => by
    refine fold_ne m l _ _ ?_
    unfold fpStep
    cases s.2.1
    · exact (pair_ne (a := s.1) h).2
    · exact (pair_ne (a := s.1) h).1
theorem lev_pow {n : Nat} (h0 : 1 ≤ n) (h : n ≤ 16) : ∃ k : Nat, lev (n : Int) = (k : Int) ∧ k ≤ 4 ∧ n ≤ 2 ^ k ∧ (k = 0 ∨ 2 ^ k / 2 < n) := by
  have hc : ∀ n : Nat, n ≤ 16 → 1 ≤ n → ∃ k : Nat, k ≤ 4 ∧ lev (n : Int) = (k : Int) ∧ n ≤ 2 ^ k ∧ (k = 0 ∨ 2 ^ k / 2 < n) := by decide
  obtain ⟨k, h1, h2, h3, h4⟩ := hc n h h0
  exact ⟨k, h2, h1, h3, h4⟩
theorem tree_ok {m : Int} {l : List Int} {i : Int} (h0 : 0 ≤ i) (h1 : i < (l.length : Int)) (h2 : l.length ≤ 16) (hv : -9223372036854775808 ≤ l.getD i.toNat 0 ∧ l.getD i.toNat 0 ≤ 9223372036854775807) :
    (pathF m l i).foldl (fpStep m) (l.getD i.toNat 0) = rootF m l ∧ ¬ (pathF m l i).foldl (fpStep m) (IntKind.i64.wrap (l.getD i.toNat 0 + 1)) = rootF m l ∧ ∃ k : Nat, lev (l.length : Int) = (k : Int) ∧ k ≤ 4 ∧ (pathF m l i).length ≤ k ∧ l.length ≤ 2 ^ k ∧ (k = 0 ∨ 2 ^ k / 2 < l.length) := by
  have hp : pathF m l i = pathR m l i.toNat := by unfold pathF; exact if_pos ⟨⟨h0, h1⟩, h2⟩
  have hr : rootF m l = (topR m l).getD 0 0 := by unfold rootF; exact if_pos ⟨by omega, h2⟩
  have hf := follow_top m l.length l i.toNat (Nat.le_refl _) (by omega)
  obtain ⟨k, k1, k2, k3, k4⟩ := lev_pow (n := l.length) (by omega) h2
  rw [hp, hr]
  refine ⟨hf, fun e => ?_, k, k1, k2, path_pow m k l _ k3, k3, k4⟩
  rw [← hf] at e
  exact fold_ne m _ _ _ (next_ne hv.1 hv.2) (by rw [e])
theorem path_no {m : Int} {l : List Int} {i : Int} (h : (i < 0 ∨ i ≥ (l.length : Int)) ∨ (l.length : Int) > 16) : (pathF m l i).length = 0 := by
  unfold pathF
  rw [if_neg (by omega)]
  rfl
end Go.Proofs.YtgelnbhmalgliaaGreat
/- What draws of renewals answer. It proves nothing of a statement by itself. -/
set_option linter.unusedSimpArgs false
set_option linter.unusedVariables false
set_option maxRecDepth 100000
namespace Go.Proofs.YtgelnbhmalgliaaGreat
open Go.AL
def d99 (s : Cu) : Int × Cu := dB s 99
def d17 (s : Cu) (n : Int) : List Int × Cu := rep d99 (dB s n).1.toNat (dB s n).2
theorem d17_len (s : Cu) {n : Int} (hn : 1 ≤ n) : ((d17 s n).1.length : Int) < n := by
  have := dB_in s hn
  unfold d17
  rw [rep_len]
  omega
theorem take_flat {α β : Type} (f : α → List β) {l : List α} {k : Nat} (hk : k < l.length) (x : α) : (l.take (k + 1)).flatMap f = (l.take k).flatMap f ++ f (l.getD k x) := by
  rw [List.take_succ_eq_append_getElem hk, List.flatMap_append, List.flatMap_cons, List.flatMap_nil, List.append_nil, List.getD_eq_getElem?_getD, List.getElem?_eq_getElem hk]
  rfl
def mkT (ks : List tKey.den) (l : List tAuthority.den) (q tm root i : Int) : List tStamp.den := if (mksF ks l (i, q, tm, root, 0, ())).2 = true then [(mksF ks l (i, q, tm, root, 0, ())).1] else []
def mkR (ks : List tKey.den) (l : List tAuthority.den) (m leaf : Int) (ot : List Int) (ct : Int) (ids : List Int) (q tm : Int) : tRenewal.den :=
  (ct, m, rootF m (ot ++ [leaf]), pathF m (ot ++ [leaf]) (IntKind.i64.wrap (((ot ++ [leaf]).length : Int) - 1)), ids.flatMap (mkT ks l q tm (rootF m (ot ++ [leaf]))), ())
theorem mkT_len (ks : List tKey.den) (l : List tAuthority.den) (q tm root i : Int) : (mkT ks l q tm root i).length ≤ 1 := by
  unfold mkT
  split <;> simp
theorem mkT_all (ks : List tKey.den) (l : List tAuthority.den) (q tm root : Int) : ∀ (ids : List Int), (ids.flatMap (mkT ks l q tm root)).length ≤ ids.length
  | [] => by simp
  | i :: ids => by
    have h1 := mkT_len ks l q tm root i
    have h2 := mkT_all ks l q tm root ids
    rw [List.flatMap_cons, List.length_append, List.length_cons]
    omega
theorem path_len (m : Int) (l : List Int) (i : Int) : (pathF m l i).length ≤ 1000 := by
  unfold pathF
  split
  · rename_i h
    have := path_pow m 4 l i.toNat (Nat.le_trans h.2 (by decide))
    omega
  · simp
def d19 (s : Cu) (leaf ct tm : Int) : tRenewal.den × Cu :=
  let a := dB s 4
  let m := dB a.2 4
  let t := d17 m.2 4
  let q := dB t.2 9
  (mkR K8 A4 (IntKind.i64.wrap (1 + m.1)) leaf t.1 ct (([1, 2, 3, 4] : List Int).take (IntKind.i64.wrap (1 + a.1)).toNat) q.1 tm, q.2)
def d19B (s : Cu) (r : tRenewal.den) : tRenewal.den × Cu :=
  let k := dB s 10
  if k.1 = 0 then (setF tRenewal r 2 (IntKind.i64.wrap (r.2.2.1 + 1)), k.2)
  else if k.1 = 1 then (setF tRenewal r 1 (dB k.2 6).1, (dB k.2 6).2)
  else if k.1 = 2 then (setF tRenewal r 0 (dI k.2 [-1, 0, 3]).1, (dI k.2 [-1, 0, 3]).2)
  else if k.1 = 3 then (setF tRenewal r 3 (r.2.2.2.1 ++ [(1, false, ())]), k.2)
  else if k.1 = 4 then (setF tRenewal r 4 (r.2.2.2.2.1 ++ [(d11B k.2).1]), (d11B k.2).2)
  else if k.1 = 5 then (if (r.2.2.2.2.1.length : Int) > 0 then (setF tRenewal r 4 (r.2.2.2.2.1.set 0 (setF tStamp (r.2.2.2.2.1.getD 0 tStamp.dflt) 2 (dR k.2).1)), (dR k.2).2) else (r, k.2))
  else (r, k.2)
theorem d99_ok (s : Cu) : MutOK Tryz.prog 16 [none, none] [.obj (.box 76 [.rd (.list (.int .u8)) (s).b, .rd I (s).i, .rd I (s).h]), .rd ⟨I, 99⟩] (.rd I (d99 s).1) [.box 76 [.rd (.list (.int .u8)) ((d99 s).2).b, .rd I ((d99 s).2).i, .rd I ((d99 s).2).h]] := dB_ok s 99
theorem l17Leaves_ok (s : Cu) (n : Int) (hn : 1 ≤ n ∧ n ≤ 100) : MutOK Tryz.prog 37 [none, none] [.obj (.box 76 [.rd (.list (.int .u8)) (s).b, .rd I (s).i, .rd I (s).h]), .rd ⟨I, n⟩] (.own 3 I (d17 s n).1) [.box 76 [.rd (.list (.int .u8)) ((d17 s n).2).b, .rd I ((d17 s n).2).i, .rd I ((d17 s n).2).h]] := by
  have hj := dB_in s hn.1
  refine fun_ofM (tb := tb) follows Tryz.func37 (by kernel_rfl) Tryz.ntmps37 rfl rfl (by simp [shOK]) rfl ?_; intro cx hN hw
  simp (disch := exact eqId (by kernel_rfl)) only [go_sem, ↓reduceIte, Nat.reduceAdd, Nat.reduceMul, Nat.reduceLT, Nat.reduceBEq, Nat.reduceLeDiff, Nat.reduceEqDiff, Int.reduceToNat]
  refine callM_intro (dB_ok _ _) ⟨⟨trivial, by decide⟩, rfl, rfl⟩ ?_
  simp (disch := exact eqId (by kernel_rfl)) only [go_sem, ↓reduceIte, Nat.reduceAdd, Nat.reduceMul, Nat.reduceLT, Nat.reduceBEq, Nat.reduceLeDiff, Nat.reduceEqDiff, Int.reduceToNat]
  refine loop_intro (tb := tb) follows hN (D := Int × Cu × (List Int)) (fun d => shp [(0, .bp 0 0), (5, .own 20000), (6, .rd I (d.1 : Int))] [(0, .box 76 [.rd (.list (.int .u8)) (d.2.1).b, .rd I (d.2.1).i, .rd I (d.2.1).h]), (20000, .row 3 I d.2.2)]) (fun d => d.2.2.length + d.1.toNat ≤ 256 ∧ rep d99 ((dB s n).1).toNat (dB s n).2 = (d.2.2 ++ (rep d99 d.1.toNat d.2.1).1, (rep d99 d.1.toNat d.2.1).2)) (fun d => d.1.toNat) (((dB s n).1, (dB s n).2, [])) ?_ (sub_shp hN [(0, some 0), (20000, some 20000)] ?_) (fun d hd => ?_)
  · refine ⟨by simp only [List.length_nil]; omega, rfl⟩
  · simp (disch := exact eqId (by kernel_rfl)) only [go_sem, ↓reduceIte, Nat.reduceAdd, Nat.reduceMul, Nat.reduceLT, Nat.reduceBEq, Nat.reduceLeDiff, Nat.reduceEqDiff, Int.reduceToNat]
    try exact ⟨rfl, rfl⟩
    try rfl
  · obtain ⟨r, z, out⟩ := d
    obtain ⟨g1, g2⟩ := hd
    simp only at g1 g2
    simp (disch := exact eqId (by kernel_rfl)) only [go_sem, ↓reduceIte, Nat.reduceAdd, Nat.reduceMul, Nat.reduceLT, Nat.reduceBEq, Nat.reduceLeDiff, Nat.reduceEqDiff, Int.reduceToNat]
    repeat' (first | (refine And.intro ?_ ?_) | intro _ | (refine callM_intro (d99_ok _) ⟨⟨trivial, by decide⟩, rfl, rfl⟩ ?_; try (simp (disch := exact eqId (by kernel_rfl)) only [go_sem, ↓reduceIte, Nat.reduceAdd, Nat.reduceMul, Nat.reduceLT, Nat.reduceBEq, Nat.reduceLeDiff, Nat.reduceEqDiff, Int.reduceToNat])))
    all_goals (try omega)
    all_goals (try (simp only [List.length_append, List.length_cons, List.length_nil]; omega))
    · rename_i hr
      have e : r.toNat = (r - 1).toNat + 1 := by omega
      refine back_intro ((r - 1, (d99 z).2, out ++ [(d99 z).1])) ?_ ?_ (sub_shp hN [(0, some 0), (20000, some 60064)] ?_)
      · refine ⟨by simp only [List.length_append, List.length_cons, List.length_nil]; omega, ?_⟩
        simp only
        rw [g2, e, rep, List.append_assoc]
        rfl
      · simp only; omega
      · simp (disch := exact eqId (by kernel_rfl)) only [go_sem, ↓reduceIte, Nat.reduceAdd, Nat.reduceMul, Nat.reduceLT, Nat.reduceBEq, Nat.reduceLeDiff, Nat.reduceEqDiff, Int.reduceToNat]
        first | exact ⟨rfl, wrap_i64 (by omega) (by omega)⟩ | exact wrap_i64 (by omega) (by omega) | trace_state
    all_goals (try (show Nat.ble _ _ = true; rfl))
    all_goals
      rename_i hr
      rw [show r.toNat = 0 from by omega, rep, List.append_nil] at g2
      unfold d17
      rw [g2]
theorem l19Make_ok (ks : List tKey.den) (l : List tAuthority.den) (m leaf : Int) (ot : List Int) (ct : Int) (ids : List Int) (q tm : Int) (ho : ot.length ≤ 1000) (hi : ids.length ≤ 1000) : FunOK Tryz.prog 36 [⟨(.list tKey), ks⟩, ⟨(.list tAuthority), l⟩, ⟨I, m⟩, ⟨I, leaf⟩, ⟨(.list I), ot⟩, ⟨I, ct⟩, ⟨(.list I), ids⟩, ⟨I, q⟩, ⟨I, tm⟩] (.rd tRenewal (mkR ks l m leaf ot ct ids q tm)) := by
  refine fun_of (tb := tb) follows Tryz.func36 (by kernel_rfl) Tryz.ntmps36 rfl rfl rfl ?_; intro cx hN hw
  simp (disch := exact eqId (by kernel_rfl)) only [go_sem, ↓reduceIte, Nat.reduceAdd, Nat.reduceMul, Nat.reduceLT, Nat.reduceBEq, Nat.reduceLeDiff, Nat.reduceEqDiff, Int.reduceToNat]
  repeat' (first | (refine And.intro ?_ ?_) | intro _ | (refine callQ_intro (spec_TreeRoot_ok _ _) ?_; try (simp (disch := exact eqId (by kernel_rfl)) only [go_sem, ↓reduceIte, Nat.reduceAdd, Nat.reduceMul, Nat.reduceLT, Nat.reduceBEq, Nat.reduceLeDiff, Nat.reduceEqDiff, Int.reduceToNat])) | (refine callH_intro (fun hcc => spec_TreeRoot_ok _ _) ?_; try (simp (disch := exact eqId (by kernel_rfl)) only [go_sem, ↓reduceIte, Nat.reduceAdd, Nat.reduceMul, Nat.reduceLT, Nat.reduceBEq, Nat.reduceLeDiff, Nat.reduceEqDiff, Int.reduceToNat])) | (refine callQ_intro (spec_TreePath_ok _ _ _) ?_; try (simp (disch := exact eqId (by kernel_rfl)) only [go_sem, ↓reduceIte, Nat.reduceAdd, Nat.reduceMul, Nat.reduceLT, Nat.reduceBEq, Nat.reduceLeDiff, Nat.reduceEqDiff, Int.reduceToNat])) | (refine callH_intro (fun hcc => spec_TreePath_ok _ _ _) ?_; try (simp (disch := exact eqId (by kernel_rfl)) only [go_sem, ↓reduceIte, Nat.reduceAdd, Nat.reduceMul, Nat.reduceLT, Nat.reduceBEq, Nat.reduceLeDiff, Nat.reduceEqDiff, Int.reduceToNat])))
  all_goals (try omega)
  all_goals (try (simp only [List.length_append, List.length_cons, List.length_nil]; omega))
  refine loop_intro (tb := tb) follows hN (D := Nat) (fun d => shp [(0, .rd (.list tKey) (ks)), (1, .rd (.list tAuthority) (l)), (6, .rd (.list I) (ids)), (7, .rd I (q : Int)), (8, .rd I (tm : Int)), (18, .bp 10000 0), (20, .bp 30192 0), (21, .rd I (d : Int))] [(10000, .box 29 [.rd I 0, .rd I 0, .rd I 0, .nils, .nils]), (30192, .box 29 [.rd I ct, .rd I m, .rd I (rootF m (ot ++ [leaf])), .rd (.list tStep) (pathF m (ot ++ [leaf]) (IntKind.i64.wrap (((ot ++ [leaf]).length : Int) - 1))), .own 90000]), (90000, .row 35 tStamp ((ids.take d).flatMap (mkT ks l q tm (rootF m (ot ++ [leaf])))))]) (fun d => d ≤ ids.length) (fun d => ids.length - d) (0) ?_ (sub_shp hN [(10000, some 10000), (30192, some 30192), (90000, none)] ?_) (fun d hd => ?_)
  · exact Nat.zero_le _
  · simp (disch := exact eqId (by kernel_rfl)) only [go_sem, ↓reduceIte, Nat.reduceAdd, Nat.reduceMul, Nat.reduceLT, Nat.reduceBEq, Nat.reduceLeDiff, Nat.reduceEqDiff, Int.reduceToNat]
    try exact ⟨rfl, rfl⟩
    try rfl
  · have hl := mkT_all ks l q tm (rootF m (ot ++ [leaf])) (ids.take d)
    rw [List.length_take] at hl
    have hst := fun (hk : d < ids.length) => take_flat (mkT ks l q tm (rootF m (ot ++ [leaf]))) hk 0
    simp (disch := exact eqId (by kernel_rfl)) only [go_sem, ↓reduceIte, Nat.reduceAdd, Nat.reduceMul, Nat.reduceLT, Nat.reduceBEq, Nat.reduceLeDiff, Nat.reduceEqDiff, Int.reduceToNat]
    repeat' (first | (refine And.intro ?_ ?_) | intro _ | (refine callQ_intro (spec_MakeStamp_ok _ _ _) ?_; try (simp (disch := exact eqId (by kernel_rfl)) only [go_sem, ↓reduceIte, Nat.reduceAdd, Nat.reduceMul, Nat.reduceLT, Nat.reduceBEq, Nat.reduceLeDiff, Nat.reduceEqDiff, Int.reduceToNat])) | (refine callH_intro (fun hcc => spec_MakeStamp_ok _ _ _) ?_; try (simp (disch := exact eqId (by kernel_rfl)) only [go_sem, ↓reduceIte, Nat.reduceAdd, Nat.reduceMul, Nat.reduceLT, Nat.reduceBEq, Nat.reduceLeDiff, Nat.reduceEqDiff, Int.reduceToNat])))
    all_goals (try omega)
    all_goals (try (simp only [List.length_append, List.length_cons, List.length_nil]; omega))
    · rename_i hk hc
      refine back_intro (d + 1) ?_ ?_ (sub_shp hN [(10000, some 10000), (30192, some 30192), (90000, some 90064)] ?_)
      · omega
      · omega
      · simp (disch := exact eqId (by kernel_rfl)) only [go_sem, ↓reduceIte, Nat.reduceAdd, Nat.reduceMul, Nat.reduceLT, Nat.reduceBEq, Nat.reduceLeDiff, Nat.reduceEqDiff, Int.reduceToNat]
        refine ⟨?_, wrap_succ' (by omega)⟩
        rw [hst (by omega)]
        exact congrArg _ (if_pos hc).symm
    · rename_i hk hc
      refine back_intro (d + 1) ?_ ?_ (sub_shp hN [(10000, some 10000), (30192, some 30192), (90000, some 90000)] ?_)
      · omega
      · omega
      · simp (disch := exact eqId (by kernel_rfl)) only [go_sem, ↓reduceIte, Nat.reduceAdd, Nat.reduceMul, Nat.reduceLT, Nat.reduceBEq, Nat.reduceLeDiff, Nat.reduceEqDiff, Int.reduceToNat]
        refine ⟨?_, wrap_succ' (by omega)⟩
        rw [hst (by omega), show mkT ks l q tm (rootF m (ot ++ [leaf])) (ids.getD d 0) = [] from if_neg (by rw [hc]; decide), List.append_nil]
    · rename_i hk
      have : d = ids.length := by omega
      subst this
      rw [List.take_length]
      rfl
theorem l19Copy_ok (r : tRenewal.den) (h1 : r.2.2.2.1.length ≤ 100000) (h2 : r.2.2.2.2.1.length ≤ 100000) : FunOK Tryz.prog 39 [⟨tRenewal, r⟩] (.agg [.rd I r.1, .rd I r.2.1, .rd I r.2.2.1, .own 62 tStep r.2.2.2.1, .own 35 tStamp r.2.2.2.2.1]) := by
  refine fun_of (tb := tb) follows Tryz.func39 (by kernel_rfl) Tryz.ntmps39 rfl rfl rfl ?_; intro cx hN hw
  simp (disch := exact eqId (by kernel_rfl)) only [go_sem, ↓reduceIte, Nat.reduceAdd, Nat.reduceMul, Nat.reduceLT, Nat.reduceBEq, Nat.reduceLeDiff, Nat.reduceEqDiff, Int.reduceToNat]
  repeat' (first | (refine And.intro ?_ ?_) | intro _)
  all_goals (try omega)
theorem l19Copy_fr (r : tRenewal.den) (h1 : r.2.2.2.1.length ≤ 100000) (h2 : r.2.2.2.2.1.length ≤ 100000) : FunOK Tryz.prog 39 [⟨tRenewal, r⟩] (.agg [.rd I r.1, .rd I r.2.1, .rd I r.2.2.1, .fresh 62 tStep r.2.2.2.1, .fresh 35 tStamp r.2.2.2.2.1]) := (l19Copy_ok r h1 h2).fr rfl
theorem l19Bend_ok (s : Cu) (r : tRenewal.den) (h1 : r.2.2.2.1.length ≤ 100000) (h2 : r.2.2.2.2.1.length ≤ 100000) : MutOK Tryz.prog 18 [none, none] [.obj (.box 76 [.rd (.list (.int .u8)) (s).b, .rd I (s).i, .rd I (s).h]), .rd ⟨tRenewal, r⟩] (.rd tRenewal (d19B s r).1) [.box 76 [.rd (.list (.int .u8)) ((d19B s r).2).b, .rd I ((d19B s r).2).i, .rd I ((d19B s r).2).h]] := by
  by_cases hk : (dB s 10).1 = 5
  · refine fun_ofMS (tb := tb) follows Tryz.func18 (by kernel_rfl) Tryz.ntmps18 rfl rfl (by simp [shOK]) rfl ?_; intro cx hN hw
    simp (disch := exact eqId (by kernel_rfl)) only [go_sem, ↓reduceIte, Nat.reduceAdd, Nat.reduceMul, Nat.reduceLT, Nat.reduceBEq, Nat.reduceLeDiff, Nat.reduceEqDiff, Int.reduceToNat]
    repeat' (first | (refine And.intro ?_ ?_) | intro _ | (exfalso; omega) | (refine callM_intro (l4Raw_ok _) ⟨⟨trivial, by decide⟩, rfl, rfl⟩ ?_; try (simp (disch := exact eqId (by kernel_rfl)) only [go_sem, ↓reduceIte, Nat.reduceAdd, Nat.reduceMul, Nat.reduceLT, Nat.reduceBEq, Nat.reduceLeDiff, Nat.reduceEqDiff, Int.reduceToNat])) | (refine callM_intro (dB_ok _ _) ⟨⟨trivial, by decide⟩, rfl, rfl⟩ ?_; try (simp (disch := exact eqId (by kernel_rfl)) only [go_sem, ↓reduceIte, Nat.reduceAdd, Nat.reduceMul, Nat.reduceLT, Nat.reduceBEq, Nat.reduceLeDiff, Nat.reduceEqDiff, Int.reduceToNat])) | (refine callQ_intro (l19Copy_fr _ h1 h2) ?_; try (simp (disch := exact eqId (by kernel_rfl)) only [go_sem, ↓reduceIte, Nat.reduceAdd, Nat.reduceMul, Nat.reduceLT, Nat.reduceBEq, Nat.reduceLeDiff, Nat.reduceEqDiff, Int.reduceToNat])) | (refine callH_intro (fun hcc => l19Copy_fr _ h1 h2) ?_; try (simp (disch := exact eqId (by kernel_rfl)) only [go_sem, ↓reduceIte, Nat.reduceAdd, Nat.reduceMul, Nat.reduceLT, Nat.reduceBEq, Nat.reduceLeDiff, Nat.reduceEqDiff, Int.reduceToNat])))
    all_goals (try (exfalso; omega))
    all_goals (try omega)
    all_goals (try (show Nat.ble _ _ = true; rfl))
    all_goals (try (unfold d19B; simp only [*, ↓reduceIte]; done))
    all_goals (try (unfold d19B; simp only [hk]; rfl))
    all_goals (try (unfold d19B; simp only [*]; rfl))
    all_goals trace_state
  · refine fun_ofMS (tb := tb) follows Tryz.func18 (by kernel_rfl) Tryz.ntmps18 rfl rfl (by simp [shOK]) rfl ?_; intro cx hN hw
    simp (disch := exact eqId (by kernel_rfl)) only [go_sem, ↓reduceIte, Nat.reduceAdd, Nat.reduceMul, Nat.reduceLT, Nat.reduceBEq, Nat.reduceLeDiff, Nat.reduceEqDiff, Int.reduceToNat]
    repeat' (first | (refine And.intro ?_ ?_) | intro _ | (exfalso; omega) | (refine callM_intro (dI_ok _ [-1, 0, 3] (by decide)) ⟨⟨trivial, by decide⟩, rfl, rfl⟩ ?_; try (simp (disch := exact eqId (by kernel_rfl)) only [go_sem, ↓reduceIte, Nat.reduceAdd, Nat.reduceMul, Nat.reduceLT, Nat.reduceBEq, Nat.reduceLeDiff, Nat.reduceEqDiff, Int.reduceToNat])) | (refine callM_intro (l11Bent_ok _) ⟨⟨trivial, by decide⟩, rfl, rfl⟩ ?_; try (simp (disch := exact eqId (by kernel_rfl)) only [go_sem, ↓reduceIte, Nat.reduceAdd, Nat.reduceMul, Nat.reduceLT, Nat.reduceBEq, Nat.reduceLeDiff, Nat.reduceEqDiff, Int.reduceToNat])) | (refine callM_intro (l4Raw_ok _) ⟨⟨trivial, by decide⟩, rfl, rfl⟩ ?_; try (simp (disch := exact eqId (by kernel_rfl)) only [go_sem, ↓reduceIte, Nat.reduceAdd, Nat.reduceMul, Nat.reduceLT, Nat.reduceBEq, Nat.reduceLeDiff, Nat.reduceEqDiff, Int.reduceToNat])) | (refine callM_intro (dB_ok _ _) ⟨⟨trivial, by decide⟩, rfl, rfl⟩ ?_; try (simp (disch := exact eqId (by kernel_rfl)) only [go_sem, ↓reduceIte, Nat.reduceAdd, Nat.reduceMul, Nat.reduceLT, Nat.reduceBEq, Nat.reduceLeDiff, Nat.reduceEqDiff, Int.reduceToNat])) | (refine callQ_intro (l19Copy_ok _ h1 h2) ?_; try (simp (disch := exact eqId (by kernel_rfl)) only [go_sem, ↓reduceIte, Nat.reduceAdd, Nat.reduceMul, Nat.reduceLT, Nat.reduceBEq, Nat.reduceLeDiff, Nat.reduceEqDiff, Int.reduceToNat])) | (refine callH_intro (fun hcc => l19Copy_ok _ h1 h2) ?_; try (simp (disch := exact eqId (by kernel_rfl)) only [go_sem, ↓reduceIte, Nat.reduceAdd, Nat.reduceMul, Nat.reduceLT, Nat.reduceBEq, Nat.reduceLeDiff, Nat.reduceEqDiff, Int.reduceToNat])))
    all_goals (try (exfalso; omega))
    all_goals (try omega)
    all_goals (try (show Nat.ble _ _ = true; rfl))
    all_goals (try (unfold d19B; simp only [*, ↓reduceIte]; done))
    all_goals (try (unfold d19B; simp only [hk]; rfl))
    all_goals (try (unfold d19B; simp only [*]; rfl))
    all_goals trace_state
theorem l19Bend_ag (s : Cu) (r : tRenewal.den) (h1 : r.2.2.2.1.length ≤ 100000) (h2 : r.2.2.2.2.1.length ≤ 100000) : MutOK Tryz.prog 18 [none, some 5] [.obj (.box 76 [.rd (.list (.int .u8)) (s).b, .rd I (s).i, .rd I (s).h]), .rd ⟨I, r.1⟩, .rd ⟨I, r.2.1⟩, .rd ⟨I, r.2.2.1⟩, .rd ⟨(.list tStep), r.2.2.2.1⟩, .rd ⟨(.list tStamp), r.2.2.2.2.1⟩] (.rd tRenewal (d19B s r).1) [.box 76 [.rd (.list (.int .u8)) ((d19B s r).2).b, .rd I ((d19B s r).2).i, .rd I ((d19B s r).2).h]] := by
  by_cases hk : (dB s 10).1 = 5
  · refine fun_ofMS (tb := tb) follows Tryz.func18 (by kernel_rfl) Tryz.ntmps18 rfl rfl (by simp [shOK]) rfl ?_; intro cx hN hw
    simp (disch := exact eqId (by kernel_rfl)) only [go_sem, ↓reduceIte, Nat.reduceAdd, Nat.reduceMul, Nat.reduceLT, Nat.reduceBEq, Nat.reduceLeDiff, Nat.reduceEqDiff, Int.reduceToNat]
    repeat' (first | (refine And.intro ?_ ?_) | intro _ | (exfalso; omega) | (refine callM_intro (l4Raw_ok _) ⟨⟨trivial, by decide⟩, rfl, rfl⟩ ?_; try (simp (disch := exact eqId (by kernel_rfl)) only [go_sem, ↓reduceIte, Nat.reduceAdd, Nat.reduceMul, Nat.reduceLT, Nat.reduceBEq, Nat.reduceLeDiff, Nat.reduceEqDiff, Int.reduceToNat])) | (refine callM_intro (dB_ok _ _) ⟨⟨trivial, by decide⟩, rfl, rfl⟩ ?_; try (simp (disch := exact eqId (by kernel_rfl)) only [go_sem, ↓reduceIte, Nat.reduceAdd, Nat.reduceMul, Nat.reduceLT, Nat.reduceBEq, Nat.reduceLeDiff, Nat.reduceEqDiff, Int.reduceToNat])) | (refine callQ_intro (l19Copy_fr _ h1 h2) ?_; try (simp (disch := exact eqId (by kernel_rfl)) only [go_sem, ↓reduceIte, Nat.reduceAdd, Nat.reduceMul, Nat.reduceLT, Nat.reduceBEq, Nat.reduceLeDiff, Nat.reduceEqDiff, Int.reduceToNat])) | (refine callH_intro (fun hcc => l19Copy_fr _ h1 h2) ?_; try (simp (disch := exact eqId (by kernel_rfl)) only [go_sem, ↓reduceIte, Nat.reduceAdd, Nat.reduceMul, Nat.reduceLT, Nat.reduceBEq, Nat.reduceLeDiff, Nat.reduceEqDiff, Int.reduceToNat])))
    all_goals (try (exfalso; omega))
    all_goals (try omega)
    all_goals (try (show Nat.ble _ _ = true; rfl))
    all_goals (try (unfold d19B; simp only [*, ↓reduceIte]; done))
    all_goals (try (unfold d19B; simp only [hk]; rfl))
    all_goals (try (unfold d19B; simp only [*]; rfl))
    all_goals trace_state
  · refine fun_ofMS (tb := tb) follows Tryz.func18 (by kernel_rfl) Tryz.ntmps18 rfl rfl (by simp [shOK]) rfl ?_; intro cx hN hw
    simp (disch := exact eqId (by kernel_rfl)) only [go_sem, ↓reduceIte, Nat.reduceAdd, Nat.reduceMul, Nat.reduceLT, Nat.reduceBEq, Nat.reduceLeDiff, Nat.reduceEqDiff, Int.reduceToNat]
    repeat' (first | (refine And.intro ?_ ?_) | intro _ | (exfalso; omega) | (refine callM_intro (dI_ok _ [-1, 0, 3] (by decide)) ⟨⟨trivial, by decide⟩, rfl, rfl⟩ ?_; try (simp (disch := exact eqId (by kernel_rfl)) only [go_sem, ↓reduceIte, Nat.reduceAdd, Nat.reduceMul, Nat.reduceLT, Nat.reduceBEq, Nat.reduceLeDiff, Nat.reduceEqDiff, Int.reduceToNat])) | (refine callM_intro (l11Bent_ok _) ⟨⟨trivial, by decide⟩, rfl, rfl⟩ ?_; try (simp (disch := exact eqId (by kernel_rfl)) only [go_sem, ↓reduceIte, Nat.reduceAdd, Nat.reduceMul, Nat.reduceLT, Nat.reduceBEq, Nat.reduceLeDiff, Nat.reduceEqDiff, Int.reduceToNat])) | (refine callM_intro (l4Raw_ok _) ⟨⟨trivial, by decide⟩, rfl, rfl⟩ ?_; try (simp (disch := exact eqId (by kernel_rfl)) only [go_sem, ↓reduceIte, Nat.reduceAdd, Nat.reduceMul, Nat.reduceLT, Nat.reduceBEq, Nat.reduceLeDiff, Nat.reduceEqDiff, Int.reduceToNat])) | (refine callM_intro (dB_ok _ _) ⟨⟨trivial, by decide⟩, rfl, rfl⟩ ?_; try (simp (disch := exact eqId (by kernel_rfl)) only [go_sem, ↓reduceIte, Nat.reduceAdd, Nat.reduceMul, Nat.reduceLT, Nat.reduceBEq, Nat.reduceLeDiff, Nat.reduceEqDiff, Int.reduceToNat])) | (refine callQ_intro (l19Copy_ok _ h1 h2) ?_; try (simp (disch := exact eqId (by kernel_rfl)) only [go_sem, ↓reduceIte, Nat.reduceAdd, Nat.reduceMul, Nat.reduceLT, Nat.reduceBEq, Nat.reduceLeDiff, Nat.reduceEqDiff, Int.reduceToNat])) | (refine callH_intro (fun hcc => l19Copy_ok _ h1 h2) ?_; try (simp (disch := exact eqId (by kernel_rfl)) only [go_sem, ↓reduceIte, Nat.reduceAdd, Nat.reduceMul, Nat.reduceLT, Nat.reduceBEq, Nat.reduceLeDiff, Nat.reduceEqDiff, Int.reduceToNat])))
    all_goals (try (exfalso; omega))
    all_goals (try omega)
    all_goals (try (show Nat.ble _ _ = true; rfl))
    all_goals (try (unfold d19B; simp only [*, ↓reduceIte]; done))
    all_goals (try (unfold d19B; simp only [hk]; rfl))
    all_goals (try (unfold d19B; simp only [*]; rfl))
    all_goals trace_state
theorem l19Draw_ok (s : Cu) (leaf : Int) (ct : Int) (tm : Int) : MutOK Tryz.prog 15 [none, none, none, none] [.obj (.box 76 [.rd (.list (.int .u8)) (s).b, .rd I (s).i, .rd I (s).h]), .rd ⟨I, leaf⟩, .rd ⟨I, ct⟩, .rd ⟨I, tm⟩] (.rd tRenewal (d19 s leaf ct tm).1) [.box 76 [.rd (.list (.int .u8)) ((d19 s leaf ct tm).2).b, .rd I ((d19 s leaf ct tm).2).i, .rd I ((d19 s leaf ct tm).2).h]] := by
  have h1 := dB_in s (n := 4) (by decide)
  have h2 : IntKind.i64.wrap (1 + (dB s 4).1) = 1 + (dB s 4).1 := wrap_i64 (by omega) (by omega)
  have h3 := d17_len (dB (dB s 4).2 4).2 (n := 4) (by decide)
  refine fun_ofM (tb := tb) follows Tryz.func15 (by kernel_rfl) Tryz.ntmps15 rfl rfl (by simp [shOK]) rfl ?_; intro cx hN hw
  simp (disch := exact eqId (by kernel_rfl)) only [go_sem, ↓reduceIte, Nat.reduceAdd, Nat.reduceMul, Nat.reduceLT, Nat.reduceBEq, Nat.reduceLeDiff, Nat.reduceEqDiff, Int.reduceToNat]
  repeat' (first | (refine And.intro ?_ ?_) | intro _ | (refine callM_intro (dB_ok _ _) ⟨⟨trivial, by decide⟩, rfl, rfl⟩ ?_; try (simp (disch := exact eqId (by kernel_rfl)) only [go_sem, ↓reduceIte, Nat.reduceAdd, Nat.reduceMul, Nat.reduceLT, Nat.reduceBEq, Nat.reduceLeDiff, Nat.reduceEqDiff, Int.reduceToNat])) | (refine callM_intro (l17Leaves_ok _ 4 (by decide)) ⟨⟨trivial, by decide⟩, rfl, rfl⟩ ?_; try (simp (disch := exact eqId (by kernel_rfl)) only [go_sem, ↓reduceIte, Nat.reduceAdd, Nat.reduceMul, Nat.reduceLT, Nat.reduceBEq, Nat.reduceLeDiff, Nat.reduceEqDiff, Int.reduceToNat])) | (refine callQ_intro (l8Keys_ok) ?_; try (simp (disch := exact eqId (by kernel_rfl)) only [go_sem, ↓reduceIte, Nat.reduceAdd, Nat.reduceMul, Nat.reduceLT, Nat.reduceBEq, Nat.reduceLeDiff, Nat.reduceEqDiff, Int.reduceToNat])) | (refine callH_intro (fun hcc => l8Keys_ok) ?_; try (simp (disch := exact eqId (by kernel_rfl)) only [go_sem, ↓reduceIte, Nat.reduceAdd, Nat.reduceMul, Nat.reduceLT, Nat.reduceBEq, Nat.reduceLeDiff, Nat.reduceEqDiff, Int.reduceToNat])) | (refine callQ_intro (l11Authorities_ok) ?_; try (simp (disch := exact eqId (by kernel_rfl)) only [go_sem, ↓reduceIte, Nat.reduceAdd, Nat.reduceMul, Nat.reduceLT, Nat.reduceBEq, Nat.reduceLeDiff, Nat.reduceEqDiff, Int.reduceToNat])) | (refine callH_intro (fun hcc => l11Authorities_ok) ?_; try (simp (disch := exact eqId (by kernel_rfl)) only [go_sem, ↓reduceIte, Nat.reduceAdd, Nat.reduceMul, Nat.reduceLT, Nat.reduceBEq, Nat.reduceLeDiff, Nat.reduceEqDiff, Int.reduceToNat])) | (refine callQ_intro (l19Make_ok _ _ _ _ _ _ _ _ _ (by omega) (by simp only [List.length_take, List.length_cons, List.length_nil]; omega)) ?_; try (simp (disch := exact eqId (by kernel_rfl)) only [go_sem, ↓reduceIte, Nat.reduceAdd, Nat.reduceMul, Nat.reduceLT, Nat.reduceBEq, Nat.reduceLeDiff, Nat.reduceEqDiff, Int.reduceToNat])) | (refine callH_intro (fun hcc => l19Make_ok _ _ _ _ _ _ _ _ _ (by omega) (by simp only [List.length_take, List.length_cons, List.length_nil]; omega)) ?_; try (simp (disch := exact eqId (by kernel_rfl)) only [go_sem, ↓reduceIte, Nat.reduceAdd, Nat.reduceMul, Nat.reduceLT, Nat.reduceBEq, Nat.reduceLeDiff, Nat.reduceEqDiff, Int.reduceToNat])))
  all_goals (try omega)
  all_goals (try (show Nat.ble _ _ = true; rfl))
  all_goals (try (unfold d19; simp only [*, ↓reduceIte]; done))
  all_goals (try (unfold d19; simp only [*, ↓reduceIte]; first | rfl | exact ⟨rfl, rfl⟩ | exact ⟨rfl, rfl, rfl⟩))
end Go.Proofs.YtgelnbhmalgliaaGreat
/- What the draws of renewals and leaves answer. It proves nothing of a statement by itself. -/
set_option linter.unusedSimpArgs false
set_option linter.unusedVariables false
set_option maxRecDepth 100000
namespace Go.Proofs.YtgelnbhmalgliaaGreat
open Go.AL
theorem d19_len (s : Cu) (leaf ct tm : Int) : (d19 s leaf ct tm).1.2.2.2.1.length ≤ 1000 ∧ (d19 s leaf ct tm).1.2.2.2.2.1.length ≤ 4 := by
  refine ⟨path_len _ _ _, Nat.le_trans (mkT_all _ _ _ _ _ _) ?_⟩
  rw [List.length_take]
  exact Nat.min_le_right _ _
def d19P (s : Cu) : List tPiece.den × Cu := rep d18D (IntKind.i64.wrap (1 + (dB s 3).1)).toNat (dB s 3).2
theorem d19P_len (s : Cu) : (d19P s).1.length ≤ 3 := by
  have h1 := dB_in s (n := 3) (by decide)
  have h2 : IntKind.i64.wrap (1 + (dB s 3).1) = 1 + (dB s 3).1 := wrap_i64 (by omega) (by omega)
  unfold d19P
  rw [rep_len, h2]
  omega
theorem d19P_all (s : Cu) (p : tPiece.den) (h : p ∈ (d19P s).1) : p.2.1.length ≤ 9 :=
  rep_all (p := fun p : tPiece.den => p.2.1.length ≤ 9) (fun s => (d18D_len s).2) _ _ p h
def dCR (b : List Int) (hb : b.length ≤ maxLen) : (List tKey.den × List tAuthority.den × tRenewal.den × Int) :=
  let t := dB (cu0 b hb) 60
  let r := d19 t.2 7 1 t.1
  let o := dO r.2 2
  let r2 := if o.1 = true then d19B o.2 r.1 else (r.1, o.2)
  let p := dO r2.2 6
  let n : Int := if p.1 = true then 8 else 7
  let q := dO p.2 6
  if q.1 = true then ((d8A q.2).1, (d11A (d8A q.2).2).1, r2.1, n) else (K8, A4, r2.1, n)
def dPD (b : List Int) (hb : b.length ≤ maxLen) : Int × List tPiece.den := ((dB (cu0 b hb) 5).1, (d19P (dB (cu0 b hb) 5).2).1)
theorem l19Pieces_ok (s : Cu) : MutOK Tryz.prog 47 [none] [.obj (.box 76 [.rd (.list (.int .u8)) (s).b, .rd I (s).i, .rd I (s).h])] (.rd (.list tPiece) (d19P s).1) [.box 76 [.rd (.list (.int .u8)) ((d19P s).2).b, .rd I ((d19P s).2).i, .rd I ((d19P s).2).h]] := by
  have hj := dB_in s (n := 3) (by decide)
  have hn : IntKind.i64.wrap (1 + (dB s 3).1) = 1 + (dB s 3).1 := wrap_i64 (by omega) (by omega)
  refine fun_ofM (tb := tb) follows Tryz.func47 (by kernel_rfl) Tryz.ntmps47 rfl rfl (by simp [shOK]) rfl ?_; intro cx hN hw
  simp (disch := exact eqId (by kernel_rfl)) only [go_sem, ↓reduceIte, Nat.reduceAdd, Nat.reduceMul, Nat.reduceLT, Nat.reduceBEq, Nat.reduceLeDiff, Nat.reduceEqDiff, Int.reduceToNat]
  refine callM_intro (dB_ok _ _) ⟨⟨trivial, by decide⟩, rfl, rfl⟩ ?_
  simp (disch := exact eqId (by kernel_rfl)) only [go_sem, ↓reduceIte, Nat.reduceAdd, Nat.reduceMul, Nat.reduceLT, Nat.reduceBEq, Nat.reduceLeDiff, Nat.reduceEqDiff, Int.reduceToNat]
  refine loop_intro (tb := tb) follows hN (D := Int × Cu × (List tPiece.den)) (fun d => shp [(0, .bp 0 0), (3, .own 20000), (4, .rd I (d.1 : Int))] [(0, .box 76 [.rd (.list (.int .u8)) (d.2.1).b, .rd I (d.2.1).i, .rd I (d.2.1).h]), (20000, .row 47 tPiece d.2.2)]) (fun d => d.2.2.length + d.1.toNat ≤ 256 ∧ rep d18D (IntKind.i64.wrap (1 + (dB s 3).1)).toNat (dB s 3).2 = (d.2.2 ++ (rep d18D d.1.toNat d.2.1).1, (rep d18D d.1.toNat d.2.1).2)) (fun d => d.1.toNat) ((IntKind.i64.wrap (1 + (dB s 3).1), (dB s 3).2, [])) ?_ (sub_shp hN [(0, some 0), (20000, some 20000)] ?_) (fun d hd => ?_)
  · refine ⟨by simp only [List.length_nil]; omega, rfl⟩
  · simp (disch := exact eqId (by kernel_rfl)) only [go_sem, ↓reduceIte, Nat.reduceAdd, Nat.reduceMul, Nat.reduceLT, Nat.reduceBEq, Nat.reduceLeDiff, Nat.reduceEqDiff, Int.reduceToNat]
    try exact ⟨rfl, rfl⟩
    try rfl
  · obtain ⟨r, z, out⟩ := d
    obtain ⟨g1, g2⟩ := hd
    simp only at g1 g2
    simp (disch := exact eqId (by kernel_rfl)) only [go_sem, ↓reduceIte, Nat.reduceAdd, Nat.reduceMul, Nat.reduceLT, Nat.reduceBEq, Nat.reduceLeDiff, Nat.reduceEqDiff, Int.reduceToNat]
    repeat' (first | (refine And.intro ?_ ?_) | intro _ | (refine callM_intro (l18Draw_ok _) ⟨⟨trivial, by decide⟩, rfl, rfl⟩ ?_; try (simp (disch := exact eqId (by kernel_rfl)) only [go_sem, ↓reduceIte, Nat.reduceAdd, Nat.reduceMul, Nat.reduceLT, Nat.reduceBEq, Nat.reduceLeDiff, Nat.reduceEqDiff, Int.reduceToNat])))
    all_goals (try omega)
    all_goals (try (simp only [List.length_append, List.length_cons, List.length_nil]; omega))
    · rename_i hr
      have e : r.toNat = (r - 1).toNat + 1 := by omega
      refine back_intro ((r - 1, (d18D z).2, out ++ [(d18D z).1])) ?_ ?_ (sub_shp hN [(0, some 0), (20000, some 60064)] ?_)
      · refine ⟨by simp only [List.length_append, List.length_cons, List.length_nil]; omega, ?_⟩
        simp only
        rw [g2, e, rep, List.append_assoc]
        rfl
      · simp only; omega
      · simp (disch := exact eqId (by kernel_rfl)) only [go_sem, ↓reduceIte, Nat.reduceAdd, Nat.reduceMul, Nat.reduceLT, Nat.reduceBEq, Nat.reduceLeDiff, Nat.reduceEqDiff, Int.reduceToNat]
        first | exact ⟨rfl, wrap_i64 (by omega) (by omega)⟩ | exact wrap_i64 (by omega) (by omega) | trace_state
    all_goals (try (show Nat.ble _ _ = true; rfl))
    all_goals
      rename_i hr
      rw [show r.toNat = 0 from by omega, rep, List.append_nil] at g2
      unfold d19P
      rw [g2]
theorem DrawPiecesDigest_ok (b : List Int) (hb : b.length ≤ maxLen) : FunOK Tryz.prog 31 [⟨(.list (.int .u8)), b⟩] (.tup [.rd I (dPD b hb).1, .rd (.list tPiece) (dPD b hb).2]) := by
  refine fun_of (tb := tb) follows Tryz.func31 (by kernel_rfl) Tryz.ntmps31 rfl rfl rfl ?_; intro cx hN hw
  have hm : maxLen = 9223372036854775807 := rfl
  simp (disch := exact eqId (by kernel_rfl)) only [go_sem, ↓reduceIte, Nat.reduceAdd, Nat.reduceMul, Nat.reduceLT, Nat.reduceBEq, Nat.reduceLeDiff, Nat.reduceEqDiff, Int.reduceToNat]
  refine callI_intro (tb := tb) (rs := [.tmp 2]) follows Tryz.func14 (by kernel_rfl) rfl rfl Tryz.ntmps14 rfl ⟨trivial, trivial⟩ ?_
  intro cx2 hN2
  simp (disch := exact eqId (by kernel_rfl)) only [go_sem, ↓reduceIte, Nat.reduceAdd, Nat.reduceMul, Nat.reduceLT, Nat.reduceBEq, Nat.reduceLeDiff, Nat.reduceEqDiff, Int.reduceToNat]
  refine loop_introF (tb := tb.at 900000000000000) follows hN2 (D := Nat × Int) (fun d => shp [(0, .rd (.list (.int .u8)) b), (3, .rd I d.2), (4, .rd I (d.1 : Int))] []) (fun d => d.1 ≤ 4000 ∧ newH b = nwK b (4000 - d.1) d.1 d.2) (fun d => 4000 - d.1) (0, IntKind.i64.wrap (193017 + (b.length : Int))) ?_ (sub_shpF [] ?_) (fun d hd => ?_)
  · exact ⟨Nat.zero_le _, rfl⟩
  · simp (disch := exact eqId (by kernel_rfl)) only [go_sem, ↓reduceIte, Nat.reduceAdd, Nat.reduceMul, Nat.reduceLT, Nat.reduceBEq, Nat.reduceLeDiff, Nat.reduceEqDiff, Int.reduceToNat]
    try rfl
  · obtain ⟨k, h⟩ := d
    obtain ⟨h1, h2⟩ := hd
    simp only at h1 h2
    simp (disch := exact eqId (by kernel_rfl)) only [go_sem, ↓reduceIte, Nat.reduceAdd, Nat.reduceMul, Nat.reduceLT, Nat.reduceBEq, Nat.reduceLeDiff, Nat.reduceEqDiff, Int.reduceToNat]
    repeat' (first | (refine And.intro ?_ ?_) | intro _)
    all_goals (try omega)
    · rename_i hk
      refine back_intro (k + 1, nwG h (b.getD k 0)) ?_ ?_ (sub_shpF [] ?_)
      · refine ⟨by omega, ?_⟩
        simp only
        rw [h2, show 4000 - k = (4000 - (k + 1)) + 1 from by omega, nwK, if_pos (by omega)]
      · simp only; omega
      · simp (disch := exact eqId (by kernel_rfl)) only [go_sem, ↓reduceIte, Nat.reduceAdd, Nat.reduceMul, Nat.reduceLT, Nat.reduceBEq, Nat.reduceLeDiff, Nat.reduceEqDiff, Int.reduceToNat]
        first | exact ⟨rfl, wrap_i64 (by omega) (by omega)⟩ | exact wrap_i64 (by omega) (by omega) | trace_state
    · rename_i hk
      have hh : h = newH b := by
        rw [h2]
        exact (nwK_end (by omega)).symm
      subst hh
      clear h1 h2
      refine callM_intro (dB_ok (cu0 b hb) 5) ⟨⟨trivial, by decide⟩, rfl, rfl⟩ ?_
      simp (disch := exact eqId (by kernel_rfl)) only [go_sem, ↓reduceIte, Nat.reduceAdd, Nat.reduceMul, Nat.reduceLT, Nat.reduceBEq, Nat.reduceLeDiff, Nat.reduceEqDiff, Int.reduceToNat]
      repeat' (first | (refine And.intro ?_ ?_) | intro _ | (refine callM_intro (l19Pieces_ok _) ⟨⟨trivial, by decide⟩, rfl, rfl⟩ ?_; try (simp (disch := exact eqId (by kernel_rfl)) only [go_sem, ↓reduceIte, Nat.reduceAdd, Nat.reduceMul, Nat.reduceLT, Nat.reduceBEq, Nat.reduceLeDiff, Nat.reduceEqDiff, Int.reduceToNat])))
      all_goals (try omega)
      all_goals (try rfl)
theorem DrawLeafOf_ok (b : List Int) (hb : b.length ≤ maxLen) : FunOK Tryz.prog 11 [⟨(.list (.int .u8)), b⟩] (.tup [.rd I (dPD b hb).1, .rd I (dB (cu0 b hb) 99).1, .rd (.list tPiece) (dPD b hb).2, .rd I (dB (dB (cu0 b hb) 99).2 99).1]) := by
  refine fun_of (tb := tb) follows Tryz.func11 (by kernel_rfl) Tryz.ntmps11 rfl rfl rfl ?_; intro cx hN hw
  have hm : maxLen = 9223372036854775807 := rfl
  simp (disch := exact eqId (by kernel_rfl)) only [go_sem, ↓reduceIte, Nat.reduceAdd, Nat.reduceMul, Nat.reduceLT, Nat.reduceBEq, Nat.reduceLeDiff, Nat.reduceEqDiff, Int.reduceToNat]
  refine callQ_intro (DrawPiecesDigest_ok _ hb) ?_
  simp (disch := exact eqId (by kernel_rfl)) only [go_sem, ↓reduceIte, Nat.reduceAdd, Nat.reduceMul, Nat.reduceLT, Nat.reduceBEq, Nat.reduceLeDiff, Nat.reduceEqDiff, Int.reduceToNat]
  refine callI_intro (tb := tb) (rs := [.tmp 2]) follows Tryz.func14 (by kernel_rfl) rfl rfl Tryz.ntmps14 rfl ⟨trivial, trivial⟩ ?_
  intro cx2 hN2
  simp (disch := exact eqId (by kernel_rfl)) only [go_sem, ↓reduceIte, Nat.reduceAdd, Nat.reduceMul, Nat.reduceLT, Nat.reduceBEq, Nat.reduceLeDiff, Nat.reduceEqDiff, Int.reduceToNat]
  refine loop_introF (tb := tb.at 900000000000000) follows hN2 (D := Nat × Int) (fun d => shp [(0, .rd (.list (.int .u8)) b), (3, .rd I d.2), (4, .rd I (d.1 : Int))] []) (fun d => d.1 ≤ 4000 ∧ newH b = nwK b (4000 - d.1) d.1 d.2) (fun d => 4000 - d.1) (0, IntKind.i64.wrap (193017 + (b.length : Int))) ?_ (sub_shpF [] ?_) (fun d hd => ?_)
  · exact ⟨Nat.zero_le _, rfl⟩
  · simp (disch := exact eqId (by kernel_rfl)) only [go_sem, ↓reduceIte, Nat.reduceAdd, Nat.reduceMul, Nat.reduceLT, Nat.reduceBEq, Nat.reduceLeDiff, Nat.reduceEqDiff, Int.reduceToNat]
    try rfl
  · obtain ⟨k, h⟩ := d
    obtain ⟨h1, h2⟩ := hd
    simp only at h1 h2
    simp (disch := exact eqId (by kernel_rfl)) only [go_sem, ↓reduceIte, Nat.reduceAdd, Nat.reduceMul, Nat.reduceLT, Nat.reduceBEq, Nat.reduceLeDiff, Nat.reduceEqDiff, Int.reduceToNat]
    repeat' (first | (refine And.intro ?_ ?_) | intro _)
    all_goals (try omega)
    · rename_i hk
      refine back_intro (k + 1, nwG h (b.getD k 0)) ?_ ?_ (sub_shpF [] ?_)
      · refine ⟨by omega, ?_⟩
        simp only
        rw [h2, show 4000 - k = (4000 - (k + 1)) + 1 from by omega, nwK, if_pos (by omega)]
      · simp only; omega
      · simp (disch := exact eqId (by kernel_rfl)) only [go_sem, ↓reduceIte, Nat.reduceAdd, Nat.reduceMul, Nat.reduceLT, Nat.reduceBEq, Nat.reduceLeDiff, Nat.reduceEqDiff, Int.reduceToNat]
        first | exact ⟨rfl, wrap_i64 (by omega) (by omega)⟩ | exact wrap_i64 (by omega) (by omega) | trace_state
    · rename_i hk
      have hh : h = newH b := by
        rw [h2]
        exact (nwK_end (by omega)).symm
      subst hh
      clear h1 h2
      refine callM_intro (dB_ok (cu0 b hb) _) ⟨⟨trivial, by decide⟩, rfl, rfl⟩ ?_
      simp (disch := exact eqId (by kernel_rfl)) only [go_sem, ↓reduceIte, Nat.reduceAdd, Nat.reduceMul, Nat.reduceLT, Nat.reduceBEq, Nat.reduceLeDiff, Nat.reduceEqDiff, Int.reduceToNat]
      refine callM_intro (dB_ok _ _) ⟨⟨trivial, by decide⟩, rfl, rfl⟩ ?_
      simp (disch := exact eqId (by kernel_rfl)) only [go_sem, ↓reduceIte, Nat.reduceAdd, Nat.reduceMul, Nat.reduceLT, Nat.reduceBEq, Nat.reduceLeDiff, Nat.reduceEqDiff, Int.reduceToNat]
      try rfl
theorem DrawCheckRenewal_ok (b : List Int) (hb : b.length ≤ maxLen) : FunOK Tryz.prog 5 [⟨(.list (.int .u8)), b⟩] (.tup [.rd (.list tKey) (dCR b hb).1, .rd (.list tAuthority) (dCR b hb).2.1, .rd tRenewal (dCR b hb).2.2.1, .rd I (dCR b hb).2.2.2]) := by
  refine fun_of (tb := tb) follows Tryz.func5 (by kernel_rfl) Tryz.ntmps5 rfl rfl rfl ?_; intro cx hN hw
  have hm : maxLen = 9223372036854775807 := rfl
  simp (disch := exact eqId (by kernel_rfl)) only [go_sem, ↓reduceIte, Nat.reduceAdd, Nat.reduceMul, Nat.reduceLT, Nat.reduceBEq, Nat.reduceLeDiff, Nat.reduceEqDiff, Int.reduceToNat]
  refine callI_intro (tb := tb) (rs := [.tmp 2]) follows Tryz.func14 (by kernel_rfl) rfl rfl Tryz.ntmps14 rfl ⟨trivial, trivial⟩ ?_
  intro cx2 hN2
  simp (disch := exact eqId (by kernel_rfl)) only [go_sem, ↓reduceIte, Nat.reduceAdd, Nat.reduceMul, Nat.reduceLT, Nat.reduceBEq, Nat.reduceLeDiff, Nat.reduceEqDiff, Int.reduceToNat]
  refine loop_introF (tb := tb.at 900000000000000) follows hN2 (D := Nat × Int) (fun d => shp [(0, .rd (.list (.int .u8)) b), (3, .rd I d.2), (4, .rd I (d.1 : Int))] [(10032, .box 29 [.rd I 0, .rd I 0, .rd I 0, .nils, .nils])]) (fun d => d.1 ≤ 4000 ∧ newH b = nwK b (4000 - d.1) d.1 d.2) (fun d => 4000 - d.1) (0, IntKind.i64.wrap (193017 + (b.length : Int))) ?_ (sub_shpF [(10032, some 10032)] ?_) (fun d hd => ?_)
  · exact ⟨Nat.zero_le _, rfl⟩
  · simp (disch := exact eqId (by kernel_rfl)) only [go_sem, ↓reduceIte, Nat.reduceAdd, Nat.reduceMul, Nat.reduceLT, Nat.reduceBEq, Nat.reduceLeDiff, Nat.reduceEqDiff, Int.reduceToNat]
    try rfl
  · obtain ⟨k, h⟩ := d
    obtain ⟨h1, h2⟩ := hd
    simp only at h1 h2
    simp (disch := exact eqId (by kernel_rfl)) only [go_sem, ↓reduceIte, Nat.reduceAdd, Nat.reduceMul, Nat.reduceLT, Nat.reduceBEq, Nat.reduceLeDiff, Nat.reduceEqDiff, Int.reduceToNat]
    repeat' (first | (refine And.intro ?_ ?_) | intro _)
    all_goals (try omega)
    · rename_i hk
      refine back_intro (k + 1, nwG h (b.getD k 0)) ?_ ?_ (sub_shpF [(10032, some 10032)] ?_)
      · refine ⟨by omega, ?_⟩
        simp only
        rw [h2, show 4000 - k = (4000 - (k + 1)) + 1 from by omega, nwK, if_pos (by omega)]
      · simp only; omega
      · simp (disch := exact eqId (by kernel_rfl)) only [go_sem, ↓reduceIte, Nat.reduceAdd, Nat.reduceMul, Nat.reduceLT, Nat.reduceBEq, Nat.reduceLeDiff, Nat.reduceEqDiff, Int.reduceToNat]
        first | exact ⟨rfl, wrap_i64 (by omega) (by omega)⟩ | exact wrap_i64 (by omega) (by omega) | trace_state
    · rename_i hk
      have hh : h = newH b := by
        rw [h2]
        exact (nwK_end (by omega)).symm
      subst hh
      clear h1 h2
      refine callM_intro (dB_ok (cu0 b hb) 60) ⟨⟨trivial, by decide⟩, rfl, rfl⟩ ?_
      simp (disch := exact eqId (by kernel_rfl)) only [go_sem, ↓reduceIte, Nat.reduceAdd, Nat.reduceMul, Nat.reduceLT, Nat.reduceBEq, Nat.reduceLeDiff, Nat.reduceEqDiff, Int.reduceToNat]
      repeat' (first | (refine And.intro ?_ ?_) | intro _ | (refine callM_intro (l19Draw_ok _ _ _ _) ⟨⟨trivial, by decide⟩, rfl, rfl⟩ ?_; try (simp (disch := exact eqId (by kernel_rfl)) only [go_sem, ↓reduceIte, Nat.reduceAdd, Nat.reduceMul, Nat.reduceLT, Nat.reduceBEq, Nat.reduceLeDiff, Nat.reduceEqDiff, Int.reduceToNat])) | (refine callM_intro (dO_ok _ _) ⟨⟨trivial, by decide⟩, rfl, rfl⟩ ?_; try (simp (disch := exact eqId (by kernel_rfl)) only [go_sem, ↓reduceIte, Nat.reduceAdd, Nat.reduceMul, Nat.reduceLT, Nat.reduceBEq, Nat.reduceLeDiff, Nat.reduceEqDiff, Int.reduceToNat])) | (refine callM_intro (l19Bend_ag _ _ (Nat.le_trans (d19_len _ _ _ _).1 (by decide)) (Nat.le_trans (d19_len _ _ _ _).2 (by decide))) ⟨⟨trivial, by decide⟩, rfl, rfl⟩ ?_; try (simp (disch := exact eqId (by kernel_rfl)) only [go_sem, ↓reduceIte, Nat.reduceAdd, Nat.reduceMul, Nat.reduceLT, Nat.reduceBEq, Nat.reduceLeDiff, Nat.reduceEqDiff, Int.reduceToNat])) | (refine callM_intro (l8Any_ok _) ⟨⟨trivial, by decide⟩, rfl, rfl⟩ ?_; try (simp (disch := exact eqId (by kernel_rfl)) only [go_sem, ↓reduceIte, Nat.reduceAdd, Nat.reduceMul, Nat.reduceLT, Nat.reduceBEq, Nat.reduceLeDiff, Nat.reduceEqDiff, Int.reduceToNat])) | (refine callM_intro (l11Any_ok _) ⟨⟨trivial, by decide⟩, rfl, rfl⟩ ?_; try (simp (disch := exact eqId (by kernel_rfl)) only [go_sem, ↓reduceIte, Nat.reduceAdd, Nat.reduceMul, Nat.reduceLT, Nat.reduceBEq, Nat.reduceLeDiff, Nat.reduceEqDiff, Int.reduceToNat])) | (refine callQ_intro (l8Keys_ok) ?_; try (simp (disch := exact eqId (by kernel_rfl)) only [go_sem, ↓reduceIte, Nat.reduceAdd, Nat.reduceMul, Nat.reduceLT, Nat.reduceBEq, Nat.reduceLeDiff, Nat.reduceEqDiff, Int.reduceToNat])) | (refine callH_intro (fun hcc => l8Keys_ok) ?_; try (simp (disch := exact eqId (by kernel_rfl)) only [go_sem, ↓reduceIte, Nat.reduceAdd, Nat.reduceMul, Nat.reduceLT, Nat.reduceBEq, Nat.reduceLeDiff, Nat.reduceEqDiff, Int.reduceToNat])) | (refine callQ_intro (l11Authorities_ok) ?_; try (simp (disch := exact eqId (by kernel_rfl)) only [go_sem, ↓reduceIte, Nat.reduceAdd, Nat.reduceMul, Nat.reduceLT, Nat.reduceBEq, Nat.reduceLeDiff, Nat.reduceEqDiff, Int.reduceToNat])) | (refine callH_intro (fun hcc => l11Authorities_ok) ?_; try (simp (disch := exact eqId (by kernel_rfl)) only [go_sem, ↓reduceIte, Nat.reduceAdd, Nat.reduceMul, Nat.reduceLT, Nat.reduceBEq, Nat.reduceLeDiff, Nat.reduceEqDiff, Int.reduceToNat])))
      all_goals (try omega)
      all_goals (try rfl)
      all_goals (try (unfold dCR; simp only [*, ↓reduceIte, Bool.false_eq_true]; done))
      all_goals (try (unfold dCR; simp only [*]; rfl))
      all_goals trace_state
theorem DrawRenewalBreak_ok (b : List Int) (hb : b.length ≤ maxLen) : FunOK Tryz.prog 8 [⟨(.list (.int .u8)), b⟩] (.tup [.rd (.list tKey) (dCR b hb).1, .rd (.list tAuthority) (dCR b hb).2.1, .rd (.list tMethod) (d5A (cu0 b hb)).1, .rd tRenewal (dCR b hb).2.2.1]) := by
  refine fun_of (tb := tb) follows Tryz.func8 (by kernel_rfl) Tryz.ntmps8 rfl rfl rfl ?_; intro cx hN hw
  have hm : maxLen = 9223372036854775807 := rfl
  simp (disch := exact eqId (by kernel_rfl)) only [go_sem, ↓reduceIte, Nat.reduceAdd, Nat.reduceMul, Nat.reduceLT, Nat.reduceBEq, Nat.reduceLeDiff, Nat.reduceEqDiff, Int.reduceToNat]
  refine callQ_intro (DrawCheckRenewal_ok _ hb) ?_
  simp (disch := exact eqId (by kernel_rfl)) only [go_sem, ↓reduceIte, Nat.reduceAdd, Nat.reduceMul, Nat.reduceLT, Nat.reduceBEq, Nat.reduceLeDiff, Nat.reduceEqDiff, Int.reduceToNat]
  refine callI_intro (tb := tb) (rs := [.tmp 2]) follows Tryz.func14 (by kernel_rfl) rfl rfl Tryz.ntmps14 rfl ⟨trivial, trivial⟩ ?_
  intro cx2 hN2
  simp (disch := exact eqId (by kernel_rfl)) only [go_sem, ↓reduceIte, Nat.reduceAdd, Nat.reduceMul, Nat.reduceLT, Nat.reduceBEq, Nat.reduceLeDiff, Nat.reduceEqDiff, Int.reduceToNat]
  refine loop_introF (tb := tb.at 900000000000000) follows hN2 (D := Nat × Int) (fun d => shp [(0, .rd (.list (.int .u8)) b), (3, .rd I d.2), (4, .rd I (d.1 : Int))] [(20112, .box 29 [.rd I (dCR b hb).2.2.1.1, .rd I (dCR b hb).2.2.1.2.1, .rd I (dCR b hb).2.2.1.2.2.1, .rd (.list tStep) (dCR b hb).2.2.1.2.2.2.1, .rd (.list tStamp) (dCR b hb).2.2.1.2.2.2.2.1]), (10048, .box 29 [.rd I 0, .rd I 0, .rd I 0, .nils, .nils])]) (fun d => d.1 ≤ 4000 ∧ newH b = nwK b (4000 - d.1) d.1 d.2) (fun d => 4000 - d.1) (0, IntKind.i64.wrap (193017 + (b.length : Int))) ?_ (sub_shpF [(20112, some 20112), (10048, some 10048)] ?_) (fun d hd => ?_)
  · exact ⟨Nat.zero_le _, rfl⟩
  · simp (disch := exact eqId (by kernel_rfl)) only [go_sem, ↓reduceIte, Nat.reduceAdd, Nat.reduceMul, Nat.reduceLT, Nat.reduceBEq, Nat.reduceLeDiff, Nat.reduceEqDiff, Int.reduceToNat]
    try rfl
  · obtain ⟨k, h⟩ := d
    obtain ⟨h1, h2⟩ := hd
    simp only at h1 h2
    simp (disch := exact eqId (by kernel_rfl)) only [go_sem, ↓reduceIte, Nat.reduceAdd, Nat.reduceMul, Nat.reduceLT, Nat.reduceBEq, Nat.reduceLeDiff, Nat.reduceEqDiff, Int.reduceToNat]
    repeat' (first | (refine And.intro ?_ ?_) | intro _)
    all_goals (try omega)
    · rename_i hk
      refine back_intro (k + 1, nwG h (b.getD k 0)) ?_ ?_ (sub_shpF [(20112, some 20112), (10048, some 10048)] ?_)
      · refine ⟨by omega, ?_⟩
        simp only
        rw [h2, show 4000 - k = (4000 - (k + 1)) + 1 from by omega, nwK, if_pos (by omega)]
      · simp only; omega
      · simp (disch := exact eqId (by kernel_rfl)) only [go_sem, ↓reduceIte, Nat.reduceAdd, Nat.reduceMul, Nat.reduceLT, Nat.reduceBEq, Nat.reduceLeDiff, Nat.reduceEqDiff, Int.reduceToNat]
        first | exact ⟨rfl, wrap_i64 (by omega) (by omega)⟩ | exact wrap_i64 (by omega) (by omega) | trace_state
    · rename_i hk
      have hh : h = newH b := by
        rw [h2]
        exact (nwK_end (by omega)).symm
      subst hh
      clear h1 h2
      refine callM_intro (l5Any_ok (cu0 b hb)) ⟨⟨trivial, by decide⟩, rfl, rfl⟩ ?_
      simp (disch := exact eqId (by kernel_rfl)) only [go_sem, ↓reduceIte, Nat.reduceAdd, Nat.reduceMul, Nat.reduceLT, Nat.reduceBEq, Nat.reduceLeDiff, Nat.reduceEqDiff, Int.reduceToNat]
      try rfl
end Go.Proofs.YtgelnbhmalgliaaGreat
/- What the functions of agreed spans, of renewals' spans and breaks and of links answer, on both sides. It proves nothing of a statement by itself. -/
set_option linter.unusedSimpArgs false
set_option linter.unusedVariables false
set_option maxRecDepth 100000
namespace Go.Proofs.YtgelnbhmalgliaaGreat
open Go.AL
theorem cntF_cons (x : tSpan.den) (xs : List tSpan.den) (t : Int) : cntF (x :: xs) t = cntF xs t + if inS t x = true then 1 else 0 := by
  unfold cntF
  rw [List.countP_cons]
theorem inS_iff {t : Int} {x : tSpan.den} : (inS t x = true) = (spB x = true ∧ (x.1 : Int) ≤ t ∧ t ≤ (x.2.1 : Int)) := by
  simp [inS]
theorem agI_no {sup : Int → Bool} {n : Nat} (h : sup (n : Int) = false) : agI sup (n + 1) = agI sup n := by rw [agI, if_neg (by rw [h]; decide)]
theorem agI_new {sup : Int → Bool} {n : Nat} (h : sup (n : Int) = true) (hb : (agI sup n).2 = false) : agI sup (n + 1) = (((n : Int), (n : Int), ()), true) := by rw [agI, if_pos h, if_neg (by rw [hb]; decide)]
theorem agI_old {sup : Int → Bool} {n : Nat} (h : sup (n : Int) = true) (hb : (agI sup n).2 = true) : agI sup (n + 1) = (((agI sup n).1.1, (n : Int), ()), true) := by rw [agI, if_pos h, if_pos hb]
def sspL (l : List tAuthority.den) (ss : List tStamp.den) : List tSpan.den := ss.map (fun s => (sspF l s).1)
def agoF (l : List tAuthority.den) (ss : List tStamp.den) (n : Int) : tSpan.den × Bool := if ss.all (fun s => (sspF l s).2) = true then agF (sspL l ss) n else ((0, 0, ()), false)
theorem sspL_take (l : List tAuthority.den) {ss : List tStamp.den} {k : Nat} (hk : k < ss.length) : sspL l (ss.take (k + 1)) = sspL l (ss.take k) ++ [(sspF l (ss.getD k (0, 0, 0, 0, 0, ()))).1] := by
  unfold sspL
  exact map_take_succ _ hk _
theorem sspL_len (l : List tAuthority.den) (ss : List tStamp.den) : (sspL l ss).length = ss.length := by simp [sspL]
noncomputable def rbF (ks : List tKey.den) (l : List tAuthority.den) (ms : List tMethod.den) : Int → List tStamp.den → Int
  | a, [] => a
  | a, s :: ss => if finF (fun x : tKey.den => x.1) (skyF l s) ks 0 < 0 then 0 else rbF ks l ms (mnF a (brkF ms (ks.getD (finF (fun x : tKey.den => x.1) (skyF l s) ks 0).toNat (0, 0, 0, 0, 0, ())).2.2.1)) ss
theorem impl_RenewalBreak_ok (ks : List tKey.den) (l : List tAuthority.den) (ms : List tMethod.den) (r : tRenewal.den) : FunOK Tryz.prog 9 [⟨(.list tKey), ks⟩, ⟨(.list tAuthority), l⟩, ⟨(.list tMethod), ms⟩, ⟨tRenewal, r⟩] (.rd I (rbF ks l ms (brkF ms r.2.1) r.2.2.2.2.1)) := by
  refine fun_of (tb := tb) follows Tryz.func9 (by kernel_rfl) Tryz.ntmps9 rfl rfl rfl ?_; intro cx hN hw
  simp (disch := exact eqId (by kernel_rfl)) only [go_sem, ↓reduceIte, Nat.reduceAdd, Nat.reduceMul, Nat.reduceLT, Nat.reduceBEq, Nat.reduceLeDiff, Nat.reduceEqDiff, Int.reduceToNat]
  refine callQ_intro (impl_BreakOf_ok _ _) ?_
  simp (disch := exact eqId (by kernel_rfl)) only [go_sem, ↓reduceIte, Nat.reduceAdd, Nat.reduceMul, Nat.reduceLT, Nat.reduceBEq, Nat.reduceLeDiff, Nat.reduceEqDiff, Int.reduceToNat]
  refine loop_intro (tb := tb) follows hN (D := Nat × Int) (fun d => shp [(0, .rd (.list tKey) (ks)), (1, .rd (.list tAuthority) (l)), (2, .rd (.list tMethod) (ms)), (9, .rd I (d.2 : Int)), (18, .rd (.list tStamp) (r.2.2.2.2.1)), (19, .rd I (((r.2.2.2.2.1).length : Int) : Int)), (20, .rd I (d.1 : Int))] []) (fun d => d.1 ≤ List.length r.2.2.2.2.1 ∧ rbF ks l ms (brkF ms r.2.1) r.2.2.2.2.1 = rbF ks l ms d.2 (List.drop d.1 r.2.2.2.2.1)) (fun d => List.length r.2.2.2.2.1 - d.1) ((0, brkF ms r.2.1)) ?_ (sub_shp hN [] ?_) (fun d hd => ?_)
  · exact ⟨Nat.zero_le _, rfl⟩
  · simp (disch := exact eqId (by kernel_rfl)) only [go_sem, ↓reduceIte, Nat.reduceAdd, Nat.reduceMul, Nat.reduceLT, Nat.reduceBEq, Nat.reduceLeDiff, Nat.reduceEqDiff, Int.reduceToNat]
    try rfl
  · obtain ⟨k, a⟩ := d
    obtain ⟨h1, h2⟩ := hd
    simp only at h1 h2
    have hf := finF_lt (fun x : tKey.den => x.1) (skyF l (List.getD r.2.2.2.2.1 k (0, 0, 0, 0, 0, ()))) ks 0
    have hf2 := finF_lt (fun x : tKey.den => x.1) (skyF l ((List.getD r.2.2.2.2.1 k (0, 0, 0, 0, 0, ())).1, (List.getD r.2.2.2.2.1 k (0, 0, 0, 0, 0, ())).2.1, (List.getD r.2.2.2.2.1 k (0, 0, 0, 0, 0, ())).2.2.1, (List.getD r.2.2.2.2.1 k (0, 0, 0, 0, 0, ())).2.2.2.1, (List.getD r.2.2.2.2.1 k (0, 0, 0, 0, 0, ())).2.2.2.2.1, ())) ks 0
    simp (disch := exact eqId (by kernel_rfl)) only [go_sem, ↓reduceIte, Nat.reduceAdd, Nat.reduceMul, Nat.reduceLT, Nat.reduceBEq, Nat.reduceLeDiff, Nat.reduceEqDiff, Int.reduceToNat]
    repeat' (first | (refine And.intro ?_ ?_) | intro _ | (refine callQ_intro (impl_StampKey_ok _ _) ?_; try (simp (disch := exact eqId (by kernel_rfl)) only [go_sem, ↓reduceIte, Nat.reduceAdd, Nat.reduceMul, Nat.reduceLT, Nat.reduceBEq, Nat.reduceLeDiff, Nat.reduceEqDiff, Int.reduceToNat])) | (refine callH_intro (fun hcc => impl_StampKey_ok _ _) ?_; try (simp (disch := exact eqId (by kernel_rfl)) only [go_sem, ↓reduceIte, Nat.reduceAdd, Nat.reduceMul, Nat.reduceLT, Nat.reduceBEq, Nat.reduceLeDiff, Nat.reduceEqDiff, Int.reduceToNat])) | (refine callQ_intro (impl_FindKey_ok _ _) ?_; try (simp (disch := exact eqId (by kernel_rfl)) only [go_sem, ↓reduceIte, Nat.reduceAdd, Nat.reduceMul, Nat.reduceLT, Nat.reduceBEq, Nat.reduceLeDiff, Nat.reduceEqDiff, Int.reduceToNat])) | (refine callH_intro (fun hcc => impl_FindKey_ok _ _) ?_; try (simp (disch := exact eqId (by kernel_rfl)) only [go_sem, ↓reduceIte, Nat.reduceAdd, Nat.reduceMul, Nat.reduceLT, Nat.reduceBEq, Nat.reduceLeDiff, Nat.reduceEqDiff, Int.reduceToNat])) | (refine callQ_intro (impl_BreakOf_ok _ _) ?_; try (simp (disch := exact eqId (by kernel_rfl)) only [go_sem, ↓reduceIte, Nat.reduceAdd, Nat.reduceMul, Nat.reduceLT, Nat.reduceBEq, Nat.reduceLeDiff, Nat.reduceEqDiff, Int.reduceToNat])) | (refine callH_intro (fun hcc => impl_BreakOf_ok _ _) ?_; try (simp (disch := exact eqId (by kernel_rfl)) only [go_sem, ↓reduceIte, Nat.reduceAdd, Nat.reduceMul, Nat.reduceLT, Nat.reduceBEq, Nat.reduceLeDiff, Nat.reduceEqDiff, Int.reduceToNat])))
    all_goals (try omega)
    · rename_i hk hc
      rw [h2, drop_getD (show k < List.length r.2.2.2.2.1 by omega) (0, 0, 0, 0, 0, ()), rbF, if_pos hc]
    · rename_i hk hc
      have hk : k < List.length r.2.2.2.2.1 := by omega
      refine back_intro ((k + 1, mnF a (brkF ms (ks.getD (finF (fun x : tKey.den => x.1) (skyF l (List.getD r.2.2.2.2.1 k (0, 0, 0, 0, 0, ()))) ks 0).toNat (0, 0, 0, 0, 0, ())).2.2.1))) ?_ ?_ (sub_shp hN [] ?_)
      · refine ⟨hk, ?_⟩
        simp only
        rw [h2, drop_getD hk (0, 0, 0, 0, 0, ()), rbF, if_neg hc]
      · simp only; omega
      · simp (disch := exact eqId (by kernel_rfl)) only [go_sem, ↓reduceIte, Nat.reduceAdd, Nat.reduceMul, Nat.reduceLT, Nat.reduceBEq, Nat.reduceLeDiff, Nat.reduceEqDiff, Int.reduceToNat]
        first | exact ⟨rfl, wrap_succ hk hw.2.2.2.1.2.2.2.2.1.1⟩ | exact wrap_succ hk hw.2.2.2.1.2.2.2.2.1.1
    · rename_i hk
      rw [h2, drop_end (show List.length r.2.2.2.2.1 ≤ k by omega)]
      rfl
theorem small_ren {s : tStrand.den} (hs : Small tStrand 1048576 s) {k : Nat} (hk : k < List.length s.2.1) : List.length (List.getD s.2.1 k (0, 0, 0, [], [], ())).2.2.2.2.1 ≤ 1048576 := (hs.2.1.2 _ (getD_mem hk _)).2.2.2.2.1.1
noncomputable def linkF (f : tFrame.den) (s : tStrand.den) (k : Int) : Bool :=
  if 0 ≤ k ∧ k ≤ (List.length s.2.1 : Int) - 1 then
    (if k = (List.length s.2.1 : Int) - 1 then decide ((f.2.2.2.2.1 : Int) < rbF f.1 f.2.1 f.2.2.1 (brkF f.2.2.1 (List.getD s.2.1 k.toNat (0, 0, 0, [], [], ())).2.1) (List.getD s.2.1 k.toNat (0, 0, 0, [], [], ())).2.2.2.2.1)
    else (agoF f.2.1 (List.getD s.2.1 (k + 1).toNat (0, 0, 0, [], [], ())).2.2.2.2.1 f.2.2.2.1).2 && decide ((agoF f.2.1 (List.getD s.2.1 (k + 1).toNat (0, 0, 0, [], [], ())).2.2.2.2.1 f.2.2.2.1).1.2.1 < rbF f.1 f.2.1 f.2.2.1 (brkF f.2.2.1 (List.getD s.2.1 k.toNat (0, 0, 0, [], [], ())).2.1) (List.getD s.2.1 k.toNat (0, 0, 0, [], [], ())).2.2.2.2.1))
  else false
noncomputable def ffF (ks : List tKey.den) (l : List tAuthority.den) (s : tStrand.den) (docs : List Int) : Nat → List tRenewal.den → Int
  | k, [] => k
  | k, r :: rs => if crF ks l r (laF s docs k) = true then ffF ks l s docs (k + 1) rs else k
end Go.Proofs.YtgelnbhmalgliaaGreat
/- The law of renewals: by its draws and by plain maths. It proves nothing of a statement by itself. -/
set_option linter.unusedSimpArgs false
set_option linter.unusedVariables false
set_option maxRecDepth 100000
namespace Go.Proofs.YtgelnbhmalgliaaGreat
open Go.AL
theorem big_ok (b : List Int) : FunOK Tryz.prog 4 [⟨(.list (.int .u8)), b⟩] (.rd .bool (decide ((b.length : Int) > 1048576))) := by
  refine fun_of (tb := tb) follows Tryz.func4 (by kernel_rfl) Tryz.ntmps4 rfl rfl rfl ?_; intro cx hN hw
  simp (disch := exact eqId (by kernel_rfl)) only [go_sem, ↓reduceIte, Nat.reduceAdd, Nat.reduceMul, Nat.reduceLT, Nat.reduceBEq, Nat.reduceLeDiff, Nat.reduceEqDiff, Int.reduceToNat]
theorem cr_root {ks : List tKey.den} {l : List tAuthority.den} {r : tRenewal.den} {leaf : Int} (h : crF ks l r leaf = true) : List.foldl (fpStep r.2.1) leaf r.2.2.2.1 = (r.2.2.1 : Int) ∧ 1 ≤ r.2.2.2.2.1.length ∧ areG (stB ks l r.2.2.1) (fun x : tStamp.den => (x.1 : Int)) none r.2.2.2.2.1 = true := by
  unfold crF at h
  rw [Bool.and_eq_true, decide_eq_true_eq] at h
  exact ⟨h.1.2.1, h.1.2.2.1, h.2⟩
theorem cr_next {ks : List tKey.den} {l : List tAuthority.den} {r : tRenewal.den} {leaf : Int} (h1 : -9223372036854775808 ≤ leaf) (h2 : leaf ≤ 9223372036854775807) (h : crF ks l r leaf = true) : crF ks l r (IntKind.i64.wrap (leaf + 1)) = false := by
  cases hc : crF ks l r (IntKind.i64.wrap (leaf + 1)) with
  | false => rfl
  | true =>
    exfalso
    have e1 := (cr_root h).1
    have e2 := (cr_root hc).1
    have := fold_ne r.2.1 r.2.2.2.1 _ _ (next_ne h1 h2)
    rw [e1, e2] at this
    exact this rfl
theorem are_get {α : Type} (p : α → Bool) (n : α → Int) (x0 : α) : ∀ (l : List α) (pr : Option Int), areG p n pr l = true → ∀ k, k < l.length → p (l.getD k x0) = true ∧ (0 < k → n (l.getD (k - 1) x0) < n (l.getD k x0))
  | [], _, _, k, hk => by simp at hk
  | x :: xs, pr, h, k, hk => by
    rw [areG_cons, Bool.and_eq_true, Bool.and_eq_true] at h
    obtain ⟨h1, h2, h3⟩ := h
    cases k with
    | zero => exact ⟨h1, fun h => absurd h (by omega)⟩
    | succ k =>
      obtain ⟨g1, g2⟩ := are_get p n x0 xs _ h3 k (by simpa using hk)
      refine ⟨g1, fun _ => ?_⟩
      cases k with
      | zero =>
        cases xs with
        | nil => simp at hk
        | cons y ys =>
          rw [areG_cons, Bool.and_eq_true, Bool.and_eq_true] at h3
          have := h3.2.1
          unfold ltG at this
          simpa using this
      | succ k =>
        have := g2 (by omega)
        simpa using this
theorem cr_at {ks : List tKey.den} {l : List tAuthority.den} {r : tRenewal.den} {leaf : Int} (h : crF ks l r leaf = true) {k : Nat} (hk : k < r.2.2.2.2.1.length) :
    ((r.2.2.2.2.1.getD k (0, 0, 0, 0, 0, ())).2.2.2.1 : Int) = r.2.2.1 ∧ (0 < k → ((r.2.2.2.2.1.getD (k - 1) (0, 0, 0, 0, 0, ())).1 : Int) < (r.2.2.2.2.1.getD k (0, 0, 0, 0, 0, ())).1) := by
  obtain ⟨g1, g2⟩ := are_get _ _ (0, 0, 0, 0, 0, ()) _ _ (cr_root h).2.2 k hk
  refine ⟨?_, g2⟩
  unfold stB at g1
  rw [Bool.and_eq_true, decide_eq_true_eq] at g1
  exact g1.1
theorem rb_le (ks : List tKey.den) (l : List tAuthority.den) (ms : List tMethod.den) (hm : ∀ n, 0 ≤ brkF ms n) : ∀ (ss : List tStamp.den) (a : Int), 0 ≤ a → rbF ks l ms a ss ≤ a
  | [], a, h => Int.le_refl a
  | s :: ss, a, h => by
    unfold rbF
    split
    · exact h
    · have hb := hm (ks.getD (finF (fun x : tKey.den => x.1) (skyF l s) ks 0).toNat (0, 0, 0, 0, 0, ())).2.2.1
      have := rb_le ks l ms hm ss (mnF a (brkF ms (ks.getD (finF (fun x : tKey.den => x.1) (skyF l s) ks 0).toNat (0, 0, 0, 0, 0, ())).2.2.1)) (by rw [mnF_eq]; omega)
      rw [mnF_eq] at this ⊢
      omega
theorem brk_ge {ms : List tMethod.den} (h : ∀ m, m ∈ ms → (0 : Int) ≤ m.2.2.2.1) (n : Int) : 0 ≤ brkF ms n := by
  unfold brkF
  split
  · rename_i h0
    have := finF_lt (fun x : tMethod.den => x.1) n ms 0
    exact h _ (getD_mem (by unfold finM at *; omega) _)
  · exact Int.le_refl 0
theorem M4_ge : ∀ m, m ∈ M4 → (0 : Int) ≤ m.2.2.2.1 := by
  intro m hm
  simp only [M4, List.mem_cons, List.not_mem_nil, or_false] at hm
  rcases hm with rfl | rfl | rfl | rfl <;> decide
theorem set_ge {l : List tMethod.den} (hl : ∀ m, m ∈ l → (0 : Int) ≤ m.2.2.2.1) {x : tMethod.den} (hx : (0 : Int) ≤ x.2.2.2.1) (j : Nat) : ∀ m, m ∈ l.set j x → (0 : Int) ≤ m.2.2.2.1 := by
  intro m hm
  rcases List.mem_or_eq_of_mem_set hm with h | rfl
  · exact hl m h
  · exact hx
theorem d5A_ge (s : Cu) : ∀ m, m ∈ (d5A s).1 → (0 : Int) ≤ m.2.2.2.1 := by
  have hj := dB_in s (n := 4) (by decide)
  have hg : (0 : Int) ≤ (M4.getD (dB s 4).1.toNat tMethod.dflt).2.2.2.1 := M4_ge _ (getD_mem (by show _ < 4; omega) _)
  unfold d5A
  simp only
  repeat' split
  · refine set_ge M4_ge ?_ _
    exact hg
  · refine set_ge M4_ge ?_ _
    exact hg
  · refine set_ge M4_ge ?_ _
    exact hg
  · refine set_ge M4_ge ?_ _
    have h := dI_mem (dB (dB s 4).2 9).2 (l := [0, 1, 45, 10001, 10002]) (by decide)
    have h9 : ∀ x : Int, x ∈ ([0, 1, 45, 10001, 10002] : List Int) → 0 ≤ x := by decide
    exact h9 _ h
  · intro m hm
    exact M4_ge m (List.mem_of_mem_take hm)
  · exact M4_ge
theorem pc_small {l : List tPiece.den} (h0 : l.length ≤ 1000) (h1 : ∀ p, p ∈ l → p.2.1.length ≤ 1000) : Small (.list tPiece) 1048576 l :=
  ⟨by omega, fun p hp => ⟨trivial, ⟨Nat.le_trans (h1 p hp) (by decide), fun _ _ => trivial⟩, trivial, trivial⟩⟩
theorem pd_small (b : List Int) (hb : b.length ≤ maxLen) : Small (.list tPiece) 1048576 (dPD b hb).2 :=
  pc_small (Nat.le_trans (d19P_len _) (by decide)) fun p hp => Nat.le_trans (d19P_all _ p hp) (by decide)
theorem pd_small2 (b : List Int) (hb : b.length ≤ maxLen) : Small (.list tPiece) 1048576 ((dPD b hb).2 ++ [(0, [], 0, ())]) := by
  refine pc_small ?_ fun p hp => ?_
  · have := d19P_len (dB (cu0 b hb) 5).2
    rw [List.length_append]
    exact Nat.le_trans (Nat.add_le_add_right this 1) (by decide)
  · rcases List.mem_append.1 hp with hp | hp
    · exact Nat.le_trans (d19P_all _ p hp) (by decide)
    · simp only [List.mem_singleton] at hp
      subst hp
      exact Nat.zero_le _
theorem dCR_leaf (b : List Int) (hb : b.length ≤ maxLen) : ((dCR b hb).2.2.2 : Int) = 7 ∨ ((dCR b hb).2.2.2 : Int) = 8 := by
  unfold dCR
  simp only
  generalize dO (dO (if (dO (d19 (dB (cu0 b hb) 60).2 7 1 (dB (cu0 b hb) 60).1).2 2).1 = true then d19B (dO (d19 (dB (cu0 b hb) 60).2 7 1 (dB (cu0 b hb) 60).1).2 2).2 (d19 (dB (cu0 b hb) 60).2 7 1 (dB (cu0 b hb) 60).1).1 else ((d19 (dB (cu0 b hb) 60).2 7 1 (dB (cu0 b hb) 60).1).1, (dO (d19 (dB (cu0 b hb) 60).2 7 1 (dB (cu0 b hb) 60).1).2 2).2)).2 6).2 6 = q
  generalize dO (if (dO (d19 (dB (cu0 b hb) 60).2 7 1 (dB (cu0 b hb) 60).1).2 2).1 = true then d19B (dO (d19 (dB (cu0 b hb) 60).2 7 1 (dB (cu0 b hb) 60).1).2 2).2 (d19 (dB (cu0 b hb) 60).2 7 1 (dB (cu0 b hb) 60).1).1 else ((d19 (dB (cu0 b hb) 60).2 7 1 (dB (cu0 b hb) 60).1).1, (dO (d19 (dB (cu0 b hb) 60).2 7 1 (dB (cu0 b hb) 60).1).2 2).2)).2 6 = p
  by_cases h1 : q.1 = true <;> by_cases h2 : p.1 = true <;> simp [h1, h2]
theorem law_FnRenewals_ok (b : List Int) : FunOK Tryz.prog 3 [⟨(.list (.int .u8)), b⟩] (.rd .bool true) := by
  refine fun_of (tb := tb) follows Tryz.func3 (by kernel_rfl) Tryz.ntmps3 rfl rfl rfl ?_; intro cx hN hw
  have hb : b.length ≤ maxLen := hw.1.1
  have hlf := dCR_leaf b hb
  have hcn := fun h => cr_next (ks := (dCR b hb).1) (l := (dCR b hb).2.1) (r := (dCR b hb).2.2.1) (leaf := (dCR b hb).2.2.2) (by omega) (by omega) h
  have hpl := d19P_len (dB (cu0 b hb) 5).2
  have hpl : (dPD b hb).2.length ≤ 3 := hpl
  simp (disch := exact eqId (by kernel_rfl)) only [go_sem, ↓reduceIte, Nat.reduceAdd, Nat.reduceMul, Nat.reduceLT, Nat.reduceBEq, Nat.reduceLeDiff, Nat.reduceEqDiff, Int.reduceToNat]
  repeat' (first | (refine And.intro ?_ ?_) | intro _ | (refine callQ_intro (big_ok _) ?_; try (simp (disch := exact eqId (by kernel_rfl)) only [go_sem, ↓reduceIte, Nat.reduceAdd, Nat.reduceMul, Nat.reduceLT, Nat.reduceBEq, Nat.reduceLeDiff, Nat.reduceEqDiff, Int.reduceToNat])) | (refine callH_intro (fun hcc => big_ok _) ?_; try (simp (disch := exact eqId (by kernel_rfl)) only [go_sem, ↓reduceIte, Nat.reduceAdd, Nat.reduceMul, Nat.reduceLT, Nat.reduceBEq, Nat.reduceLeDiff, Nat.reduceEqDiff, Int.reduceToNat])) | (refine callQ_intro (DrawCheckRenewal_ok _ hb) ?_; try (simp (disch := exact eqId (by kernel_rfl)) only [go_sem, ↓reduceIte, Nat.reduceAdd, Nat.reduceMul, Nat.reduceLT, Nat.reduceBEq, Nat.reduceLeDiff, Nat.reduceEqDiff, Int.reduceToNat])) | (refine callH_intro (fun hcc => DrawCheckRenewal_ok _ hb) ?_; try (simp (disch := exact eqId (by kernel_rfl)) only [go_sem, ↓reduceIte, Nat.reduceAdd, Nat.reduceMul, Nat.reduceLT, Nat.reduceBEq, Nat.reduceLeDiff, Nat.reduceEqDiff, Int.reduceToNat])) | (refine callQ_intro (impl_CheckRenewal_ok _ _ _ _) ?_; try (simp (disch := exact eqId (by kernel_rfl)) only [go_sem, ↓reduceIte, Nat.reduceAdd, Nat.reduceMul, Nat.reduceLT, Nat.reduceBEq, Nat.reduceLeDiff, Nat.reduceEqDiff, Int.reduceToNat])) | (refine callH_intro (fun hcc => impl_CheckRenewal_ok _ _ _ _) ?_; try (simp (disch := exact eqId (by kernel_rfl)) only [go_sem, ↓reduceIte, Nat.reduceAdd, Nat.reduceMul, Nat.reduceLT, Nat.reduceBEq, Nat.reduceLeDiff, Nat.reduceEqDiff, Int.reduceToNat])) | (refine callQ_intro (impl_FollowPath_ok _ _ _) ?_; try (simp (disch := exact eqId (by kernel_rfl)) only [go_sem, ↓reduceIte, Nat.reduceAdd, Nat.reduceMul, Nat.reduceLT, Nat.reduceBEq, Nat.reduceLeDiff, Nat.reduceEqDiff, Int.reduceToNat])) | (refine callH_intro (fun hcc => impl_FollowPath_ok _ _ _) ?_; try (simp (disch := exact eqId (by kernel_rfl)) only [go_sem, ↓reduceIte, Nat.reduceAdd, Nat.reduceMul, Nat.reduceLT, Nat.reduceBEq, Nat.reduceLeDiff, Nat.reduceEqDiff, Int.reduceToNat])))
  all_goals (try omega)
  · rename_i hc _
    exact hcn hc
  · rename_i h
    rcases h with ⟨h1, (h2 | h2) | h2⟩
    · have := hcn h1
      rw [show crF (dCR b hb).1 (dCR b hb).2.1 (dCR b hb).2.2.1 (IntKind.i64.wrap ((dCR b hb).2.2.2 + 1)) = true from h2] at this
      cases this
    · exact h2 (cr_root (r := (dCR b hb).2.2.1) h1).1
    · have := (cr_root (r := (dCR b hb).2.2.1) h1).2.1
      omega
  · rename_i h0
    refine loopQ_wf (fun hwf => ?_)
    have hR : WF tRenewal (dCR b hb).2.2.1 := hwf.rd 28 tRenewal _ rfl
    have hR : ((dCR b hb).2.2.1.2.2.2.2.1).length ≤ maxLen := hR.2.2.2.2.1.1
    have hm : maxLen = 9223372036854775807 := rfl
    clear hwf
    refine loop_intro (tb := tb) follows hN (D := Nat) (fun d => shp [(0, .rd (.list (.int .u8)) (b)), (5, .bp 40112 0), (7, .rd .bool (crF (dCR b hb).1 (dCR b hb).2.1 (dCR b hb).2.2.1 (dCR b hb).2.2.2)), (8, .rd I (d : Int))] [(40112, .box 29 [.rd I (dCR b hb).2.2.1.1, .rd I (dCR b hb).2.2.1.2.1, .rd I (dCR b hb).2.2.1.2.2.1, .rd (.list tStep) (dCR b hb).2.2.1.2.2.2.1, .rd (.list tStamp) (dCR b hb).2.2.1.2.2.2.2.1])]) (fun d => d ≤ ((dCR b hb).2.2.1.2.2.2.2.1).length) (fun d => ((dCR b hb).2.2.1.2.2.2.2.1).length - d) (0) ?_ (sub_shp hN [(40112, some 40112)] ?_) (fun d hd => ?_)
    · exact Nat.zero_le _
    · simp (disch := exact eqId (by kernel_rfl)) only [go_sem, ↓reduceIte, Nat.reduceAdd, Nat.reduceMul, Nat.reduceLT, Nat.reduceBEq, Nat.reduceLeDiff, Nat.reduceEqDiff, Int.reduceToNat]
      try exact ⟨rfl, rfl⟩
      try rfl
    · have hat := fun (h : crF (dCR b hb).1 (dCR b hb).2.1 (dCR b hb).2.2.1 (dCR b hb).2.2.2 = true) (hk : d < ((dCR b hb).2.2.1.2.2.2.2.1).length) => cr_at h hk
      have e1 : (0 : Int) < d → IntKind.i64.wrap ((d : Int) - 1) = (d : Int) - 1 := fun h => wrap_i64 (by omega) (by omega)
      have hs1 := pd_small b hb
      have hs2 := pd_small2 b hb
      simp (disch := exact eqId (by kernel_rfl)) only [go_sem, ↓reduceIte, Nat.reduceAdd, Nat.reduceMul, Nat.reduceLT, Nat.reduceBEq, Nat.reduceLeDiff, Nat.reduceEqDiff, Int.reduceToNat]
      repeat' (first | (refine And.intro ?_ ?_) | intro _ | (refine callQ_intro (DrawRenewalBreak_ok _ hb) ?_; try (simp (disch := exact eqId (by kernel_rfl)) only [go_sem, ↓reduceIte, Nat.reduceAdd, Nat.reduceMul, Nat.reduceLT, Nat.reduceBEq, Nat.reduceLeDiff, Nat.reduceEqDiff, Int.reduceToNat])) | (refine callH_intro (fun hcc => DrawRenewalBreak_ok _ hb) ?_; try (simp (disch := exact eqId (by kernel_rfl)) only [go_sem, ↓reduceIte, Nat.reduceAdd, Nat.reduceMul, Nat.reduceLT, Nat.reduceBEq, Nat.reduceLeDiff, Nat.reduceEqDiff, Int.reduceToNat])) | (refine callQ_intro (impl_RenewalBreak_ok _ _ _ _) ?_; try (simp (disch := exact eqId (by kernel_rfl)) only [go_sem, ↓reduceIte, Nat.reduceAdd, Nat.reduceMul, Nat.reduceLT, Nat.reduceBEq, Nat.reduceLeDiff, Nat.reduceEqDiff, Int.reduceToNat])) | (refine callH_intro (fun hcc => impl_RenewalBreak_ok _ _ _ _) ?_; try (simp (disch := exact eqId (by kernel_rfl)) only [go_sem, ↓reduceIte, Nat.reduceAdd, Nat.reduceMul, Nat.reduceLT, Nat.reduceBEq, Nat.reduceLeDiff, Nat.reduceEqDiff, Int.reduceToNat])) | (refine callQ_intro (impl_BreakOf_ok _ _) ?_; try (simp (disch := exact eqId (by kernel_rfl)) only [go_sem, ↓reduceIte, Nat.reduceAdd, Nat.reduceMul, Nat.reduceLT, Nat.reduceBEq, Nat.reduceLeDiff, Nat.reduceEqDiff, Int.reduceToNat])) | (refine callH_intro (fun hcc => impl_BreakOf_ok _ _) ?_; try (simp (disch := exact eqId (by kernel_rfl)) only [go_sem, ↓reduceIte, Nat.reduceAdd, Nat.reduceMul, Nat.reduceLT, Nat.reduceBEq, Nat.reduceLeDiff, Nat.reduceEqDiff, Int.reduceToNat])) | (refine callQ_intro (DrawLeafOf_ok _ hb) ?_; try (simp (disch := exact eqId (by kernel_rfl)) only [go_sem, ↓reduceIte, Nat.reduceAdd, Nat.reduceMul, Nat.reduceLT, Nat.reduceBEq, Nat.reduceLeDiff, Nat.reduceEqDiff, Int.reduceToNat])) | (refine callH_intro (fun hcc => DrawLeafOf_ok _ hb) ?_; try (simp (disch := exact eqId (by kernel_rfl)) only [go_sem, ↓reduceIte, Nat.reduceAdd, Nat.reduceMul, Nat.reduceLT, Nat.reduceBEq, Nat.reduceLeDiff, Nat.reduceEqDiff, Int.reduceToNat])) | (refine callQ_intro (impl_LeafOf_ok _ _ _ _ (by first | exact hs1 | exact hs2)) ?_; try (simp (disch := exact eqId (by kernel_rfl)) only [go_sem, ↓reduceIte, Nat.reduceAdd, Nat.reduceMul, Nat.reduceLT, Nat.reduceBEq, Nat.reduceLeDiff, Nat.reduceEqDiff, Int.reduceToNat])) | (refine callH_intro (fun hcc => impl_LeafOf_ok _ _ _ _ (by first | exact hs1 | exact hs2)) ?_; try (simp (disch := exact eqId (by kernel_rfl)) only [go_sem, ↓reduceIte, Nat.reduceAdd, Nat.reduceMul, Nat.reduceLT, Nat.reduceBEq, Nat.reduceLeDiff, Nat.reduceEqDiff, Int.reduceToNat])) | (refine callQ_intro (spec_LeafOf_ok _ _ _ _ (by first | exact hs1 | exact hs2)) ?_; try (simp (disch := exact eqId (by kernel_rfl)) only [go_sem, ↓reduceIte, Nat.reduceAdd, Nat.reduceMul, Nat.reduceLT, Nat.reduceBEq, Nat.reduceLeDiff, Nat.reduceEqDiff, Int.reduceToNat])) | (refine callH_intro (fun hcc => spec_LeafOf_ok _ _ _ _ (by first | exact hs1 | exact hs2)) ?_; try (simp (disch := exact eqId (by kernel_rfl)) only [go_sem, ↓reduceIte, Nat.reduceAdd, Nat.reduceMul, Nat.reduceLT, Nat.reduceBEq, Nat.reduceLeDiff, Nat.reduceEqDiff, Int.reduceToNat])))
      all_goals (try omega)
      · rename_i hk hx
        have hk : d < ((dCR b hb).2.2.1.2.2.2.2.1).length ∧ crF (dCR b hb).1 (dCR b hb).2.1 (dCR b hb).2.2.1 (dCR b hb).2.2.2 = true := ⟨by omega, hk.2⟩
        obtain ⟨g1, g2⟩ := hat hk.2 hk.1
        rcases hx with hx | ⟨hx, hy⟩
        · exact hx g1
        · rw [e1 hx, show ((d : Int) - 1).toNat = d - 1 by omega] at hy
          have := g2 (by omega)
          exact absurd this (Int.not_lt.2 hy)
      · rename_i hk hx
        refine back_intro (d + 1) ?_ ?_ (sub_shp hN [(40112, some 40112)] ?_)
        · omega
        · omega
        · simp (disch := exact eqId (by kernel_rfl)) only [go_sem, ↓reduceIte, Nat.reduceAdd, Nat.reduceMul, Nat.reduceLT, Nat.reduceBEq, Nat.reduceLeDiff, Nat.reduceEqDiff, Int.reduceToNat]
          exact wrap_succ (show d < ((dCR b hb).2.2.1.2.2.2.2.1).length by omega) hR
      · rename_i hx
        exact absurd (rb_le (dCR b hb).1 (dCR b hb).2.1 (d5A (cu0 b hb)).1 (brk_ge (d5A_ge (cu0 b hb))) ((dCR b hb).2.2.1.2.2.2.2.1) _ (brk_ge (d5A_ge (cu0 b hb)) _)) (Int.not_le.2 hx)
      all_goals trace_state
end Go.Proofs.YtgelnbhmalgliaaGreat
