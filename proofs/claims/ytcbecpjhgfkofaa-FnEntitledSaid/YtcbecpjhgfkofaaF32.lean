/- What draws of certificates and statuses answer. It proves nothing of a statement by itself. -/
import Derived.Test.YtcbecpjhgfkofaaF31
import Derived.Test.YtcbecpjhgfkofaaF15
set_option linter.unusedSimpArgs false
set_option linter.unusedVariables false
set_option maxRecDepth 100000
namespace Go.Proofs.Ytcbecpjhgfkofaa
open Go.AL
def K8 : List tKey.den := [(1, 90, 1, 0, 501, ()), (2, 90, 3, 40, 502, ()), (11, 1, 1, 0, 511, ()), (12, 1, 2, 20, 512, ()), (13, 2, 3, 40, 513, ()), (21, 50, 1, 0, 521, ()), (31, 81, 1, 0, 531, ()), (32, 82, 2, 20, 532, ()), (33, 83, 3, 40, 533, ()), (34, 84, 4, 60, 534, ())]
def isC (x : tCert.den) : Bool := inB x.1 1 999 && inB x.2.1 1 99 && inB x.2.2.2.2.2.1 1 99 && !((x.2.1 : Int) == x.2.2.2.2.2.1) && inB x.2.2.1 0 99 && spB (x.2.2.2.1, x.2.2.2.2.1, ())
def finK (ks : List tKey.den) (n : Int) : Int := finF (fun x : tKey.den => x.1) n ks 0
theorem finK_lt (ks : List tKey.den) (n : Int) : finK ks n = -1 ∨ 0 ≤ finK ks n ∧ finK ks n < ks.length := by
  have := finF_lt (fun x : tKey.den => x.1) n ks 0
  unfold finK
  omega
def certI (x : tCert.den) : List Int := [101, x.1, x.2.1, x.2.2.1, x.2.2.2.1, x.2.2.2.2.1, x.2.2.2.2.2.1]
def iscF (ks : List tKey.den) (x : tCert.den) : tCert.den × Bool := if (isC x = false ∨ finK ks x.2.2.2.2.2.1 < 0) ∨ finK ks x.2.1 < 0 then (tCert.dflt, false) else ((x.1, x.2.1, x.2.2.1, x.2.2.2.1, x.2.2.2.2.1, x.2.2.2.2.2.1, mwF (ks.getD (finK ks x.2.2.2.2.2.1).toNat tKey.dflt) (certI x), ()), true)
theorem iscF_y {ks : List tKey.den} {x : tCert.den} (h : (isC x = false ∨ finK ks x.2.2.2.2.2.1 < 0) ∨ finK ks x.2.1 < 0) : iscF ks x = (tCert.dflt, false) := if_pos h
theorem iscF_n {ks : List tKey.den} {x : tCert.den} (h : (isC x = true ∧ ¬ finK ks x.2.2.2.2.2.1 < 0) ∧ ¬ finK ks x.2.1 < 0) : iscF ks x = ((x.1, x.2.1, x.2.2.1, x.2.2.2.1, x.2.2.2.2.1, x.2.2.2.2.2.1, mwF (ks.getD (finK ks x.2.2.2.2.2.1).toNat tKey.dflt) (certI x), ()), true) := if_neg (by simp only [not_or, Bool.not_eq_false]; exact h)
def isS (x : tStatus.den) : Bool := inB x.1 1 999 && inB x.2.1 0 10000 && inB x.2.2.1 (-1) (IntKind.i64.wrap (x.2.1 + 1)) && inB x.2.2.2.1 1 99
def mstF (ks : List tKey.den) (x : tStatus.den) : tStatus.den × Bool := if isS x = false ∨ finK ks x.2.2.2.1 < 0 then (tStatus.dflt, false) else ((x.1, x.2.1, x.2.2.1, x.2.2.2.1, mwF (ks.getD (finK ks x.2.2.2.1).toNat tKey.dflt) [102, x.1, x.2.1, x.2.2.1, x.2.2.2.1], ()), true)
theorem mstF_y {ks : List tKey.den} {x : tStatus.den} (h : isS x = false ∨ finK ks x.2.2.2.1 < 0) : mstF ks x = (tStatus.dflt, false) := if_pos h
theorem mstF_n {ks : List tKey.den} {x : tStatus.den} (h : isS x = true ∧ ¬ finK ks x.2.2.2.1 < 0) : mstF ks x = ((x.1, x.2.1, x.2.2.1, x.2.2.2.1, mwF (ks.getD (finK ks x.2.2.2.1).toNat tKey.dflt) [102, x.1, x.2.1, x.2.2.1, x.2.2.2.1], ()), true) := if_neg (by simp only [not_or, Bool.not_eq_false]; exact h)
theorem spec_FindK_ok (l : List tKey.den) (q : Int) : FunOK Try.prog 44 [⟨(.list tKey), l⟩, ⟨I, q⟩] (.rd I (finK l q)) := spec_FindKey_ok l q
theorem l8Keys_ok : FunOK Try.prog 42 [] (.own 78 tKey K8) := by
  refine fun_of (tb := tb) follows Try.func42 (by kernel_rfl) Try.ntmps42 rfl rfl rfl ?_
  intro cx hN hw
  simp (disch := exact eqId (by kernel_rfl)) only [go_sem, ↓reduceIte, Nat.reduceAdd, Nat.reduceMul, Nat.reduceLT, Nat.reduceBEq, Nat.reduceLeDiff, Nat.reduceEqDiff, Int.reduceToNat]
  try rfl
theorem l8Keys_fr : FunOK Try.prog 42 [] (.fresh 78 tKey K8) := l8Keys_ok.fr rfl
theorem spec_CertSpan_ok' (x : tCert.den) : FunOK Try.prog 52 [⟨tCert, x⟩] (.rd tSpan (x.2.2.2.1, x.2.2.2.2.1, ())) := by
  refine fun_of (tb := tb) follows Try.func52 (by kernel_rfl) Try.ntmps52 rfl rfl rfl ?_
  intro cx hN hw
  simp (disch := exact eqId (by kernel_rfl)) only [go_sem, ↓reduceIte, Nat.reduceAdd, Nat.reduceMul, Nat.reduceLT, Nat.reduceBEq, Nat.reduceLeDiff, Nat.reduceEqDiff, Int.reduceToNat]
theorem spec_IsCert_ok (x : tCert.den) : FunOK Try.prog 45 [⟨tCert, x⟩] (.rd .bool (isC x)) := by
  refine fun_of (tb := tb) follows Try.func45 (by kernel_rfl) Try.ntmps45 rfl rfl rfl ?_
  intro cx hN hw
  simp (disch := exact eqId (by kernel_rfl)) only [go_sem, ↓reduceIte, Nat.reduceAdd, Nat.reduceMul, Nat.reduceLT, Nat.reduceBEq, Nat.reduceLeDiff, Nat.reduceEqDiff, Int.reduceToNat]
  repeat' (first | (refine And.intro ?_ ?_) | intro _ | (refine callQ_intro (l1In_ok _ _ _) ?_; try (simp (disch := exact eqId (by kernel_rfl)) only [go_sem, ↓reduceIte, Nat.reduceAdd, Nat.reduceMul, Nat.reduceLT, Nat.reduceBEq, Nat.reduceLeDiff, Nat.reduceEqDiff, Int.reduceToNat])) | (refine callH_intro (fun hcc => l1In_ok _ _ _) ?_; try (simp (disch := exact eqId (by kernel_rfl)) only [go_sem, ↓reduceIte, Nat.reduceAdd, Nat.reduceMul, Nat.reduceLT, Nat.reduceBEq, Nat.reduceLeDiff, Nat.reduceEqDiff, Int.reduceToNat])) | (refine callQ_intro (spec_CertSpan_ok' _) ?_; try (simp (disch := exact eqId (by kernel_rfl)) only [go_sem, ↓reduceIte, Nat.reduceAdd, Nat.reduceMul, Nat.reduceLT, Nat.reduceBEq, Nat.reduceLeDiff, Nat.reduceEqDiff, Int.reduceToNat])) | (refine callH_intro (fun hcc => spec_CertSpan_ok' _) ?_; try (simp (disch := exact eqId (by kernel_rfl)) only [go_sem, ↓reduceIte, Nat.reduceAdd, Nat.reduceMul, Nat.reduceLT, Nat.reduceBEq, Nat.reduceLeDiff, Nat.reduceEqDiff, Int.reduceToNat])) | (refine callQ_intro (spec_IsSpan_ok _) ?_; try (simp (disch := exact eqId (by kernel_rfl)) only [go_sem, ↓reduceIte, Nat.reduceAdd, Nat.reduceMul, Nat.reduceLT, Nat.reduceBEq, Nat.reduceLeDiff, Nat.reduceEqDiff, Int.reduceToNat])) | (refine callH_intro (fun hcc => spec_IsSpan_ok _) ?_; try (simp (disch := exact eqId (by kernel_rfl)) only [go_sem, ↓reduceIte, Nat.reduceAdd, Nat.reduceMul, Nat.reduceLT, Nat.reduceBEq, Nat.reduceLeDiff, Nat.reduceEqDiff, Int.reduceToNat])))
  all_goals (try rfl)
  all_goals (try (simp_all [isC, inB]; done))
  all_goals (try trace_state)
theorem spec_IssueCert_ok (ks : List tKey.den) (x : tCert.den) : FunOK Try.prog 41 [⟨(.list tKey), ks⟩, ⟨tCert, x⟩] (.tup [.rd tCert (iscF ks x).1, .rd .bool (iscF ks x).2]) := by
  have hf1 := finK_lt ks x.2.2.2.2.2.1
  refine fun_of (tb := tb) follows Try.func41 (by kernel_rfl) Try.ntmps41 rfl rfl rfl ?_
  intro cx hN hw
  simp (disch := exact eqId (by kernel_rfl)) only [go_sem, ↓reduceIte, Nat.reduceAdd, Nat.reduceMul, Nat.reduceLT, Nat.reduceBEq, Nat.reduceLeDiff, Nat.reduceEqDiff, Int.reduceToNat]
  repeat' (first | (refine And.intro ?_ ?_) | intro _ | (refine callQ_intro (spec_FindK_ok _ _) ?_; try (simp (disch := exact eqId (by kernel_rfl)) only [go_sem, ↓reduceIte, Nat.reduceAdd, Nat.reduceMul, Nat.reduceLT, Nat.reduceBEq, Nat.reduceLeDiff, Nat.reduceEqDiff, Int.reduceToNat])) | (refine callH_intro (fun hcc => spec_FindK_ok _ _) ?_; try (simp (disch := exact eqId (by kernel_rfl)) only [go_sem, ↓reduceIte, Nat.reduceAdd, Nat.reduceMul, Nat.reduceLT, Nat.reduceBEq, Nat.reduceLeDiff, Nat.reduceEqDiff, Int.reduceToNat])) | (refine callQ_intro (spec_IsCert_ok _) ?_; try (simp (disch := exact eqId (by kernel_rfl)) only [go_sem, ↓reduceIte, Nat.reduceAdd, Nat.reduceMul, Nat.reduceLT, Nat.reduceBEq, Nat.reduceLeDiff, Nat.reduceEqDiff, Int.reduceToNat])) | (refine callH_intro (fun hcc => spec_IsCert_ok _) ?_; try (simp (disch := exact eqId (by kernel_rfl)) only [go_sem, ↓reduceIte, Nat.reduceAdd, Nat.reduceMul, Nat.reduceLT, Nat.reduceBEq, Nat.reduceLeDiff, Nat.reduceEqDiff, Int.reduceToNat])) | (refine callQ_intro (spec_CertInts_ok _) ?_; try (simp (disch := exact eqId (by kernel_rfl)) only [go_sem, ↓reduceIte, Nat.reduceAdd, Nat.reduceMul, Nat.reduceLT, Nat.reduceBEq, Nat.reduceLeDiff, Nat.reduceEqDiff, Int.reduceToNat])) | (refine callH_intro (fun hcc => spec_CertInts_ok _) ?_; try (simp (disch := exact eqId (by kernel_rfl)) only [go_sem, ↓reduceIte, Nat.reduceAdd, Nat.reduceMul, Nat.reduceLT, Nat.reduceBEq, Nat.reduceLeDiff, Nat.reduceEqDiff, Int.reduceToNat])) | (refine callQ_intro (spec_MarkWith_ok _ _ (show (List.length _) ≤ 1073741823 by simp)) ?_; try (simp (disch := exact eqId (by kernel_rfl)) only [go_sem, ↓reduceIte, Nat.reduceAdd, Nat.reduceMul, Nat.reduceLT, Nat.reduceBEq, Nat.reduceLeDiff, Nat.reduceEqDiff, Int.reduceToNat])) | (refine callH_intro (fun hcc => spec_MarkWith_ok _ _ (show (List.length _) ≤ 1073741823 by simp)) ?_; try (simp (disch := exact eqId (by kernel_rfl)) only [go_sem, ↓reduceIte, Nat.reduceAdd, Nat.reduceMul, Nat.reduceLT, Nat.reduceBEq, Nat.reduceLeDiff, Nat.reduceEqDiff, Int.reduceToNat])))
  all_goals (try omega)
  all_goals (rename_i hc; first | exact (congrArg Prod.fst (iscF_y hc)).symm | exact (congrArg Prod.snd (iscF_y hc)).symm | exact (congrArg Prod.fst (iscF_n hc)).symm | exact (congrArg Prod.snd (iscF_n hc)).symm | trace_state)
theorem spec_IsStatus_ok (x : tStatus.den) : FunOK Try.prog 48 [⟨tStatus, x⟩] (.rd .bool (isS x)) := by
  refine fun_of (tb := tb) follows Try.func48 (by kernel_rfl) Try.ntmps48 rfl rfl rfl ?_
  intro cx hN hw
  simp (disch := exact eqId (by kernel_rfl)) only [go_sem, ↓reduceIte, Nat.reduceAdd, Nat.reduceMul, Nat.reduceLT, Nat.reduceBEq, Nat.reduceLeDiff, Nat.reduceEqDiff, Int.reduceToNat]
  repeat' (first | (refine And.intro ?_ ?_) | intro _ | (refine callQ_intro (l1In_ok _ _ _) ?_; try (simp (disch := exact eqId (by kernel_rfl)) only [go_sem, ↓reduceIte, Nat.reduceAdd, Nat.reduceMul, Nat.reduceLT, Nat.reduceBEq, Nat.reduceLeDiff, Nat.reduceEqDiff, Int.reduceToNat])) | (refine callH_intro (fun hcc => l1In_ok _ _ _) ?_; try (simp (disch := exact eqId (by kernel_rfl)) only [go_sem, ↓reduceIte, Nat.reduceAdd, Nat.reduceMul, Nat.reduceLT, Nat.reduceBEq, Nat.reduceLeDiff, Nat.reduceEqDiff, Int.reduceToNat])) | (refine callQ_intro (spec_l4Time_ok _) ?_; try (simp (disch := exact eqId (by kernel_rfl)) only [go_sem, ↓reduceIte, Nat.reduceAdd, Nat.reduceMul, Nat.reduceLT, Nat.reduceBEq, Nat.reduceLeDiff, Nat.reduceEqDiff, Int.reduceToNat])) | (refine callH_intro (fun hcc => spec_l4Time_ok _) ?_; try (simp (disch := exact eqId (by kernel_rfl)) only [go_sem, ↓reduceIte, Nat.reduceAdd, Nat.reduceMul, Nat.reduceLT, Nat.reduceBEq, Nat.reduceLeDiff, Nat.reduceEqDiff, Int.reduceToNat])))
  all_goals (try rfl)
  all_goals (try (simp_all [isS, inB]; done))
  all_goals (try trace_state)
theorem spec_MakeStatus_ok (ks : List tKey.den) (x : tStatus.den) : FunOK Try.prog 43 [⟨(.list tKey), ks⟩, ⟨tStatus, x⟩] (.tup [.rd tStatus (mstF ks x).1, .rd .bool (mstF ks x).2]) := by
  have hf1 := finK_lt ks x.2.2.2.1
  refine fun_of (tb := tb) follows Try.func43 (by kernel_rfl) Try.ntmps43 rfl rfl rfl ?_
  intro cx hN hw
  simp (disch := exact eqId (by kernel_rfl)) only [go_sem, ↓reduceIte, Nat.reduceAdd, Nat.reduceMul, Nat.reduceLT, Nat.reduceBEq, Nat.reduceLeDiff, Nat.reduceEqDiff, Int.reduceToNat]
  repeat' (first | (refine And.intro ?_ ?_) | intro _ | (refine callQ_intro (spec_FindK_ok _ _) ?_; try (simp (disch := exact eqId (by kernel_rfl)) only [go_sem, ↓reduceIte, Nat.reduceAdd, Nat.reduceMul, Nat.reduceLT, Nat.reduceBEq, Nat.reduceLeDiff, Nat.reduceEqDiff, Int.reduceToNat])) | (refine callH_intro (fun hcc => spec_FindK_ok _ _) ?_; try (simp (disch := exact eqId (by kernel_rfl)) only [go_sem, ↓reduceIte, Nat.reduceAdd, Nat.reduceMul, Nat.reduceLT, Nat.reduceBEq, Nat.reduceLeDiff, Nat.reduceEqDiff, Int.reduceToNat])) | (refine callQ_intro (spec_IsStatus_ok _) ?_; try (simp (disch := exact eqId (by kernel_rfl)) only [go_sem, ↓reduceIte, Nat.reduceAdd, Nat.reduceMul, Nat.reduceLT, Nat.reduceBEq, Nat.reduceLeDiff, Nat.reduceEqDiff, Int.reduceToNat])) | (refine callH_intro (fun hcc => spec_IsStatus_ok _) ?_; try (simp (disch := exact eqId (by kernel_rfl)) only [go_sem, ↓reduceIte, Nat.reduceAdd, Nat.reduceMul, Nat.reduceLT, Nat.reduceBEq, Nat.reduceLeDiff, Nat.reduceEqDiff, Int.reduceToNat])) | (refine callQ_intro (spec_StatusInts_ok _) ?_; try (simp (disch := exact eqId (by kernel_rfl)) only [go_sem, ↓reduceIte, Nat.reduceAdd, Nat.reduceMul, Nat.reduceLT, Nat.reduceBEq, Nat.reduceLeDiff, Nat.reduceEqDiff, Int.reduceToNat])) | (refine callH_intro (fun hcc => spec_StatusInts_ok _) ?_; try (simp (disch := exact eqId (by kernel_rfl)) only [go_sem, ↓reduceIte, Nat.reduceAdd, Nat.reduceMul, Nat.reduceLT, Nat.reduceBEq, Nat.reduceLeDiff, Nat.reduceEqDiff, Int.reduceToNat])) | (refine callQ_intro (spec_MarkWith_ok _ _ (show (List.length _) ≤ 1073741823 by simp)) ?_; try (simp (disch := exact eqId (by kernel_rfl)) only [go_sem, ↓reduceIte, Nat.reduceAdd, Nat.reduceMul, Nat.reduceLT, Nat.reduceBEq, Nat.reduceLeDiff, Nat.reduceEqDiff, Int.reduceToNat])) | (refine callH_intro (fun hcc => spec_MarkWith_ok _ _ (show (List.length _) ≤ 1073741823 by simp)) ?_; try (simp (disch := exact eqId (by kernel_rfl)) only [go_sem, ↓reduceIte, Nat.reduceAdd, Nat.reduceMul, Nat.reduceLT, Nat.reduceBEq, Nat.reduceLeDiff, Nat.reduceEqDiff, Int.reduceToNat])))
  all_goals (try omega)
  all_goals (rename_i hc; first | exact (congrArg Prod.fst (mstF_y hc)).symm | exact (congrArg Prod.snd (mstF_y hc)).symm | exact (congrArg Prod.fst (mstF_n hc)).symm | exact (congrArg Prod.snd (mstF_n hc)).symm | trace_state)
def C3 : List tCert.den := [(iscF K8 (1, 11, 1, 0, 60, 1, 0, ())).1, (iscF K8 (2, 12, 1, 20, 100, 1, 0, ())).1, (iscF K8 (3, 13, 2, 40, 150, 2, 0, ())).1]
def d9 (s : Cu) : tCert.den × Cu :=
  let j := dB s 3
  let x := C3.getD j.1.toNat tCert.dflt
  let k := dB j.2 10
  if k.1 = 0 then (setF tCert x 0 (dI k.2 [0, 1, 999, 1000]).1, (dI k.2 [0, 1, 999, 1000]).2)
  else if k.1 = 1 then (setF tCert x 1 (dN k.2).1, (dN k.2).2)
  else if k.1 = 2 then (setF tCert x 2 (dI k.2 [-1, 2, 100]).1, (dI k.2 [-1, 2, 100]).2)
  else if k.1 = 3 then (setF tCert x 4 (dR k.2).1, (dR k.2).2)
  else if k.1 = 4 then (setF tCert x 6 (IntKind.i64.wrap (x.2.2.2.2.2.2.1 + 1)), k.2)
  else if k.1 = 5 then (setF tCert x 5 (dN k.2).1, (dN k.2).2)
  else (x, k.2)
def d10D (s : Cu) : tStatus.den × Cu :=
  let t := dB s 60
  let a := dB t.2 3
  let b := dB a.2 2
  let o := dO b.2 3
  if o.1 = true then ((mstF K8 (IntKind.i64.wrap (1 + a.1), t.1, (dB o.2 (IntKind.i64.wrap (t.1 + 2))).1, IntKind.i64.wrap (1 + b.1), 0, ())).1, (dB o.2 (IntKind.i64.wrap (t.1 + 2))).2)
  else ((mstF K8 (IntKind.i64.wrap (1 + a.1), t.1, -1, IntKind.i64.wrap (1 + b.1), 0, ())).1, o.2)
def d10 (s : Cu) : tStatus.den × Cu :=
  let x := d10D s
  let k := dB x.2 9
  if k.1 = 0 then (setF tStatus x.1 0 (dI k.2 [0, 999, 1000]).1, (dI k.2 [0, 999, 1000]).2)
  else if k.1 = 1 then (setF tStatus x.1 1 (dR k.2).1, (dR k.2).2)
  else if k.1 = 2 then (setF tStatus x.1 2 (dI k.2 [-2, 0, 61, 62]).1, (dI k.2 [-2, 0, 61, 62]).2)
  else if k.1 = 3 then (setF tStatus x.1 3 (dN k.2).1, (dN k.2).2)
  else if k.1 = 4 then (setF tStatus x.1 4 (IntKind.i64.wrap (x.1.2.2.2.2.1 + 1)), k.2)
  else (x.1, k.2)
theorem l9Certs_ok : FunOK Try.prog 35 [] (.own 25 tCert C3) := by
  refine fun_of (tb := tb) follows Try.func35 (by kernel_rfl) Try.ntmps35 rfl rfl rfl ?_
  intro cx hN hw
  simp (disch := exact eqId (by kernel_rfl)) only [go_sem, ↓reduceIte, Nat.reduceAdd, Nat.reduceMul, Nat.reduceLT, Nat.reduceBEq, Nat.reduceLeDiff, Nat.reduceEqDiff, Int.reduceToNat]
  repeat' (first | (refine And.intro ?_ ?_) | intro _ | (refine callQ_intro (l8Keys_ok) ?_; try (simp (disch := exact eqId (by kernel_rfl)) only [go_sem, ↓reduceIte, Nat.reduceAdd, Nat.reduceMul, Nat.reduceLT, Nat.reduceBEq, Nat.reduceLeDiff, Nat.reduceEqDiff, Int.reduceToNat])) | (refine callH_intro (fun hcc => l8Keys_ok) ?_; try (simp (disch := exact eqId (by kernel_rfl)) only [go_sem, ↓reduceIte, Nat.reduceAdd, Nat.reduceMul, Nat.reduceLT, Nat.reduceBEq, Nat.reduceLeDiff, Nat.reduceEqDiff, Int.reduceToNat])) | (refine callQ_intro (spec_IssueCert_ok _ _) ?_; try (simp (disch := exact eqId (by kernel_rfl)) only [go_sem, ↓reduceIte, Nat.reduceAdd, Nat.reduceMul, Nat.reduceLT, Nat.reduceBEq, Nat.reduceLeDiff, Nat.reduceEqDiff, Int.reduceToNat])) | (refine callH_intro (fun hcc => spec_IssueCert_ok _ _) ?_; try (simp (disch := exact eqId (by kernel_rfl)) only [go_sem, ↓reduceIte, Nat.reduceAdd, Nat.reduceMul, Nat.reduceLT, Nat.reduceBEq, Nat.reduceLeDiff, Nat.reduceEqDiff, Int.reduceToNat])))
  all_goals (try rfl)
theorem l9Any_ok (s : Cu)  : MutOK Try.prog 28 [none] [.obj (.box 58 [.rd (.list (.int .u8)) (s).b, .rd I (s).i, .rd I (s).h])] (.rd tCert (d9 s).1) [.box 58 [.rd (.list (.int .u8)) ((d9 s).2).b, .rd I ((d9 s).2).i, .rd I ((d9 s).2).h]] := by
  have h1 := dB_in s (n := 3) (by decide)
  have hl : C3.length = 3 := rfl
  refine fun_ofM (tb := tb) follows Try.func28 (by kernel_rfl) Try.ntmps28 rfl rfl (by simp [shOK]) rfl ?_
  intro cx hN hw
  simp (disch := exact eqId (by kernel_rfl)) only [go_sem, ↓reduceIte, Nat.reduceAdd, Nat.reduceMul, Nat.reduceLT, Nat.reduceBEq, Nat.reduceLeDiff, Nat.reduceEqDiff, Int.reduceToNat]
  repeat' (first | (refine And.intro ?_ ?_) | intro _ | (refine callM_intro (dI_ok _ [0, 1, 999, 1000] (by decide)) ⟨⟨trivial, by decide⟩, rfl, rfl⟩ ?_; try (simp (disch := exact eqId (by kernel_rfl)) only [go_sem, ↓reduceIte, Nat.reduceAdd, Nat.reduceMul, Nat.reduceLT, Nat.reduceBEq, Nat.reduceLeDiff, Nat.reduceEqDiff, Int.reduceToNat])) | (refine callM_intro (dI_ok _ [-1, 2, 100] (by decide)) ⟨⟨trivial, by decide⟩, rfl, rfl⟩ ?_; try (simp (disch := exact eqId (by kernel_rfl)) only [go_sem, ↓reduceIte, Nat.reduceAdd, Nat.reduceMul, Nat.reduceLT, Nat.reduceBEq, Nat.reduceLeDiff, Nat.reduceEqDiff, Int.reduceToNat])) | (refine callM_intro (l8Number_ok _) ⟨⟨trivial, by decide⟩, rfl, rfl⟩ ?_; try (simp (disch := exact eqId (by kernel_rfl)) only [go_sem, ↓reduceIte, Nat.reduceAdd, Nat.reduceMul, Nat.reduceLT, Nat.reduceBEq, Nat.reduceLeDiff, Nat.reduceEqDiff, Int.reduceToNat])) | (refine callM_intro (l4Raw_ok _) ⟨⟨trivial, by decide⟩, rfl, rfl⟩ ?_; try (simp (disch := exact eqId (by kernel_rfl)) only [go_sem, ↓reduceIte, Nat.reduceAdd, Nat.reduceMul, Nat.reduceLT, Nat.reduceBEq, Nat.reduceLeDiff, Nat.reduceEqDiff, Int.reduceToNat])) | (refine callM_intro (dB_ok _ _) ⟨⟨trivial, by decide⟩, rfl, rfl⟩ ?_; try (simp (disch := exact eqId (by kernel_rfl)) only [go_sem, ↓reduceIte, Nat.reduceAdd, Nat.reduceMul, Nat.reduceLT, Nat.reduceBEq, Nat.reduceLeDiff, Nat.reduceEqDiff, Int.reduceToNat])) | (refine callQ_intro (l9Certs_ok) ?_; try (simp (disch := exact eqId (by kernel_rfl)) only [go_sem, ↓reduceIte, Nat.reduceAdd, Nat.reduceMul, Nat.reduceLT, Nat.reduceBEq, Nat.reduceLeDiff, Nat.reduceEqDiff, Int.reduceToNat])) | (refine callH_intro (fun hcc => l9Certs_ok) ?_; try (simp (disch := exact eqId (by kernel_rfl)) only [go_sem, ↓reduceIte, Nat.reduceAdd, Nat.reduceMul, Nat.reduceLT, Nat.reduceBEq, Nat.reduceLeDiff, Nat.reduceEqDiff, Int.reduceToNat])))
  all_goals (try omega)
  all_goals (try (unfold d9; simp only [*, ↓reduceIte]; done))
  all_goals (try (unfold d9; simp only [*, ↓reduceIte]; first | rfl | exact ⟨rfl, rfl⟩ | exact ⟨rfl, rfl, rfl⟩))
theorem l10Draw_ok (s : Cu)  : MutOK Try.prog 39 [none] [.obj (.box 58 [.rd (.list (.int .u8)) (s).b, .rd I (s).i, .rd I (s).h])] (.rd tStatus (d10D s).1) [.box 58 [.rd (.list (.int .u8)) ((d10D s).2).b, .rd I ((d10D s).2).i, .rd I ((d10D s).2).h]] := by
  refine fun_ofM (tb := tb) follows Try.func39 (by kernel_rfl) Try.ntmps39 rfl rfl (by simp [shOK]) rfl ?_
  intro cx hN hw
  simp (disch := exact eqId (by kernel_rfl)) only [go_sem, ↓reduceIte, Nat.reduceAdd, Nat.reduceMul, Nat.reduceLT, Nat.reduceBEq, Nat.reduceLeDiff, Nat.reduceEqDiff, Int.reduceToNat]
  repeat' (first | (refine And.intro ?_ ?_) | intro _ | (refine callM_intro (dB_ok _ _) ⟨⟨trivial, by decide⟩, rfl, rfl⟩ ?_; try (simp (disch := exact eqId (by kernel_rfl)) only [go_sem, ↓reduceIte, Nat.reduceAdd, Nat.reduceMul, Nat.reduceLT, Nat.reduceBEq, Nat.reduceLeDiff, Nat.reduceEqDiff, Int.reduceToNat])) | (refine callM_intro (dO_ok _ _) ⟨⟨trivial, by decide⟩, rfl, rfl⟩ ?_; try (simp (disch := exact eqId (by kernel_rfl)) only [go_sem, ↓reduceIte, Nat.reduceAdd, Nat.reduceMul, Nat.reduceLT, Nat.reduceBEq, Nat.reduceLeDiff, Nat.reduceEqDiff, Int.reduceToNat])) | (refine callQ_intro (l8Keys_ok) ?_; try (simp (disch := exact eqId (by kernel_rfl)) only [go_sem, ↓reduceIte, Nat.reduceAdd, Nat.reduceMul, Nat.reduceLT, Nat.reduceBEq, Nat.reduceLeDiff, Nat.reduceEqDiff, Int.reduceToNat])) | (refine callH_intro (fun hcc => l8Keys_ok) ?_; try (simp (disch := exact eqId (by kernel_rfl)) only [go_sem, ↓reduceIte, Nat.reduceAdd, Nat.reduceMul, Nat.reduceLT, Nat.reduceBEq, Nat.reduceLeDiff, Nat.reduceEqDiff, Int.reduceToNat])) | (refine callQ_intro (spec_MakeStatus_ok _ _) ?_; try (simp (disch := exact eqId (by kernel_rfl)) only [go_sem, ↓reduceIte, Nat.reduceAdd, Nat.reduceMul, Nat.reduceLT, Nat.reduceBEq, Nat.reduceLeDiff, Nat.reduceEqDiff, Int.reduceToNat])) | (refine callH_intro (fun hcc => spec_MakeStatus_ok _ _) ?_; try (simp (disch := exact eqId (by kernel_rfl)) only [go_sem, ↓reduceIte, Nat.reduceAdd, Nat.reduceMul, Nat.reduceLT, Nat.reduceBEq, Nat.reduceLeDiff, Nat.reduceEqDiff, Int.reduceToNat])))
  all_goals (try omega)
  all_goals (try (unfold d10D; simp only [*, ↓reduceIte]; done))
  all_goals (try (unfold d10D; simp only [*, ↓reduceIte]; first | rfl | exact ⟨rfl, rfl⟩ | exact ⟨rfl, rfl, rfl⟩))
theorem l10Any_ok (s : Cu)  : MutOK Try.prog 30 [none] [.obj (.box 58 [.rd (.list (.int .u8)) (s).b, .rd I (s).i, .rd I (s).h])] (.rd tStatus (d10 s).1) [.box 58 [.rd (.list (.int .u8)) ((d10 s).2).b, .rd I ((d10 s).2).i, .rd I ((d10 s).2).h]] := by
  refine fun_ofM (tb := tb) follows Try.func30 (by kernel_rfl) Try.ntmps30 rfl rfl (by simp [shOK]) rfl ?_
  intro cx hN hw
  simp (disch := exact eqId (by kernel_rfl)) only [go_sem, ↓reduceIte, Nat.reduceAdd, Nat.reduceMul, Nat.reduceLT, Nat.reduceBEq, Nat.reduceLeDiff, Nat.reduceEqDiff, Int.reduceToNat]
  repeat' (first | (refine And.intro ?_ ?_) | intro _ | (refine callM_intro (dI_ok _ [0, 999, 1000] (by decide)) ⟨⟨trivial, by decide⟩, rfl, rfl⟩ ?_; try (simp (disch := exact eqId (by kernel_rfl)) only [go_sem, ↓reduceIte, Nat.reduceAdd, Nat.reduceMul, Nat.reduceLT, Nat.reduceBEq, Nat.reduceLeDiff, Nat.reduceEqDiff, Int.reduceToNat])) | (refine callM_intro (dI_ok _ [-2, 0, 61, 62] (by decide)) ⟨⟨trivial, by decide⟩, rfl, rfl⟩ ?_; try (simp (disch := exact eqId (by kernel_rfl)) only [go_sem, ↓reduceIte, Nat.reduceAdd, Nat.reduceMul, Nat.reduceLT, Nat.reduceBEq, Nat.reduceLeDiff, Nat.reduceEqDiff, Int.reduceToNat])) | (refine callM_intro (l10Draw_ok _) ⟨⟨trivial, by decide⟩, rfl, rfl⟩ ?_; try (simp (disch := exact eqId (by kernel_rfl)) only [go_sem, ↓reduceIte, Nat.reduceAdd, Nat.reduceMul, Nat.reduceLT, Nat.reduceBEq, Nat.reduceLeDiff, Nat.reduceEqDiff, Int.reduceToNat])) | (refine callM_intro (l8Number_ok _) ⟨⟨trivial, by decide⟩, rfl, rfl⟩ ?_; try (simp (disch := exact eqId (by kernel_rfl)) only [go_sem, ↓reduceIte, Nat.reduceAdd, Nat.reduceMul, Nat.reduceLT, Nat.reduceBEq, Nat.reduceLeDiff, Nat.reduceEqDiff, Int.reduceToNat])) | (refine callM_intro (l4Raw_ok _) ⟨⟨trivial, by decide⟩, rfl, rfl⟩ ?_; try (simp (disch := exact eqId (by kernel_rfl)) only [go_sem, ↓reduceIte, Nat.reduceAdd, Nat.reduceMul, Nat.reduceLT, Nat.reduceBEq, Nat.reduceLeDiff, Nat.reduceEqDiff, Int.reduceToNat])) | (refine callM_intro (dB_ok _ _) ⟨⟨trivial, by decide⟩, rfl, rfl⟩ ?_; try (simp (disch := exact eqId (by kernel_rfl)) only [go_sem, ↓reduceIte, Nat.reduceAdd, Nat.reduceMul, Nat.reduceLT, Nat.reduceBEq, Nat.reduceLeDiff, Nat.reduceEqDiff, Int.reduceToNat])))
  all_goals (try omega)
  all_goals (try (unfold d10; simp only [*, ↓reduceIte]; done))
  all_goals (try (unfold d10; simp only [*, ↓reduceIte]; first | rfl | exact ⟨rfl, rfl⟩ | exact ⟨rfl, rfl, rfl⟩))
end Go.Proofs.Ytcbecpjhgfkofaa
