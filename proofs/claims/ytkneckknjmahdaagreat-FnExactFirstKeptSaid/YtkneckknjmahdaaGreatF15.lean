/- What the functions of spans answer, on both sides. It proves nothing of a statement by itself. -/
import Derived.Test.YtkneckknjmahdaaGreatPn
set_option linter.unusedSimpArgs false
set_option linter.unusedVariables false
set_option maxRecDepth 100000
namespace Go.Proofs.YtkneckknjmahdaaGreat
open Go.AL
theorem spec_Max_ok (a b : Int) : FunOK Tryz.prog 59 [⟨I, a⟩, ⟨I, b⟩] (.rd I (mxF a b)) := by
  refine fun_of (tb := tb) follows Tryz.func59 (by kernel_rfl) Tryz.ntmps59 rfl rfl rfl ?_
  intro cx hN hw
  simp (disch := exact eqId (by kernel_rfl)) only [go_sem, ↓reduceIte, Nat.reduceAdd, Nat.reduceMul, Nat.reduceLT, Nat.reduceBEq, Nat.reduceLeDiff, Nat.reduceEqDiff, Int.reduceToNat]
  repeat' (first | (refine And.intro ?_ ?_) | intro _)
  all_goals (unfold mxF; first | rw [if_pos (by assumption)] | rw [if_neg (by assumption)])
theorem spec_Min_ok (a b : Int) : FunOK Tryz.prog 49 [⟨I, a⟩, ⟨I, b⟩] (.rd I (mnF a b)) := by
  refine fun_of (tb := tb) follows Tryz.func49 (by kernel_rfl) Tryz.ntmps49 rfl rfl rfl ?_
  intro cx hN hw
  simp (disch := exact eqId (by kernel_rfl)) only [go_sem, ↓reduceIte, Nat.reduceAdd, Nat.reduceMul, Nat.reduceLT, Nat.reduceBEq, Nat.reduceLeDiff, Nat.reduceEqDiff, Int.reduceToNat]
  repeat' (first | (refine And.intro ?_ ?_) | intro _)
  all_goals (unfold mnF; first | rw [if_pos (by assumption)] | rw [if_neg (by assumption)])
theorem impl_IsSpan_ok (s : tSpan.den) : FunOK Tryz.prog 144 [⟨tSpan, s⟩] (.rd .bool (spB s)) := by
  refine fun_of (tb := tb) follows Tryz.func144 (by kernel_rfl) Tryz.ntmps144 rfl rfl rfl ?_
  intro cx hN hw
  simp (disch := exact eqId (by kernel_rfl)) only [go_sem, ↓reduceIte, Nat.reduceAdd, Nat.reduceMul, Nat.reduceLT, Nat.reduceBEq, Nat.reduceLeDiff, Nat.reduceEqDiff, Int.reduceToNat]
  repeat' (first | (refine And.intro ?_ ?_) | intro _ | (refine callQ_intro (impl_isTime_ok _) ?_; try (simp (disch := exact eqId (by kernel_rfl)) only [go_sem, ↓reduceIte, Nat.reduceAdd, Nat.reduceMul, Nat.reduceLT, Nat.reduceBEq, Nat.reduceLeDiff, Nat.reduceEqDiff, Int.reduceToNat])) | (refine callH_intro (fun hcc => impl_isTime_ok _) ?_; try (simp (disch := exact eqId (by kernel_rfl)) only [go_sem, ↓reduceIte, Nat.reduceAdd, Nat.reduceMul, Nat.reduceLT, Nat.reduceBEq, Nat.reduceLeDiff, Nat.reduceEqDiff, Int.reduceToNat])))
  all_goals (try rfl)
theorem spec_IsSpan_ok (s : tSpan.den) : FunOK Tryz.prog 118 [⟨tSpan, s⟩] (.rd .bool (spB s)) := by
  refine fun_of (tb := tb) follows Tryz.func118 (by kernel_rfl) Tryz.ntmps118 rfl rfl rfl ?_
  intro cx hN hw
  simp (disch := exact eqId (by kernel_rfl)) only [go_sem, ↓reduceIte, Nat.reduceAdd, Nat.reduceMul, Nat.reduceLT, Nat.reduceBEq, Nat.reduceLeDiff, Nat.reduceEqDiff, Int.reduceToNat]
  repeat' (first | (refine And.intro ?_ ?_) | intro _ | (refine callQ_intro (spec_l4Time_ok _) ?_; try (simp (disch := exact eqId (by kernel_rfl)) only [go_sem, ↓reduceIte, Nat.reduceAdd, Nat.reduceMul, Nat.reduceLT, Nat.reduceBEq, Nat.reduceLeDiff, Nat.reduceEqDiff, Int.reduceToNat])) | (refine callH_intro (fun hcc => spec_l4Time_ok _) ?_; try (simp (disch := exact eqId (by kernel_rfl)) only [go_sem, ↓reduceIte, Nat.reduceAdd, Nat.reduceMul, Nat.reduceLT, Nat.reduceBEq, Nat.reduceLeDiff, Nat.reduceEqDiff, Int.reduceToNat])))
  all_goals (try rfl)
theorem impl_MakeSpan_ok (a b : Int) : FunOK Tryz.prog 127 [⟨I, a⟩, ⟨I, b⟩] (.tup [.rd tSpan (mkF a b).1, .rd .bool (mkF a b).2]) := by
  refine fun_of (tb := tb) follows Tryz.func127 (by kernel_rfl) Tryz.ntmps127 rfl rfl rfl ?_
  intro cx hN hw
  simp (disch := exact eqId (by kernel_rfl)) only [go_sem, ↓reduceIte, Nat.reduceAdd, Nat.reduceMul, Nat.reduceLT, Nat.reduceBEq, Nat.reduceLeDiff, Nat.reduceEqDiff, Int.reduceToNat]
  repeat' (first | (refine And.intro ?_ ?_) | intro _ | (refine callQ_intro (impl_IsSpan_ok _) ?_; try (simp (disch := exact eqId (by kernel_rfl)) only [go_sem, ↓reduceIte, Nat.reduceAdd, Nat.reduceMul, Nat.reduceLT, Nat.reduceBEq, Nat.reduceLeDiff, Nat.reduceEqDiff, Int.reduceToNat])) | (refine callH_intro (fun hcc => impl_IsSpan_ok _) ?_; try (simp (disch := exact eqId (by kernel_rfl)) only [go_sem, ↓reduceIte, Nat.reduceAdd, Nat.reduceMul, Nat.reduceLT, Nat.reduceBEq, Nat.reduceLeDiff, Nat.reduceEqDiff, Int.reduceToNat])))
  all_goals (rename_i hc; first | exact (congrArg Prod.fst (mkA_f hc)).symm | exact (congrArg Prod.snd (mkA_f hc)).symm | exact (congrArg Prod.fst (mkA_t hc)).symm | exact (congrArg Prod.snd (mkA_t hc)).symm)
theorem spec_MakeSpan_ok (a b : Int) : FunOK Tryz.prog 116 [⟨I, a⟩, ⟨I, b⟩] (.tup [.rd tSpan (mkF a b).1, .rd .bool (mkF a b).2]) := by
  refine fun_of (tb := tb) follows Tryz.func116 (by kernel_rfl) Tryz.ntmps116 rfl rfl rfl ?_
  intro cx hN hw
  simp (disch := exact eqId (by kernel_rfl)) only [go_sem, ↓reduceIte, Nat.reduceAdd, Nat.reduceMul, Nat.reduceLT, Nat.reduceBEq, Nat.reduceLeDiff, Nat.reduceEqDiff, Int.reduceToNat]
  repeat' (first | (refine And.intro ?_ ?_) | intro _ | (refine callQ_intro (spec_Max_ok _ _) ?_; try (simp (disch := exact eqId (by kernel_rfl)) only [go_sem, ↓reduceIte, Nat.reduceAdd, Nat.reduceMul, Nat.reduceLT, Nat.reduceBEq, Nat.reduceLeDiff, Nat.reduceEqDiff, Int.reduceToNat])) | (refine callH_intro (fun hcc => spec_Max_ok _ _) ?_; try (simp (disch := exact eqId (by kernel_rfl)) only [go_sem, ↓reduceIte, Nat.reduceAdd, Nat.reduceMul, Nat.reduceLT, Nat.reduceBEq, Nat.reduceLeDiff, Nat.reduceEqDiff, Int.reduceToNat])) | (refine callQ_intro (spec_Min_ok _ _) ?_; try (simp (disch := exact eqId (by kernel_rfl)) only [go_sem, ↓reduceIte, Nat.reduceAdd, Nat.reduceMul, Nat.reduceLT, Nat.reduceBEq, Nat.reduceLeDiff, Nat.reduceEqDiff, Int.reduceToNat])) | (refine callH_intro (fun hcc => spec_Min_ok _ _) ?_; try (simp (disch := exact eqId (by kernel_rfl)) only [go_sem, ↓reduceIte, Nat.reduceAdd, Nat.reduceMul, Nat.reduceLT, Nat.reduceBEq, Nat.reduceLeDiff, Nat.reduceEqDiff, Int.reduceToNat])))
  all_goals (rename_i hc; first | exact (congrArg Prod.fst (mkB_f hc)).symm | exact (congrArg Prod.snd (mkB_f hc)).symm | exact (congrArg Prod.fst (mkB_t hc)).symm | exact (congrArg Prod.snd (mkB_t hc)).symm)
theorem sp_getD {out : List tSpan.den} (h : AllSp out) {j : Nat} (hj : j < out.length) : spB (out.getD j (0, 0, ())) = true := h _ (getD_mem hj _)
def mrowF (b : List tSpan.den) (x : tSpan.den) : List tSpan.den := b.flatMap fun y => optS (meF x y)
theorem mrow_len (b : List tSpan.den) (x : tSpan.den) : (mrowF b x).length ≤ 1 * b.length := fl_len _ 1 (fun y => optS_len _) b
theorem fm_take' {α β : Type} (f : α → List β) {l : List α} {k : Nat} (hk : k < l.length) (d : α) : (l.take (k + 1)).flatMap f = (l.take k).flatMap f ++ f (l.getD k d) := by
  rw [take_getD hk d, List.flatMap_append]
  simp
end Go.Proofs.YtkneckknjmahdaaGreat
