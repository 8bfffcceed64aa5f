/- What the laws' own helpers answer: copies. It proves nothing of a statement by itself. -/
import Derived.Test.YtaeieogcibhhkaaG
set_option linter.unusedSimpArgs false
set_option linter.unusedVariables false
set_option maxRecDepth 100000
namespace Go.Proofs.Ytaeieogcibhhkaa
open Go.AL
theorem toIntS_ok (l : List (I : Ty).den) (hs : Small (.list I) 1073741824 l) : FunOK Try.prog 57 [⟨(.list I), l⟩] (.own 3 I l) := by
  have hs1 : l.length ≤ 1073741824 := hs.1
  refine fun_of (tb := tb) follows Try.func57 (by kernel_rfl) Try.ntmps57 rfl rfl rfl ?_
  intro cx hN hw
  simp (disch := exact eqId (by kernel_rfl)) only [go_sem, ↓reduceIte, Nat.reduceAdd, Nat.reduceMul, Nat.reduceLT, Nat.reduceBEq, Nat.reduceLeDiff, Nat.reduceEqDiff]
  repeat' (first | (refine And.intro ?_ ?_) | intro _)
  all_goals (try omega)
  refine loop_intro (tb := tb) follows hN (D := Nat) (fun d => shp [(0, .rd (.list I) (l)), (3, .own 1), (4, .rd I (d : Int))] [(1, .arr 3 I (l.take d ++ List.replicate (l.length - d) (I : Ty).dflt))]) (fun d => d ≤ l.length) (fun d => l.length - d) (0) ?_ (sub_shp hN [(1, some 20032)] ?_) (fun d hd => ?_)
  · exact Nat.zero_le _
  · simp (disch := exact eqId (by kernel_rfl)) only [go_sem, ↓reduceIte, Nat.reduceAdd, Nat.reduceMul, Nat.reduceLT, Nat.reduceBEq, Nat.reduceLeDiff, Nat.reduceEqDiff]
    exact ⟨rfl, rfl⟩
  · simp (disch := exact eqId (by kernel_rfl)) only [go_sem, ↓reduceIte, Nat.reduceAdd, Nat.reduceMul, Nat.reduceLT, Nat.reduceBEq, Nat.reduceLeDiff, Nat.reduceEqDiff]
    repeat' (first | (refine And.intro ?_ ?_) | intro _)
    all_goals (try simp only [List.length_append, List.length_take, List.length_replicate])
    all_goals (try omega)
    · have hk : d < l.length := by omega
      refine back_intro (d + 1) ?_ ?_ (sub_shp hN [(1, some 1)] ?_)
      · exact hk
      · omega
      · simp (disch := exact eqId (by kernel_rfl)) only [go_sem, ↓reduceIte, Nat.reduceAdd, Nat.reduceMul, Nat.reduceLT, Nat.reduceBEq, Nat.reduceLeDiff, Nat.reduceEqDiff]
        exact ⟨set_take_rep hk rfl _ _, wrap_succ' (by omega)⟩
    · have hk : d = l.length := by omega
      simp [hk]
theorem toStamp_ok (a : tStamp.den) : FunOK Try.prog 31 [⟨tStamp, a⟩] (.rd tStamp a) := by
  obtain ⟨a0, a1, a2, a3, a4, _⟩ := a
  refine fun_of (tb := tb) follows Try.func31 (by kernel_rfl) Try.ntmps31 rfl rfl rfl ?_
  intro cx hN hw
  simp (disch := exact eqId (by kernel_rfl)) only [go_sem, ↓reduceIte, Nat.reduceAdd, Nat.reduceMul, Nat.reduceLT, Nat.reduceBEq, Nat.reduceLeDiff, Nat.reduceEqDiff]
  skip
  all_goals (try rfl)
theorem toStampS_ok (l : List (tStamp : Ty).den) (hs : Small (.list tStamp) 1073741824 l) : FunOK Try.prog 127 [⟨(.list tStamp), l⟩] (.own 32 tStamp l) := by
  have hs1 : l.length ≤ 1073741824 := hs.1
  refine fun_of (tb := tb) follows Try.func127 (by kernel_rfl) Try.ntmps127 rfl rfl rfl ?_
  intro cx hN hw
  simp (disch := exact eqId (by kernel_rfl)) only [go_sem, ↓reduceIte, Nat.reduceAdd, Nat.reduceMul, Nat.reduceLT, Nat.reduceBEq, Nat.reduceLeDiff, Nat.reduceEqDiff]
  repeat' (first | (refine And.intro ?_ ?_) | intro _)
  all_goals (try omega)
  refine loop_intro (tb := tb) follows hN (D := Nat) (fun d => shp [(0, .rd (.list tStamp) (l)), (3, .own 1), (4, .rd I (d : Int))] [(1, .arr 32 tStamp (l.take d ++ List.replicate (l.length - d) (tStamp : Ty).dflt))]) (fun d => d ≤ l.length) (fun d => l.length - d) (0) ?_ (sub_shp hN [(1, some 20032)] ?_) (fun d hd => ?_)
  · exact Nat.zero_le _
  · simp (disch := exact eqId (by kernel_rfl)) only [go_sem, ↓reduceIte, Nat.reduceAdd, Nat.reduceMul, Nat.reduceLT, Nat.reduceBEq, Nat.reduceLeDiff, Nat.reduceEqDiff]
    exact ⟨rfl, rfl⟩
  · simp (disch := exact eqId (by kernel_rfl)) only [go_sem, ↓reduceIte, Nat.reduceAdd, Nat.reduceMul, Nat.reduceLT, Nat.reduceBEq, Nat.reduceLeDiff, Nat.reduceEqDiff]
    repeat' (first | (refine And.intro ?_ ?_) | intro _ | (refine callQ_intro (toStamp_ok _) ?_; try (simp (disch := exact eqId (by kernel_rfl)) only [go_sem, ↓reduceIte, Nat.reduceAdd, Nat.reduceMul, Nat.reduceLT, Nat.reduceBEq, Nat.reduceLeDiff, Nat.reduceEqDiff])))
    all_goals (try simp only [List.length_append, List.length_take, List.length_replicate])
    all_goals (try omega)
    · have hk : d < l.length := by omega
      refine back_intro (d + 1) ?_ ?_ (sub_shp hN [(1, some 1)] ?_)
      · exact hk
      · omega
      · simp (disch := exact eqId (by kernel_rfl)) only [go_sem, ↓reduceIte, Nat.reduceAdd, Nat.reduceMul, Nat.reduceLT, Nat.reduceBEq, Nat.reduceLeDiff, Nat.reduceEqDiff]
        exact ⟨set_take_rep hk rfl _ _, wrap_succ' (by omega)⟩
    · have hk : d = l.length := by omega
      simp [hk]
theorem toStatus_ok (a : tStatus.den) : FunOK Try.prog 37 [⟨tStatus, a⟩] (.rd tStatus a) := by
  obtain ⟨a0, a1, a2, a3, a4, _⟩ := a
  refine fun_of (tb := tb) follows Try.func37 (by kernel_rfl) Try.ntmps37 rfl rfl rfl ?_
  intro cx hN hw
  simp (disch := exact eqId (by kernel_rfl)) only [go_sem, ↓reduceIte, Nat.reduceAdd, Nat.reduceMul, Nat.reduceLT, Nat.reduceBEq, Nat.reduceLeDiff, Nat.reduceEqDiff]
  skip
  all_goals (try rfl)
theorem toMandate_ok (a : tMandate.den) : FunOK Try.prog 40 [⟨tMandate, a⟩] (.rd tMandate a) := by
  obtain ⟨a0, a1, a2, a3, a4, a5, _⟩ := a
  refine fun_of (tb := tb) follows Try.func40 (by kernel_rfl) Try.ntmps40 rfl rfl rfl ?_
  intro cx hN hw
  simp (disch := exact eqId (by kernel_rfl)) only [go_sem, ↓reduceIte, Nat.reduceAdd, Nat.reduceMul, Nat.reduceLT, Nat.reduceBEq, Nat.reduceLeDiff, Nat.reduceEqDiff]
  skip
  all_goals (try rfl)
theorem toCert_ok (a : tCert.den) : FunOK Try.prog 47 [⟨tCert, a⟩] (.rd tCert a) := by
  obtain ⟨a0, a1, a2, a3, a4, a5, a6, _⟩ := a
  refine fun_of (tb := tb) follows Try.func47 (by kernel_rfl) Try.ntmps47 rfl rfl rfl ?_
  intro cx hN hw
  simp (disch := exact eqId (by kernel_rfl)) only [go_sem, ↓reduceIte, Nat.reduceAdd, Nat.reduceMul, Nat.reduceLT, Nat.reduceBEq, Nat.reduceLeDiff, Nat.reduceEqDiff]
  skip
  all_goals (try rfl)
theorem toSignature_ok (a : tSignature.den) : FunOK Try.prog 50 [⟨tSignature, a⟩] (.rd tSignature a) := by
  obtain ⟨a0, a1, a2, a3, a4, a5, a6, a7, a8, _⟩ := a
  refine fun_of (tb := tb) follows Try.func50 (by kernel_rfl) Try.ntmps50 rfl rfl rfl ?_
  intro cx hN hw
  simp (disch := exact eqId (by kernel_rfl)) only [go_sem, ↓reduceIte, Nat.reduceAdd, Nat.reduceMul, Nat.reduceLT, Nat.reduceBEq, Nat.reduceLeDiff, Nat.reduceEqDiff]
  skip
  all_goals (try rfl)
theorem toStep_ok (a : tStep.den) : FunOK Try.prog 121 [⟨tStep, a⟩] (.rd tStep a) := by
  obtain ⟨a0, a1, _⟩ := a
  refine fun_of (tb := tb) follows Try.func121 (by kernel_rfl) Try.ntmps121 rfl rfl rfl ?_
  intro cx hN hw
  simp (disch := exact eqId (by kernel_rfl)) only [go_sem, ↓reduceIte, Nat.reduceAdd, Nat.reduceMul, Nat.reduceLT, Nat.reduceBEq, Nat.reduceLeDiff, Nat.reduceEqDiff]
  skip
  all_goals (try rfl)
theorem toStepS_ok (l : List (tStep : Ty).den) (hs : Small (.list tStep) 1073741824 l) : FunOK Try.prog 62 [⟨(.list tStep), l⟩] (.own 131 tStep l) := by
  have hs1 : l.length ≤ 1073741824 := hs.1
  refine fun_of (tb := tb) follows Try.func62 (by kernel_rfl) Try.ntmps62 rfl rfl rfl ?_
  intro cx hN hw
  simp (disch := exact eqId (by kernel_rfl)) only [go_sem, ↓reduceIte, Nat.reduceAdd, Nat.reduceMul, Nat.reduceLT, Nat.reduceBEq, Nat.reduceLeDiff, Nat.reduceEqDiff]
  repeat' (first | (refine And.intro ?_ ?_) | intro _)
  all_goals (try omega)
  refine loop_intro (tb := tb) follows hN (D := Nat) (fun d => shp [(0, .rd (.list tStep) (l)), (3, .own 1), (4, .rd I (d : Int))] [(1, .arr 131 tStep (l.take d ++ List.replicate (l.length - d) (tStep : Ty).dflt))]) (fun d => d ≤ l.length) (fun d => l.length - d) (0) ?_ (sub_shp hN [(1, some 20032)] ?_) (fun d hd => ?_)
  · exact Nat.zero_le _
  · simp (disch := exact eqId (by kernel_rfl)) only [go_sem, ↓reduceIte, Nat.reduceAdd, Nat.reduceMul, Nat.reduceLT, Nat.reduceBEq, Nat.reduceLeDiff, Nat.reduceEqDiff]
    exact ⟨rfl, rfl⟩
  · simp (disch := exact eqId (by kernel_rfl)) only [go_sem, ↓reduceIte, Nat.reduceAdd, Nat.reduceMul, Nat.reduceLT, Nat.reduceBEq, Nat.reduceLeDiff, Nat.reduceEqDiff]
    repeat' (first | (refine And.intro ?_ ?_) | intro _ | (refine callQ_intro (toStep_ok _) ?_; try (simp (disch := exact eqId (by kernel_rfl)) only [go_sem, ↓reduceIte, Nat.reduceAdd, Nat.reduceMul, Nat.reduceLT, Nat.reduceBEq, Nat.reduceLeDiff, Nat.reduceEqDiff])))
    all_goals (try simp only [List.length_append, List.length_take, List.length_replicate])
    all_goals (try omega)
    · have hk : d < l.length := by omega
      refine back_intro (d + 1) ?_ ?_ (sub_shp hN [(1, some 1)] ?_)
      · exact hk
      · omega
      · simp (disch := exact eqId (by kernel_rfl)) only [go_sem, ↓reduceIte, Nat.reduceAdd, Nat.reduceMul, Nat.reduceLT, Nat.reduceBEq, Nat.reduceLeDiff, Nat.reduceEqDiff]
        exact ⟨set_take_rep hk rfl _ _, wrap_succ' (by omega)⟩
    · have hk : d = l.length := by omega
      simp [hk]
theorem toPiece_ok (a : tPiece.den) (hs : Small tPiece 1073741824 a) : FunOK Try.prog 44 [⟨tPiece, a⟩] (.agg [.rd I a.1, .own 3 I a.2.1, .rd I a.2.2.1]) := by
  skip
  refine fun_of (tb := tb) follows Try.func44 (by kernel_rfl) Try.ntmps44 rfl rfl rfl ?_
  intro cx hN hw
  simp (disch := exact eqId (by kernel_rfl)) only [go_sem, ↓reduceIte, Nat.reduceAdd, Nat.reduceMul, Nat.reduceLT, Nat.reduceBEq, Nat.reduceLeDiff, Nat.reduceEqDiff]
  repeat' (first | (refine And.intro ?_ ?_) | intro _ | (refine callQ_intro (toIntS_ok _ hs.2.1) ?_; try (simp (disch := exact eqId (by kernel_rfl)) only [go_sem, ↓reduceIte, Nat.reduceAdd, Nat.reduceMul, Nat.reduceLT, Nat.reduceBEq, Nat.reduceLeDiff, Nat.reduceEqDiff])))
  all_goals (try rfl)
theorem toPieceS_ok (l : List (tPiece : Ty).den) (hs : Small (.list tPiece) 1073741824 l) : FunOK Try.prog 85 [⟨(.list tPiece), l⟩] (.own 30 tPiece l) := by
  have hs1 : l.length ≤ 1073741824 := hs.1
  refine fun_of (tb := tb) follows Try.func85 (by kernel_rfl) Try.ntmps85 rfl rfl rfl ?_
  intro cx hN hw
  simp (disch := exact eqId (by kernel_rfl)) only [go_sem, ↓reduceIte, Nat.reduceAdd, Nat.reduceMul, Nat.reduceLT, Nat.reduceBEq, Nat.reduceLeDiff, Nat.reduceEqDiff]
  repeat' (first | (refine And.intro ?_ ?_) | intro _)
  all_goals (try omega)
  refine loop_intro (tb := tb) follows hN (D := Nat) (fun d => shp [(0, .rd (.list tPiece) (l)), (3, .own 1), (4, .rd I (d : Int))] [(1, .arr 30 tPiece (l.take d ++ List.replicate (l.length - d) (tPiece : Ty).dflt))]) (fun d => d ≤ l.length) (fun d => l.length - d) (0) ?_ (sub_shp hN [(1, some 20032)] ?_) (fun d hd => ?_)
  · exact Nat.zero_le _
  · simp (disch := exact eqId (by kernel_rfl)) only [go_sem, ↓reduceIte, Nat.reduceAdd, Nat.reduceMul, Nat.reduceLT, Nat.reduceBEq, Nat.reduceLeDiff, Nat.reduceEqDiff]
    exact ⟨rfl, rfl⟩
  · simp (disch := exact eqId (by kernel_rfl)) only [go_sem, ↓reduceIte, Nat.reduceAdd, Nat.reduceMul, Nat.reduceLT, Nat.reduceBEq, Nat.reduceLeDiff, Nat.reduceEqDiff]
    repeat' (first | (refine And.intro ?_ ?_) | intro _ | (refine callQ_intro (toPiece_ok _ (hs.2 _ (getD_mem (by omega) _))) ?_; try (simp (disch := exact eqId (by kernel_rfl)) only [go_sem, ↓reduceIte, Nat.reduceAdd, Nat.reduceMul, Nat.reduceLT, Nat.reduceBEq, Nat.reduceLeDiff, Nat.reduceEqDiff])))
    all_goals (try simp only [List.length_append, List.length_take, List.length_replicate])
    all_goals (try omega)
    · have hk : d < l.length := by omega
      refine back_intro (d + 1) ?_ ?_ (sub_shp hN [(1, some 1)] ?_)
      · exact hk
      · omega
      · simp (disch := exact eqId (by kernel_rfl)) only [go_sem, ↓reduceIte, Nat.reduceAdd, Nat.reduceMul, Nat.reduceLT, Nat.reduceBEq, Nat.reduceLeDiff, Nat.reduceEqDiff]
        exact ⟨set_take_rep hk rfl _ _, wrap_succ' (by omega)⟩
    · have hk : d = l.length := by omega
      simp [hk]
theorem toRenewal_ok (a : tRenewal.den) (hs : Small tRenewal 1073741824 a) : FunOK Try.prog 96 [⟨tRenewal, a⟩] (.agg [.rd I a.1, .rd I a.2.1, .rd I a.2.2.1, .own 131 tStep a.2.2.2.1, .own 32 tStamp a.2.2.2.2.1]) := by
  skip
  refine fun_of (tb := tb) follows Try.func96 (by kernel_rfl) Try.ntmps96 rfl rfl rfl ?_
  intro cx hN hw
  simp (disch := exact eqId (by kernel_rfl)) only [go_sem, ↓reduceIte, Nat.reduceAdd, Nat.reduceMul, Nat.reduceLT, Nat.reduceBEq, Nat.reduceLeDiff, Nat.reduceEqDiff]
  repeat' (first | (refine And.intro ?_ ?_) | intro _ | (refine callQ_intro (toStepS_ok _ hs.2.2.2.1) ?_; try (simp (disch := exact eqId (by kernel_rfl)) only [go_sem, ↓reduceIte, Nat.reduceAdd, Nat.reduceMul, Nat.reduceLT, Nat.reduceBEq, Nat.reduceLeDiff, Nat.reduceEqDiff])) | (refine callQ_intro (toStampS_ok _ hs.2.2.2.2.1) ?_; try (simp (disch := exact eqId (by kernel_rfl)) only [go_sem, ↓reduceIte, Nat.reduceAdd, Nat.reduceMul, Nat.reduceLT, Nat.reduceBEq, Nat.reduceLeDiff, Nat.reduceEqDiff])))
  all_goals (try rfl)
end Go.Proofs.Ytaeieogcibhhkaa
