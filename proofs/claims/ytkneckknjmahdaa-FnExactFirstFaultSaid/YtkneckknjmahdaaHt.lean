/- What the laws' own helpers answer: copies. It proves nothing of a statement by itself. -/
import Derived.Test.YtkneckknjmahdaaG
set_option linter.unusedSimpArgs false
set_option linter.unusedVariables false
set_option maxRecDepth 100000
namespace Go.Proofs.Ytkneckknjmahdaa
open Go.AL
theorem toIntS_ok (l : List (I : Ty).den) (hs : Small (.list I) 1073741824 l) : FunOK Try.prog 93 [⟨(.list I), l⟩] (.own 3 I l) := by
  have hs1 : l.length ≤ 1073741824 := hs.1
  refine fun_of (tb := tb) follows Try.func93 (by kernel_rfl) Try.ntmps93 rfl rfl rfl ?_
  intro cx hN hw
  simp (disch := exact eqId (by kernel_rfl)) only [go_sem, ↓reduceIte, Nat.reduceAdd, Nat.reduceMul, Nat.reduceLT, Nat.reduceBEq, Nat.reduceLeDiff, Nat.reduceEqDiff, Int.reduceToNat]
  repeat' (first | (refine And.intro ?_ ?_) | intro _)
  all_goals (try omega)
  refine loop_intro (tb := tb) follows hN (D := Nat) (fun d => shp [(0, .rd (.list I) (l)), (3, .own 1), (4, .rd I (d : Int))] [(1, .arr 3 I (l.take d ++ List.replicate (l.length - d) (I : Ty).dflt))]) (fun d => d ≤ l.length) (fun d => l.length - d) (0) ?_ (sub_shp hN [(1, some 20032)] ?_) (fun d hd => ?_)
  · exact Nat.zero_le _
  · simp (disch := exact eqId (by kernel_rfl)) only [go_sem, ↓reduceIte, Nat.reduceAdd, Nat.reduceMul, Nat.reduceLT, Nat.reduceBEq, Nat.reduceLeDiff, Nat.reduceEqDiff, Int.reduceToNat]
    exact ⟨rfl, rfl⟩
  · simp (disch := exact eqId (by kernel_rfl)) only [go_sem, ↓reduceIte, Nat.reduceAdd, Nat.reduceMul, Nat.reduceLT, Nat.reduceBEq, Nat.reduceLeDiff, Nat.reduceEqDiff, Int.reduceToNat]
    repeat' (first | (refine And.intro ?_ ?_) | intro _)
    all_goals (try simp only [List.length_append, List.length_take, List.length_replicate])
    all_goals (try omega)
    · have hk : d < l.length := by omega
      refine back_intro (d + 1) ?_ ?_ (sub_shp hN [(1, some 1)] ?_)
      · exact hk
      · omega
      · simp (disch := exact eqId (by kernel_rfl)) only [go_sem, ↓reduceIte, Nat.reduceAdd, Nat.reduceMul, Nat.reduceLT, Nat.reduceBEq, Nat.reduceLeDiff, Nat.reduceEqDiff, Int.reduceToNat]
        exact ⟨set_take_rep hk rfl _ _, wrap_succ' (by omega)⟩
    · have hk : d = l.length := by omega
      simp [hk]
theorem toBoolS_ok (l : List (.bool : Ty).den) (hs : Small (.list .bool) 1073741824 l) : FunOK Try.prog 213 [⟨(.list .bool), l⟩] (.own 4 .bool l) := by
  have hs1 : l.length ≤ 1073741824 := hs.1
  refine fun_of (tb := tb) follows Try.func213 (by kernel_rfl) Try.ntmps213 rfl rfl rfl ?_
  intro cx hN hw
  simp (disch := exact eqId (by kernel_rfl)) only [go_sem, ↓reduceIte, Nat.reduceAdd, Nat.reduceMul, Nat.reduceLT, Nat.reduceBEq, Nat.reduceLeDiff, Nat.reduceEqDiff, Int.reduceToNat]
  repeat' (first | (refine And.intro ?_ ?_) | intro _)
  all_goals (try omega)
  refine loop_intro (tb := tb) follows hN (D := Nat) (fun d => shp [(0, .rd (.list .bool) (l)), (3, .own 1), (4, .rd I (d : Int))] [(1, .arr 4 .bool (l.take d ++ List.replicate (l.length - d) (.bool : Ty).dflt))]) (fun d => d ≤ l.length) (fun d => l.length - d) (0) ?_ (sub_shp hN [(1, some 20032)] ?_) (fun d hd => ?_)
  · exact Nat.zero_le _
  · simp (disch := exact eqId (by kernel_rfl)) only [go_sem, ↓reduceIte, Nat.reduceAdd, Nat.reduceMul, Nat.reduceLT, Nat.reduceBEq, Nat.reduceLeDiff, Nat.reduceEqDiff, Int.reduceToNat]
    exact ⟨rfl, rfl⟩
  · simp (disch := exact eqId (by kernel_rfl)) only [go_sem, ↓reduceIte, Nat.reduceAdd, Nat.reduceMul, Nat.reduceLT, Nat.reduceBEq, Nat.reduceLeDiff, Nat.reduceEqDiff, Int.reduceToNat]
    repeat' (first | (refine And.intro ?_ ?_) | intro _)
    all_goals (try simp only [List.length_append, List.length_take, List.length_replicate])
    all_goals (try omega)
    · have hk : d < l.length := by omega
      refine back_intro (d + 1) ?_ ?_ (sub_shp hN [(1, some 1)] ?_)
      · exact hk
      · omega
      · simp (disch := exact eqId (by kernel_rfl)) only [go_sem, ↓reduceIte, Nat.reduceAdd, Nat.reduceMul, Nat.reduceLT, Nat.reduceBEq, Nat.reduceLeDiff, Nat.reduceEqDiff, Int.reduceToNat]
        exact ⟨set_take_rep hk rfl _ _, wrap_succ' (by omega)⟩
    · have hk : d = l.length := by omega
      simp [hk]
theorem toStringS_ok (l : List (.str : Ty).den) (hs : Small (.list .str) 1073741824 l) : FunOK Try.prog 180 [⟨(.list .str), l⟩] (.own 9 .str l) := by
  have hs1 : l.length ≤ 1073741824 := hs.1
  refine fun_of (tb := tb) follows Try.func180 (by kernel_rfl) Try.ntmps180 rfl rfl rfl ?_
  intro cx hN hw
  simp (disch := exact eqId (by kernel_rfl)) only [go_sem, ↓reduceIte, Nat.reduceAdd, Nat.reduceMul, Nat.reduceLT, Nat.reduceBEq, Nat.reduceLeDiff, Nat.reduceEqDiff, Int.reduceToNat]
  repeat' (first | (refine And.intro ?_ ?_) | intro _)
  all_goals (try omega)
  refine loop_intro (tb := tb) follows hN (D := Nat) (fun d => shp [(0, .rd (.list .str) (l)), (3, .own 1), (4, .rd I (d : Int))] [(1, .arr 9 .str (l.take d ++ List.replicate (l.length - d) (.str : Ty).dflt))]) (fun d => d ≤ l.length) (fun d => l.length - d) (0) ?_ (sub_shp hN [(1, some 20032)] ?_) (fun d hd => ?_)
  · exact Nat.zero_le _
  · simp (disch := exact eqId (by kernel_rfl)) only [go_sem, ↓reduceIte, Nat.reduceAdd, Nat.reduceMul, Nat.reduceLT, Nat.reduceBEq, Nat.reduceLeDiff, Nat.reduceEqDiff, Int.reduceToNat]
    exact ⟨rfl, rfl⟩
  · simp (disch := exact eqId (by kernel_rfl)) only [go_sem, ↓reduceIte, Nat.reduceAdd, Nat.reduceMul, Nat.reduceLT, Nat.reduceBEq, Nat.reduceLeDiff, Nat.reduceEqDiff, Int.reduceToNat]
    repeat' (first | (refine And.intro ?_ ?_) | intro _)
    all_goals (try simp only [List.length_append, List.length_take, List.length_replicate])
    all_goals (try omega)
    · have hk : d < l.length := by omega
      refine back_intro (d + 1) ?_ ?_ (sub_shp hN [(1, some 1)] ?_)
      · exact hk
      · omega
      · simp (disch := exact eqId (by kernel_rfl)) only [go_sem, ↓reduceIte, Nat.reduceAdd, Nat.reduceMul, Nat.reduceLT, Nat.reduceBEq, Nat.reduceLeDiff, Nat.reduceEqDiff, Int.reduceToNat]
        exact ⟨set_take_rep hk rfl _ _, wrap_succ' (by omega)⟩
    · have hk : d = l.length := by omega
      simp [hk]
theorem toIntSS_ok (l : List ((.list I) : Ty).den) (hs : Small (.list (.list I)) 1073741824 l) : FunOK Try.prog 214 [⟨(.list (.list I)), l⟩] (.own 55 (.list I) l) := by
  have hs1 : l.length ≤ 1073741824 := hs.1
  refine fun_of (tb := tb) follows Try.func214 (by kernel_rfl) Try.ntmps214 rfl rfl rfl ?_
  intro cx hN hw
  simp (disch := exact eqId (by kernel_rfl)) only [go_sem, ↓reduceIte, Nat.reduceAdd, Nat.reduceMul, Nat.reduceLT, Nat.reduceBEq, Nat.reduceLeDiff, Nat.reduceEqDiff, Int.reduceToNat]
  repeat' (first | (refine And.intro ?_ ?_) | intro _)
  all_goals (try omega)
  refine loop_intro (tb := tb) follows hN (D := Nat) (fun d => shp [(0, .rd (.list (.list I)) (l)), (3, .own 1), (4, .rd I (d : Int))] [(1, .arr 55 (.list I) (l.take d ++ List.replicate (l.length - d) ((.list I) : Ty).dflt))]) (fun d => d ≤ l.length) (fun d => l.length - d) (0) ?_ (sub_shp hN [(1, some 20032)] ?_) (fun d hd => ?_)
  · exact Nat.zero_le _
  · simp (disch := exact eqId (by kernel_rfl)) only [go_sem, ↓reduceIte, Nat.reduceAdd, Nat.reduceMul, Nat.reduceLT, Nat.reduceBEq, Nat.reduceLeDiff, Nat.reduceEqDiff, Int.reduceToNat]
    exact ⟨rfl, rfl⟩
  · simp (disch := exact eqId (by kernel_rfl)) only [go_sem, ↓reduceIte, Nat.reduceAdd, Nat.reduceMul, Nat.reduceLT, Nat.reduceBEq, Nat.reduceLeDiff, Nat.reduceEqDiff, Int.reduceToNat]
    repeat' (first | (refine And.intro ?_ ?_) | intro _ | (refine callQ_intro (toIntS_ok _ (hs.2 _ (getD_mem (by omega) _))) ?_; try (simp (disch := exact eqId (by kernel_rfl)) only [go_sem, ↓reduceIte, Nat.reduceAdd, Nat.reduceMul, Nat.reduceLT, Nat.reduceBEq, Nat.reduceLeDiff, Nat.reduceEqDiff, Int.reduceToNat])) | (refine callH_intro (fun hcc => toIntS_ok _ (hs.2 _ (getD_mem (by omega) _))) ?_; try (simp (disch := exact eqId (by kernel_rfl)) only [go_sem, ↓reduceIte, Nat.reduceAdd, Nat.reduceMul, Nat.reduceLT, Nat.reduceBEq, Nat.reduceLeDiff, Nat.reduceEqDiff, Int.reduceToNat])))
    all_goals (try simp only [List.length_append, List.length_take, List.length_replicate])
    all_goals (try omega)
    · have hk : d < l.length := by omega
      refine back_intro (d + 1) ?_ ?_ (sub_shp hN [(1, some 1)] ?_)
      · exact hk
      · omega
      · simp (disch := exact eqId (by kernel_rfl)) only [go_sem, ↓reduceIte, Nat.reduceAdd, Nat.reduceMul, Nat.reduceLT, Nat.reduceBEq, Nat.reduceLeDiff, Nat.reduceEqDiff, Int.reduceToNat]
        exact ⟨set_take_rep hk rfl _ _, wrap_succ' (by omega)⟩
    · have hk : d = l.length := by omega
      simp [hk]
theorem toSpan_ok (a : tSpan.den) : FunOK Try.prog 26 [⟨tSpan, a⟩] (.rd tSpan a) := by
  obtain ⟨a0, a1, _⟩ := a
  refine fun_of (tb := tb) follows Try.func26 (by kernel_rfl) Try.ntmps26 rfl rfl rfl ?_
  intro cx hN hw
  simp (disch := exact eqId (by kernel_rfl)) only [go_sem, ↓reduceIte, Nat.reduceAdd, Nat.reduceMul, Nat.reduceLT, Nat.reduceBEq, Nat.reduceLeDiff, Nat.reduceEqDiff, Int.reduceToNat]
  skip
  all_goals (try rfl)
theorem toStamp_ok (a : tStamp.den) : FunOK Try.prog 244 [⟨tStamp, a⟩] (.rd tStamp a) := by
  obtain ⟨a0, a1, a2, a3, a4, _⟩ := a
  refine fun_of (tb := tb) follows Try.func244 (by kernel_rfl) Try.ntmps244 rfl rfl rfl ?_
  intro cx hN hw
  simp (disch := exact eqId (by kernel_rfl)) only [go_sem, ↓reduceIte, Nat.reduceAdd, Nat.reduceMul, Nat.reduceLT, Nat.reduceBEq, Nat.reduceLeDiff, Nat.reduceEqDiff, Int.reduceToNat]
  skip
  all_goals (try rfl)
theorem toStampS_ok (l : List (tStamp : Ty).den) (hs : Small (.list tStamp) 1073741824 l) : FunOK Try.prog 154 [⟨(.list tStamp), l⟩] (.own 195 tStamp l) := by
  have hs1 : l.length ≤ 1073741824 := hs.1
  refine fun_of (tb := tb) follows Try.func154 (by kernel_rfl) Try.ntmps154 rfl rfl rfl ?_
  intro cx hN hw
  simp (disch := exact eqId (by kernel_rfl)) only [go_sem, ↓reduceIte, Nat.reduceAdd, Nat.reduceMul, Nat.reduceLT, Nat.reduceBEq, Nat.reduceLeDiff, Nat.reduceEqDiff, Int.reduceToNat]
  repeat' (first | (refine And.intro ?_ ?_) | intro _)
  all_goals (try omega)
  refine loop_intro (tb := tb) follows hN (D := Nat) (fun d => shp [(0, .rd (.list tStamp) (l)), (3, .own 1), (4, .rd I (d : Int))] [(1, .arr 195 tStamp (l.take d ++ List.replicate (l.length - d) (tStamp : Ty).dflt))]) (fun d => d ≤ l.length) (fun d => l.length - d) (0) ?_ (sub_shp hN [(1, some 20032)] ?_) (fun d hd => ?_)
  · exact Nat.zero_le _
  · simp (disch := exact eqId (by kernel_rfl)) only [go_sem, ↓reduceIte, Nat.reduceAdd, Nat.reduceMul, Nat.reduceLT, Nat.reduceBEq, Nat.reduceLeDiff, Nat.reduceEqDiff, Int.reduceToNat]
    exact ⟨rfl, rfl⟩
  · simp (disch := exact eqId (by kernel_rfl)) only [go_sem, ↓reduceIte, Nat.reduceAdd, Nat.reduceMul, Nat.reduceLT, Nat.reduceBEq, Nat.reduceLeDiff, Nat.reduceEqDiff, Int.reduceToNat]
    repeat' (first | (refine And.intro ?_ ?_) | intro _ | (refine callQ_intro (toStamp_ok _) ?_; try (simp (disch := exact eqId (by kernel_rfl)) only [go_sem, ↓reduceIte, Nat.reduceAdd, Nat.reduceMul, Nat.reduceLT, Nat.reduceBEq, Nat.reduceLeDiff, Nat.reduceEqDiff, Int.reduceToNat])) | (refine callH_intro (fun hcc => toStamp_ok _) ?_; try (simp (disch := exact eqId (by kernel_rfl)) only [go_sem, ↓reduceIte, Nat.reduceAdd, Nat.reduceMul, Nat.reduceLT, Nat.reduceBEq, Nat.reduceLeDiff, Nat.reduceEqDiff, Int.reduceToNat])))
    all_goals (try simp only [List.length_append, List.length_take, List.length_replicate])
    all_goals (try omega)
    · have hk : d < l.length := by omega
      refine back_intro (d + 1) ?_ ?_ (sub_shp hN [(1, some 1)] ?_)
      · exact hk
      · omega
      · simp (disch := exact eqId (by kernel_rfl)) only [go_sem, ↓reduceIte, Nat.reduceAdd, Nat.reduceMul, Nat.reduceLT, Nat.reduceBEq, Nat.reduceLeDiff, Nat.reduceEqDiff, Int.reduceToNat]
        exact ⟨set_take_rep hk rfl _ _, wrap_succ' (by omega)⟩
    · have hk : d = l.length := by omega
      simp [hk]
theorem toStatus_ok (a : tStatus.den) : FunOK Try.prog 121 [⟨tStatus, a⟩] (.rd tStatus a) := by
  obtain ⟨a0, a1, a2, a3, a4, _⟩ := a
  refine fun_of (tb := tb) follows Try.func121 (by kernel_rfl) Try.ntmps121 rfl rfl rfl ?_
  intro cx hN hw
  simp (disch := exact eqId (by kernel_rfl)) only [go_sem, ↓reduceIte, Nat.reduceAdd, Nat.reduceMul, Nat.reduceLT, Nat.reduceBEq, Nat.reduceLeDiff, Nat.reduceEqDiff, Int.reduceToNat]
  skip
  all_goals (try rfl)
theorem toStatusS_ok (l : List (tStatus : Ty).den) (hs : Small (.list tStatus) 1073741824 l) : FunOK Try.prog 25 [⟨(.list tStatus), l⟩] (.own 170 tStatus l) := by
  have hs1 : l.length ≤ 1073741824 := hs.1
  refine fun_of (tb := tb) follows Try.func25 (by kernel_rfl) Try.ntmps25 rfl rfl rfl ?_
  intro cx hN hw
  simp (disch := exact eqId (by kernel_rfl)) only [go_sem, ↓reduceIte, Nat.reduceAdd, Nat.reduceMul, Nat.reduceLT, Nat.reduceBEq, Nat.reduceLeDiff, Nat.reduceEqDiff, Int.reduceToNat]
  repeat' (first | (refine And.intro ?_ ?_) | intro _)
  all_goals (try omega)
  refine loop_intro (tb := tb) follows hN (D := Nat) (fun d => shp [(0, .rd (.list tStatus) (l)), (3, .own 1), (4, .rd I (d : Int))] [(1, .arr 170 tStatus (l.take d ++ List.replicate (l.length - d) (tStatus : Ty).dflt))]) (fun d => d ≤ l.length) (fun d => l.length - d) (0) ?_ (sub_shp hN [(1, some 20032)] ?_) (fun d hd => ?_)
  · exact Nat.zero_le _
  · simp (disch := exact eqId (by kernel_rfl)) only [go_sem, ↓reduceIte, Nat.reduceAdd, Nat.reduceMul, Nat.reduceLT, Nat.reduceBEq, Nat.reduceLeDiff, Nat.reduceEqDiff, Int.reduceToNat]
    exact ⟨rfl, rfl⟩
  · simp (disch := exact eqId (by kernel_rfl)) only [go_sem, ↓reduceIte, Nat.reduceAdd, Nat.reduceMul, Nat.reduceLT, Nat.reduceBEq, Nat.reduceLeDiff, Nat.reduceEqDiff, Int.reduceToNat]
    repeat' (first | (refine And.intro ?_ ?_) | intro _ | (refine callQ_intro (toStatus_ok _) ?_; try (simp (disch := exact eqId (by kernel_rfl)) only [go_sem, ↓reduceIte, Nat.reduceAdd, Nat.reduceMul, Nat.reduceLT, Nat.reduceBEq, Nat.reduceLeDiff, Nat.reduceEqDiff, Int.reduceToNat])) | (refine callH_intro (fun hcc => toStatus_ok _) ?_; try (simp (disch := exact eqId (by kernel_rfl)) only [go_sem, ↓reduceIte, Nat.reduceAdd, Nat.reduceMul, Nat.reduceLT, Nat.reduceBEq, Nat.reduceLeDiff, Nat.reduceEqDiff, Int.reduceToNat])))
    all_goals (try simp only [List.length_append, List.length_take, List.length_replicate])
    all_goals (try omega)
    · have hk : d < l.length := by omega
      refine back_intro (d + 1) ?_ ?_ (sub_shp hN [(1, some 1)] ?_)
      · exact hk
      · omega
      · simp (disch := exact eqId (by kernel_rfl)) only [go_sem, ↓reduceIte, Nat.reduceAdd, Nat.reduceMul, Nat.reduceLT, Nat.reduceBEq, Nat.reduceLeDiff, Nat.reduceEqDiff, Int.reduceToNat]
        exact ⟨set_take_rep hk rfl _ _, wrap_succ' (by omega)⟩
    · have hk : d = l.length := by omega
      simp [hk]
theorem toCert_ok (a : tCert.den) : FunOK Try.prog 24 [⟨tCert, a⟩] (.rd tCert a) := by
  obtain ⟨a0, a1, a2, a3, a4, a5, a6, _⟩ := a
  refine fun_of (tb := tb) follows Try.func24 (by kernel_rfl) Try.ntmps24 rfl rfl rfl ?_
  intro cx hN hw
  simp (disch := exact eqId (by kernel_rfl)) only [go_sem, ↓reduceIte, Nat.reduceAdd, Nat.reduceMul, Nat.reduceLT, Nat.reduceBEq, Nat.reduceLeDiff, Nat.reduceEqDiff, Int.reduceToNat]
  skip
  all_goals (try rfl)
theorem toSuccession_ok (a : tSuccession.den) : FunOK Try.prog 125 [⟨tSuccession, a⟩] (.rd tSuccession a) := by
  obtain ⟨a0, a1, a2, a3, _⟩ := a
  refine fun_of (tb := tb) follows Try.func125 (by kernel_rfl) Try.ntmps125 rfl rfl rfl ?_
  intro cx hN hw
  simp (disch := exact eqId (by kernel_rfl)) only [go_sem, ↓reduceIte, Nat.reduceAdd, Nat.reduceMul, Nat.reduceLT, Nat.reduceBEq, Nat.reduceLeDiff, Nat.reduceEqDiff, Int.reduceToNat]
  skip
  all_goals (try rfl)
theorem toSuccessionS_ok (l : List (tSuccession : Ty).den) (hs : Small (.list tSuccession) 1073741824 l) : FunOK Try.prog 35 [⟨(.list tSuccession), l⟩] (.own 179 tSuccession l) := by
  have hs1 : l.length ≤ 1073741824 := hs.1
  refine fun_of (tb := tb) follows Try.func35 (by kernel_rfl) Try.ntmps35 rfl rfl rfl ?_
  intro cx hN hw
  simp (disch := exact eqId (by kernel_rfl)) only [go_sem, ↓reduceIte, Nat.reduceAdd, Nat.reduceMul, Nat.reduceLT, Nat.reduceBEq, Nat.reduceLeDiff, Nat.reduceEqDiff, Int.reduceToNat]
  repeat' (first | (refine And.intro ?_ ?_) | intro _)
  all_goals (try omega)
  refine loop_intro (tb := tb) follows hN (D := Nat) (fun d => shp [(0, .rd (.list tSuccession) (l)), (3, .own 1), (4, .rd I (d : Int))] [(1, .arr 179 tSuccession (l.take d ++ List.replicate (l.length - d) (tSuccession : Ty).dflt))]) (fun d => d ≤ l.length) (fun d => l.length - d) (0) ?_ (sub_shp hN [(1, some 20032)] ?_) (fun d hd => ?_)
  · exact Nat.zero_le _
  · simp (disch := exact eqId (by kernel_rfl)) only [go_sem, ↓reduceIte, Nat.reduceAdd, Nat.reduceMul, Nat.reduceLT, Nat.reduceBEq, Nat.reduceLeDiff, Nat.reduceEqDiff, Int.reduceToNat]
    exact ⟨rfl, rfl⟩
  · simp (disch := exact eqId (by kernel_rfl)) only [go_sem, ↓reduceIte, Nat.reduceAdd, Nat.reduceMul, Nat.reduceLT, Nat.reduceBEq, Nat.reduceLeDiff, Nat.reduceEqDiff, Int.reduceToNat]
    repeat' (first | (refine And.intro ?_ ?_) | intro _ | (refine callQ_intro (toSuccession_ok _) ?_; try (simp (disch := exact eqId (by kernel_rfl)) only [go_sem, ↓reduceIte, Nat.reduceAdd, Nat.reduceMul, Nat.reduceLT, Nat.reduceBEq, Nat.reduceLeDiff, Nat.reduceEqDiff, Int.reduceToNat])) | (refine callH_intro (fun hcc => toSuccession_ok _) ?_; try (simp (disch := exact eqId (by kernel_rfl)) only [go_sem, ↓reduceIte, Nat.reduceAdd, Nat.reduceMul, Nat.reduceLT, Nat.reduceBEq, Nat.reduceLeDiff, Nat.reduceEqDiff, Int.reduceToNat])))
    all_goals (try simp only [List.length_append, List.length_take, List.length_replicate])
    all_goals (try omega)
    · have hk : d < l.length := by omega
      refine back_intro (d + 1) ?_ ?_ (sub_shp hN [(1, some 1)] ?_)
      · exact hk
      · omega
      · simp (disch := exact eqId (by kernel_rfl)) only [go_sem, ↓reduceIte, Nat.reduceAdd, Nat.reduceMul, Nat.reduceLT, Nat.reduceBEq, Nat.reduceLeDiff, Nat.reduceEqDiff, Int.reduceToNat]
        exact ⟨set_take_rep hk rfl _ _, wrap_succ' (by omega)⟩
    · have hk : d = l.length := by omega
      simp [hk]
theorem toKey_ok (a : tKey.den) : FunOK Try.prog 124 [⟨tKey, a⟩] (.rd tKey a) := by
  obtain ⟨a0, a1, a2, a3, a4, _⟩ := a
  refine fun_of (tb := tb) follows Try.func124 (by kernel_rfl) Try.ntmps124 rfl rfl rfl ?_
  intro cx hN hw
  simp (disch := exact eqId (by kernel_rfl)) only [go_sem, ↓reduceIte, Nat.reduceAdd, Nat.reduceMul, Nat.reduceLT, Nat.reduceBEq, Nat.reduceLeDiff, Nat.reduceEqDiff, Int.reduceToNat]
  skip
  all_goals (try rfl)
theorem toKeyS_ok (l : List (tKey : Ty).den) (hs : Small (.list tKey) 1073741824 l) : FunOK Try.prog 34 [⟨(.list tKey), l⟩] (.own 175 tKey l) := by
  have hs1 : l.length ≤ 1073741824 := hs.1
  refine fun_of (tb := tb) follows Try.func34 (by kernel_rfl) Try.ntmps34 rfl rfl rfl ?_
  intro cx hN hw
  simp (disch := exact eqId (by kernel_rfl)) only [go_sem, ↓reduceIte, Nat.reduceAdd, Nat.reduceMul, Nat.reduceLT, Nat.reduceBEq, Nat.reduceLeDiff, Nat.reduceEqDiff, Int.reduceToNat]
  repeat' (first | (refine And.intro ?_ ?_) | intro _)
  all_goals (try omega)
  refine loop_intro (tb := tb) follows hN (D := Nat) (fun d => shp [(0, .rd (.list tKey) (l)), (3, .own 1), (4, .rd I (d : Int))] [(1, .arr 175 tKey (l.take d ++ List.replicate (l.length - d) (tKey : Ty).dflt))]) (fun d => d ≤ l.length) (fun d => l.length - d) (0) ?_ (sub_shp hN [(1, some 20032)] ?_) (fun d hd => ?_)
  · exact Nat.zero_le _
  · simp (disch := exact eqId (by kernel_rfl)) only [go_sem, ↓reduceIte, Nat.reduceAdd, Nat.reduceMul, Nat.reduceLT, Nat.reduceBEq, Nat.reduceLeDiff, Nat.reduceEqDiff, Int.reduceToNat]
    exact ⟨rfl, rfl⟩
  · simp (disch := exact eqId (by kernel_rfl)) only [go_sem, ↓reduceIte, Nat.reduceAdd, Nat.reduceMul, Nat.reduceLT, Nat.reduceBEq, Nat.reduceLeDiff, Nat.reduceEqDiff, Int.reduceToNat]
    repeat' (first | (refine And.intro ?_ ?_) | intro _ | (refine callQ_intro (toKey_ok _) ?_; try (simp (disch := exact eqId (by kernel_rfl)) only [go_sem, ↓reduceIte, Nat.reduceAdd, Nat.reduceMul, Nat.reduceLT, Nat.reduceBEq, Nat.reduceLeDiff, Nat.reduceEqDiff, Int.reduceToNat])) | (refine callH_intro (fun hcc => toKey_ok _) ?_; try (simp (disch := exact eqId (by kernel_rfl)) only [go_sem, ↓reduceIte, Nat.reduceAdd, Nat.reduceMul, Nat.reduceLT, Nat.reduceBEq, Nat.reduceLeDiff, Nat.reduceEqDiff, Int.reduceToNat])))
    all_goals (try simp only [List.length_append, List.length_take, List.length_replicate])
    all_goals (try omega)
    · have hk : d < l.length := by omega
      refine back_intro (d + 1) ?_ ?_ (sub_shp hN [(1, some 1)] ?_)
      · exact hk
      · omega
      · simp (disch := exact eqId (by kernel_rfl)) only [go_sem, ↓reduceIte, Nat.reduceAdd, Nat.reduceMul, Nat.reduceLT, Nat.reduceBEq, Nat.reduceLeDiff, Nat.reduceEqDiff, Int.reduceToNat]
        exact ⟨set_take_rep hk rfl _ _, wrap_succ' (by omega)⟩
    · have hk : d = l.length := by omega
      simp [hk]
theorem toAuthority_ok (a : tAuthority.den) : FunOK Try.prog 152 [⟨tAuthority, a⟩] (.rd tAuthority a) := by
  obtain ⟨a0, a1, a2, _⟩ := a
  refine fun_of (tb := tb) follows Try.func152 (by kernel_rfl) Try.ntmps152 rfl rfl rfl ?_
  intro cx hN hw
  simp (disch := exact eqId (by kernel_rfl)) only [go_sem, ↓reduceIte, Nat.reduceAdd, Nat.reduceMul, Nat.reduceLT, Nat.reduceBEq, Nat.reduceLeDiff, Nat.reduceEqDiff, Int.reduceToNat]
  skip
  all_goals (try rfl)
theorem toAuthorityS_ok (l : List (tAuthority : Ty).den) (hs : Small (.list tAuthority) 1073741824 l) : FunOK Try.prog 57 [⟨(.list tAuthority), l⟩] (.own 198 tAuthority l) := by
  have hs1 : l.length ≤ 1073741824 := hs.1
  refine fun_of (tb := tb) follows Try.func57 (by kernel_rfl) Try.ntmps57 rfl rfl rfl ?_
  intro cx hN hw
  simp (disch := exact eqId (by kernel_rfl)) only [go_sem, ↓reduceIte, Nat.reduceAdd, Nat.reduceMul, Nat.reduceLT, Nat.reduceBEq, Nat.reduceLeDiff, Nat.reduceEqDiff, Int.reduceToNat]
  repeat' (first | (refine And.intro ?_ ?_) | intro _)
  all_goals (try omega)
  refine loop_intro (tb := tb) follows hN (D := Nat) (fun d => shp [(0, .rd (.list tAuthority) (l)), (3, .own 1), (4, .rd I (d : Int))] [(1, .arr 198 tAuthority (l.take d ++ List.replicate (l.length - d) (tAuthority : Ty).dflt))]) (fun d => d ≤ l.length) (fun d => l.length - d) (0) ?_ (sub_shp hN [(1, some 20032)] ?_) (fun d hd => ?_)
  · exact Nat.zero_le _
  · simp (disch := exact eqId (by kernel_rfl)) only [go_sem, ↓reduceIte, Nat.reduceAdd, Nat.reduceMul, Nat.reduceLT, Nat.reduceBEq, Nat.reduceLeDiff, Nat.reduceEqDiff, Int.reduceToNat]
    exact ⟨rfl, rfl⟩
  · simp (disch := exact eqId (by kernel_rfl)) only [go_sem, ↓reduceIte, Nat.reduceAdd, Nat.reduceMul, Nat.reduceLT, Nat.reduceBEq, Nat.reduceLeDiff, Nat.reduceEqDiff, Int.reduceToNat]
    repeat' (first | (refine And.intro ?_ ?_) | intro _ | (refine callQ_intro (toAuthority_ok _) ?_; try (simp (disch := exact eqId (by kernel_rfl)) only [go_sem, ↓reduceIte, Nat.reduceAdd, Nat.reduceMul, Nat.reduceLT, Nat.reduceBEq, Nat.reduceLeDiff, Nat.reduceEqDiff, Int.reduceToNat])) | (refine callH_intro (fun hcc => toAuthority_ok _) ?_; try (simp (disch := exact eqId (by kernel_rfl)) only [go_sem, ↓reduceIte, Nat.reduceAdd, Nat.reduceMul, Nat.reduceLT, Nat.reduceBEq, Nat.reduceLeDiff, Nat.reduceEqDiff, Int.reduceToNat])))
    all_goals (try simp only [List.length_append, List.length_take, List.length_replicate])
    all_goals (try omega)
    · have hk : d < l.length := by omega
      refine back_intro (d + 1) ?_ ?_ (sub_shp hN [(1, some 1)] ?_)
      · exact hk
      · omega
      · simp (disch := exact eqId (by kernel_rfl)) only [go_sem, ↓reduceIte, Nat.reduceAdd, Nat.reduceMul, Nat.reduceLT, Nat.reduceBEq, Nat.reduceLeDiff, Nat.reduceEqDiff, Int.reduceToNat]
        exact ⟨set_take_rep hk rfl _ _, wrap_succ' (by omega)⟩
    · have hk : d = l.length := by omega
      simp [hk]
theorem toMethod_ok (a : tMethod.den) : FunOK Try.prog 162 [⟨tMethod, a⟩] (.rd tMethod a) := by
  obtain ⟨a0, a1, a2, a3, _⟩ := a
  refine fun_of (tb := tb) follows Try.func162 (by kernel_rfl) Try.ntmps162 rfl rfl rfl ?_
  intro cx hN hw
  simp (disch := exact eqId (by kernel_rfl)) only [go_sem, ↓reduceIte, Nat.reduceAdd, Nat.reduceMul, Nat.reduceLT, Nat.reduceBEq, Nat.reduceLeDiff, Nat.reduceEqDiff, Int.reduceToNat]
  skip
  all_goals (try rfl)
theorem toMethodS_ok (l : List (tMethod : Ty).den) (hs : Small (.list tMethod) 1073741824 l) : FunOK Try.prog 67 [⟨(.list tMethod), l⟩] (.own 211 tMethod l) := by
  have hs1 : l.length ≤ 1073741824 := hs.1
  refine fun_of (tb := tb) follows Try.func67 (by kernel_rfl) Try.ntmps67 rfl rfl rfl ?_
  intro cx hN hw
  simp (disch := exact eqId (by kernel_rfl)) only [go_sem, ↓reduceIte, Nat.reduceAdd, Nat.reduceMul, Nat.reduceLT, Nat.reduceBEq, Nat.reduceLeDiff, Nat.reduceEqDiff, Int.reduceToNat]
  repeat' (first | (refine And.intro ?_ ?_) | intro _)
  all_goals (try omega)
  refine loop_intro (tb := tb) follows hN (D := Nat) (fun d => shp [(0, .rd (.list tMethod) (l)), (3, .own 1), (4, .rd I (d : Int))] [(1, .arr 211 tMethod (l.take d ++ List.replicate (l.length - d) (tMethod : Ty).dflt))]) (fun d => d ≤ l.length) (fun d => l.length - d) (0) ?_ (sub_shp hN [(1, some 20032)] ?_) (fun d hd => ?_)
  · exact Nat.zero_le _
  · simp (disch := exact eqId (by kernel_rfl)) only [go_sem, ↓reduceIte, Nat.reduceAdd, Nat.reduceMul, Nat.reduceLT, Nat.reduceBEq, Nat.reduceLeDiff, Nat.reduceEqDiff, Int.reduceToNat]
    exact ⟨rfl, rfl⟩
  · simp (disch := exact eqId (by kernel_rfl)) only [go_sem, ↓reduceIte, Nat.reduceAdd, Nat.reduceMul, Nat.reduceLT, Nat.reduceBEq, Nat.reduceLeDiff, Nat.reduceEqDiff, Int.reduceToNat]
    repeat' (first | (refine And.intro ?_ ?_) | intro _ | (refine callQ_intro (toMethod_ok _) ?_; try (simp (disch := exact eqId (by kernel_rfl)) only [go_sem, ↓reduceIte, Nat.reduceAdd, Nat.reduceMul, Nat.reduceLT, Nat.reduceBEq, Nat.reduceLeDiff, Nat.reduceEqDiff, Int.reduceToNat])) | (refine callH_intro (fun hcc => toMethod_ok _) ?_; try (simp (disch := exact eqId (by kernel_rfl)) only [go_sem, ↓reduceIte, Nat.reduceAdd, Nat.reduceMul, Nat.reduceLT, Nat.reduceBEq, Nat.reduceLeDiff, Nat.reduceEqDiff, Int.reduceToNat])))
    all_goals (try simp only [List.length_append, List.length_take, List.length_replicate])
    all_goals (try omega)
    · have hk : d < l.length := by omega
      refine back_intro (d + 1) ?_ ?_ (sub_shp hN [(1, some 1)] ?_)
      · exact hk
      · omega
      · simp (disch := exact eqId (by kernel_rfl)) only [go_sem, ↓reduceIte, Nat.reduceAdd, Nat.reduceMul, Nat.reduceLT, Nat.reduceBEq, Nat.reduceLeDiff, Nat.reduceEqDiff, Int.reduceToNat]
        exact ⟨set_take_rep hk rfl _ _, wrap_succ' (by omega)⟩
    · have hk : d = l.length := by omega
      simp [hk]
theorem toStep_ok (a : tStep.den) : FunOK Try.prog 243 [⟨tStep, a⟩] (.rd tStep a) := by
  obtain ⟨a0, a1, _⟩ := a
  refine fun_of (tb := tb) follows Try.func243 (by kernel_rfl) Try.ntmps243 rfl rfl rfl ?_
  intro cx hN hw
  simp (disch := exact eqId (by kernel_rfl)) only [go_sem, ↓reduceIte, Nat.reduceAdd, Nat.reduceMul, Nat.reduceLT, Nat.reduceBEq, Nat.reduceLeDiff, Nat.reduceEqDiff, Int.reduceToNat]
  skip
  all_goals (try rfl)
theorem toStepS_ok (l : List (tStep : Ty).den) (hs : Small (.list tStep) 1073741824 l) : FunOK Try.prog 153 [⟨(.list tStep), l⟩] (.own 264 tStep l) := by
  have hs1 : l.length ≤ 1073741824 := hs.1
  refine fun_of (tb := tb) follows Try.func153 (by kernel_rfl) Try.ntmps153 rfl rfl rfl ?_
  intro cx hN hw
  simp (disch := exact eqId (by kernel_rfl)) only [go_sem, ↓reduceIte, Nat.reduceAdd, Nat.reduceMul, Nat.reduceLT, Nat.reduceBEq, Nat.reduceLeDiff, Nat.reduceEqDiff, Int.reduceToNat]
  repeat' (first | (refine And.intro ?_ ?_) | intro _)
  all_goals (try omega)
  refine loop_intro (tb := tb) follows hN (D := Nat) (fun d => shp [(0, .rd (.list tStep) (l)), (3, .own 1), (4, .rd I (d : Int))] [(1, .arr 264 tStep (l.take d ++ List.replicate (l.length - d) (tStep : Ty).dflt))]) (fun d => d ≤ l.length) (fun d => l.length - d) (0) ?_ (sub_shp hN [(1, some 20032)] ?_) (fun d hd => ?_)
  · exact Nat.zero_le _
  · simp (disch := exact eqId (by kernel_rfl)) only [go_sem, ↓reduceIte, Nat.reduceAdd, Nat.reduceMul, Nat.reduceLT, Nat.reduceBEq, Nat.reduceLeDiff, Nat.reduceEqDiff, Int.reduceToNat]
    exact ⟨rfl, rfl⟩
  · simp (disch := exact eqId (by kernel_rfl)) only [go_sem, ↓reduceIte, Nat.reduceAdd, Nat.reduceMul, Nat.reduceLT, Nat.reduceBEq, Nat.reduceLeDiff, Nat.reduceEqDiff, Int.reduceToNat]
    repeat' (first | (refine And.intro ?_ ?_) | intro _ | (refine callQ_intro (toStep_ok _) ?_; try (simp (disch := exact eqId (by kernel_rfl)) only [go_sem, ↓reduceIte, Nat.reduceAdd, Nat.reduceMul, Nat.reduceLT, Nat.reduceBEq, Nat.reduceLeDiff, Nat.reduceEqDiff, Int.reduceToNat])) | (refine callH_intro (fun hcc => toStep_ok _) ?_; try (simp (disch := exact eqId (by kernel_rfl)) only [go_sem, ↓reduceIte, Nat.reduceAdd, Nat.reduceMul, Nat.reduceLT, Nat.reduceBEq, Nat.reduceLeDiff, Nat.reduceEqDiff, Int.reduceToNat])))
    all_goals (try simp only [List.length_append, List.length_take, List.length_replicate])
    all_goals (try omega)
    · have hk : d < l.length := by omega
      refine back_intro (d + 1) ?_ ?_ (sub_shp hN [(1, some 1)] ?_)
      · exact hk
      · omega
      · simp (disch := exact eqId (by kernel_rfl)) only [go_sem, ↓reduceIte, Nat.reduceAdd, Nat.reduceMul, Nat.reduceLT, Nat.reduceBEq, Nat.reduceLeDiff, Nat.reduceEqDiff, Int.reduceToNat]
        exact ⟨set_take_rep hk rfl _ _, wrap_succ' (by omega)⟩
    · have hk : d = l.length := by omega
      simp [hk]
theorem toStampSS_ok (l : List ((.list tStamp) : Ty).den) (hs : Small (.list (.list tStamp)) 1073741824 l) : FunOK Try.prog 205 [⟨(.list (.list tStamp)), l⟩] (.own 73 (.list tStamp) l) := by
  have hs1 : l.length ≤ 1073741824 := hs.1
  refine fun_of (tb := tb) follows Try.func205 (by kernel_rfl) Try.ntmps205 rfl rfl rfl ?_
  intro cx hN hw
  simp (disch := exact eqId (by kernel_rfl)) only [go_sem, ↓reduceIte, Nat.reduceAdd, Nat.reduceMul, Nat.reduceLT, Nat.reduceBEq, Nat.reduceLeDiff, Nat.reduceEqDiff, Int.reduceToNat]
  repeat' (first | (refine And.intro ?_ ?_) | intro _)
  all_goals (try omega)
  refine loop_intro (tb := tb) follows hN (D := Nat) (fun d => shp [(0, .rd (.list (.list tStamp)) (l)), (3, .own 1), (4, .rd I (d : Int))] [(1, .arr 73 (.list tStamp) (l.take d ++ List.replicate (l.length - d) ((.list tStamp) : Ty).dflt))]) (fun d => d ≤ l.length) (fun d => l.length - d) (0) ?_ (sub_shp hN [(1, some 20032)] ?_) (fun d hd => ?_)
  · exact Nat.zero_le _
  · simp (disch := exact eqId (by kernel_rfl)) only [go_sem, ↓reduceIte, Nat.reduceAdd, Nat.reduceMul, Nat.reduceLT, Nat.reduceBEq, Nat.reduceLeDiff, Nat.reduceEqDiff, Int.reduceToNat]
    exact ⟨rfl, rfl⟩
  · simp (disch := exact eqId (by kernel_rfl)) only [go_sem, ↓reduceIte, Nat.reduceAdd, Nat.reduceMul, Nat.reduceLT, Nat.reduceBEq, Nat.reduceLeDiff, Nat.reduceEqDiff, Int.reduceToNat]
    repeat' (first | (refine And.intro ?_ ?_) | intro _ | (refine callQ_intro (toStampS_ok _ (hs.2 _ (getD_mem (by omega) _))) ?_; try (simp (disch := exact eqId (by kernel_rfl)) only [go_sem, ↓reduceIte, Nat.reduceAdd, Nat.reduceMul, Nat.reduceLT, Nat.reduceBEq, Nat.reduceLeDiff, Nat.reduceEqDiff, Int.reduceToNat])) | (refine callH_intro (fun hcc => toStampS_ok _ (hs.2 _ (getD_mem (by omega) _))) ?_; try (simp (disch := exact eqId (by kernel_rfl)) only [go_sem, ↓reduceIte, Nat.reduceAdd, Nat.reduceMul, Nat.reduceLT, Nat.reduceBEq, Nat.reduceLeDiff, Nat.reduceEqDiff, Int.reduceToNat])))
    all_goals (try simp only [List.length_append, List.length_take, List.length_replicate])
    all_goals (try omega)
    · have hk : d < l.length := by omega
      refine back_intro (d + 1) ?_ ?_ (sub_shp hN [(1, some 1)] ?_)
      · exact hk
      · omega
      · simp (disch := exact eqId (by kernel_rfl)) only [go_sem, ↓reduceIte, Nat.reduceAdd, Nat.reduceMul, Nat.reduceLT, Nat.reduceBEq, Nat.reduceLeDiff, Nat.reduceEqDiff, Int.reduceToNat]
        exact ⟨set_take_rep hk rfl _ _, wrap_succ' (by omega)⟩
    · have hk : d = l.length := by omega
      simp [hk]
theorem toPiece_ok (a : tPiece.den) (hs : Small tPiece 1073741824 a) : FunOK Try.prog 84 [⟨tPiece, a⟩] (.agg [.rd I a.1, .own 3 I a.2.1, .rd I a.2.2.1]) := by
  skip
  refine fun_of (tb := tb) follows Try.func84 (by kernel_rfl) Try.ntmps84 rfl rfl rfl ?_
  intro cx hN hw
  simp (disch := exact eqId (by kernel_rfl)) only [go_sem, ↓reduceIte, Nat.reduceAdd, Nat.reduceMul, Nat.reduceLT, Nat.reduceBEq, Nat.reduceLeDiff, Nat.reduceEqDiff, Int.reduceToNat]
  repeat' (first | (refine And.intro ?_ ?_) | intro _ | (refine callQ_intro (toIntS_ok _ hs.2.1) ?_; try (simp (disch := exact eqId (by kernel_rfl)) only [go_sem, ↓reduceIte, Nat.reduceAdd, Nat.reduceMul, Nat.reduceLT, Nat.reduceBEq, Nat.reduceLeDiff, Nat.reduceEqDiff, Int.reduceToNat])) | (refine callH_intro (fun hcc => toIntS_ok _ hs.2.1) ?_; try (simp (disch := exact eqId (by kernel_rfl)) only [go_sem, ↓reduceIte, Nat.reduceAdd, Nat.reduceMul, Nat.reduceLT, Nat.reduceBEq, Nat.reduceLeDiff, Nat.reduceEqDiff, Int.reduceToNat])))
  all_goals (try rfl)
theorem toPieceS_ok (l : List (tPiece : Ty).den) (hs : Small (.list tPiece) 1073741824 l) : FunOK Try.prog 178 [⟨(.list tPiece), l⟩] (.own 117 tPiece l) := by
  have hs1 : l.length ≤ 1073741824 := hs.1
  refine fun_of (tb := tb) follows Try.func178 (by kernel_rfl) Try.ntmps178 rfl rfl rfl ?_
  intro cx hN hw
  simp (disch := exact eqId (by kernel_rfl)) only [go_sem, ↓reduceIte, Nat.reduceAdd, Nat.reduceMul, Nat.reduceLT, Nat.reduceBEq, Nat.reduceLeDiff, Nat.reduceEqDiff, Int.reduceToNat]
  repeat' (first | (refine And.intro ?_ ?_) | intro _)
  all_goals (try omega)
  refine loop_intro (tb := tb) follows hN (D := Nat) (fun d => shp [(0, .rd (.list tPiece) (l)), (3, .own 1), (4, .rd I (d : Int))] [(1, .arr 117 tPiece (l.take d ++ List.replicate (l.length - d) (tPiece : Ty).dflt))]) (fun d => d ≤ l.length) (fun d => l.length - d) (0) ?_ (sub_shp hN [(1, some 20032)] ?_) (fun d hd => ?_)
  · exact Nat.zero_le _
  · simp (disch := exact eqId (by kernel_rfl)) only [go_sem, ↓reduceIte, Nat.reduceAdd, Nat.reduceMul, Nat.reduceLT, Nat.reduceBEq, Nat.reduceLeDiff, Nat.reduceEqDiff, Int.reduceToNat]
    exact ⟨rfl, rfl⟩
  · simp (disch := exact eqId (by kernel_rfl)) only [go_sem, ↓reduceIte, Nat.reduceAdd, Nat.reduceMul, Nat.reduceLT, Nat.reduceBEq, Nat.reduceLeDiff, Nat.reduceEqDiff, Int.reduceToNat]
    repeat' (first | (refine And.intro ?_ ?_) | intro _ | (refine callQ_intro (toPiece_ok _ (hs.2 _ (getD_mem (by omega) _))) ?_; try (simp (disch := exact eqId (by kernel_rfl)) only [go_sem, ↓reduceIte, Nat.reduceAdd, Nat.reduceMul, Nat.reduceLT, Nat.reduceBEq, Nat.reduceLeDiff, Nat.reduceEqDiff, Int.reduceToNat])) | (refine callH_intro (fun hcc => toPiece_ok _ (hs.2 _ (getD_mem (by omega) _))) ?_; try (simp (disch := exact eqId (by kernel_rfl)) only [go_sem, ↓reduceIte, Nat.reduceAdd, Nat.reduceMul, Nat.reduceLT, Nat.reduceBEq, Nat.reduceLeDiff, Nat.reduceEqDiff, Int.reduceToNat])))
    all_goals (try simp only [List.length_append, List.length_take, List.length_replicate])
    all_goals (try omega)
    · have hk : d < l.length := by omega
      refine back_intro (d + 1) ?_ ?_ (sub_shp hN [(1, some 1)] ?_)
      · exact hk
      · omega
      · simp (disch := exact eqId (by kernel_rfl)) only [go_sem, ↓reduceIte, Nat.reduceAdd, Nat.reduceMul, Nat.reduceLT, Nat.reduceBEq, Nat.reduceLeDiff, Nat.reduceEqDiff, Int.reduceToNat]
        exact ⟨set_take_rep hk rfl _ _, wrap_succ' (by omega)⟩
    · have hk : d = l.length := by omega
      simp [hk]
theorem toRenewal_ok (a : tRenewal.den) (hs : Small tRenewal 1073741824 a) : FunOK Try.prog 58 [⟨tRenewal, a⟩] (.agg [.rd I a.1, .rd I a.2.1, .rd I a.2.2.1, .own 264 tStep a.2.2.2.1, .own 195 tStamp a.2.2.2.2.1]) := by
  skip
  refine fun_of (tb := tb) follows Try.func58 (by kernel_rfl) Try.ntmps58 rfl rfl rfl ?_
  intro cx hN hw
  simp (disch := exact eqId (by kernel_rfl)) only [go_sem, ↓reduceIte, Nat.reduceAdd, Nat.reduceMul, Nat.reduceLT, Nat.reduceBEq, Nat.reduceLeDiff, Nat.reduceEqDiff, Int.reduceToNat]
  repeat' (first | (refine And.intro ?_ ?_) | intro _ | (refine callQ_intro (toStepS_ok _ hs.2.2.2.1) ?_; try (simp (disch := exact eqId (by kernel_rfl)) only [go_sem, ↓reduceIte, Nat.reduceAdd, Nat.reduceMul, Nat.reduceLT, Nat.reduceBEq, Nat.reduceLeDiff, Nat.reduceEqDiff, Int.reduceToNat])) | (refine callH_intro (fun hcc => toStepS_ok _ hs.2.2.2.1) ?_; try (simp (disch := exact eqId (by kernel_rfl)) only [go_sem, ↓reduceIte, Nat.reduceAdd, Nat.reduceMul, Nat.reduceLT, Nat.reduceBEq, Nat.reduceLeDiff, Nat.reduceEqDiff, Int.reduceToNat])) | (refine callQ_intro (toStampS_ok _ hs.2.2.2.2.1) ?_; try (simp (disch := exact eqId (by kernel_rfl)) only [go_sem, ↓reduceIte, Nat.reduceAdd, Nat.reduceMul, Nat.reduceLT, Nat.reduceBEq, Nat.reduceLeDiff, Nat.reduceEqDiff, Int.reduceToNat])) | (refine callH_intro (fun hcc => toStampS_ok _ hs.2.2.2.2.1) ?_; try (simp (disch := exact eqId (by kernel_rfl)) only [go_sem, ↓reduceIte, Nat.reduceAdd, Nat.reduceMul, Nat.reduceLT, Nat.reduceBEq, Nat.reduceLeDiff, Nat.reduceEqDiff, Int.reduceToNat])))
  all_goals (try rfl)
theorem toRenewalS_ok (l : List (tRenewal : Ty).den) (hs : Small (.list tRenewal) 1073741824 l) : FunOK Try.prog 179 [⟨(.list tRenewal), l⟩] (.own 75 tRenewal l) := by
  have hs1 : l.length ≤ 1073741824 := hs.1
  refine fun_of (tb := tb) follows Try.func179 (by kernel_rfl) Try.ntmps179 rfl rfl rfl ?_
  intro cx hN hw
  simp (disch := exact eqId (by kernel_rfl)) only [go_sem, ↓reduceIte, Nat.reduceAdd, Nat.reduceMul, Nat.reduceLT, Nat.reduceBEq, Nat.reduceLeDiff, Nat.reduceEqDiff, Int.reduceToNat]
  repeat' (first | (refine And.intro ?_ ?_) | intro _)
  all_goals (try omega)
  refine loop_intro (tb := tb) follows hN (D := Nat) (fun d => shp [(0, .rd (.list tRenewal) (l)), (3, .own 1), (4, .rd I (d : Int))] [(1, .arr 75 tRenewal (l.take d ++ List.replicate (l.length - d) (tRenewal : Ty).dflt))]) (fun d => d ≤ l.length) (fun d => l.length - d) (0) ?_ (sub_shp hN [(1, some 20032)] ?_) (fun d hd => ?_)
  · exact Nat.zero_le _
  · simp (disch := exact eqId (by kernel_rfl)) only [go_sem, ↓reduceIte, Nat.reduceAdd, Nat.reduceMul, Nat.reduceLT, Nat.reduceBEq, Nat.reduceLeDiff, Nat.reduceEqDiff, Int.reduceToNat]
    exact ⟨rfl, rfl⟩
  · simp (disch := exact eqId (by kernel_rfl)) only [go_sem, ↓reduceIte, Nat.reduceAdd, Nat.reduceMul, Nat.reduceLT, Nat.reduceBEq, Nat.reduceLeDiff, Nat.reduceEqDiff, Int.reduceToNat]
    repeat' (first | (refine And.intro ?_ ?_) | intro _ | (refine callQ_intro (toRenewal_ok _ (hs.2 _ (getD_mem (by omega) _))) ?_; try (simp (disch := exact eqId (by kernel_rfl)) only [go_sem, ↓reduceIte, Nat.reduceAdd, Nat.reduceMul, Nat.reduceLT, Nat.reduceBEq, Nat.reduceLeDiff, Nat.reduceEqDiff, Int.reduceToNat])) | (refine callH_intro (fun hcc => toRenewal_ok _ (hs.2 _ (getD_mem (by omega) _))) ?_; try (simp (disch := exact eqId (by kernel_rfl)) only [go_sem, ↓reduceIte, Nat.reduceAdd, Nat.reduceMul, Nat.reduceLT, Nat.reduceBEq, Nat.reduceLeDiff, Nat.reduceEqDiff, Int.reduceToNat])))
    all_goals (try simp only [List.length_append, List.length_take, List.length_replicate])
    all_goals (try omega)
    · have hk : d < l.length := by omega
      refine back_intro (d + 1) ?_ ?_ (sub_shp hN [(1, some 1)] ?_)
      · exact hk
      · omega
      · simp (disch := exact eqId (by kernel_rfl)) only [go_sem, ↓reduceIte, Nat.reduceAdd, Nat.reduceMul, Nat.reduceLT, Nat.reduceBEq, Nat.reduceLeDiff, Nat.reduceEqDiff, Int.reduceToNat]
        exact ⟨set_take_rep hk rfl _ _, wrap_succ' (by omega)⟩
    · have hk : d = l.length := by omega
      simp [hk]
theorem toStrand_ok (a : tStrand.den) (hs : Small tStrand 1073741824 a) : FunOK Try.prog 75 [⟨tStrand, a⟩] (.agg [.own 117 tPiece a.1, .own 75 tRenewal a.2.1]) := by
  skip
  refine fun_of (tb := tb) follows Try.func75 (by kernel_rfl) Try.ntmps75 rfl rfl rfl ?_
  intro cx hN hw
  simp (disch := exact eqId (by kernel_rfl)) only [go_sem, ↓reduceIte, Nat.reduceAdd, Nat.reduceMul, Nat.reduceLT, Nat.reduceBEq, Nat.reduceLeDiff, Nat.reduceEqDiff, Int.reduceToNat]
  repeat' (first | (refine And.intro ?_ ?_) | intro _ | (refine callQ_intro (toPieceS_ok _ hs.1) ?_; try (simp (disch := exact eqId (by kernel_rfl)) only [go_sem, ↓reduceIte, Nat.reduceAdd, Nat.reduceMul, Nat.reduceLT, Nat.reduceBEq, Nat.reduceLeDiff, Nat.reduceEqDiff, Int.reduceToNat])) | (refine callH_intro (fun hcc => toPieceS_ok _ hs.1) ?_; try (simp (disch := exact eqId (by kernel_rfl)) only [go_sem, ↓reduceIte, Nat.reduceAdd, Nat.reduceMul, Nat.reduceLT, Nat.reduceBEq, Nat.reduceLeDiff, Nat.reduceEqDiff, Int.reduceToNat])) | (refine callQ_intro (toRenewalS_ok _ hs.2.1) ?_; try (simp (disch := exact eqId (by kernel_rfl)) only [go_sem, ↓reduceIte, Nat.reduceAdd, Nat.reduceMul, Nat.reduceLT, Nat.reduceBEq, Nat.reduceLeDiff, Nat.reduceEqDiff, Int.reduceToNat])) | (refine callH_intro (fun hcc => toRenewalS_ok _ hs.2.1) ?_; try (simp (disch := exact eqId (by kernel_rfl)) only [go_sem, ↓reduceIte, Nat.reduceAdd, Nat.reduceMul, Nat.reduceLT, Nat.reduceBEq, Nat.reduceLeDiff, Nat.reduceEqDiff, Int.reduceToNat])))
  all_goals (try rfl)
theorem toStrandS_ok (l : List (tStrand : Ty).den) (hs : Small (.list tStrand) 1073741824 l) : FunOK Try.prog 204 [⟨(.list tStrand), l⟩] (.own 103 tStrand l) := by
  have hs1 : l.length ≤ 1073741824 := hs.1
  refine fun_of (tb := tb) follows Try.func204 (by kernel_rfl) Try.ntmps204 rfl rfl rfl ?_
  intro cx hN hw
  simp (disch := exact eqId (by kernel_rfl)) only [go_sem, ↓reduceIte, Nat.reduceAdd, Nat.reduceMul, Nat.reduceLT, Nat.reduceBEq, Nat.reduceLeDiff, Nat.reduceEqDiff, Int.reduceToNat]
  repeat' (first | (refine And.intro ?_ ?_) | intro _)
  all_goals (try omega)
  refine loop_intro (tb := tb) follows hN (D := Nat) (fun d => shp [(0, .rd (.list tStrand) (l)), (3, .own 1), (4, .rd I (d : Int))] [(1, .arr 103 tStrand (l.take d ++ List.replicate (l.length - d) (tStrand : Ty).dflt))]) (fun d => d ≤ l.length) (fun d => l.length - d) (0) ?_ (sub_shp hN [(1, some 20032)] ?_) (fun d hd => ?_)
  · exact Nat.zero_le _
  · simp (disch := exact eqId (by kernel_rfl)) only [go_sem, ↓reduceIte, Nat.reduceAdd, Nat.reduceMul, Nat.reduceLT, Nat.reduceBEq, Nat.reduceLeDiff, Nat.reduceEqDiff, Int.reduceToNat]
    exact ⟨rfl, rfl⟩
  · simp (disch := exact eqId (by kernel_rfl)) only [go_sem, ↓reduceIte, Nat.reduceAdd, Nat.reduceMul, Nat.reduceLT, Nat.reduceBEq, Nat.reduceLeDiff, Nat.reduceEqDiff, Int.reduceToNat]
    repeat' (first | (refine And.intro ?_ ?_) | intro _ | (refine callQ_intro (toStrand_ok _ (hs.2 _ (getD_mem (by omega) _))) ?_; try (simp (disch := exact eqId (by kernel_rfl)) only [go_sem, ↓reduceIte, Nat.reduceAdd, Nat.reduceMul, Nat.reduceLT, Nat.reduceBEq, Nat.reduceLeDiff, Nat.reduceEqDiff, Int.reduceToNat])) | (refine callH_intro (fun hcc => toStrand_ok _ (hs.2 _ (getD_mem (by omega) _))) ?_; try (simp (disch := exact eqId (by kernel_rfl)) only [go_sem, ↓reduceIte, Nat.reduceAdd, Nat.reduceMul, Nat.reduceLT, Nat.reduceBEq, Nat.reduceLeDiff, Nat.reduceEqDiff, Int.reduceToNat])))
    all_goals (try simp only [List.length_append, List.length_take, List.length_replicate])
    all_goals (try omega)
    · have hk : d < l.length := by omega
      refine back_intro (d + 1) ?_ ?_ (sub_shp hN [(1, some 1)] ?_)
      · exact hk
      · omega
      · simp (disch := exact eqId (by kernel_rfl)) only [go_sem, ↓reduceIte, Nat.reduceAdd, Nat.reduceMul, Nat.reduceLT, Nat.reduceBEq, Nat.reduceLeDiff, Nat.reduceEqDiff, Int.reduceToNat]
        exact ⟨set_take_rep hk rfl _ _, wrap_succ' (by omega)⟩
    · have hk : d = l.length := by omega
      simp [hk]
theorem toEvidence_ok (a : tEvidence.den) (hs : Small tEvidence 1073741824 a) : FunOK Try.prog 97 [⟨tEvidence, a⟩] (.agg [.own 103 tStrand a.1, .own 73 (.list tStamp) a.2.1]) := by
  skip
  refine fun_of (tb := tb) follows Try.func97 (by kernel_rfl) Try.ntmps97 rfl rfl rfl ?_
  intro cx hN hw
  simp (disch := exact eqId (by kernel_rfl)) only [go_sem, ↓reduceIte, Nat.reduceAdd, Nat.reduceMul, Nat.reduceLT, Nat.reduceBEq, Nat.reduceLeDiff, Nat.reduceEqDiff, Int.reduceToNat]
  repeat' (first | (refine And.intro ?_ ?_) | intro _ | (refine callQ_intro (toStrandS_ok _ hs.1) ?_; try (simp (disch := exact eqId (by kernel_rfl)) only [go_sem, ↓reduceIte, Nat.reduceAdd, Nat.reduceMul, Nat.reduceLT, Nat.reduceBEq, Nat.reduceLeDiff, Nat.reduceEqDiff, Int.reduceToNat])) | (refine callH_intro (fun hcc => toStrandS_ok _ hs.1) ?_; try (simp (disch := exact eqId (by kernel_rfl)) only [go_sem, ↓reduceIte, Nat.reduceAdd, Nat.reduceMul, Nat.reduceLT, Nat.reduceBEq, Nat.reduceLeDiff, Nat.reduceEqDiff, Int.reduceToNat])) | (refine callQ_intro (toStampSS_ok _ hs.2.1) ?_; try (simp (disch := exact eqId (by kernel_rfl)) only [go_sem, ↓reduceIte, Nat.reduceAdd, Nat.reduceMul, Nat.reduceLT, Nat.reduceBEq, Nat.reduceLeDiff, Nat.reduceEqDiff, Int.reduceToNat])) | (refine callH_intro (fun hcc => toStampSS_ok _ hs.2.1) ?_; try (simp (disch := exact eqId (by kernel_rfl)) only [go_sem, ↓reduceIte, Nat.reduceAdd, Nat.reduceMul, Nat.reduceLT, Nat.reduceBEq, Nat.reduceLeDiff, Nat.reduceEqDiff, Int.reduceToNat])))
  all_goals (try rfl)
theorem toFrame_ok (a : tFrame.den) (hs : Small tFrame 1073741824 a) : FunOK Try.prog 112 [⟨tFrame, a⟩] (.agg [.own 175 tKey a.1, .own 198 tAuthority a.2.1, .own 211 tMethod a.2.2.1, .rd I a.2.2.2.1, .rd I a.2.2.2.2.1]) := by
  skip
  refine fun_of (tb := tb) follows Try.func112 (by kernel_rfl) Try.ntmps112 rfl rfl rfl ?_
  intro cx hN hw
  simp (disch := exact eqId (by kernel_rfl)) only [go_sem, ↓reduceIte, Nat.reduceAdd, Nat.reduceMul, Nat.reduceLT, Nat.reduceBEq, Nat.reduceLeDiff, Nat.reduceEqDiff, Int.reduceToNat]
  repeat' (first | (refine And.intro ?_ ?_) | intro _ | (refine callQ_intro (toKeyS_ok _ hs.1) ?_; try (simp (disch := exact eqId (by kernel_rfl)) only [go_sem, ↓reduceIte, Nat.reduceAdd, Nat.reduceMul, Nat.reduceLT, Nat.reduceBEq, Nat.reduceLeDiff, Nat.reduceEqDiff, Int.reduceToNat])) | (refine callH_intro (fun hcc => toKeyS_ok _ hs.1) ?_; try (simp (disch := exact eqId (by kernel_rfl)) only [go_sem, ↓reduceIte, Nat.reduceAdd, Nat.reduceMul, Nat.reduceLT, Nat.reduceBEq, Nat.reduceLeDiff, Nat.reduceEqDiff, Int.reduceToNat])) | (refine callQ_intro (toAuthorityS_ok _ hs.2.1) ?_; try (simp (disch := exact eqId (by kernel_rfl)) only [go_sem, ↓reduceIte, Nat.reduceAdd, Nat.reduceMul, Nat.reduceLT, Nat.reduceBEq, Nat.reduceLeDiff, Nat.reduceEqDiff, Int.reduceToNat])) | (refine callH_intro (fun hcc => toAuthorityS_ok _ hs.2.1) ?_; try (simp (disch := exact eqId (by kernel_rfl)) only [go_sem, ↓reduceIte, Nat.reduceAdd, Nat.reduceMul, Nat.reduceLT, Nat.reduceBEq, Nat.reduceLeDiff, Nat.reduceEqDiff, Int.reduceToNat])) | (refine callQ_intro (toMethodS_ok _ hs.2.2.1) ?_; try (simp (disch := exact eqId (by kernel_rfl)) only [go_sem, ↓reduceIte, Nat.reduceAdd, Nat.reduceMul, Nat.reduceLT, Nat.reduceBEq, Nat.reduceLeDiff, Nat.reduceEqDiff, Int.reduceToNat])) | (refine callH_intro (fun hcc => toMethodS_ok _ hs.2.2.1) ?_; try (simp (disch := exact eqId (by kernel_rfl)) only [go_sem, ↓reduceIte, Nat.reduceAdd, Nat.reduceMul, Nat.reduceLT, Nat.reduceBEq, Nat.reduceLeDiff, Nat.reduceEqDiff, Int.reduceToNat])))
  all_goals (try rfl)
theorem toDocument_ok (a : tDocument.den) (hs : Small tDocument 1073741824 a) : FunOK Try.prog 76 [⟨tDocument, a⟩] (.agg [.rd I a.1, .own 9 .str a.2.1, .own 3 I a.2.2.1]) := by
  skip
  refine fun_of (tb := tb) follows Try.func76 (by kernel_rfl) Try.ntmps76 rfl rfl rfl ?_
  intro cx hN hw
  simp (disch := exact eqId (by kernel_rfl)) only [go_sem, ↓reduceIte, Nat.reduceAdd, Nat.reduceMul, Nat.reduceLT, Nat.reduceBEq, Nat.reduceLeDiff, Nat.reduceEqDiff, Int.reduceToNat]
  repeat' (first | (refine And.intro ?_ ?_) | intro _ | (refine callQ_intro (toStringS_ok _ hs.2.1) ?_; try (simp (disch := exact eqId (by kernel_rfl)) only [go_sem, ↓reduceIte, Nat.reduceAdd, Nat.reduceMul, Nat.reduceLT, Nat.reduceBEq, Nat.reduceLeDiff, Nat.reduceEqDiff, Int.reduceToNat])) | (refine callH_intro (fun hcc => toStringS_ok _ hs.2.1) ?_; try (simp (disch := exact eqId (by kernel_rfl)) only [go_sem, ↓reduceIte, Nat.reduceAdd, Nat.reduceMul, Nat.reduceLT, Nat.reduceBEq, Nat.reduceLeDiff, Nat.reduceEqDiff, Int.reduceToNat])) | (refine callQ_intro (toIntS_ok _ hs.2.2.1) ?_; try (simp (disch := exact eqId (by kernel_rfl)) only [go_sem, ↓reduceIte, Nat.reduceAdd, Nat.reduceMul, Nat.reduceLT, Nat.reduceBEq, Nat.reduceLeDiff, Nat.reduceEqDiff, Int.reduceToNat])) | (refine callH_intro (fun hcc => toIntS_ok _ hs.2.2.1) ?_; try (simp (disch := exact eqId (by kernel_rfl)) only [go_sem, ↓reduceIte, Nat.reduceAdd, Nat.reduceMul, Nat.reduceLT, Nat.reduceBEq, Nat.reduceLeDiff, Nat.reduceEqDiff, Int.reduceToNat])))
  all_goals (try rfl)
theorem toRedacted_ok (a : tRedacted.den) (hs : Small tRedacted 1073741824 a) : FunOK Try.prog 106 [⟨tRedacted, a⟩] (.agg [.rd I a.1, .own 3 I a.2.1, .own 4 .bool a.2.2.1, .own 9 .str a.2.2.2.1, .own 3 I a.2.2.2.2.1, .own 55 (.list I) a.2.2.2.2.2.1]) := by
  skip
  refine fun_of (tb := tb) follows Try.func106 (by kernel_rfl) Try.ntmps106 rfl rfl rfl ?_
  intro cx hN hw
  simp (disch := exact eqId (by kernel_rfl)) only [go_sem, ↓reduceIte, Nat.reduceAdd, Nat.reduceMul, Nat.reduceLT, Nat.reduceBEq, Nat.reduceLeDiff, Nat.reduceEqDiff, Int.reduceToNat]
  repeat' (first | (refine And.intro ?_ ?_) | intro _ | (refine callQ_intro (toIntS_ok _ hs.2.1) ?_; try (simp (disch := exact eqId (by kernel_rfl)) only [go_sem, ↓reduceIte, Nat.reduceAdd, Nat.reduceMul, Nat.reduceLT, Nat.reduceBEq, Nat.reduceLeDiff, Nat.reduceEqDiff, Int.reduceToNat])) | (refine callH_intro (fun hcc => toIntS_ok _ hs.2.1) ?_; try (simp (disch := exact eqId (by kernel_rfl)) only [go_sem, ↓reduceIte, Nat.reduceAdd, Nat.reduceMul, Nat.reduceLT, Nat.reduceBEq, Nat.reduceLeDiff, Nat.reduceEqDiff, Int.reduceToNat])) | (refine callQ_intro (toBoolS_ok _ hs.2.2.1) ?_; try (simp (disch := exact eqId (by kernel_rfl)) only [go_sem, ↓reduceIte, Nat.reduceAdd, Nat.reduceMul, Nat.reduceLT, Nat.reduceBEq, Nat.reduceLeDiff, Nat.reduceEqDiff, Int.reduceToNat])) | (refine callH_intro (fun hcc => toBoolS_ok _ hs.2.2.1) ?_; try (simp (disch := exact eqId (by kernel_rfl)) only [go_sem, ↓reduceIte, Nat.reduceAdd, Nat.reduceMul, Nat.reduceLT, Nat.reduceBEq, Nat.reduceLeDiff, Nat.reduceEqDiff, Int.reduceToNat])) | (refine callQ_intro (toStringS_ok _ hs.2.2.2.1) ?_; try (simp (disch := exact eqId (by kernel_rfl)) only [go_sem, ↓reduceIte, Nat.reduceAdd, Nat.reduceMul, Nat.reduceLT, Nat.reduceBEq, Nat.reduceLeDiff, Nat.reduceEqDiff, Int.reduceToNat])) | (refine callH_intro (fun hcc => toStringS_ok _ hs.2.2.2.1) ?_; try (simp (disch := exact eqId (by kernel_rfl)) only [go_sem, ↓reduceIte, Nat.reduceAdd, Nat.reduceMul, Nat.reduceLT, Nat.reduceBEq, Nat.reduceLeDiff, Nat.reduceEqDiff, Int.reduceToNat])) | (refine callQ_intro (toIntS_ok _ hs.2.2.2.2.1) ?_; try (simp (disch := exact eqId (by kernel_rfl)) only [go_sem, ↓reduceIte, Nat.reduceAdd, Nat.reduceMul, Nat.reduceLT, Nat.reduceBEq, Nat.reduceLeDiff, Nat.reduceEqDiff, Int.reduceToNat])) | (refine callH_intro (fun hcc => toIntS_ok _ hs.2.2.2.2.1) ?_; try (simp (disch := exact eqId (by kernel_rfl)) only [go_sem, ↓reduceIte, Nat.reduceAdd, Nat.reduceMul, Nat.reduceLT, Nat.reduceBEq, Nat.reduceLeDiff, Nat.reduceEqDiff, Int.reduceToNat])) | (refine callQ_intro (toIntSS_ok _ hs.2.2.2.2.2.1) ?_; try (simp (disch := exact eqId (by kernel_rfl)) only [go_sem, ↓reduceIte, Nat.reduceAdd, Nat.reduceMul, Nat.reduceLT, Nat.reduceBEq, Nat.reduceLeDiff, Nat.reduceEqDiff, Int.reduceToNat])) | (refine callH_intro (fun hcc => toIntSS_ok _ hs.2.2.2.2.2.1) ?_; try (simp (disch := exact eqId (by kernel_rfl)) only [go_sem, ↓reduceIte, Nat.reduceAdd, Nat.reduceMul, Nat.reduceLT, Nat.reduceBEq, Nat.reduceLeDiff, Nat.reduceEqDiff, Int.reduceToNat])))
  all_goals (try rfl)
end Go.Proofs.Ytkneckknjmahdaa
