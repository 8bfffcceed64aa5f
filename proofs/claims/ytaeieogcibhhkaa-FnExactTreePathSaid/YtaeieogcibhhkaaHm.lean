/- What the laws' own helpers answer: marks. It proves nothing of a statement by itself. -/
import Derived.Test.YtaeieogcibhhkaaG
set_option linter.unusedSimpArgs false
set_option linter.unusedVariables false
set_option maxRecDepth 100000
namespace Go.Proofs.Ytaeieogcibhhkaa
open Go.AL
theorem markIntS_ok (l : List (I : Ty).den) (n : Int) (h0 : 0 ≤ n) (h1 : n ≤ 1152921504606846976) (hs : l.length ≤ 1073741824) : MutOK Try.prog 91 [none, none] [.obj (.arr 3 I l), .rd ⟨I, n⟩] (.rd I (n + l.length * 1 : Int)) [.arr 3 I (markL I n l.length)] := by
  have hm : ∀ k, (markL I n k ++ l.drop k).length = k + (l.length - k) := fun k => by rw [List.length_append, markL_len, List.length_drop]
  refine fun_ofM (tb := tb) follows Try.func91 (by kernel_rfl) Try.ntmps91 rfl rfl (by simp [shOK]) rfl ?_
  intro cx hN hw
  simp (disch := exact eqId (by kernel_rfl)) only [go_sem, ↓reduceIte, Nat.reduceAdd, Nat.reduceMul, Nat.reduceLT, Nat.reduceBEq, Nat.reduceLeDiff, Nat.reduceEqDiff]
  refine loop_intro (tb := tb) follows hN (D := Nat) (fun d => shp [(0, .own 0), (1, .rd I (n + d * 1 : Int)), (5, .rd I (d : Int))] [(0, .arr 3 I (markL I n d ++ l.drop d))]) (fun d => d ≤ l.length) (fun d => l.length - d) (0) ?_ (sub_shp hN [(0, some 0)] ?_) (fun d hd => ?_)
  · exact Nat.zero_le _
  · simp (disch := exact eqId (by kernel_rfl)) only [go_sem, ↓reduceIte, Nat.reduceAdd, Nat.reduceMul, Nat.reduceLT, Nat.reduceBEq, Nat.reduceLeDiff, Nat.reduceEqDiff]
    simp [markL]
  · simp (disch := exact eqId (by kernel_rfl)) only [go_sem, ↓reduceIte, Nat.reduceAdd, Nat.reduceMul, Nat.reduceLT, Nat.reduceBEq, Nat.reduceLeDiff, Nat.reduceEqDiff]
    rw [hm]
    repeat' (first | (refine And.intro ?_ ?_) | intro _)
    all_goals (try simp only [List.length_set, hm])
    all_goals (try omega)
    · have hk : d < l.length := by omega
      refine back_intro (d + 1) ?_ ?_ (sub_shp hN [(0, some 0)] ?_)
      · exact hk
      · omega
      · simp (disch := exact eqId (by kernel_rfl)) only [go_sem, ↓reduceIte, Nat.reduceAdd, Nat.reduceMul, Nat.reduceLT, Nat.reduceBEq, Nat.reduceLeDiff, Nat.reduceEqDiff]
        simp (disch := omega) only [wrap_i64, List.set_set, set_getD (show d < (markL I n d ++ l.drop d).length by rw [hm]; omega)]
        rw [← set_mark hk]
        simp only [markF, cntF]
        refine ⟨congrArg _ ?_, I_eq (by omega), I_eq (by omega)⟩
        simp (disch := omega) only [wrap_i64]
        repeat' (first | refine Prod.ext ?_ ?_ | rfl | omega | exact I_eq (by omega) | (simp only; omega) | exact boolEq (by omega))
    · have hk : d = l.length := by omega
      rw [hk]
    · have hk : d = l.length := by omega
      simp [hk]
theorem markStepS_ok (l : List (tStep : Ty).den) (n : Int) (h0 : 0 ≤ n) (h1 : n ≤ 1152921504606846976) (hs : l.length ≤ 1073741824) : MutOK Try.prog 92 [none, none] [.obj (.arr 131 tStep l), .rd ⟨I, n⟩] (.rd I (n + l.length * 2 : Int)) [.arr 131 tStep (markL tStep n l.length)] := by
  have hm : ∀ k, (markL tStep n k ++ l.drop k).length = k + (l.length - k) := fun k => by rw [List.length_append, markL_len, List.length_drop]
  refine fun_ofM (tb := tb) follows Try.func92 (by kernel_rfl) Try.ntmps92 rfl rfl (by simp [shOK]) rfl ?_
  intro cx hN hw
  simp (disch := exact eqId (by kernel_rfl)) only [go_sem, ↓reduceIte, Nat.reduceAdd, Nat.reduceMul, Nat.reduceLT, Nat.reduceBEq, Nat.reduceLeDiff, Nat.reduceEqDiff]
  refine loop_intro (tb := tb) follows hN (D := Nat) (fun d => shp [(0, .own 0), (1, .rd I (n + d * 2 : Int)), (5, .rd I (d : Int))] [(0, .arr 131 tStep (markL tStep n d ++ l.drop d))]) (fun d => d ≤ l.length) (fun d => l.length - d) (0) ?_ (sub_shp hN [(0, some 0)] ?_) (fun d hd => ?_)
  · exact Nat.zero_le _
  · simp (disch := exact eqId (by kernel_rfl)) only [go_sem, ↓reduceIte, Nat.reduceAdd, Nat.reduceMul, Nat.reduceLT, Nat.reduceBEq, Nat.reduceLeDiff, Nat.reduceEqDiff]
    simp [markL]
  · simp (disch := exact eqId (by kernel_rfl)) only [go_sem, ↓reduceIte, Nat.reduceAdd, Nat.reduceMul, Nat.reduceLT, Nat.reduceBEq, Nat.reduceLeDiff, Nat.reduceEqDiff]
    rw [hm]
    repeat' (first | (refine And.intro ?_ ?_) | intro _)
    all_goals (try simp only [List.length_set, hm])
    all_goals (try omega)
    · have hk : d < l.length := by omega
      refine back_intro (d + 1) ?_ ?_ (sub_shp hN [(0, some 0)] ?_)
      · exact hk
      · omega
      · simp (disch := exact eqId (by kernel_rfl)) only [go_sem, ↓reduceIte, Nat.reduceAdd, Nat.reduceMul, Nat.reduceLT, Nat.reduceBEq, Nat.reduceLeDiff, Nat.reduceEqDiff]
        simp (disch := omega) only [wrap_i64, List.set_set, set_getD (show d < (markL tStep n d ++ l.drop d).length by rw [hm]; omega)]
        rw [← set_mark hk]
        simp only [markF, cntF]
        refine ⟨congrArg _ ?_, I_eq (by omega), I_eq (by omega)⟩
        simp (disch := omega) only [wrap_i64]
        repeat' (first | refine Prod.ext ?_ ?_ | rfl | omega | exact I_eq (by omega) | (simp only; omega) | exact boolEq (by omega))
    · have hk : d = l.length := by omega
      rw [hk]
    · have hk : d = l.length := by omega
      simp [hk]
theorem heldIntS_ok (m : Nat) (n : Int) (h0 : 0 ≤ n) (h1 : n ≤ 1152921504606846976) (hs : m ≤ 1073741824) : FunOK Try.prog 107 [⟨(.list I), markL I n m⟩, ⟨I, n⟩] (.rd I (n + m * 1 : Int)) := by
  have hm := markL_len I m n
  refine fun_of (tb := tb) follows Try.func107 (by kernel_rfl) Try.ntmps107 rfl rfl rfl ?_
  intro cx hN hw
  simp (disch := exact eqId (by kernel_rfl)) only [go_sem, ↓reduceIte, Nat.reduceAdd, Nat.reduceMul, Nat.reduceLT, Nat.reduceBEq, Nat.reduceLeDiff, Nat.reduceEqDiff]
  refine loop_intro (tb := tb) follows hN (D := Nat) (fun d => shp [(0, .rd (.list I) (markL I n m)), (1, .rd I (n + d * 1 : Int)), (5, .rd I (d : Int))] []) (fun d => d ≤ m) (fun d => m - d) (0) ?_ (sub_shp hN [] ?_) (fun d hd => ?_)
  · exact Nat.zero_le _
  · simp (disch := exact eqId (by kernel_rfl)) only [go_sem, ↓reduceIte, Nat.reduceAdd, Nat.reduceMul, Nat.reduceLT, Nat.reduceBEq, Nat.reduceLeDiff, Nat.reduceEqDiff]
    simp
  · simp (disch := exact eqId (by kernel_rfl)) only [go_sem, ↓reduceIte, Nat.reduceAdd, Nat.reduceMul, Nat.reduceLT, Nat.reduceBEq, Nat.reduceLeDiff, Nat.reduceEqDiff]
    rw [hm]
    rcases Nat.lt_or_ge d m with hk | hk
    · rw [markL_get I _ m n d hk]
      simp only [markF, cntF]
      simp (disch := omega) only [wrap_i64]
      repeat' (first | (refine And.intro ?_ ?_) | intro _)
      all_goals (try omega)
      all_goals (try (exfalso; rename_i hx; exact hx boolEq'))
      all_goals (try (rename_i hx; exact absurd (boolEq (by omega)).symm hx))
      · refine back_intro (d + 1) ?_ ?_ (sub_shp hN [] ?_)
        · exact hk
        · omega
        · simp (disch := exact eqId (by kernel_rfl)) only [go_sem, ↓reduceIte, Nat.reduceAdd, Nat.reduceMul, Nat.reduceLT, Nat.reduceBEq, Nat.reduceLeDiff, Nat.reduceEqDiff]
          try simp (disch := omega) only [wrap_i64]
          exact ⟨I_eq (by omega), I_eq (by omega)⟩
    · repeat' (first | (refine And.intro ?_ ?_) | intro _)
      all_goals first | omega | exact I_eq (by omega)
theorem heldStepS_ok (m : Nat) (n : Int) (h0 : 0 ≤ n) (h1 : n ≤ 1152921504606846976) (hs : m ≤ 1073741824) : FunOK Try.prog 93 [⟨(.list tStep), markL tStep n m⟩, ⟨I, n⟩] (.rd I (n + m * 2 : Int)) := by
  have hm := markL_len tStep m n
  refine fun_of (tb := tb) follows Try.func93 (by kernel_rfl) Try.ntmps93 rfl rfl rfl ?_
  intro cx hN hw
  simp (disch := exact eqId (by kernel_rfl)) only [go_sem, ↓reduceIte, Nat.reduceAdd, Nat.reduceMul, Nat.reduceLT, Nat.reduceBEq, Nat.reduceLeDiff, Nat.reduceEqDiff]
  refine loop_intro (tb := tb) follows hN (D := Nat) (fun d => shp [(0, .rd (.list tStep) (markL tStep n m)), (1, .rd I (n + d * 2 : Int)), (5, .rd I (d : Int))] []) (fun d => d ≤ m) (fun d => m - d) (0) ?_ (sub_shp hN [] ?_) (fun d hd => ?_)
  · exact Nat.zero_le _
  · simp (disch := exact eqId (by kernel_rfl)) only [go_sem, ↓reduceIte, Nat.reduceAdd, Nat.reduceMul, Nat.reduceLT, Nat.reduceBEq, Nat.reduceLeDiff, Nat.reduceEqDiff]
    simp
  · simp (disch := exact eqId (by kernel_rfl)) only [go_sem, ↓reduceIte, Nat.reduceAdd, Nat.reduceMul, Nat.reduceLT, Nat.reduceBEq, Nat.reduceLeDiff, Nat.reduceEqDiff]
    rw [hm]
    rcases Nat.lt_or_ge d m with hk | hk
    · rw [markL_get tStep _ m n d hk]
      simp only [markF, cntF]
      simp (disch := omega) only [wrap_i64]
      repeat' (first | (refine And.intro ?_ ?_) | intro _)
      all_goals (try omega)
      all_goals (try (exfalso; rename_i hx; exact hx boolEq'))
      all_goals (try (rename_i hx; exact absurd (boolEq (by omega)).symm hx))
      · refine back_intro (d + 1) ?_ ?_ (sub_shp hN [] ?_)
        · exact hk
        · omega
        · simp (disch := exact eqId (by kernel_rfl)) only [go_sem, ↓reduceIte, Nat.reduceAdd, Nat.reduceMul, Nat.reduceLT, Nat.reduceBEq, Nat.reduceLeDiff, Nat.reduceEqDiff]
          try simp (disch := omega) only [wrap_i64]
          exact ⟨I_eq (by omega), I_eq (by omega)⟩
    · repeat' (first | (refine And.intro ?_ ?_) | intro _)
      all_goals first | omega | exact I_eq (by omega)
end Go.Proofs.Ytaeieogcibhhkaa
