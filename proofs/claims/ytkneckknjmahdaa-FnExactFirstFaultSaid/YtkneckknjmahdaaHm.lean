/- What the laws' own helpers answer: marks. It proves nothing of a statement by itself. -/
import Derived.Test.YtkneckknjmahdaaG
set_option linter.unusedSimpArgs false
set_option linter.unusedVariables false
set_option maxRecDepth 100000
namespace Go.Proofs.Ytkneckknjmahdaa
open Go.AL
theorem markIntS_ok (l : List (I : Ty).den) (n : Int) (h0 : 0 ≤ n) (h1 : n ≤ 1152921504606846976) (hs : l.length ≤ 1073741824) : MutOK Try.prog 52 [none, none] [.obj (.arr 3 I l), .rd ⟨I, n⟩] (.rd I (n + l.length * 1 : Int)) [.arr 3 I (markL I n l.length)] := by
  have hm : ∀ k, (markL I n k ++ l.drop k).length = k + (l.length - k) := fun k => by rw [List.length_append, markL_len, List.length_drop]
  refine fun_ofM (tb := tb) follows Try.func52 (by kernel_rfl) Try.ntmps52 rfl rfl (by simp [shOK]) rfl ?_
  intro cx hN hw
  simp (disch := exact eqId (by kernel_rfl)) only [go_sem, ↓reduceIte, Nat.reduceAdd, Nat.reduceMul, Nat.reduceLT, Nat.reduceBEq, Nat.reduceLeDiff, Nat.reduceEqDiff, Int.reduceToNat]
  refine loop_intro (tb := tb) follows hN (D := Nat) (fun d => shp [(0, .own 0), (1, .rd I (n + d * 1 : Int)), (5, .rd I (d : Int))] [(0, .arr 3 I (markL I n d ++ l.drop d))]) (fun d => d ≤ l.length) (fun d => l.length - d) (0) ?_ (sub_shp hN [(0, some 0)] ?_) (fun d hd => ?_)
  · exact Nat.zero_le _
  · simp (disch := exact eqId (by kernel_rfl)) only [go_sem, ↓reduceIte, Nat.reduceAdd, Nat.reduceMul, Nat.reduceLT, Nat.reduceBEq, Nat.reduceLeDiff, Nat.reduceEqDiff, Int.reduceToNat]
    simp [markL]
  · simp (disch := exact eqId (by kernel_rfl)) only [go_sem, ↓reduceIte, Nat.reduceAdd, Nat.reduceMul, Nat.reduceLT, Nat.reduceBEq, Nat.reduceLeDiff, Nat.reduceEqDiff, Int.reduceToNat]
    rw [hm]
    repeat' (first | (refine And.intro ?_ ?_) | intro _)
    all_goals (try simp only [List.length_set, hm])
    all_goals (try omega)
    · have hk : d < l.length := by omega
      refine back_intro (d + 1) ?_ ?_ (sub_shp hN [(0, some 0)] ?_)
      · exact hk
      · omega
      · simp (disch := exact eqId (by kernel_rfl)) only [go_sem, ↓reduceIte, Nat.reduceAdd, Nat.reduceMul, Nat.reduceLT, Nat.reduceBEq, Nat.reduceLeDiff, Nat.reduceEqDiff, Int.reduceToNat]
        simp (disch := omega) only [wrap_i64, List.set_set, set_getD (show d < (markL I n d ++ l.drop d).length by rw [hm]; omega)]
        rw [← set_mark hk]
        simp only [markF, cntF]
        refine ⟨congrArg _ ?_, I_eq (by omega), I_eq (by omega)⟩
        simp (disch := omega) only [wrap_i64]
        repeat' (first | refine Prod.ext ?_ ?_ | rfl | omega | exact I_eq (by omega) | (simp only; omega) | exact boolEq (by omega))
    · have hk : d = l.length := by omega
      rw [hk]
    · have hk : d = l.length := by omega
      simp [hk]
theorem markSpanS_ok (l : List (tSpan : Ty).den) (n : Int) (h0 : 0 ≤ n) (h1 : n ≤ 1152921504606846976) (hs : l.length ≤ 1073741824) : MutOK Try.prog 43 [none, none] [.obj (.arr 33 tSpan l), .rd ⟨I, n⟩] (.rd I (n + l.length * 2 : Int)) [.arr 33 tSpan (markL tSpan n l.length)] := by
  have hm : ∀ k, (markL tSpan n k ++ l.drop k).length = k + (l.length - k) := fun k => by rw [List.length_append, markL_len, List.length_drop]
  refine fun_ofM (tb := tb) follows Try.func43 (by kernel_rfl) Try.ntmps43 rfl rfl (by simp [shOK]) rfl ?_
  intro cx hN hw
  simp (disch := exact eqId (by kernel_rfl)) only [go_sem, ↓reduceIte, Nat.reduceAdd, Nat.reduceMul, Nat.reduceLT, Nat.reduceBEq, Nat.reduceLeDiff, Nat.reduceEqDiff, Int.reduceToNat]
  refine loop_intro (tb := tb) follows hN (D := Nat) (fun d => shp [(0, .own 0), (1, .rd I (n + d * 2 : Int)), (5, .rd I (d : Int))] [(0, .arr 33 tSpan (markL tSpan n d ++ l.drop d))]) (fun d => d ≤ l.length) (fun d => l.length - d) (0) ?_ (sub_shp hN [(0, some 0)] ?_) (fun d hd => ?_)
  · exact Nat.zero_le _
  · simp (disch := exact eqId (by kernel_rfl)) only [go_sem, ↓reduceIte, Nat.reduceAdd, Nat.reduceMul, Nat.reduceLT, Nat.reduceBEq, Nat.reduceLeDiff, Nat.reduceEqDiff, Int.reduceToNat]
    simp [markL]
  · simp (disch := exact eqId (by kernel_rfl)) only [go_sem, ↓reduceIte, Nat.reduceAdd, Nat.reduceMul, Nat.reduceLT, Nat.reduceBEq, Nat.reduceLeDiff, Nat.reduceEqDiff, Int.reduceToNat]
    rw [hm]
    repeat' (first | (refine And.intro ?_ ?_) | intro _)
    all_goals (try simp only [List.length_set, hm])
    all_goals (try omega)
    · have hk : d < l.length := by omega
      refine back_intro (d + 1) ?_ ?_ (sub_shp hN [(0, some 0)] ?_)
      · exact hk
      · omega
      · simp (disch := exact eqId (by kernel_rfl)) only [go_sem, ↓reduceIte, Nat.reduceAdd, Nat.reduceMul, Nat.reduceLT, Nat.reduceBEq, Nat.reduceLeDiff, Nat.reduceEqDiff, Int.reduceToNat]
        simp (disch := omega) only [wrap_i64, List.set_set, set_getD (show d < (markL tSpan n d ++ l.drop d).length by rw [hm]; omega)]
        rw [← set_mark hk]
        simp only [markF, cntF]
        refine ⟨congrArg _ ?_, I_eq (by omega), I_eq (by omega)⟩
        simp (disch := omega) only [wrap_i64]
        repeat' (first | refine Prod.ext ?_ ?_ | rfl | omega | exact I_eq (by omega) | (simp only; omega) | exact boolEq (by omega))
    · have hk : d = l.length := by omega
      rw [hk]
    · have hk : d = l.length := by omega
      simp [hk]
theorem markStampS_ok (l : List (tStamp : Ty).den) (n : Int) (h0 : 0 ≤ n) (h1 : n ≤ 1152921504606846976) (hs : l.length ≤ 1073741824) : MutOK Try.prog 199 [none, none] [.obj (.arr 195 tStamp l), .rd ⟨I, n⟩] (.rd I (n + l.length * 5 : Int)) [.arr 195 tStamp (markL tStamp n l.length)] := by
  have hm : ∀ k, (markL tStamp n k ++ l.drop k).length = k + (l.length - k) := fun k => by rw [List.length_append, markL_len, List.length_drop]
  refine fun_ofM (tb := tb) follows Try.func199 (by kernel_rfl) Try.ntmps199 rfl rfl (by simp [shOK]) rfl ?_
  intro cx hN hw
  simp (disch := exact eqId (by kernel_rfl)) only [go_sem, ↓reduceIte, Nat.reduceAdd, Nat.reduceMul, Nat.reduceLT, Nat.reduceBEq, Nat.reduceLeDiff, Nat.reduceEqDiff, Int.reduceToNat]
  refine loop_intro (tb := tb) follows hN (D := Nat) (fun d => shp [(0, .own 0), (1, .rd I (n + d * 5 : Int)), (5, .rd I (d : Int))] [(0, .arr 195 tStamp (markL tStamp n d ++ l.drop d))]) (fun d => d ≤ l.length) (fun d => l.length - d) (0) ?_ (sub_shp hN [(0, some 0)] ?_) (fun d hd => ?_)
  · exact Nat.zero_le _
  · simp (disch := exact eqId (by kernel_rfl)) only [go_sem, ↓reduceIte, Nat.reduceAdd, Nat.reduceMul, Nat.reduceLT, Nat.reduceBEq, Nat.reduceLeDiff, Nat.reduceEqDiff, Int.reduceToNat]
    simp [markL]
  · simp (disch := exact eqId (by kernel_rfl)) only [go_sem, ↓reduceIte, Nat.reduceAdd, Nat.reduceMul, Nat.reduceLT, Nat.reduceBEq, Nat.reduceLeDiff, Nat.reduceEqDiff, Int.reduceToNat]
    rw [hm]
    repeat' (first | (refine And.intro ?_ ?_) | intro _)
    all_goals (try simp only [List.length_set, hm])
    all_goals (try omega)
    · have hk : d < l.length := by omega
      refine back_intro (d + 1) ?_ ?_ (sub_shp hN [(0, some 0)] ?_)
      · exact hk
      · omega
      · simp (disch := exact eqId (by kernel_rfl)) only [go_sem, ↓reduceIte, Nat.reduceAdd, Nat.reduceMul, Nat.reduceLT, Nat.reduceBEq, Nat.reduceLeDiff, Nat.reduceEqDiff, Int.reduceToNat]
        simp (disch := omega) only [wrap_i64, List.set_set, set_getD (show d < (markL tStamp n d ++ l.drop d).length by rw [hm]; omega)]
        rw [← set_mark hk]
        simp only [markF, cntF]
        refine ⟨congrArg _ ?_, I_eq (by omega), I_eq (by omega)⟩
        simp (disch := omega) only [wrap_i64]
        repeat' (first | refine Prod.ext ?_ ?_ | rfl | omega | exact I_eq (by omega) | (simp only; omega) | exact boolEq (by omega))
    · have hk : d = l.length := by omega
      rw [hk]
    · have hk : d = l.length := by omega
      simp [hk]
theorem markStatusS_ok (l : List (tStatus : Ty).den) (n : Int) (h0 : 0 ≤ n) (h1 : n ≤ 1152921504606846976) (hs : l.length ≤ 1073741824) : MutOK Try.prog 42 [none, none] [.obj (.arr 170 tStatus l), .rd ⟨I, n⟩] (.rd I (n + l.length * 5 : Int)) [.arr 170 tStatus (markL tStatus n l.length)] := by
  have hm : ∀ k, (markL tStatus n k ++ l.drop k).length = k + (l.length - k) := fun k => by rw [List.length_append, markL_len, List.length_drop]
  refine fun_ofM (tb := tb) follows Try.func42 (by kernel_rfl) Try.ntmps42 rfl rfl (by simp [shOK]) rfl ?_
  intro cx hN hw
  simp (disch := exact eqId (by kernel_rfl)) only [go_sem, ↓reduceIte, Nat.reduceAdd, Nat.reduceMul, Nat.reduceLT, Nat.reduceBEq, Nat.reduceLeDiff, Nat.reduceEqDiff, Int.reduceToNat]
  refine loop_intro (tb := tb) follows hN (D := Nat) (fun d => shp [(0, .own 0), (1, .rd I (n + d * 5 : Int)), (5, .rd I (d : Int))] [(0, .arr 170 tStatus (markL tStatus n d ++ l.drop d))]) (fun d => d ≤ l.length) (fun d => l.length - d) (0) ?_ (sub_shp hN [(0, some 0)] ?_) (fun d hd => ?_)
  · exact Nat.zero_le _
  · simp (disch := exact eqId (by kernel_rfl)) only [go_sem, ↓reduceIte, Nat.reduceAdd, Nat.reduceMul, Nat.reduceLT, Nat.reduceBEq, Nat.reduceLeDiff, Nat.reduceEqDiff, Int.reduceToNat]
    simp [markL]
  · simp (disch := exact eqId (by kernel_rfl)) only [go_sem, ↓reduceIte, Nat.reduceAdd, Nat.reduceMul, Nat.reduceLT, Nat.reduceBEq, Nat.reduceLeDiff, Nat.reduceEqDiff, Int.reduceToNat]
    rw [hm]
    repeat' (first | (refine And.intro ?_ ?_) | intro _)
    all_goals (try simp only [List.length_set, hm])
    all_goals (try omega)
    · have hk : d < l.length := by omega
      refine back_intro (d + 1) ?_ ?_ (sub_shp hN [(0, some 0)] ?_)
      · exact hk
      · omega
      · simp (disch := exact eqId (by kernel_rfl)) only [go_sem, ↓reduceIte, Nat.reduceAdd, Nat.reduceMul, Nat.reduceLT, Nat.reduceBEq, Nat.reduceLeDiff, Nat.reduceEqDiff, Int.reduceToNat]
        simp (disch := omega) only [wrap_i64, List.set_set, set_getD (show d < (markL tStatus n d ++ l.drop d).length by rw [hm]; omega)]
        rw [← set_mark hk]
        simp only [markF, cntF]
        refine ⟨congrArg _ ?_, I_eq (by omega), I_eq (by omega)⟩
        simp (disch := omega) only [wrap_i64]
        repeat' (first | refine Prod.ext ?_ ?_ | rfl | omega | exact I_eq (by omega) | (simp only; omega) | exact boolEq (by omega))
    · have hk : d = l.length := by omega
      rw [hk]
    · have hk : d = l.length := by omega
      simp [hk]
theorem markSuccessionS_ok (l : List (tSuccession : Ty).den) (n : Int) (h0 : 0 ≤ n) (h1 : n ≤ 1152921504606846976) (hs : l.length ≤ 1073741824) : MutOK Try.prog 51 [none, none] [.obj (.arr 179 tSuccession l), .rd ⟨I, n⟩] (.rd I (n + l.length * 4 : Int)) [.arr 179 tSuccession (markL tSuccession n l.length)] := by
  have hm : ∀ k, (markL tSuccession n k ++ l.drop k).length = k + (l.length - k) := fun k => by rw [List.length_append, markL_len, List.length_drop]
  refine fun_ofM (tb := tb) follows Try.func51 (by kernel_rfl) Try.ntmps51 rfl rfl (by simp [shOK]) rfl ?_
  intro cx hN hw
  simp (disch := exact eqId (by kernel_rfl)) only [go_sem, ↓reduceIte, Nat.reduceAdd, Nat.reduceMul, Nat.reduceLT, Nat.reduceBEq, Nat.reduceLeDiff, Nat.reduceEqDiff, Int.reduceToNat]
  refine loop_intro (tb := tb) follows hN (D := Nat) (fun d => shp [(0, .own 0), (1, .rd I (n + d * 4 : Int)), (5, .rd I (d : Int))] [(0, .arr 179 tSuccession (markL tSuccession n d ++ l.drop d))]) (fun d => d ≤ l.length) (fun d => l.length - d) (0) ?_ (sub_shp hN [(0, some 0)] ?_) (fun d hd => ?_)
  · exact Nat.zero_le _
  · simp (disch := exact eqId (by kernel_rfl)) only [go_sem, ↓reduceIte, Nat.reduceAdd, Nat.reduceMul, Nat.reduceLT, Nat.reduceBEq, Nat.reduceLeDiff, Nat.reduceEqDiff, Int.reduceToNat]
    simp [markL]
  · simp (disch := exact eqId (by kernel_rfl)) only [go_sem, ↓reduceIte, Nat.reduceAdd, Nat.reduceMul, Nat.reduceLT, Nat.reduceBEq, Nat.reduceLeDiff, Nat.reduceEqDiff, Int.reduceToNat]
    rw [hm]
    repeat' (first | (refine And.intro ?_ ?_) | intro _)
    all_goals (try simp only [List.length_set, hm])
    all_goals (try omega)
    · have hk : d < l.length := by omega
      refine back_intro (d + 1) ?_ ?_ (sub_shp hN [(0, some 0)] ?_)
      · exact hk
      · omega
      · simp (disch := exact eqId (by kernel_rfl)) only [go_sem, ↓reduceIte, Nat.reduceAdd, Nat.reduceMul, Nat.reduceLT, Nat.reduceBEq, Nat.reduceLeDiff, Nat.reduceEqDiff, Int.reduceToNat]
        simp (disch := omega) only [wrap_i64, List.set_set, set_getD (show d < (markL tSuccession n d ++ l.drop d).length by rw [hm]; omega)]
        rw [← set_mark hk]
        simp only [markF, cntF]
        refine ⟨congrArg _ ?_, I_eq (by omega), I_eq (by omega)⟩
        simp (disch := omega) only [wrap_i64]
        repeat' (first | refine Prod.ext ?_ ?_ | rfl | omega | exact I_eq (by omega) | (simp only; omega) | exact boolEq (by omega))
    · have hk : d = l.length := by omega
      rw [hk]
    · have hk : d = l.length := by omega
      simp [hk]
theorem markKeyS_ok (l : List (tKey : Ty).den) (n : Int) (h0 : 0 ≤ n) (h1 : n ≤ 1152921504606846976) (hs : l.length ≤ 1073741824) : MutOK Try.prog 50 [none, none] [.obj (.arr 175 tKey l), .rd ⟨I, n⟩] (.rd I (n + l.length * 5 : Int)) [.arr 175 tKey (markL tKey n l.length)] := by
  have hm : ∀ k, (markL tKey n k ++ l.drop k).length = k + (l.length - k) := fun k => by rw [List.length_append, markL_len, List.length_drop]
  refine fun_ofM (tb := tb) follows Try.func50 (by kernel_rfl) Try.ntmps50 rfl rfl (by simp [shOK]) rfl ?_
  intro cx hN hw
  simp (disch := exact eqId (by kernel_rfl)) only [go_sem, ↓reduceIte, Nat.reduceAdd, Nat.reduceMul, Nat.reduceLT, Nat.reduceBEq, Nat.reduceLeDiff, Nat.reduceEqDiff, Int.reduceToNat]
  refine loop_intro (tb := tb) follows hN (D := Nat) (fun d => shp [(0, .own 0), (1, .rd I (n + d * 5 : Int)), (5, .rd I (d : Int))] [(0, .arr 175 tKey (markL tKey n d ++ l.drop d))]) (fun d => d ≤ l.length) (fun d => l.length - d) (0) ?_ (sub_shp hN [(0, some 0)] ?_) (fun d hd => ?_)
  · exact Nat.zero_le _
  · simp (disch := exact eqId (by kernel_rfl)) only [go_sem, ↓reduceIte, Nat.reduceAdd, Nat.reduceMul, Nat.reduceLT, Nat.reduceBEq, Nat.reduceLeDiff, Nat.reduceEqDiff, Int.reduceToNat]
    simp [markL]
  · simp (disch := exact eqId (by kernel_rfl)) only [go_sem, ↓reduceIte, Nat.reduceAdd, Nat.reduceMul, Nat.reduceLT, Nat.reduceBEq, Nat.reduceLeDiff, Nat.reduceEqDiff, Int.reduceToNat]
    rw [hm]
    repeat' (first | (refine And.intro ?_ ?_) | intro _)
    all_goals (try simp only [List.length_set, hm])
    all_goals (try omega)
    · have hk : d < l.length := by omega
      refine back_intro (d + 1) ?_ ?_ (sub_shp hN [(0, some 0)] ?_)
      · exact hk
      · omega
      · simp (disch := exact eqId (by kernel_rfl)) only [go_sem, ↓reduceIte, Nat.reduceAdd, Nat.reduceMul, Nat.reduceLT, Nat.reduceBEq, Nat.reduceLeDiff, Nat.reduceEqDiff, Int.reduceToNat]
        simp (disch := omega) only [wrap_i64, List.set_set, set_getD (show d < (markL tKey n d ++ l.drop d).length by rw [hm]; omega)]
        rw [← set_mark hk]
        simp only [markF, cntF]
        refine ⟨congrArg _ ?_, I_eq (by omega), I_eq (by omega)⟩
        simp (disch := omega) only [wrap_i64]
        repeat' (first | refine Prod.ext ?_ ?_ | rfl | omega | exact I_eq (by omega) | (simp only; omega) | exact boolEq (by omega))
    · have hk : d = l.length := by omega
      rw [hk]
    · have hk : d = l.length := by omega
      simp [hk]
theorem markStepS_ok (l : List (tStep : Ty).den) (n : Int) (h0 : 0 ≤ n) (h1 : n ≤ 1152921504606846976) (hs : l.length ≤ 1073741824) : MutOK Try.prog 198 [none, none] [.obj (.arr 264 tStep l), .rd ⟨I, n⟩] (.rd I (n + l.length * 2 : Int)) [.arr 264 tStep (markL tStep n l.length)] := by
  have hm : ∀ k, (markL tStep n k ++ l.drop k).length = k + (l.length - k) := fun k => by rw [List.length_append, markL_len, List.length_drop]
  refine fun_ofM (tb := tb) follows Try.func198 (by kernel_rfl) Try.ntmps198 rfl rfl (by simp [shOK]) rfl ?_
  intro cx hN hw
  simp (disch := exact eqId (by kernel_rfl)) only [go_sem, ↓reduceIte, Nat.reduceAdd, Nat.reduceMul, Nat.reduceLT, Nat.reduceBEq, Nat.reduceLeDiff, Nat.reduceEqDiff, Int.reduceToNat]
  refine loop_intro (tb := tb) follows hN (D := Nat) (fun d => shp [(0, .own 0), (1, .rd I (n + d * 2 : Int)), (5, .rd I (d : Int))] [(0, .arr 264 tStep (markL tStep n d ++ l.drop d))]) (fun d => d ≤ l.length) (fun d => l.length - d) (0) ?_ (sub_shp hN [(0, some 0)] ?_) (fun d hd => ?_)
  · exact Nat.zero_le _
  · simp (disch := exact eqId (by kernel_rfl)) only [go_sem, ↓reduceIte, Nat.reduceAdd, Nat.reduceMul, Nat.reduceLT, Nat.reduceBEq, Nat.reduceLeDiff, Nat.reduceEqDiff, Int.reduceToNat]
    simp [markL]
  · simp (disch := exact eqId (by kernel_rfl)) only [go_sem, ↓reduceIte, Nat.reduceAdd, Nat.reduceMul, Nat.reduceLT, Nat.reduceBEq, Nat.reduceLeDiff, Nat.reduceEqDiff, Int.reduceToNat]
    rw [hm]
    repeat' (first | (refine And.intro ?_ ?_) | intro _)
    all_goals (try simp only [List.length_set, hm])
    all_goals (try omega)
    · have hk : d < l.length := by omega
      refine back_intro (d + 1) ?_ ?_ (sub_shp hN [(0, some 0)] ?_)
      · exact hk
      · omega
      · simp (disch := exact eqId (by kernel_rfl)) only [go_sem, ↓reduceIte, Nat.reduceAdd, Nat.reduceMul, Nat.reduceLT, Nat.reduceBEq, Nat.reduceLeDiff, Nat.reduceEqDiff, Int.reduceToNat]
        simp (disch := omega) only [wrap_i64, List.set_set, set_getD (show d < (markL tStep n d ++ l.drop d).length by rw [hm]; omega)]
        rw [← set_mark hk]
        simp only [markF, cntF]
        refine ⟨congrArg _ ?_, I_eq (by omega), I_eq (by omega)⟩
        simp (disch := omega) only [wrap_i64]
        repeat' (first | refine Prod.ext ?_ ?_ | rfl | omega | exact I_eq (by omega) | (simp only; omega) | exact boolEq (by omega))
    · have hk : d = l.length := by omega
      rw [hk]
    · have hk : d = l.length := by omega
      simp [hk]
theorem heldIntS_ok (m : Nat) (n : Int) (h0 : 0 ≤ n) (h1 : n ≤ 1152921504606846976) (hs : m ≤ 1073741824) : FunOK Try.prog 53 [⟨(.list I), markL I n m⟩, ⟨I, n⟩] (.rd I (n + m * 1 : Int)) := by
  have hm := markL_len I m n
  refine fun_of (tb := tb) follows Try.func53 (by kernel_rfl) Try.ntmps53 rfl rfl rfl ?_
  intro cx hN hw
  simp (disch := exact eqId (by kernel_rfl)) only [go_sem, ↓reduceIte, Nat.reduceAdd, Nat.reduceMul, Nat.reduceLT, Nat.reduceBEq, Nat.reduceLeDiff, Nat.reduceEqDiff, Int.reduceToNat]
  refine loop_intro (tb := tb) follows hN (D := Nat) (fun d => shp [(0, .rd (.list I) (markL I n m)), (1, .rd I (n + d * 1 : Int)), (5, .rd I (d : Int))] []) (fun d => d ≤ m) (fun d => m - d) (0) ?_ (sub_shp hN [] ?_) (fun d hd => ?_)
  · exact Nat.zero_le _
  · simp (disch := exact eqId (by kernel_rfl)) only [go_sem, ↓reduceIte, Nat.reduceAdd, Nat.reduceMul, Nat.reduceLT, Nat.reduceBEq, Nat.reduceLeDiff, Nat.reduceEqDiff, Int.reduceToNat]
    simp
  · simp (disch := exact eqId (by kernel_rfl)) only [go_sem, ↓reduceIte, Nat.reduceAdd, Nat.reduceMul, Nat.reduceLT, Nat.reduceBEq, Nat.reduceLeDiff, Nat.reduceEqDiff, Int.reduceToNat]
    rw [hm]
    rcases Nat.lt_or_ge d m with hk | hk
    · rw [markL_get I _ m n d hk]
      simp only [markF, cntF]
      simp (disch := omega) only [wrap_i64]
      repeat' (first | (refine And.intro ?_ ?_) | intro _)
      all_goals (try omega)
      all_goals (try (exfalso; rename_i hx; exact hx boolEq'))
      all_goals (try (rename_i hx; exact absurd (boolEq (by omega)).symm hx))
      · refine back_intro (d + 1) ?_ ?_ (sub_shp hN [] ?_)
        · exact hk
        · omega
        · simp (disch := exact eqId (by kernel_rfl)) only [go_sem, ↓reduceIte, Nat.reduceAdd, Nat.reduceMul, Nat.reduceLT, Nat.reduceBEq, Nat.reduceLeDiff, Nat.reduceEqDiff, Int.reduceToNat]
          try simp (disch := omega) only [wrap_i64]
          exact ⟨I_eq (by omega), I_eq (by omega)⟩
    · repeat' (first | (refine And.intro ?_ ?_) | intro _)
      all_goals first | omega | exact I_eq (by omega)
theorem heldSpanS_ok (m : Nat) (n : Int) (h0 : 0 ≤ n) (h1 : n ≤ 1152921504606846976) (hs : m ≤ 1073741824) : FunOK Try.prog 44 [⟨(.list tSpan), markL tSpan n m⟩, ⟨I, n⟩] (.rd I (n + m * 2 : Int)) := by
  have hm := markL_len tSpan m n
  refine fun_of (tb := tb) follows Try.func44 (by kernel_rfl) Try.ntmps44 rfl rfl rfl ?_
  intro cx hN hw
  simp (disch := exact eqId (by kernel_rfl)) only [go_sem, ↓reduceIte, Nat.reduceAdd, Nat.reduceMul, Nat.reduceLT, Nat.reduceBEq, Nat.reduceLeDiff, Nat.reduceEqDiff, Int.reduceToNat]
  refine loop_intro (tb := tb) follows hN (D := Nat) (fun d => shp [(0, .rd (.list tSpan) (markL tSpan n m)), (1, .rd I (n + d * 2 : Int)), (5, .rd I (d : Int))] []) (fun d => d ≤ m) (fun d => m - d) (0) ?_ (sub_shp hN [] ?_) (fun d hd => ?_)
  · exact Nat.zero_le _
  · simp (disch := exact eqId (by kernel_rfl)) only [go_sem, ↓reduceIte, Nat.reduceAdd, Nat.reduceMul, Nat.reduceLT, Nat.reduceBEq, Nat.reduceLeDiff, Nat.reduceEqDiff, Int.reduceToNat]
    simp
  · simp (disch := exact eqId (by kernel_rfl)) only [go_sem, ↓reduceIte, Nat.reduceAdd, Nat.reduceMul, Nat.reduceLT, Nat.reduceBEq, Nat.reduceLeDiff, Nat.reduceEqDiff, Int.reduceToNat]
    rw [hm]
    rcases Nat.lt_or_ge d m with hk | hk
    · rw [markL_get tSpan _ m n d hk]
      simp only [markF, cntF]
      simp (disch := omega) only [wrap_i64]
      repeat' (first | (refine And.intro ?_ ?_) | intro _)
      all_goals (try omega)
      all_goals (try (exfalso; rename_i hx; exact hx boolEq'))
      all_goals (try (rename_i hx; exact absurd (boolEq (by omega)).symm hx))
      · refine back_intro (d + 1) ?_ ?_ (sub_shp hN [] ?_)
        · exact hk
        · omega
        · simp (disch := exact eqId (by kernel_rfl)) only [go_sem, ↓reduceIte, Nat.reduceAdd, Nat.reduceMul, Nat.reduceLT, Nat.reduceBEq, Nat.reduceLeDiff, Nat.reduceEqDiff, Int.reduceToNat]
          try simp (disch := omega) only [wrap_i64]
          exact ⟨I_eq (by omega), I_eq (by omega)⟩
    · repeat' (first | (refine And.intro ?_ ?_) | intro _)
      all_goals first | omega | exact I_eq (by omega)
theorem heldStampS_ok (m : Nat) (n : Int) (h0 : 0 ≤ n) (h1 : n ≤ 1152921504606846976) (hs : m ≤ 1073741824) : FunOK Try.prog 269 [⟨(.list tStamp), markL tStamp n m⟩, ⟨I, n⟩] (.rd I (n + m * 5 : Int)) := by
  have hm := markL_len tStamp m n
  refine fun_of (tb := tb) follows Try.func269 (by kernel_rfl) Try.ntmps269 rfl rfl rfl ?_
  intro cx hN hw
  simp (disch := exact eqId (by kernel_rfl)) only [go_sem, ↓reduceIte, Nat.reduceAdd, Nat.reduceMul, Nat.reduceLT, Nat.reduceBEq, Nat.reduceLeDiff, Nat.reduceEqDiff, Int.reduceToNat]
  refine loop_intro (tb := tb) follows hN (D := Nat) (fun d => shp [(0, .rd (.list tStamp) (markL tStamp n m)), (1, .rd I (n + d * 5 : Int)), (5, .rd I (d : Int))] []) (fun d => d ≤ m) (fun d => m - d) (0) ?_ (sub_shp hN [] ?_) (fun d hd => ?_)
  · exact Nat.zero_le _
  · simp (disch := exact eqId (by kernel_rfl)) only [go_sem, ↓reduceIte, Nat.reduceAdd, Nat.reduceMul, Nat.reduceLT, Nat.reduceBEq, Nat.reduceLeDiff, Nat.reduceEqDiff, Int.reduceToNat]
    simp
  · simp (disch := exact eqId (by kernel_rfl)) only [go_sem, ↓reduceIte, Nat.reduceAdd, Nat.reduceMul, Nat.reduceLT, Nat.reduceBEq, Nat.reduceLeDiff, Nat.reduceEqDiff, Int.reduceToNat]
    rw [hm]
    rcases Nat.lt_or_ge d m with hk | hk
    · rw [markL_get tStamp _ m n d hk]
      simp only [markF, cntF]
      simp (disch := omega) only [wrap_i64]
      repeat' (first | (refine And.intro ?_ ?_) | intro _)
      all_goals (try omega)
      all_goals (try (exfalso; rename_i hx; exact hx boolEq'))
      all_goals (try (rename_i hx; exact absurd (boolEq (by omega)).symm hx))
      · refine back_intro (d + 1) ?_ ?_ (sub_shp hN [] ?_)
        · exact hk
        · omega
        · simp (disch := exact eqId (by kernel_rfl)) only [go_sem, ↓reduceIte, Nat.reduceAdd, Nat.reduceMul, Nat.reduceLT, Nat.reduceBEq, Nat.reduceLeDiff, Nat.reduceEqDiff, Int.reduceToNat]
          try simp (disch := omega) only [wrap_i64]
          exact ⟨I_eq (by omega), I_eq (by omega)⟩
    · repeat' (first | (refine And.intro ?_ ?_) | intro _)
      all_goals first | omega | exact I_eq (by omega)
theorem heldStepS_ok (m : Nat) (n : Int) (h0 : 0 ≤ n) (h1 : n ≤ 1152921504606846976) (hs : m ≤ 1073741824) : FunOK Try.prog 268 [⟨(.list tStep), markL tStep n m⟩, ⟨I, n⟩] (.rd I (n + m * 2 : Int)) := by
  have hm := markL_len tStep m n
  refine fun_of (tb := tb) follows Try.func268 (by kernel_rfl) Try.ntmps268 rfl rfl rfl ?_
  intro cx hN hw
  simp (disch := exact eqId (by kernel_rfl)) only [go_sem, ↓reduceIte, Nat.reduceAdd, Nat.reduceMul, Nat.reduceLT, Nat.reduceBEq, Nat.reduceLeDiff, Nat.reduceEqDiff, Int.reduceToNat]
  refine loop_intro (tb := tb) follows hN (D := Nat) (fun d => shp [(0, .rd (.list tStep) (markL tStep n m)), (1, .rd I (n + d * 2 : Int)), (5, .rd I (d : Int))] []) (fun d => d ≤ m) (fun d => m - d) (0) ?_ (sub_shp hN [] ?_) (fun d hd => ?_)
  · exact Nat.zero_le _
  · simp (disch := exact eqId (by kernel_rfl)) only [go_sem, ↓reduceIte, Nat.reduceAdd, Nat.reduceMul, Nat.reduceLT, Nat.reduceBEq, Nat.reduceLeDiff, Nat.reduceEqDiff, Int.reduceToNat]
    simp
  · simp (disch := exact eqId (by kernel_rfl)) only [go_sem, ↓reduceIte, Nat.reduceAdd, Nat.reduceMul, Nat.reduceLT, Nat.reduceBEq, Nat.reduceLeDiff, Nat.reduceEqDiff, Int.reduceToNat]
    rw [hm]
    rcases Nat.lt_or_ge d m with hk | hk
    · rw [markL_get tStep _ m n d hk]
      simp only [markF, cntF]
      simp (disch := omega) only [wrap_i64]
      repeat' (first | (refine And.intro ?_ ?_) | intro _)
      all_goals (try omega)
      all_goals (try (exfalso; rename_i hx; exact hx boolEq'))
      all_goals (try (rename_i hx; exact absurd (boolEq (by omega)).symm hx))
      · refine back_intro (d + 1) ?_ ?_ (sub_shp hN [] ?_)
        · exact hk
        · omega
        · simp (disch := exact eqId (by kernel_rfl)) only [go_sem, ↓reduceIte, Nat.reduceAdd, Nat.reduceMul, Nat.reduceLT, Nat.reduceBEq, Nat.reduceLeDiff, Nat.reduceEqDiff, Int.reduceToNat]
          try simp (disch := omega) only [wrap_i64]
          exact ⟨I_eq (by omega), I_eq (by omega)⟩
    · repeat' (first | (refine And.intro ?_ ?_) | intro _)
      all_goals first | omega | exact I_eq (by omega)
end Go.Proofs.Ytkneckknjmahdaa
