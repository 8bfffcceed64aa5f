/- What the laws' own helpers answer: sizes. It proves nothing of a statement by itself. -/
import Derived.Test.YtaeieogcibhhkaaG
set_option linter.unusedSimpArgs false
set_option linter.unusedVariables false
set_option maxRecDepth 100000
namespace Go.Proofs.Ytaeieogcibhhkaa
open Go.AL
theorem szIntS_ok (l : List (I : Ty).den) (n : Int) (h0 : 0 ≤ n) (h1 : n ≤ 1048576) : FunOK Try.prog 112 [⟨(.list I), l⟩, ⟨I, n⟩] (.rd I (szD (.list I) l n)) := by
  refine fun_of (tb := tb) follows Try.func112 (by kernel_rfl) Try.ntmps112 rfl rfl rfl ?_
  intro cx hN hw
  have hl : l.length ≤ maxLen := hw.1.1
  have hm : maxLen = 9223372036854775807 := rfl
  have e : IntKind.i64.wrap (n - (l.length : Int)) = n - l.length := wrap_i64 (by omega) (by omega)
  simp (disch := exact eqId (by kernel_rfl)) only [go_sem, ↓reduceIte, Nat.reduceAdd, Nat.reduceMul, Nat.reduceLT, Nat.reduceBEq, Nat.reduceLeDiff, Nat.reduceEqDiff]
  rw [e, szD_flat I rfl l n]
  repeat' (first | (refine And.intro ?_ ?_) | intro _)
  · rw [if_pos (by omega)]
  · rw [if_neg (by omega)]
theorem szStampS_ok (l : List (tStamp : Ty).den) (n : Int) (h0 : 0 ≤ n) (h1 : n ≤ 1048576) : FunOK Try.prog 126 [⟨(.list tStamp), l⟩, ⟨I, n⟩] (.rd I (szD (.list tStamp) l n)) := by
  refine fun_of (tb := tb) follows Try.func126 (by kernel_rfl) Try.ntmps126 rfl rfl rfl ?_
  intro cx hN hw
  have hl : l.length ≤ maxLen := hw.1.1
  have hm : maxLen = 9223372036854775807 := rfl
  have e : IntKind.i64.wrap (n - (l.length : Int)) = n - l.length := wrap_i64 (by omega) (by omega)
  simp (disch := exact eqId (by kernel_rfl)) only [go_sem, ↓reduceIte, Nat.reduceAdd, Nat.reduceMul, Nat.reduceLT, Nat.reduceBEq, Nat.reduceLeDiff, Nat.reduceEqDiff]
  rw [e, szD_flat tStamp rfl l n]
  repeat' (first | (refine And.intro ?_ ?_) | intro _)
  · rw [if_pos (by omega)]
  · rw [if_neg (by omega)]
theorem szStepS_ok (l : List (tStep : Ty).den) (n : Int) (h0 : 0 ≤ n) (h1 : n ≤ 1048576) : FunOK Try.prog 60 [⟨(.list tStep), l⟩, ⟨I, n⟩] (.rd I (szD (.list tStep) l n)) := by
  refine fun_of (tb := tb) follows Try.func60 (by kernel_rfl) Try.ntmps60 rfl rfl rfl ?_
  intro cx hN hw
  have hl : l.length ≤ maxLen := hw.1.1
  have hm : maxLen = 9223372036854775807 := rfl
  have e : IntKind.i64.wrap (n - (l.length : Int)) = n - l.length := wrap_i64 (by omega) (by omega)
  simp (disch := exact eqId (by kernel_rfl)) only [go_sem, ↓reduceIte, Nat.reduceAdd, Nat.reduceMul, Nat.reduceLT, Nat.reduceBEq, Nat.reduceLeDiff, Nat.reduceEqDiff]
  rw [e, szD_flat tStep rfl l n]
  repeat' (first | (refine And.intro ?_ ?_) | intro _)
  · rw [if_pos (by omega)]
  · rw [if_neg (by omega)]
theorem szPiece_ok (a : tPiece.den) (n : Int) (h0 : 0 ≤ n) (h1 : n ≤ 1048576) : FunOK Try.prog 42 [⟨tPiece, a⟩, ⟨I, n⟩] (.rd I (szD tPiece a n)) := by
  obtain ⟨a0, a1, a2, _⟩ := a
  simp only [szD_cons, szD_int, szD_bool, szD_nil]
  rw [if_neg (show ¬ n < 0 by omega)]
  refine fun_of (tb := tb) follows Try.func42 (by kernel_rfl) Try.ntmps42 rfl rfl rfl ?_
  intro cx hN hw
  simp (disch := exact eqId (by kernel_rfl)) only [go_sem, ↓reduceIte, Nat.reduceAdd, Nat.reduceMul, Nat.reduceLT, Nat.reduceBEq, Nat.reduceLeDiff, Nat.reduceEqDiff]
  refine callQ_intro (szIntS_ok a1 _ (by omega) (by omega)) ?_
  have b1 := (szD_le (.list I) a1 (n) (by omega)).1
  simp (disch := exact eqId (by kernel_rfl)) only [go_sem, ↓reduceIte, Nat.reduceAdd, Nat.reduceMul, Nat.reduceLT, Nat.reduceBEq, Nat.reduceLeDiff, Nat.reduceEqDiff]
  refine ⟨fun h => ?_, fun h1 => ?_⟩
  · repeat' split
    all_goals first | rfl | omega
  repeat' split
  all_goals first | rfl | omega
theorem szPieceS_ok (l : List (tPiece : Ty).den) (n : Int) (h0 : 0 ≤ n) (h1 : n ≤ 1048576) : FunOK Try.prog 83 [⟨(.list tPiece), l⟩, ⟨I, n⟩] (.rd I (szD (.list tPiece) l n)) := by
  refine fun_of (tb := tb) follows Try.func83 (by kernel_rfl) Try.ntmps83 rfl rfl rfl ?_
  intro cx hN hw
  have hl : l.length ≤ maxLen := hw.1.1
  have hm : maxLen = 9223372036854775807 := rfl
  have e : IntKind.i64.wrap (n - (l.length : Int)) = n - l.length := wrap_i64 (by omega) (by omega)
  simp (disch := exact eqId (by kernel_rfl)) only [go_sem, ↓reduceIte, Nat.reduceAdd, Nat.reduceMul, Nat.reduceLT, Nat.reduceBEq, Nat.reduceLeDiff, Nat.reduceEqDiff]
  rw [e]
  refine ⟨fun hn => ?_, fun hn => ?_⟩
  · simp only [szD]; rw [if_pos hn]
  · refine loop_intro (tb := tb) follows hN (D := Nat × Int) (fun d => shp [(0, .rd (.list tPiece) (l)), (1, .rd I d.2), (5, .rd I (d.1 : Int))] []) (fun d => d.1 ≤ l.length ∧ 0 ≤ d.2 ∧ d.2 ≤ n ∧ szD (.list tPiece) l n = szLoop (szD tPiece) (l.drop d.1) d.2) (fun d => l.length - d.1) (0, n - l.length) ?_ (sub_shp hN [] ?_) (fun d hd => ?_)
    · refine ⟨Nat.zero_le _, by omega, by omega, ?_⟩
      simp only [szD]; rw [if_neg hn]; rfl
    · simp (disch := exact eqId (by kernel_rfl)) only [go_sem, ↓reduceIte, Nat.reduceAdd, Nat.reduceMul, Nat.reduceLT, Nat.reduceBEq, Nat.reduceLeDiff, Nat.reduceEqDiff]
      first | trivial | (exact ⟨rfl, rfl⟩) | rfl
    · obtain ⟨h2, h3, h4, h5⟩ := hd
      simp (disch := exact eqId (by kernel_rfl)) only [go_sem, ↓reduceIte, Nat.reduceAdd, Nat.reduceMul, Nat.reduceLT, Nat.reduceBEq, Nat.reduceLeDiff, Nat.reduceEqDiff]
      repeat' (first | (refine And.intro ?_ ?_) | intro _ | (refine callQ_intro (szPiece_ok _ _ (by omega) (by omega)) ?_; try (simp (disch := exact eqId (by kernel_rfl)) only [go_sem, ↓reduceIte, Nat.reduceAdd, Nat.reduceMul, Nat.reduceLT, Nat.reduceBEq, Nat.reduceLeDiff, Nat.reduceEqDiff])))
      all_goals (try omega)
      · rename_i hk hq
        have hk : d.1 < l.length := by omega
        rw [drop_getD hk ((0, [], 0, ()) : (tPiece : Ty).den), szLoop] at h5
        rw [if_pos hq] at h5
        exact h5.symm
      · rename_i hk hq
        have hk : d.1 < l.length := by omega
        rw [drop_getD hk ((0, [], 0, ()) : (tPiece : Ty).den), szLoop] at h5
        rw [if_neg hq] at h5
        have hb := (szD_le tPiece (l.getD d.1 ((0, [], 0, ()) : (tPiece : Ty).den)) d.2 h3).1
        refine back_intro (d.1 + 1, szD tPiece (l.getD d.1 ((0, [], 0, ()) : (tPiece : Ty).den)) d.2) ?_ ?_ (sub_shp hN [] ?_)
        · exact ⟨hk, by simp only; omega, by simp only; omega, h5⟩
        · simp only; omega
        · simp (disch := exact eqId (by kernel_rfl)) only [go_sem, ↓reduceIte, Nat.reduceAdd, Nat.reduceMul, Nat.reduceLT, Nat.reduceBEq, Nat.reduceLeDiff, Nat.reduceEqDiff]
          first | exact wrap_succ hk hl | exact ⟨rfl, wrap_succ hk hl⟩ | exact ⟨wrap_succ hk hl, rfl⟩
      · rw [drop_end (by omega)] at h5
        exact h5.symm
theorem szRenewal_ok (a : tRenewal.den) (n : Int) (h0 : 0 ≤ n) (h1 : n ≤ 1048576) : FunOK Try.prog 94 [⟨tRenewal, a⟩, ⟨I, n⟩] (.rd I (szD tRenewal a n)) := by
  obtain ⟨a0, a1, a2, a3, a4, _⟩ := a
  simp only [szD_cons, szD_int, szD_bool, szD_nil]
  rw [if_neg (show ¬ n < 0 by omega)]
  refine fun_of (tb := tb) follows Try.func94 (by kernel_rfl) Try.ntmps94 rfl rfl rfl ?_
  intro cx hN hw
  simp (disch := exact eqId (by kernel_rfl)) only [go_sem, ↓reduceIte, Nat.reduceAdd, Nat.reduceMul, Nat.reduceLT, Nat.reduceBEq, Nat.reduceLeDiff, Nat.reduceEqDiff]
  refine callQ_intro (szStepS_ok a3 _ (by omega) (by omega)) ?_
  have b3 := (szD_le (.list tStep) a3 (n) (by omega)).1
  simp (disch := exact eqId (by kernel_rfl)) only [go_sem, ↓reduceIte, Nat.reduceAdd, Nat.reduceMul, Nat.reduceLT, Nat.reduceBEq, Nat.reduceLeDiff, Nat.reduceEqDiff]
  refine ⟨fun h => ?_, fun h3 => ?_⟩
  · repeat' split
    all_goals first | rfl | omega
  refine callQ_intro (szStampS_ok a4 _ (by omega) (by omega)) ?_
  have b4 := (szD_le (.list tStamp) a4 (szD (.list tStep) a3 (n)) (by omega)).1
  simp (disch := exact eqId (by kernel_rfl)) only [go_sem, ↓reduceIte, Nat.reduceAdd, Nat.reduceMul, Nat.reduceLT, Nat.reduceBEq, Nat.reduceLeDiff, Nat.reduceEqDiff]
  refine ⟨fun h => ?_, fun h4 => ?_⟩
  · repeat' split
    all_goals first | rfl | omega
  repeat' split
  all_goals first | rfl | omega
end Go.Proofs.Ytaeieogcibhhkaa
