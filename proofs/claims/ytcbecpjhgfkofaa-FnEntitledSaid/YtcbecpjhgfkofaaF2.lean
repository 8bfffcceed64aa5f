/- What the functions of numbers, digests, trees and pieces answer, on both sides. It proves nothing of a statement by itself. -/
import Derived.Test.YtcbecpjhgfkofaaG
set_option linter.unusedSimpArgs false
set_option linter.unusedVariables false
set_option maxRecDepth 100000
namespace Go.Proofs.Ytcbecpjhgfkofaa
open Go.AL
def modF (n m : Int) : Int := if 1 ≤ m ∧ m ≤ 1000000000000 then (IntKind.i64.wrap (n.tmod m + m)).tmod m else 0
def hashStep (h v : Int) : Int := (IntKind.i64.wrap (IntKind.i64.wrap (IntKind.i64.wrap (h * 1000003) + modF v 2147483647) + 13)).tmod 2147483647
def hashF (l : List Int) : Int := l.foldl hashStep 11
def digF (m : Int) (l : List Int) : Int := hashF (7 :: m :: l)
def pairF (m a b : Int) : Int := digF m [1, a, b]
theorem l1In_ok (a b c : Int) : FunOK Try.prog 50 [⟨I, a⟩, ⟨I, b⟩, ⟨I, c⟩] (.rd .bool (decide (b ≤ a) && decide (a ≤ c))) := by
  refine fun_of (tb := tb) follows Try.func50 (by kernel_rfl) Try.ntmps50 rfl rfl rfl ?_
  intro cx hN hw
  simp (disch := exact eqId (by kernel_rfl)) only [go_sem, ↓reduceIte, Nat.reduceAdd, Nat.reduceMul, Nat.reduceLT, Nat.reduceBEq, Nat.reduceLeDiff, Nat.reduceEqDiff, Int.reduceToNat, ge_iff_le]
theorem inRange_ok (a b c : Int) : FunOK Try.prog 25 [⟨I, a⟩, ⟨I, b⟩, ⟨I, c⟩] (.rd .bool (decide (b ≤ a) && decide (a ≤ c))) := by
  refine fun_of (tb := tb) follows Try.func25 (by kernel_rfl) Try.ntmps25 rfl rfl rfl ?_
  intro cx hN hw
  simp (disch := exact eqId (by kernel_rfl)) only [go_sem, ↓reduceIte, Nat.reduceAdd, Nat.reduceMul, Nat.reduceLT, Nat.reduceBEq, Nat.reduceLeDiff, Nat.reduceEqDiff, Int.reduceToNat]
theorem spec_Mod_ok (n m : Int) : FunOK Try.prog 56 [⟨I, n⟩, ⟨I, m⟩] (.rd I (modF n m)) := by
  refine fun_of (tb := tb) follows Try.func56 (by kernel_rfl) Try.ntmps56 rfl rfl rfl ?_
  intro cx hN hw
  simp (disch := exact eqId (by kernel_rfl)) only [go_sem, ↓reduceIte, Nat.reduceAdd, Nat.reduceMul, Nat.reduceLT, Nat.reduceBEq, Nat.reduceLeDiff, Nat.reduceEqDiff, Int.reduceToNat]
  repeat' (first | (refine And.intro ?_ ?_) | intro _ | (refine callQ_intro (l1In_ok _ _ _) ?_; try (simp (disch := exact eqId (by kernel_rfl)) only [go_sem, ↓reduceIte, Nat.reduceAdd, Nat.reduceMul, Nat.reduceLT, Nat.reduceBEq, Nat.reduceLeDiff, Nat.reduceEqDiff, Int.reduceToNat])) | (refine callH_intro (fun hcc => l1In_ok _ _ _) ?_; try (simp (disch := exact eqId (by kernel_rfl)) only [go_sem, ↓reduceIte, Nat.reduceAdd, Nat.reduceMul, Nat.reduceLT, Nat.reduceBEq, Nat.reduceLeDiff, Nat.reduceEqDiff, Int.reduceToNat])))
  all_goals simp_all [modF]
  all_goals omega
theorem spec_Hash_ok (l : List Int) : FunOK Try.prog 55 [⟨(.list I), l⟩] (.rd I (hashF l)) := by
  refine fun_of (tb := tb) follows Try.func55 (by kernel_rfl) Try.ntmps55 rfl rfl rfl ?_
  intro cx hN hw
  simp (disch := exact eqId (by kernel_rfl)) only [go_sem, ↓reduceIte, Nat.reduceAdd, Nat.reduceMul, Nat.reduceLT, Nat.reduceBEq, Nat.reduceLeDiff, Nat.reduceEqDiff, Int.reduceToNat]
  refine loop_intro (tb := tb) follows hN (D := Nat × Int) (fun d => shp [(0, .rd (.list I) (l)), (3, .rd I d.2), (4, .rd I (d.1 : Int))] []) (fun d => d.1 ≤ l.length ∧ hashF l = (l.drop d.1).foldl hashStep d.2) (fun d => l.length - d.1) (0, 11) ?_ (sub_shp hN [] ?_) (fun d hd => ?_)
  · exact ⟨Nat.zero_le _, rfl⟩
  · simp (disch := exact eqId (by kernel_rfl)) only [go_sem, ↓reduceIte, Nat.reduceAdd, Nat.reduceMul, Nat.reduceLT, Nat.reduceBEq, Nat.reduceLeDiff, Nat.reduceEqDiff, Int.reduceToNat]
    rfl
  · obtain ⟨k, h⟩ := d
    obtain ⟨h1, h2⟩ := hd
    simp (disch := exact eqId (by kernel_rfl)) only [go_sem, ↓reduceIte, Nat.reduceAdd, Nat.reduceMul, Nat.reduceLT, Nat.reduceBEq, Nat.reduceLeDiff, Nat.reduceEqDiff, Int.reduceToNat]
    repeat' (first | (refine And.intro ?_ ?_) | intro _ | (refine callQ_intro (spec_Mod_ok _ _) ?_; try (simp (disch := exact eqId (by kernel_rfl)) only [go_sem, ↓reduceIte, Nat.reduceAdd, Nat.reduceMul, Nat.reduceLT, Nat.reduceBEq, Nat.reduceLeDiff, Nat.reduceEqDiff, Int.reduceToNat])) | (refine callH_intro (fun hcc => spec_Mod_ok _ _) ?_; try (simp (disch := exact eqId (by kernel_rfl)) only [go_sem, ↓reduceIte, Nat.reduceAdd, Nat.reduceMul, Nat.reduceLT, Nat.reduceBEq, Nat.reduceLeDiff, Nat.reduceEqDiff, Int.reduceToNat])))
    all_goals (try omega)
    · have hk : k < l.length := by omega
      simp only [drop_getD hk 0, List.foldl_cons] at h2
      refine back_intro (k + 1, hashStep h (l.getD k 0)) ?_ ?_ (sub_shp hN [] ?_)
      · exact ⟨hk, h2⟩
      · simp only; omega
      · simp (disch := exact eqId (by kernel_rfl)) only [go_sem, ↓reduceIte, Nat.reduceAdd, Nat.reduceMul, Nat.reduceLT, Nat.reduceBEq, Nat.reduceLeDiff, Nat.reduceEqDiff, Int.reduceToNat]
        exact ⟨rfl, wrap_succ hk hw.1.1⟩
    · have hk : l.length ≤ k := by omega
      simp only [drop_end hk] at h2
      exact h2.symm
end Go.Proofs.Ytcbecpjhgfkofaa
