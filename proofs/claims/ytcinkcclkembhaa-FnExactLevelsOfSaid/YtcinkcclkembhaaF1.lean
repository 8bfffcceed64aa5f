/- What InRange, l1In and LevelsOf answer, on both sides. -/
import Derived.Test.YtcinkcclkembhaaTb
import Derived.Test.YtcinkcclkembhaaAL23
namespace Go.Proofs.Ytcinkcclkembhaa
open Go.AL
theorem l1In_ok (a b c : Int) : FunOK Try.prog 6 [⟨I, a⟩, ⟨I, b⟩, ⟨I, c⟩] (.rd .bool (decide (b ≤ a) && decide (a ≤ c))) := by
  refine fun_of (tb := tb) follows Try.func6 (by kernel_rfl) Try.ntmps6 rfl rfl rfl ?_
  intro cx hN hw
  simp (disch := exact eqId (by kernel_rfl)) only [go_sem, Nat.reduceAdd, Nat.reduceMul, Nat.reduceLT, Nat.reduceBEq, Nat.reduceLeDiff, ge_iff_le]
theorem inRange_ok (a b c : Int) : FunOK Try.prog 7 [⟨I, a⟩, ⟨I, b⟩, ⟨I, c⟩] (.rd .bool (decide (b ≤ a) && decide (a ≤ c))) := by
  refine fun_of (tb := tb) follows Try.func7 (by kernel_rfl) Try.ntmps7 rfl rfl rfl ?_
  intro cx hN hw
  simp (disch := exact eqId (by kernel_rfl)) only [go_sem, Nat.reduceAdd, Nat.reduceMul, Nat.reduceLT, Nat.reduceBEq, Nat.reduceLeDiff]
def lev (n : Int) : Int := if n < 1 ∨ 16 < n then 0 else if n ≤ 1 then 0 else if n ≤ 2 then 1 else if n ≤ 4 then 2 else if n ≤ 8 then 3 else 4
def levJ (n : Int) (d : Int × Int) : Prop := (d.1 = 0 ∧ d.2 = 1) ∨ (d.1 = 1 ∧ d.2 = 2 ∧ 1 < n) ∨ (d.1 = 2 ∧ d.2 = 4 ∧ 2 < n) ∨ (d.1 = 3 ∧ d.2 = 8 ∧ 4 < n) ∨ (d.1 = 4 ∧ d.2 = 16 ∧ 8 < n)
theorem spec_LevelsOf_ok (n : Int) : FunOK Try.prog 4 [⟨I, n⟩] (.rd I (lev n)) := by
  refine fun_of (tb := tb) follows Try.func4 (by kernel_rfl) Try.ntmps4 rfl rfl rfl ?_
  intro cx hN hw
  simp (disch := exact eqId (by kernel_rfl)) only [go_sem, Nat.reduceAdd, Nat.reduceMul, Nat.reduceLT, Nat.reduceBEq, Nat.reduceLeDiff]
  refine callQ_intro (l1In_ok _ _ _) ?_
  simp (disch := exact eqId (by kernel_rfl)) only [go_sem, Nat.reduceAdd, Nat.reduceMul, Nat.reduceLT, Nat.reduceBEq, Nat.reduceLeDiff]
  refine ⟨fun h => ?_, fun h => ?_⟩
  · simp only [Bool.and_eq_false_iff, decide_eq_false_iff_not] at h
    unfold lev; rw [if_pos (by omega)]
  · simp only [Bool.and_eq_true, decide_eq_true_eq] at h
    refine loop_intro (tb := tb) follows hN (D := Int × Int) (fun d => shp [(2, .rd I 0), (3, .rd I d.1), (4, .rd I d.2), (0, .rd I n)] []) (levJ n) (fun d => (5 - d.1).toNat) (0, 1) (by left; exact ⟨rfl, rfl⟩) (sub_shp [] trivial trivial (by simp (disch := exact eqId (by kernel_rfl)) only [go_sem, Nat.reduceAdd, Nat.reduceMul, Nat.reduceLT, Nat.reduceBEq, Nat.reduceLeDiff])) (fun d hd => ?_)
    simp (disch := exact eqId (by kernel_rfl)) only [go_sem, Nat.reduceAdd, Nat.reduceMul, Nat.reduceLT, Nat.reduceBEq, Nat.reduceLeDiff]
    unfold levJ at hd
    refine ⟨fun h1 => back_intro (d.1 + 1, 2 * d.2) ?_ ?_ (sub_shp [] trivial trivial ?_), fun h1 => ?_⟩
    · unfold levJ; simp only; omega
    · simp only; omega
    · simp (disch := exact eqId (by kernel_rfl)) only [go_sem, Nat.reduceAdd, Nat.reduceMul, Nat.reduceLT, Nat.reduceBEq, Nat.reduceLeDiff]
      rw [wrap_i64 (by omega) (by omega), wrap_i64 (by omega) (by omega)]
      exact ⟨rfl, rfl⟩
    · show (d.1 : Int) = lev n
      unfold lev
      repeat' split
      all_goals omega
theorem impl_LevelsOf_ok (n : Int) : FunOK Try.prog 5 [⟨I, n⟩] (.rd I (lev n)) := by
  refine fun_of (tb := tb) follows Try.func5 (by kernel_rfl) Try.ntmps5 rfl rfl rfl ?_
  intro cx hN hw
  simp (disch := exact eqId (by kernel_rfl)) only [go_sem, Nat.reduceAdd, Nat.reduceMul, Nat.reduceLT, Nat.reduceBEq, Nat.reduceLeDiff]
  refine loop_intro (tb := tb) follows hN (D := Int × Int) (fun d => shp [(2, .rd I 0), (3, .rd I d.1), (0, .rd I n)] []) (fun d => (d.1 = 0 ∧ d.2 = 1) ∨ (n ≤ 16 ∧ levJ n d)) (fun d => (5 - d.1).toNat) (0, 1) (by left; exact ⟨rfl, rfl⟩) (sub_shp [] trivial trivial (by simp (disch := exact eqId (by kernel_rfl)) only [go_sem, Nat.reduceAdd, Nat.reduceMul, Nat.reduceLT, Nat.reduceBEq, Nat.reduceLeDiff])) (fun d hd => ?_)
  simp (disch := exact eqId (by kernel_rfl)) only [go_sem, Nat.reduceAdd, Nat.reduceMul, Nat.reduceLT, Nat.reduceBEq, Nat.reduceLeDiff]
  refine callQ_intro (inRange_ok _ _ _) ?_
  simp (disch := exact eqId (by kernel_rfl)) only [go_sem, Nat.reduceAdd, Nat.reduceMul, Nat.reduceLT, Nat.reduceBEq, Nat.reduceLeDiff]
  have hp : IntKind.i64.wrap (1 * 2 ^ min (IntKind.u64.wrap d.1).toNat 64) = d.2 := by
    unfold levJ at hd
    rcases hd with ⟨h1, h2⟩ | ⟨_, ⟨h1, h2⟩ | ⟨h1, h2, _⟩ | ⟨h1, h2, _⟩ | ⟨h1, h2, _⟩ | ⟨h1, h2, _⟩⟩ <;> rw [h1, h2] <;> rfl
  rw [hp]
  simp only [Bool.and_eq_true, Bool.and_eq_false_iff, decide_eq_true_eq, decide_eq_false_iff_not]
  unfold levJ at hd
  refine ⟨fun h1 => back_intro (d.1 + 1, 2 * d.2) ?_ ?_ (sub_shp [] trivial trivial ?_), fun h1 => ?_⟩
  · unfold levJ; simp only; omega
  · simp only; omega
  · simp (disch := exact eqId (by kernel_rfl)) only [go_sem, Nat.reduceAdd, Nat.reduceMul, Nat.reduceLT, Nat.reduceBEq, Nat.reduceLeDiff]
    rw [wrap_i64 (by omega) (by omega)]
  · show (d.1 : Int) = lev n
    unfold lev
    repeat' split
    all_goals omega
theorem law_FnExactLevelsOf_ok (n : Int) : FunOK Try.prog 3 [⟨I, n⟩] (.rd .bool true) := by
  refine fun_of (tb := tb) follows Try.func3 (by kernel_rfl) Try.ntmps3 rfl rfl rfl ?_
  intro cx hN hw
  simp (disch := exact eqId (by kernel_rfl)) only [go_sem, Nat.reduceAdd, Nat.reduceMul, Nat.reduceLT, Nat.reduceBEq, Nat.reduceLeDiff]
  refine callQ_intro (spec_LevelsOf_ok _) ?_
  simp (disch := exact eqId (by kernel_rfl)) only [go_sem, Nat.reduceAdd, Nat.reduceMul, Nat.reduceLT, Nat.reduceBEq, Nat.reduceLeDiff]
  refine callQ_intro (impl_LevelsOf_ok _) ?_
  simp (disch := exact eqId (by kernel_rfl)) only [go_sem, Nat.reduceAdd, Nat.reduceMul, Nat.reduceLT, Nat.reduceBEq, Nat.reduceLeDiff]
end Go.Proofs.Ytcinkcclkembhaa
