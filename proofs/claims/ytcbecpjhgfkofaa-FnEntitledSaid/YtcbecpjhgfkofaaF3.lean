/- What the functions of pieces answer, on both sides. It proves nothing of a statement by itself. -/
import Derived.Test.YtcbecpjhgfkofaaF2
set_option linter.unusedSimpArgs false
set_option linter.unusedVariables false
set_option maxRecDepth 100000
namespace Go.Proofs.Ytcbecpjhgfkofaa
open Go.AL
def kindC (l : List Int) : Prop := l.length ≠ 0 ∧ 101 ≤ l.getD 0 0 ∧ l.getD 0 0 ≤ 105 ∧ (l.length : Int) = [7, 5, 5, 9, 6].getD (l.getD 0 0 - 101).toNat 0
instance (l : List Int) : Decidable (kindC l) := by unfold kindC; infer_instance
def kindF (l : List Int) : Int := if kindC l then l.getD 0 0 else 0
theorem kind_len {l : List Int} {c : Int} (h : kindF l = c) (hc : c ≠ 0) : (l.length : Int) = [7, 5, 5, 9, 6].getD (c - 101).toNat 0 ∧ 101 ≤ c ∧ c ≤ 105 ∧ l.getD 0 0 = c := by
  unfold kindF at h
  by_cases hk : kindC l
  · rw [if_pos hk] at h
    obtain ⟨_, h2, h3, h4⟩ := hk
    rw [h] at h4 h2 h3
    exact ⟨h4, h2, h3, h⟩
  · rw [if_neg hk] at h; exact absurd h.symm hc
theorem kind101 {l : List Int} (h : kindF l = 101) : (l.length : Int) = 7 := (kind_len h (by decide)).1
theorem kind102 {l : List Int} (h : kindF l = 102) : (l.length : Int) = 5 := (kind_len h (by decide)).1
theorem kind103 {l : List Int} (h : kindF l = 103) : (l.length : Int) = 5 := (kind_len h (by decide)).1
theorem kind104 {l : List Int} (h : kindF l = 104) : (l.length : Int) = 9 := (kind_len h (by decide)).1
theorem kind105 {l : List Int} (h : kindF l = 105) : (l.length : Int) = 6 := (kind_len h (by decide)).1
theorem spec_CertInts_ok (x : tCert.den) : FunOK Try.prog 47 [⟨tCert, x⟩] (.own 3 I [101, x.1, x.2.1, x.2.2.1, x.2.2.2.1, x.2.2.2.2.1, x.2.2.2.2.2.1]) := by
  refine fun_of (tb := tb) follows Try.func47 (by kernel_rfl) Try.ntmps47 rfl rfl rfl ?_
  intro cx hN hw
  simp (disch := exact eqId (by kernel_rfl)) only [go_sem, ↓reduceIte, Nat.reduceAdd, Nat.reduceMul, Nat.reduceLT, Nat.reduceBEq, Nat.reduceLeDiff, Nat.reduceEqDiff, Int.reduceToNat]
theorem spec_StatusInts_ok (x : tStatus.den) : FunOK Try.prog 49 [⟨tStatus, x⟩] (.own 3 I [102, x.1, x.2.1, x.2.2.1, x.2.2.2.1]) := by
  refine fun_of (tb := tb) follows Try.func49 (by kernel_rfl) Try.ntmps49 rfl rfl rfl ?_
  intro cx hN hw
  simp (disch := exact eqId (by kernel_rfl)) only [go_sem, ↓reduceIte, Nat.reduceAdd, Nat.reduceMul, Nat.reduceLT, Nat.reduceBEq, Nat.reduceLeDiff, Nat.reduceEqDiff, Int.reduceToNat]
end Go.Proofs.Ytcbecpjhgfkofaa
