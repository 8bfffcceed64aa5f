/- More plain mathematics of spans. It proves nothing of a statement by itself. -/
import Derived.Test.YtcbecpjhgfkofaaPm
set_option linter.unusedSimpArgs false
set_option linter.unusedVariables false
namespace Go.Proofs.Ytcbecpjhgfkofaa
open Go.AL
theorem mkA_f {a b : Int} (h : a > b ∨ spB (mxF a 0, mnF b 10000, ()) = false) : mkF a b = ((0, 0, ()), false) := by
  unfold mkF
  rw [if_neg]
  intro hle
  rcases h with h | h
  · simp only [mxF_eq, mnF_eq] at hle; omega
  · rw [show spB (mxF a 0, mnF b 10000, ()) = true from spB_t.2 (by simp only [mxF_eq, mnF_eq] at hle ⊢; omega)] at h
    cases h
theorem mkA_t {a b : Int} (h : ¬ a > b ∧ spB (mxF a 0, mnF b 10000, ()) = true) : mkF a b = ((mxF a 0, mnF b 10000, ()), true) := by
  unfold mkF
  rw [if_pos (spB_t.1 h.2).2.1]
theorem mkB_f {a b : Int} (h : mxF 0 a > mnF 10000 b) : mkF a b = ((0, 0, ()), false) := by
  unfold mkF
  rw [if_neg (by simp only [mxF_eq, mnF_eq] at h ⊢; omega)]
theorem mkB_t {a b : Int} (h : ¬ mxF 0 a > mnF 10000 b) : mkF a b = ((mxF 0 a, mnF 10000 b, ()), true) := by
  unfold mkF
  rw [if_pos (by simp only [mxF_eq, mnF_eq] at h ⊢; omega), show mxF a 0 = mxF 0 a by simp only [mxF_eq]; omega, show mnF b 10000 = mnF 10000 b by simp only [mnF_eq]; omega]
theorem meA_f {a b : Int × Int × Unit} (h : (spB a = false ∨ spB b = false) ∨ spB (mxF a.1 b.1, mnF a.2.1 b.2.1, ()) = false) : meF a b = ((0, 0, ()), false) := by
  unfold meF
  rw [if_neg]
  rintro ⟨h1, h2, h3⟩
  rcases h with (h | h) | h
  · rw [h1] at h; cases h
  · rw [h2] at h; cases h
  · rw [spB_t] at h1 h2
    rw [show spB (mxF a.1 b.1, mnF a.2.1 b.2.1, ()) = true from spB_t.2 (by simp only [mxF_eq, mnF_eq] at h3 ⊢; omega)] at h
    cases h
theorem meA_t {a b : Int × Int × Unit} (h : (spB a = true ∧ spB b = true) ∧ spB (mxF a.1 b.1, mnF a.2.1 b.2.1, ()) = true) : meF a b = ((mxF a.1 b.1, mnF a.2.1 b.2.1, ()), true) := by
  unfold meF
  rw [if_pos ⟨h.1.1, h.1.2, (spB_t.1 h.2).2.1⟩]
theorem meB_f {a b : Int × Int × Unit} (h : spB a = false ∨ spB b = false) : meF a b = ((0, 0, ()), false) := meA_f (.inl h)
theorem meB_t {a b : Int × Int × Unit} (h : spB a = true ∧ spB b = true) : mkF (mxF a.1 b.1) (mnF a.2.1 b.2.1) = meF a b := by
  have h1 := spB_t.1 h.1
  have h2 := spB_t.1 h.2
  unfold mkF meF
  by_cases h3 : mxF a.1 b.1 ≤ mnF a.2.1 b.2.1
  · rw [if_pos (show mxF (mxF a.1 b.1) 0 ≤ mnF (mnF a.2.1 b.2.1) 10000 by simp only [mxF_eq, mnF_eq] at h3 ⊢; omega), if_pos ⟨h.1, h.2, h3⟩]
    have e1 : mxF (mxF a.1 b.1) 0 = mxF a.1 b.1 := by simp only [mxF_eq]; omega
    have e2 : mnF (mnF a.2.1 b.2.1) 10000 = mnF a.2.1 b.2.1 := by simp only [mnF_eq]; omega
    rw [e1, e2]
  · rw [if_neg (show ¬ mxF (mxF a.1 b.1) 0 ≤ mnF (mnF a.2.1 b.2.1) 10000 by simp only [mxF_eq, mnF_eq] at h3 ⊢; omega), if_neg (fun h => h3 h.2.2)]
theorem mgJ_cons (x : Int × Int × Unit) (xs : List (Int × Int × Unit)) (s : Int × Int × Unit) : mgJ (x :: xs) s = if apJ x s = true then (x :: (mgJ xs s).1, (mgJ xs s).2) else mgJ xs (unJ s x) := by
  rw [mgJ]
theorem apJ_t {x s : Int × Int × Unit} : (apJ x s = true) = (x.2.1 + 1 < s.1 ∨ s.2.1 + 1 < x.1) := by simp [apJ]
theorem jaF_cons (out l : List (Int × Int × Unit)) (s : Int × Int × Unit) : jaF out (s :: l) = jaF (if spB s = true then putJ out s else out) l := by rw [jaF]
def maF (a b : List (Int × Int × Unit)) : List (Int × Int × Unit) := jaF [] (a.flatMap fun x => b.flatMap fun y => optS (meF x y))
theorem optS_len (r : (Int × Int × Unit) × Bool) : (optS r).length ≤ 1 := by unfold optS; split <;> simp
theorem fl_len {α β : Type} (f : α → List β) (c : Nat) (h : ∀ x, (f x).length ≤ c) : ∀ l : List α, (l.flatMap f).length ≤ c * l.length
  | [] => by simp
  | x :: l => by
    have := h x
    have := fl_len f c h l
    rw [List.flatMap_cons, List.length_append, List.length_cons, Nat.mul_succ]
    omega
end Go.Proofs.Ytcbecpjhgfkofaa
