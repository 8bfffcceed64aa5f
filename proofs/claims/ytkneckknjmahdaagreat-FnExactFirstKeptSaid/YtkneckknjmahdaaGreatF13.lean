/- What the functions of well formed strands answer, on both sides. It proves nothing of a statement by itself. -/
import Derived.Test.YtkneckknjmahdaaGreatF6
import Derived.Test.YtkneckknjmahdaaGreatF11
set_option linter.unusedSimpArgs false
set_option linter.unusedVariables false
set_option maxRecDepth 100000
namespace Go.Proofs.YtkneckknjmahdaaGreat
open Go.AL
noncomputable def hpF (p : tPiece.den) : List tPiece.den → Bool
  | [] => false
  | x :: xs => eqC x p || hpF p xs
theorem fpi_ge (p : tPiece.den) : ∀ (l : List tPiece.den) (i : Int), fpiF p l i = -1 ∨ i ≤ fpiF p l i
  | [], i => .inl rfl
  | x :: xs, i => by
    unfold fpiF
    cases eqC x p
    · simp only [cond_false]
      rcases fpi_ge p xs (i + 1) with h | h
      · exact .inl h
      · exact .inr (by omega)
    · exact .inr (Int.le_refl i)
theorem hp_fpi (p : tPiece.den) (df : tPiece.den) : ∀ (l : List tPiece.den) (k : Nat) (i : Int), k < l.length → l.getD k df = p → (hpF p (l.take k) = true ↔ fpiF p l i < i + k) ∧ i ≤ fpiF p l i
  | [], k, i, hk, _ => absurd hk (Nat.not_lt_zero k)
  | x :: xs, 0, i, hk, he => by
    have hx : eqC x p = true := eqC_t.mpr he
    simp only [List.take_zero, hpF, fpiF, hx, cond_true]
    constructor
    · constructor
      · intro h; cases h
      · intro h; omega
    · exact Int.le_refl i
  | x :: xs, k + 1, i, hk, he => by
    simp only [List.take_succ_cons, hpF, fpiF]
    cases hx : eqC x p
    · simp only [Bool.false_or, cond_false]
      obtain ⟨h1, h2⟩ := hp_fpi p df xs k (i + 1) (by simpa using hk) (by simpa using he)
      refine ⟨h1.trans ?_, by omega⟩
      constructor <;> intro h <;> omega
    · simp only [Bool.true_or, cond_true, true_iff]
      exact ⟨by omega, Int.le_refl i⟩
def leG : Option Int → Int → Bool
  | none, _ => true
  | some m, y => decide (m ≤ y)
def chG (n : Int) : Option Int → List tRenewal.den → Bool
  | _, [] => true
  | pr, x :: xs => inB x.1 1 n && (leG pr x.1 && chG n (some x.1) xs)
theorem chG_cons (n : Int) (pr : Option Int) (x : tRenewal.den) (xs : List tRenewal.den) : chG n pr (x :: xs) = (inB x.1 1 n && (leG pr x.1 && chG n (some x.1) xs)) := by cases pr <;> rfl
theorem chG_nil (n : Int) (pr : Option Int) : chG n pr [] = true := by cases pr <;> rfl
noncomputable def ndB (l : List tPiece.den) : Bool := (List.range l.length).all (fun i => !hpF (l.getD i (0, [], 0, ())) (l.take i))
noncomputable def strB (s : tStrand.den) : Bool := inB (List.length s.1 : Int) 1 12 && decide (List.length s.2.1 ≤ 8) && ndB s.1 && chG (List.length s.1 : Int) none s.2.1
theorem impl_hasPiece_ok (l : List tPiece.den) (p : tPiece.den) : FunOK Tryz.prog 65 [⟨(.list tPiece), l⟩, ⟨tPiece, p⟩] (.rd .bool (hpF p l)) := by
  refine fun_of (tb := tb) follows Tryz.func65 (by kernel_rfl) Tryz.ntmps65 rfl rfl rfl ?_
  intro cx hN hw
  simp (disch := exact eqId (by kernel_rfl)) only [go_sem, ↓reduceIte, Nat.reduceAdd, Nat.reduceMul, Nat.reduceLT, Nat.reduceBEq, Nat.reduceLeDiff, Nat.reduceEqDiff, Int.reduceToNat]
  refine loop_intro (tb := tb) follows hN (D := Nat) (fun d => shp [(3, .bp 10000 0), (7, .rd (.list tPiece) (l)), (8, .rd I (((l).length : Int) : Int)), (9, .rd I (d : Int))] [(10000, .box 57 [.rd I (p.1), .rd (.list I) (p.2.1), .rd I (p.2.2.1)])]) (fun d => d ≤ List.length l ∧ hpF p l = hpF p (List.drop d l)) (fun d => List.length l - d) (0) ?_ (sub_shp hN [(10000, some 10000)] ?_) (fun d hd => ?_)
  · exact ⟨Nat.zero_le _, rfl⟩
  · simp (disch := exact eqId (by kernel_rfl)) only [go_sem, ↓reduceIte, Nat.reduceAdd, Nat.reduceMul, Nat.reduceLT, Nat.reduceBEq, Nat.reduceLeDiff, Nat.reduceEqDiff, Int.reduceToNat]
    try rfl
  · obtain ⟨h1, h2⟩ := hd
    simp (disch := exact eqId (by kernel_rfl)) only [go_sem, ↓reduceIte, Nat.reduceAdd, Nat.reduceMul, Nat.reduceLT, Nat.reduceBEq, Nat.reduceLeDiff, Nat.reduceEqDiff, Int.reduceToNat]
    repeat' (first | (refine And.intro ?_ ?_) | intro _ | (refine callQ_intro (impl_EqualPieces_ok _ _) ?_; try (simp (disch := exact eqId (by kernel_rfl)) only [go_sem, ↓reduceIte, Nat.reduceAdd, Nat.reduceMul, Nat.reduceLT, Nat.reduceBEq, Nat.reduceLeDiff, Nat.reduceEqDiff, Int.reduceToNat])) | (refine callH_intro (fun hcc => impl_EqualPieces_ok _ _) ?_; try (simp (disch := exact eqId (by kernel_rfl)) only [go_sem, ↓reduceIte, Nat.reduceAdd, Nat.reduceMul, Nat.reduceLT, Nat.reduceBEq, Nat.reduceLeDiff, Nat.reduceEqDiff, Int.reduceToNat])))
    all_goals (try omega)
    · rename_i hk he
      rw [h2, drop_getD (show d < List.length l by omega) (0, [], 0, ()), hpF, eqC_t.mpr he]
      rfl
    · rename_i hk he
      have hk : d < List.length l := by omega
      refine back_intro (d + 1) ?_ ?_ (sub_shp hN [(10000, some 10000)] ?_)
      · refine ⟨hk, ?_⟩
        rw [h2, drop_getD hk (0, [], 0, ()), hpF, eqC_f.mpr he]
        rfl
      · omega
      · simp (disch := exact eqId (by kernel_rfl)) only [go_sem, ↓reduceIte, Nat.reduceAdd, Nat.reduceMul, Nat.reduceLT, Nat.reduceBEq, Nat.reduceLeDiff, Nat.reduceEqDiff, Int.reduceToNat]
        exact wrap_succ hk hw.1.1
    · rename_i hk
      rw [h2, drop_end (show List.length l ≤ d by omega)]
      rfl
end Go.Proofs.YtkneckknjmahdaaGreat
