/- What the functions of well formed strands answer, on both sides. It proves nothing of a statement by itself. -/
import Derived.Test.YteemfgdkmjmolaaF6
import Derived.Test.YteemfgdkmjmolaaF11
set_option linter.unusedSimpArgs false
set_option linter.unusedVariables false
set_option maxRecDepth 100000
namespace Go.Proofs.Yteemfgdkmjmolaa
open Go.AL
noncomputable def hpF (p : tPiece.den) : List tPiece.den → Bool
  | [] => false
  | x :: xs => eqC x p || hpF p xs
theorem fpi_ge (p : tPiece.den) : ∀ (l : List tPiece.den) (i : Int), fpiF p l i = -1 ∨ i ≤ fpiF p l i
  | [], i => .inl rfl
  | x :: xs, i => by
    unfold fpiF
    cases eqC x p
    · simp only [cond_false]
      rcases fpi_ge p xs (i + 1) with h | h
      · exact .inl h
      · exact .inr (by omega)
    · exact .inr (Int.le_refl i)
theorem hp_fpi (p : tPiece.den) (df : tPiece.den) : ∀ (l : List tPiece.den) (k : Nat) (i : Int), k < l.length → l.getD k df = p → (hpF p (l.take k) = true ↔ fpiF p l i < i + k) ∧ i ≤ fpiF p l i
  | [], k, i, hk, _ => absurd hk (Nat.not_lt_zero k)
  | x :: xs, 0, i, hk, he => by
    have hx : eqC x p = true := eqC_t.mpr he
    simp only [List.take_zero, hpF, fpiF, hx, cond_true]
    constructor
    · constructor
      · intro h; cases h
      · intro h; omega
    · exact Int.le_refl i
  | x :: xs, k + 1, i, hk, he => by
    simp only [List.take_succ_cons, hpF, fpiF]
    cases hx : eqC x p
    · simp only [Bool.false_or, cond_false]
      obtain ⟨h1, h2⟩ := hp_fpi p df xs k (i + 1) (by simpa using hk) (by simpa using he)
      refine ⟨h1.trans ?_, by omega⟩
      constructor <;> intro h <;> omega
    · simp only [Bool.true_or, cond_true, true_iff]
      exact ⟨by omega, Int.le_refl i⟩
def leG : Option Int → Int → Bool
  | none, _ => true
  | some m, y => decide (m ≤ y)
def chG (n : Int) : Option Int → List tRenewal.den → Bool
  | _, [] => true
  | pr, x :: xs => inB x.1 1 n && (leG pr x.1 && chG n (some x.1) xs)
theorem chG_cons (n : Int) (pr : Option Int) (x : tRenewal.den) (xs : List tRenewal.den) : chG n pr (x :: xs) = (inB x.1 1 n && (leG pr x.1 && chG n (some x.1) xs)) := by cases pr <;> rfl
theorem chG_nil (n : Int) (pr : Option Int) : chG n pr [] = true := by cases pr <;> rfl
noncomputable def ndB (l : List tPiece.den) : Bool := (List.range l.length).all (fun i => !hpF (l.getD i (0, [], 0, ())) (l.take i))
noncomputable def strB (s : tStrand.den) : Bool := inB (List.length s.1 : Int) 1 12 && decide (List.length s.2.1 ≤ 8) && ndB s.1 && chG (List.length s.1 : Int) none s.2.1
theorem impl_hasPiece_ok (l : List tPiece.den) (p : tPiece.den) : FunOK Try.prog 164 [⟨(.list tPiece), l⟩, ⟨tPiece, p⟩] (.rd .bool (hpF p l)) := by
  refine fun_of (tb := tb) follows Try.func164 (by kernel_rfl) Try.ntmps164 rfl rfl rfl ?_
  intro cx hN hw
  simp (disch := exact eqId (by kernel_rfl)) only [go_sem, ↓reduceIte, Nat.reduceAdd, Nat.reduceMul, Nat.reduceLT, Nat.reduceBEq, Nat.reduceLeDiff, Nat.reduceEqDiff, Int.reduceToNat]
  refine loop_intro (tb := tb) follows hN (D := Nat) (fun d => shp [(3, .bp 10000 0), (7, .rd (.list tPiece) (l)), (8, .rd I (((l).length : Int) : Int)), (9, .rd I (d : Int))] [(10000, .box 73 [.rd I (p.1), .rd (.list I) (p.2.1), .rd I (p.2.2.1)])]) (fun d => d ≤ List.length l ∧ hpF p l = hpF p (List.drop d l)) (fun d => List.length l - d) (0) ?_ (sub_shp hN [(10000, some 10000)] ?_) (fun d hd => ?_)
  · exact ⟨Nat.zero_le _, rfl⟩
  · simp (disch := exact eqId (by kernel_rfl)) only [go_sem, ↓reduceIte, Nat.reduceAdd, Nat.reduceMul, Nat.reduceLT, Nat.reduceBEq, Nat.reduceLeDiff, Nat.reduceEqDiff, Int.reduceToNat]
    try rfl
  · obtain ⟨h1, h2⟩ := hd
    simp (disch := exact eqId (by kernel_rfl)) only [go_sem, ↓reduceIte, Nat.reduceAdd, Nat.reduceMul, Nat.reduceLT, Nat.reduceBEq, Nat.reduceLeDiff, Nat.reduceEqDiff, Int.reduceToNat]
    repeat' (first | (refine And.intro ?_ ?_) | intro _ | (refine callQ_intro (impl_EqualPieces_ok _ _) ?_; try (simp (disch := exact eqId (by kernel_rfl)) only [go_sem, ↓reduceIte, Nat.reduceAdd, Nat.reduceMul, Nat.reduceLT, Nat.reduceBEq, Nat.reduceLeDiff, Nat.reduceEqDiff, Int.reduceToNat])) | (refine callH_intro (fun hcc => impl_EqualPieces_ok _ _) ?_; try (simp (disch := exact eqId (by kernel_rfl)) only [go_sem, ↓reduceIte, Nat.reduceAdd, Nat.reduceMul, Nat.reduceLT, Nat.reduceBEq, Nat.reduceLeDiff, Nat.reduceEqDiff, Int.reduceToNat])))
    all_goals (try omega)
    · rename_i hk he
      rw [h2, drop_getD (show d < List.length l by omega) (0, [], 0, ()), hpF, eqC_t.mpr he]
      rfl
    · rename_i hk he
      have hk : d < List.length l := by omega
      refine back_intro (d + 1) ?_ ?_ (sub_shp hN [(10000, some 10000)] ?_)
      · refine ⟨hk, ?_⟩
        rw [h2, drop_getD hk (0, [], 0, ()), hpF, eqC_f.mpr he]
        rfl
      · omega
      · simp (disch := exact eqId (by kernel_rfl)) only [go_sem, ↓reduceIte, Nat.reduceAdd, Nat.reduceMul, Nat.reduceLT, Nat.reduceBEq, Nat.reduceLeDiff, Nat.reduceEqDiff, Int.reduceToNat]
        exact wrap_succ hk hw.1.1
    · rename_i hk
      rw [h2, drop_end (show List.length l ≤ d by omega)]
      rfl
theorem impl_IsStrand_ok (s : tStrand.den) : FunOK Try.prog 77 [⟨tStrand, s⟩] (.rd .bool (strB s)) := by
  refine fun_of (tb := tb) follows Try.func77 (by kernel_rfl) Try.ntmps77 rfl rfl rfl ?_
  intro cx hN hw
  simp (disch := exact eqId (by kernel_rfl)) only [go_sem, ↓reduceIte, Nat.reduceAdd, Nat.reduceMul, Nat.reduceLT, Nat.reduceBEq, Nat.reduceLeDiff, Nat.reduceEqDiff, Int.reduceToNat]
  repeat' (first | (refine And.intro ?_ ?_) | intro _ | (refine callQ_intro (inRange_ok _ _ _) ?_; try (simp (disch := exact eqId (by kernel_rfl)) only [go_sem, ↓reduceIte, Nat.reduceAdd, Nat.reduceMul, Nat.reduceLT, Nat.reduceBEq, Nat.reduceLeDiff, Nat.reduceEqDiff, Int.reduceToNat])) | (refine callH_intro (fun hcc => inRange_ok _ _ _) ?_; try (simp (disch := exact eqId (by kernel_rfl)) only [go_sem, ↓reduceIte, Nat.reduceAdd, Nat.reduceMul, Nat.reduceLT, Nat.reduceBEq, Nat.reduceLeDiff, Nat.reduceEqDiff, Int.reduceToNat])))
  all_goals (try omega)
  · rename_i hc
    unfold strB inB
    have : (decide (1 ≤ (List.length s.1 : Int)) && decide ((List.length s.1 : Int) ≤ 12) && decide (List.length s.2.1 ≤ 8)) = false := by
      rw [← Bool.not_eq_true]
      intro h
      simp only [Bool.and_eq_true, decide_eq_true_eq] at h
      omega
    rw [this]
    rfl
  · rename_i hb
    refine loop_intro (tb := tb) follows hN (D := Nat) (fun d => shp [(1, .bp 10000 0), (19, .rd (.list tPiece) (s.1)), (20, .rd I (((s.1).length : Int) : Int)), (21, .rd I (d : Int))] [(10000, .box 91 [.rd (.list tPiece) (s.1), .rd (.list tRenewal) (s.2.1)])]) (fun d => d ≤ List.length s.1 ∧ ∀ i, i < d → hpF (List.getD s.1 i (0, [], 0, ())) (List.take i s.1) = false) (fun d => List.length s.1 - d) (0) ?_ (sub_shp hN [(10000, some 10000)] ?_) (fun d hd => ?_)
    · exact ⟨Nat.zero_le _, fun i h => absurd h (Nat.not_lt_zero i)⟩
    · simp (disch := exact eqId (by kernel_rfl)) only [go_sem, ↓reduceIte, Nat.reduceAdd, Nat.reduceMul, Nat.reduceLT, Nat.reduceBEq, Nat.reduceLeDiff, Nat.reduceEqDiff, Int.reduceToNat]
      try rfl
    · obtain ⟨h1, h2⟩ := hd
      simp (disch := exact eqId (by kernel_rfl)) only [go_sem, ↓reduceIte, Nat.reduceAdd, Nat.reduceMul, Nat.reduceLT, Nat.reduceBEq, Nat.reduceLeDiff, Nat.reduceEqDiff, Int.reduceToNat]
      repeat' (first | (refine And.intro ?_ ?_) | intro _ | (refine callQ_intro (impl_hasPiece_ok _ _) ?_; try (simp (disch := exact eqId (by kernel_rfl)) only [go_sem, ↓reduceIte, Nat.reduceAdd, Nat.reduceMul, Nat.reduceLT, Nat.reduceBEq, Nat.reduceLeDiff, Nat.reduceEqDiff, Int.reduceToNat])) | (refine callH_intro (fun hcc => impl_hasPiece_ok _ _) ?_; try (simp (disch := exact eqId (by kernel_rfl)) only [go_sem, ↓reduceIte, Nat.reduceAdd, Nat.reduceMul, Nat.reduceLT, Nat.reduceBEq, Nat.reduceLeDiff, Nat.reduceEqDiff, Int.reduceToNat])))
      all_goals (try omega)
      · rename_i hk he
        have he' : hpF (List.getD s.1 d (0, [], 0, ())) (List.take d s.1) = true := he
        have hn : ndB s.1 = false := by
          rw [← Bool.not_eq_true]
          intro h
          have h9 := List.all_eq_true.1 h d (List.mem_range.2 (by omega))
          rw [he'] at h9
          cases h9
        unfold strB
        rw [hn]
        simp
      · rename_i hk he
        have hk : d < List.length s.1 := by omega
        refine back_intro (d + 1) ?_ ?_ (sub_shp hN [(10000, some 10000)] ?_)
        · refine ⟨hk, fun i hi => ?_⟩
          by_cases e : i = d
          · subst e; exact he
          · exact h2 i (by omega)
        · omega
        · simp (disch := exact eqId (by kernel_rfl)) only [go_sem, ↓reduceIte, Nat.reduceAdd, Nat.reduceMul, Nat.reduceLT, Nat.reduceBEq, Nat.reduceLeDiff, Nat.reduceEqDiff, Int.reduceToNat]
          exact wrap_succ hk hw.1.1.1
      · rename_i hk
        have hn : ndB s.1 = true := by
          unfold ndB
          rw [List.all_eq_true]
          intro i hi
          rw [h2 i (by have := List.mem_range.1 hi; omega)]
          rfl
        refine loop_intro (tb := tb) follows hN (D := Nat) (fun d => shp [(1, .bp 10000 0), (34, .rd (.list tRenewal) (s.2.1)), (35, .rd I (((s.2.1).length : Int) : Int)), (36, .rd I (d : Int))] [(10000, .box 91 [.rd (.list tPiece) (s.1), .rd (.list tRenewal) (s.2.1)])]) (fun d => d ≤ List.length s.2.1 ∧ chG (List.length s.1 : Int) none s.2.1 = chG (List.length s.1 : Int) (pvG (fun x : tRenewal.den => (x.1 : Int)) (0, 0, 0, [], [], ()) s.2.1 d) (List.drop d s.2.1)) (fun d => List.length s.2.1 - d) (0) ?_ (sub_shp hN [(10000, some 10000)] ?_) (fun d hd => ?_)
        · exact ⟨Nat.zero_le _, rfl⟩
        · simp (disch := exact eqId (by kernel_rfl)) only [go_sem, ↓reduceIte, Nat.reduceAdd, Nat.reduceMul, Nat.reduceLT, Nat.reduceBEq, Nat.reduceLeDiff, Nat.reduceEqDiff, Int.reduceToNat]
          try rfl
        · obtain ⟨g1, g2⟩ := hd
          have e1 : IntKind.i64.wrap ((d : Int) - 1) = (d : Int) - 1 := wrap_i64 (by omega) (by omega)
          simp (disch := exact eqId (by kernel_rfl)) only [go_sem, ↓reduceIte, Nat.reduceAdd, Nat.reduceMul, Nat.reduceLT, Nat.reduceBEq, Nat.reduceLeDiff, Nat.reduceEqDiff, Int.reduceToNat, e1]
          repeat' (first | (refine And.intro ?_ ?_) | intro _ | (refine callQ_intro (inRange_ok _ _ _) ?_; try (simp (disch := exact eqId (by kernel_rfl)) only [go_sem, ↓reduceIte, Nat.reduceAdd, Nat.reduceMul, Nat.reduceLT, Nat.reduceBEq, Nat.reduceLeDiff, Nat.reduceEqDiff, Int.reduceToNat])) | (refine callH_intro (fun hcc => inRange_ok _ _ _) ?_; try (simp (disch := exact eqId (by kernel_rfl)) only [go_sem, ↓reduceIte, Nat.reduceAdd, Nat.reduceMul, Nat.reduceLT, Nat.reduceBEq, Nat.reduceLeDiff, Nat.reduceEqDiff, Int.reduceToNat])))
          all_goals (try omega)
          · rename_i hk hc
            have hch : chG (List.length s.1 : Int) none s.2.1 = false := by
              rw [g2, drop_getD (show d < List.length s.2.1 by omega) (0, 0, 0, [], [], ()), chG_cons]
              rcases hc with hc | ⟨hd, hlt⟩
              · rw [show inB (List.getD s.2.1 d (0, 0, 0, [], [], ())).1 1 (List.length s.1 : Int) = false from by
                  rw [inB_f]
                  intro h
                  rcases hc with hc | hc
                  · exact hc h.1
                  · exact hc h.2]
                rfl
              · rw [e1] at hlt
                unfold pvG
                rw [if_pos hd, show leG (some (List.getD s.2.1 ((d : Int) - 1).toNat (0, 0, 0, [], [], ())).1) (List.getD s.2.1 d (0, 0, 0, [], [], ())).1 = false from decide_eq_false (Int.not_le.mpr hlt)]
                simp
            unfold strB
            rw [hch]
            simp
          · rename_i hk hc
            have hk : d < List.length s.2.1 := by omega
            obtain ⟨hc, hd⟩ := hc
            rw [e1] at hd
            refine back_intro (d + 1) ?_ ?_ (sub_shp hN [(10000, some 10000)] ?_)
            · refine ⟨hk, ?_⟩
              rw [g2, drop_getD hk (0, 0, 0, [], [], ()), chG_cons, pvG_succ, show inB (List.getD s.2.1 d (0, 0, 0, [], [], ())).1 1 (List.length s.1 : Int) = true from by rw [inB_t]; exact hc, Bool.true_and]
              unfold pvG
              by_cases h0 : (d : Int) > 0
              · rw [if_pos h0, show leG (some (List.getD s.2.1 ((d : Int) - 1).toNat (0, 0, 0, [], [], ())).1) (List.getD s.2.1 d (0, 0, 0, [], [], ())).1 = true from decide_eq_true (Int.not_lt.mp (hd.resolve_left (fun hx => hx h0))), Bool.true_and]
              · rw [if_neg h0]
                rfl
            · omega
            · simp (disch := exact eqId (by kernel_rfl)) only [go_sem, ↓reduceIte, Nat.reduceAdd, Nat.reduceMul, Nat.reduceLT, Nat.reduceBEq, Nat.reduceLeDiff, Nat.reduceEqDiff, Int.reduceToNat]
              exact wrap_succ hk hw.1.2.1.1
          · rename_i hk
            have hch : chG (List.length s.1 : Int) none s.2.1 = true := by rw [g2, drop_end (show List.length s.2.1 ≤ d by omega), chG_nil]
            unfold strB
            rw [hn, hch, show inB (List.length s.1 : Int) 1 12 = true from by rw [inB_t]; exact hb.1, decide_eq_true (show List.length s.2.1 ≤ 8 by omega)]
            rfl
theorem spec_IsStrand_ok (s : tStrand.den) : FunOK Try.prog 76 [⟨tStrand, s⟩] (.rd .bool (strB s)) := by
  refine fun_of (tb := tb) follows Try.func76 (by kernel_rfl) Try.ntmps76 rfl rfl rfl ?_
  intro cx hN hw
  have hm : maxLen = 9223372036854775807 := rfl
  have hl : List.length s.2.1 ≤ maxLen := hw.1.2.1.1
  simp (disch := exact eqId (by kernel_rfl)) only [go_sem, ↓reduceIte, Nat.reduceAdd, Nat.reduceMul, Nat.reduceLT, Nat.reduceBEq, Nat.reduceLeDiff, Nat.reduceEqDiff, Int.reduceToNat]
  refine loop_intro (tb := tb) follows hN (D := Nat) (fun d => shp [(1, .bp 10000 0), (3, .rd I (d : Int))] [(10000, .box 91 [.rd (.list tPiece) (s.1), .rd (.list tRenewal) (s.2.1)])]) (fun d => d ≤ List.length s.1 ∧ ∀ i, i < d → hpF (List.getD s.1 i (0, [], 0, ())) (List.take i s.1) = false) (fun d => List.length s.1 - d) (0) ?_ (sub_shp hN [(10000, some 10000)] ?_) (fun d hd => ?_)
  · exact ⟨Nat.zero_le _, fun i h => absurd h (Nat.not_lt_zero i)⟩
  · simp (disch := exact eqId (by kernel_rfl)) only [go_sem, ↓reduceIte, Nat.reduceAdd, Nat.reduceMul, Nat.reduceLT, Nat.reduceBEq, Nat.reduceLeDiff, Nat.reduceEqDiff, Int.reduceToNat]
    try rfl
  · obtain ⟨h1, h2⟩ := hd
    simp (disch := exact eqId (by kernel_rfl)) only [go_sem, ↓reduceIte, Nat.reduceAdd, Nat.reduceMul, Nat.reduceLT, Nat.reduceBEq, Nat.reduceLeDiff, Nat.reduceEqDiff, Int.reduceToNat]
    repeat' (first | (refine And.intro ?_ ?_) | intro _ | (refine callQ_intro (spec_FindPiece_ok _ _) ?_; try (simp (disch := exact eqId (by kernel_rfl)) only [go_sem, ↓reduceIte, Nat.reduceAdd, Nat.reduceMul, Nat.reduceLT, Nat.reduceBEq, Nat.reduceLeDiff, Nat.reduceEqDiff, Int.reduceToNat])) | (refine callH_intro (fun hcc => spec_FindPiece_ok _ _) ?_; try (simp (disch := exact eqId (by kernel_rfl)) only [go_sem, ↓reduceIte, Nat.reduceAdd, Nat.reduceMul, Nat.reduceLT, Nat.reduceBEq, Nat.reduceLeDiff, Nat.reduceEqDiff, Int.reduceToNat])))
    all_goals (try omega)
    · rename_i hk he
      have he0 : fpiF (List.getD s.1 d (0, [], 0, ())) s.1 0 < (d : Int) := he
      have he' : hpF (List.getD s.1 d (0, [], 0, ())) (List.take d s.1) = true := ((hp_fpi _ (0, [], 0, ()) s.1 d 0 (by omega) rfl).1).mpr (by omega)
      have hn : ndB s.1 = false := by
        rw [← Bool.not_eq_true]
        intro h
        have h9 := List.all_eq_true.1 h d (List.mem_range.2 (by omega))
        rw [he'] at h9
        cases h9
      unfold strB
      rw [hn]
      simp
    · rename_i hk he
      have hk : d < List.length s.1 := by omega
      refine back_intro (d + 1) ?_ ?_ (sub_shp hN [(10000, some 10000)] ?_)
      · refine ⟨hk, fun i hi => ?_⟩
        by_cases e : i = d
        · subst e
          rw [← Bool.not_eq_true]
          intro h
          have h9 := ((hp_fpi _ (0, [], 0, ()) s.1 i 0 hk rfl).1).mp h
          exact he (show fpiF (List.getD s.1 i (0, [], 0, ())) s.1 0 < (i : Int) by omega)
        · exact h2 i (by omega)
      · omega
      · simp (disch := exact eqId (by kernel_rfl)) only [go_sem, ↓reduceIte, Nat.reduceAdd, Nat.reduceMul, Nat.reduceLT, Nat.reduceBEq, Nat.reduceLeDiff, Nat.reduceEqDiff, Int.reduceToNat]
        exact wrap_succ hk hw.1.1.1
    · rename_i hk
      have hn : ndB s.1 = true := by
        unfold ndB
        rw [List.all_eq_true]
        intro i hi
        rw [h2 i (by have := List.mem_range.1 hi; omega)]
        rfl
      refine loop_intro (tb := tb) follows hN (D := Nat) (fun d => shp [(1, .bp 10000 0), (4, .rd I (d : Int))] [(10000, .box 91 [.rd (.list tPiece) (s.1), .rd (.list tRenewal) (s.2.1)])]) (fun d => d ≤ List.length s.2.1 ∧ chG (List.length s.1 : Int) none s.2.1 = chG (List.length s.1 : Int) (pvG (fun x : tRenewal.den => (x.1 : Int)) (0, 0, 0, [], [], ()) s.2.1 d) (List.drop d s.2.1)) (fun d => List.length s.2.1 - d) (0) ?_ (sub_shp hN [(10000, some 10000)] ?_) (fun d hd => ?_)
      · exact ⟨Nat.zero_le _, rfl⟩
      · simp (disch := exact eqId (by kernel_rfl)) only [go_sem, ↓reduceIte, Nat.reduceAdd, Nat.reduceMul, Nat.reduceLT, Nat.reduceBEq, Nat.reduceLeDiff, Nat.reduceEqDiff, Int.reduceToNat]
        try rfl
      · obtain ⟨g1, g2⟩ := hd
        have e1 : IntKind.i64.wrap ((d : Int) - 1) = (d : Int) - 1 := wrap_i64 (by omega) (by omega)
        simp (disch := exact eqId (by kernel_rfl)) only [go_sem, ↓reduceIte, Nat.reduceAdd, Nat.reduceMul, Nat.reduceLT, Nat.reduceBEq, Nat.reduceLeDiff, Nat.reduceEqDiff, Int.reduceToNat, e1]
        repeat' (first | (refine And.intro ?_ ?_) | intro _ | (refine callQ_intro (l1In_ok _ _ _) ?_; try (simp (disch := exact eqId (by kernel_rfl)) only [go_sem, ↓reduceIte, Nat.reduceAdd, Nat.reduceMul, Nat.reduceLT, Nat.reduceBEq, Nat.reduceLeDiff, Nat.reduceEqDiff, Int.reduceToNat])) | (refine callH_intro (fun hcc => l1In_ok _ _ _) ?_; try (simp (disch := exact eqId (by kernel_rfl)) only [go_sem, ↓reduceIte, Nat.reduceAdd, Nat.reduceMul, Nat.reduceLT, Nat.reduceBEq, Nat.reduceLeDiff, Nat.reduceEqDiff, Int.reduceToNat])))
        all_goals (try omega)
        · rename_i hk hc
          have hch : chG (List.length s.1 : Int) none s.2.1 = false := by
            rw [g2, drop_getD (show d < List.length s.2.1 by omega) (0, 0, 0, [], [], ()), chG_cons]
            rcases hc with hc | ⟨hd, hlt⟩
            · rw [show inB (List.getD s.2.1 d (0, 0, 0, [], [], ())).1 1 (List.length s.1 : Int) = false from by
                rw [inB_f]
                intro h
                rcases hc with hc | hc
                · exact hc h.1
                · exact hc h.2]
              rfl
            · rw [e1] at hlt
              unfold pvG
              rw [if_pos hd, show leG (some (List.getD s.2.1 ((d : Int) - 1).toNat (0, 0, 0, [], [], ())).1) (List.getD s.2.1 d (0, 0, 0, [], [], ())).1 = false from decide_eq_false (Int.not_le.mpr hlt)]
              simp
          unfold strB
          rw [hch]
          simp
        · rename_i hk hc
          have hk : d < List.length s.2.1 := by omega
          obtain ⟨hc, hd⟩ := hc
          rw [e1] at hd
          refine back_intro (d + 1) ?_ ?_ (sub_shp hN [(10000, some 10000)] ?_)
          · refine ⟨hk, ?_⟩
            rw [g2, drop_getD hk (0, 0, 0, [], [], ()), chG_cons, pvG_succ, show inB (List.getD s.2.1 d (0, 0, 0, [], [], ())).1 1 (List.length s.1 : Int) = true from by rw [inB_t]; exact hc, Bool.true_and]
            unfold pvG
            by_cases h0 : (d : Int) > 0
            · rw [if_pos h0, show leG (some (List.getD s.2.1 ((d : Int) - 1).toNat (0, 0, 0, [], [], ())).1) (List.getD s.2.1 d (0, 0, 0, [], [], ())).1 = true from decide_eq_true (Int.not_lt.mp (hd.resolve_left (fun hx => hx h0))), Bool.true_and]
            · rw [if_neg h0]
              rfl
          · omega
          · simp (disch := exact eqId (by kernel_rfl)) only [go_sem, ↓reduceIte, Nat.reduceAdd, Nat.reduceMul, Nat.reduceLT, Nat.reduceBEq, Nat.reduceLeDiff, Nat.reduceEqDiff, Int.reduceToNat]
            exact wrap_succ hk hw.1.2.1.1
        · rename_i hk
          have hch : chG (List.length s.1 : Int) none s.2.1 = true := by rw [g2, drop_end (show List.length s.2.1 ≤ d by omega), chG_nil]
          unfold strB
          rw [hn, hch]
          simp [inB]
          exact congrArg _ (decide_eq_decide.mpr (by omega))
end Go.Proofs.Yteemfgdkmjmolaa
