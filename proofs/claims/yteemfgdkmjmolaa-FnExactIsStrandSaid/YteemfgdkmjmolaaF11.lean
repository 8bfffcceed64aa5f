/- What the functions of ordered lists and frames answer, on both sides. It proves nothing of a statement by itself. -/
import Derived.Test.YteemfgdkmjmolaaF7
set_option linter.unusedSimpArgs false
set_option linter.unusedVariables false
set_option maxRecDepth 100000
namespace Go.Proofs.Yteemfgdkmjmolaa
open Go.AL
def ltG : Option Int → Int → Bool
  | none, _ => true
  | some m, y => decide (m < y)
def areG {α : Type} (p : α → Bool) (n : α → Int) : Option Int → List α → Bool
  | _, [] => true
  | pr, x :: xs => p x && (ltG pr (n x) && areG p n (some (n x)) xs)
theorem areG_cons {α : Type} (p : α → Bool) (n : α → Int) (pr : Option Int) (x : α) (xs : List α) : areG p n pr (x :: xs) = (p x && (ltG pr (n x) && areG p n (some (n x)) xs)) := by cases pr <;> rfl
theorem areG_nil {α : Type} (p : α → Bool) (n : α → Int) (pr : Option Int) : areG p n pr [] = true := by cases pr <;> rfl
def pvG {α : Type} (n : α → Int) (df : α) (l : List α) (k : Nat) : Option Int := if (k : Int) > 0 then some (n (l.getD ((k : Int) - 1).toNat df)) else none
theorem pvG_succ {α : Type} (n : α → Int) (df : α) (l : List α) (k : Nat) : pvG n df l (k + 1) = some (n (l.getD k df)) := by
  unfold pvG
  rw [if_pos (by omega), show (((k + 1 : Nat) : Int) - 1).toNat = k by omega]
def metB (m : tMethod.den) : Bool := inB m.1 0 99 && inB m.2.1 0 10000 && inB m.2.2.1 1 10001 && inB m.2.2.2.1 1 10001 && decide (m.2.1 < m.2.2.1) && decide (m.2.1 < m.2.2.2.1)
def autB (m : tAuthority.den) : Bool := inB m.1 0 99 && inB m.2.1 1 99 && inB m.2.2.1 0 100
theorem impl_IsMethod_ok (k : tMethod.den) : FunOK Try.prog 197 [⟨tMethod, k⟩] (.rd .bool (metB k)) := by
  refine fun_of (tb := tb) follows Try.func197 (by kernel_rfl) Try.ntmps197 rfl rfl rfl ?_
  intro cx hN hw
  simp (disch := exact eqId (by kernel_rfl)) only [go_sem, ↓reduceIte, Nat.reduceAdd, Nat.reduceMul, Nat.reduceLT, Nat.reduceBEq, Nat.reduceLeDiff, Nat.reduceEqDiff, Int.reduceToNat]
  repeat' (first | (refine And.intro ?_ ?_) | intro _ | (refine callQ_intro (inRange_ok _ _ _) ?_; try (simp (disch := exact eqId (by kernel_rfl)) only [go_sem, ↓reduceIte, Nat.reduceAdd, Nat.reduceMul, Nat.reduceLT, Nat.reduceBEq, Nat.reduceLeDiff, Nat.reduceEqDiff, Int.reduceToNat])) | (refine callH_intro (fun hcc => inRange_ok _ _ _) ?_; try (simp (disch := exact eqId (by kernel_rfl)) only [go_sem, ↓reduceIte, Nat.reduceAdd, Nat.reduceMul, Nat.reduceLT, Nat.reduceBEq, Nat.reduceLeDiff, Nat.reduceEqDiff, Int.reduceToNat])) | (refine callQ_intro (impl_isTime_ok _) ?_; try (simp (disch := exact eqId (by kernel_rfl)) only [go_sem, ↓reduceIte, Nat.reduceAdd, Nat.reduceMul, Nat.reduceLT, Nat.reduceBEq, Nat.reduceLeDiff, Nat.reduceEqDiff, Int.reduceToNat])) | (refine callH_intro (fun hcc => impl_isTime_ok _) ?_; try (simp (disch := exact eqId (by kernel_rfl)) only [go_sem, ↓reduceIte, Nat.reduceAdd, Nat.reduceMul, Nat.reduceLT, Nat.reduceBEq, Nat.reduceLeDiff, Nat.reduceEqDiff, Int.reduceToNat])))
  all_goals (try (simp_all [metB, inB]; done))
theorem spec_IsMethod_ok (k : tMethod.den) : FunOK Try.prog 195 [⟨tMethod, k⟩] (.rd .bool (metB k)) := by
  refine fun_of (tb := tb) follows Try.func195 (by kernel_rfl) Try.ntmps195 rfl rfl rfl ?_
  intro cx hN hw
  simp (disch := exact eqId (by kernel_rfl)) only [go_sem, ↓reduceIte, Nat.reduceAdd, Nat.reduceMul, Nat.reduceLT, Nat.reduceBEq, Nat.reduceLeDiff, Nat.reduceEqDiff, Int.reduceToNat]
  repeat' (first | (refine And.intro ?_ ?_) | intro _ | (refine callQ_intro (l1In_ok _ _ _) ?_; try (simp (disch := exact eqId (by kernel_rfl)) only [go_sem, ↓reduceIte, Nat.reduceAdd, Nat.reduceMul, Nat.reduceLT, Nat.reduceBEq, Nat.reduceLeDiff, Nat.reduceEqDiff, Int.reduceToNat])) | (refine callH_intro (fun hcc => l1In_ok _ _ _) ?_; try (simp (disch := exact eqId (by kernel_rfl)) only [go_sem, ↓reduceIte, Nat.reduceAdd, Nat.reduceMul, Nat.reduceLT, Nat.reduceBEq, Nat.reduceLeDiff, Nat.reduceEqDiff, Int.reduceToNat])) | (refine callQ_intro (spec_l4Time_ok _) ?_; try (simp (disch := exact eqId (by kernel_rfl)) only [go_sem, ↓reduceIte, Nat.reduceAdd, Nat.reduceMul, Nat.reduceLT, Nat.reduceBEq, Nat.reduceLeDiff, Nat.reduceEqDiff, Int.reduceToNat])) | (refine callH_intro (fun hcc => spec_l4Time_ok _) ?_; try (simp (disch := exact eqId (by kernel_rfl)) only [go_sem, ↓reduceIte, Nat.reduceAdd, Nat.reduceMul, Nat.reduceLT, Nat.reduceBEq, Nat.reduceLeDiff, Nat.reduceEqDiff, Int.reduceToNat])))
  all_goals (try (simp_all [metB, inB]; done))
theorem impl_AreKeys_ok (l : List tKey.den) : FunOK Try.prog 106 [⟨(.list tKey), l⟩] (.rd .bool (areG keyB (fun x => x.1) none l && decide (l.length ≤ 12))) := by
  refine fun_of (tb := tb) follows Try.func106 (by kernel_rfl) Try.ntmps106 rfl rfl rfl ?_
  intro cx hN hw
  have hm : maxLen = 9223372036854775807 := rfl
  have hl : l.length ≤ maxLen := hw.1.1
  simp (disch := exact eqId (by kernel_rfl)) only [go_sem, ↓reduceIte, Nat.reduceAdd, Nat.reduceMul, Nat.reduceLT, Nat.reduceBEq, Nat.reduceLeDiff, Nat.reduceEqDiff, Int.reduceToNat]
  refine loop_intro (tb := tb) follows hN (D := Nat) (fun d => shp [(0, .rd (.list tKey) (l)), (5, .rd (.list tKey) (l)), (6, .rd I (((l).length : Int) : Int)), (7, .rd I (d : Int))] []) (fun d => d ≤ l.length ∧ areG keyB (fun x => x.1) none l = areG keyB (fun x => x.1) (pvG (fun x : tKey.den => (x.1 : Int)) (0, 0, 0, 0, 0, ()) l d) (l.drop d)) (fun d => l.length - d) (0) ?_ (sub_shp hN [] ?_) (fun d hd => ?_)
  · exact ⟨Nat.zero_le _, rfl⟩
  · simp (disch := exact eqId (by kernel_rfl)) only [go_sem, ↓reduceIte, Nat.reduceAdd, Nat.reduceMul, Nat.reduceLT, Nat.reduceBEq, Nat.reduceLeDiff, Nat.reduceEqDiff, Int.reduceToNat]
    try rfl
  · obtain ⟨h1, h2⟩ := hd
    have e1 : IntKind.i64.wrap ((d : Int) - 1) = (d : Int) - 1 := wrap_i64 (by omega) (by omega)
    simp (disch := exact eqId (by kernel_rfl)) only [go_sem, ↓reduceIte, Nat.reduceAdd, Nat.reduceMul, Nat.reduceLT, Nat.reduceBEq, Nat.reduceLeDiff, Nat.reduceEqDiff, Int.reduceToNat, e1]
    repeat' (first | (refine And.intro ?_ ?_) | intro _ | (refine callQ_intro (impl_IsKey_ok _) ?_; try (simp (disch := exact eqId (by kernel_rfl)) only [go_sem, ↓reduceIte, Nat.reduceAdd, Nat.reduceMul, Nat.reduceLT, Nat.reduceBEq, Nat.reduceLeDiff, Nat.reduceEqDiff, Int.reduceToNat])) | (refine callH_intro (fun hcc => impl_IsKey_ok _) ?_; try (simp (disch := exact eqId (by kernel_rfl)) only [go_sem, ↓reduceIte, Nat.reduceAdd, Nat.reduceMul, Nat.reduceLT, Nat.reduceBEq, Nat.reduceLeDiff, Nat.reduceEqDiff, Int.reduceToNat])))
    all_goals (try omega)
    · rename_i hk hc
      rw [h2, drop_getD (show d < l.length by omega) (0, 0, 0, 0, 0, ()), areG_cons]
      rcases hc with hc | ⟨hd, hge⟩
      · have hc' : keyB (l.getD d (0, 0, 0, 0, 0, ())) = false := by first | exact hc | (simp [keyB, inB]; omega) | (simp only [keyB, inB, Bool.and_eq_false_iff, decide_eq_false_iff_not]; omega)
        rw [hc']
        rfl
      · rw [e1] at hge
        unfold pvG
        rw [if_pos hd]
        have h9 : ltG (some (l.getD ((d : Int) - 1).toNat (0, 0, 0, 0, 0, ())).1) (l.getD d (0, 0, 0, 0, 0, ())).1 = false := decide_eq_false (fun hx => absurd hx (Int.not_lt.mpr hge))
        rw [h9]
        simp
    · rename_i hk hc
      have hk : d < l.length := by omega
      obtain ⟨hc, hd⟩ := hc
      have hc' : keyB (l.getD d (0, 0, 0, 0, 0, ())) = true := by first | exact hc | (simp only [keyB, inB, Bool.and_eq_true, decide_eq_true_eq]; exact hc) | (simp [keyB, inB]; omega)
      rw [e1] at hd
      refine back_intro (d + 1) ?_ ?_ (sub_shp hN [] ?_)
      · refine ⟨hk, ?_⟩
        rw [h2, drop_getD hk (0, 0, 0, 0, 0, ()), areG_cons, pvG_succ, hc', Bool.true_and]
        unfold pvG
        by_cases h0 : (d : Int) > 0
        · rw [if_pos h0]
          have h9 : ltG (some (l.getD ((d : Int) - 1).toNat (0, 0, 0, 0, 0, ())).1) (l.getD d (0, 0, 0, 0, 0, ())).1 = true := decide_eq_true (Int.not_le.mp (hd.resolve_left (fun hx => hx h0)))
          rw [h9, Bool.true_and]
        · rw [if_neg h0]
          rfl
      · omega
      · simp (disch := exact eqId (by kernel_rfl)) only [go_sem, ↓reduceIte, Nat.reduceAdd, Nat.reduceMul, Nat.reduceLT, Nat.reduceBEq, Nat.reduceLeDiff, Nat.reduceEqDiff, Int.reduceToNat]
        exact wrap_succ hk hw.1.1
    · rename_i hk
      rw [h2, drop_end (show l.length ≤ d by omega), areG_nil, Bool.true_and]
      exact decide_eq_decide.mpr (by omega)
theorem impl_AreMethods_ok (l : List tMethod.den) : FunOK Try.prog 108 [⟨(.list tMethod), l⟩] (.rd .bool (areG metB (fun x => x.1) none l && decide (l.length ≤ 8))) := by
  refine fun_of (tb := tb) follows Try.func108 (by kernel_rfl) Try.ntmps108 rfl rfl rfl ?_
  intro cx hN hw
  have hm : maxLen = 9223372036854775807 := rfl
  have hl : l.length ≤ maxLen := hw.1.1
  simp (disch := exact eqId (by kernel_rfl)) only [go_sem, ↓reduceIte, Nat.reduceAdd, Nat.reduceMul, Nat.reduceLT, Nat.reduceBEq, Nat.reduceLeDiff, Nat.reduceEqDiff, Int.reduceToNat]
  refine loop_intro (tb := tb) follows hN (D := Nat) (fun d => shp [(0, .rd (.list tMethod) (l)), (5, .rd (.list tMethod) (l)), (6, .rd I (((l).length : Int) : Int)), (7, .rd I (d : Int))] []) (fun d => d ≤ l.length ∧ areG metB (fun x => x.1) none l = areG metB (fun x => x.1) (pvG (fun x : tMethod.den => (x.1 : Int)) (0, 0, 0, 0, ()) l d) (l.drop d)) (fun d => l.length - d) (0) ?_ (sub_shp hN [] ?_) (fun d hd => ?_)
  · exact ⟨Nat.zero_le _, rfl⟩
  · simp (disch := exact eqId (by kernel_rfl)) only [go_sem, ↓reduceIte, Nat.reduceAdd, Nat.reduceMul, Nat.reduceLT, Nat.reduceBEq, Nat.reduceLeDiff, Nat.reduceEqDiff, Int.reduceToNat]
    try rfl
  · obtain ⟨h1, h2⟩ := hd
    have e1 : IntKind.i64.wrap ((d : Int) - 1) = (d : Int) - 1 := wrap_i64 (by omega) (by omega)
    simp (disch := exact eqId (by kernel_rfl)) only [go_sem, ↓reduceIte, Nat.reduceAdd, Nat.reduceMul, Nat.reduceLT, Nat.reduceBEq, Nat.reduceLeDiff, Nat.reduceEqDiff, Int.reduceToNat, e1]
    repeat' (first | (refine And.intro ?_ ?_) | intro _ | (refine callQ_intro (impl_IsMethod_ok _) ?_; try (simp (disch := exact eqId (by kernel_rfl)) only [go_sem, ↓reduceIte, Nat.reduceAdd, Nat.reduceMul, Nat.reduceLT, Nat.reduceBEq, Nat.reduceLeDiff, Nat.reduceEqDiff, Int.reduceToNat])) | (refine callH_intro (fun hcc => impl_IsMethod_ok _) ?_; try (simp (disch := exact eqId (by kernel_rfl)) only [go_sem, ↓reduceIte, Nat.reduceAdd, Nat.reduceMul, Nat.reduceLT, Nat.reduceBEq, Nat.reduceLeDiff, Nat.reduceEqDiff, Int.reduceToNat])))
    all_goals (try omega)
    · rename_i hk hc
      rw [h2, drop_getD (show d < l.length by omega) (0, 0, 0, 0, ()), areG_cons]
      rcases hc with hc | ⟨hd, hge⟩
      · have hc' : metB (l.getD d (0, 0, 0, 0, ())) = false := by first | exact hc | (simp [metB, inB]; omega) | (simp only [metB, inB, Bool.and_eq_false_iff, decide_eq_false_iff_not]; omega)
        rw [hc']
        rfl
      · rw [e1] at hge
        unfold pvG
        rw [if_pos hd]
        have h9 : ltG (some (l.getD ((d : Int) - 1).toNat (0, 0, 0, 0, ())).1) (l.getD d (0, 0, 0, 0, ())).1 = false := decide_eq_false (fun hx => absurd hx (Int.not_lt.mpr hge))
        rw [h9]
        simp
    · rename_i hk hc
      have hk : d < l.length := by omega
      obtain ⟨hc, hd⟩ := hc
      have hc' : metB (l.getD d (0, 0, 0, 0, ())) = true := by first | exact hc | (simp only [metB, inB, Bool.and_eq_true, decide_eq_true_eq]; exact hc) | (simp [metB, inB]; omega)
      rw [e1] at hd
      refine back_intro (d + 1) ?_ ?_ (sub_shp hN [] ?_)
      · refine ⟨hk, ?_⟩
        rw [h2, drop_getD hk (0, 0, 0, 0, ()), areG_cons, pvG_succ, hc', Bool.true_and]
        unfold pvG
        by_cases h0 : (d : Int) > 0
        · rw [if_pos h0]
          have h9 : ltG (some (l.getD ((d : Int) - 1).toNat (0, 0, 0, 0, ())).1) (l.getD d (0, 0, 0, 0, ())).1 = true := decide_eq_true (Int.not_le.mp (hd.resolve_left (fun hx => hx h0)))
          rw [h9, Bool.true_and]
        · rw [if_neg h0]
          rfl
      · omega
      · simp (disch := exact eqId (by kernel_rfl)) only [go_sem, ↓reduceIte, Nat.reduceAdd, Nat.reduceMul, Nat.reduceLT, Nat.reduceBEq, Nat.reduceLeDiff, Nat.reduceEqDiff, Int.reduceToNat]
        exact wrap_succ hk hw.1.1
    · rename_i hk
      rw [h2, drop_end (show l.length ≤ d by omega), areG_nil, Bool.true_and]
      exact decide_eq_decide.mpr (by omega)
theorem impl_AreAuthorities_ok (l : List tAuthority.den) : FunOK Try.prog 107 [⟨(.list tAuthority), l⟩] (.rd .bool (areG autB (fun x => x.1) none l && decide (l.length ≤ 6))) := by
  refine fun_of (tb := tb) follows Try.func107 (by kernel_rfl) Try.ntmps107 rfl rfl rfl ?_
  intro cx hN hw
  have hm : maxLen = 9223372036854775807 := rfl
  have hl : l.length ≤ maxLen := hw.1.1
  simp (disch := exact eqId (by kernel_rfl)) only [go_sem, ↓reduceIte, Nat.reduceAdd, Nat.reduceMul, Nat.reduceLT, Nat.reduceBEq, Nat.reduceLeDiff, Nat.reduceEqDiff, Int.reduceToNat]
  refine loop_intro (tb := tb) follows hN (D := Nat) (fun d => shp [(0, .rd (.list tAuthority) (l)), (5, .rd (.list tAuthority) (l)), (6, .rd I (((l).length : Int) : Int)), (7, .rd I (d : Int))] []) (fun d => d ≤ l.length ∧ areG autB (fun x => x.1) none l = areG autB (fun x => x.1) (pvG (fun x : tAuthority.den => (x.1 : Int)) (0, 0, 0, ()) l d) (l.drop d)) (fun d => l.length - d) (0) ?_ (sub_shp hN [] ?_) (fun d hd => ?_)
  · exact ⟨Nat.zero_le _, rfl⟩
  · simp (disch := exact eqId (by kernel_rfl)) only [go_sem, ↓reduceIte, Nat.reduceAdd, Nat.reduceMul, Nat.reduceLT, Nat.reduceBEq, Nat.reduceLeDiff, Nat.reduceEqDiff, Int.reduceToNat]
    try rfl
  · obtain ⟨h1, h2⟩ := hd
    have e1 : IntKind.i64.wrap ((d : Int) - 1) = (d : Int) - 1 := wrap_i64 (by omega) (by omega)
    simp (disch := exact eqId (by kernel_rfl)) only [go_sem, ↓reduceIte, Nat.reduceAdd, Nat.reduceMul, Nat.reduceLT, Nat.reduceBEq, Nat.reduceLeDiff, Nat.reduceEqDiff, Int.reduceToNat, e1]
    repeat' (first | (refine And.intro ?_ ?_) | intro _ | (refine callQ_intro (inRange_ok _ _ _) ?_; try (simp (disch := exact eqId (by kernel_rfl)) only [go_sem, ↓reduceIte, Nat.reduceAdd, Nat.reduceMul, Nat.reduceLT, Nat.reduceBEq, Nat.reduceLeDiff, Nat.reduceEqDiff, Int.reduceToNat])) | (refine callH_intro (fun hcc => inRange_ok _ _ _) ?_; try (simp (disch := exact eqId (by kernel_rfl)) only [go_sem, ↓reduceIte, Nat.reduceAdd, Nat.reduceMul, Nat.reduceLT, Nat.reduceBEq, Nat.reduceLeDiff, Nat.reduceEqDiff, Int.reduceToNat])))
    all_goals (try omega)
    · rename_i hk hc
      rw [h2, drop_getD (show d < l.length by omega) (0, 0, 0, ()), areG_cons]
      rcases hc with hc | ⟨hd, hge⟩
      · have hc' : autB (l.getD d (0, 0, 0, ())) = false := by first | exact hc | (simp [autB, inB]; omega) | (simp only [autB, inB, Bool.and_eq_false_iff, decide_eq_false_iff_not]; omega)
        rw [hc']
        rfl
      · rw [e1] at hge
        unfold pvG
        rw [if_pos hd]
        have h9 : ltG (some (l.getD ((d : Int) - 1).toNat (0, 0, 0, ())).1) (l.getD d (0, 0, 0, ())).1 = false := decide_eq_false (fun hx => absurd hx (Int.not_lt.mpr hge))
        rw [h9]
        simp
    · rename_i hk hc
      have hk : d < l.length := by omega
      obtain ⟨hc, hd⟩ := hc
      have hc' : autB (l.getD d (0, 0, 0, ())) = true := by first | exact hc | (simp only [autB, inB, Bool.and_eq_true, decide_eq_true_eq]; exact hc) | (simp [autB, inB]; omega)
      rw [e1] at hd
      refine back_intro (d + 1) ?_ ?_ (sub_shp hN [] ?_)
      · refine ⟨hk, ?_⟩
        rw [h2, drop_getD hk (0, 0, 0, ()), areG_cons, pvG_succ, hc', Bool.true_and]
        unfold pvG
        by_cases h0 : (d : Int) > 0
        · rw [if_pos h0]
          have h9 : ltG (some (l.getD ((d : Int) - 1).toNat (0, 0, 0, ())).1) (l.getD d (0, 0, 0, ())).1 = true := decide_eq_true (Int.not_le.mp (hd.resolve_left (fun hx => hx h0)))
          rw [h9, Bool.true_and]
        · rw [if_neg h0]
          rfl
      · omega
      · simp (disch := exact eqId (by kernel_rfl)) only [go_sem, ↓reduceIte, Nat.reduceAdd, Nat.reduceMul, Nat.reduceLT, Nat.reduceBEq, Nat.reduceLeDiff, Nat.reduceEqDiff, Int.reduceToNat]
        exact wrap_succ hk hw.1.1
    · rename_i hk
      rw [h2, drop_end (show l.length ≤ d by omega), areG_nil, Bool.true_and]
      exact decide_eq_decide.mpr (by omega)
theorem spec_AreKeys_ok (l : List tKey.den) : FunOK Try.prog 101 [⟨(.list tKey), l⟩] (.rd .bool (areG keyB (fun x => x.1) none l && decide (l.length ≤ 12))) := by
  refine fun_of (tb := tb) follows Try.func101 (by kernel_rfl) Try.ntmps101 rfl rfl rfl ?_
  intro cx hN hw
  have hm : maxLen = 9223372036854775807 := rfl
  have hl : l.length ≤ maxLen := hw.1.1
  simp (disch := exact eqId (by kernel_rfl)) only [go_sem, ↓reduceIte, Nat.reduceAdd, Nat.reduceMul, Nat.reduceLT, Nat.reduceBEq, Nat.reduceLeDiff, Nat.reduceEqDiff, Int.reduceToNat]
  refine loop_intro (tb := tb) follows hN (D := Nat) (fun d => shp [(0, .rd (.list tKey) (l)), (3, .rd I (d : Int))] []) (fun d => d ≤ l.length ∧ areG keyB (fun x => x.1) none l = areG keyB (fun x => x.1) (pvG (fun x : tKey.den => (x.1 : Int)) (0, 0, 0, 0, 0, ()) l d) (l.drop d)) (fun d => l.length - d) (0) ?_ (sub_shp hN [] ?_) (fun d hd => ?_)
  · exact ⟨Nat.zero_le _, rfl⟩
  · simp (disch := exact eqId (by kernel_rfl)) only [go_sem, ↓reduceIte, Nat.reduceAdd, Nat.reduceMul, Nat.reduceLT, Nat.reduceBEq, Nat.reduceLeDiff, Nat.reduceEqDiff, Int.reduceToNat]
    try rfl
  · obtain ⟨h1, h2⟩ := hd
    have e1 : IntKind.i64.wrap ((d : Int) - 1) = (d : Int) - 1 := wrap_i64 (by omega) (by omega)
    simp (disch := exact eqId (by kernel_rfl)) only [go_sem, ↓reduceIte, Nat.reduceAdd, Nat.reduceMul, Nat.reduceLT, Nat.reduceBEq, Nat.reduceLeDiff, Nat.reduceEqDiff, Int.reduceToNat, e1]
    repeat' (first | (refine And.intro ?_ ?_) | intro _ | (refine callQ_intro (spec_IsKey_ok _) ?_; try (simp (disch := exact eqId (by kernel_rfl)) only [go_sem, ↓reduceIte, Nat.reduceAdd, Nat.reduceMul, Nat.reduceLT, Nat.reduceBEq, Nat.reduceLeDiff, Nat.reduceEqDiff, Int.reduceToNat])) | (refine callH_intro (fun hcc => spec_IsKey_ok _) ?_; try (simp (disch := exact eqId (by kernel_rfl)) only [go_sem, ↓reduceIte, Nat.reduceAdd, Nat.reduceMul, Nat.reduceLT, Nat.reduceBEq, Nat.reduceLeDiff, Nat.reduceEqDiff, Int.reduceToNat])))
    all_goals (try omega)
    · rename_i hk hc
      rw [h2, drop_getD (show d < l.length by omega) (0, 0, 0, 0, 0, ()), areG_cons]
      rcases hc with hc | ⟨hd, hge⟩
      · have hc' : keyB (l.getD d (0, 0, 0, 0, 0, ())) = false := by first | exact hc | (simp [keyB, inB]; omega) | (simp only [keyB, inB, Bool.and_eq_false_iff, decide_eq_false_iff_not]; omega)
        rw [hc']
        rfl
      · rw [e1] at hge
        unfold pvG
        rw [if_pos hd]
        have h9 : ltG (some (l.getD ((d : Int) - 1).toNat (0, 0, 0, 0, 0, ())).1) (l.getD d (0, 0, 0, 0, 0, ())).1 = false := decide_eq_false (fun hx => absurd hx (Int.not_lt.mpr hge))
        rw [h9]
        simp
    · rename_i hk hc
      have hk : d < l.length := by omega
      obtain ⟨hc, hd⟩ := hc
      have hc' : keyB (l.getD d (0, 0, 0, 0, 0, ())) = true := by first | exact hc | (simp only [keyB, inB, Bool.and_eq_true, decide_eq_true_eq]; exact hc) | (simp [keyB, inB]; omega)
      rw [e1] at hd
      refine back_intro (d + 1) ?_ ?_ (sub_shp hN [] ?_)
      · refine ⟨hk, ?_⟩
        rw [h2, drop_getD hk (0, 0, 0, 0, 0, ()), areG_cons, pvG_succ, hc', Bool.true_and]
        unfold pvG
        by_cases h0 : (d : Int) > 0
        · rw [if_pos h0]
          have h9 : ltG (some (l.getD ((d : Int) - 1).toNat (0, 0, 0, 0, 0, ())).1) (l.getD d (0, 0, 0, 0, 0, ())).1 = true := decide_eq_true (Int.not_le.mp (hd.resolve_left (fun hx => hx h0)))
          rw [h9, Bool.true_and]
        · rw [if_neg h0]
          rfl
      · omega
      · simp (disch := exact eqId (by kernel_rfl)) only [go_sem, ↓reduceIte, Nat.reduceAdd, Nat.reduceMul, Nat.reduceLT, Nat.reduceBEq, Nat.reduceLeDiff, Nat.reduceEqDiff, Int.reduceToNat]
        exact wrap_succ hk hw.1.1
    · rename_i hk
      rw [h2, drop_end (show l.length ≤ d by omega), areG_nil, Bool.true_and]
      exact decide_eq_decide.mpr (by omega)
theorem spec_AreMethods_ok (l : List tMethod.den) : FunOK Try.prog 103 [⟨(.list tMethod), l⟩] (.rd .bool (areG metB (fun x => x.1) none l && decide (l.length ≤ 8))) := by
  refine fun_of (tb := tb) follows Try.func103 (by kernel_rfl) Try.ntmps103 rfl rfl rfl ?_
  intro cx hN hw
  have hm : maxLen = 9223372036854775807 := rfl
  have hl : l.length ≤ maxLen := hw.1.1
  simp (disch := exact eqId (by kernel_rfl)) only [go_sem, ↓reduceIte, Nat.reduceAdd, Nat.reduceMul, Nat.reduceLT, Nat.reduceBEq, Nat.reduceLeDiff, Nat.reduceEqDiff, Int.reduceToNat]
  refine loop_intro (tb := tb) follows hN (D := Nat) (fun d => shp [(0, .rd (.list tMethod) (l)), (3, .rd I (d : Int))] []) (fun d => d ≤ l.length ∧ areG metB (fun x => x.1) none l = areG metB (fun x => x.1) (pvG (fun x : tMethod.den => (x.1 : Int)) (0, 0, 0, 0, ()) l d) (l.drop d)) (fun d => l.length - d) (0) ?_ (sub_shp hN [] ?_) (fun d hd => ?_)
  · exact ⟨Nat.zero_le _, rfl⟩
  · simp (disch := exact eqId (by kernel_rfl)) only [go_sem, ↓reduceIte, Nat.reduceAdd, Nat.reduceMul, Nat.reduceLT, Nat.reduceBEq, Nat.reduceLeDiff, Nat.reduceEqDiff, Int.reduceToNat]
    try rfl
  · obtain ⟨h1, h2⟩ := hd
    have e1 : IntKind.i64.wrap ((d : Int) - 1) = (d : Int) - 1 := wrap_i64 (by omega) (by omega)
    simp (disch := exact eqId (by kernel_rfl)) only [go_sem, ↓reduceIte, Nat.reduceAdd, Nat.reduceMul, Nat.reduceLT, Nat.reduceBEq, Nat.reduceLeDiff, Nat.reduceEqDiff, Int.reduceToNat, e1]
    repeat' (first | (refine And.intro ?_ ?_) | intro _ | (refine callQ_intro (spec_IsMethod_ok _) ?_; try (simp (disch := exact eqId (by kernel_rfl)) only [go_sem, ↓reduceIte, Nat.reduceAdd, Nat.reduceMul, Nat.reduceLT, Nat.reduceBEq, Nat.reduceLeDiff, Nat.reduceEqDiff, Int.reduceToNat])) | (refine callH_intro (fun hcc => spec_IsMethod_ok _) ?_; try (simp (disch := exact eqId (by kernel_rfl)) only [go_sem, ↓reduceIte, Nat.reduceAdd, Nat.reduceMul, Nat.reduceLT, Nat.reduceBEq, Nat.reduceLeDiff, Nat.reduceEqDiff, Int.reduceToNat])))
    all_goals (try omega)
    · rename_i hk hc
      rw [h2, drop_getD (show d < l.length by omega) (0, 0, 0, 0, ()), areG_cons]
      rcases hc with hc | ⟨hd, hge⟩
      · have hc' : metB (l.getD d (0, 0, 0, 0, ())) = false := by first | exact hc | (simp [metB, inB]; omega) | (simp only [metB, inB, Bool.and_eq_false_iff, decide_eq_false_iff_not]; omega)
        rw [hc']
        rfl
      · rw [e1] at hge
        unfold pvG
        rw [if_pos hd]
        have h9 : ltG (some (l.getD ((d : Int) - 1).toNat (0, 0, 0, 0, ())).1) (l.getD d (0, 0, 0, 0, ())).1 = false := decide_eq_false (fun hx => absurd hx (Int.not_lt.mpr hge))
        rw [h9]
        simp
    · rename_i hk hc
      have hk : d < l.length := by omega
      obtain ⟨hc, hd⟩ := hc
      have hc' : metB (l.getD d (0, 0, 0, 0, ())) = true := by first | exact hc | (simp only [metB, inB, Bool.and_eq_true, decide_eq_true_eq]; exact hc) | (simp [metB, inB]; omega)
      rw [e1] at hd
      refine back_intro (d + 1) ?_ ?_ (sub_shp hN [] ?_)
      · refine ⟨hk, ?_⟩
        rw [h2, drop_getD hk (0, 0, 0, 0, ()), areG_cons, pvG_succ, hc', Bool.true_and]
        unfold pvG
        by_cases h0 : (d : Int) > 0
        · rw [if_pos h0]
          have h9 : ltG (some (l.getD ((d : Int) - 1).toNat (0, 0, 0, 0, ())).1) (l.getD d (0, 0, 0, 0, ())).1 = true := decide_eq_true (Int.not_le.mp (hd.resolve_left (fun hx => hx h0)))
          rw [h9, Bool.true_and]
        · rw [if_neg h0]
          rfl
      · omega
      · simp (disch := exact eqId (by kernel_rfl)) only [go_sem, ↓reduceIte, Nat.reduceAdd, Nat.reduceMul, Nat.reduceLT, Nat.reduceBEq, Nat.reduceLeDiff, Nat.reduceEqDiff, Int.reduceToNat]
        exact wrap_succ hk hw.1.1
    · rename_i hk
      rw [h2, drop_end (show l.length ≤ d by omega), areG_nil, Bool.true_and]
      exact decide_eq_decide.mpr (by omega)
theorem spec_AreAuthorities_ok (l : List tAuthority.den) : FunOK Try.prog 102 [⟨(.list tAuthority), l⟩] (.rd .bool (areG autB (fun x => x.1) none l && decide (l.length ≤ 6))) := by
  refine fun_of (tb := tb) follows Try.func102 (by kernel_rfl) Try.ntmps102 rfl rfl rfl ?_
  intro cx hN hw
  have hm : maxLen = 9223372036854775807 := rfl
  have hl : l.length ≤ maxLen := hw.1.1
  simp (disch := exact eqId (by kernel_rfl)) only [go_sem, ↓reduceIte, Nat.reduceAdd, Nat.reduceMul, Nat.reduceLT, Nat.reduceBEq, Nat.reduceLeDiff, Nat.reduceEqDiff, Int.reduceToNat]
  refine loop_intro (tb := tb) follows hN (D := Nat) (fun d => shp [(0, .rd (.list tAuthority) (l)), (3, .rd I (d : Int))] []) (fun d => d ≤ l.length ∧ areG autB (fun x => x.1) none l = areG autB (fun x => x.1) (pvG (fun x : tAuthority.den => (x.1 : Int)) (0, 0, 0, ()) l d) (l.drop d)) (fun d => l.length - d) (0) ?_ (sub_shp hN [] ?_) (fun d hd => ?_)
  · exact ⟨Nat.zero_le _, rfl⟩
  · simp (disch := exact eqId (by kernel_rfl)) only [go_sem, ↓reduceIte, Nat.reduceAdd, Nat.reduceMul, Nat.reduceLT, Nat.reduceBEq, Nat.reduceLeDiff, Nat.reduceEqDiff, Int.reduceToNat]
    try rfl
  · obtain ⟨h1, h2⟩ := hd
    have e1 : IntKind.i64.wrap ((d : Int) - 1) = (d : Int) - 1 := wrap_i64 (by omega) (by omega)
    simp (disch := exact eqId (by kernel_rfl)) only [go_sem, ↓reduceIte, Nat.reduceAdd, Nat.reduceMul, Nat.reduceLT, Nat.reduceBEq, Nat.reduceLeDiff, Nat.reduceEqDiff, Int.reduceToNat, e1]
    repeat' (first | (refine And.intro ?_ ?_) | intro _ | (refine callQ_intro (l1In_ok _ _ _) ?_; try (simp (disch := exact eqId (by kernel_rfl)) only [go_sem, ↓reduceIte, Nat.reduceAdd, Nat.reduceMul, Nat.reduceLT, Nat.reduceBEq, Nat.reduceLeDiff, Nat.reduceEqDiff, Int.reduceToNat])) | (refine callH_intro (fun hcc => l1In_ok _ _ _) ?_; try (simp (disch := exact eqId (by kernel_rfl)) only [go_sem, ↓reduceIte, Nat.reduceAdd, Nat.reduceMul, Nat.reduceLT, Nat.reduceBEq, Nat.reduceLeDiff, Nat.reduceEqDiff, Int.reduceToNat])))
    all_goals (try omega)
    · rename_i hk hc
      rw [h2, drop_getD (show d < l.length by omega) (0, 0, 0, ()), areG_cons]
      rcases hc with hc | ⟨hd, hge⟩
      · have hc' : autB (l.getD d (0, 0, 0, ())) = false := by first | exact hc | (simp [autB, inB]; omega) | (simp only [autB, inB, Bool.and_eq_false_iff, decide_eq_false_iff_not]; omega)
        rw [hc']
        rfl
      · rw [e1] at hge
        unfold pvG
        rw [if_pos hd]
        have h9 : ltG (some (l.getD ((d : Int) - 1).toNat (0, 0, 0, ())).1) (l.getD d (0, 0, 0, ())).1 = false := decide_eq_false (fun hx => absurd hx (Int.not_lt.mpr hge))
        rw [h9]
        simp
    · rename_i hk hc
      have hk : d < l.length := by omega
      obtain ⟨hc, hd⟩ := hc
      have hc' : autB (l.getD d (0, 0, 0, ())) = true := by first | exact hc | (simp only [autB, inB, Bool.and_eq_true, decide_eq_true_eq]; exact hc) | (simp [autB, inB]; omega)
      rw [e1] at hd
      refine back_intro (d + 1) ?_ ?_ (sub_shp hN [] ?_)
      · refine ⟨hk, ?_⟩
        rw [h2, drop_getD hk (0, 0, 0, ()), areG_cons, pvG_succ, hc', Bool.true_and]
        unfold pvG
        by_cases h0 : (d : Int) > 0
        · rw [if_pos h0]
          have h9 : ltG (some (l.getD ((d : Int) - 1).toNat (0, 0, 0, ())).1) (l.getD d (0, 0, 0, ())).1 = true := decide_eq_true (Int.not_le.mp (hd.resolve_left (fun hx => hx h0)))
          rw [h9, Bool.true_and]
        · rw [if_neg h0]
          rfl
      · omega
      · simp (disch := exact eqId (by kernel_rfl)) only [go_sem, ↓reduceIte, Nat.reduceAdd, Nat.reduceMul, Nat.reduceLT, Nat.reduceBEq, Nat.reduceLeDiff, Nat.reduceEqDiff, Int.reduceToNat]
        exact wrap_succ hk hw.1.1
    · rename_i hk
      rw [h2, drop_end (show l.length ≤ d by omega), areG_nil, Bool.true_and]
      exact decide_eq_decide.mpr (by omega)
def frmB (f : tFrame.den) : Bool := (areG keyB (fun x => x.1) none f.1 && decide (f.1.length ≤ 12)) && (areG autB (fun x => x.1) none f.2.1 && decide (f.2.1.length ≤ 6)) && (areG metB (fun x => x.1) none f.2.2.1 && decide (f.2.2.1.length ≤ 8)) && inB f.2.2.2.1 0 6 && inB f.2.2.2.2.1 0 10000
theorem impl_IsFrame_ok (k : tFrame.den) : FunOK Try.prog 32 [⟨tFrame, k⟩] (.rd .bool (frmB k)) := by
  refine fun_of (tb := tb) follows Try.func32 (by kernel_rfl) Try.ntmps32 rfl rfl rfl ?_
  intro cx hN hw
  simp (disch := exact eqId (by kernel_rfl)) only [go_sem, ↓reduceIte, Nat.reduceAdd, Nat.reduceMul, Nat.reduceLT, Nat.reduceBEq, Nat.reduceLeDiff, Nat.reduceEqDiff, Int.reduceToNat]
  repeat' (first | (refine And.intro ?_ ?_) | intro _ | (refine callQ_intro (impl_AreKeys_ok _) ?_; try (simp (disch := exact eqId (by kernel_rfl)) only [go_sem, ↓reduceIte, Nat.reduceAdd, Nat.reduceMul, Nat.reduceLT, Nat.reduceBEq, Nat.reduceLeDiff, Nat.reduceEqDiff, Int.reduceToNat])) | (refine callH_intro (fun hcc => impl_AreKeys_ok _) ?_; try (simp (disch := exact eqId (by kernel_rfl)) only [go_sem, ↓reduceIte, Nat.reduceAdd, Nat.reduceMul, Nat.reduceLT, Nat.reduceBEq, Nat.reduceLeDiff, Nat.reduceEqDiff, Int.reduceToNat])) | (refine callQ_intro (impl_AreAuthorities_ok _) ?_; try (simp (disch := exact eqId (by kernel_rfl)) only [go_sem, ↓reduceIte, Nat.reduceAdd, Nat.reduceMul, Nat.reduceLT, Nat.reduceBEq, Nat.reduceLeDiff, Nat.reduceEqDiff, Int.reduceToNat])) | (refine callH_intro (fun hcc => impl_AreAuthorities_ok _) ?_; try (simp (disch := exact eqId (by kernel_rfl)) only [go_sem, ↓reduceIte, Nat.reduceAdd, Nat.reduceMul, Nat.reduceLT, Nat.reduceBEq, Nat.reduceLeDiff, Nat.reduceEqDiff, Int.reduceToNat])) | (refine callQ_intro (impl_AreMethods_ok _) ?_; try (simp (disch := exact eqId (by kernel_rfl)) only [go_sem, ↓reduceIte, Nat.reduceAdd, Nat.reduceMul, Nat.reduceLT, Nat.reduceBEq, Nat.reduceLeDiff, Nat.reduceEqDiff, Int.reduceToNat])) | (refine callH_intro (fun hcc => impl_AreMethods_ok _) ?_; try (simp (disch := exact eqId (by kernel_rfl)) only [go_sem, ↓reduceIte, Nat.reduceAdd, Nat.reduceMul, Nat.reduceLT, Nat.reduceBEq, Nat.reduceLeDiff, Nat.reduceEqDiff, Int.reduceToNat])) | (refine callQ_intro (inRange_ok _ _ _) ?_; try (simp (disch := exact eqId (by kernel_rfl)) only [go_sem, ↓reduceIte, Nat.reduceAdd, Nat.reduceMul, Nat.reduceLT, Nat.reduceBEq, Nat.reduceLeDiff, Nat.reduceEqDiff, Int.reduceToNat])) | (refine callH_intro (fun hcc => inRange_ok _ _ _) ?_; try (simp (disch := exact eqId (by kernel_rfl)) only [go_sem, ↓reduceIte, Nat.reduceAdd, Nat.reduceMul, Nat.reduceLT, Nat.reduceBEq, Nat.reduceLeDiff, Nat.reduceEqDiff, Int.reduceToNat])) | (refine callQ_intro (impl_isTime_ok _) ?_; try (simp (disch := exact eqId (by kernel_rfl)) only [go_sem, ↓reduceIte, Nat.reduceAdd, Nat.reduceMul, Nat.reduceLT, Nat.reduceBEq, Nat.reduceLeDiff, Nat.reduceEqDiff, Int.reduceToNat])) | (refine callH_intro (fun hcc => impl_isTime_ok _) ?_; try (simp (disch := exact eqId (by kernel_rfl)) only [go_sem, ↓reduceIte, Nat.reduceAdd, Nat.reduceMul, Nat.reduceLT, Nat.reduceBEq, Nat.reduceLeDiff, Nat.reduceEqDiff, Int.reduceToNat])))
  all_goals (try rfl)
theorem spec_IsFrame_ok (k : tFrame.den) : FunOK Try.prog 30 [⟨tFrame, k⟩] (.rd .bool (frmB k)) := by
  refine fun_of (tb := tb) follows Try.func30 (by kernel_rfl) Try.ntmps30 rfl rfl rfl ?_
  intro cx hN hw
  simp (disch := exact eqId (by kernel_rfl)) only [go_sem, ↓reduceIte, Nat.reduceAdd, Nat.reduceMul, Nat.reduceLT, Nat.reduceBEq, Nat.reduceLeDiff, Nat.reduceEqDiff, Int.reduceToNat]
  repeat' (first | (refine And.intro ?_ ?_) | intro _ | (refine callQ_intro (spec_AreKeys_ok _) ?_; try (simp (disch := exact eqId (by kernel_rfl)) only [go_sem, ↓reduceIte, Nat.reduceAdd, Nat.reduceMul, Nat.reduceLT, Nat.reduceBEq, Nat.reduceLeDiff, Nat.reduceEqDiff, Int.reduceToNat])) | (refine callH_intro (fun hcc => spec_AreKeys_ok _) ?_; try (simp (disch := exact eqId (by kernel_rfl)) only [go_sem, ↓reduceIte, Nat.reduceAdd, Nat.reduceMul, Nat.reduceLT, Nat.reduceBEq, Nat.reduceLeDiff, Nat.reduceEqDiff, Int.reduceToNat])) | (refine callQ_intro (spec_AreAuthorities_ok _) ?_; try (simp (disch := exact eqId (by kernel_rfl)) only [go_sem, ↓reduceIte, Nat.reduceAdd, Nat.reduceMul, Nat.reduceLT, Nat.reduceBEq, Nat.reduceLeDiff, Nat.reduceEqDiff, Int.reduceToNat])) | (refine callH_intro (fun hcc => spec_AreAuthorities_ok _) ?_; try (simp (disch := exact eqId (by kernel_rfl)) only [go_sem, ↓reduceIte, Nat.reduceAdd, Nat.reduceMul, Nat.reduceLT, Nat.reduceBEq, Nat.reduceLeDiff, Nat.reduceEqDiff, Int.reduceToNat])) | (refine callQ_intro (spec_AreMethods_ok _) ?_; try (simp (disch := exact eqId (by kernel_rfl)) only [go_sem, ↓reduceIte, Nat.reduceAdd, Nat.reduceMul, Nat.reduceLT, Nat.reduceBEq, Nat.reduceLeDiff, Nat.reduceEqDiff, Int.reduceToNat])) | (refine callH_intro (fun hcc => spec_AreMethods_ok _) ?_; try (simp (disch := exact eqId (by kernel_rfl)) only [go_sem, ↓reduceIte, Nat.reduceAdd, Nat.reduceMul, Nat.reduceLT, Nat.reduceBEq, Nat.reduceLeDiff, Nat.reduceEqDiff, Int.reduceToNat])) | (refine callQ_intro (l1In_ok _ _ _) ?_; try (simp (disch := exact eqId (by kernel_rfl)) only [go_sem, ↓reduceIte, Nat.reduceAdd, Nat.reduceMul, Nat.reduceLT, Nat.reduceBEq, Nat.reduceLeDiff, Nat.reduceEqDiff, Int.reduceToNat])) | (refine callH_intro (fun hcc => l1In_ok _ _ _) ?_; try (simp (disch := exact eqId (by kernel_rfl)) only [go_sem, ↓reduceIte, Nat.reduceAdd, Nat.reduceMul, Nat.reduceLT, Nat.reduceBEq, Nat.reduceLeDiff, Nat.reduceEqDiff, Int.reduceToNat])) | (refine callQ_intro (spec_l4Time_ok _) ?_; try (simp (disch := exact eqId (by kernel_rfl)) only [go_sem, ↓reduceIte, Nat.reduceAdd, Nat.reduceMul, Nat.reduceLT, Nat.reduceBEq, Nat.reduceLeDiff, Nat.reduceEqDiff, Int.reduceToNat])) | (refine callH_intro (fun hcc => spec_l4Time_ok _) ?_; try (simp (disch := exact eqId (by kernel_rfl)) only [go_sem, ↓reduceIte, Nat.reduceAdd, Nat.reduceMul, Nat.reduceLT, Nat.reduceBEq, Nat.reduceLeDiff, Nat.reduceEqDiff, Int.reduceToNat])))
  all_goals (try rfl)
end Go.Proofs.Yteemfgdkmjmolaa
