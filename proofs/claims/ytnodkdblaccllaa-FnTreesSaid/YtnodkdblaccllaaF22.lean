/- What the draws of trees answer. It proves nothing of a statement by itself. -/
import Derived.Test.YtnodkdblaccllaaF21
import Derived.Test.YtnodkdblaccllaaPt
set_option linter.unusedSimpArgs false
set_option linter.unusedVariables false
set_option maxRecDepth 100000
namespace Go.Proofs.Ytnodkdblaccllaa
open Go.AL
def lvL (b : List Int) : Nat → Int → Int → List Int
  | 0, _, _ => []
  | k + 1, i, h => blX b i h 99 :: lvL b k (blI b i 99) (blH h 99)
def lvI (b : List Int) : Nat → Int → Int
  | 0, i => i
  | k + 1, i => lvI b k (blI b i 99)
def lvH : Nat → Int → Int
  | 0, h => h
  | k + 1, h => lvH k (blH h 99)
theorem lvL_len (b : List Int) : ∀ (k : Nat) (i h : Int), (lvL b k i h).length = k
  | 0, _, _ => rfl
  | k + 1, i, h => by rw [lvL, List.length_cons, lvL_len b k]
theorem l17Leaves_ok (b : List Int) (i h n : Int) (hi : 0 ≤ i) (hb : b.length ≤ maxLen) (hn : 1 ≤ n ∧ n ≤ 256) : MutOK Try.prog 16 [none, none] [.obj (.box 45 [.rd (.list (.int .u8)) b, .rd I i, .rd I h]), .rd ⟨I, n⟩] (.own 3 I (lvL b (blX b i h n).toNat (blI b i n) (blH h n))) [.box 45 [.rd (.list (.int .u8)) b, .rd I (lvI b (blX b i h n).toNat (blI b i n)), .rd I (lvH (blX b i h n).toNat (blH h n))]] := by
  refine fun_ofM (tb := tb) follows Try.func16 (by kernel_rfl) Try.ntmps16 rfl rfl (by simp [shOK]) rfl ?_
  intro cx hN hw
  have hx := blX_lt (b := b) (i := i) (h := h) hn.1
  simp (disch := exact eqId (by kernel_rfl)) only [go_sem, ↓reduceIte, Nat.reduceAdd, Nat.reduceMul, Nat.reduceLT, Nat.reduceBEq, Nat.reduceLeDiff, Nat.reduceEqDiff, Int.reduceToNat]
  repeat' (first | (refine And.intro ?_ ?_) | intro _ | (refine callM_intro (l1Below_ok _ _ _ _ (by repeat' first | assumption | apply byI_ge | apply blI_ge | exact Int.le_refl _) (by assumption)) ⟨⟨trivial, by decide⟩, rfl, rfl⟩ ?_; try (simp (disch := exact eqId (by kernel_rfl)) only [go_sem, ↓reduceIte, Nat.reduceAdd, Nat.reduceMul, Nat.reduceLT, Nat.reduceBEq, Nat.reduceLeDiff, Nat.reduceEqDiff, Int.reduceToNat])))
  refine loop_intro (tb := tb) follows hN (D := Int × Int × Int × (List Int)) (fun d => shp [(0, .bp 0 0), (5, .own 20000), (6, .rd I (d.1 : Int))] [(0, .box 45 [.rd (.list (.int .u8)) b, .rd I d.2.1, .rd I d.2.2.1]), (20000, .row 3 I d.2.2.2)]) (fun d => (0 ≤ d.2.1 ∧ d.2.2.2.length + d.1.toNat ≤ 256) ∧ (lvL b (blX b i h n).toNat (blI b i n) (blH h n) = d.2.2.2 ++ lvL b d.1.toNat d.2.1 d.2.2.1 ∧ lvI b (blX b i h n).toNat (blI b i n) = lvI b d.1.toNat d.2.1 ∧ lvH (blX b i h n).toNat (blH h n) = lvH d.1.toNat d.2.2.1)) (fun d => d.1.toNat) ((blX b i h n, blI b i n, blH h n, [])) ?_ (sub_shp hN [(0, some 0), (20000, some 20000)] ?_) (fun d hd => ?_)
  · exact ⟨⟨blI_ge hb hi, by simp only [List.length_nil]; omega⟩, rfl, rfl, rfl⟩
  · simp (disch := exact eqId (by kernel_rfl)) only [go_sem, ↓reduceIte, Nat.reduceAdd, Nat.reduceMul, Nat.reduceLT, Nat.reduceBEq, Nat.reduceLeDiff, Nat.reduceEqDiff, Int.reduceToNat]
    try exact ⟨rfl, rfl⟩
  · obtain ⟨r, i2, h2, out⟩ := d
    obtain ⟨⟨g1, g2⟩, g3, g4, g5⟩ := hd
    simp only at g1 g2 g3 g4 g5
    simp (disch := exact eqId (by kernel_rfl)) only [go_sem, ↓reduceIte, Nat.reduceAdd, Nat.reduceMul, Nat.reduceLT, Nat.reduceBEq, Nat.reduceLeDiff, Nat.reduceEqDiff, Int.reduceToNat]
    repeat' (first | (refine And.intro ?_ ?_) | intro _ | (refine callM_intro (l1Below_ok _ _ _ _ (by repeat' first | assumption | apply byI_ge | apply blI_ge | exact Int.le_refl _) (by assumption)) ⟨⟨trivial, by decide⟩, rfl, rfl⟩ ?_; try (simp (disch := exact eqId (by kernel_rfl)) only [go_sem, ↓reduceIte, Nat.reduceAdd, Nat.reduceMul, Nat.reduceLT, Nat.reduceBEq, Nat.reduceLeDiff, Nat.reduceEqDiff, Int.reduceToNat])))
    all_goals (try omega)
    all_goals (try (simp only [List.length_append, List.length_cons, List.length_nil]; omega))
    · rename_i hr
      have e : r.toNat = (r - 1).toNat + 1 := by omega
      refine back_intro ((r - 1, blI b i2 99, blH h2 99, out ++ [blX b i2 h2 99])) ?_ ?_ (sub_shp hN [(0, some 0), (20000, some 60064)] ?_)
      · refine ⟨⟨by simp only; exact blI_ge hb g1, by simp only [List.length_append, List.length_cons, List.length_nil]; omega⟩, ?_, ?_, ?_⟩
        · simp only
          rw [g3, e, lvL, List.append_assoc]
          rfl
        · simp only
          rw [g4, e, lvI]
        · simp only
          rw [g5, e, lvH]
      · simp only; omega
      · simp (disch := exact eqId (by kernel_rfl)) only [go_sem, ↓reduceIte, Nat.reduceAdd, Nat.reduceMul, Nat.reduceLT, Nat.reduceBEq, Nat.reduceLeDiff, Nat.reduceEqDiff, Int.reduceToNat]
        first | exact ⟨rfl, wrap_i64 (by omega) (by omega)⟩ | exact wrap_i64 (by omega) (by omega)
    · rename_i hr
      rw [g3, show r.toNat = 0 from by omega, lvL, List.append_nil]
    · rfl
    · rename_i hr
      rw [g4, g5, show r.toNat = 0 from by omega]
      rfl
theorem lvI_ge {b : List Int} (hb : b.length ≤ maxLen) : ∀ (k : Nat) {i : Int}, 0 ≤ i → 0 ≤ lvI b k i
  | 0, i, h => h
  | k + 1, i, h => lvI_ge hb k (blI_ge hb h)
def drM (b : List Int) : Int := blX b 0 (newH b) 5
def drL (b : List Int) : List Int := lvL b (blX b (blI b 0 5) (blH (newH b) 5) 19).toNat (blI b (blI b 0 5) 19) (blH (blH (newH b) 5) 19)
def drP (b : List Int) : Int := IntKind.i64.wrap (blX b 0 (newH b) (IntKind.i64.wrap ((drL b).length + 2)) - 1)
theorem drL_len (b : List Int) : (drL b).length ≤ 18 := by
  have := blX_lt (b := b) (i := blI b 0 5) (h := blH (newH b) 5) (n := 19) (by decide)
  unfold drL
  rw [lvL_len]
  omega
theorem DrawTreeRoot_ok (b : List Int) : FunOK Try.prog 10 [⟨(.list (.int .u8)), b⟩] (.tup [.rd I (drM b), .own 3 I (drL b)]) := by
  refine fun_of (tb := tb) follows Try.func10 (by kernel_rfl) Try.ntmps10 rfl rfl rfl ?_
  intro cx hN hw
  have hm : maxLen = 9223372036854775807 := rfl
  have hb : b.length ≤ maxLen := hw.1.1
  simp (disch := exact eqId (by kernel_rfl)) only [go_sem, ↓reduceIte, Nat.reduceAdd, Nat.reduceMul, Nat.reduceLT, Nat.reduceBEq, Nat.reduceLeDiff, Nat.reduceEqDiff, Int.reduceToNat]
  refine callI_intro (tb := tb) (rs := [.tmp 2]) follows Try.func11 (by kernel_rfl) rfl rfl Try.ntmps11 rfl ⟨trivial, trivial⟩ ?_
  intro cx2 hN2
  simp (disch := exact eqId (by kernel_rfl)) only [go_sem, ↓reduceIte, Nat.reduceAdd, Nat.reduceMul, Nat.reduceLT, Nat.reduceBEq, Nat.reduceLeDiff, Nat.reduceEqDiff, Int.reduceToNat]
  refine loop_introF (tb := tb.at 900000000000000) follows hN2 (D := Nat × Int) (fun d => shp [(0, .rd (.list (.int .u8)) b), (3, .rd I d.2), (4, .rd I (d.1 : Int))] []) (fun d => d.1 ≤ 4000 ∧ newH b = nwK b (4000 - d.1) d.1 d.2) (fun d => 4000 - d.1) (0, IntKind.i64.wrap (193017 + (b.length : Int))) ?_ (sub_shpF [] ?_) (fun d hd => ?_)
  · exact ⟨Nat.zero_le _, rfl⟩
  · simp (disch := exact eqId (by kernel_rfl)) only [go_sem, ↓reduceIte, Nat.reduceAdd, Nat.reduceMul, Nat.reduceLT, Nat.reduceBEq, Nat.reduceLeDiff, Nat.reduceEqDiff, Int.reduceToNat]
    try rfl
  · obtain ⟨k, h⟩ := d
    obtain ⟨h1, h2⟩ := hd
    simp only at h1 h2
    simp (disch := exact eqId (by kernel_rfl)) only [go_sem, ↓reduceIte, Nat.reduceAdd, Nat.reduceMul, Nat.reduceLT, Nat.reduceBEq, Nat.reduceLeDiff, Nat.reduceEqDiff, Int.reduceToNat]
    repeat' (first | (refine And.intro ?_ ?_) | intro _)
    all_goals (try omega)
    · rename_i hk
      refine back_intro (k + 1, nwG h (b.getD k 0)) ?_ ?_ (sub_shpF [] ?_)
      · refine ⟨by omega, ?_⟩
        simp only
        rw [h2, show 4000 - k = (4000 - (k + 1)) + 1 from by omega, nwK, if_pos (by omega)]
      · simp only; omega
      · simp (disch := exact eqId (by kernel_rfl)) only [go_sem, ↓reduceIte, Nat.reduceAdd, Nat.reduceMul, Nat.reduceLT, Nat.reduceBEq, Nat.reduceLeDiff, Nat.reduceEqDiff, Int.reduceToNat]
        first | exact ⟨rfl, wrap_i64 (by omega) (by omega)⟩ | exact wrap_i64 (by omega) (by omega) | trace_state
    · rename_i hk
      have hh : h = newH b := by
        rw [h2]
        exact (nwK_end (by omega)).symm
      subst hh
      clear h1 h2
      refine callM_intro (l1Below_ok b 0 (newH b) 5 (Int.le_refl 0) hb) ⟨⟨trivial, by decide⟩, rfl, rfl⟩ ?_
      simp (disch := exact eqId (by kernel_rfl)) only [go_sem, ↓reduceIte, Nat.reduceAdd, Nat.reduceMul, Nat.reduceLT, Nat.reduceBEq, Nat.reduceLeDiff, Nat.reduceEqDiff, Int.reduceToNat]
      refine callM_intro (l17Leaves_ok b (blI b 0 5) (blH (newH b) 5) 19 (blI_ge hb (Int.le_refl 0)) hb (by decide)) ⟨⟨trivial, by decide⟩, rfl, rfl⟩ ?_
      simp (disch := exact eqId (by kernel_rfl)) only [go_sem, ↓reduceIte, Nat.reduceAdd, Nat.reduceMul, Nat.reduceLT, Nat.reduceBEq, Nat.reduceLeDiff, Nat.reduceEqDiff, Int.reduceToNat]
      try (unfold drM drL)
      try exact ⟨rfl, rfl⟩
theorem DrawTreePath_ok (b : List Int) : FunOK Try.prog 5 [⟨(.list (.int .u8)), b⟩] (.tup [.rd I (drM b), .own 3 I (drL b), .rd I (drP b)]) := by
  refine fun_of (tb := tb) follows Try.func5 (by kernel_rfl) Try.ntmps5 rfl rfl rfl ?_
  intro cx hN hw
  have hm : maxLen = 9223372036854775807 := rfl
  have hb : b.length ≤ maxLen := hw.1.1
  simp (disch := exact eqId (by kernel_rfl)) only [go_sem, ↓reduceIte, Nat.reduceAdd, Nat.reduceMul, Nat.reduceLT, Nat.reduceBEq, Nat.reduceLeDiff, Nat.reduceEqDiff, Int.reduceToNat]
  refine callQ_intro (DrawTreeRoot_ok _) ?_
  simp (disch := exact eqId (by kernel_rfl)) only [go_sem, ↓reduceIte, Nat.reduceAdd, Nat.reduceMul, Nat.reduceLT, Nat.reduceBEq, Nat.reduceLeDiff, Nat.reduceEqDiff, Int.reduceToNat]
  refine callI_intro (tb := tb) (rs := [.tmp 2]) follows Try.func11 (by kernel_rfl) rfl rfl Try.ntmps11 rfl ⟨trivial, trivial⟩ ?_
  intro cx2 hN2
  simp (disch := exact eqId (by kernel_rfl)) only [go_sem, ↓reduceIte, Nat.reduceAdd, Nat.reduceMul, Nat.reduceLT, Nat.reduceBEq, Nat.reduceLeDiff, Nat.reduceEqDiff, Int.reduceToNat]
  refine loop_introF (tb := tb.at 900000000000000) follows hN2 (D := Nat × Int) (fun d => shp [(0, .rd (.list (.int .u8)) b), (3, .rd I d.2), (4, .rd I (d.1 : Int))] [(20016, .row 3 I (drL b))]) (fun d => d.1 ≤ 4000 ∧ newH b = nwK b (4000 - d.1) d.1 d.2) (fun d => 4000 - d.1) (0, IntKind.i64.wrap (193017 + (b.length : Int))) ?_ (sub_shpF [(20016, some 20016)] ?_) (fun d hd => ?_)
  · exact ⟨Nat.zero_le _, rfl⟩
  · simp (disch := exact eqId (by kernel_rfl)) only [go_sem, ↓reduceIte, Nat.reduceAdd, Nat.reduceMul, Nat.reduceLT, Nat.reduceBEq, Nat.reduceLeDiff, Nat.reduceEqDiff, Int.reduceToNat]
    try rfl
  · obtain ⟨k, h⟩ := d
    obtain ⟨h1, h2⟩ := hd
    simp only at h1 h2
    simp (disch := exact eqId (by kernel_rfl)) only [go_sem, ↓reduceIte, Nat.reduceAdd, Nat.reduceMul, Nat.reduceLT, Nat.reduceBEq, Nat.reduceLeDiff, Nat.reduceEqDiff, Int.reduceToNat]
    repeat' (first | (refine And.intro ?_ ?_) | intro _)
    all_goals (try omega)
    · rename_i hk
      refine back_intro (k + 1, nwG h (b.getD k 0)) ?_ ?_ (sub_shpF [(20016, some 20016)] ?_)
      · refine ⟨by omega, ?_⟩
        simp only
        rw [h2, show 4000 - k = (4000 - (k + 1)) + 1 from by omega, nwK, if_pos (by omega)]
      · simp only; omega
      · simp (disch := exact eqId (by kernel_rfl)) only [go_sem, ↓reduceIte, Nat.reduceAdd, Nat.reduceMul, Nat.reduceLT, Nat.reduceBEq, Nat.reduceLeDiff, Nat.reduceEqDiff, Int.reduceToNat]
        first | exact ⟨rfl, wrap_i64 (by omega) (by omega)⟩ | exact wrap_i64 (by omega) (by omega) | trace_state
    · rename_i hk
      have hh : h = newH b := by
        rw [h2]
        exact (nwK_end (by omega)).symm
      subst hh
      clear h1 h2
      refine callM_intro (l1Below_ok b 0 (newH b) (IntKind.i64.wrap ((drL b).length + 2)) (Int.le_refl 0) hb) ⟨⟨trivial, by decide⟩, rfl, rfl⟩ ?_
      simp (disch := exact eqId (by kernel_rfl)) only [go_sem, ↓reduceIte, Nat.reduceAdd, Nat.reduceMul, Nat.reduceLT, Nat.reduceBEq, Nat.reduceLeDiff, Nat.reduceEqDiff, Int.reduceToNat]
      try (unfold drP)
      try rfl
end Go.Proofs.Ytnodkdblaccllaa
