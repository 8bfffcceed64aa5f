/- What the draws of successions answer. It proves nothing of a statement by itself. -/
import Derived.Test.YtneobkdgfahhoaaF23
import Derived.Test.YtneobkdgfahhoaaF14
set_option linter.unusedSimpArgs false
set_option linter.unusedVariables false
set_option maxRecDepth 100000
namespace Go.Proofs.Ytneobkdgfahhoaa
open Go.AL
def drS (b : List Int) (i h : Int) : tSuccession.den := (sucF K8 (([11, 12, 1, 2] : List Int).getD (blX b i h 4).toNat 0, ([12, 11, 2, 1] : List Int).getD (blX b (blI b i 4) (blH h 4) 4).toNat 0, blX b (blI b (blI b i 4) 4) (blH (blH h 4) 4) 40, 0, ())).1
def drI (b : List Int) (i : Int) : Int := blI b (blI b (blI b i 4) 4) 40
def drH (h : Int) : Int := blH (blH (blH h 4) 4) 40
theorem drI_ge {b : List Int} {i : Int} (hb : b.length ≤ maxLen) (hi : 0 ≤ i) : 0 ≤ drI b i := blI_ge hb (blI_ge hb (blI_ge hb hi))
def lsL (b : List Int) : Nat → Int → Int → List tSuccession.den
  | 0, _, _ => []
  | k + 1, i, h => drS b i h :: lsL b k (drI b i) (drH h)
def lsI (b : List Int) : Nat → Int → Int
  | 0, i => i
  | k + 1, i => lsI b k (drI b i)
def lsH : Nat → Int → Int
  | 0, h => h
  | k + 1, h => lsH k (drH h)
theorem lsL_len (b : List Int) : ∀ (k : Nat) (i h : Int), (lsL b k i h).length = k
  | 0, _, _ => rfl
  | k + 1, i, h => by rw [lsL, List.length_cons, lsL_len b k]
theorem lsI_ge {b : List Int} (hb : b.length ≤ maxLen) : ∀ (k : Nat) {i : Int}, 0 ≤ i → 0 ≤ lsI b k i
  | 0, i, h => h
  | k + 1, i, h => lsI_ge hb k (drI_ge hb h)
theorem l16Draw_ok (b : List Int) (i h : Int) (hi : 0 ≤ i) (hb : b.length ≤ maxLen) : MutOK Try.prog 37 [none] [.obj (.box 56 [.rd (.list (.int .u8)) b, .rd I i, .rd I h])] (.rd tSuccession (drS b i h)) [.box 56 [.rd (.list (.int .u8)) b, .rd I (drI b i), .rd I (drH h)]] := by
  refine fun_ofM (tb := tb) follows Try.func37 (by kernel_rfl) Try.ntmps37 rfl rfl (by simp [shOK]) rfl ?_
  intro cx hN hw
  simp (disch := exact eqId (by kernel_rfl)) only [go_sem, ↓reduceIte, Nat.reduceAdd, Nat.reduceMul, Nat.reduceLT, Nat.reduceBEq, Nat.reduceLeDiff, Nat.reduceEqDiff, Int.reduceToNat]
  refine callM_intro (l1Int_ok b i h [11, 12, 1, 2] hi hb (by decide)) ⟨⟨trivial, by decide⟩, rfl, rfl⟩ ?_
  simp (disch := exact eqId (by kernel_rfl)) only [go_sem, ↓reduceIte, Nat.reduceAdd, Nat.reduceMul, Nat.reduceLT, Nat.reduceBEq, Nat.reduceLeDiff, Nat.reduceEqDiff, Int.reduceToNat]
  refine callM_intro (l1Int_ok b (blI b i 4) (blH h 4) [12, 11, 2, 1] (blI_ge hb hi) hb (by decide)) ⟨⟨trivial, by decide⟩, rfl, rfl⟩ ?_
  simp (disch := exact eqId (by kernel_rfl)) only [go_sem, ↓reduceIte, Nat.reduceAdd, Nat.reduceMul, Nat.reduceLT, Nat.reduceBEq, Nat.reduceLeDiff, Nat.reduceEqDiff, Int.reduceToNat]
  refine callQ_intro l8Keys_ok ?_
  simp (disch := exact eqId (by kernel_rfl)) only [go_sem, ↓reduceIte, Nat.reduceAdd, Nat.reduceMul, Nat.reduceLT, Nat.reduceBEq, Nat.reduceLeDiff, Nat.reduceEqDiff, Int.reduceToNat]
  refine callM_intro (l1Below_ok b (blI b (blI b i 4) 4) (blH (blH h 4) 4) 40 (blI_ge hb (blI_ge hb hi)) hb) ⟨⟨trivial, by decide⟩, rfl, rfl⟩ ?_
  simp (disch := exact eqId (by kernel_rfl)) only [go_sem, ↓reduceIte, Nat.reduceAdd, Nat.reduceMul, Nat.reduceLT, Nat.reduceBEq, Nat.reduceLeDiff, Nat.reduceEqDiff, Int.reduceToNat]
  refine callQ_intro (spec_MakeSuccession_ok _ _) ?_
  simp (disch := exact eqId (by kernel_rfl)) only [go_sem, ↓reduceIte, Nat.reduceAdd, Nat.reduceMul, Nat.reduceLT, Nat.reduceBEq, Nat.reduceLeDiff, Nat.reduceEqDiff, Int.reduceToNat]
  all_goals (try exact ⟨rfl, rfl⟩)
theorem l16List_ok (b : List Int) (i h : Int) (hi : 0 ≤ i) (hb : b.length ≤ maxLen) : MutOK Try.prog 28 [none] [.obj (.box 56 [.rd (.list (.int .u8)) b, .rd I i, .rd I h])] (.own 34 tSuccession (lsL b (blX b i h 5).toNat (blI b i 5) (blH h 5))) [.box 56 [.rd (.list (.int .u8)) b, .rd I (lsI b (blX b i h 5).toNat (blI b i 5)), .rd I (lsH (blX b i h 5).toNat (blH h 5))]] := by
  refine fun_ofM (tb := tb) follows Try.func28 (by kernel_rfl) Try.ntmps28 rfl rfl (by simp [shOK]) rfl ?_
  intro cx hN hw
  have hx := blX_lt (b := b) (i := i) (h := h) (n := 5) (by decide)
  simp (disch := exact eqId (by kernel_rfl)) only [go_sem, ↓reduceIte, Nat.reduceAdd, Nat.reduceMul, Nat.reduceLT, Nat.reduceBEq, Nat.reduceLeDiff, Nat.reduceEqDiff, Int.reduceToNat]
  refine callM_intro (l1Below_ok b i h 5 hi hb) ⟨⟨trivial, by decide⟩, rfl, rfl⟩ ?_
  simp (disch := exact eqId (by kernel_rfl)) only [go_sem, ↓reduceIte, Nat.reduceAdd, Nat.reduceMul, Nat.reduceLT, Nat.reduceBEq, Nat.reduceLeDiff, Nat.reduceEqDiff, Int.reduceToNat]
  refine loop_intro (tb := tb) follows hN (D := Int × Int × Int × (List tSuccession.den)) (fun d => shp [(0, .bp 0 0), (3, .own 20000), (4, .rd I (d.1 : Int))] [(0, .box 56 [.rd (.list (.int .u8)) b, .rd I d.2.1, .rd I d.2.2.1]), (20000, .row 34 tSuccession d.2.2.2)]) (fun d => (0 ≤ d.2.1 ∧ d.2.2.2.length + d.1.toNat ≤ 256) ∧ (lsL b (blX b i h 5).toNat (blI b i 5) (blH h 5) = d.2.2.2 ++ lsL b d.1.toNat d.2.1 d.2.2.1 ∧ lsI b (blX b i h 5).toNat (blI b i 5) = lsI b d.1.toNat d.2.1 ∧ lsH (blX b i h 5).toNat (blH h 5) = lsH d.1.toNat d.2.2.1)) (fun d => d.1.toNat) ((blX b i h 5, blI b i 5, blH h 5, [])) ?_ (sub_shp hN [(0, some 0), (20000, some 20000)] ?_) (fun d hd => ?_)
  · exact ⟨⟨by simp only; exact blI_ge hb hi, by simp only [List.length_nil]; omega⟩, rfl, rfl, rfl⟩
  · simp (disch := exact eqId (by kernel_rfl)) only [go_sem, ↓reduceIte, Nat.reduceAdd, Nat.reduceMul, Nat.reduceLT, Nat.reduceBEq, Nat.reduceLeDiff, Nat.reduceEqDiff, Int.reduceToNat]
    try exact ⟨rfl, rfl⟩
  · obtain ⟨r, i2, h2, out⟩ := d
    obtain ⟨⟨g1, g2⟩, g3, g4, g5⟩ := hd
    simp only at g1 g2 g3 g4 g5
    simp (disch := exact eqId (by kernel_rfl)) only [go_sem, ↓reduceIte, Nat.reduceAdd, Nat.reduceMul, Nat.reduceLT, Nat.reduceBEq, Nat.reduceLeDiff, Nat.reduceEqDiff, Int.reduceToNat]
    repeat' (first | (refine And.intro ?_ ?_) | intro _ | (refine callM_intro (l16Draw_ok b i2 h2 g1 hb) ⟨⟨trivial, by decide⟩, rfl, rfl⟩ ?_; try (simp (disch := exact eqId (by kernel_rfl)) only [go_sem, ↓reduceIte, Nat.reduceAdd, Nat.reduceMul, Nat.reduceLT, Nat.reduceBEq, Nat.reduceLeDiff, Nat.reduceEqDiff, Int.reduceToNat])))
    all_goals (try omega)
    all_goals (try (simp only [List.length_append, List.length_cons, List.length_nil]; omega))
    · rename_i hr
      have e : r.toNat = (r - 1).toNat + 1 := by omega
      refine back_intro ((r - 1, drI b i2, drH h2, out ++ [drS b i2 h2])) ?_ ?_ (sub_shp hN [(0, some 0), (20000, some 60064)] ?_)
      · refine ⟨⟨by simp only; exact drI_ge hb g1, by simp only [List.length_append, List.length_cons, List.length_nil]; omega⟩, ?_, ?_, ?_⟩
        · simp only
          rw [g3, e, lsL, List.append_assoc]
          rfl
        · simp only
          rw [g4, e, lsI]
        · simp only
          rw [g5, e, lsH]
      · simp only; omega
      · simp (disch := exact eqId (by kernel_rfl)) only [go_sem, ↓reduceIte, Nat.reduceAdd, Nat.reduceMul, Nat.reduceLT, Nat.reduceBEq, Nat.reduceLeDiff, Nat.reduceEqDiff, Int.reduceToNat]
        first | exact ⟨rfl, wrap_i64 (by omega) (by omega)⟩ | exact wrap_i64 (by omega) (by omega)
    · rename_i hr
      rw [g3, show r.toNat = 0 from by omega, lsL, List.append_nil]
    · rfl
    · rename_i hr
      rw [g4, g5, show r.toNat = 0 from by omega]
      rfl
def dkL (b : List Int) : List tSuccession.den := lsL b (blX b 0 (newH b) 5).toNat (blI b 0 5) (blH (newH b) 5)
def dkI (b : List Int) : Int := lsI b (blX b 0 (newH b) 5).toNat (blI b 0 5)
def dkH (b : List Int) : Int := lsH (blX b 0 (newH b) 5).toNat (blH (newH b) 5)
def dkK (b : List Int) : Int := ([11, 12, 1, 2, 50] : List Int).getD (blX b (dkI b) (dkH b) 5).toNat 0
def dkT (b : List Int) : Int := blX b (blI b (dkI b) 5) (blH (dkH b) 5) 50
theorem dkL_len (b : List Int) : (dkL b).length ≤ 1048576 := by
  have := blX_lt (b := b) (i := 0) (h := newH b) (n := 5) (by decide)
  unfold dkL
  rw [lsL_len]
  omega
theorem DrawNextKey_ok (b : List Int) : FunOK Try.prog 15 [⟨(.list (.int .u8)), b⟩] (.tup [.own 41 tKey K8, .own 34 tSuccession (dkL b), .rd I (dkK b), .rd I (dkT b)]) := by
  refine fun_of (tb := tb) follows Try.func15 (by kernel_rfl) Try.ntmps15 rfl rfl rfl ?_
  intro cx hN hw
  have hm : maxLen = 9223372036854775807 := rfl
  have hb : b.length ≤ maxLen := hw.1.1
  have hi : 0 ≤ dkI b := lsI_ge hb _ (blI_ge hb (Int.le_refl 0))
  simp (disch := exact eqId (by kernel_rfl)) only [go_sem, ↓reduceIte, Nat.reduceAdd, Nat.reduceMul, Nat.reduceLT, Nat.reduceBEq, Nat.reduceLeDiff, Nat.reduceEqDiff, Int.reduceToNat]
  refine callI_intro (tb := tb) (rs := [.tmp 2]) follows Try.func21 (by kernel_rfl) rfl rfl Try.ntmps21 rfl ⟨trivial, trivial⟩ ?_
  intro cx2 hN2
  simp (disch := exact eqId (by kernel_rfl)) only [go_sem, ↓reduceIte, Nat.reduceAdd, Nat.reduceMul, Nat.reduceLT, Nat.reduceBEq, Nat.reduceLeDiff, Nat.reduceEqDiff, Int.reduceToNat]
  refine loop_introF (tb := tb.at 900000000000000) follows hN2 (D := Nat × Int) (fun d => shp [(0, .rd (.list (.int .u8)) b), (3, .rd I d.2), (4, .rd I (d.1 : Int))] []) (fun d => d.1 ≤ 4000 ∧ newH b = nwK b (4000 - d.1) d.1 d.2) (fun d => 4000 - d.1) (0, IntKind.i64.wrap (193017 + (b.length : Int))) ?_ (sub_shpF [] ?_) (fun d hd => ?_)
  · exact ⟨Nat.zero_le _, rfl⟩
  · simp (disch := exact eqId (by kernel_rfl)) only [go_sem, ↓reduceIte, Nat.reduceAdd, Nat.reduceMul, Nat.reduceLT, Nat.reduceBEq, Nat.reduceLeDiff, Nat.reduceEqDiff, Int.reduceToNat]
    try rfl
  · obtain ⟨k, h⟩ := d
    obtain ⟨h1, h2⟩ := hd
    simp only at h1 h2
    simp (disch := exact eqId (by kernel_rfl)) only [go_sem, ↓reduceIte, Nat.reduceAdd, Nat.reduceMul, Nat.reduceLT, Nat.reduceBEq, Nat.reduceLeDiff, Nat.reduceEqDiff, Int.reduceToNat]
    repeat' (first | (refine And.intro ?_ ?_) | intro _)
    all_goals (try omega)
    · rename_i hk
      refine back_intro (k + 1, nwG h (b.getD k 0)) ?_ ?_ (sub_shpF [] ?_)
      · refine ⟨by omega, ?_⟩
        simp only
        rw [h2, show 4000 - k = (4000 - (k + 1)) + 1 from by omega, nwK, if_pos (by omega)]
      · simp only; omega
      · simp (disch := exact eqId (by kernel_rfl)) only [go_sem, ↓reduceIte, Nat.reduceAdd, Nat.reduceMul, Nat.reduceLT, Nat.reduceBEq, Nat.reduceLeDiff, Nat.reduceEqDiff, Int.reduceToNat]
        first | exact ⟨rfl, wrap_i64 (by omega) (by omega)⟩ | exact wrap_i64 (by omega) (by omega) | trace_state
    · rename_i hk
      have hh : h = newH b := by
        rw [h2]
        exact (nwK_end (by omega)).symm
      subst hh
      clear h1 h2
      refine callM_intro (l16List_ok b 0 (newH b) (Int.le_refl 0) hb) ⟨⟨trivial, by decide⟩, rfl, rfl⟩ ?_
      simp (disch := exact eqId (by kernel_rfl)) only [go_sem, ↓reduceIte, Nat.reduceAdd, Nat.reduceMul, Nat.reduceLT, Nat.reduceBEq, Nat.reduceLeDiff, Nat.reduceEqDiff, Int.reduceToNat]
      refine callM_intro (l1Int_ok b (dkI b) (dkH b) [11, 12, 1, 2, 50] hi hb (by decide)) ⟨⟨trivial, by decide⟩, rfl, rfl⟩ ?_
      simp (disch := exact eqId (by kernel_rfl)) only [go_sem, ↓reduceIte, Nat.reduceAdd, Nat.reduceMul, Nat.reduceLT, Nat.reduceBEq, Nat.reduceLeDiff, Nat.reduceEqDiff, Int.reduceToNat]
      refine callQ_intro l8Keys_ok ?_
      simp (disch := exact eqId (by kernel_rfl)) only [go_sem, ↓reduceIte, Nat.reduceAdd, Nat.reduceMul, Nat.reduceLT, Nat.reduceBEq, Nat.reduceLeDiff, Nat.reduceEqDiff, Int.reduceToNat]
      refine callM_intro (l1Below_ok b (blI b (dkI b) 5) (blH (dkH b) 5) 50 (blI_ge hb hi) hb) ⟨⟨trivial, by decide⟩, rfl, rfl⟩ ?_
      simp (disch := exact eqId (by kernel_rfl)) only [go_sem, ↓reduceIte, Nat.reduceAdd, Nat.reduceMul, Nat.reduceLT, Nat.reduceBEq, Nat.reduceLeDiff, Nat.reduceEqDiff, Int.reduceToNat]
      all_goals (try exact ⟨rfl, rfl, rfl⟩)
      all_goals (try rfl)
theorem DrawKeyLine_ok (b : List Int) : FunOK Try.prog 5 [⟨(.list (.int .u8)), b⟩] (.tup [.own 41 tKey K8, .own 34 tSuccession (dkL b), .rd I (dkK b), .rd I (dkT b)]) := by
  refine fun_of (tb := tb) follows Try.func5 (by kernel_rfl) Try.ntmps5 rfl rfl rfl ?_
  intro cx hN hw
  simp (disch := exact eqId (by kernel_rfl)) only [go_sem, ↓reduceIte, Nat.reduceAdd, Nat.reduceMul, Nat.reduceLT, Nat.reduceBEq, Nat.reduceLeDiff, Nat.reduceEqDiff, Int.reduceToNat]
  refine callQ_intro (DrawNextKey_ok _) ?_
  simp (disch := exact eqId (by kernel_rfl)) only [go_sem, ↓reduceIte, Nat.reduceAdd, Nat.reduceMul, Nat.reduceLT, Nat.reduceBEq, Nat.reduceLeDiff, Nat.reduceEqDiff, Int.reduceToNat]
def dmK (b : List Int) : List tKey.den := anyK b (blX b 0 (newH b) 10) (blX b (blI b 0 10) (blH (newH b) 10) 9) (blI b (blI b 0 10) 9) (blH (blH (newH b) 10) 9)
def dmI (b : List Int) : Int := anyI b (blX b (blI b 0 10) (blH (newH b) 10) 9) (blI b (blI b 0 10) 9) (blH (blH (newH b) 10) 9)
def dmH (b : List Int) : Int := anyH b (blX b (blI b 0 10) (blH (newH b) 10) 9) (blI b (blI b 0 10) 9) (blH (blH (newH b) 10) 9)
def dmX (b : List Int) : tSuccession.den := (NUM.getD (blX b (dmI b) (dmH b) 12).toNat 0, NUM.getD (blX b (blI b (dmI b) 12) (blH (dmH b) 12) 12).toNat 0, rwX b (blI b (blI b (dmI b) 12) 12) (blH (blH (dmH b) 12) 12), 0, ())
theorem DrawMakeSuccession_ok (b : List Int) : FunOK Try.prog 11 [⟨(.list (.int .u8)), b⟩] (.tup [.own 41 tKey (dmK b), .rd tSuccession (dmX b)]) := by
  refine fun_of (tb := tb) follows Try.func11 (by kernel_rfl) Try.ntmps11 rfl rfl rfl ?_
  intro cx hN hw
  have hm : maxLen = 9223372036854775807 := rfl
  have hb : b.length ≤ maxLen := hw.1.1
  have hi : 0 ≤ dmI b := anyI_ge hb (blI_ge hb (blI_ge hb (Int.le_refl 0)))
  simp (disch := exact eqId (by kernel_rfl)) only [go_sem, ↓reduceIte, Nat.reduceAdd, Nat.reduceMul, Nat.reduceLT, Nat.reduceBEq, Nat.reduceLeDiff, Nat.reduceEqDiff, Int.reduceToNat]
  refine callI_intro (tb := tb) (rs := [.tmp 2]) follows Try.func21 (by kernel_rfl) rfl rfl Try.ntmps21 rfl ⟨trivial, trivial⟩ ?_
  intro cx2 hN2
  simp (disch := exact eqId (by kernel_rfl)) only [go_sem, ↓reduceIte, Nat.reduceAdd, Nat.reduceMul, Nat.reduceLT, Nat.reduceBEq, Nat.reduceLeDiff, Nat.reduceEqDiff, Int.reduceToNat]
  refine loop_introF (tb := tb.at 900000000000000) follows hN2 (D := Nat × Int) (fun d => shp [(0, .rd (.list (.int .u8)) b), (3, .rd I d.2), (4, .rd I (d.1 : Int))] [(10016, .box 34 [.rd I 0, .rd I 0, .rd I 0, .rd I 0])]) (fun d => d.1 ≤ 4000 ∧ newH b = nwK b (4000 - d.1) d.1 d.2) (fun d => 4000 - d.1) (0, IntKind.i64.wrap (193017 + (b.length : Int))) ?_ (sub_shpF [(10016, some 10016)] ?_) (fun d hd => ?_)
  · exact ⟨Nat.zero_le _, rfl⟩
  · simp (disch := exact eqId (by kernel_rfl)) only [go_sem, ↓reduceIte, Nat.reduceAdd, Nat.reduceMul, Nat.reduceLT, Nat.reduceBEq, Nat.reduceLeDiff, Nat.reduceEqDiff, Int.reduceToNat]
    try rfl
  · obtain ⟨k, h⟩ := d
    obtain ⟨h1, h2⟩ := hd
    simp only at h1 h2
    simp (disch := exact eqId (by kernel_rfl)) only [go_sem, ↓reduceIte, Nat.reduceAdd, Nat.reduceMul, Nat.reduceLT, Nat.reduceBEq, Nat.reduceLeDiff, Nat.reduceEqDiff, Int.reduceToNat]
    repeat' (first | (refine And.intro ?_ ?_) | intro _)
    all_goals (try omega)
    · rename_i hk
      refine back_intro (k + 1, nwG h (b.getD k 0)) ?_ ?_ (sub_shpF [(10016, some 10016)] ?_)
      · refine ⟨by omega, ?_⟩
        simp only
        rw [h2, show 4000 - k = (4000 - (k + 1)) + 1 from by omega, nwK, if_pos (by omega)]
      · simp only; omega
      · simp (disch := exact eqId (by kernel_rfl)) only [go_sem, ↓reduceIte, Nat.reduceAdd, Nat.reduceMul, Nat.reduceLT, Nat.reduceBEq, Nat.reduceLeDiff, Nat.reduceEqDiff, Int.reduceToNat]
        first | exact ⟨rfl, wrap_i64 (by omega) (by omega)⟩ | exact wrap_i64 (by omega) (by omega) | trace_state
    · rename_i hk
      have hh : h = newH b := by
        rw [h2]
        exact (nwK_end (by omega)).symm
      subst hh
      clear h1 h2
      refine callM_intro (l8Any_ok b 0 (newH b) (Int.le_refl 0) hb) ⟨⟨trivial, by decide⟩, rfl, rfl⟩ ?_
      simp (disch := exact eqId (by kernel_rfl)) only [go_sem, ↓reduceIte, Nat.reduceAdd, Nat.reduceMul, Nat.reduceLT, Nat.reduceBEq, Nat.reduceLeDiff, Nat.reduceEqDiff, Int.reduceToNat]
      refine callM_intro (l8Number_ok b (dmI b) (dmH b) hi hb) ⟨⟨trivial, by decide⟩, rfl, rfl⟩ ?_
      simp (disch := exact eqId (by kernel_rfl)) only [go_sem, ↓reduceIte, Nat.reduceAdd, Nat.reduceMul, Nat.reduceLT, Nat.reduceBEq, Nat.reduceLeDiff, Nat.reduceEqDiff, Int.reduceToNat]
      refine callM_intro (l8Number_ok b (blI b (dmI b) 12) (blH (dmH b) 12) (blI_ge hb hi) hb) ⟨⟨trivial, by decide⟩, rfl, rfl⟩ ?_
      simp (disch := exact eqId (by kernel_rfl)) only [go_sem, ↓reduceIte, Nat.reduceAdd, Nat.reduceMul, Nat.reduceLT, Nat.reduceBEq, Nat.reduceLeDiff, Nat.reduceEqDiff, Int.reduceToNat]
      refine callM_intro (l4Raw_ok b (blI b (blI b (dmI b) 12) 12) (blH (blH (dmH b) 12) 12) (blI_ge hb (blI_ge hb hi)) hb) ⟨⟨trivial, by decide⟩, rfl, rfl⟩ ?_
      simp (disch := exact eqId (by kernel_rfl)) only [go_sem, ↓reduceIte, Nat.reduceAdd, Nat.reduceMul, Nat.reduceLT, Nat.reduceBEq, Nat.reduceLeDiff, Nat.reduceEqDiff, Int.reduceToNat]
      all_goals (try exact ⟨rfl, rfl⟩)
      all_goals (try rfl)
end Go.Proofs.Ytneobkdgfahhoaa
