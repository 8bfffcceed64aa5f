/- What small draws answer. It proves nothing of a statement by itself. -/
import Derived.Test.YtneobkdgfahhoaaF21
set_option linter.unusedSimpArgs false
set_option linter.unusedVariables false
set_option maxRecDepth 100000
namespace Go.Proofs.Ytneobkdgfahhoaa
open Go.AL
theorem bit_255 (x : Int) : 0 ≤ bitI .and .i64 x 255 ∧ bitI .and .i64 x 255 ≤ 255 := by
  have h : (BitVec.ofInt 64 x &&& BitVec.ofInt 64 255).toNat ≤ 255 := by
    rw [BitVec.toNat_and]
    exact Nat.le_trans Nat.and_le_right (by decide)
  have e : bitI .and .i64 x 255 = IntKind.i64.wrap ((BitVec.ofInt 64 x &&& BitVec.ofInt 64 255).toNat : Int) := rfl
  rw [e, wrap_i64 (by omega) (by omega)]
  omega
theorem byX_in (b : List Int) (i h : Int) : 0 ≤ byX b i h ∧ byX b i h ≤ 255 := by
  unfold byX byW
  split <;> exact bit_255 _
theorem blX_ge {b : List Int} {i h n : Int} (hn : 1 ≤ n) : 0 ≤ blX b i h n := by
  unfold blX
  rw [if_neg (by omega)]
  split
  · exact Int.tmod_nonneg _ (byX_in _ _ _).1
  · have h1 := byX_in b i h
    have h2 := byX_in b (byI b i) (byH h)
    have h3 := byX_in b (byI b (byI b i)) (byH (byH h))
    rw [wrap_i64 (n := byX b i h * 65536) (by omega) (by omega), wrap_i64 (n := byX b (byI b i) (byH h) * 256) (by omega) (by omega), wrap_i64 (n := byX b i h * 65536 + byX b (byI b i) (byH h) * 256) (by omega) (by omega), wrap_i64 (by omega) (by omega)]
    exact Int.tmod_nonneg _ (by omega)
theorem getD_toNat {α : Type} {l : List α} {k : Int} (h0 : 0 ≤ k) : k.toNat < l.length ↔ k < (l.length : Int) := by omega
theorem l1Once_ok (b : List Int) (i h n : Int) (hi : 0 ≤ i) (hb : b.length ≤ maxLen) : MutOK Try.prog 34 [none, none] [.obj (.box 56 [.rd (.list (.int .u8)) b, .rd I i, .rd I h]), .rd ⟨I, n⟩] (.rd .bool (blX b i h n == 0)) [.box 56 [.rd (.list (.int .u8)) b, .rd I (blI b i n), .rd I (blH h n)]] := by
  refine fun_ofM (tb := tb) follows Try.func34 (by kernel_rfl) Try.ntmps34 rfl rfl (by simp [shOK]) rfl ?_
  intro cx hN hw
  simp (disch := exact eqId (by kernel_rfl)) only [go_sem, ↓reduceIte, Nat.reduceAdd, Nat.reduceMul, Nat.reduceLT, Nat.reduceBEq, Nat.reduceLeDiff, Nat.reduceEqDiff, Int.reduceToNat]
  refine callM_intro (l1Below_ok b i h n hi hb) ⟨⟨trivial, by decide⟩, rfl, rfl⟩ ?_
  simp (disch := exact eqId (by kernel_rfl)) only [go_sem, ↓reduceIte, Nat.reduceAdd, Nat.reduceMul, Nat.reduceLT, Nat.reduceBEq, Nat.reduceLeDiff, Nat.reduceEqDiff, Int.reduceToNat]

theorem l1Int_ok (b : List Int) (i h : Int) (l : List Int) (hi : 0 ≤ i) (hb : b.length ≤ maxLen) (hl : 1 ≤ l.length) : MutOK Try.prog 29 [none, none] [.obj (.box 56 [.rd (.list (.int .u8)) b, .rd I i, .rd I h]), .rd ⟨(.list I), l⟩] (.rd I (l.getD (blX b i h (l.length : Int)).toNat 0)) [.box 56 [.rd (.list (.int .u8)) b, .rd I (blI b i (l.length : Int)), .rd I (blH h (l.length : Int))]] := by
  refine fun_ofM (tb := tb) follows Try.func29 (by kernel_rfl) Try.ntmps29 rfl rfl (by simp [shOK]) rfl ?_
  intro cx hN hw
  have h1 := blX_ge (b := b) (i := i) (h := h) (n := (l.length : Int)) (by omega)
  have h2 := blX_lt (b := b) (i := i) (h := h) (n := (l.length : Int)) (by omega)
  simp (disch := exact eqId (by kernel_rfl)) only [go_sem, ↓reduceIte, Nat.reduceAdd, Nat.reduceMul, Nat.reduceLT, Nat.reduceBEq, Nat.reduceLeDiff, Nat.reduceEqDiff, Int.reduceToNat]
  refine callM_intro (l1Below_ok b i h (l.length : Int) hi hb) ⟨⟨trivial, by decide⟩, rfl, rfl⟩ ?_
  simp (disch := exact eqId (by kernel_rfl)) only [go_sem, ↓reduceIte, Nat.reduceAdd, Nat.reduceMul, Nat.reduceLT, Nat.reduceBEq, Nat.reduceLeDiff, Nat.reduceEqDiff, Int.reduceToNat]
  repeat' (first | (refine And.intro ?_ ?_) | intro _)
  all_goals (try omega)
def NUM : List Int := [1, 2, 11, 12, 13, 21, 31, 32, 33, 34, 0, 50]
def RAW : List Int := [-1, 0, 10000, 10001, 9223372036854775807, -9223372036854775808]
def K8 : List tKey.den := [(1, 90, 1, 0, 501, ()), (2, 90, 3, 40, 502, ()), (11, 1, 1, 0, 511, ()), (12, 1, 2, 20, 512, ()), (13, 2, 3, 40, 513, ()), (21, 50, 1, 0, 521, ()), (31, 81, 1, 0, 531, ()), (32, 82, 2, 20, 532, ()), (33, 83, 3, 40, 533, ()), (34, 84, 4, 60, 534, ())]
def rwX (b : List Int) (i h : Int) : Int := if blX b i h 6 = 0 then RAW.getD (blX b (blI b i 6) (blH h 6) 6).toNat 0 else blX b (blI b i 6) (blH h 6) 40
def rwI (b : List Int) (i h : Int) : Int := if blX b i h 6 = 0 then blI b (blI b i 6) 6 else blI b (blI b i 6) 40
def rwH (b : List Int) (i h : Int) : Int := if blX b i h 6 = 0 then blH (blH h 6) 6 else blH (blH h 6) 40
theorem rwI_ge {b : List Int} {i h : Int} (hb : b.length ≤ maxLen) (hi : 0 ≤ i) : 0 ≤ rwI b i h := by
  unfold rwI
  split <;> exact blI_ge hb (blI_ge hb hi)
theorem l8Keys_ok : FunOK Try.prog 30 [] (.own 41 tKey K8) := by
  refine fun_of (tb := tb) follows Try.func30 (by kernel_rfl) Try.ntmps30 rfl rfl rfl ?_
  intro cx hN hw
  simp (disch := exact eqId (by kernel_rfl)) only [go_sem, ↓reduceIte, Nat.reduceAdd, Nat.reduceMul, Nat.reduceLT, Nat.reduceBEq, Nat.reduceLeDiff, Nat.reduceEqDiff, Int.reduceToNat]
  try rfl
theorem l8Keys_fr : FunOK Try.prog 30 [] (.fresh 41 tKey K8) := l8Keys_ok.fr rfl
theorem l8Number_ok (b : List Int) (i h : Int) (hi : 0 ≤ i) (hb : b.length ≤ maxLen) : MutOK Try.prog 23 [none] [.obj (.box 56 [.rd (.list (.int .u8)) b, .rd I i, .rd I h])] (.rd I (NUM.getD (blX b i h 12).toNat 0)) [.box 56 [.rd (.list (.int .u8)) b, .rd I (blI b i 12), .rd I (blH h 12)]] := by
  refine fun_ofM (tb := tb) follows Try.func23 (by kernel_rfl) Try.ntmps23 rfl rfl (by simp [shOK]) rfl ?_
  intro cx hN hw
  simp (disch := exact eqId (by kernel_rfl)) only [go_sem, ↓reduceIte, Nat.reduceAdd, Nat.reduceMul, Nat.reduceLT, Nat.reduceBEq, Nat.reduceLeDiff, Nat.reduceEqDiff, Int.reduceToNat]
  refine callM_intro (l1Int_ok b i h NUM hi hb (by decide)) ⟨⟨trivial, by decide⟩, rfl, rfl⟩ ?_
  simp (disch := exact eqId (by kernel_rfl)) only [go_sem, ↓reduceIte, Nat.reduceAdd, Nat.reduceMul, Nat.reduceLT, Nat.reduceBEq, Nat.reduceLeDiff, Nat.reduceEqDiff, Int.reduceToNat]
  all_goals (try exact ⟨rfl, rfl⟩)
theorem l4Raw_ok (b : List Int) (i h : Int) (hi : 0 ≤ i) (hb : b.length ≤ maxLen) : MutOK Try.prog 24 [none] [.obj (.box 56 [.rd (.list (.int .u8)) b, .rd I i, .rd I h])] (.rd I (rwX b i h)) [.box 56 [.rd (.list (.int .u8)) b, .rd I (rwI b i h), .rd I (rwH b i h)]] := by
  refine fun_ofM (tb := tb) follows Try.func24 (by kernel_rfl) Try.ntmps24 rfl rfl (by simp [shOK]) rfl ?_
  intro cx hN hw
  simp (disch := exact eqId (by kernel_rfl)) only [go_sem, ↓reduceIte, Nat.reduceAdd, Nat.reduceMul, Nat.reduceLT, Nat.reduceBEq, Nat.reduceLeDiff, Nat.reduceEqDiff, Int.reduceToNat]
  refine callM_intro (l1Once_ok b i h 6 hi hb) ⟨⟨trivial, by decide⟩, rfl, rfl⟩ ?_
  simp (disch := exact eqId (by kernel_rfl)) only [go_sem, ↓reduceIte, Nat.reduceAdd, Nat.reduceMul, Nat.reduceLT, Nat.reduceBEq, Nat.reduceLeDiff, Nat.reduceEqDiff, Int.reduceToNat]
  refine ⟨fun hc => ?_, fun hc => ?_⟩
  · refine callM_intro (l1Int_ok b (blI b i 6) (blH h 6) RAW (blI_ge hb hi) hb (by decide)) ⟨⟨trivial, by decide⟩, rfl, rfl⟩ ?_
    simp (disch := exact eqId (by kernel_rfl)) only [go_sem, ↓reduceIte, Nat.reduceAdd, Nat.reduceMul, Nat.reduceLT, Nat.reduceBEq, Nat.reduceLeDiff, Nat.reduceEqDiff, Int.reduceToNat]
    unfold rwX rwI rwH
    rw [if_pos hc, if_pos hc, if_pos hc]
    exact ⟨rfl, rfl⟩
  · refine callM_intro (l1Below_ok b (blI b i 6) (blH h 6) 40 (blI_ge hb hi) hb) ⟨⟨trivial, by decide⟩, rfl, rfl⟩ ?_
    simp (disch := exact eqId (by kernel_rfl)) only [go_sem, ↓reduceIte, Nat.reduceAdd, Nat.reduceMul, Nat.reduceLT, Nat.reduceBEq, Nat.reduceLeDiff, Nat.reduceEqDiff, Int.reduceToNat]
    unfold rwX rwI rwH
    rw [if_neg hc, if_neg hc, if_neg hc]
    exact ⟨rfl, rfl⟩
def anyK (b : List Int) (j s i h : Int) : List tKey.den :=
  if s = 0 then K8.set j.toNat (setF tKey (K8.getD j.toNat tKey.dflt) 0 (([0, 1, 50, 99, 100] : List Int).getD (blX b i h 5).toNat 0))
  else if s = 1 then K8.set j.toNat (setF tKey (K8.getD j.toNat tKey.dflt) 1 (([-1, 5, 100] : List Int).getD (blX b i h 3).toNat 0))
  else if s = 2 then K8.set j.toNat (setF tKey (K8.getD j.toNat tKey.dflt) 4 (([0, 777] : List Int).getD (blX b i h 2).toNat 0))
  else if s = 3 then K8.set j.toNat (setF tKey (K8.getD j.toNat tKey.dflt) 3 (rwX b i h))
  else if s = 4 then K8.set j.toNat (setF tKey (K8.getD j.toNat tKey.dflt) 2 (([-1, 0, 99, 100] : List Int).getD (blX b i h 4).toNat 0))
  else K8
def anyI (b : List Int) (s i h : Int) : Int := if s = 0 then blI b i 5 else if s = 1 then blI b i 3 else if s = 2 then blI b i 2 else if s = 3 then rwI b i h else if s = 4 then blI b i 4 else i
def anyH (b : List Int) (s i h : Int) : Int := if s = 0 then blH h 5 else if s = 1 then blH h 3 else if s = 2 then blH h 2 else if s = 3 then rwH b i h else if s = 4 then blH h 4 else h
theorem anyI_ge {b : List Int} {s i h : Int} (hb : b.length ≤ maxLen) (hi : 0 ≤ i) : 0 ≤ anyI b s i h := by
  unfold anyI
  repeat' split
  all_goals first | exact blI_ge hb hi | exact rwI_ge hb hi | exact hi
theorem l8Any_ok (b : List Int) (i h : Int) (hi : 0 ≤ i) (hb : b.length ≤ maxLen) : MutOK Try.prog 22 [none] [.obj (.box 56 [.rd (.list (.int .u8)) b, .rd I i, .rd I h])] (.fresh 41 tKey (anyK b (blX b i h 10) (blX b (blI b i 10) (blH h 10) 9) (blI b (blI b i 10) 9) (blH (blH h 10) 9))) [.box 56 [.rd (.list (.int .u8)) b, .rd I (anyI b (blX b (blI b i 10) (blH h 10) 9) (blI b (blI b i 10) 9) (blH (blH h 10) 9)), .rd I (anyH b (blX b (blI b i 10) (blH h 10) 9) (blI b (blI b i 10) 9) (blH (blH h 10) 9))]] := by
  refine fun_ofM (tb := tb) follows Try.func22 (by kernel_rfl) Try.ntmps22 rfl rfl (by simp [shOK]) rfl ?_
  intro cx hN hw
  have hk8 : K8.length = 10 := rfl
  have j0 := blX_ge (b := b) (i := i) (h := h) (n := 10) (by decide)
  have j1 := blX_lt (b := b) (i := i) (h := h) (n := 10) (by decide)
  simp (disch := exact eqId (by kernel_rfl)) only [go_sem, ↓reduceIte, Nat.reduceAdd, Nat.reduceMul, Nat.reduceLT, Nat.reduceBEq, Nat.reduceLeDiff, Nat.reduceEqDiff, Int.reduceToNat]
  refine callQ_intro l8Keys_fr ?_
  simp (disch := exact eqId (by kernel_rfl)) only [go_sem, ↓reduceIte, Nat.reduceAdd, Nat.reduceMul, Nat.reduceLT, Nat.reduceBEq, Nat.reduceLeDiff, Nat.reduceEqDiff, Int.reduceToNat]
  rw [show (K8.length : Int) = 10 from rfl]
  refine callM_intro (l1Below_ok b i h 10 hi hb) ⟨⟨trivial, by decide⟩, rfl, rfl⟩ ?_
  simp (disch := exact eqId (by kernel_rfl)) only [go_sem, ↓reduceIte, Nat.reduceAdd, Nat.reduceMul, Nat.reduceLT, Nat.reduceBEq, Nat.reduceLeDiff, Nat.reduceEqDiff, Int.reduceToNat]
  refine callM_intro (l1Below_ok b (blI b i 10) (blH h 10) 9 (blI_ge hb hi) hb) ⟨⟨trivial, by decide⟩, rfl, rfl⟩ ?_
  simp (disch := exact eqId (by kernel_rfl)) only [go_sem, ↓reduceIte, Nat.reduceAdd, Nat.reduceMul, Nat.reduceLT, Nat.reduceBEq, Nat.reduceLeDiff, Nat.reduceEqDiff, Int.reduceToNat]
  generalize hs : blX b (blI b i 10) (blH h 10) 9 = s
  have hi2 : 0 ≤ blI b (blI b i 10) 9 := blI_ge hb (blI_ge hb hi)
  generalize blI b (blI b i 10) 9 = i2 at *
  generalize blH (blH h 10) 9 = h2 at *
  generalize blX b i h 10 = j at *
  repeat' (first | (refine And.intro ?_ ?_) | intro _ | (refine callM_intro (l1Int_ok b i2 h2 [0, 1, 50, 99, 100] hi2 hb (by decide)) ⟨⟨trivial, by decide⟩, rfl, rfl⟩ ?_; try (simp (disch := exact eqId (by kernel_rfl)) only [go_sem, ↓reduceIte, Nat.reduceAdd, Nat.reduceMul, Nat.reduceLT, Nat.reduceBEq, Nat.reduceLeDiff, Nat.reduceEqDiff, Int.reduceToNat])) | (refine callM_intro (l1Int_ok b i2 h2 [-1, 5, 100] hi2 hb (by decide)) ⟨⟨trivial, by decide⟩, rfl, rfl⟩ ?_; try (simp (disch := exact eqId (by kernel_rfl)) only [go_sem, ↓reduceIte, Nat.reduceAdd, Nat.reduceMul, Nat.reduceLT, Nat.reduceBEq, Nat.reduceLeDiff, Nat.reduceEqDiff, Int.reduceToNat])) | (refine callM_intro (l1Int_ok b i2 h2 [0, 777] hi2 hb (by decide)) ⟨⟨trivial, by decide⟩, rfl, rfl⟩ ?_; try (simp (disch := exact eqId (by kernel_rfl)) only [go_sem, ↓reduceIte, Nat.reduceAdd, Nat.reduceMul, Nat.reduceLT, Nat.reduceBEq, Nat.reduceLeDiff, Nat.reduceEqDiff, Int.reduceToNat])) | (refine callM_intro (l1Int_ok b i2 h2 [-1, 0, 99, 100] hi2 hb (by decide)) ⟨⟨trivial, by decide⟩, rfl, rfl⟩ ?_; try (simp (disch := exact eqId (by kernel_rfl)) only [go_sem, ↓reduceIte, Nat.reduceAdd, Nat.reduceMul, Nat.reduceLT, Nat.reduceBEq, Nat.reduceLeDiff, Nat.reduceEqDiff, Int.reduceToNat])) | (refine callM_intro (l4Raw_ok b i2 h2 hi2 hb) ⟨⟨trivial, by decide⟩, rfl, rfl⟩ ?_; try (simp (disch := exact eqId (by kernel_rfl)) only [go_sem, ↓reduceIte, Nat.reduceAdd, Nat.reduceMul, Nat.reduceLT, Nat.reduceBEq, Nat.reduceLeDiff, Nat.reduceEqDiff, Int.reduceToNat])))
  all_goals (try omega)
  all_goals (try (show Nat.ble _ _ = true; rfl))
  all_goals (first | unfold anyK | unfold anyI anyH)
  all_goals (simp only [*, ↓reduceIte])
  all_goals (try rfl)
end Go.Proofs.Ytneobkdgfahhoaa
