/- What small draws answer, by the state of their cursor. It proves nothing of a statement by itself. -/
import Derived.Test.YtcbecpjhgfkofaaF21
set_option linter.unusedSimpArgs false
set_option linter.unusedVariables false
set_option maxRecDepth 100000
namespace Go.Proofs.Ytcbecpjhgfkofaa
open Go.AL
theorem bit_255 (x : Int) : 0 ≤ bitI .and .i64 x 255 ∧ bitI .and .i64 x 255 ≤ 255 := by
  have h : (BitVec.ofInt 64 x &&& BitVec.ofInt 64 255).toNat ≤ 255 := by
    rw [BitVec.toNat_and]
    exact Nat.le_trans Nat.and_le_right (by decide)
  have e : bitI .and .i64 x 255 = IntKind.i64.wrap ((BitVec.ofInt 64 x &&& BitVec.ofInt 64 255).toNat : Int) := rfl
  rw [e, wrap_i64 (by omega) (by omega)]
  omega
theorem byX_in (b : List Int) (i h : Int) : 0 ≤ byX b i h ∧ byX b i h ≤ 255 := by
  unfold byX byW
  split <;> exact bit_255 _
theorem blX_ge {b : List Int} {i h n : Int} (hn : 1 ≤ n) : 0 ≤ blX b i h n := by
  unfold blX
  rw [if_neg (by omega)]
  split
  · exact Int.tmod_nonneg _ (byX_in _ _ _).1
  · have h1 := byX_in b i h
    have h2 := byX_in b (byI b i) (byH h)
    have h3 := byX_in b (byI b (byI b i)) (byH (byH h))
    rw [wrap_i64 (n := byX b i h * 65536) (by omega) (by omega), wrap_i64 (n := byX b (byI b i) (byH h) * 256) (by omega) (by omega), wrap_i64 (n := byX b i h * 65536 + byX b (byI b i) (byH h) * 256) (by omega) (by omega), wrap_i64 (by omega) (by omega)]
    exact Int.tmod_nonneg _ (by omega)
/-- The state of a draws' cursor. -/
structure Cu where
  b : List Int
  i : Int
  h : Int
  hb : b.length ≤ maxLen
  hi : 0 ≤ i
def cu0 (b : List Int) (hb : b.length ≤ maxLen) : Cu := ⟨b, 0, newH b, hb, Int.le_refl 0⟩
def dB (s : Cu) (n : Int) : Int × Cu := (blX s.b s.i s.h n, ⟨s.b, blI s.b s.i n, blH s.h n, s.hb, blI_ge s.hb s.hi⟩)
theorem dB_in (s : Cu) {n : Int} (hn : 1 ≤ n) : 0 ≤ (dB s n).1 ∧ (dB s n).1 < n := ⟨blX_ge hn, blX_lt hn⟩
def dO (s : Cu) (n : Int) : Bool × Cu := ((dB s n).1 == 0, (dB s n).2)
def dI (s : Cu) (l : List Int) : Int × Cu := (l.getD (dB s (l.length : Int)).1.toNat 0, (dB s (l.length : Int)).2)
theorem dI_mem (s : Cu) {l : List Int} (hl : 1 ≤ l.length) : (dI s l).1 ∈ l := by
  have := dB_in s (n := (l.length : Int)) (by omega)
  exact getD_mem (by omega) 0
def rep {α : Type} (f : Cu → α × Cu) : Nat → Cu → List α × Cu
  | 0, s => ([], s)
  | n + 1, s => ((f s).1 :: (rep f n (f s).2).1, (rep f n (f s).2).2)
theorem rep_len {α : Type} (f : Cu → α × Cu) : ∀ (n : Nat) (s : Cu), (rep f n s).1.length = n
  | 0, _ => rfl
  | n + 1, s => by rw [rep]; simp only [List.length_cons]; rw [rep_len f n]
theorem rep_all {α : Type} {f : Cu → α × Cu} {p : α → Prop} (hf : ∀ s, p (f s).1) : ∀ (n : Nat) (s : Cu) (x : α), x ∈ (rep f n s).1 → p x
  | 0, _, x, h => by cases h
  | n + 1, s, x, h => by
    rw [rep] at h
    rcases List.mem_cons.1 h with rfl | h
    · exact hf s
    · exact rep_all hf n _ x h
def NUM : List Int := [1, 2, 11, 12, 13, 21, 31, 32, 33, 34, 0, 50]
def RAW : List Int := [-1, 0, 10000, 10001, 9223372036854775807, -9223372036854775808]
def dN (s : Cu) : Int × Cu := dI s NUM
def dR (s : Cu) : Int × Cu := if (dO s 6).1 = true then dI (dO s 6).2 RAW else dB (dO s 6).2 40
def dSp (s : Cu) : tSpan.den × Cu := (((dB s 30).1, IntKind.i64.wrap ((dB s 30).1 + (dB (dB s 30).2 12).1), ()), (dB (dB s 30).2 12).2)
def dSpA (s : Cu) : tSpan.den × Cu :=
  let x := dSp s
  let k := dB x.2 8
  if k.1 = 0 then (((dR k.2).1, x.1.2.1, ()), (dR k.2).2) else if k.1 = 1 then ((x.1.1, (dR k.2).1, ()), (dR k.2).2) else (x.1, k.2)
theorem dB_ok (s : Cu) (n : Int) : MutOK Try.prog 29 [none, none] [.obj (.box 58 [.rd (.list (.int .u8)) (s).b, .rd I (s).i, .rd I (s).h]), .rd ⟨I, n⟩] (.rd I (dB s n).1) [.box 58 [.rd (.list (.int .u8)) ((dB s n).2).b, .rd I ((dB s n).2).i, .rd I ((dB s n).2).h]] := l1Below_ok s.b s.i s.h n s.hi s.hb
theorem dO_ok (s : Cu) (n : Int) : MutOK Try.prog 40 [none, none] [.obj (.box 58 [.rd (.list (.int .u8)) (s).b, .rd I (s).i, .rd I (s).h]), .rd ⟨I, n⟩] (.rd .bool (dO s n).1) [.box 58 [.rd (.list (.int .u8)) ((dO s n).2).b, .rd I ((dO s n).2).i, .rd I ((dO s n).2).h]] := by
  refine fun_ofM (tb := tb) follows Try.func40 (by kernel_rfl) Try.ntmps40 rfl rfl (by simp [shOK]) rfl ?_
  intro cx hN hw
  simp (disch := exact eqId (by kernel_rfl)) only [go_sem, ↓reduceIte, Nat.reduceAdd, Nat.reduceMul, Nat.reduceLT, Nat.reduceBEq, Nat.reduceLeDiff, Nat.reduceEqDiff, Int.reduceToNat]
  repeat' (first | (refine And.intro ?_ ?_) | intro _ | (refine callM_intro (dB_ok _ _) ⟨⟨trivial, by decide⟩, rfl, rfl⟩ ?_; try (simp (disch := exact eqId (by kernel_rfl)) only [go_sem, ↓reduceIte, Nat.reduceAdd, Nat.reduceMul, Nat.reduceLT, Nat.reduceBEq, Nat.reduceLeDiff, Nat.reduceEqDiff, Int.reduceToNat])))
  all_goals (try omega)
  all_goals (try (unfold dO; simp only [*, ↓reduceIte]; done))
  all_goals (try (unfold dO; simp only [*, ↓reduceIte]; first | rfl | exact ⟨rfl, rfl⟩ | exact ⟨rfl, rfl, rfl⟩))
theorem dI_ok (s : Cu) (l : List Int) (hl : 1 ≤ l.length) : MutOK Try.prog 36 [none, none] [.obj (.box 58 [.rd (.list (.int .u8)) (s).b, .rd I (s).i, .rd I (s).h]), .rd ⟨(.list I), l⟩] (.rd I (dI s l).1) [.box 58 [.rd (.list (.int .u8)) ((dI s l).2).b, .rd I ((dI s l).2).i, .rd I ((dI s l).2).h]] := by
  have h1 := dB_in s (n := (l.length : Int)) (by omega)
  refine fun_ofM (tb := tb) follows Try.func36 (by kernel_rfl) Try.ntmps36 rfl rfl (by simp [shOK]) rfl ?_
  intro cx hN hw
  simp (disch := exact eqId (by kernel_rfl)) only [go_sem, ↓reduceIte, Nat.reduceAdd, Nat.reduceMul, Nat.reduceLT, Nat.reduceBEq, Nat.reduceLeDiff, Nat.reduceEqDiff, Int.reduceToNat]
  repeat' (first | (refine And.intro ?_ ?_) | intro _ | (refine callM_intro (dB_ok _ _) ⟨⟨trivial, by decide⟩, rfl, rfl⟩ ?_; try (simp (disch := exact eqId (by kernel_rfl)) only [go_sem, ↓reduceIte, Nat.reduceAdd, Nat.reduceMul, Nat.reduceLT, Nat.reduceBEq, Nat.reduceLeDiff, Nat.reduceEqDiff, Int.reduceToNat])))
  all_goals (try omega)
  all_goals (try (unfold dI; simp only [*, ↓reduceIte]; done))
  all_goals (try (unfold dI; simp only [*, ↓reduceIte]; first | rfl | exact ⟨rfl, rfl⟩ | exact ⟨rfl, rfl, rfl⟩))
theorem l8Number_ok (s : Cu)  : MutOK Try.prog 37 [none] [.obj (.box 58 [.rd (.list (.int .u8)) (s).b, .rd I (s).i, .rd I (s).h])] (.rd I (dN s).1) [.box 58 [.rd (.list (.int .u8)) ((dN s).2).b, .rd I ((dN s).2).i, .rd I ((dN s).2).h]] := by
  refine fun_ofM (tb := tb) follows Try.func37 (by kernel_rfl) Try.ntmps37 rfl rfl (by simp [shOK]) rfl ?_
  intro cx hN hw
  simp (disch := exact eqId (by kernel_rfl)) only [go_sem, ↓reduceIte, Nat.reduceAdd, Nat.reduceMul, Nat.reduceLT, Nat.reduceBEq, Nat.reduceLeDiff, Nat.reduceEqDiff, Int.reduceToNat]
  repeat' (first | (refine And.intro ?_ ?_) | intro _ | (refine callM_intro (dI_ok _ NUM (by decide)) ⟨⟨trivial, by decide⟩, rfl, rfl⟩ ?_; try (simp (disch := exact eqId (by kernel_rfl)) only [go_sem, ↓reduceIte, Nat.reduceAdd, Nat.reduceMul, Nat.reduceLT, Nat.reduceBEq, Nat.reduceLeDiff, Nat.reduceEqDiff, Int.reduceToNat])))
  all_goals (try omega)
  all_goals (try (unfold dN; simp only [*, ↓reduceIte]; done))
  all_goals (try (unfold dN; simp only [*, ↓reduceIte]; first | rfl | exact ⟨rfl, rfl⟩ | exact ⟨rfl, rfl, rfl⟩))
theorem l4Raw_ok (s : Cu)  : MutOK Try.prog 32 [none] [.obj (.box 58 [.rd (.list (.int .u8)) (s).b, .rd I (s).i, .rd I (s).h])] (.rd I (dR s).1) [.box 58 [.rd (.list (.int .u8)) ((dR s).2).b, .rd I ((dR s).2).i, .rd I ((dR s).2).h]] := by
  refine fun_ofM (tb := tb) follows Try.func32 (by kernel_rfl) Try.ntmps32 rfl rfl (by simp [shOK]) rfl ?_
  intro cx hN hw
  simp (disch := exact eqId (by kernel_rfl)) only [go_sem, ↓reduceIte, Nat.reduceAdd, Nat.reduceMul, Nat.reduceLT, Nat.reduceBEq, Nat.reduceLeDiff, Nat.reduceEqDiff, Int.reduceToNat]
  repeat' (first | (refine And.intro ?_ ?_) | intro _ | (refine callM_intro (dO_ok _ _) ⟨⟨trivial, by decide⟩, rfl, rfl⟩ ?_; try (simp (disch := exact eqId (by kernel_rfl)) only [go_sem, ↓reduceIte, Nat.reduceAdd, Nat.reduceMul, Nat.reduceLT, Nat.reduceBEq, Nat.reduceLeDiff, Nat.reduceEqDiff, Int.reduceToNat])) | (refine callM_intro (dI_ok _ RAW (by decide)) ⟨⟨trivial, by decide⟩, rfl, rfl⟩ ?_; try (simp (disch := exact eqId (by kernel_rfl)) only [go_sem, ↓reduceIte, Nat.reduceAdd, Nat.reduceMul, Nat.reduceLT, Nat.reduceBEq, Nat.reduceLeDiff, Nat.reduceEqDiff, Int.reduceToNat])) | (refine callM_intro (dB_ok _ _) ⟨⟨trivial, by decide⟩, rfl, rfl⟩ ?_; try (simp (disch := exact eqId (by kernel_rfl)) only [go_sem, ↓reduceIte, Nat.reduceAdd, Nat.reduceMul, Nat.reduceLT, Nat.reduceBEq, Nat.reduceLeDiff, Nat.reduceEqDiff, Int.reduceToNat])))
  all_goals (try omega)
  all_goals (try (unfold dR; simp only [*, ↓reduceIte]; done))
  all_goals (try (unfold dR; simp only [*, ↓reduceIte]; first | rfl | exact ⟨rfl, rfl⟩ | exact ⟨rfl, rfl, rfl⟩))
theorem l4Draw_ok (s : Cu)  : MutOK Try.prog 31 [none] [.obj (.box 58 [.rd (.list (.int .u8)) (s).b, .rd I (s).i, .rd I (s).h])] (.rd tSpan (dSp s).1) [.box 58 [.rd (.list (.int .u8)) ((dSp s).2).b, .rd I ((dSp s).2).i, .rd I ((dSp s).2).h]] := by
  refine fun_ofM (tb := tb) follows Try.func31 (by kernel_rfl) Try.ntmps31 rfl rfl (by simp [shOK]) rfl ?_
  intro cx hN hw
  simp (disch := exact eqId (by kernel_rfl)) only [go_sem, ↓reduceIte, Nat.reduceAdd, Nat.reduceMul, Nat.reduceLT, Nat.reduceBEq, Nat.reduceLeDiff, Nat.reduceEqDiff, Int.reduceToNat]
  repeat' (first | (refine And.intro ?_ ?_) | intro _ | (refine callM_intro (dB_ok _ _) ⟨⟨trivial, by decide⟩, rfl, rfl⟩ ?_; try (simp (disch := exact eqId (by kernel_rfl)) only [go_sem, ↓reduceIte, Nat.reduceAdd, Nat.reduceMul, Nat.reduceLT, Nat.reduceBEq, Nat.reduceLeDiff, Nat.reduceEqDiff, Int.reduceToNat])))
  all_goals (try omega)
  all_goals (try (unfold dSp; simp only [*, ↓reduceIte]; done))
  all_goals (try (unfold dSp; simp only [*, ↓reduceIte]; first | rfl | exact ⟨rfl, rfl⟩ | exact ⟨rfl, rfl, rfl⟩))
theorem l4Any_ok (s : Cu)  : MutOK Try.prog 16 [none] [.obj (.box 58 [.rd (.list (.int .u8)) (s).b, .rd I (s).i, .rd I (s).h])] (.rd tSpan (dSpA s).1) [.box 58 [.rd (.list (.int .u8)) ((dSpA s).2).b, .rd I ((dSpA s).2).i, .rd I ((dSpA s).2).h]] := by
  refine fun_ofM (tb := tb) follows Try.func16 (by kernel_rfl) Try.ntmps16 rfl rfl (by simp [shOK]) rfl ?_
  intro cx hN hw
  simp (disch := exact eqId (by kernel_rfl)) only [go_sem, ↓reduceIte, Nat.reduceAdd, Nat.reduceMul, Nat.reduceLT, Nat.reduceBEq, Nat.reduceLeDiff, Nat.reduceEqDiff, Int.reduceToNat]
  repeat' (first | (refine And.intro ?_ ?_) | intro _ | (refine callM_intro (l4Draw_ok _) ⟨⟨trivial, by decide⟩, rfl, rfl⟩ ?_; try (simp (disch := exact eqId (by kernel_rfl)) only [go_sem, ↓reduceIte, Nat.reduceAdd, Nat.reduceMul, Nat.reduceLT, Nat.reduceBEq, Nat.reduceLeDiff, Nat.reduceEqDiff, Int.reduceToNat])) | (refine callM_intro (l4Raw_ok _) ⟨⟨trivial, by decide⟩, rfl, rfl⟩ ?_; try (simp (disch := exact eqId (by kernel_rfl)) only [go_sem, ↓reduceIte, Nat.reduceAdd, Nat.reduceMul, Nat.reduceLT, Nat.reduceBEq, Nat.reduceLeDiff, Nat.reduceEqDiff, Int.reduceToNat])) | (refine callM_intro (dB_ok _ _) ⟨⟨trivial, by decide⟩, rfl, rfl⟩ ?_; try (simp (disch := exact eqId (by kernel_rfl)) only [go_sem, ↓reduceIte, Nat.reduceAdd, Nat.reduceMul, Nat.reduceLT, Nat.reduceBEq, Nat.reduceLeDiff, Nat.reduceEqDiff, Int.reduceToNat])))
  all_goals (try omega)
  all_goals (try (unfold dSpA; simp only [*, ↓reduceIte]; done))
  all_goals (try (unfold dSpA; simp only [*, ↓reduceIte]; first | rfl | exact ⟨rfl, rfl⟩ | exact ⟨rfl, rfl, rfl⟩))
end Go.Proofs.Ytcbecpjhgfkofaa
