/- What the functions of good, bad and open times answer, on both sides. It proves nothing of a statement by itself. -/
import Derived.Test.YtcbecpjhgfkofaaF15
set_option linter.unusedSimpArgs false
set_option linter.unusedVariables false
set_option maxRecDepth 100000
namespace Go.Proofs.Ytcbecpjhgfkofaa
open Go.AL
def stL (n : Int) (a : Int) (x : tStatus.den) : Int := if (x.1 : Int) = n ∧ ¬ (x.2.2.1 : Int) < 0 ∧ (a < 0 ∨ (x.2.2.1 : Int) < a) then x.2.2.1 else a
def stM (n : Int) (a : Int) (x : tStatus.den) : Int := if (x.1 : Int) = n ∧ ¬ (x.2.2.1 : Int) < 0 then mxF a x.2.2.1 else a
def stG (n : Int) (a : Int) (x : tStatus.den) : Int := if (x.1 : Int) = n ∧ (x.2.2.1 : Int) < 0 then mxF a x.2.1 else a
def guF (l : List tStatus.den) (n : Int) : Int := if 0 ≤ l.foldl (stL n) (-1) then IntKind.i64.wrap (l.foldl (stL n) (-1) - 1) else l.foldl (stG n) (-1)
def bfF (l : List tStatus.den) (n : Int) : Int := if l.foldl (stM n) (-1) < 0 then 10001 else mxF (l.foldl (stM n) (-1)) (IntKind.i64.wrap (l.foldl (stG n) (-1) + 1))
theorem fold_cons' {α β : Type} (f : β → α → β) {l : List α} {k : Nat} (hk : k < l.length) (d : α) (b : β) : (l.drop k).foldl f b = (l.drop (k + 1)).foldl f (f b (l.getD k d)) := by
  rw [drop_getD hk d, List.foldl_cons]
theorem stL_ne {n a : Int} {x : tStatus.den} (h : ¬ (x.1 : Int) = n) : stL n a x = a := if_neg (fun k => h k.1)
theorem stM_ne {n a : Int} {x : tStatus.den} (h : ¬ (x.1 : Int) = n) : stM n a x = a := if_neg (fun k => h k.1)
theorem stG_ne {n a : Int} {x : tStatus.den} (h : ¬ (x.1 : Int) = n) : stG n a x = a := if_neg (fun k => h k.1)
theorem stL_lt {n a : Int} {x : tStatus.den} (h : (x.2.2.1 : Int) < 0) : stL n a x = a := if_neg (fun k => k.2.1 h)
theorem stM_lt {n a : Int} {x : tStatus.den} (h : (x.2.2.1 : Int) < 0) : stM n a x = a := if_neg (fun k => k.2 h)
theorem stG_lt {n a : Int} {x : tStatus.den} (h1 : (x.1 : Int) = n) (h : (x.2.2.1 : Int) < 0) : stG n a x = mxF a x.2.1 := if_pos ⟨h1, h⟩
theorem stG_ge {n a : Int} {x : tStatus.den} (h : ¬ (x.2.2.1 : Int) < 0) : stG n a x = a := if_neg (fun k => h k.2)
theorem stM_ge {n a : Int} {x : tStatus.den} (h1 : (x.1 : Int) = n) (h : ¬ (x.2.2.1 : Int) < 0) : stM n a x = mxF a x.2.2.1 := if_pos ⟨h1, h⟩
theorem stL_tk {n a : Int} {x : tStatus.den} (h1 : (x.1 : Int) = n) (h : ¬ (x.2.2.1 : Int) < 0) (h2 : a < 0 ∨ (x.2.2.1 : Int) < a) : stL n a x = x.2.2.1 := if_pos ⟨h1, h, h2⟩
theorem stL_no {n a : Int} {x : tStatus.den} (h2 : ¬ a < 0 ∧ ¬ (x.2.2.1 : Int) < a) : stL n a x = a := if_neg (fun k => k.2.2.elim h2.1 h2.2)
theorem ge_nlt {a : Int} (h : a ≥ 0) : ¬ a < 0 := by omega
theorem nge_lt {a : Int} (h : ¬ a ≥ 0) : a < 0 := by omega
theorem impl_ends_ok (l : List tStatus.den) (n : Int) : FunOK Try.prog 33 [⟨(.list tStatus), l⟩, ⟨I, n⟩] (.tup [.rd I (l.foldl (stL n) (-1)), .rd I (l.foldl (stM n) (-1)), .rd I (l.foldl (stG n) (-1))]) := by
  refine fun_of (tb := tb) follows Try.func33 (by kernel_rfl) Try.ntmps33 rfl rfl rfl ?_
  intro cx hN hw
  simp (disch := exact eqId (by kernel_rfl)) only [go_sem, ↓reduceIte, Nat.reduceAdd, Nat.reduceMul, Nat.reduceLT, Nat.reduceBEq, Nat.reduceLeDiff, Nat.reduceEqDiff, Int.reduceToNat]
  refine loop_intro (tb := tb) follows hN (D := Nat × Int × Int × Int) (fun d => shp [(1, .rd I (n : Int)), (7, .rd I (d.2.1 : Int)), (8, .rd I (d.2.2.1 : Int)), (9, .rd I (d.2.2.2 : Int)), (12, .rd (.list tStatus) (l)), (13, .rd I (((l).length : Int) : Int)), (14, .rd I (d.1 : Int))] []) (fun d => d.1 ≤ l.length ∧ l.foldl (stL n) (-1) = (l.drop d.1).foldl (stL n) d.2.1 ∧ l.foldl (stM n) (-1) = (l.drop d.1).foldl (stM n) d.2.2.1 ∧ l.foldl (stG n) (-1) = (l.drop d.1).foldl (stG n) d.2.2.2) (fun d => l.length - d.1) ((0, -1, -1, -1)) ?_ (sub_shp hN [] ?_) (fun d hd => ?_)
  · exact ⟨Nat.zero_le _, rfl, rfl, rfl⟩
  · simp (disch := exact eqId (by kernel_rfl)) only [go_sem, ↓reduceIte, Nat.reduceAdd, Nat.reduceMul, Nat.reduceLT, Nat.reduceBEq, Nat.reduceLeDiff, Nat.reduceEqDiff, Int.reduceToNat]
    try rfl
  · obtain ⟨k, a, b, c⟩ := d
    obtain ⟨h1, h2, h3, h4⟩ := hd
    simp only at h1 h2 h3 h4
    have hcons := fun (hk : k < l.length) => (⟨(fold_cons' (stL n) hk (0, 0, 0, 0, 0, ()) a), (fold_cons' (stM n) hk (0, 0, 0, 0, 0, ()) b), (fold_cons' (stG n) hk (0, 0, 0, 0, 0, ()) c)⟩ : _ ∧ _ ∧ _)
    simp (disch := exact eqId (by kernel_rfl)) only [go_sem, ↓reduceIte, Nat.reduceAdd, Nat.reduceMul, Nat.reduceLT, Nat.reduceBEq, Nat.reduceLeDiff, Nat.reduceEqDiff, Int.reduceToNat]
    repeat' (first | (refine And.intro ?_ ?_) | intro _)
    all_goals (try omega)
    iterate 4
      · have hk : k < l.length := by have := ‹(k : Int) < _›; omega
        obtain ⟨q1, q2, q3⟩ := hcons hk
        refine back_intro ((k + 1, stL n a (l.getD k (0, 0, 0, 0, 0, ())), stM n b (l.getD k (0, 0, 0, 0, 0, ())), stG n c (l.getD k (0, 0, 0, 0, 0, ())))) ?_ ?_ (sub_shp hN [] ?_)
        · exact ⟨hk, h2.trans q1, h3.trans q2, h4.trans q3⟩
        · simp only; omega
        · simp (disch := exact eqId (by kernel_rfl)) only [go_sem, ↓reduceIte, Nat.reduceAdd, Nat.reduceMul, Nat.reduceLT, Nat.reduceBEq, Nat.reduceLeDiff, Nat.reduceEqDiff, Int.reduceToNat]
          clear h2 h3 h4 q1 q2 q3 hcons
          refine ⟨?_, ?_, ?_, wrap_succ hk hw.1.1⟩ <;> (first | exact Eq.symm (stL_ne (by assumption)) | exact Eq.symm (stM_ne (by assumption)) | exact Eq.symm (stG_ne (by assumption)) | exact Eq.symm (stL_lt (by first | assumption | exact nge_lt (by assumption))) | exact Eq.symm (stM_lt (by first | assumption | exact nge_lt (by assumption))) | exact Eq.symm (stG_lt (by assumption) (by first | assumption | exact nge_lt (by assumption))) | exact Eq.symm (stG_ge (by first | assumption | exact ge_nlt (by assumption))) | exact Eq.symm (stM_ge (by assumption) (by first | assumption | exact ge_nlt (by assumption))) | exact Eq.symm (stL_tk (by assumption) (by first | assumption | exact ge_nlt (by assumption)) (by assumption)) | exact Eq.symm (stL_no (by assumption)))
    all_goals (rename_i hk; first | rw [h2, drop_end (show l.length ≤ k by omega)]; rfl | rw [h3, drop_end (show l.length ≤ k by omega)]; rfl | rw [h4, drop_end (show l.length ≤ k by omega)]; rfl)
theorem impl_GoodUntil_ok (l : List tStatus.den) (n : Int) : FunOK Try.prog 19 [⟨(.list tStatus), l⟩, ⟨I, n⟩] (.rd I (guF l n)) := by
  refine fun_of (tb := tb) follows Try.func19 (by kernel_rfl) Try.ntmps19 rfl rfl rfl ?_
  intro cx hN hw
  simp (disch := exact eqId (by kernel_rfl)) only [go_sem, ↓reduceIte, Nat.reduceAdd, Nat.reduceMul, Nat.reduceLT, Nat.reduceBEq, Nat.reduceLeDiff, Nat.reduceEqDiff, Int.reduceToNat]
  repeat' (first | (refine And.intro ?_ ?_) | intro _ | (refine callQ_intro (impl_ends_ok _ _) ?_; try (simp (disch := exact eqId (by kernel_rfl)) only [go_sem, ↓reduceIte, Nat.reduceAdd, Nat.reduceMul, Nat.reduceLT, Nat.reduceBEq, Nat.reduceLeDiff, Nat.reduceEqDiff, Int.reduceToNat])) | (refine callH_intro (fun hcc => impl_ends_ok _ _) ?_; try (simp (disch := exact eqId (by kernel_rfl)) only [go_sem, ↓reduceIte, Nat.reduceAdd, Nat.reduceMul, Nat.reduceLT, Nat.reduceBEq, Nat.reduceLeDiff, Nat.reduceEqDiff, Int.reduceToNat])))
  all_goals (rename_i hc; first | exact (if_pos hc).symm | exact (if_neg hc).symm)
theorem impl_BadFrom_ok (l : List tStatus.den) (n : Int) : FunOK Try.prog 22 [⟨(.list tStatus), l⟩, ⟨I, n⟩] (.rd I (bfF l n)) := by
  refine fun_of (tb := tb) follows Try.func22 (by kernel_rfl) Try.ntmps22 rfl rfl rfl ?_
  intro cx hN hw
  simp (disch := exact eqId (by kernel_rfl)) only [go_sem, ↓reduceIte, Nat.reduceAdd, Nat.reduceMul, Nat.reduceLT, Nat.reduceBEq, Nat.reduceLeDiff, Nat.reduceEqDiff, Int.reduceToNat]
  repeat' (first | (refine And.intro ?_ ?_) | intro _ | (refine callQ_intro (impl_ends_ok _ _) ?_; try (simp (disch := exact eqId (by kernel_rfl)) only [go_sem, ↓reduceIte, Nat.reduceAdd, Nat.reduceMul, Nat.reduceLT, Nat.reduceBEq, Nat.reduceLeDiff, Nat.reduceEqDiff, Int.reduceToNat])) | (refine callH_intro (fun hcc => impl_ends_ok _ _) ?_; try (simp (disch := exact eqId (by kernel_rfl)) only [go_sem, ↓reduceIte, Nat.reduceAdd, Nat.reduceMul, Nat.reduceLT, Nat.reduceBEq, Nat.reduceLeDiff, Nat.reduceEqDiff, Int.reduceToNat])))
  all_goals (rename_i hc; first | exact (if_pos hc).symm | exact (if_neg hc).symm)
def gsF (x : tCert.den) (l : List tStatus.den) : List tSpan.den := maF [(x.2.2.2.1, x.2.2.2.2.1, ())] [(0, guF l x.1, ())]
def bsL (x : tCert.den) (l : List tStatus.den) : List tSpan.den := (if (x.2.2.2.1 : Int) > 0 then optS (mkF 0 (IntKind.i64.wrap (x.2.2.2.1 - 1))) else []) ++ (if (x.2.2.2.2.1 : Int) < 10000 then optS (mkF (IntKind.i64.wrap (x.2.2.2.2.1 + 1)) 10000) else []) ++ optS (mkF (bfF l x.1) 10000)
def bsF (x : tCert.den) (l : List tStatus.den) : List tSpan.den := jaF [] (bsL x l)
def otF (x : tCert.den) (l : List tStatus.den) : List tSpan.den := gapF 0 (jaF [] (gsF x l ++ bsF x l))
theorem maF_nil (a : tSpan.den) (b : tSpan.den) (h : spB b = false) : maF [a] [b] = [] := by
  have : (meF a b).2 = false := by
    unfold meF
    rw [if_neg (by rw [h]; simp)]
  simp [maF, optS, this, jaF]
theorem optS_t {r : tSpan.den × Bool} (h : r.2 = true) : optS r = [(r.1.1, r.1.2.1, ())] := if_pos h
theorem optS_f {r : tSpan.den × Bool} (h : r.2 = false) : optS r = [] := if_neg (by rw [h]; decide)
theorem gsF_len (x : tCert.den) (l : List tStatus.den) : (gsF x l).length ≤ 1 := by
  unfold gsF maF
  simp only [List.flatMap_cons, List.flatMap_nil, List.append_nil]
  have h3 := optS_len (meF (x.2.2.2.1, x.2.2.2.2.1, ()) (0, guF l x.1, ()))
  have h4 := (jaF_sp (optS (meF (x.2.2.2.1, x.2.2.2.2.1, ()) (0, guF l x.1, ()))) [] (fun x hx => by cases hx)).2
  simp only [List.length_nil] at h4
  omega
theorem gs_f {x : tCert.den} {l : List tStatus.den} (h : (mkF 0 (guF l x.1)).2 = false ∨ guF l x.1 > 10000) : [] = gsF x l := by
  refine (maF_nil _ _ ?_).symm
  rw [← Bool.not_eq_true, spB_t]
  rintro ⟨-, h1, h2⟩
  simp only at h1 h2
  rcases h with h | h
  · unfold mkF at h
    rw [if_pos (by simp only [mxF_eq, mnF_eq]; omega)] at h
    cases h
  · omega
theorem gs_t {x : tCert.den} {l : List tStatus.den} (h : (mkF 0 (guF l x.1)).2 = true ∧ ¬ guF l x.1 > 10000) : (mkF 0 (guF l x.1)).1 = (0, guF l x.1, ()) := by
  obtain ⟨h1, h2⟩ := h
  unfold mkF at h1 ⊢
  by_cases h3 : mxF 0 0 ≤ mnF (guF l x.1) 10000
  · rw [if_pos h3]
    simp only [mxF_eq, mnF_eq] at h3 ⊢
    rw [show max (0 : Int) 0 = 0 by omega, show min (guF l x.1) 10000 = guF l x.1 by omega]
  · rw [if_neg h3] at h1
    cases h1
theorem bsL_len (x : tCert.den) (l : List tStatus.den) : (bsL x l).length ≤ 3 := by
  unfold bsL
  have h1 := optS_len (mkF 0 (IntKind.i64.wrap (x.2.2.2.1 - 1)))
  have h2 := optS_len (mkF (IntKind.i64.wrap (x.2.2.2.2.1 + 1)) 10000)
  have h3 := optS_len (mkF (bfF l x.1) 10000)
  simp only [List.length_append]
  repeat' split
  all_goals (try simp only [List.length_nil])
  all_goals omega
theorem bsF_len (x : tCert.den) (l : List tStatus.den) : (bsF x l).length ≤ 3 := by
  have h1 := bsL_len x l
  have h2 := (jaF_sp (bsL x l) [] (fun x hx => by cases hx)).2
  unfold bsF
  simp only [List.length_nil] at h2
  omega
theorem impl_CertSpan_ok (x : tCert.den) : FunOK Try.prog 18 [⟨tCert, x⟩] (.rd tSpan (x.2.2.2.1, x.2.2.2.2.1, ())) := by
  refine fun_of (tb := tb) follows Try.func18 (by kernel_rfl) Try.ntmps18 rfl rfl rfl ?_
  intro cx hN hw
  simp (disch := exact eqId (by kernel_rfl)) only [go_sem, ↓reduceIte, Nat.reduceAdd, Nat.reduceMul, Nat.reduceLT, Nat.reduceBEq, Nat.reduceLeDiff, Nat.reduceEqDiff, Int.reduceToNat]
theorem spec_CertSpan_ok (x : tCert.den) : FunOK Try.prog 52 [⟨tCert, x⟩] (.rd tSpan (x.2.2.2.1, x.2.2.2.2.1, ())) := by
  refine fun_of (tb := tb) follows Try.func52 (by kernel_rfl) Try.ntmps52 rfl rfl rfl ?_
  intro cx hN hw
  simp (disch := exact eqId (by kernel_rfl)) only [go_sem, ↓reduceIte, Nat.reduceAdd, Nat.reduceMul, Nat.reduceLT, Nat.reduceBEq, Nat.reduceLeDiff, Nat.reduceEqDiff, Int.reduceToNat]
theorem impl_GoodSpans_ok (x : tCert.den) (l : List tStatus.den) : FunOK Try.prog 6 [⟨tCert, x⟩, ⟨(.list tStatus), l⟩] (.own 28 tSpan (gsF x l)) := by
  refine fun_of (tb := tb) follows Try.func6 (by kernel_rfl) Try.ntmps6 rfl rfl rfl ?_
  intro cx hN hw
  simp (disch := exact eqId (by kernel_rfl)) only [go_sem, ↓reduceIte, Nat.reduceAdd, Nat.reduceMul, Nat.reduceLT, Nat.reduceBEq, Nat.reduceLeDiff, Nat.reduceEqDiff, Int.reduceToNat]
  repeat' (first | (refine And.intro ?_ ?_) | intro _ | (refine callQ_intro (impl_CertSpan_ok _) ?_; try (simp (disch := exact eqId (by kernel_rfl)) only [go_sem, ↓reduceIte, Nat.reduceAdd, Nat.reduceMul, Nat.reduceLT, Nat.reduceBEq, Nat.reduceLeDiff, Nat.reduceEqDiff, Int.reduceToNat])) | (refine callH_intro (fun hcc => impl_CertSpan_ok _) ?_; try (simp (disch := exact eqId (by kernel_rfl)) only [go_sem, ↓reduceIte, Nat.reduceAdd, Nat.reduceMul, Nat.reduceLT, Nat.reduceBEq, Nat.reduceLeDiff, Nat.reduceEqDiff, Int.reduceToNat])) | (refine callQ_intro (impl_GoodUntil_ok _ _) ?_; try (simp (disch := exact eqId (by kernel_rfl)) only [go_sem, ↓reduceIte, Nat.reduceAdd, Nat.reduceMul, Nat.reduceLT, Nat.reduceBEq, Nat.reduceLeDiff, Nat.reduceEqDiff, Int.reduceToNat])) | (refine callH_intro (fun hcc => impl_GoodUntil_ok _ _) ?_; try (simp (disch := exact eqId (by kernel_rfl)) only [go_sem, ↓reduceIte, Nat.reduceAdd, Nat.reduceMul, Nat.reduceLT, Nat.reduceBEq, Nat.reduceLeDiff, Nat.reduceEqDiff, Int.reduceToNat])) | (refine callQ_intro (impl_MeetAll_ok _ _ (by simp) (by simp)) ?_; try (simp (disch := exact eqId (by kernel_rfl)) only [go_sem, ↓reduceIte, Nat.reduceAdd, Nat.reduceMul, Nat.reduceLT, Nat.reduceBEq, Nat.reduceLeDiff, Nat.reduceEqDiff, Int.reduceToNat])) | (refine callH_intro (fun hcc => impl_MeetAll_ok _ _ (by simp) (by simp)) ?_; try (simp (disch := exact eqId (by kernel_rfl)) only [go_sem, ↓reduceIte, Nat.reduceAdd, Nat.reduceMul, Nat.reduceLT, Nat.reduceBEq, Nat.reduceLeDiff, Nat.reduceEqDiff, Int.reduceToNat])))
  all_goals (try rfl)
theorem impl_IsEntitled_ok (x : tCert.den) (l : List tStatus.den) (s : tSpan.den) : FunOK Try.prog 11 [⟨tCert, x⟩, ⟨(.list tStatus), l⟩, ⟨tSpan, s⟩] (.rd .bool (coF (gsF x l) s)) := by
  have h := gsF_len x l
  refine fun_of (tb := tb) follows Try.func11 (by kernel_rfl) Try.ntmps11 rfl rfl rfl ?_
  intro cx hN hw
  simp (disch := exact eqId (by kernel_rfl)) only [go_sem, ↓reduceIte, Nat.reduceAdd, Nat.reduceMul, Nat.reduceLT, Nat.reduceBEq, Nat.reduceLeDiff, Nat.reduceEqDiff, Int.reduceToNat]
  repeat' (first | (refine And.intro ?_ ?_) | intro _ | (refine callQ_intro (impl_GoodSpans_ok _ _) ?_; try (simp (disch := exact eqId (by kernel_rfl)) only [go_sem, ↓reduceIte, Nat.reduceAdd, Nat.reduceMul, Nat.reduceLT, Nat.reduceBEq, Nat.reduceLeDiff, Nat.reduceEqDiff, Int.reduceToNat])) | (refine callH_intro (fun hcc => impl_GoodSpans_ok _ _) ?_; try (simp (disch := exact eqId (by kernel_rfl)) only [go_sem, ↓reduceIte, Nat.reduceAdd, Nat.reduceMul, Nat.reduceLT, Nat.reduceBEq, Nat.reduceLeDiff, Nat.reduceEqDiff, Int.reduceToNat])) | (refine callQ_intro (impl_CoversSpan_ok _ _ (Nat.le_trans (gsF_len _ _) (by decide))) ?_; try (simp (disch := exact eqId (by kernel_rfl)) only [go_sem, ↓reduceIte, Nat.reduceAdd, Nat.reduceMul, Nat.reduceLT, Nat.reduceBEq, Nat.reduceLeDiff, Nat.reduceEqDiff, Int.reduceToNat])) | (refine callH_intro (fun hcc => impl_CoversSpan_ok _ _ (Nat.le_trans (gsF_len _ _) (by decide))) ?_; try (simp (disch := exact eqId (by kernel_rfl)) only [go_sem, ↓reduceIte, Nat.reduceAdd, Nat.reduceMul, Nat.reduceLT, Nat.reduceBEq, Nat.reduceLeDiff, Nat.reduceEqDiff, Int.reduceToNat])))
theorem impl_BadSpans_ok (x : tCert.den) (l : List tStatus.den) : FunOK Try.prog 7 [⟨tCert, x⟩, ⟨(.list tStatus), l⟩] (.own 28 tSpan (bsF x l)) := by
  refine fun_of (tb := tb) follows Try.func7 (by kernel_rfl) Try.ntmps7 rfl rfl rfl ?_
  intro cx hN hw
  simp (disch := exact eqId (by kernel_rfl)) only [go_sem, ↓reduceIte, Nat.reduceAdd, Nat.reduceMul, Nat.reduceLT, Nat.reduceBEq, Nat.reduceLeDiff, Nat.reduceEqDiff, Int.reduceToNat]
  repeat' (first | (refine And.intro ?_ ?_) | intro _ | (refine callC_intro (tb := tb) follows rfl Try.func20 (by kernel_rfl) rfl rfl Try.ntmps20 rfl ⟨trivial, trivial, trivial⟩ ?_; intro _ _; simp (disch := exact eqId (by kernel_rfl)) only [go_sem, ↓reduceIte, Nat.reduceAdd, Nat.reduceMul, Nat.reduceLT, Nat.reduceBEq, Nat.reduceLeDiff, Nat.reduceEqDiff, Int.reduceToNat]) | (refine callQ_intro (impl_MakeSpan_ok _ _) ?_; try (simp (disch := exact eqId (by kernel_rfl)) only [go_sem, ↓reduceIte, Nat.reduceAdd, Nat.reduceMul, Nat.reduceLT, Nat.reduceBEq, Nat.reduceLeDiff, Nat.reduceEqDiff, Int.reduceToNat])) | (refine callQ_intro (impl_BadFrom_ok _ _) ?_; try (simp (disch := exact eqId (by kernel_rfl)) only [go_sem, ↓reduceIte, Nat.reduceAdd, Nat.reduceMul, Nat.reduceLT, Nat.reduceBEq, Nat.reduceLeDiff, Nat.reduceEqDiff, Int.reduceToNat])) | (refine callQ_intro (impl_JoinAll_ok _ (by simp)) ?_; try (simp (disch := exact eqId (by kernel_rfl)) only [go_sem, ↓reduceIte, Nat.reduceAdd, Nat.reduceMul, Nat.reduceLT, Nat.reduceBEq, Nat.reduceLeDiff, Nat.reduceEqDiff, Int.reduceToNat])))
  all_goals (unfold bsF bsL; simp (disch := assumption) only [optS_t, optS_f, if_pos, if_neg, List.nil_append, List.append_nil, List.cons_append])
theorem gb_len (x y : tCert.den) (l m : List tStatus.den) : (gsF x l ++ bsF y m).length ≤ 1000000000 := by
  have := gsF_len x l
  have := bsF_len y m
  rw [List.length_append]
  omega
theorem impl_OpenTimes_ok (x : tCert.den) (l : List tStatus.den) : FunOK Try.prog 8 [⟨tCert, x⟩, ⟨(.list tStatus), l⟩] (.own 28 tSpan (otF x l)) := by
  have hg := gsF_len x l
  have hb := bsF_len x l
  have hk := (jaF_sp (gsF x l ++ bsF x l) [] (fun x hx => by cases hx))
  have hkl := hk.2
  simp only [List.length_nil, List.length_append] at hkl
  refine fun_of (tb := tb) follows Try.func8 (by kernel_rfl) Try.ntmps8 rfl rfl rfl ?_
  intro cx hN hw
  simp (disch := exact eqId (by kernel_rfl)) only [go_sem, ↓reduceIte, Nat.reduceAdd, Nat.reduceMul, Nat.reduceLT, Nat.reduceBEq, Nat.reduceLeDiff, Nat.reduceEqDiff, Int.reduceToNat]
  repeat' (first | (refine And.intro ?_ ?_) | intro _ | (refine callQ_intro (impl_GoodSpans_ok _ _) ?_; try (simp (disch := exact eqId (by kernel_rfl)) only [go_sem, ↓reduceIte, Nat.reduceAdd, Nat.reduceMul, Nat.reduceLT, Nat.reduceBEq, Nat.reduceLeDiff, Nat.reduceEqDiff, Int.reduceToNat])) | (refine callH_intro (fun hcc => impl_GoodSpans_ok _ _) ?_; try (simp (disch := exact eqId (by kernel_rfl)) only [go_sem, ↓reduceIte, Nat.reduceAdd, Nat.reduceMul, Nat.reduceLT, Nat.reduceBEq, Nat.reduceLeDiff, Nat.reduceEqDiff, Int.reduceToNat])) | (refine callQ_intro (impl_BadSpans_ok _ _) ?_; try (simp (disch := exact eqId (by kernel_rfl)) only [go_sem, ↓reduceIte, Nat.reduceAdd, Nat.reduceMul, Nat.reduceLT, Nat.reduceBEq, Nat.reduceLeDiff, Nat.reduceEqDiff, Int.reduceToNat])) | (refine callH_intro (fun hcc => impl_BadSpans_ok _ _) ?_; try (simp (disch := exact eqId (by kernel_rfl)) only [go_sem, ↓reduceIte, Nat.reduceAdd, Nat.reduceMul, Nat.reduceLT, Nat.reduceBEq, Nat.reduceLeDiff, Nat.reduceEqDiff, Int.reduceToNat])) | (refine callQ_intro (impl_JoinAll_ok _ (gb_len _ _ _ _)) ?_; try (simp (disch := exact eqId (by kernel_rfl)) only [go_sem, ↓reduceIte, Nat.reduceAdd, Nat.reduceMul, Nat.reduceLT, Nat.reduceBEq, Nat.reduceLeDiff, Nat.reduceEqDiff, Int.reduceToNat])) | (refine callH_intro (fun hcc => impl_JoinAll_ok _ (gb_len _ _ _ _)) ?_; try (simp (disch := exact eqId (by kernel_rfl)) only [go_sem, ↓reduceIte, Nat.reduceAdd, Nat.reduceMul, Nat.reduceLT, Nat.reduceBEq, Nat.reduceLeDiff, Nat.reduceEqDiff, Int.reduceToNat])))
  all_goals (try (exact Nat.le_trans (Nat.add_le_add (gsF_len _ _) (bsF_len _ _)) (by decide)))
  refine loop_intro (tb := tb) follows hN (D := Nat × Int × (List tSpan.den)) (fun d => shp [(6, .own 1), (7, .rd I (d.2.1 : Int)), (18, .rd (.list tSpan) (jaF [] (gsF x l ++ bsF x l))), (19, .rd I (List.length (jaF [] (gsF x l ++ bsF x l)) : Int)), (20, .rd I (d.1 : Int))] [(1, .row 28 tSpan d.2.2)]) (fun d => (d.1 ≤ List.length (jaF [] (gsF x l ++ bsF x l)) ∧ d.2.2.length ≤ d.1 ∧ 0 ≤ d.2.1 ∧ d.2.1 ≤ 10001) ∧ gapF 0 (jaF [] (gsF x l ++ bsF x l)) = d.2.2 ++ gapF d.2.1 (List.drop d.1 (jaF [] (gsF x l ++ bsF x l)))) (fun d => List.length (jaF [] (gsF x l ++ bsF x l)) - d.1) ((0, 0, [])) ?_ (sub_shp hN [(1, none)] ?_) (fun d hd => ?_)
  · exact ⟨⟨Nat.zero_le _, Nat.le_refl _, by decide, by decide⟩, rfl⟩
  · simp (disch := exact eqId (by kernel_rfl)) only [go_sem, ↓reduceIte, Nat.reduceAdd, Nat.reduceMul, Nat.reduceLT, Nat.reduceBEq, Nat.reduceLeDiff, Nat.reduceEqDiff, Int.reduceToNat]
    try rfl
    try exact ⟨rfl, rfl⟩
  · obtain ⟨k, fr, out⟩ := d
    obtain ⟨⟨h1, h2, h3, h4⟩, h5⟩ := hd
    simp only at h1 h2 h3 h4 h5
    have sb : k < List.length (jaF [] (gsF x l ++ bsF x l)) → 0 ≤ (List.getD (jaF [] (gsF x l ++ bsF x l)) k (0, 0, ())).1 ∧ (List.getD (jaF [] (gsF x l ++ bsF x l)) k (0, 0, ())).1 ≤ (List.getD (jaF [] (gsF x l ++ bsF x l)) k (0, 0, ())).2.1 ∧ (List.getD (jaF [] (gsF x l ++ bsF x l)) k (0, 0, ())).2.1 ≤ 10000 := fun h => spB_t.1 (hk.1 _ (getD_mem h _))
    simp (disch := exact eqId (by kernel_rfl)) only [go_sem, ↓reduceIte, Nat.reduceAdd, Nat.reduceMul, Nat.reduceLT, Nat.reduceBEq, Nat.reduceLeDiff, Nat.reduceEqDiff, Int.reduceToNat]
    repeat' (first | (refine And.intro ?_ ?_) | intro _)
    all_goals (try omega)
    · rename_i hj hc
      have hj : k < List.length (jaF [] (gsF x l ++ bsF x l)) := by omega
      have s1 := sb hj
      refine back_intro ((k + 1, (List.getD (jaF [] (gsF x l ++ bsF x l)) k (0, 0, ())).2.1 + 1, out ++ [(fr, (List.getD (jaF [] (gsF x l ++ bsF x l)) k (0, 0, ())).1 - 1, ())])) ?_ ?_ (sub_shp hN [(1, some 90112)] ?_)
      · refine ⟨⟨hj, by simp only [List.length_append, List.length_cons, List.length_nil]; omega, by simp only; omega, by simp only; omega⟩, ?_⟩
        simp only
        rw [h5, drop_getD hj (0, 0, ()), gapF, if_pos hc]
        simp
      · simp only; omega
      · simp (disch := exact eqId (by kernel_rfl)) only [go_sem, ↓reduceIte, Nat.reduceAdd, Nat.reduceMul, Nat.reduceLT, Nat.reduceBEq, Nat.reduceLeDiff, Nat.reduceEqDiff, Int.reduceToNat]
        rw [wrap_i64 (n := (List.getD (jaF [] (gsF x l ++ bsF x l)) k (0, 0, ())).1 - 1) (by omega) (by omega), wrap_i64 (n := (List.getD (jaF [] (gsF x l ++ bsF x l)) k (0, 0, ())).2.1 + 1) (by omega) (by omega)]
        try exact ⟨rfl, rfl, wrap_succ' (by omega)⟩
        try exact ⟨rfl, wrap_succ' (by omega)⟩
        try exact wrap_succ' (by omega)
    · rename_i hj hc
      have hj : k < List.length (jaF [] (gsF x l ++ bsF x l)) := by omega
      have s1 := sb hj
      refine back_intro ((k + 1, (List.getD (jaF [] (gsF x l ++ bsF x l)) k (0, 0, ())).2.1 + 1, out)) ?_ ?_ (sub_shp hN [(1, some 1)] ?_)
      · refine ⟨⟨hj, by simp only; omega, by simp only; omega, by simp only; omega⟩, ?_⟩
        simp only
        rw [h5, drop_getD hj (0, 0, ()), gapF, if_neg hc]
        simp
      · simp only; omega
      · simp (disch := exact eqId (by kernel_rfl)) only [go_sem, ↓reduceIte, Nat.reduceAdd, Nat.reduceMul, Nat.reduceLT, Nat.reduceBEq, Nat.reduceLeDiff, Nat.reduceEqDiff, Int.reduceToNat]
        rw [wrap_i64 (n := (List.getD (jaF [] (gsF x l ++ bsF x l)) k (0, 0, ())).2.1 + 1) (by omega) (by omega)]
        try exact ⟨rfl, wrap_succ' (by omega)⟩
        try exact wrap_succ' (by omega)
    · rename_i hj hc
      unfold otF
      rw [h5, drop_end (show List.length (jaF [] (gsF x l ++ bsF x l)) ≤ k by omega), gapF, if_pos hc]
    · rename_i hj hc
      unfold otF
      rw [h5, drop_end (show List.length (jaF [] (gsF x l ++ bsF x l)) ≤ k by omega), gapF, if_neg hc, List.append_nil]
theorem impl_IsBarred_ok (x : tCert.den) (l : List tStatus.den) (s : tSpan.den) : FunOK Try.prog 13 [⟨tCert, x⟩, ⟨(.list tStatus), l⟩, ⟨tSpan, s⟩] (.rd .bool (coF (bsF x l) s)) := by
  refine fun_of (tb := tb) follows Try.func13 (by kernel_rfl) Try.ntmps13 rfl rfl rfl ?_
  intro cx hN hw
  simp (disch := exact eqId (by kernel_rfl)) only [go_sem, ↓reduceIte, Nat.reduceAdd, Nat.reduceMul, Nat.reduceLT, Nat.reduceBEq, Nat.reduceLeDiff, Nat.reduceEqDiff, Int.reduceToNat]
  repeat' (first | (refine And.intro ?_ ?_) | intro _ | (refine callQ_intro (impl_BadSpans_ok _ _) ?_; try (simp (disch := exact eqId (by kernel_rfl)) only [go_sem, ↓reduceIte, Nat.reduceAdd, Nat.reduceMul, Nat.reduceLT, Nat.reduceBEq, Nat.reduceLeDiff, Nat.reduceEqDiff, Int.reduceToNat])) | (refine callH_intro (fun hcc => impl_BadSpans_ok _ _) ?_; try (simp (disch := exact eqId (by kernel_rfl)) only [go_sem, ↓reduceIte, Nat.reduceAdd, Nat.reduceMul, Nat.reduceLT, Nat.reduceBEq, Nat.reduceLeDiff, Nat.reduceEqDiff, Int.reduceToNat])) | (refine callQ_intro (impl_CoversSpan_ok _ _ (Nat.le_trans (bsF_len _ _) (by decide))) ?_; try (simp (disch := exact eqId (by kernel_rfl)) only [go_sem, ↓reduceIte, Nat.reduceAdd, Nat.reduceMul, Nat.reduceLT, Nat.reduceBEq, Nat.reduceLeDiff, Nat.reduceEqDiff, Int.reduceToNat])) | (refine callH_intro (fun hcc => impl_CoversSpan_ok _ _ (Nat.le_trans (bsF_len _ _) (by decide))) ?_; try (simp (disch := exact eqId (by kernel_rfl)) only [go_sem, ↓reduceIte, Nat.reduceAdd, Nat.reduceMul, Nat.reduceLT, Nat.reduceBEq, Nat.reduceLeDiff, Nat.reduceEqDiff, Int.reduceToNat])))
theorem otF_len (x : tCert.den) (l : List tStatus.den) : (otF x l).length ≤ 5 := by
  have hg := gsF_len x l
  have hb := bsF_len x l
  have hk := (jaF_sp (gsF x l ++ bsF x l) [] (fun x hx => by cases hx)).2
  have h := gapF_len (jaF [] (gsF x l ++ bsF x l)) 0
  simp only [List.length_nil, List.length_append] at hk
  unfold otF
  omega
end Go.Proofs.Ytcbecpjhgfkofaa
