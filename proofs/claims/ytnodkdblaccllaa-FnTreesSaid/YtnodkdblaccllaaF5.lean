/- What the functions of digests, paths and trees answer, on both sides. It proves nothing of a statement by itself. -/
import Derived.Test.YtnodkdblaccllaaF4
import Derived.Test.YtnodkdblaccllaaHt
import Derived.Test.YtnodkdblaccllaaHe
import Derived.Test.YtnodkdblaccllaaHs
import Derived.Test.YtnodkdblaccllaaHm
set_option linter.unusedSimpArgs false
set_option linter.unusedVariables false
set_option maxRecDepth 100000
namespace Go.Proofs.Ytnodkdblaccllaa
open Go.AL
theorem map_take_succ {α β : Type} (f : α → β) {l : List α} {k : Nat} (hk : k < l.length) (d : α) : (l.take (k + 1)).map f = (l.take k).map f ++ [f (l.getD k d)] := by
  rw [take_getD hk d, List.map_append]
  rfl
def pgF (m : Int) (p : tPiece.den) : Int := digF m (p.1 :: p.2.2.1 :: p.2.1)
def pdF (m : Int) (l : List tPiece.den) : Int := digF m (2 :: l.map (pgF m))
theorem dLen {l : List tPiece.den} (hs : Small (.list tPiece) 1048576 l) {k : Nat} (hk : k < l.length) {df : tPiece.den} (x y : Int) : (x :: y :: (l.getD k df).2.1).length ≤ 1073741824 := by
  have := (hs.2 _ (getD_mem hk df)).2.1.1
  simp only [List.length_cons]
  omega
def leafF (m a : Int) (l : List tPiece.den) (b : Int) : Int := digF m [3, a, pdF m l, b]
theorem pLen {l : List tPiece.den} (hs : Small (.list tPiece) 1048576 l) {k : Nat} (hk : k < l.length) (df : tPiece.den) : (l.getD k df).2.1.length ≤ 1048576 :=
  (hs.2 _ (getD_mem hk df)).2.1.1
def fpStep (m : Int) (h : Int) (s : tStep.den) : Int := if s.2.1 then pairF m s.1 h else pairF m h s.1
theorem impl_FollowPath_ok (m x : Int) (l : List tStep.den) : FunOK Try.prog 9 [⟨I, m⟩, ⟨I, x⟩, ⟨(.list tStep), l⟩] (.rd I (l.foldl (fpStep m) x)) := by
  refine fun_of (tb := tb) follows Try.func9 (by kernel_rfl) Try.ntmps9 rfl rfl rfl ?_
  intro cx hN hw
  simp (disch := exact eqId (by kernel_rfl)) only [go_sem, ↓reduceIte, Nat.reduceAdd, Nat.reduceMul, Nat.reduceLT, Nat.reduceBEq, Nat.reduceLeDiff, Nat.reduceEqDiff, Int.reduceToNat]
  refine loop_intro (tb := tb) follows hN (D := Nat × Int) (fun d => shp [(0, .rd I (m : Int)), (1, .rd I d.2), (9, .rd (.list tStep) (l)), (10, .rd I (((l).length : Int) : Int)), (11, .rd I (d.1 : Int))] []) (fun d => d.1 ≤ l.length ∧ l.foldl (fpStep m) x = (l.drop d.1).foldl (fpStep m) d.2) (fun d => l.length - d.1) (0, x) ?_ (sub_shp hN [] ?_) (fun d hd => ?_)
  · exact ⟨Nat.zero_le _, rfl⟩
  · simp (disch := exact eqId (by kernel_rfl)) only [go_sem, ↓reduceIte, Nat.reduceAdd, Nat.reduceMul, Nat.reduceLT, Nat.reduceBEq, Nat.reduceLeDiff, Nat.reduceEqDiff, Int.reduceToNat]
    rfl
  · obtain ⟨k, h⟩ := d
    obtain ⟨h1, h2⟩ := hd
    simp (disch := exact eqId (by kernel_rfl)) only [go_sem, ↓reduceIte, Nat.reduceAdd, Nat.reduceMul, Nat.reduceLT, Nat.reduceBEq, Nat.reduceLeDiff, Nat.reduceEqDiff, Int.reduceToNat]
    repeat' (first | (refine And.intro ?_ ?_) | intro _ | (refine callQ_intro (impl_PairDigest_ok _ _ _) ?_; try (simp (disch := exact eqId (by kernel_rfl)) only [go_sem, ↓reduceIte, Nat.reduceAdd, Nat.reduceMul, Nat.reduceLT, Nat.reduceBEq, Nat.reduceLeDiff, Nat.reduceEqDiff, Int.reduceToNat])) | (refine callH_intro (fun hcc => impl_PairDigest_ok _ _ _) ?_; try (simp (disch := exact eqId (by kernel_rfl)) only [go_sem, ↓reduceIte, Nat.reduceAdd, Nat.reduceMul, Nat.reduceLT, Nat.reduceBEq, Nat.reduceLeDiff, Nat.reduceEqDiff, Int.reduceToNat])))
    all_goals (try omega)
    iterate 2
      · rename_i hk hb
        have hk : k < l.length := by omega
        simp only [drop_getD hk (0, false, ()), List.foldl_cons] at h2
        refine back_intro (k + 1, fpStep m h (l.getD k (0, false, ()))) ?_ ?_ (sub_shp hN [] ?_)
        · exact ⟨hk, h2⟩
        · simp only; omega
        · simp (disch := exact eqId (by kernel_rfl)) only [go_sem, ↓reduceIte, Nat.reduceAdd, Nat.reduceMul, Nat.reduceLT, Nat.reduceBEq, Nat.reduceLeDiff, Nat.reduceEqDiff, Int.reduceToNat]
          exact ⟨by rw [fpStep, hb]; rfl, wrap_succ hk hw.2.2.1.1⟩
    · have hk : l.length ≤ k := by omega
      simp only [drop_end hk] at h2
      exact h2.symm
def upF (m : Int) : List Int → List Int
  | a :: b :: r => pairF m a b :: upF m r
  | l => l
theorem upF_two (m : Int) {l : List Int} {k : Nat} (h : k + 1 < l.length) : upF m (l.drop k) = pairF m (l.getD k 0) (l.getD (k + 1) 0) :: upF m (l.drop (k + 2)) := by
  rw [drop_getD (show k < l.length by omega) 0, drop_getD h 0, upF]
theorem upF_one (m : Int) {l : List Int} {k : Nat} (h : k + 1 = l.length) : upF m (l.drop k) = [l.getD k 0] := by
  rw [drop_getD (show k < l.length by omega) 0, List.drop_eq_nil_of_le (by omega)]
  rfl
theorem upF_len (m : Int) : ∀ l : List Int, 2 * (upF m l).length ≤ l.length + 1
  | [] => by simp [upF]
  | [_] => by simp [upF]
  | a :: b :: r => by
    have := upF_len m r
    simp only [upF, List.length_cons]; omega
theorem impl_levelAbove_ok (m : Int) (l : List Int) (hs : l.length ≤ 1048576) : FunOK Try.prog 14 [⟨I, m⟩, ⟨(.list I), l⟩] (.own 3 I (upF m l)) := by
  refine fun_of (tb := tb) follows Try.func14 (by kernel_rfl) Try.ntmps14 rfl rfl rfl ?_
  intro cx hN hw
  simp (disch := exact eqId (by kernel_rfl)) only [go_sem, ↓reduceIte, Nat.reduceAdd, Nat.reduceMul, Nat.reduceLT, Nat.reduceBEq, Nat.reduceLeDiff, Nat.reduceEqDiff, Int.reduceToNat]
  refine loop_intro (tb := tb) follows hN (D := Nat × (List Int)) (fun d => shp [(0, .rd I (m : Int)), (1, .rd (.list I) (l)), (5, .own 1), (6, .rd I (d.1 : Int))] [(1, .row 3 I d.2)]) (fun d => d.1 ≤ l.length + 1 ∧ d.2.length ≤ d.1 ∧ upF m l = d.2 ++ upF m (l.drop d.1)) (fun d => l.length - d.1) (0, []) ?_ (sub_shp hN [(1, none)] ?_) (fun d hd => ?_)
  · exact ⟨Nat.zero_le _, Nat.zero_le _, rfl⟩
  · simp (disch := exact eqId (by kernel_rfl)) only [go_sem, ↓reduceIte, Nat.reduceAdd, Nat.reduceMul, Nat.reduceLT, Nat.reduceBEq, Nat.reduceLeDiff, Nat.reduceEqDiff, Int.reduceToNat]
    rfl
  · obtain ⟨k, h⟩ := d
    obtain ⟨h1, h2, h3⟩ := hd
    dsimp only at h1 h2 h3
    have e1 : IntKind.i64.wrap ((k : Int) + 1) = ((k + 1 : Nat) : Int) := wrap_succ' (by omega)
    have e2 : IntKind.i64.wrap ((k : Int) + 2) = ((k + 2 : Nat) : Int) := by rw [wrap_i64 (by omega) (by omega)]; omega
    simp (disch := exact eqId (by kernel_rfl)) only [go_sem, ↓reduceIte, Nat.reduceAdd, Nat.reduceMul, Nat.reduceLT, Nat.reduceBEq, Nat.reduceLeDiff, Nat.reduceEqDiff, Int.reduceToNat, e1, e2, Int.toNat_natCast]
    repeat' (first | (refine And.intro ?_ ?_) | intro _ | (refine callQ_intro (impl_PairDigest_ok _ _ _) ?_; try (simp (disch := exact eqId (by kernel_rfl)) only [go_sem, ↓reduceIte, Nat.reduceAdd, Nat.reduceMul, Nat.reduceLT, Nat.reduceBEq, Nat.reduceLeDiff, Nat.reduceEqDiff, Int.reduceToNat])) | (refine callH_intro (fun hcc => impl_PairDigest_ok _ _ _) ?_; try (simp (disch := exact eqId (by kernel_rfl)) only [go_sem, ↓reduceIte, Nat.reduceAdd, Nat.reduceMul, Nat.reduceLT, Nat.reduceBEq, Nat.reduceLeDiff, Nat.reduceEqDiff, Int.reduceToNat])))
    all_goals (try omega)
    · have hk : k + 1 < l.length := by omega
      refine back_intro (k + 2, h ++ [pairF m (l.getD k 0) (l.getD (k + 1) 0)]) ?_ ?_ (sub_shp hN [(1, some 70208)] ?_)
      · refine ⟨by simp only; omega, by simp only [List.length_append, List.length_cons, List.length_nil]; omega, ?_⟩
        rw [h3, upF_two m hk]
        simp
      · simp only; omega
      · simp (disch := exact eqId (by kernel_rfl)) only [go_sem, ↓reduceIte, Nat.reduceAdd, Nat.reduceMul, Nat.reduceLT, Nat.reduceBEq, Nat.reduceLeDiff, Nat.reduceEqDiff, Int.reduceToNat, e2]
    · have hk : k + 1 = l.length := by omega
      refine back_intro (k + 2, h ++ [l.getD k 0]) ?_ ?_ (sub_shp hN [(1, some 80096)] ?_)
      · refine ⟨by simp only; omega, by simp only [List.length_append, List.length_cons, List.length_nil]; omega, ?_⟩
        rw [h3, upF_one m hk, List.drop_eq_nil_of_le (by simp only; omega)]
        simp [upF]
      · simp only; omega
      · simp (disch := exact eqId (by kernel_rfl)) only [go_sem, ↓reduceIte, Nat.reduceAdd, Nat.reduceMul, Nat.reduceLT, Nat.reduceBEq, Nat.reduceLeDiff, Nat.reduceEqDiff, Int.reduceToNat, e2]
    · rw [h3, List.drop_eq_nil_of_le (by omega)]
      simp [upF]
theorem upF_len2 (m : Int) : ∀ l : List Int, l.length ≤ 2 * (upF m l).length
  | [] => by simp [upF]
  | [_] => by simp [upF]
  | a :: b :: r => by
    have := upF_len2 m r
    simp only [upF, List.length_cons]; omega
def topR (m : Int) (l : List Int) : List Int := if h : l.length ≤ 1 then l else topR m (upF m l)
termination_by l.length
decreasing_by have := upF_len m l; omega
def rootF (m : Int) (l : List Int) : Int := if 1 ≤ l.length ∧ l.length ≤ 16 then (topR m l).getD 0 0 else -1
theorem impl_TreeRoot_ok (m : Int) (l : List Int) : FunOK Try.prog 7 [⟨I, m⟩, ⟨(.list I), l⟩] (.rd I (rootF m l)) := by
  refine fun_of (tb := tb) follows Try.func7 (by kernel_rfl) Try.ntmps7 rfl rfl rfl ?_
  intro cx hN hw
  simp (disch := exact eqId (by kernel_rfl)) only [go_sem, ↓reduceIte, Nat.reduceAdd, Nat.reduceMul, Nat.reduceLT, Nat.reduceBEq, Nat.reduceLeDiff, Nat.reduceEqDiff, Int.reduceToNat]
  repeat' (first | (refine And.intro ?_ ?_) | intro _ | (refine callQ_intro (inRange_ok _ _ _) ?_; try (simp (disch := exact eqId (by kernel_rfl)) only [go_sem, ↓reduceIte, Nat.reduceAdd, Nat.reduceMul, Nat.reduceLT, Nat.reduceBEq, Nat.reduceLeDiff, Nat.reduceEqDiff, Int.reduceToNat])) | (refine callH_intro (fun hcc => inRange_ok _ _ _) ?_; try (simp (disch := exact eqId (by kernel_rfl)) only [go_sem, ↓reduceIte, Nat.reduceAdd, Nat.reduceMul, Nat.reduceLT, Nat.reduceBEq, Nat.reduceLeDiff, Nat.reduceEqDiff, Int.reduceToNat])))
  all_goals (try simp only [Bool.and_eq_true, Bool.and_eq_false_iff, decide_eq_true_eq, decide_eq_false_iff_not, not_and] at *)
  all_goals (try omega)
  · unfold rootF; rw [if_neg (by omega)]
  · refine loop_intro (tb := tb) follows hN (D := (List Int)) (fun d => shp [(0, .rd I (m : Int)), (1, .rd (.list I) d)] []) (fun d => 1 ≤ d.length ∧ d.length ≤ 16 ∧ topR m d = topR m l) (fun d => d.length) (l) ?_ (sub_shp hN [] ?_) (fun d hd => ?_)
    · exact ⟨by omega, by omega, rfl⟩
    · simp (disch := exact eqId (by kernel_rfl)) only [go_sem, ↓reduceIte, Nat.reduceAdd, Nat.reduceMul, Nat.reduceLT, Nat.reduceBEq, Nat.reduceLeDiff, Nat.reduceEqDiff, Int.reduceToNat]
    · obtain ⟨h1, h2, h3⟩ := hd
      have u1 := upF_len m d
      have u2 := upF_len2 m d
      simp (disch := exact eqId (by kernel_rfl)) only [go_sem, ↓reduceIte, Nat.reduceAdd, Nat.reduceMul, Nat.reduceLT, Nat.reduceBEq, Nat.reduceLeDiff, Nat.reduceEqDiff, Int.reduceToNat]
      repeat' (first | (refine And.intro ?_ ?_) | intro _ | (refine callQ_intro (impl_levelAbove_ok _ _ (by omega)) ?_; try (simp (disch := exact eqId (by kernel_rfl)) only [go_sem, ↓reduceIte, Nat.reduceAdd, Nat.reduceMul, Nat.reduceLT, Nat.reduceBEq, Nat.reduceLeDiff, Nat.reduceEqDiff, Int.reduceToNat])) | (refine callH_intro (fun hcc => impl_levelAbove_ok _ _ (by omega)) ?_; try (simp (disch := exact eqId (by kernel_rfl)) only [go_sem, ↓reduceIte, Nat.reduceAdd, Nat.reduceMul, Nat.reduceLT, Nat.reduceBEq, Nat.reduceLeDiff, Nat.reduceEqDiff, Int.reduceToNat])))
      all_goals (try omega)
      · refine back_intro (upF m d) ?_ ?_ (sub_shp hN [] ?_)
        · refine ⟨by omega, by omega, ?_⟩
          rw [← h3]
          conv => rhs; unfold topR
          rw [dif_neg (by omega)]
        · omega
        · simp (disch := exact eqId (by kernel_rfl)) only [go_sem, ↓reduceIte, Nat.reduceAdd, Nat.reduceMul, Nat.reduceLT, Nat.reduceBEq, Nat.reduceLeDiff, Nat.reduceEqDiff, Int.reduceToNat]
      · unfold rootF
        rw [if_pos (by omega), ← h3]
        unfold topR
        rw [dif_pos (by omega)]
theorem renEq {a b : tRenewal.den} (h0 : a.1 = b.1) (h1 : a.2.1 = b.2.1) (h2 : a.2.2.1 = b.2.2.1) (h3 : a.2.2.2.1 = b.2.2.2.1) (h4 : a.2.2.2.2.1 = b.2.2.2.2.1) : a = b := by
  obtain ⟨a0, a1, a2, a3, a4, ⟨⟩⟩ := a
  obtain ⟨b0, b1, b2, b3, b4, ⟨⟩⟩ := b
  simp only at h0 h1 h2 h3 h4
  subst h0 h1 h2 h3 h4
  rfl
def rsF (s : tStep.den) : List Int := [s.1, if s.2.1 then 1 else 0]
def rtF (x : tStamp.den) : List Int := [103, x.1, x.2.1, x.2.2.1, x.2.2.2.1, x.2.2.2.2.1]
def rdF (m : Int) (r : tRenewal.den) : Int := digF m ([4, r.1, r.2.1, r.2.2.1] ++ r.2.2.2.1.flatMap rsF ++ [(r.2.2.2.2.1.length : Int)] ++ r.2.2.2.2.1.flatMap rtF)
theorem fm_len {α : Type} (f : α → List Int) (c : Nat) (h : ∀ x, (f x).length = c) : ∀ l : List α, (l.flatMap f).length = c * l.length
  | [] => by simp
  | x :: l => by rw [List.flatMap_cons, List.length_append, h, fm_len f c h l, List.length_cons, Nat.mul_add]; omega
theorem rs_len (l : List tStep.den) : (l.flatMap rsF).length = 2 * l.length := fm_len rsF 2 (fun _ => rfl) l
theorem rt_len (l : List tStamp.den) : (l.flatMap rtF).length = 6 * l.length := fm_len rtF 6 (fun _ => rfl) l
theorem fm_take_succ {α : Type} (f : α → List Int) {l : List α} {k : Nat} (hk : k < l.length) (d : α) : (l.take (k + 1)).flatMap f = (l.take k).flatMap f ++ f (l.getD k d) := by
  rw [take_getD hk d, List.flatMap_append]
  simp
end Go.Proofs.Ytnodkdblaccllaa
