/- What the functions of kept renewals, of bounds and of fresh stamps answer, on both sides. It proves nothing of a statement by itself. -/
import Derived.Test.YtkneckknjmahdaaGreatF17
import Derived.Test.YtkneckknjmahdaaGreatF13
set_option linter.unusedSimpArgs false
set_option linter.unusedVariables false
set_option maxRecDepth 100000
namespace Go.Proofs.YtkneckknjmahdaaGreat
open Go.AL
theorem and3 (a b c : Bool) : ((a && b) && c) = (a && (c && b)) := by cases a <;> cases b <;> cases c <;> rfl
noncomputable def keptB (f : tFrame.den) (s : tStrand.den) (docs : List Int) (k : Int) : Bool :=
  (agoF f.2.1 (List.getD s.2.1 k.toNat (0, 0, 0, [], [], ())).2.2.2.2.1 f.2.2.2.1).2 && (crF f.1 f.2.1 (List.getD s.2.1 k.toNat (0, 0, 0, [], [], ())) (laF s docs k) && linkF f s k)
def fkN (p : Int → Bool) : Nat → Nat
  | 0 => 0
  | k + 1 => if p k = true then fkN p k else k + 1
theorem fkN_le (p : Int → Bool) : ∀ (n : Nat), fkN p n ≤ n
  | 0 => Nat.le_refl _
  | k + 1 => by
    unfold fkN
    split
    · exact Nat.le_succ_of_le (fkN_le p k)
    · exact Nat.le_refl _
theorem fkN_go {p : Int → Bool} {d : Nat} (h : 0 < d) (hp : p ((d : Int) - 1) = true) : fkN p d = fkN p (d - 1) := by
  cases d with
  | zero => omega
  | succ k =>
    rw [show ((k + 1 : Nat) : Int) - 1 = (k : Int) from by omega] at hp
    rw [fkN, if_pos hp]
    rfl
theorem fkN_no {p : Int → Bool} {d : Nat} (h : d = 0 ∨ p ((d : Int) - 1) = false) : fkN p d = d := by
  cases d with
  | zero => rfl
  | succ k =>
    rcases h with h | hp
    · omega
    · rw [show ((k + 1 : Nat) : Int) - 1 = (k : Int) from by omega] at hp
      rw [fkN, if_neg (by rw [hp]; decide)]
theorem kept_f {f : tFrame.den} {s : tStrand.den} {docs : List Int} {k : Int} (h : ((agoF f.2.1 (List.getD s.2.1 k.toNat (0, 0, 0, [], [], ())).2.2.2.2.1 f.2.2.2.1).2 = false ∨ crF f.1 f.2.1 (List.getD s.2.1 k.toNat (0, 0, 0, [], [], ())) (laF s docs k) = false) ∨ linkF f s k = false) : keptB f s docs k = false := by
  unfold keptB
  rcases h with (h | h) | h
  · rw [h, Bool.false_and]
  · rw [h, Bool.false_and, Bool.and_false]
  · rw [h, Bool.and_false, Bool.and_false]
theorem kept_t {f : tFrame.den} {s : tStrand.den} {docs : List Int} {k : Int} (h : ((agoF f.2.1 (List.getD s.2.1 k.toNat (0, 0, 0, [], [], ())).2.2.2.2.1 f.2.2.2.1).2 = true ∧ crF f.1 f.2.1 (List.getD s.2.1 k.toNat (0, 0, 0, [], [], ())) (laF s docs k) = true) ∧ linkF f s k = true) : keptB f s docs k = true := by
  unfold keptB
  rw [h.1.1, h.1.2, h.2]
  rfl
noncomputable def fkF (f : tFrame.den) (s : tStrand.den) (docs : List Int) : Nat := fkN (keptB f s docs) (List.length s.2.1)
noncomputable def bdL (f : tFrame.den) (p : Int) : Int → List tRenewal.den → Int
  | b, [] => b
  | b, r :: rs => bdL f p (if (r.1 : Int) > p then mnF b (agoF f.2.1 r.2.2.2.2.1 f.2.2.2.1).1.2.1 else b) rs
noncomputable def boF (f : tFrame.den) (s : tStrand.den) (docs : List Int) (p : Int) : Int := bdL f p f.2.2.2.2.1 (s.2.1.drop (fkF f s docs))
noncomputable def pbF (f : tFrame.den) (s : tStrand.den) (docs : List Int) (p : tPiece.den) : Int := if fpiF p s.1 0 < 0 then f.2.2.2.2.1 else boF f s docs (fpiF p s.1 0)
theorem spec_l21Kept_ok (f : tFrame.den) (s : tStrand.den) (docs : List Int) (k : Int) (hs : Small tStrand 1048576 s) (h0 : 0 ≤ k) (h1 : k < (List.length s.2.1 : Int)) : FunOK Tryz.prog 71 [⟨tFrame, f⟩, ⟨tStrand, s⟩, ⟨(.list I), docs⟩, ⟨I, k⟩] (.rd .bool (keptB f s docs k)) := by
  refine fun_of (tb := tb) follows Tryz.func71 (by kernel_rfl) Tryz.ntmps71 rfl rfl rfl ?_
  intro cx hN hw
  simp (disch := exact eqId (by kernel_rfl)) only [go_sem, ↓reduceIte, Nat.reduceAdd, Nat.reduceMul, Nat.reduceLT, Nat.reduceBEq, Nat.reduceLeDiff, Nat.reduceEqDiff, Int.reduceToNat]
  repeat' (first | (refine And.intro ?_ ?_) | intro _ | (refine callQ_intro (spec_RenewalSpan_ok _ _ _ (small_ren hs (by omega))) ?_; try (simp (disch := exact eqId (by kernel_rfl)) only [go_sem, ↓reduceIte, Nat.reduceAdd, Nat.reduceMul, Nat.reduceLT, Nat.reduceBEq, Nat.reduceLeDiff, Nat.reduceEqDiff, Int.reduceToNat])) | (refine callH_intro (fun hcc => spec_RenewalSpan_ok _ _ _ (small_ren hs (by omega))) ?_; try (simp (disch := exact eqId (by kernel_rfl)) only [go_sem, ↓reduceIte, Nat.reduceAdd, Nat.reduceMul, Nat.reduceLT, Nat.reduceBEq, Nat.reduceLeDiff, Nat.reduceEqDiff, Int.reduceToNat])) | (refine callQ_intro (spec_LinkHolds_ok _ _ _ hs) ?_; try (simp (disch := exact eqId (by kernel_rfl)) only [go_sem, ↓reduceIte, Nat.reduceAdd, Nat.reduceMul, Nat.reduceLT, Nat.reduceBEq, Nat.reduceLeDiff, Nat.reduceEqDiff, Int.reduceToNat])) | (refine callH_intro (fun hcc => spec_LinkHolds_ok _ _ _ hs) ?_; try (simp (disch := exact eqId (by kernel_rfl)) only [go_sem, ↓reduceIte, Nat.reduceAdd, Nat.reduceMul, Nat.reduceLT, Nat.reduceBEq, Nat.reduceLeDiff, Nat.reduceEqDiff, Int.reduceToNat])) | (refine callQ_intro (spec_LeafAt_ok _ _ _ hs) ?_; try (simp (disch := exact eqId (by kernel_rfl)) only [go_sem, ↓reduceIte, Nat.reduceAdd, Nat.reduceMul, Nat.reduceLT, Nat.reduceBEq, Nat.reduceLeDiff, Nat.reduceEqDiff, Int.reduceToNat])) | (refine callH_intro (fun hcc => spec_LeafAt_ok _ _ _ hs) ?_; try (simp (disch := exact eqId (by kernel_rfl)) only [go_sem, ↓reduceIte, Nat.reduceAdd, Nat.reduceMul, Nat.reduceLT, Nat.reduceBEq, Nat.reduceLeDiff, Nat.reduceEqDiff, Int.reduceToNat])) | (refine callQ_intro (spec_CheckRenewal_ok _ _ _ _) ?_; try (simp (disch := exact eqId (by kernel_rfl)) only [go_sem, ↓reduceIte, Nat.reduceAdd, Nat.reduceMul, Nat.reduceLT, Nat.reduceBEq, Nat.reduceLeDiff, Nat.reduceEqDiff, Int.reduceToNat])) | (refine callH_intro (fun hcc => spec_CheckRenewal_ok _ _ _ _) ?_; try (simp (disch := exact eqId (by kernel_rfl)) only [go_sem, ↓reduceIte, Nat.reduceAdd, Nat.reduceMul, Nat.reduceLT, Nat.reduceBEq, Nat.reduceLeDiff, Nat.reduceEqDiff, Int.reduceToNat])))
  all_goals (try omega)
  all_goals (exact and3 _ _ _)
theorem impl_FirstKept_ok (f : tFrame.den) (s : tStrand.den) (docs : List Int) (hs : Small tStrand 1048576 s) : FunOK Tryz.prog 35 [⟨tFrame, f⟩, ⟨tStrand, s⟩, ⟨(.list I), docs⟩] (.rd I (fkF f s docs : Int)) := by
  have q1 : List.length s.2.1 ≤ 1048576 := hs.2.1.1
  refine fun_of (tb := tb) follows Tryz.func35 (by kernel_rfl) Tryz.ntmps35 rfl rfl rfl ?_
  intro cx hN hw
  simp (disch := exact eqId (by kernel_rfl)) only [go_sem, ↓reduceIte, Nat.reduceAdd, Nat.reduceMul, Nat.reduceLT, Nat.reduceBEq, Nat.reduceLeDiff, Nat.reduceEqDiff, Int.reduceToNat]
  refine loop_intro (tb := tb) follows hN (D := Nat) (fun d => shp [(2, .rd (.list I) (docs)), (3, .bp 10000 0), (4, .bp 10016 0), (7, .rd I (d : Int))] [(10000, .box 39 [.rd (.list tKey) (f.1), .rd (.list tAuthority) (f.2.1), .rd (.list tMethod) (f.2.2.1), .rd I (f.2.2.2.1), .rd I (f.2.2.2.2.1)]), (10016, .box 44 [.rd (.list tPiece) (s.1), .rd (.list tRenewal) (s.2.1)])]) (fun d => d ≤ List.length s.2.1 ∧ fkF f s docs = fkN (keptB f s docs) d) (fun d => d) ((List.length s.2.1)) ?_ (sub_shp hN [(10000, some 10000), (10016, some 10016)] ?_) (fun d hd => ?_)
  · exact ⟨Nat.le_refl _, rfl⟩
  · simp (disch := exact eqId (by kernel_rfl)) only [go_sem, ↓reduceIte, Nat.reduceAdd, Nat.reduceMul, Nat.reduceLT, Nat.reduceBEq, Nat.reduceLeDiff, Nat.reduceEqDiff, Int.reduceToNat]
    try rfl
  · obtain ⟨h1, h2⟩ := hd
    have e1 : IntKind.i64.wrap ((d : Int) - 1) = (d : Int) - 1 := wrap_i64 (by omega) (by omega)
    have hA : decide ((d : Int) > 0) = true → 0 ≤ IntKind.i64.wrap ((d : Int) - 1) ∧ IntKind.i64.wrap ((d : Int) - 1) < (List.length s.2.1 : Int) := fun h => by
      rw [decide_eq_true_eq] at h
      rw [e1]
      omega
    simp (disch := exact eqId (by kernel_rfl)) only [go_sem, ↓reduceIte, Nat.reduceAdd, Nat.reduceMul, Nat.reduceLT, Nat.reduceBEq, Nat.reduceLeDiff, Nat.reduceEqDiff, Int.reduceToNat, e1]
    repeat' (first | (refine And.intro ?_ ?_) | intro _ | (refine callQ_intro (impl_spanOf_ok _ _ (small_ren hs (by omega))) ?_; try (simp (disch := exact eqId (by kernel_rfl)) only [go_sem, ↓reduceIte, Nat.reduceAdd, Nat.reduceMul, Nat.reduceLT, Nat.reduceBEq, Nat.reduceLeDiff, Nat.reduceEqDiff, Int.reduceToNat])) | (refine callH_intro (fun hcc => impl_spanOf_ok _ _ (small_ren hs (by omega))) ?_; try (simp (disch := exact eqId (by kernel_rfl)) only [go_sem, ↓reduceIte, Nat.reduceAdd, Nat.reduceMul, Nat.reduceLT, Nat.reduceBEq, Nat.reduceLeDiff, Nat.reduceEqDiff, Int.reduceToNat])) | (refine callQ_intro (impl_LeafAt_ok _ _ _ hs) ?_; try (simp (disch := exact eqId (by kernel_rfl)) only [go_sem, ↓reduceIte, Nat.reduceAdd, Nat.reduceMul, Nat.reduceLT, Nat.reduceBEq, Nat.reduceLeDiff, Nat.reduceEqDiff, Int.reduceToNat])) | (refine callH_intro (fun hcc => impl_LeafAt_ok _ _ _ hs) ?_; try (simp (disch := exact eqId (by kernel_rfl)) only [go_sem, ↓reduceIte, Nat.reduceAdd, Nat.reduceMul, Nat.reduceLT, Nat.reduceBEq, Nat.reduceLeDiff, Nat.reduceEqDiff, Int.reduceToNat])) | (refine callQ_intro (impl_CheckRenewal_ok _ _ _ _) ?_; try (simp (disch := exact eqId (by kernel_rfl)) only [go_sem, ↓reduceIte, Nat.reduceAdd, Nat.reduceMul, Nat.reduceLT, Nat.reduceBEq, Nat.reduceLeDiff, Nat.reduceEqDiff, Int.reduceToNat])) | (refine callH_intro (fun hcc => impl_CheckRenewal_ok _ _ _ _) ?_; try (simp (disch := exact eqId (by kernel_rfl)) only [go_sem, ↓reduceIte, Nat.reduceAdd, Nat.reduceMul, Nat.reduceLT, Nat.reduceBEq, Nat.reduceLeDiff, Nat.reduceEqDiff, Int.reduceToNat])) | (refine callQ_intro (impl_LinkHolds_ok _ _ _ hs) ?_; try (simp (disch := exact eqId (by kernel_rfl)) only [go_sem, ↓reduceIte, Nat.reduceAdd, Nat.reduceMul, Nat.reduceLT, Nat.reduceBEq, Nat.reduceLeDiff, Nat.reduceEqDiff, Int.reduceToNat])) | (refine callH_intro (fun hcc => impl_LinkHolds_ok _ _ _ hs) ?_; try (simp (disch := exact eqId (by kernel_rfl)) only [go_sem, ↓reduceIte, Nat.reduceAdd, Nat.reduceMul, Nat.reduceLT, Nat.reduceBEq, Nat.reduceLeDiff, Nat.reduceEqDiff, Int.reduceToNat])))
    all_goals (try omega)
    · rename_i hp hc
      rw [e1] at hc
      have hk9 : keptB f s docs ((d : Int) - 1) = false := kept_f hc
      rw [h2, fkN_no (.inr hk9)]
    · rename_i hp hc
      rw [e1] at hc
      have hk9 : keptB f s docs ((d : Int) - 1) = true := kept_t hc
      refine back_intro (d - 1) ?_ ?_ (sub_shp hN [(10000, some 10000), (10016, some 10016)] ?_)
      · exact ⟨by omega, by rw [h2, fkN_go (by omega) hk9]⟩
      · omega
      · simp (disch := exact eqId (by kernel_rfl)) only [go_sem, ↓reduceIte, Nat.reduceAdd, Nat.reduceMul, Nat.reduceLT, Nat.reduceBEq, Nat.reduceLeDiff, Nat.reduceEqDiff, Int.reduceToNat]
        exact e1.trans (by omega)
    · rename_i hp
      rw [h2, fkN_no (.inl (by omega))]
theorem impl_BoundOf_ok (f : tFrame.den) (s : tStrand.den) (docs : List Int) (p : Int) (hs : Small tStrand 1048576 s) : FunOK Tryz.prog 19 [⟨tFrame, f⟩, ⟨tStrand, s⟩, ⟨(.list I), docs⟩, ⟨I, p⟩] (.rd I (boF f s docs p)) := by
  have q1 : List.length s.2.1 ≤ 1048576 := hs.2.1.1
  refine fun_of (tb := tb) follows Tryz.func19 (by kernel_rfl) Tryz.ntmps19 rfl rfl rfl ?_
  intro cx hN hw
  simp (disch := exact eqId (by kernel_rfl)) only [go_sem, ↓reduceIte, Nat.reduceAdd, Nat.reduceMul, Nat.reduceLT, Nat.reduceBEq, Nat.reduceLeDiff, Nat.reduceEqDiff, Int.reduceToNat]
  refine callQ_intro (impl_FirstKept_ok _ _ _ hs) ?_
  simp (disch := exact eqId (by kernel_rfl)) only [go_sem, ↓reduceIte, Nat.reduceAdd, Nat.reduceMul, Nat.reduceLT, Nat.reduceBEq, Nat.reduceLeDiff, Nat.reduceEqDiff, Int.reduceToNat]
  refine loop_intro (tb := tb) follows hN (D := Nat × Int) (fun d => shp [(3, .rd I (p : Int)), (4, .bp 10000 0), (5, .bp 10016 0), (9, .rd I (d.2 : Int)), (10, .rd I (d.1 : Int))] [(10000, .box 39 [.rd (.list tKey) (f.1), .rd (.list tAuthority) (f.2.1), .rd (.list tMethod) (f.2.2.1), .rd I (f.2.2.2.1), .rd I (f.2.2.2.2.1)]), (10016, .box 44 [.rd (.list tPiece) (s.1), .rd (.list tRenewal) (s.2.1)])]) (fun d => d.1 ≤ List.length s.2.1 ∧ boF f s docs p = bdL f p d.2 (List.drop d.1 s.2.1)) (fun d => List.length s.2.1 - d.1) ((fkF f s docs, (f.2.2.2.2.1 : Int))) ?_ (sub_shp hN [(10000, some 10000), (10016, some 10016)] ?_) (fun d hd => ?_)
  · exact ⟨fkN_le _ _, rfl⟩
  · simp (disch := exact eqId (by kernel_rfl)) only [go_sem, ↓reduceIte, Nat.reduceAdd, Nat.reduceMul, Nat.reduceLT, Nat.reduceBEq, Nat.reduceLeDiff, Nat.reduceEqDiff, Int.reduceToNat]
    try rfl
  · obtain ⟨k, a⟩ := d
    obtain ⟨h1, h2⟩ := hd
    simp only at h1 h2
    simp (disch := exact eqId (by kernel_rfl)) only [go_sem, ↓reduceIte, Nat.reduceAdd, Nat.reduceMul, Nat.reduceLT, Nat.reduceBEq, Nat.reduceLeDiff, Nat.reduceEqDiff, Int.reduceToNat]
    repeat' (first | (refine And.intro ?_ ?_) | intro _ | (refine callQ_intro (impl_spanOf_ok _ _ (small_ren hs (by omega))) ?_; try (simp (disch := exact eqId (by kernel_rfl)) only [go_sem, ↓reduceIte, Nat.reduceAdd, Nat.reduceMul, Nat.reduceLT, Nat.reduceBEq, Nat.reduceLeDiff, Nat.reduceEqDiff, Int.reduceToNat])) | (refine callH_intro (fun hcc => impl_spanOf_ok _ _ (small_ren hs (by omega))) ?_; try (simp (disch := exact eqId (by kernel_rfl)) only [go_sem, ↓reduceIte, Nat.reduceAdd, Nat.reduceMul, Nat.reduceLT, Nat.reduceBEq, Nat.reduceLeDiff, Nat.reduceEqDiff, Int.reduceToNat])))
    all_goals (try omega)
    · rename_i hk hc
      have hk : k < List.length s.2.1 := by omega
      refine back_intro ((k + 1, mnF a (agoF f.2.1 (List.getD s.2.1 k (0, 0, 0, [], [], ())).2.2.2.2.1 f.2.2.2.1).1.2.1)) ?_ ?_ (sub_shp hN [(10000, some 10000), (10016, some 10016)] ?_)
      · refine ⟨hk, ?_⟩
        simp only
        rw [h2, drop_getD hk (0, 0, 0, [], [], ()), bdL, if_pos hc]
      · simp only; omega
      · simp (disch := exact eqId (by kernel_rfl)) only [go_sem, ↓reduceIte, Nat.reduceAdd, Nat.reduceMul, Nat.reduceLT, Nat.reduceBEq, Nat.reduceLeDiff, Nat.reduceEqDiff, Int.reduceToNat]
        first | exact ⟨rfl, wrap_succ' (by omega)⟩ | exact wrap_succ' (by omega)
    · rename_i hk hc
      have hk : k < List.length s.2.1 := by omega
      refine back_intro ((k + 1, a)) ?_ ?_ (sub_shp hN [(10000, some 10000), (10016, some 10016)] ?_)
      · refine ⟨hk, ?_⟩
        simp only
        rw [h2, drop_getD hk (0, 0, 0, [], [], ()), bdL, if_neg hc]
      · simp only; omega
      · simp (disch := exact eqId (by kernel_rfl)) only [go_sem, ↓reduceIte, Nat.reduceAdd, Nat.reduceMul, Nat.reduceLT, Nat.reduceBEq, Nat.reduceLeDiff, Nat.reduceEqDiff, Int.reduceToNat]
        first | exact ⟨rfl, wrap_succ' (by omega)⟩ | exact wrap_succ' (by omega)
    · rename_i hk
      rw [h2, drop_end (show List.length s.2.1 ≤ k by omega)]
      rfl
theorem impl_PieceBound_ok (f : tFrame.den) (s : tStrand.den) (docs : List Int) (p : tPiece.den) (hs : Small tStrand 1048576 s) : FunOK Tryz.prog 23 [⟨tFrame, f⟩, ⟨tStrand, s⟩, ⟨(.list I), docs⟩, ⟨tPiece, p⟩] (.rd I (pbF f s docs p)) := by
  refine fun_of (tb := tb) follows Tryz.func23 (by kernel_rfl) Tryz.ntmps23 rfl rfl rfl ?_
  intro cx hN hw
  simp (disch := exact eqId (by kernel_rfl)) only [go_sem, ↓reduceIte, Nat.reduceAdd, Nat.reduceMul, Nat.reduceLT, Nat.reduceBEq, Nat.reduceLeDiff, Nat.reduceEqDiff, Int.reduceToNat]
  repeat' (first | (refine And.intro ?_ ?_) | intro _ | (refine callQ_intro (impl_FindPiece_ok _ _) ?_; try (simp (disch := exact eqId (by kernel_rfl)) only [go_sem, ↓reduceIte, Nat.reduceAdd, Nat.reduceMul, Nat.reduceLT, Nat.reduceBEq, Nat.reduceLeDiff, Nat.reduceEqDiff, Int.reduceToNat])) | (refine callH_intro (fun hcc => impl_FindPiece_ok _ _) ?_; try (simp (disch := exact eqId (by kernel_rfl)) only [go_sem, ↓reduceIte, Nat.reduceAdd, Nat.reduceMul, Nat.reduceLT, Nat.reduceBEq, Nat.reduceLeDiff, Nat.reduceEqDiff, Int.reduceToNat])) | (refine callQ_intro (impl_BoundOf_ok _ _ _ _ hs) ?_; try (simp (disch := exact eqId (by kernel_rfl)) only [go_sem, ↓reduceIte, Nat.reduceAdd, Nat.reduceMul, Nat.reduceLT, Nat.reduceBEq, Nat.reduceLeDiff, Nat.reduceEqDiff, Int.reduceToNat])) | (refine callH_intro (fun hcc => impl_BoundOf_ok _ _ _ _ hs) ?_; try (simp (disch := exact eqId (by kernel_rfl)) only [go_sem, ↓reduceIte, Nat.reduceAdd, Nat.reduceMul, Nat.reduceLT, Nat.reduceBEq, Nat.reduceLeDiff, Nat.reduceEqDiff, Int.reduceToNat])))
  all_goals (try omega)
  all_goals (unfold pbF; first | rw [if_pos (by assumption)] | rw [if_neg (by assumption)])
theorem impl_IsUnbroken_ok (f : tFrame.den) (s : tStrand.den) (docs : List Int) (hs : Small tStrand 1048576 s) : FunOK Tryz.prog 14 [⟨tFrame, f⟩, ⟨tStrand, s⟩, ⟨(.list I), docs⟩] (.rd .bool (decide ((List.length s.2.1 : Int) > 0) && decide ((fkF f s docs : Int) = 0))) := by
  refine fun_of (tb := tb) follows Tryz.func14 (by kernel_rfl) Tryz.ntmps14 rfl rfl rfl ?_
  intro cx hN hw
  simp (disch := exact eqId (by kernel_rfl)) only [go_sem, ↓reduceIte, Nat.reduceAdd, Nat.reduceMul, Nat.reduceLT, Nat.reduceBEq, Nat.reduceLeDiff, Nat.reduceEqDiff, Int.reduceToNat]
  repeat' (first | (refine And.intro ?_ ?_) | intro _ | (refine callQ_intro (impl_FirstKept_ok _ _ _ hs) ?_; try (simp (disch := exact eqId (by kernel_rfl)) only [go_sem, ↓reduceIte, Nat.reduceAdd, Nat.reduceMul, Nat.reduceLT, Nat.reduceBEq, Nat.reduceLeDiff, Nat.reduceEqDiff, Int.reduceToNat])) | (refine callH_intro (fun hcc => impl_FirstKept_ok _ _ _ hs) ?_; try (simp (disch := exact eqId (by kernel_rfl)) only [go_sem, ↓reduceIte, Nat.reduceAdd, Nat.reduceMul, Nat.reduceLT, Nat.reduceBEq, Nat.reduceLeDiff, Nat.reduceEqDiff, Int.reduceToNat])))
  all_goals (try omega)
  all_goals (try rfl)
theorem spec_FirstKept_ok (f : tFrame.den) (s : tStrand.den) (docs : List Int) (hs : Small tStrand 1048576 s) : FunOK Tryz.prog 34 [⟨tFrame, f⟩, ⟨tStrand, s⟩, ⟨(.list I), docs⟩] (.rd I (fkF f s docs : Int)) := by
  have q1 : List.length s.2.1 ≤ 1048576 := hs.2.1.1
  refine fun_of (tb := tb) follows Tryz.func34 (by kernel_rfl) Tryz.ntmps34 rfl rfl rfl ?_
  intro cx hN hw
  simp (disch := exact eqId (by kernel_rfl)) only [go_sem, ↓reduceIte, Nat.reduceAdd, Nat.reduceMul, Nat.reduceLT, Nat.reduceBEq, Nat.reduceLeDiff, Nat.reduceEqDiff, Int.reduceToNat]
  refine loop_intro (tb := tb) follows hN (D := Nat) (fun d => shp [(2, .rd (.list I) (docs)), (3, .bp 10000 0), (4, .bp 10016 0), (7, .rd I (d : Int))] [(10000, .box 39 [.rd (.list tKey) (f.1), .rd (.list tAuthority) (f.2.1), .rd (.list tMethod) (f.2.2.1), .rd I (f.2.2.2.1), .rd I (f.2.2.2.2.1)]), (10016, .box 44 [.rd (.list tPiece) (s.1), .rd (.list tRenewal) (s.2.1)])]) (fun d => d ≤ List.length s.2.1 ∧ fkF f s docs = fkN (keptB f s docs) d) (fun d => d) ((List.length s.2.1)) ?_ (sub_shp hN [(10000, some 10000), (10016, some 10016)] ?_) (fun d hd => ?_)
  · exact ⟨Nat.le_refl _, rfl⟩
  · simp (disch := exact eqId (by kernel_rfl)) only [go_sem, ↓reduceIte, Nat.reduceAdd, Nat.reduceMul, Nat.reduceLT, Nat.reduceBEq, Nat.reduceLeDiff, Nat.reduceEqDiff, Int.reduceToNat]
    try rfl
  · obtain ⟨h1, h2⟩ := hd
    have e1 : IntKind.i64.wrap ((d : Int) - 1) = (d : Int) - 1 := wrap_i64 (by omega) (by omega)
    have hA : decide ((d : Int) > 0) = true → 0 ≤ ((d : Int) - 1) ∧ ((d : Int) - 1) < (List.length s.2.1 : Int) := fun h => by
      rw [decide_eq_true_eq] at h
      omega
    simp (disch := exact eqId (by kernel_rfl)) only [go_sem, ↓reduceIte, Nat.reduceAdd, Nat.reduceMul, Nat.reduceLT, Nat.reduceBEq, Nat.reduceLeDiff, Nat.reduceEqDiff, Int.reduceToNat, e1]
    repeat' (first | (refine And.intro ?_ ?_) | intro _ | (refine callQ_intro (spec_l21Kept_ok _ _ _ _ hs (hA hcc).1 (hA hcc).2) ?_; try (simp (disch := exact eqId (by kernel_rfl)) only [go_sem, ↓reduceIte, Nat.reduceAdd, Nat.reduceMul, Nat.reduceLT, Nat.reduceBEq, Nat.reduceLeDiff, Nat.reduceEqDiff, Int.reduceToNat])) | (refine callH_intro (fun hcc => spec_l21Kept_ok _ _ _ _ hs (hA hcc).1 (hA hcc).2) ?_; try (simp (disch := exact eqId (by kernel_rfl)) only [go_sem, ↓reduceIte, Nat.reduceAdd, Nat.reduceMul, Nat.reduceLT, Nat.reduceBEq, Nat.reduceLeDiff, Nat.reduceEqDiff, Int.reduceToNat])))
    all_goals (try omega)
    · rename_i hc
      have hp := hc.1
      have hk9 : keptB f s docs ((d : Int) - 1) = true := hc.2
      refine back_intro (d - 1) ?_ ?_ (sub_shp hN [(10000, some 10000), (10016, some 10016)] ?_)
      · exact ⟨by omega, by rw [h2, fkN_go (by omega) hk9]⟩
      · omega
      · simp (disch := exact eqId (by kernel_rfl)) only [go_sem, ↓reduceIte, Nat.reduceAdd, Nat.reduceMul, Nat.reduceLT, Nat.reduceBEq, Nat.reduceLeDiff, Nat.reduceEqDiff, Int.reduceToNat]
        exact e1.trans (by omega)
    · rename_i hc
      have hk9 : d = 0 ∨ keptB f s docs ((d : Int) - 1) = false := hc.imp (fun h => by omega) (fun h => h)
      rw [h2, fkN_no hk9]
theorem spec_BoundOf_ok (f : tFrame.den) (s : tStrand.den) (docs : List Int) (p : Int) (hs : Small tStrand 1048576 s) : FunOK Tryz.prog 18 [⟨tFrame, f⟩, ⟨tStrand, s⟩, ⟨(.list I), docs⟩, ⟨I, p⟩] (.rd I (boF f s docs p)) := by
  have q1 : List.length s.2.1 ≤ 1048576 := hs.2.1.1
  refine fun_of (tb := tb) follows Tryz.func18 (by kernel_rfl) Tryz.ntmps18 rfl rfl rfl ?_
  intro cx hN hw
  simp (disch := exact eqId (by kernel_rfl)) only [go_sem, ↓reduceIte, Nat.reduceAdd, Nat.reduceMul, Nat.reduceLT, Nat.reduceBEq, Nat.reduceLeDiff, Nat.reduceEqDiff, Int.reduceToNat]
  refine callQ_intro (spec_FirstKept_ok _ _ _ hs) ?_
  simp (disch := exact eqId (by kernel_rfl)) only [go_sem, ↓reduceIte, Nat.reduceAdd, Nat.reduceMul, Nat.reduceLT, Nat.reduceBEq, Nat.reduceLeDiff, Nat.reduceEqDiff, Int.reduceToNat]
  refine loop_intro (tb := tb) follows hN (D := Nat × Int) (fun d => shp [(3, .rd I (p : Int)), (4, .bp 10000 0), (5, .bp 10016 0), (9, .rd I (d.2 : Int)), (10, .rd I (d.1 : Int))] [(10000, .box 39 [.rd (.list tKey) (f.1), .rd (.list tAuthority) (f.2.1), .rd (.list tMethod) (f.2.2.1), .rd I (f.2.2.2.1), .rd I (f.2.2.2.2.1)]), (10016, .box 44 [.rd (.list tPiece) (s.1), .rd (.list tRenewal) (s.2.1)])]) (fun d => d.1 ≤ List.length s.2.1 ∧ boF f s docs p = bdL f p d.2 (List.drop d.1 s.2.1)) (fun d => List.length s.2.1 - d.1) ((fkF f s docs, (f.2.2.2.2.1 : Int))) ?_ (sub_shp hN [(10000, some 10000), (10016, some 10016)] ?_) (fun d hd => ?_)
  · exact ⟨fkN_le _ _, rfl⟩
  · simp (disch := exact eqId (by kernel_rfl)) only [go_sem, ↓reduceIte, Nat.reduceAdd, Nat.reduceMul, Nat.reduceLT, Nat.reduceBEq, Nat.reduceLeDiff, Nat.reduceEqDiff, Int.reduceToNat]
    try rfl
  · obtain ⟨k, a⟩ := d
    obtain ⟨h1, h2⟩ := hd
    simp only at h1 h2
    simp (disch := exact eqId (by kernel_rfl)) only [go_sem, ↓reduceIte, Nat.reduceAdd, Nat.reduceMul, Nat.reduceLT, Nat.reduceBEq, Nat.reduceLeDiff, Nat.reduceEqDiff, Int.reduceToNat]
    repeat' (first | (refine And.intro ?_ ?_) | intro _ | (refine callQ_intro (spec_RenewalSpan_ok _ _ _ (small_ren hs (by omega))) ?_; try (simp (disch := exact eqId (by kernel_rfl)) only [go_sem, ↓reduceIte, Nat.reduceAdd, Nat.reduceMul, Nat.reduceLT, Nat.reduceBEq, Nat.reduceLeDiff, Nat.reduceEqDiff, Int.reduceToNat])) | (refine callH_intro (fun hcc => spec_RenewalSpan_ok _ _ _ (small_ren hs (by omega))) ?_; try (simp (disch := exact eqId (by kernel_rfl)) only [go_sem, ↓reduceIte, Nat.reduceAdd, Nat.reduceMul, Nat.reduceLT, Nat.reduceBEq, Nat.reduceLeDiff, Nat.reduceEqDiff, Int.reduceToNat])) | (refine callQ_intro (spec_Min_ok _ _) ?_; try (simp (disch := exact eqId (by kernel_rfl)) only [go_sem, ↓reduceIte, Nat.reduceAdd, Nat.reduceMul, Nat.reduceLT, Nat.reduceBEq, Nat.reduceLeDiff, Nat.reduceEqDiff, Int.reduceToNat])) | (refine callH_intro (fun hcc => spec_Min_ok _ _) ?_; try (simp (disch := exact eqId (by kernel_rfl)) only [go_sem, ↓reduceIte, Nat.reduceAdd, Nat.reduceMul, Nat.reduceLT, Nat.reduceBEq, Nat.reduceLeDiff, Nat.reduceEqDiff, Int.reduceToNat])))
    all_goals (try omega)
    · rename_i hk hc
      have hk : k < List.length s.2.1 := by omega
      refine back_intro ((k + 1, mnF a (agoF f.2.1 (List.getD s.2.1 k (0, 0, 0, [], [], ())).2.2.2.2.1 f.2.2.2.1).1.2.1)) ?_ ?_ (sub_shp hN [(10000, some 10000), (10016, some 10016)] ?_)
      · refine ⟨hk, ?_⟩
        simp only
        rw [h2, drop_getD hk (0, 0, 0, [], [], ()), bdL, if_pos hc]
      · simp only; omega
      · simp (disch := exact eqId (by kernel_rfl)) only [go_sem, ↓reduceIte, Nat.reduceAdd, Nat.reduceMul, Nat.reduceLT, Nat.reduceBEq, Nat.reduceLeDiff, Nat.reduceEqDiff, Int.reduceToNat]
        first | exact ⟨rfl, wrap_succ' (by omega)⟩ | exact wrap_succ' (by omega)
    · rename_i hk hc
      have hk : k < List.length s.2.1 := by omega
      refine back_intro ((k + 1, a)) ?_ ?_ (sub_shp hN [(10000, some 10000), (10016, some 10016)] ?_)
      · refine ⟨hk, ?_⟩
        simp only
        rw [h2, drop_getD hk (0, 0, 0, [], [], ()), bdL, if_neg hc]
      · simp only; omega
      · simp (disch := exact eqId (by kernel_rfl)) only [go_sem, ↓reduceIte, Nat.reduceAdd, Nat.reduceMul, Nat.reduceLT, Nat.reduceBEq, Nat.reduceLeDiff, Nat.reduceEqDiff, Int.reduceToNat]
        first | exact ⟨rfl, wrap_succ' (by omega)⟩ | exact wrap_succ' (by omega)
    · rename_i hk
      rw [h2, drop_end (show List.length s.2.1 ≤ k by omega)]
      rfl
theorem spec_PieceBound_ok (f : tFrame.den) (s : tStrand.den) (docs : List Int) (p : tPiece.den) (hs : Small tStrand 1048576 s) : FunOK Tryz.prog 21 [⟨tFrame, f⟩, ⟨tStrand, s⟩, ⟨(.list I), docs⟩, ⟨tPiece, p⟩] (.rd I (pbF f s docs p)) := by
  refine fun_of (tb := tb) follows Tryz.func21 (by kernel_rfl) Tryz.ntmps21 rfl rfl rfl ?_
  intro cx hN hw
  simp (disch := exact eqId (by kernel_rfl)) only [go_sem, ↓reduceIte, Nat.reduceAdd, Nat.reduceMul, Nat.reduceLT, Nat.reduceBEq, Nat.reduceLeDiff, Nat.reduceEqDiff, Int.reduceToNat]
  repeat' (first | (refine And.intro ?_ ?_) | intro _ | (refine callQ_intro (spec_FindPiece_ok _ _) ?_; try (simp (disch := exact eqId (by kernel_rfl)) only [go_sem, ↓reduceIte, Nat.reduceAdd, Nat.reduceMul, Nat.reduceLT, Nat.reduceBEq, Nat.reduceLeDiff, Nat.reduceEqDiff, Int.reduceToNat])) | (refine callH_intro (fun hcc => spec_FindPiece_ok _ _) ?_; try (simp (disch := exact eqId (by kernel_rfl)) only [go_sem, ↓reduceIte, Nat.reduceAdd, Nat.reduceMul, Nat.reduceLT, Nat.reduceBEq, Nat.reduceLeDiff, Nat.reduceEqDiff, Int.reduceToNat])) | (refine callQ_intro (spec_BoundOf_ok _ _ _ _ hs) ?_; try (simp (disch := exact eqId (by kernel_rfl)) only [go_sem, ↓reduceIte, Nat.reduceAdd, Nat.reduceMul, Nat.reduceLT, Nat.reduceBEq, Nat.reduceLeDiff, Nat.reduceEqDiff, Int.reduceToNat])) | (refine callH_intro (fun hcc => spec_BoundOf_ok _ _ _ _ hs) ?_; try (simp (disch := exact eqId (by kernel_rfl)) only [go_sem, ↓reduceIte, Nat.reduceAdd, Nat.reduceMul, Nat.reduceLT, Nat.reduceBEq, Nat.reduceLeDiff, Nat.reduceEqDiff, Int.reduceToNat])))
  all_goals (try omega)
  all_goals (unfold pbF; first | rw [if_pos (by assumption)] | rw [if_neg (by assumption)])
theorem spec_IsUnbroken_ok (f : tFrame.den) (s : tStrand.den) (docs : List Int) (hs : Small tStrand 1048576 s) : FunOK Tryz.prog 10 [⟨tFrame, f⟩, ⟨tStrand, s⟩, ⟨(.list I), docs⟩] (.rd .bool (decide ((List.length s.2.1 : Int) > 0) && decide ((fkF f s docs : Int) = 0))) := by
  refine fun_of (tb := tb) follows Tryz.func10 (by kernel_rfl) Tryz.ntmps10 rfl rfl rfl ?_
  intro cx hN hw
  simp (disch := exact eqId (by kernel_rfl)) only [go_sem, ↓reduceIte, Nat.reduceAdd, Nat.reduceMul, Nat.reduceLT, Nat.reduceBEq, Nat.reduceLeDiff, Nat.reduceEqDiff, Int.reduceToNat]
  repeat' (first | (refine And.intro ?_ ?_) | intro _ | (refine callQ_intro (spec_FirstKept_ok _ _ _ hs) ?_; try (simp (disch := exact eqId (by kernel_rfl)) only [go_sem, ↓reduceIte, Nat.reduceAdd, Nat.reduceMul, Nat.reduceLT, Nat.reduceBEq, Nat.reduceLeDiff, Nat.reduceEqDiff, Int.reduceToNat])) | (refine callH_intro (fun hcc => spec_FirstKept_ok _ _ _ hs) ?_; try (simp (disch := exact eqId (by kernel_rfl)) only [go_sem, ↓reduceIte, Nat.reduceAdd, Nat.reduceMul, Nat.reduceLT, Nat.reduceBEq, Nat.reduceLeDiff, Nat.reduceEqDiff, Int.reduceToNat])))
  all_goals (try omega)
  all_goals (try rfl)
def sdF (m : Int) (l : List tStamp.den) : Int := if l = [] then 0 else mxF 1 (digF m (l.map (fun s : tStamp.den => (s.2.2.2.2.1 : Int))))
theorem sdF_no {m : Int} {l : List tStamp.den} (h : (l.length : Int) = 0) : sdF m l = 0 := by
  rw [sdF, if_pos (List.eq_nil_of_length_eq_zero (by omega))]
theorem sdF_go {m : Int} {l : List tStamp.den} (h : ¬ (l.length : Int) = 0) : sdF m l = mxF 1 (digF m (l.map (fun s : tStamp.den => (s.2.2.2.2.1 : Int)))) := by
  rw [sdF, if_neg (by rintro rfl; exact h rfl)]
def stP (l : List tAuthority.den) (s : tStamp.den) : tPiece.den := (skyF l s, [103, s.1, s.2.1, s.2.2.1, s.2.2.2.1], s.2.2.2.2.1, ())
theorem impl_Max_ok (a b : Int) : FunOK Tryz.prog 95 [⟨I, a⟩, ⟨I, b⟩] (.rd I (mxF a b)) := by
  refine fun_of (tb := tb) follows Tryz.func95 (by kernel_rfl) Tryz.ntmps95 rfl rfl rfl ?_
  intro cx hN hw
  simp (disch := exact eqId (by kernel_rfl)) only [go_sem, ↓reduceIte, Nat.reduceAdd, Nat.reduceMul, Nat.reduceLT, Nat.reduceBEq, Nat.reduceLeDiff, Nat.reduceEqDiff, Int.reduceToNat]
  repeat' (first | (refine And.intro ?_ ?_) | intro _)
  all_goals (try rfl)
theorem impl_StampsDigest_ok (m : Int) (l : List tStamp.den) (hs : l.length ≤ 1048576) : FunOK Tryz.prog 64 [⟨I, m⟩, ⟨(.list tStamp), l⟩] (.rd I (sdF m l)) := by
  refine fun_of (tb := tb) follows Tryz.func64 (by kernel_rfl) Tryz.ntmps64 rfl rfl rfl ?_
  intro cx hN hw
  simp (disch := exact eqId (by kernel_rfl)) only [go_sem, ↓reduceIte, Nat.reduceAdd, Nat.reduceMul, Nat.reduceLT, Nat.reduceBEq, Nat.reduceLeDiff, Nat.reduceEqDiff, Int.reduceToNat]
  repeat' (first | (refine And.intro ?_ ?_) | intro _)
  all_goals (try omega)
  · rename_i hc
    exact (sdF_no hc).symm
  · rename_i hc
    refine loop_intro (tb := tb) follows hN (D := Nat) (fun d => shp [(0, .rd I (m : Int)), (5, .own 1), (11, .rd (.list tStamp) (l)), (12, .rd I (((l).length : Int) : Int)), (13, .rd I (d : Int))] [(1, .row 3 I (List.map (fun s : tStamp.den => (s.2.2.2.2.1 : Int)) (List.take d l)))]) (fun d => d ≤ List.length l) (fun d => List.length l - d) (0) ?_ (sub_shp hN [(1, none)] ?_) (fun d hd => ?_)
    · exact Nat.zero_le _
    · simp (disch := exact eqId (by kernel_rfl)) only [go_sem, ↓reduceIte, Nat.reduceAdd, Nat.reduceMul, Nat.reduceLT, Nat.reduceBEq, Nat.reduceLeDiff, Nat.reduceEqDiff, Int.reduceToNat]
      try exact ⟨rfl, rfl⟩
    · simp (disch := exact eqId (by kernel_rfl)) only [go_sem, ↓reduceIte, Nat.reduceAdd, Nat.reduceMul, Nat.reduceLT, Nat.reduceBEq, Nat.reduceLeDiff, Nat.reduceEqDiff, Int.reduceToNat]
      repeat' (first | (refine And.intro ?_ ?_) | intro _)
      all_goals (try omega)
      all_goals (try simp only [List.length_append, List.length_cons, List.length_nil, List.length_map, List.length_take])
      all_goals (try omega)
      · have hk : d < l.length := by omega
        refine back_intro (d + 1) ?_ ?_ (sub_shp hN [(1, some 80064)] ?_)
        · exact hk
        · omega
        · simp (disch := exact eqId (by kernel_rfl)) only [go_sem, ↓reduceIte, Nat.reduceAdd, Nat.reduceMul, Nat.reduceLT, Nat.reduceBEq, Nat.reduceLeDiff, Nat.reduceEqDiff, Int.reduceToNat]
          rw [map_take_succ _ hk (0, 0, 0, 0, 0, ())]
          exact ⟨rfl, wrap_succ' (by omega)⟩
      · have hk : d = l.length := by omega
        rw [hk, List.take_length]
        refine callQ_intro (impl_DigestOf_ok _ _ (by simp only [List.length_map]; omega)) ?_
        simp (disch := exact eqId (by kernel_rfl)) only [go_sem, ↓reduceIte, Nat.reduceAdd, Nat.reduceMul, Nat.reduceLT, Nat.reduceBEq, Nat.reduceLeDiff, Nat.reduceEqDiff, Int.reduceToNat]
        refine callQ_intro (impl_Max_ok _ _) ?_
        simp (disch := exact eqId (by kernel_rfl)) only [go_sem, ↓reduceIte, Nat.reduceAdd, Nat.reduceMul, Nat.reduceLT, Nat.reduceBEq, Nat.reduceLeDiff, Nat.reduceEqDiff, Int.reduceToNat]
        try exact (sdF_go hc).symm
theorem spec_StampsDigest_ok (m : Int) (l : List tStamp.den) (hs : l.length ≤ 1048576) : FunOK Tryz.prog 57 [⟨I, m⟩, ⟨(.list tStamp), l⟩] (.rd I (sdF m l)) := by
  refine fun_of (tb := tb) follows Tryz.func57 (by kernel_rfl) Tryz.ntmps57 rfl rfl rfl ?_
  intro cx hN hw
  simp (disch := exact eqId (by kernel_rfl)) only [go_sem, ↓reduceIte, Nat.reduceAdd, Nat.reduceMul, Nat.reduceLT, Nat.reduceBEq, Nat.reduceLeDiff, Nat.reduceEqDiff, Int.reduceToNat]
  repeat' (first | (refine And.intro ?_ ?_) | intro _)
  all_goals (try omega)
  · rename_i hc
    exact (sdF_no hc).symm
  · rename_i hc
    refine loop_intro (tb := tb) follows hN (D := Nat) (fun d => shp [(0, .rd I (m : Int)), (1, .rd (.list tStamp) (l)), (5, .own 1), (6, .rd I (d : Int))] [(1, .row 3 I (List.map (fun s : tStamp.den => (s.2.2.2.2.1 : Int)) (List.take d l)))]) (fun d => d ≤ List.length l) (fun d => List.length l - d) (0) ?_ (sub_shp hN [(1, some 40000)] ?_) (fun d hd => ?_)
    · exact Nat.zero_le _
    · simp (disch := exact eqId (by kernel_rfl)) only [go_sem, ↓reduceIte, Nat.reduceAdd, Nat.reduceMul, Nat.reduceLT, Nat.reduceBEq, Nat.reduceLeDiff, Nat.reduceEqDiff, Int.reduceToNat]
      try exact ⟨rfl, rfl⟩
    · simp (disch := exact eqId (by kernel_rfl)) only [go_sem, ↓reduceIte, Nat.reduceAdd, Nat.reduceMul, Nat.reduceLT, Nat.reduceBEq, Nat.reduceLeDiff, Nat.reduceEqDiff, Int.reduceToNat]
      repeat' (first | (refine And.intro ?_ ?_) | intro _)
      all_goals (try omega)
      all_goals (try simp only [List.length_append, List.length_cons, List.length_nil, List.length_map, List.length_take])
      all_goals (try omega)
      · have hk : d < l.length := by omega
        refine back_intro (d + 1) ?_ ?_ (sub_shp hN [(1, some 80112)] ?_)
        · exact hk
        · omega
        · simp (disch := exact eqId (by kernel_rfl)) only [go_sem, ↓reduceIte, Nat.reduceAdd, Nat.reduceMul, Nat.reduceLT, Nat.reduceBEq, Nat.reduceLeDiff, Nat.reduceEqDiff, Int.reduceToNat]
          rw [map_take_succ _ hk (0, 0, 0, 0, 0, ())]
          exact ⟨rfl, wrap_succ' (by omega)⟩
      · have hk : d = l.length := by omega
        rw [hk, List.take_length]
        refine callQ_intro (spec_DigestOf_ok _ _ (by simp only [List.length_map]; omega)) ?_
        simp (disch := exact eqId (by kernel_rfl)) only [go_sem, ↓reduceIte, Nat.reduceAdd, Nat.reduceMul, Nat.reduceLT, Nat.reduceBEq, Nat.reduceLeDiff, Nat.reduceEqDiff, Int.reduceToNat]
        refine callQ_intro (spec_Max_ok _ _) ?_
        simp (disch := exact eqId (by kernel_rfl)) only [go_sem, ↓reduceIte, Nat.reduceAdd, Nat.reduceMul, Nat.reduceLT, Nat.reduceBEq, Nat.reduceLeDiff, Nat.reduceEqDiff, Int.reduceToNat]
        try exact (sdF_go hc).symm
theorem spec_l23Has_ok (l : List tPiece.den) (p : tPiece.den) : FunOK Tryz.prog 91 [⟨(.list tPiece), l⟩, ⟨tPiece, p⟩] (.rd .bool (hpF p l)) := by
  refine fun_of (tb := tb) follows Tryz.func91 (by kernel_rfl) Tryz.ntmps91 rfl rfl rfl ?_
  intro cx hN hw
  simp (disch := exact eqId (by kernel_rfl)) only [go_sem, ↓reduceIte, Nat.reduceAdd, Nat.reduceMul, Nat.reduceLT, Nat.reduceBEq, Nat.reduceLeDiff, Nat.reduceEqDiff, Int.reduceToNat]
  refine loop_intro (tb := tb) follows hN (D := Nat) (fun d => shp [(0, .rd (.list tPiece) (l)), (3, .bp 10000 0), (5, .rd I (d : Int))] [(10000, .box 57 [.rd I (p.1), .rd (.list I) (p.2.1), .rd I (p.2.2.1)])]) (fun d => d ≤ List.length l ∧ hpF p l = hpF p (List.drop d l)) (fun d => List.length l - d) (0) ?_ (sub_shp hN [(10000, some 10000)] ?_) (fun d hd => ?_)
  · exact ⟨Nat.zero_le _, rfl⟩
  · simp (disch := exact eqId (by kernel_rfl)) only [go_sem, ↓reduceIte, Nat.reduceAdd, Nat.reduceMul, Nat.reduceLT, Nat.reduceBEq, Nat.reduceLeDiff, Nat.reduceEqDiff, Int.reduceToNat]
    try rfl
  · obtain ⟨h1, h2⟩ := hd
    simp (disch := exact eqId (by kernel_rfl)) only [go_sem, ↓reduceIte, Nat.reduceAdd, Nat.reduceMul, Nat.reduceLT, Nat.reduceBEq, Nat.reduceLeDiff, Nat.reduceEqDiff, Int.reduceToNat]
    repeat' (first | (refine And.intro ?_ ?_) | intro _ | (refine callQ_intro (spec_EqualPieces_ok _ _) ?_; try (simp (disch := exact eqId (by kernel_rfl)) only [go_sem, ↓reduceIte, Nat.reduceAdd, Nat.reduceMul, Nat.reduceLT, Nat.reduceBEq, Nat.reduceLeDiff, Nat.reduceEqDiff, Int.reduceToNat])) | (refine callH_intro (fun hcc => spec_EqualPieces_ok _ _) ?_; try (simp (disch := exact eqId (by kernel_rfl)) only [go_sem, ↓reduceIte, Nat.reduceAdd, Nat.reduceMul, Nat.reduceLT, Nat.reduceBEq, Nat.reduceLeDiff, Nat.reduceEqDiff, Int.reduceToNat])))
    all_goals (try omega)
    · rename_i hk he
      rw [h2, drop_getD (show d < List.length l by omega) (0, [], 0, ()), hpF, eqC_t.mpr he]
      rfl
    · rename_i hk he
      have hk : d < List.length l := by omega
      refine back_intro (d + 1) ?_ ?_ (sub_shp hN [(10000, some 10000)] ?_)
      · refine ⟨hk, ?_⟩
        rw [h2, drop_getD hk (0, [], 0, ()), hpF, eqC_f.mpr he]
        rfl
      · omega
      · simp (disch := exact eqId (by kernel_rfl)) only [go_sem, ↓reduceIte, Nat.reduceAdd, Nat.reduceMul, Nat.reduceLT, Nat.reduceBEq, Nat.reduceLeDiff, Nat.reduceEqDiff, Int.reduceToNat]
        exact wrap_succ hk hw.1.1
    · rename_i hk
      rw [h2, drop_end (show List.length l ≤ d by omega)]
      rfl
end Go.Proofs.YtkneckknjmahdaaGreat
