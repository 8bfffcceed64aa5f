/- What the functions of renewals' digests answer, on both sides. It proves nothing of a statement by itself. -/
import Derived.Test.YtkneckknjmahdaaGreatF5
set_option linter.unusedSimpArgs false
set_option linter.unusedVariables false
set_option maxRecDepth 100000
namespace Go.Proofs.YtkneckknjmahdaaGreat
open Go.AL
theorem lb1 {X Z : List Int} {y : Int} {n : Nat} (h1 : X.length ≤ 2097152) (h2 : Z.length ≤ 6291456) (hn : 100000000 ≤ n) : (X ++ y :: Z).length ≤ n := by
  simp only [List.length_append, List.length_cons]; omega
theorem lb2 {X Z W : List Int} {y : Int} {n : Nat} (h1 : X.length ≤ 2097152) (h2 : Z.length ≤ 6291456) (hw : W.length ≤ 100) (hn : 100000000 ≤ n) : (X ++ y :: Z ++ W).length ≤ n := by
  simp only [List.length_append, List.length_cons]; omega
theorem lb4 {X : List Int} {y : Int} {n : Nat} (h1 : X.length ≤ 2097152) (hn : 100000000 ≤ n) : (X ++ [y]).length ≤ n := by
  simp only [List.length_append, List.length_cons, List.length_nil]; omega
theorem lb3 {X Z : List Int} {y a b c e : Int} (h1 : X.length ≤ 2097152) (h2 : Z.length ≤ 6291456) : (a :: b :: c :: e :: (X ++ y :: Z)).length ≤ 1073741824 := by
  simp only [List.length_append, List.length_cons]; omega
theorem impl_RenewalDigest_ok (m : Int) (r : tRenewal.den) (hs : Small tRenewal 1048576 r) : FunOK Tryz.prog 108 [⟨I, m⟩, ⟨tRenewal, r⟩] (.rd I (rdF m r)) := by
  have q3 : List.length r.2.2.2.1 ≤ 1048576 := hs.2.2.2.1.1
  have q4 : List.length r.2.2.2.2.1 ≤ 1048576 := hs.2.2.2.2.1.1
  have hL : ∀ k, ((List.take k r.2.2.2.1).flatMap rsF).length ≤ 2097152 := fun k => by rw [rs_len, List.length_take]; omega
  have hM : ∀ k, ((List.take k r.2.2.2.2.1).flatMap rtF).length ≤ 6291456 := fun k => by rw [rt_len, List.length_take]; omega
  have hR : (r.2.2.2.1.flatMap rsF).length ≤ 2097152 := by rw [rs_len]; omega
  refine fun_of (tb := tb) follows Tryz.func108 (by kernel_rfl) Tryz.ntmps108 rfl rfl rfl ?_
  intro cx hN hw
  simp (disch := exact eqId (by kernel_rfl)) only [go_sem, ↓reduceIte, Nat.reduceAdd, Nat.reduceMul, Nat.reduceLT, Nat.reduceBEq, Nat.reduceLeDiff, Nat.reduceEqDiff, Int.reduceToNat]
  refine loop_intro (tb := tb) follows hN (D := Nat) (fun d => shp [(0, .rd I (m : Int)), (3, .bp 10000 0), (5, .own 1), (19, .rd (.list tStep) (r.2.2.2.1)), (20, .rd I (((r.2.2.2.1).length : Int) : Int)), (21, .rd I (d : Int))] [(1, .row 3 I (4 :: r.1 :: r.2.1 :: r.2.2.1 :: (List.take d r.2.2.2.1).flatMap rsF)), (10000, .box 97 [.rd I (r.1), .rd I (r.2.1), .rd I (r.2.2.1), .rd (.list tStep) (r.2.2.2.1), .rd (.list tStamp) (r.2.2.2.2.1)])]) (fun d => d ≤ List.length r.2.2.2.1) (fun d => List.length r.2.2.2.1 - d) (0) ?_ (sub_shp hN [(10000, some 10000), (1, some 20096)] ?_) (fun d hd => ?_)
  · exact Nat.zero_le _
  · simp (disch := exact eqId (by kernel_rfl)) only [go_sem, ↓reduceIte, Nat.reduceAdd, Nat.reduceMul, Nat.reduceLT, Nat.reduceBEq, Nat.reduceLeDiff, Nat.reduceEqDiff, Int.reduceToNat]
    try exact ⟨rfl, rfl⟩
  · simp (disch := exact eqId (by kernel_rfl)) only [go_sem, ↓reduceIte, Nat.reduceAdd, Nat.reduceMul, Nat.reduceLT, Nat.reduceBEq, Nat.reduceLeDiff, Nat.reduceEqDiff, Int.reduceToNat]
    repeat' (first | (refine And.intro ?_ ?_) | intro _)
    all_goals (try omega)
    all_goals (try exact Nat.le_trans (hL _) (by decide))
    all_goals (try exact lb4 (hL _) (by decide))
    · rename_i hk hb
      have hk : d < List.length r.2.2.2.1 := by omega
      have hr : rsF (List.getD r.2.2.2.1 d (0, false, ())) = [(List.getD r.2.2.2.1 d (0, false, ())).1, 1] := by unfold rsF; rw [hb]; rfl
      refine back_intro (d + 1) ?_ ?_ (sub_shp hN [(10000, some 10000), (1, some 90080)] ?_)
      · exact hk
      · omega
      · simp (disch := exact eqId (by kernel_rfl)) only [go_sem, ↓reduceIte, Nat.reduceAdd, Nat.reduceMul, Nat.reduceLT, Nat.reduceBEq, Nat.reduceLeDiff, Nat.reduceEqDiff, Int.reduceToNat]
        rw [fm_take_succ rsF hk (0, false, ()), hr]
        exact ⟨by first | rfl | (simp only [List.append_assoc, List.cons_append, List.nil_append]), wrap_succ' (by omega)⟩
    · rename_i hk hb
      have hk : d < List.length r.2.2.2.1 := by omega
      have hr : rsF (List.getD r.2.2.2.1 d (0, false, ())) = [(List.getD r.2.2.2.1 d (0, false, ())).1, 0] := by unfold rsF; rw [hb]; rfl
      refine back_intro (d + 1) ?_ ?_ (sub_shp hN [(10000, some 10000), (1, some 90080)] ?_)
      · exact hk
      · omega
      · simp (disch := exact eqId (by kernel_rfl)) only [go_sem, ↓reduceIte, Nat.reduceAdd, Nat.reduceMul, Nat.reduceLT, Nat.reduceBEq, Nat.reduceLeDiff, Nat.reduceEqDiff, Int.reduceToNat]
        rw [fm_take_succ rsF hk (0, false, ()), hr]
        exact ⟨by first | rfl | (simp only [List.append_assoc, List.cons_append, List.nil_append]), wrap_succ' (by omega)⟩
    · rename_i hk
      have hk : d = List.length r.2.2.2.1 := by omega
      have e0 : List.take d r.2.2.2.1 = r.2.2.2.1 := by rw [hk]; exact List.take_length
      refine loop_intro (tb := tb) follows hN (D := Nat) (fun d => shp [(0, .rd I (m : Int)), (5, .own 1), (41, .rd (.list tStamp) (r.2.2.2.2.1)), (42, .rd I (((r.2.2.2.2.1).length : Int) : Int)), (43, .rd I (d : Int))] [(1, .row 3 I (4 :: r.1 :: r.2.1 :: r.2.2.1 :: (r.2.2.2.1.flatMap rsF ++ ((List.length r.2.2.2.2.1 : Int) :: (List.take d r.2.2.2.2.1).flatMap rtF))))]) (fun d => d ≤ List.length r.2.2.2.2.1) (fun d => List.length r.2.2.2.2.1 - d) (0) ?_ (sub_shp hN [(1, some 110080)] ?_) (fun d hd => ?_)
      · exact Nat.zero_le _
      · simp (disch := exact eqId (by kernel_rfl)) only [go_sem, ↓reduceIte, Nat.reduceAdd, Nat.reduceMul, Nat.reduceLT, Nat.reduceBEq, Nat.reduceLeDiff, Nat.reduceEqDiff, Int.reduceToNat]
        rw [e0]
        first | rfl | exact ⟨rfl, rfl⟩
      · simp (disch := exact eqId (by kernel_rfl)) only [go_sem, ↓reduceIte, Nat.reduceAdd, Nat.reduceMul, Nat.reduceLT, Nat.reduceBEq, Nat.reduceLeDiff, Nat.reduceEqDiff, Int.reduceToNat]
        repeat' (first | (refine And.intro ?_ ?_) | intro _ | (refine callQ_intro (impl_StampInts_ok _) ?_; try (simp (disch := exact eqId (by kernel_rfl)) only [go_sem, ↓reduceIte, Nat.reduceAdd, Nat.reduceMul, Nat.reduceLT, Nat.reduceBEq, Nat.reduceLeDiff, Nat.reduceEqDiff, Int.reduceToNat])) | (refine callH_intro (fun hcc => impl_StampInts_ok _) ?_; try (simp (disch := exact eqId (by kernel_rfl)) only [go_sem, ↓reduceIte, Nat.reduceAdd, Nat.reduceMul, Nat.reduceLT, Nat.reduceBEq, Nat.reduceLeDiff, Nat.reduceEqDiff, Int.reduceToNat])))
        all_goals (try omega)
        all_goals (try exact lb1 hR (hM _) (by decide))
        all_goals (try exact lb2 hR (hM _) (by simp) (by decide))
        · rename_i hk
          have hk : d < List.length r.2.2.2.2.1 := by omega
          refine back_intro (d + 1) ?_ ?_ (sub_shp hN [(1, some 150112)] ?_)
          · exact hk
          · omega
          · simp (disch := exact eqId (by kernel_rfl)) only [go_sem, ↓reduceIte, Nat.reduceAdd, Nat.reduceMul, Nat.reduceLT, Nat.reduceBEq, Nat.reduceLeDiff, Nat.reduceEqDiff, Int.reduceToNat]
            rw [fm_take_succ rtF hk (0, 0, 0, 0, 0, ())]
            refine ⟨?_, wrap_succ' (by omega)⟩
            simp only [rtF, List.append_assoc, List.cons_append, List.nil_append]
        · rename_i hk
          have hk : d = List.length r.2.2.2.2.1 := by omega
          refine callQ_intro (impl_DigestOf_ok _ _ (lb3 hR (hM _))) ?_
          simp (disch := exact eqId (by kernel_rfl)) only [go_sem, ↓reduceIte, Nat.reduceAdd, Nat.reduceMul, Nat.reduceLT, Nat.reduceBEq, Nat.reduceLeDiff, Nat.reduceEqDiff, Int.reduceToNat]
          rw [hk, show List.take (List.length r.2.2.2.2.1) r.2.2.2.2.1 = r.2.2.2.2.1 from List.take_length, rdF]
          simp only [List.append_assoc, List.cons_append, List.nil_append]
theorem spec_RenewalDigest_ok (m : Int) (r : tRenewal.den) (hs : Small tRenewal 1048576 r) : FunOK Tryz.prog 133 [⟨I, m⟩, ⟨tRenewal, r⟩] (.rd I (rdF m r)) := by
  have q3 : List.length r.2.2.2.1 ≤ 1048576 := hs.2.2.2.1.1
  have q4 : List.length r.2.2.2.2.1 ≤ 1048576 := hs.2.2.2.2.1.1
  have hL : ∀ k, ((List.take k r.2.2.2.1).flatMap rsF).length ≤ 2097152 := fun k => by rw [rs_len, List.length_take]; omega
  have hM : ∀ k, ((List.take k r.2.2.2.2.1).flatMap rtF).length ≤ 6291456 := fun k => by rw [rt_len, List.length_take]; omega
  have hR : (r.2.2.2.1.flatMap rsF).length ≤ 2097152 := by rw [rs_len]; omega
  refine fun_of (tb := tb) follows Tryz.func133 (by kernel_rfl) Tryz.ntmps133 rfl rfl rfl ?_
  intro cx hN hw
  simp (disch := exact eqId (by kernel_rfl)) only [go_sem, ↓reduceIte, Nat.reduceAdd, Nat.reduceMul, Nat.reduceLT, Nat.reduceBEq, Nat.reduceLeDiff, Nat.reduceEqDiff, Int.reduceToNat]
  refine loop_intro (tb := tb) follows hN (D := Nat) (fun d => shp [(0, .rd I (m : Int)), (3, .bp 10000 0), (5, .own 1), (6, .rd I (d : Int))] [(1, .row 3 I (4 :: r.1 :: r.2.1 :: r.2.2.1 :: (List.take d r.2.2.2.1).flatMap rsF)), (10000, .box 97 [.rd I (r.1), .rd I (r.2.1), .rd I (r.2.2.1), .rd (.list tStep) (r.2.2.2.1), .rd (.list tStamp) (r.2.2.2.2.1)])]) (fun d => d ≤ List.length r.2.2.2.1) (fun d => List.length r.2.2.2.1 - d) (0) ?_ (sub_shp hN [(10000, some 10000), (1, some 20096)] ?_) (fun d hd => ?_)
  · exact Nat.zero_le _
  · simp (disch := exact eqId (by kernel_rfl)) only [go_sem, ↓reduceIte, Nat.reduceAdd, Nat.reduceMul, Nat.reduceLT, Nat.reduceBEq, Nat.reduceLeDiff, Nat.reduceEqDiff, Int.reduceToNat]
    try exact ⟨rfl, rfl⟩
  · simp (disch := exact eqId (by kernel_rfl)) only [go_sem, ↓reduceIte, Nat.reduceAdd, Nat.reduceMul, Nat.reduceLT, Nat.reduceBEq, Nat.reduceLeDiff, Nat.reduceEqDiff, Int.reduceToNat]
    repeat' (first | (refine And.intro ?_ ?_) | intro _)
    all_goals (try omega)
    all_goals (try exact Nat.le_trans (hL _) (by decide))
    all_goals (try exact lb4 (hL _) (by decide))
    · rename_i hk hb
      have hk : d < List.length r.2.2.2.1 := by omega
      have hr : rsF (List.getD r.2.2.2.1 d (0, false, ())) = [(List.getD r.2.2.2.1 d (0, false, ())).1, 1] := by unfold rsF; rw [hb]; rfl
      refine back_intro (d + 1) ?_ ?_ (sub_shp hN [(10000, some 10000), (1, some 80032)] ?_)
      · exact hk
      · omega
      · simp (disch := exact eqId (by kernel_rfl)) only [go_sem, ↓reduceIte, Nat.reduceAdd, Nat.reduceMul, Nat.reduceLT, Nat.reduceBEq, Nat.reduceLeDiff, Nat.reduceEqDiff, Int.reduceToNat]
        rw [fm_take_succ rsF hk (0, false, ()), hr]
        exact ⟨by first | rfl | (simp only [List.append_assoc, List.cons_append, List.nil_append]), wrap_succ' (by omega)⟩
    · rename_i hk hb
      have hk : d < List.length r.2.2.2.1 := by omega
      have hr : rsF (List.getD r.2.2.2.1 d (0, false, ())) = [(List.getD r.2.2.2.1 d (0, false, ())).1, 0] := by unfold rsF; rw [hb]; rfl
      refine back_intro (d + 1) ?_ ?_ (sub_shp hN [(10000, some 10000), (1, some 90032)] ?_)
      · exact hk
      · omega
      · simp (disch := exact eqId (by kernel_rfl)) only [go_sem, ↓reduceIte, Nat.reduceAdd, Nat.reduceMul, Nat.reduceLT, Nat.reduceBEq, Nat.reduceLeDiff, Nat.reduceEqDiff, Int.reduceToNat]
        rw [fm_take_succ rsF hk (0, false, ()), hr]
        exact ⟨by first | rfl | (simp only [List.append_assoc, List.cons_append, List.nil_append]), wrap_succ' (by omega)⟩
    · rename_i hk
      have hk : d = List.length r.2.2.2.1 := by omega
      have e0 : List.take d r.2.2.2.1 = r.2.2.2.1 := by rw [hk]; exact List.take_length
      refine loop_intro (tb := tb) follows hN (D := Nat) (fun d => shp [(0, .rd I (m : Int)), (3, .bp 10000 0), (5, .own 1), (7, .rd I (d : Int))] [(1, .row 3 I (4 :: r.1 :: r.2.1 :: r.2.2.1 :: (r.2.2.2.1.flatMap rsF ++ ((List.length r.2.2.2.2.1 : Int) :: (List.take d r.2.2.2.2.1).flatMap rtF)))), (10000, .box 97 [.rd I (r.1), .rd I (r.2.1), .rd I (r.2.2.1), .rd (.list tStep) (r.2.2.2.1), .rd (.list tStamp) (r.2.2.2.2.1)])]) (fun d => d ≤ List.length r.2.2.2.2.1) (fun d => List.length r.2.2.2.2.1 - d) (0) ?_ (sub_shp hN [(10000, some 10000), (1, some 100080)] ?_) (fun d hd => ?_)
      · exact Nat.zero_le _
      · simp (disch := exact eqId (by kernel_rfl)) only [go_sem, ↓reduceIte, Nat.reduceAdd, Nat.reduceMul, Nat.reduceLT, Nat.reduceBEq, Nat.reduceLeDiff, Nat.reduceEqDiff, Int.reduceToNat]
        rw [e0]
        first | rfl | exact ⟨rfl, rfl⟩
      · simp (disch := exact eqId (by kernel_rfl)) only [go_sem, ↓reduceIte, Nat.reduceAdd, Nat.reduceMul, Nat.reduceLT, Nat.reduceBEq, Nat.reduceLeDiff, Nat.reduceEqDiff, Int.reduceToNat]
        repeat' (first | (refine And.intro ?_ ?_) | intro _ | (refine callQ_intro (spec_StampInts_ok _) ?_; try (simp (disch := exact eqId (by kernel_rfl)) only [go_sem, ↓reduceIte, Nat.reduceAdd, Nat.reduceMul, Nat.reduceLT, Nat.reduceBEq, Nat.reduceLeDiff, Nat.reduceEqDiff, Int.reduceToNat])) | (refine callH_intro (fun hcc => spec_StampInts_ok _) ?_; try (simp (disch := exact eqId (by kernel_rfl)) only [go_sem, ↓reduceIte, Nat.reduceAdd, Nat.reduceMul, Nat.reduceLT, Nat.reduceBEq, Nat.reduceLeDiff, Nat.reduceEqDiff, Int.reduceToNat])))
        all_goals (try omega)
        all_goals (try exact lb1 hR (hM _) (by decide))
        all_goals (try exact lb2 hR (hM _) (by simp) (by decide))
        · rename_i hk
          have hk : d < List.length r.2.2.2.2.1 := by omega
          refine back_intro (d + 1) ?_ ?_ (sub_shp hN [(10000, some 10000), (1, some 140240)] ?_)
          · exact hk
          · omega
          · simp (disch := exact eqId (by kernel_rfl)) only [go_sem, ↓reduceIte, Nat.reduceAdd, Nat.reduceMul, Nat.reduceLT, Nat.reduceBEq, Nat.reduceLeDiff, Nat.reduceEqDiff, Int.reduceToNat]
            rw [fm_take_succ rtF hk (0, 0, 0, 0, 0, ())]
            refine ⟨?_, wrap_succ' (by omega)⟩
            simp only [rtF, List.append_assoc, List.cons_append, List.nil_append]
        · rename_i hk
          have hk : d = List.length r.2.2.2.2.1 := by omega
          refine callQ_intro (spec_DigestOf_ok _ _ (lb3 hR (hM _))) ?_
          simp (disch := exact eqId (by kernel_rfl)) only [go_sem, ↓reduceIte, Nat.reduceAdd, Nat.reduceMul, Nat.reduceLT, Nat.reduceBEq, Nat.reduceLeDiff, Nat.reduceEqDiff, Int.reduceToNat]
          rw [hk, show List.take (List.length r.2.2.2.2.1) r.2.2.2.2.1 = r.2.2.2.2.1 from List.take_length, rdF]
          simp only [List.append_assoc, List.cons_append, List.nil_append]
end Go.Proofs.YtkneckknjmahdaaGreat
