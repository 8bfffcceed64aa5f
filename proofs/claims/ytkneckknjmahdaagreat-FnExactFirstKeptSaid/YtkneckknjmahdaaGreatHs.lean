/- What the laws' own helpers answer: sizes. It proves nothing of a statement by itself. -/
import Derived.Test.YtkneckknjmahdaaGreatG
set_option linter.unusedSimpArgs false
set_option linter.unusedVariables false
set_option maxRecDepth 100000
namespace Go.Proofs.YtkneckknjmahdaaGreat
open Go.AL
theorem szIntS_ok (l : List (I : Ty).den) (n : Int) (h0 : 0 ≤ n) (h1 : n ≤ 1048576) : FunOK Tryz.prog 51 [⟨(.list I), l⟩, ⟨I, n⟩] (.rd I (szD (.list I) l n)) := by
  refine fun_of (tb := tb) follows Tryz.func51 (by kernel_rfl) Tryz.ntmps51 rfl rfl rfl ?_
  intro cx hN hw
  have hl : l.length ≤ maxLen := hw.1.1
  have hm : maxLen = 9223372036854775807 := rfl
  have e : IntKind.i64.wrap (n - (l.length : Int)) = n - l.length := wrap_i64 (by omega) (by omega)
  simp (disch := exact eqId (by kernel_rfl)) only [go_sem, ↓reduceIte, Nat.reduceAdd, Nat.reduceMul, Nat.reduceLT, Nat.reduceBEq, Nat.reduceLeDiff, Nat.reduceEqDiff, Int.reduceToNat]
  rw [e, szD_flat I rfl l n]
  repeat' (first | (refine And.intro ?_ ?_) | intro _)
  · rw [if_pos (by omega)]
  · rw [if_neg (by omega)]
theorem szStampS_ok (l : List (tStamp : Ty).den) (n : Int) (h0 : 0 ≤ n) (h1 : n ≤ 1048576) : FunOK Tryz.prog 89 [⟨(.list tStamp), l⟩, ⟨I, n⟩] (.rd I (szD (.list tStamp) l n)) := by
  refine fun_of (tb := tb) follows Tryz.func89 (by kernel_rfl) Tryz.ntmps89 rfl rfl rfl ?_
  intro cx hN hw
  have hl : l.length ≤ maxLen := hw.1.1
  have hm : maxLen = 9223372036854775807 := rfl
  have e : IntKind.i64.wrap (n - (l.length : Int)) = n - l.length := wrap_i64 (by omega) (by omega)
  simp (disch := exact eqId (by kernel_rfl)) only [go_sem, ↓reduceIte, Nat.reduceAdd, Nat.reduceMul, Nat.reduceLT, Nat.reduceBEq, Nat.reduceLeDiff, Nat.reduceEqDiff, Int.reduceToNat]
  rw [e, szD_flat tStamp rfl l n]
  repeat' (first | (refine And.intro ?_ ?_) | intro _)
  · rw [if_pos (by omega)]
  · rw [if_neg (by omega)]
theorem szKeyS_ok (l : List (tKey : Ty).den) (n : Int) (h0 : 0 ≤ n) (h1 : n ≤ 1048576) : FunOK Tryz.prog 36 [⟨(.list tKey), l⟩, ⟨I, n⟩] (.rd I (szD (.list tKey) l n)) := by
  refine fun_of (tb := tb) follows Tryz.func36 (by kernel_rfl) Tryz.ntmps36 rfl rfl rfl ?_
  intro cx hN hw
  have hl : l.length ≤ maxLen := hw.1.1
  have hm : maxLen = 9223372036854775807 := rfl
  have e : IntKind.i64.wrap (n - (l.length : Int)) = n - l.length := wrap_i64 (by omega) (by omega)
  simp (disch := exact eqId (by kernel_rfl)) only [go_sem, ↓reduceIte, Nat.reduceAdd, Nat.reduceMul, Nat.reduceLT, Nat.reduceBEq, Nat.reduceLeDiff, Nat.reduceEqDiff, Int.reduceToNat]
  rw [e, szD_flat tKey rfl l n]
  repeat' (first | (refine And.intro ?_ ?_) | intro _)
  · rw [if_pos (by omega)]
  · rw [if_neg (by omega)]
theorem szAuthorityS_ok (l : List (tAuthority : Ty).den) (n : Int) (h0 : 0 ≤ n) (h1 : n ≤ 1048576) : FunOK Tryz.prog 37 [⟨(.list tAuthority), l⟩, ⟨I, n⟩] (.rd I (szD (.list tAuthority) l n)) := by
  refine fun_of (tb := tb) follows Tryz.func37 (by kernel_rfl) Tryz.ntmps37 rfl rfl rfl ?_
  intro cx hN hw
  have hl : l.length ≤ maxLen := hw.1.1
  have hm : maxLen = 9223372036854775807 := rfl
  have e : IntKind.i64.wrap (n - (l.length : Int)) = n - l.length := wrap_i64 (by omega) (by omega)
  simp (disch := exact eqId (by kernel_rfl)) only [go_sem, ↓reduceIte, Nat.reduceAdd, Nat.reduceMul, Nat.reduceLT, Nat.reduceBEq, Nat.reduceLeDiff, Nat.reduceEqDiff, Int.reduceToNat]
  rw [e, szD_flat tAuthority rfl l n]
  repeat' (first | (refine And.intro ?_ ?_) | intro _)
  · rw [if_pos (by omega)]
  · rw [if_neg (by omega)]
theorem szMethodS_ok (l : List (tMethod : Ty).den) (n : Int) (h0 : 0 ≤ n) (h1 : n ≤ 1048576) : FunOK Tryz.prog 38 [⟨(.list tMethod), l⟩, ⟨I, n⟩] (.rd I (szD (.list tMethod) l n)) := by
  refine fun_of (tb := tb) follows Tryz.func38 (by kernel_rfl) Tryz.ntmps38 rfl rfl rfl ?_
  intro cx hN hw
  have hl : l.length ≤ maxLen := hw.1.1
  have hm : maxLen = 9223372036854775807 := rfl
  have e : IntKind.i64.wrap (n - (l.length : Int)) = n - l.length := wrap_i64 (by omega) (by omega)
  simp (disch := exact eqId (by kernel_rfl)) only [go_sem, ↓reduceIte, Nat.reduceAdd, Nat.reduceMul, Nat.reduceLT, Nat.reduceBEq, Nat.reduceLeDiff, Nat.reduceEqDiff, Int.reduceToNat]
  rw [e, szD_flat tMethod rfl l n]
  repeat' (first | (refine And.intro ?_ ?_) | intro _)
  · rw [if_pos (by omega)]
  · rw [if_neg (by omega)]
theorem szStepS_ok (l : List (tStep : Ty).den) (n : Int) (h0 : 0 ≤ n) (h1 : n ≤ 1048576) : FunOK Tryz.prog 111 [⟨(.list tStep), l⟩, ⟨I, n⟩] (.rd I (szD (.list tStep) l n)) := by
  refine fun_of (tb := tb) follows Tryz.func111 (by kernel_rfl) Tryz.ntmps111 rfl rfl rfl ?_
  intro cx hN hw
  have hl : l.length ≤ maxLen := hw.1.1
  have hm : maxLen = 9223372036854775807 := rfl
  have e : IntKind.i64.wrap (n - (l.length : Int)) = n - l.length := wrap_i64 (by omega) (by omega)
  simp (disch := exact eqId (by kernel_rfl)) only [go_sem, ↓reduceIte, Nat.reduceAdd, Nat.reduceMul, Nat.reduceLT, Nat.reduceBEq, Nat.reduceLeDiff, Nat.reduceEqDiff, Int.reduceToNat]
  rw [e, szD_flat tStep rfl l n]
  repeat' (first | (refine And.intro ?_ ?_) | intro _)
  · rw [if_pos (by omega)]
  · rw [if_neg (by omega)]
theorem szStampSS_ok (l : List ((.list tStamp) : Ty).den) (n : Int) (h0 : 0 ≤ n) (h1 : n ≤ 1048576) : FunOK Tryz.prog 55 [⟨(.list (.list tStamp)), l⟩, ⟨I, n⟩] (.rd I (szD (.list (.list tStamp)) l n)) := by
  refine fun_of (tb := tb) follows Tryz.func55 (by kernel_rfl) Tryz.ntmps55 rfl rfl rfl ?_
  intro cx hN hw
  have hl : l.length ≤ maxLen := hw.1.1
  have hm : maxLen = 9223372036854775807 := rfl
  have e : IntKind.i64.wrap (n - (l.length : Int)) = n - l.length := wrap_i64 (by omega) (by omega)
  simp (disch := exact eqId (by kernel_rfl)) only [go_sem, ↓reduceIte, Nat.reduceAdd, Nat.reduceMul, Nat.reduceLT, Nat.reduceBEq, Nat.reduceLeDiff, Nat.reduceEqDiff, Int.reduceToNat]
  rw [e]
  refine ⟨fun hn => ?_, fun hn => ?_⟩
  · simp only [szD]; rw [if_pos hn]
  · refine loop_intro (tb := tb) follows hN (D := Nat × Int) (fun d => shp [(0, .rd (.list (.list tStamp)) (l)), (1, .rd I d.2), (5, .rd I (d.1 : Int))] []) (fun d => d.1 ≤ l.length ∧ 0 ≤ d.2 ∧ d.2 ≤ n ∧ szD (.list (.list tStamp)) l n = szLoop (szD (.list tStamp)) (l.drop d.1) d.2) (fun d => l.length - d.1) (0, n - l.length) ?_ (sub_shp hN [] ?_) (fun d hd => ?_)
    · refine ⟨Nat.zero_le _, by omega, by omega, ?_⟩
      simp only [szD]; rw [if_neg hn]; rfl
    · simp (disch := exact eqId (by kernel_rfl)) only [go_sem, ↓reduceIte, Nat.reduceAdd, Nat.reduceMul, Nat.reduceLT, Nat.reduceBEq, Nat.reduceLeDiff, Nat.reduceEqDiff, Int.reduceToNat]
      first | trivial | (exact ⟨rfl, rfl⟩) | rfl
    · obtain ⟨h2, h3, h4, h5⟩ := hd
      simp (disch := exact eqId (by kernel_rfl)) only [go_sem, ↓reduceIte, Nat.reduceAdd, Nat.reduceMul, Nat.reduceLT, Nat.reduceBEq, Nat.reduceLeDiff, Nat.reduceEqDiff, Int.reduceToNat]
      repeat' (first | (refine And.intro ?_ ?_) | intro _ | (refine callQ_intro (szStampS_ok _ _ (by omega) (by omega)) ?_; try (simp (disch := exact eqId (by kernel_rfl)) only [go_sem, ↓reduceIte, Nat.reduceAdd, Nat.reduceMul, Nat.reduceLT, Nat.reduceBEq, Nat.reduceLeDiff, Nat.reduceEqDiff, Int.reduceToNat])) | (refine callH_intro (fun hcc => szStampS_ok _ _ (by omega) (by omega)) ?_; try (simp (disch := exact eqId (by kernel_rfl)) only [go_sem, ↓reduceIte, Nat.reduceAdd, Nat.reduceMul, Nat.reduceLT, Nat.reduceBEq, Nat.reduceLeDiff, Nat.reduceEqDiff, Int.reduceToNat])))
      all_goals (try omega)
      · rename_i hk hq
        have hk : d.1 < l.length := by omega
        rw [drop_getD hk ([] : ((.list tStamp) : Ty).den), szLoop] at h5
        rw [if_pos hq] at h5
        exact h5.symm
      · rename_i hk hq
        have hk : d.1 < l.length := by omega
        rw [drop_getD hk ([] : ((.list tStamp) : Ty).den), szLoop] at h5
        rw [if_neg hq] at h5
        have hb := (szD_le (.list tStamp) (l.getD d.1 ([] : ((.list tStamp) : Ty).den)) d.2 h3).1
        refine back_intro (d.1 + 1, szD (.list tStamp) (l.getD d.1 ([] : ((.list tStamp) : Ty).den)) d.2) ?_ ?_ (sub_shp hN [] ?_)
        · exact ⟨hk, by simp only; omega, by simp only; omega, h5⟩
        · simp only; omega
        · simp (disch := exact eqId (by kernel_rfl)) only [go_sem, ↓reduceIte, Nat.reduceAdd, Nat.reduceMul, Nat.reduceLT, Nat.reduceBEq, Nat.reduceLeDiff, Nat.reduceEqDiff, Int.reduceToNat]
          first | exact wrap_succ hk hl | exact ⟨rfl, wrap_succ hk hl⟩ | exact ⟨wrap_succ hk hl, rfl⟩
      · rw [drop_end (by omega)] at h5
        exact h5.symm
theorem szPiece_ok (a : tPiece.den) (n : Int) (h0 : 0 ≤ n) (h1 : n ≤ 1048576) : FunOK Tryz.prog 20 [⟨tPiece, a⟩, ⟨I, n⟩] (.rd I (szD tPiece a n)) := by
  obtain ⟨a0, a1, a2, _⟩ := a
  simp only [szD_cons, szD_int, szD_bool, szD_nil]
  rw [if_neg (show ¬ n < 0 by omega)]
  refine fun_of (tb := tb) follows Tryz.func20 (by kernel_rfl) Tryz.ntmps20 rfl rfl rfl ?_
  intro cx hN hw
  simp (disch := exact eqId (by kernel_rfl)) only [go_sem, ↓reduceIte, Nat.reduceAdd, Nat.reduceMul, Nat.reduceLT, Nat.reduceBEq, Nat.reduceLeDiff, Nat.reduceEqDiff, Int.reduceToNat]
  refine callQ_intro (szIntS_ok a1 _ (by omega) (by omega)) ?_
  have b1 := (szD_le (.list I) a1 (n) (by omega)).1
  simp (disch := exact eqId (by kernel_rfl)) only [go_sem, ↓reduceIte, Nat.reduceAdd, Nat.reduceMul, Nat.reduceLT, Nat.reduceBEq, Nat.reduceLeDiff, Nat.reduceEqDiff, Int.reduceToNat]
  refine ⟨fun h => ?_, fun h1 => ?_⟩
  · repeat' split
    all_goals first | rfl | omega
  repeat' split
  all_goals first | rfl | omega
theorem szPieceS_ok (l : List (tPiece : Ty).den) (n : Int) (h0 : 0 ≤ n) (h1 : n ≤ 1048576) : FunOK Tryz.prog 26 [⟨(.list tPiece), l⟩, ⟨I, n⟩] (.rd I (szD (.list tPiece) l n)) := by
  refine fun_of (tb := tb) follows Tryz.func26 (by kernel_rfl) Tryz.ntmps26 rfl rfl rfl ?_
  intro cx hN hw
  have hl : l.length ≤ maxLen := hw.1.1
  have hm : maxLen = 9223372036854775807 := rfl
  have e : IntKind.i64.wrap (n - (l.length : Int)) = n - l.length := wrap_i64 (by omega) (by omega)
  simp (disch := exact eqId (by kernel_rfl)) only [go_sem, ↓reduceIte, Nat.reduceAdd, Nat.reduceMul, Nat.reduceLT, Nat.reduceBEq, Nat.reduceLeDiff, Nat.reduceEqDiff, Int.reduceToNat]
  rw [e]
  refine ⟨fun hn => ?_, fun hn => ?_⟩
  · simp only [szD]; rw [if_pos hn]
  · refine loop_intro (tb := tb) follows hN (D := Nat × Int) (fun d => shp [(0, .rd (.list tPiece) (l)), (1, .rd I d.2), (5, .rd I (d.1 : Int))] []) (fun d => d.1 ≤ l.length ∧ 0 ≤ d.2 ∧ d.2 ≤ n ∧ szD (.list tPiece) l n = szLoop (szD tPiece) (l.drop d.1) d.2) (fun d => l.length - d.1) (0, n - l.length) ?_ (sub_shp hN [] ?_) (fun d hd => ?_)
    · refine ⟨Nat.zero_le _, by omega, by omega, ?_⟩
      simp only [szD]; rw [if_neg hn]; rfl
    · simp (disch := exact eqId (by kernel_rfl)) only [go_sem, ↓reduceIte, Nat.reduceAdd, Nat.reduceMul, Nat.reduceLT, Nat.reduceBEq, Nat.reduceLeDiff, Nat.reduceEqDiff, Int.reduceToNat]
      first | trivial | (exact ⟨rfl, rfl⟩) | rfl
    · obtain ⟨h2, h3, h4, h5⟩ := hd
      simp (disch := exact eqId (by kernel_rfl)) only [go_sem, ↓reduceIte, Nat.reduceAdd, Nat.reduceMul, Nat.reduceLT, Nat.reduceBEq, Nat.reduceLeDiff, Nat.reduceEqDiff, Int.reduceToNat]
      repeat' (first | (refine And.intro ?_ ?_) | intro _ | (refine callQ_intro (szPiece_ok _ _ (by omega) (by omega)) ?_; try (simp (disch := exact eqId (by kernel_rfl)) only [go_sem, ↓reduceIte, Nat.reduceAdd, Nat.reduceMul, Nat.reduceLT, Nat.reduceBEq, Nat.reduceLeDiff, Nat.reduceEqDiff, Int.reduceToNat])) | (refine callH_intro (fun hcc => szPiece_ok _ _ (by omega) (by omega)) ?_; try (simp (disch := exact eqId (by kernel_rfl)) only [go_sem, ↓reduceIte, Nat.reduceAdd, Nat.reduceMul, Nat.reduceLT, Nat.reduceBEq, Nat.reduceLeDiff, Nat.reduceEqDiff, Int.reduceToNat])))
      all_goals (try omega)
      · rename_i hk hq
        have hk : d.1 < l.length := by omega
        rw [drop_getD hk ((0, [], 0, ()) : (tPiece : Ty).den), szLoop] at h5
        rw [if_pos hq] at h5
        exact h5.symm
      · rename_i hk hq
        have hk : d.1 < l.length := by omega
        rw [drop_getD hk ((0, [], 0, ()) : (tPiece : Ty).den), szLoop] at h5
        rw [if_neg hq] at h5
        have hb := (szD_le tPiece (l.getD d.1 ((0, [], 0, ()) : (tPiece : Ty).den)) d.2 h3).1
        refine back_intro (d.1 + 1, szD tPiece (l.getD d.1 ((0, [], 0, ()) : (tPiece : Ty).den)) d.2) ?_ ?_ (sub_shp hN [] ?_)
        · exact ⟨hk, by simp only; omega, by simp only; omega, h5⟩
        · simp only; omega
        · simp (disch := exact eqId (by kernel_rfl)) only [go_sem, ↓reduceIte, Nat.reduceAdd, Nat.reduceMul, Nat.reduceLT, Nat.reduceBEq, Nat.reduceLeDiff, Nat.reduceEqDiff, Int.reduceToNat]
          first | exact wrap_succ hk hl | exact ⟨rfl, wrap_succ hk hl⟩ | exact ⟨wrap_succ hk hl, rfl⟩
      · rw [drop_end (by omega)] at h5
        exact h5.symm
theorem szRenewal_ok (a : tRenewal.den) (n : Int) (h0 : 0 ≤ n) (h1 : n ≤ 1048576) : FunOK Tryz.prog 75 [⟨tRenewal, a⟩, ⟨I, n⟩] (.rd I (szD tRenewal a n)) := by
  obtain ⟨a0, a1, a2, a3, a4, _⟩ := a
  simp only [szD_cons, szD_int, szD_bool, szD_nil]
  rw [if_neg (show ¬ n < 0 by omega)]
  refine fun_of (tb := tb) follows Tryz.func75 (by kernel_rfl) Tryz.ntmps75 rfl rfl rfl ?_
  intro cx hN hw
  simp (disch := exact eqId (by kernel_rfl)) only [go_sem, ↓reduceIte, Nat.reduceAdd, Nat.reduceMul, Nat.reduceLT, Nat.reduceBEq, Nat.reduceLeDiff, Nat.reduceEqDiff, Int.reduceToNat]
  refine callQ_intro (szStepS_ok a3 _ (by omega) (by omega)) ?_
  have b3 := (szD_le (.list tStep) a3 (n) (by omega)).1
  simp (disch := exact eqId (by kernel_rfl)) only [go_sem, ↓reduceIte, Nat.reduceAdd, Nat.reduceMul, Nat.reduceLT, Nat.reduceBEq, Nat.reduceLeDiff, Nat.reduceEqDiff, Int.reduceToNat]
  refine ⟨fun h => ?_, fun h3 => ?_⟩
  · repeat' split
    all_goals first | rfl | omega
  refine callQ_intro (szStampS_ok a4 _ (by omega) (by omega)) ?_
  have b4 := (szD_le (.list tStamp) a4 (szD (.list tStep) a3 (n)) (by omega)).1
  simp (disch := exact eqId (by kernel_rfl)) only [go_sem, ↓reduceIte, Nat.reduceAdd, Nat.reduceMul, Nat.reduceLT, Nat.reduceBEq, Nat.reduceLeDiff, Nat.reduceEqDiff, Int.reduceToNat]
  refine ⟨fun h => ?_, fun h4 => ?_⟩
  · repeat' split
    all_goals first | rfl | omega
  repeat' split
  all_goals first | rfl | omega
theorem szRenewalS_ok (l : List (tRenewal : Ty).den) (n : Int) (h0 : 0 ≤ n) (h1 : n ≤ 1048576) : FunOK Tryz.prog 39 [⟨(.list tRenewal), l⟩, ⟨I, n⟩] (.rd I (szD (.list tRenewal) l n)) := by
  refine fun_of (tb := tb) follows Tryz.func39 (by kernel_rfl) Tryz.ntmps39 rfl rfl rfl ?_
  intro cx hN hw
  have hl : l.length ≤ maxLen := hw.1.1
  have hm : maxLen = 9223372036854775807 := rfl
  have e : IntKind.i64.wrap (n - (l.length : Int)) = n - l.length := wrap_i64 (by omega) (by omega)
  simp (disch := exact eqId (by kernel_rfl)) only [go_sem, ↓reduceIte, Nat.reduceAdd, Nat.reduceMul, Nat.reduceLT, Nat.reduceBEq, Nat.reduceLeDiff, Nat.reduceEqDiff, Int.reduceToNat]
  rw [e]
  refine ⟨fun hn => ?_, fun hn => ?_⟩
  · simp only [szD]; rw [if_pos hn]
  · refine loop_intro (tb := tb) follows hN (D := Nat × Int) (fun d => shp [(0, .rd (.list tRenewal) (l)), (1, .rd I d.2), (5, .rd I (d.1 : Int))] []) (fun d => d.1 ≤ l.length ∧ 0 ≤ d.2 ∧ d.2 ≤ n ∧ szD (.list tRenewal) l n = szLoop (szD tRenewal) (l.drop d.1) d.2) (fun d => l.length - d.1) (0, n - l.length) ?_ (sub_shp hN [] ?_) (fun d hd => ?_)
    · refine ⟨Nat.zero_le _, by omega, by omega, ?_⟩
      simp only [szD]; rw [if_neg hn]; rfl
    · simp (disch := exact eqId (by kernel_rfl)) only [go_sem, ↓reduceIte, Nat.reduceAdd, Nat.reduceMul, Nat.reduceLT, Nat.reduceBEq, Nat.reduceLeDiff, Nat.reduceEqDiff, Int.reduceToNat]
      first | trivial | (exact ⟨rfl, rfl⟩) | rfl
    · obtain ⟨h2, h3, h4, h5⟩ := hd
      simp (disch := exact eqId (by kernel_rfl)) only [go_sem, ↓reduceIte, Nat.reduceAdd, Nat.reduceMul, Nat.reduceLT, Nat.reduceBEq, Nat.reduceLeDiff, Nat.reduceEqDiff, Int.reduceToNat]
      repeat' (first | (refine And.intro ?_ ?_) | intro _ | (refine callQ_intro (szRenewal_ok _ _ (by omega) (by omega)) ?_; try (simp (disch := exact eqId (by kernel_rfl)) only [go_sem, ↓reduceIte, Nat.reduceAdd, Nat.reduceMul, Nat.reduceLT, Nat.reduceBEq, Nat.reduceLeDiff, Nat.reduceEqDiff, Int.reduceToNat])) | (refine callH_intro (fun hcc => szRenewal_ok _ _ (by omega) (by omega)) ?_; try (simp (disch := exact eqId (by kernel_rfl)) only [go_sem, ↓reduceIte, Nat.reduceAdd, Nat.reduceMul, Nat.reduceLT, Nat.reduceBEq, Nat.reduceLeDiff, Nat.reduceEqDiff, Int.reduceToNat])))
      all_goals (try omega)
      · rename_i hk hq
        have hk : d.1 < l.length := by omega
        rw [drop_getD hk ((0, 0, 0, [], [], ()) : (tRenewal : Ty).den), szLoop] at h5
        rw [if_pos hq] at h5
        exact h5.symm
      · rename_i hk hq
        have hk : d.1 < l.length := by omega
        rw [drop_getD hk ((0, 0, 0, [], [], ()) : (tRenewal : Ty).den), szLoop] at h5
        rw [if_neg hq] at h5
        have hb := (szD_le tRenewal (l.getD d.1 ((0, 0, 0, [], [], ()) : (tRenewal : Ty).den)) d.2 h3).1
        refine back_intro (d.1 + 1, szD tRenewal (l.getD d.1 ((0, 0, 0, [], [], ()) : (tRenewal : Ty).den)) d.2) ?_ ?_ (sub_shp hN [] ?_)
        · exact ⟨hk, by simp only; omega, by simp only; omega, h5⟩
        · simp only; omega
        · simp (disch := exact eqId (by kernel_rfl)) only [go_sem, ↓reduceIte, Nat.reduceAdd, Nat.reduceMul, Nat.reduceLT, Nat.reduceBEq, Nat.reduceLeDiff, Nat.reduceEqDiff, Int.reduceToNat]
          first | exact wrap_succ hk hl | exact ⟨rfl, wrap_succ hk hl⟩ | exact ⟨wrap_succ hk hl, rfl⟩
      · rw [drop_end (by omega)] at h5
        exact h5.symm
theorem szStrand_ok (a : tStrand.den) (n : Int) (h0 : 0 ≤ n) (h1 : n ≤ 1048576) : FunOK Tryz.prog 9 [⟨tStrand, a⟩, ⟨I, n⟩] (.rd I (szD tStrand a n)) := by
  obtain ⟨a0, a1, _⟩ := a
  simp only [szD_cons, szD_int, szD_bool, szD_nil]
  refine fun_of (tb := tb) follows Tryz.func9 (by kernel_rfl) Tryz.ntmps9 rfl rfl rfl ?_
  intro cx hN hw
  simp (disch := exact eqId (by kernel_rfl)) only [go_sem, ↓reduceIte, Nat.reduceAdd, Nat.reduceMul, Nat.reduceLT, Nat.reduceBEq, Nat.reduceLeDiff, Nat.reduceEqDiff, Int.reduceToNat]
  refine callQ_intro (szPieceS_ok a0 _ (by omega) (by omega)) ?_
  have b0 := (szD_le (.list tPiece) a0 (n) (by omega)).1
  simp (disch := exact eqId (by kernel_rfl)) only [go_sem, ↓reduceIte, Nat.reduceAdd, Nat.reduceMul, Nat.reduceLT, Nat.reduceBEq, Nat.reduceLeDiff, Nat.reduceEqDiff, Int.reduceToNat]
  refine ⟨fun h => ?_, fun h0 => ?_⟩
  · repeat' split
    all_goals first | rfl | omega
  refine callQ_intro (szRenewalS_ok a1 _ (by omega) (by omega)) ?_
  have b1 := (szD_le (.list tRenewal) a1 (szD (.list tPiece) a0 (n)) (by omega)).1
  simp (disch := exact eqId (by kernel_rfl)) only [go_sem, ↓reduceIte, Nat.reduceAdd, Nat.reduceMul, Nat.reduceLT, Nat.reduceBEq, Nat.reduceLeDiff, Nat.reduceEqDiff, Int.reduceToNat]
  refine ⟨fun h => ?_, fun h1 => ?_⟩
  · repeat' split
    all_goals first | rfl | omega
  repeat' split
  all_goals first | rfl | omega
theorem szStrandS_ok (l : List (tStrand : Ty).den) (n : Int) (h0 : 0 ≤ n) (h1 : n ≤ 1048576) : FunOK Tryz.prog 54 [⟨(.list tStrand), l⟩, ⟨I, n⟩] (.rd I (szD (.list tStrand) l n)) := by
  refine fun_of (tb := tb) follows Tryz.func54 (by kernel_rfl) Tryz.ntmps54 rfl rfl rfl ?_
  intro cx hN hw
  have hl : l.length ≤ maxLen := hw.1.1
  have hm : maxLen = 9223372036854775807 := rfl
  have e : IntKind.i64.wrap (n - (l.length : Int)) = n - l.length := wrap_i64 (by omega) (by omega)
  simp (disch := exact eqId (by kernel_rfl)) only [go_sem, ↓reduceIte, Nat.reduceAdd, Nat.reduceMul, Nat.reduceLT, Nat.reduceBEq, Nat.reduceLeDiff, Nat.reduceEqDiff, Int.reduceToNat]
  rw [e]
  refine ⟨fun hn => ?_, fun hn => ?_⟩
  · simp only [szD]; rw [if_pos hn]
  · refine loop_intro (tb := tb) follows hN (D := Nat × Int) (fun d => shp [(0, .rd (.list tStrand) (l)), (1, .rd I d.2), (5, .rd I (d.1 : Int))] []) (fun d => d.1 ≤ l.length ∧ 0 ≤ d.2 ∧ d.2 ≤ n ∧ szD (.list tStrand) l n = szLoop (szD tStrand) (l.drop d.1) d.2) (fun d => l.length - d.1) (0, n - l.length) ?_ (sub_shp hN [] ?_) (fun d hd => ?_)
    · refine ⟨Nat.zero_le _, by omega, by omega, ?_⟩
      simp only [szD]; rw [if_neg hn]; rfl
    · simp (disch := exact eqId (by kernel_rfl)) only [go_sem, ↓reduceIte, Nat.reduceAdd, Nat.reduceMul, Nat.reduceLT, Nat.reduceBEq, Nat.reduceLeDiff, Nat.reduceEqDiff, Int.reduceToNat]
      first | trivial | (exact ⟨rfl, rfl⟩) | rfl
    · obtain ⟨h2, h3, h4, h5⟩ := hd
      simp (disch := exact eqId (by kernel_rfl)) only [go_sem, ↓reduceIte, Nat.reduceAdd, Nat.reduceMul, Nat.reduceLT, Nat.reduceBEq, Nat.reduceLeDiff, Nat.reduceEqDiff, Int.reduceToNat]
      repeat' (first | (refine And.intro ?_ ?_) | intro _ | (refine callQ_intro (szStrand_ok _ _ (by omega) (by omega)) ?_; try (simp (disch := exact eqId (by kernel_rfl)) only [go_sem, ↓reduceIte, Nat.reduceAdd, Nat.reduceMul, Nat.reduceLT, Nat.reduceBEq, Nat.reduceLeDiff, Nat.reduceEqDiff, Int.reduceToNat])) | (refine callH_intro (fun hcc => szStrand_ok _ _ (by omega) (by omega)) ?_; try (simp (disch := exact eqId (by kernel_rfl)) only [go_sem, ↓reduceIte, Nat.reduceAdd, Nat.reduceMul, Nat.reduceLT, Nat.reduceBEq, Nat.reduceLeDiff, Nat.reduceEqDiff, Int.reduceToNat])))
      all_goals (try omega)
      · rename_i hk hq
        have hk : d.1 < l.length := by omega
        rw [drop_getD hk (([], [], ()) : (tStrand : Ty).den), szLoop] at h5
        rw [if_pos hq] at h5
        exact h5.symm
      · rename_i hk hq
        have hk : d.1 < l.length := by omega
        rw [drop_getD hk (([], [], ()) : (tStrand : Ty).den), szLoop] at h5
        rw [if_neg hq] at h5
        have hb := (szD_le tStrand (l.getD d.1 (([], [], ()) : (tStrand : Ty).den)) d.2 h3).1
        refine back_intro (d.1 + 1, szD tStrand (l.getD d.1 (([], [], ()) : (tStrand : Ty).den)) d.2) ?_ ?_ (sub_shp hN [] ?_)
        · exact ⟨hk, by simp only; omega, by simp only; omega, h5⟩
        · simp only; omega
        · simp (disch := exact eqId (by kernel_rfl)) only [go_sem, ↓reduceIte, Nat.reduceAdd, Nat.reduceMul, Nat.reduceLT, Nat.reduceBEq, Nat.reduceLeDiff, Nat.reduceEqDiff, Int.reduceToNat]
          first | exact wrap_succ hk hl | exact ⟨rfl, wrap_succ hk hl⟩ | exact ⟨wrap_succ hk hl, rfl⟩
      · rw [drop_end (by omega)] at h5
        exact h5.symm
theorem szEvidence_ok (a : tEvidence.den) (n : Int) (h0 : 0 ≤ n) (h1 : n ≤ 1048576) : FunOK Tryz.prog 25 [⟨tEvidence, a⟩, ⟨I, n⟩] (.rd I (szD tEvidence a n)) := by
  obtain ⟨a0, a1, _⟩ := a
  simp only [szD_cons, szD_int, szD_bool, szD_nil]
  refine fun_of (tb := tb) follows Tryz.func25 (by kernel_rfl) Tryz.ntmps25 rfl rfl rfl ?_
  intro cx hN hw
  simp (disch := exact eqId (by kernel_rfl)) only [go_sem, ↓reduceIte, Nat.reduceAdd, Nat.reduceMul, Nat.reduceLT, Nat.reduceBEq, Nat.reduceLeDiff, Nat.reduceEqDiff, Int.reduceToNat]
  refine callQ_intro (szStrandS_ok a0 _ (by omega) (by omega)) ?_
  have b0 := (szD_le (.list tStrand) a0 (n) (by omega)).1
  simp (disch := exact eqId (by kernel_rfl)) only [go_sem, ↓reduceIte, Nat.reduceAdd, Nat.reduceMul, Nat.reduceLT, Nat.reduceBEq, Nat.reduceLeDiff, Nat.reduceEqDiff, Int.reduceToNat]
  refine ⟨fun h => ?_, fun h0 => ?_⟩
  · repeat' split
    all_goals first | rfl | omega
  refine callQ_intro (szStampSS_ok a1 _ (by omega) (by omega)) ?_
  have b1 := (szD_le (.list (.list tStamp)) a1 (szD (.list tStrand) a0 (n)) (by omega)).1
  simp (disch := exact eqId (by kernel_rfl)) only [go_sem, ↓reduceIte, Nat.reduceAdd, Nat.reduceMul, Nat.reduceLT, Nat.reduceBEq, Nat.reduceLeDiff, Nat.reduceEqDiff, Int.reduceToNat]
  refine ⟨fun h => ?_, fun h1 => ?_⟩
  · repeat' split
    all_goals first | rfl | omega
  repeat' split
  all_goals first | rfl | omega
theorem szFrame_ok (a : tFrame.den) (n : Int) (h0 : 0 ≤ n) (h1 : n ≤ 1048576) : FunOK Tryz.prog 8 [⟨tFrame, a⟩, ⟨I, n⟩] (.rd I (szD tFrame a n)) := by
  obtain ⟨a0, a1, a2, a3, a4, _⟩ := a
  simp only [szD_cons, szD_int, szD_bool, szD_nil]
  refine fun_of (tb := tb) follows Tryz.func8 (by kernel_rfl) Tryz.ntmps8 rfl rfl rfl ?_
  intro cx hN hw
  simp (disch := exact eqId (by kernel_rfl)) only [go_sem, ↓reduceIte, Nat.reduceAdd, Nat.reduceMul, Nat.reduceLT, Nat.reduceBEq, Nat.reduceLeDiff, Nat.reduceEqDiff, Int.reduceToNat]
  refine callQ_intro (szKeyS_ok a0 _ (by omega) (by omega)) ?_
  have b0 := (szD_le (.list tKey) a0 (n) (by omega)).1
  simp (disch := exact eqId (by kernel_rfl)) only [go_sem, ↓reduceIte, Nat.reduceAdd, Nat.reduceMul, Nat.reduceLT, Nat.reduceBEq, Nat.reduceLeDiff, Nat.reduceEqDiff, Int.reduceToNat]
  refine ⟨fun h => ?_, fun h0 => ?_⟩
  · repeat' split
    all_goals first | rfl | omega
  refine callQ_intro (szAuthorityS_ok a1 _ (by omega) (by omega)) ?_
  have b1 := (szD_le (.list tAuthority) a1 (szD (.list tKey) a0 (n)) (by omega)).1
  simp (disch := exact eqId (by kernel_rfl)) only [go_sem, ↓reduceIte, Nat.reduceAdd, Nat.reduceMul, Nat.reduceLT, Nat.reduceBEq, Nat.reduceLeDiff, Nat.reduceEqDiff, Int.reduceToNat]
  refine ⟨fun h => ?_, fun h1 => ?_⟩
  · repeat' split
    all_goals first | rfl | omega
  refine callQ_intro (szMethodS_ok a2 _ (by omega) (by omega)) ?_
  have b2 := (szD_le (.list tMethod) a2 (szD (.list tAuthority) a1 (szD (.list tKey) a0 (n))) (by omega)).1
  simp (disch := exact eqId (by kernel_rfl)) only [go_sem, ↓reduceIte, Nat.reduceAdd, Nat.reduceMul, Nat.reduceLT, Nat.reduceBEq, Nat.reduceLeDiff, Nat.reduceEqDiff, Int.reduceToNat]
  refine ⟨fun h => ?_, fun h2 => ?_⟩
  · repeat' split
    all_goals first | rfl | omega
  repeat' split
  all_goals first | rfl | omega
end Go.Proofs.YtkneckknjmahdaaGreat
