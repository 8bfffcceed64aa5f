/- What draws of times of entitlement answer. It proves nothing of a statement by itself. -/
import Derived.Test.YtcbecpjhgfkofaaF32
import Derived.Test.YtcbecpjhgfkofaaF18
import Derived.Test.YtcbecpjhgfkofaaPr
import Derived.Test.YtcbecpjhgfkofaaAL24
set_option linter.unusedSimpArgs false
set_option linter.unusedVariables false
set_option maxRecDepth 100000
namespace Go.Proofs.Ytcbecpjhgfkofaa
open Go.AL
def dgL (b : List Int) (hb : b.length ≤ maxLen) : List tStatus.den × Cu := rep d10 (dB (d9 (cu0 b hb)).2 4).1.toNat (dB (d9 (cu0 b hb)).2 4).2
theorem DrawGoodSpans_ok (b : List Int) (hb : b.length ≤ maxLen) : FunOK Try.prog 14 [⟨(.list (.int .u8)), b⟩] (.tup [.rd tCert (d9 (cu0 b hb)).1, .own 55 tStatus (dgL b hb).1]) := by
  refine fun_of (tb := tb) follows Try.func14 (by kernel_rfl) Try.ntmps14 rfl rfl rfl ?_
  intro cx hN hw
  have hm : maxLen = 9223372036854775807 := rfl
  simp (disch := exact eqId (by kernel_rfl)) only [go_sem, ↓reduceIte, Nat.reduceAdd, Nat.reduceMul, Nat.reduceLT, Nat.reduceBEq, Nat.reduceLeDiff, Nat.reduceEqDiff, Int.reduceToNat]
  refine callI_intro (tb := tb) (rs := [.tmp 2]) follows Try.func15 (by kernel_rfl) rfl rfl Try.ntmps15 rfl ⟨trivial, trivial⟩ ?_
  intro cx2 hN2
  simp (disch := exact eqId (by kernel_rfl)) only [go_sem, ↓reduceIte, Nat.reduceAdd, Nat.reduceMul, Nat.reduceLT, Nat.reduceBEq, Nat.reduceLeDiff, Nat.reduceEqDiff, Int.reduceToNat]
  refine loop_introF (tb := tb.at 900000000000000) follows hN2 (D := Nat × Int) (fun d => shp [(0, .rd (.list (.int .u8)) b), (3, .rd I d.2), (4, .rd I (d.1 : Int))] [(10000, .box 25 [.rd I 0, .rd I 0, .rd I 0, .rd I 0, .rd I 0, .rd I 0, .rd I 0])]) (fun d => d.1 ≤ 4000 ∧ newH b = nwK b (4000 - d.1) d.1 d.2) (fun d => 4000 - d.1) (0, IntKind.i64.wrap (193017 + (b.length : Int))) ?_ (sub_shpF [(10000, some 10000)] ?_) (fun d hd => ?_)
  · exact ⟨Nat.zero_le _, rfl⟩
  · simp (disch := exact eqId (by kernel_rfl)) only [go_sem, ↓reduceIte, Nat.reduceAdd, Nat.reduceMul, Nat.reduceLT, Nat.reduceBEq, Nat.reduceLeDiff, Nat.reduceEqDiff, Int.reduceToNat]
    try rfl
  · obtain ⟨k, h⟩ := d
    obtain ⟨h1, h2⟩ := hd
    simp only at h1 h2
    simp (disch := exact eqId (by kernel_rfl)) only [go_sem, ↓reduceIte, Nat.reduceAdd, Nat.reduceMul, Nat.reduceLT, Nat.reduceBEq, Nat.reduceLeDiff, Nat.reduceEqDiff, Int.reduceToNat]
    repeat' (first | (refine And.intro ?_ ?_) | intro _)
    all_goals (try omega)
    · rename_i hk
      refine back_intro (k + 1, nwG h (b.getD k 0)) ?_ ?_ (sub_shpF [(10000, some 10000)] ?_)
      · refine ⟨by omega, ?_⟩
        simp only
        rw [h2, show 4000 - k = (4000 - (k + 1)) + 1 from by omega, nwK, if_pos (by omega)]
      · simp only; omega
      · simp (disch := exact eqId (by kernel_rfl)) only [go_sem, ↓reduceIte, Nat.reduceAdd, Nat.reduceMul, Nat.reduceLT, Nat.reduceBEq, Nat.reduceLeDiff, Nat.reduceEqDiff, Int.reduceToNat]
        first | exact ⟨rfl, wrap_i64 (by omega) (by omega)⟩ | exact wrap_i64 (by omega) (by omega) | trace_state
    · rename_i hk
      have hh : h = newH b := by
        rw [h2]
        exact (nwK_end (by omega)).symm
      subst hh
      clear h1 h2
      refine callM_intro (l9Any_ok (cu0 b hb)) ⟨⟨trivial, by decide⟩, rfl, rfl⟩ ?_
      simp (disch := exact eqId (by kernel_rfl)) only [go_sem, ↓reduceIte, Nat.reduceAdd, Nat.reduceMul, Nat.reduceLT, Nat.reduceBEq, Nat.reduceLeDiff, Nat.reduceEqDiff, Int.reduceToNat]
      refine callM_intro (dB_ok _ _) ⟨⟨trivial, by decide⟩, rfl, rfl⟩ ?_
      simp (disch := exact eqId (by kernel_rfl)) only [go_sem, ↓reduceIte, Nat.reduceAdd, Nat.reduceMul, Nat.reduceLT, Nat.reduceBEq, Nat.reduceLeDiff, Nat.reduceEqDiff, Int.reduceToNat]
      have hj := dB_in (d9 (cu0 b hb)).2 (n := 4) (by decide)
      refine loop_intro (tb := tb) follows hN (D := Int × Cu × (List tStatus.den)) (fun d => shp [(2, .bp 10000 0), (4, .bp 20016070048 0), (5, .bp 30032 0), (6, .own 40000), (7, .rd I (d.1 : Int))] [(10000, .box 25 [.rd I 0, .rd I 0, .rd I 0, .rd I 0, .rd I 0, .rd I 0, .rd I 0]), (30032, .box 25 [.rd I (d9 (cu0 b hb)).1.1, .rd I (d9 (cu0 b hb)).1.2.1, .rd I (d9 (cu0 b hb)).1.2.2.1, .rd I (d9 (cu0 b hb)).1.2.2.2.1, .rd I (d9 (cu0 b hb)).1.2.2.2.2.1, .rd I (d9 (cu0 b hb)).1.2.2.2.2.2.1, .rd I (d9 (cu0 b hb)).1.2.2.2.2.2.2.1]), (40000, .row 55 tStatus d.2.2), (20016070048, .box 58 [.rd (.list (.int .u8)) (d.2.1).b, .rd I (d.2.1).i, .rd I (d.2.1).h])]) (fun d => d.2.2.length + d.1.toNat ≤ 256 ∧ rep d10 ((dB (d9 (cu0 b hb)).2 4).1).toNat (dB (d9 (cu0 b hb)).2 4).2 = (d.2.2 ++ (rep d10 d.1.toNat d.2.1).1, (rep d10 d.1.toNat d.2.1).2)) (fun d => d.1.toNat) (((dB (d9 (cu0 b hb)).2 4).1, (dB (d9 (cu0 b hb)).2 4).2, [])) ?_ (sub_shp hN [(10000, some 10000), (30032, some 30032), (20016070048, some 20016070048), (40000, some 40000)] ?_) (fun d hd => ?_)
      · refine ⟨by simp only [List.length_nil]; omega, rfl⟩
      · simp (disch := exact eqId (by kernel_rfl)) only [go_sem, ↓reduceIte, Nat.reduceAdd, Nat.reduceMul, Nat.reduceLT, Nat.reduceBEq, Nat.reduceLeDiff, Nat.reduceEqDiff, Int.reduceToNat]
        try exact ⟨rfl, rfl⟩
        try rfl
      · obtain ⟨r, s, out⟩ := d
        obtain ⟨g1, g2⟩ := hd
        simp only at g1 g2
        simp (disch := exact eqId (by kernel_rfl)) only [go_sem, ↓reduceIte, Nat.reduceAdd, Nat.reduceMul, Nat.reduceLT, Nat.reduceBEq, Nat.reduceLeDiff, Nat.reduceEqDiff, Int.reduceToNat]
        repeat' (first | (refine And.intro ?_ ?_) | intro _ | (refine callM_intro (l10Any_ok _) ⟨⟨trivial, by decide⟩, rfl, rfl⟩ ?_; try (simp (disch := exact eqId (by kernel_rfl)) only [go_sem, ↓reduceIte, Nat.reduceAdd, Nat.reduceMul, Nat.reduceLT, Nat.reduceBEq, Nat.reduceLeDiff, Nat.reduceEqDiff, Int.reduceToNat])))
        all_goals (try omega)
        all_goals (try (simp only [List.length_append, List.length_cons, List.length_nil]; omega))
        · rename_i hr
          have e : r.toNat = (r - 1).toNat + 1 := by omega
          refine back_intro ((r - 1, (d10 s).2, out ++ [(d10 s).1])) ?_ ?_ (sub_shp hN [(10000, some 10000), (30032, some 30032), (20016070048, some 20016070048), (40000, some 80064)] ?_)
          · refine ⟨by simp only [List.length_append, List.length_cons, List.length_nil]; omega, ?_⟩
            simp only
            rw [g2, e, rep, List.append_assoc]
            rfl
          · simp only; omega
          · simp (disch := exact eqId (by kernel_rfl)) only [go_sem, ↓reduceIte, Nat.reduceAdd, Nat.reduceMul, Nat.reduceLT, Nat.reduceBEq, Nat.reduceLeDiff, Nat.reduceEqDiff, Int.reduceToNat]
            first | exact ⟨rfl, wrap_i64 (by omega) (by omega)⟩ | exact wrap_i64 (by omega) (by omega) | trace_state
        · rename_i hr
          rw [show r.toNat = 0 from by omega, rep, List.append_nil] at g2
          unfold dgL
          rw [g2]
theorem DrawIsEntitled_ok (b : List Int) (hb : b.length ≤ maxLen) : FunOK Try.prog 5 [⟨(.list (.int .u8)), b⟩] (.tup [.rd tCert (d9 (cu0 b hb)).1, .own 55 tStatus (dgL b hb).1, .rd tSpan (dSpA (cu0 b hb)).1]) := by
  refine fun_of (tb := tb) follows Try.func5 (by kernel_rfl) Try.ntmps5 rfl rfl rfl ?_
  intro cx hN hw
  have hm : maxLen = 9223372036854775807 := rfl
  simp (disch := exact eqId (by kernel_rfl)) only [go_sem, ↓reduceIte, Nat.reduceAdd, Nat.reduceMul, Nat.reduceLT, Nat.reduceBEq, Nat.reduceLeDiff, Nat.reduceEqDiff, Int.reduceToNat]
  refine callQ_intro (DrawGoodSpans_ok _ hb) ?_
  simp (disch := exact eqId (by kernel_rfl)) only [go_sem, ↓reduceIte, Nat.reduceAdd, Nat.reduceMul, Nat.reduceLT, Nat.reduceBEq, Nat.reduceLeDiff, Nat.reduceEqDiff, Int.reduceToNat]
  refine callI_intro (tb := tb) (rs := [.tmp 2]) follows Try.func15 (by kernel_rfl) rfl rfl Try.ntmps15 rfl ⟨trivial, trivial⟩ ?_
  intro cx2 hN2
  simp (disch := exact eqId (by kernel_rfl)) only [go_sem, ↓reduceIte, Nat.reduceAdd, Nat.reduceMul, Nat.reduceLT, Nat.reduceBEq, Nat.reduceLeDiff, Nat.reduceEqDiff, Int.reduceToNat]
  refine loop_introF (tb := tb.at 900000000000000) follows hN2 (D := Nat × Int) (fun d => shp [(0, .rd (.list (.int .u8)) b), (3, .rd I d.2), (4, .rd I (d.1 : Int))] [(20080, .box 25 [.rd I (d9 (cu0 b hb)).1.1, .rd I (d9 (cu0 b hb)).1.2.1, .rd I (d9 (cu0 b hb)).1.2.2.1, .rd I (d9 (cu0 b hb)).1.2.2.2.1, .rd I (d9 (cu0 b hb)).1.2.2.2.2.1, .rd I (d9 (cu0 b hb)).1.2.2.2.2.2.1, .rd I (d9 (cu0 b hb)).1.2.2.2.2.2.2.1]), (20016, .row 55 tStatus (dgL b hb).1), (10032, .box 28 [.rd I 0, .rd I 0]), (10000, .box 25 [.rd I 0, .rd I 0, .rd I 0, .rd I 0, .rd I 0, .rd I 0, .rd I 0])]) (fun d => d.1 ≤ 4000 ∧ newH b = nwK b (4000 - d.1) d.1 d.2) (fun d => 4000 - d.1) (0, IntKind.i64.wrap (193017 + (b.length : Int))) ?_ (sub_shpF [(20080, some 20080), (20016, some 20016), (10032, some 10032), (10000, some 10000)] ?_) (fun d hd => ?_)
  · exact ⟨Nat.zero_le _, rfl⟩
  · simp (disch := exact eqId (by kernel_rfl)) only [go_sem, ↓reduceIte, Nat.reduceAdd, Nat.reduceMul, Nat.reduceLT, Nat.reduceBEq, Nat.reduceLeDiff, Nat.reduceEqDiff, Int.reduceToNat]
    try rfl
  · obtain ⟨k, h⟩ := d
    obtain ⟨h1, h2⟩ := hd
    simp only at h1 h2
    simp (disch := exact eqId (by kernel_rfl)) only [go_sem, ↓reduceIte, Nat.reduceAdd, Nat.reduceMul, Nat.reduceLT, Nat.reduceBEq, Nat.reduceLeDiff, Nat.reduceEqDiff, Int.reduceToNat]
    repeat' (first | (refine And.intro ?_ ?_) | intro _)
    all_goals (try omega)
    · rename_i hk
      refine back_intro (k + 1, nwG h (b.getD k 0)) ?_ ?_ (sub_shpF [(20080, some 20080), (20016, some 20016), (10032, some 10032), (10000, some 10000)] ?_)
      · refine ⟨by omega, ?_⟩
        simp only
        rw [h2, show 4000 - k = (4000 - (k + 1)) + 1 from by omega, nwK, if_pos (by omega)]
      · simp only; omega
      · simp (disch := exact eqId (by kernel_rfl)) only [go_sem, ↓reduceIte, Nat.reduceAdd, Nat.reduceMul, Nat.reduceLT, Nat.reduceBEq, Nat.reduceLeDiff, Nat.reduceEqDiff, Int.reduceToNat]
        first | exact ⟨rfl, wrap_i64 (by omega) (by omega)⟩ | exact wrap_i64 (by omega) (by omega) | trace_state
    · rename_i hk
      have hh : h = newH b := by
        rw [h2]
        exact (nwK_end (by omega)).symm
      subst hh
      clear h1 h2
      refine callM_intro (l4Any_ok (cu0 b hb)) ⟨⟨trivial, by decide⟩, rfl, rfl⟩ ?_
      simp (disch := exact eqId (by kernel_rfl)) only [go_sem, ↓reduceIte, Nat.reduceAdd, Nat.reduceMul, Nat.reduceLT, Nat.reduceBEq, Nat.reduceLeDiff, Nat.reduceEqDiff, Int.reduceToNat]
      all_goals (try exact ⟨rfl, rfl, rfl⟩)
      all_goals (try rfl)
theorem impl_IsCert_ok (x : tCert.den) : FunOK Try.prog 10 [⟨tCert, x⟩] (.rd .bool (isC x)) := by
  refine fun_of (tb := tb) follows Try.func10 (by kernel_rfl) Try.ntmps10 rfl rfl rfl ?_
  intro cx hN hw
  simp (disch := exact eqId (by kernel_rfl)) only [go_sem, ↓reduceIte, Nat.reduceAdd, Nat.reduceMul, Nat.reduceLT, Nat.reduceBEq, Nat.reduceLeDiff, Nat.reduceEqDiff, Int.reduceToNat]
  repeat' (first | (refine And.intro ?_ ?_) | intro _ | (refine callQ_intro (inRange_ok _ _ _) ?_; try (simp (disch := exact eqId (by kernel_rfl)) only [go_sem, ↓reduceIte, Nat.reduceAdd, Nat.reduceMul, Nat.reduceLT, Nat.reduceBEq, Nat.reduceLeDiff, Nat.reduceEqDiff, Int.reduceToNat])) | (refine callH_intro (fun hcc => inRange_ok _ _ _) ?_; try (simp (disch := exact eqId (by kernel_rfl)) only [go_sem, ↓reduceIte, Nat.reduceAdd, Nat.reduceMul, Nat.reduceLT, Nat.reduceBEq, Nat.reduceLeDiff, Nat.reduceEqDiff, Int.reduceToNat])) | (refine callQ_intro (impl_CertSpan_ok _) ?_; try (simp (disch := exact eqId (by kernel_rfl)) only [go_sem, ↓reduceIte, Nat.reduceAdd, Nat.reduceMul, Nat.reduceLT, Nat.reduceBEq, Nat.reduceLeDiff, Nat.reduceEqDiff, Int.reduceToNat])) | (refine callH_intro (fun hcc => impl_CertSpan_ok _) ?_; try (simp (disch := exact eqId (by kernel_rfl)) only [go_sem, ↓reduceIte, Nat.reduceAdd, Nat.reduceMul, Nat.reduceLT, Nat.reduceBEq, Nat.reduceLeDiff, Nat.reduceEqDiff, Int.reduceToNat])) | (refine callQ_intro (impl_IsSpan_ok _) ?_; try (simp (disch := exact eqId (by kernel_rfl)) only [go_sem, ↓reduceIte, Nat.reduceAdd, Nat.reduceMul, Nat.reduceLT, Nat.reduceBEq, Nat.reduceLeDiff, Nat.reduceEqDiff, Int.reduceToNat])) | (refine callH_intro (fun hcc => impl_IsSpan_ok _) ?_; try (simp (disch := exact eqId (by kernel_rfl)) only [go_sem, ↓reduceIte, Nat.reduceAdd, Nat.reduceMul, Nat.reduceLT, Nat.reduceBEq, Nat.reduceLeDiff, Nat.reduceEqDiff, Int.reduceToNat])))
  all_goals (try rfl)
  all_goals (try (simp_all [isC, inB]; done))
  all_goals (try trace_state)
theorem impl_TouchesSpan_ok (l : List tSpan.den) (s : tSpan.den) : FunOK Try.prog 9 [⟨(.list tSpan), l⟩, ⟨tSpan, s⟩] (.rd .bool (toF l s)) := by
  refine fun_of (tb := tb) follows Try.func9 (by kernel_rfl) Try.ntmps9 rfl rfl rfl ?_
  intro cx hN hw
  simp (disch := exact eqId (by kernel_rfl)) only [go_sem, ↓reduceIte, Nat.reduceAdd, Nat.reduceMul, Nat.reduceLT, Nat.reduceBEq, Nat.reduceLeDiff, Nat.reduceEqDiff, Int.reduceToNat]
  refine loop_intro (tb := tb) follows hN (D := Nat) (fun d => shp [(3, .bp 10000 0), (9, .rd (.list tSpan) (l)), (10, .rd I (((l).length : Int) : Int)), (11, .rd I (d : Int))] [(10000, .box 28 [.rd I (s.1), .rd I (s.2.1)])]) (fun d => d ≤ l.length ∧ toF l s = toF (l.drop d) s) (fun d => l.length - d) (0) ?_ (sub_shp hN [(10000, some 10000)] ?_) (fun d hd => ?_)
  · exact ⟨Nat.zero_le _, rfl⟩
  · simp (disch := exact eqId (by kernel_rfl)) only [go_sem, ↓reduceIte, Nat.reduceAdd, Nat.reduceMul, Nat.reduceLT, Nat.reduceBEq, Nat.reduceLeDiff, Nat.reduceEqDiff, Int.reduceToNat]
    try rfl
  · obtain ⟨h1, h2⟩ := hd
    simp (disch := exact eqId (by kernel_rfl)) only [go_sem, ↓reduceIte, Nat.reduceAdd, Nat.reduceMul, Nat.reduceLT, Nat.reduceBEq, Nat.reduceLeDiff, Nat.reduceEqDiff, Int.reduceToNat]
    repeat' (first | (refine And.intro ?_ ?_) | intro _ | (refine callQ_intro (impl_MeetSpans_ok _ _) ?_; try (simp (disch := exact eqId (by kernel_rfl)) only [go_sem, ↓reduceIte, Nat.reduceAdd, Nat.reduceMul, Nat.reduceLT, Nat.reduceBEq, Nat.reduceLeDiff, Nat.reduceEqDiff, Int.reduceToNat])) | (refine callH_intro (fun hcc => impl_MeetSpans_ok _ _) ?_; try (simp (disch := exact eqId (by kernel_rfl)) only [go_sem, ↓reduceIte, Nat.reduceAdd, Nat.reduceMul, Nat.reduceLT, Nat.reduceBEq, Nat.reduceLeDiff, Nat.reduceEqDiff, Int.reduceToNat])))
    all_goals (try omega)
    · rename_i hk he
      rw [h2, drop_getD (show d < l.length by omega) (0, 0, ())]
      unfold toF
      rw [List.any_cons, Bool.or_eq_true_iff.2 (.inl he)]
    · rename_i hk he
      have hk : d < l.length := by omega
      refine back_intro (d + 1) ?_ ?_ (sub_shp hN [(10000, some 10000)] ?_)
      · refine ⟨hk, h2.trans ?_⟩
        rw [drop_getD hk (0, 0, ())]
        unfold toF
        rw [List.any_cons, show (meF _ s).2 = false from he, Bool.false_or]
      · omega
      · simp (disch := exact eqId (by kernel_rfl)) only [go_sem, ↓reduceIte, Nat.reduceAdd, Nat.reduceMul, Nat.reduceLT, Nat.reduceBEq, Nat.reduceLeDiff, Nat.reduceEqDiff, Int.reduceToNat]
        exact wrap_succ hk hw.1.1
    · rename_i hk
      rw [h2, drop_end (show l.length ≤ d by omega)]
      rfl
end Go.Proofs.Ytcbecpjhgfkofaa
