/- The law of times of entitlement: by its draws and by plain maths. It proves nothing of a statement by itself. -/
import Derived.Test.YtcbecpjhgfkofaaF33
set_option linter.unusedSimpArgs false
set_option linter.unusedVariables false
set_option maxRecDepth 100000
namespace Go.Proofs.Ytcbecpjhgfkofaa
open Go.AL
theorem big_ok (b : List Int) : FunOK Try.prog 4 [⟨(.list (.int .u8)), b⟩] (.rd .bool (decide ((b.length : Int) > 1048576))) := by
  refine fun_of (tb := tb) follows Try.func4 (by kernel_rfl) Try.ntmps4 rfl rfl rfl ?_
  intro cx hN hw
  simp (disch := exact eqId (by kernel_rfl)) only [go_sem, ↓reduceIte, Nat.reduceAdd, Nat.reduceMul, Nat.reduceLT, Nat.reduceBEq, Nat.reduceLeDiff, Nat.reduceEqDiff, Int.reduceToNat]
theorem st_inv (n : Int) : ∀ (l : List tStatus.den) (a m : Int), (a < 0 ∧ m < 0 ∨ 0 ≤ a ∧ a ≤ m) → (l.foldl (stL n) a < 0 ∧ l.foldl (stM n) m < 0 ∨ 0 ≤ l.foldl (stL n) a ∧ l.foldl (stL n) a ≤ l.foldl (stM n) m)
  | [], a, m, h => h
  | x :: l, a, m, h => by
    rw [List.foldl_cons, List.foldl_cons]
    refine st_inv n l _ _ ?_
    unfold stL stM
    simp only [mxF_eq]
    by_cases h1 : (x.1 : Int) = n ∧ ¬ (x.2.2.1 : Int) < 0
    · rw [if_pos (c := (x.1 : Int) = n ∧ ¬ (x.2.2.1 : Int) < 0) h1]
      have h2 : (0 : Int) ≤ x.2.2.1 := Int.not_lt.1 h1.2
      generalize (x.2.2.1 : Int) = E at *
      by_cases h3 : a < 0 ∨ E < a
      · rw [if_pos ⟨h1.1, h1.2, h3⟩]; omega
      · rw [if_neg (fun h => h3 h.2.2)]; omega
    · rw [if_neg (c := (x.1 : Int) = n ∧ ¬ (x.2.2.1 : Int) < 0) h1, if_neg (fun h => h1 ⟨h.1, h.2.1⟩)]
      exact h
theorem stL_le (n : Int) : ∀ (l : List tStatus.den) (a : Int), (∀ x, x ∈ l → (x.2.2.1 : Int) ≤ 9223372036854775807) → a ≤ 9223372036854775807 → l.foldl (stL n) a ≤ 9223372036854775807
  | [], a, _, h => h
  | x :: l, a, hl, h => by
    rw [List.foldl_cons]
    refine stL_le n l _ (fun y hy => hl y (List.mem_cons_of_mem _ hy)) ?_
    have := hl x List.mem_cons_self
    unfold stL
    split
    · exact this
    · exact h
theorem gu_bf {l : List tStatus.den} {n : Int} (hl : ∀ x, x ∈ l → (x.2.2.1 : Int) ≤ 9223372036854775807) : bfF l n = 10001 ∨ guF l n < bfF l n := by
  have h1 := st_inv n l (-1) (-1) (.inl ⟨by decide, by decide⟩)
  have h2 := stL_le n l (-1) hl (by decide)
  unfold bfF guF
  rcases h1 with h1 | h1
  · rw [if_pos h1.2]
    exact .inl rfl
  · rw [if_neg (by omega), if_pos h1.1, wrap_i64 (n := l.foldl (stL n) (-1) - 1) (by omega) (by omega), mxF_eq]
    right
    omega
theorem gs_in' {f e g t : Int} (h : inAny t (jaF [] (optS (meF (f, e, ()) (0, g, ()))))) : f ≤ t ∧ t ≤ e ∧ t ≤ g := by
  rw [jaF_in _ _ (fun x hx => by cases hx)] at h
  rcases h with h4 | ⟨z, h4, h5, h6⟩
  · exact absurd h4 (inAny_nil t)
  · unfold optS at h4
    split at h4
    · rename_i hc
      simp only [List.mem_singleton] at h4
      subst h4
      unfold meF at hc h6
      split at hc
      · rename_i hd
        rw [if_pos hd] at h6
        have h7 := h6.1
        have h8 := h6.2
        simp only [mxF_eq, mnF_eq] at h7 h8
        omega
      · cases hc
    · cases h4
theorem gs_in {x : tCert.den} {l : List tStatus.den} {t : Int} (h : ∃ y, y ∈ gsF x l ∧ spB y = true ∧ inT t y) : @LE.le Int _ x.2.2.2.1 t ∧ @LE.le Int _ t x.2.2.2.2.1 ∧ t ≤ guF l x.1 := by
  obtain ⟨y, h1, h2, h3⟩ := h
  refine gs_in' ⟨y, ?_, h3⟩
  unfold gsF maF at h1
  simpa only [List.flatMap_cons, List.flatMap_nil, List.append_nil] using h1
theorem mk_in {a b t : Int} {z : tSpan.den} (h : z ∈ optS (mkF a b)) (ht : inT t z) : a ≤ t ∧ t ≤ b := by
  unfold optS at h
  split at h
  · rename_i hc
    simp only [List.mem_singleton] at h
    subst h
    unfold mkF at hc ht
    split at hc
    · rename_i hd
      rw [if_pos hd] at ht
      have h7 := ht.1
      have h8 := ht.2
      simp only [mxF_eq, mnF_eq] at h7 h8
      omega
    · cases hc
  · cases h
theorem bs_in' {f e g t : Int} (h0 : 0 ≤ t) (hx : f ≤ 9223372036854775807) (h : inAny t (jaF [] ((if f > 0 then optS (mkF 0 (IntKind.i64.wrap (f - 1))) else []) ++ (if e < 10000 then optS (mkF (IntKind.i64.wrap (e + 1)) 10000) else []) ++ optS (mkF g 10000)))) : t < f ∨ (e < 0 ∨ e < t) ∨ g ≤ t ∧ t ≤ 10000 := by
  rw [jaF_in _ _ (fun x hx => by cases hx)] at h
  rcases h with h4 | ⟨z, h4, h5, h6⟩
  · exact absurd h4 (inAny_nil t)
  · rcases List.mem_append.1 h4 with h4 | h4
    · rcases List.mem_append.1 h4 with h4 | h4
      · split at h4
        · rename_i hc
          have := mk_in h4 h6
          rw [wrap_i64 (by omega) (by omega)] at this
          left
          omega
        · cases h4
      · split at h4
        · rename_i hc
          have := mk_in h4 h6
          right; left
          by_cases hn : e < 0
          · exact .inl hn
          · rw [wrap_i64 (by omega) (by omega)] at this
            right
            omega
        · cases h4
    · have := mk_in h4 h6
      right; right
      exact this
theorem bs_in {x : tCert.den} {l : List tStatus.den} {t : Int} (h0 : 0 ≤ t) (hx : @LE.le Int _ x.2.2.2.1 9223372036854775807) (h : ∃ y, y ∈ bsF x l ∧ spB y = true ∧ inT t y) : @LT.lt Int _ t x.2.2.2.1 ∨ (@LT.lt Int _ x.2.2.2.2.1 0 ∨ @LT.lt Int _ x.2.2.2.2.1 t) ∨ bfF l x.1 ≤ t ∧ t ≤ 10000 := by
  obtain ⟨y, h1, h2, h3⟩ := h
  exact bs_in' h0 hx ⟨y, h1, h3⟩
theorem gs_sp (x : tCert.den) (l : List tStatus.den) : AllSp (gsF x l) := by
  unfold gsF maF
  exact (jaF_sp _ [] (fun x hx => by cases hx)).1
theorem bs_sp (x : tCert.den) (l : List tStatus.den) : AllSp (bsF x l) := by
  unfold bsF
  exact (jaF_sp _ [] (fun x hx => by cases hx)).1
/-- Good and bad times share no time. -/
theorem gb_no {x : tCert.den} {l : List tStatus.den} {t : Int} (h0 : 0 ≤ t) (h1 : t ≤ 10000) (hl : ∀ x, x ∈ l → (x.2.2.1 : Int) ≤ 9223372036854775807) (hx : @LE.le Int _ x.2.2.2.1 9223372036854775807) : toF (gsF x l) (t, t, ()) = true → toF (bsF x l) (t, t, ()) = true → False := by
  intro h2 h3
  rw [toF_in h0 h1] at h2 h3
  have h4 := gs_in h2
  have h5 := bs_in h0 hx h3
  have h6 := gu_bf (n := x.1) hl
  omega
/-- The rest is open. -/
theorem ot_t {x : tCert.den} {l : List tStatus.den} {t : Int} (h0 : 0 ≤ t) (h1 : t ≤ 10000) : toF (otF x l) (t, t, ()) = true ↔ ¬ toF (gsF x l) (t, t, ()) = true ∧ ¬ toF (bsF x l) (t, t, ()) = true := by
  rw [toF_in h0 h1, toF_in h0 h1, toF_in h0 h1]
  have ha := (jaF_sp (gsF x l ++ bsF x l) [] (fun x hx => by cases hx)).1
  have h2 : (∃ y, y ∈ otF x l ∧ spB y = true ∧ inT t y) ↔ inAny t (otF x l) := by
    constructor
    · rintro ⟨y, h1, _, h3⟩
      exact ⟨y, h1, h3⟩
    · rintro ⟨y, h1, h3⟩
      exact ⟨y, h1, gap_sp _ _ ha (Int.le_refl 0) y h1, h3⟩
  rw [h2]
  unfold otF
  rw [ja_gap _ h0 h1]
  constructor
  · intro h
    exact ⟨fun ⟨y, a, b, c⟩ => h ⟨y, List.mem_append_left _ a, b, c⟩, fun ⟨y, a, b, c⟩ => h ⟨y, List.mem_append_right _ a, b, c⟩⟩
  · rintro ⟨h3, h4⟩ ⟨y, a, b, c⟩
    rcases List.mem_append.1 a with a | a
    · exact h3 ⟨y, a, b, c⟩
    · exact h4 ⟨y, a, b, c⟩
theorem law_FnEntitled_ok (b : List Int) : FunOK Try.prog 3 [⟨(.list (.int .u8)), b⟩] (.rd .bool true) := by
  refine fun_of (tb := tb) follows Try.func3 (by kernel_rfl) Try.ntmps3 rfl rfl rfl ?_
  intro cx hN hw
  have hb : b.length ≤ maxLen := hw.1.1
  simp (disch := exact eqId (by kernel_rfl)) only [go_sem, ↓reduceIte, Nat.reduceAdd, Nat.reduceMul, Nat.reduceLT, Nat.reduceBEq, Nat.reduceLeDiff, Nat.reduceEqDiff, Int.reduceToNat]
  repeat' (first | (refine And.intro ?_ ?_) | intro _ | (refine callQ_intro (big_ok _) ?_; try (simp (disch := exact eqId (by kernel_rfl)) only [go_sem, ↓reduceIte, Nat.reduceAdd, Nat.reduceMul, Nat.reduceLT, Nat.reduceBEq, Nat.reduceLeDiff, Nat.reduceEqDiff, Int.reduceToNat])) | (refine callH_intro (fun hcc => big_ok _) ?_; try (simp (disch := exact eqId (by kernel_rfl)) only [go_sem, ↓reduceIte, Nat.reduceAdd, Nat.reduceMul, Nat.reduceLT, Nat.reduceBEq, Nat.reduceLeDiff, Nat.reduceEqDiff, Int.reduceToNat])) | (refine callQ_intro (DrawIsEntitled_ok _ hb) ?_; try (simp (disch := exact eqId (by kernel_rfl)) only [go_sem, ↓reduceIte, Nat.reduceAdd, Nat.reduceMul, Nat.reduceLT, Nat.reduceBEq, Nat.reduceLeDiff, Nat.reduceEqDiff, Int.reduceToNat])) | (refine callH_intro (fun hcc => DrawIsEntitled_ok _ hb) ?_; try (simp (disch := exact eqId (by kernel_rfl)) only [go_sem, ↓reduceIte, Nat.reduceAdd, Nat.reduceMul, Nat.reduceLT, Nat.reduceBEq, Nat.reduceLeDiff, Nat.reduceEqDiff, Int.reduceToNat])) | (refine callQ_intro (impl_GoodSpans_ok _ _) ?_; try (simp (disch := exact eqId (by kernel_rfl)) only [go_sem, ↓reduceIte, Nat.reduceAdd, Nat.reduceMul, Nat.reduceLT, Nat.reduceBEq, Nat.reduceLeDiff, Nat.reduceEqDiff, Int.reduceToNat])) | (refine callH_intro (fun hcc => impl_GoodSpans_ok _ _) ?_; try (simp (disch := exact eqId (by kernel_rfl)) only [go_sem, ↓reduceIte, Nat.reduceAdd, Nat.reduceMul, Nat.reduceLT, Nat.reduceBEq, Nat.reduceLeDiff, Nat.reduceEqDiff, Int.reduceToNat])) | (refine callQ_intro (impl_BadSpans_ok _ _) ?_; try (simp (disch := exact eqId (by kernel_rfl)) only [go_sem, ↓reduceIte, Nat.reduceAdd, Nat.reduceMul, Nat.reduceLT, Nat.reduceBEq, Nat.reduceLeDiff, Nat.reduceEqDiff, Int.reduceToNat])) | (refine callH_intro (fun hcc => impl_BadSpans_ok _ _) ?_; try (simp (disch := exact eqId (by kernel_rfl)) only [go_sem, ↓reduceIte, Nat.reduceAdd, Nat.reduceMul, Nat.reduceLT, Nat.reduceBEq, Nat.reduceLeDiff, Nat.reduceEqDiff, Int.reduceToNat])) | (refine callQ_intro (impl_OpenTimes_ok _ _) ?_; try (simp (disch := exact eqId (by kernel_rfl)) only [go_sem, ↓reduceIte, Nat.reduceAdd, Nat.reduceMul, Nat.reduceLT, Nat.reduceBEq, Nat.reduceLeDiff, Nat.reduceEqDiff, Int.reduceToNat])) | (refine callH_intro (fun hcc => impl_OpenTimes_ok _ _) ?_; try (simp (disch := exact eqId (by kernel_rfl)) only [go_sem, ↓reduceIte, Nat.reduceAdd, Nat.reduceMul, Nat.reduceLT, Nat.reduceBEq, Nat.reduceLeDiff, Nat.reduceEqDiff, Int.reduceToNat])))
  all_goals (try omega)
  refine loopQ_wf (fun hwf => ?_)
  have hx : WF tCert (d9 (cu0 b hb)).1 := hwf.rd 17 tCert _ rfl
  have hl : WF (.list tStatus) (dgL b hb).1 := hwf.row 40016 _ tStatus _ rfl
  clear hwf
  have hl2 : ∀ x, x ∈ (dgL b hb).1 → (x.2.2.1 : Int) ≤ 9223372036854775807 := fun x h => (hl.at h).2.2.1.2
  have hx2 : @LE.le Int _ (d9 (cu0 b hb)).1.2.2.2.1 9223372036854775807 := hx.2.2.2.1.2
  generalize hX : (d9 (cu0 b hb)).1 = x at *
  generalize hL : (dgL b hb).1 = l at *
  refine loop_intro (tb := tb) follows hN (D := Nat) (fun d => shp [(3, .bp 40096 0), (4, .rd (.list tStatus) l), (5, .bp 40112 0), (6, .rd (.list tSpan) (gsF x l)), (7, .rd (.list tSpan) (bsF x l)), (8, .rd (.list tSpan) (otF x l)), (9, .rd I ((3 * d : Nat) : Int))] [(40096, .box 25 [.rd I x.1, .rd I x.2.1, .rd I x.2.2.1, .rd I x.2.2.2.1, .rd I x.2.2.2.2.1, .rd I x.2.2.2.2.2.1, .rd I x.2.2.2.2.2.2.1]), (40112, .box 28 [.rd I (dSpA (cu0 b hb)).1.1, .rd I (dSpA (cu0 b hb)).1.2.1])]) (fun d => d ≤ 67) (fun d => 67 - d) (0) ?_ (sub_shp hN [(40096, some 40096), (40112, some 40112)] ?_) (fun d hd => ?_)
  · omega
  · simp (disch := exact eqId (by kernel_rfl)) only [go_sem, ↓reduceIte, Nat.reduceAdd, Nat.reduceMul, Nat.reduceLT, Nat.reduceBEq, Nat.reduceLeDiff, Nat.reduceEqDiff, Int.reduceToNat]
    try rfl
  · have hg := fun h0 h1 => gb_no (x := x) (l := l) (t := ((3 * d : Nat) : Int)) h0 h1 hl2 hx2
    have ho := fun h0 h1 => ot_t (x := x) (l := l) (t := ((3 * d : Nat) : Int)) h0 h1
    simp (disch := exact eqId (by kernel_rfl)) only [go_sem, ↓reduceIte, Nat.reduceAdd, Nat.reduceMul, Nat.reduceLT, Nat.reduceBEq, Nat.reduceLeDiff, Nat.reduceEqDiff, Int.reduceToNat]
    repeat' (first | (refine And.intro ?_ ?_) | intro _ | (refine callQ_intro (impl_TouchesSpan_ok _ _) ?_; try (simp (disch := exact eqId (by kernel_rfl)) only [go_sem, ↓reduceIte, Nat.reduceAdd, Nat.reduceMul, Nat.reduceLT, Nat.reduceBEq, Nat.reduceLeDiff, Nat.reduceEqDiff, Int.reduceToNat])) | (refine callH_intro (fun hcc => impl_TouchesSpan_ok _ _) ?_; try (simp (disch := exact eqId (by kernel_rfl)) only [go_sem, ↓reduceIte, Nat.reduceAdd, Nat.reduceMul, Nat.reduceLT, Nat.reduceBEq, Nat.reduceLeDiff, Nat.reduceEqDiff, Int.reduceToNat])) | (refine callQ_intro (impl_IsCert_ok _) ?_; try (simp (disch := exact eqId (by kernel_rfl)) only [go_sem, ↓reduceIte, Nat.reduceAdd, Nat.reduceMul, Nat.reduceLT, Nat.reduceBEq, Nat.reduceLeDiff, Nat.reduceEqDiff, Int.reduceToNat])) | (refine callH_intro (fun hcc => impl_IsCert_ok _) ?_; try (simp (disch := exact eqId (by kernel_rfl)) only [go_sem, ↓reduceIte, Nat.reduceAdd, Nat.reduceMul, Nat.reduceLT, Nat.reduceBEq, Nat.reduceLeDiff, Nat.reduceEqDiff, Int.reduceToNat])) | (refine callQ_intro (impl_IsEntitled_ok _ _ _) ?_; try (simp (disch := exact eqId (by kernel_rfl)) only [go_sem, ↓reduceIte, Nat.reduceAdd, Nat.reduceMul, Nat.reduceLT, Nat.reduceBEq, Nat.reduceLeDiff, Nat.reduceEqDiff, Int.reduceToNat])) | (refine callH_intro (fun hcc => impl_IsEntitled_ok _ _ _) ?_; try (simp (disch := exact eqId (by kernel_rfl)) only [go_sem, ↓reduceIte, Nat.reduceAdd, Nat.reduceMul, Nat.reduceLT, Nat.reduceBEq, Nat.reduceLeDiff, Nat.reduceEqDiff, Int.reduceToNat])) | (refine callQ_intro (impl_CoversSpan_ok _ _ (Nat.le_trans (gsF_len _ _) (by decide))) ?_; try (simp (disch := exact eqId (by kernel_rfl)) only [go_sem, ↓reduceIte, Nat.reduceAdd, Nat.reduceMul, Nat.reduceLT, Nat.reduceBEq, Nat.reduceLeDiff, Nat.reduceEqDiff, Int.reduceToNat])) | (refine callH_intro (fun hcc => impl_CoversSpan_ok _ _ (Nat.le_trans (gsF_len _ _) (by decide))) ?_; try (simp (disch := exact eqId (by kernel_rfl)) only [go_sem, ↓reduceIte, Nat.reduceAdd, Nat.reduceMul, Nat.reduceLT, Nat.reduceBEq, Nat.reduceLeDiff, Nat.reduceEqDiff, Int.reduceToNat])) | (refine callQ_intro (impl_CoversSpan_ok _ _ (Nat.le_trans (bsF_len _ _) (by decide))) ?_; try (simp (disch := exact eqId (by kernel_rfl)) only [go_sem, ↓reduceIte, Nat.reduceAdd, Nat.reduceMul, Nat.reduceLT, Nat.reduceBEq, Nat.reduceLeDiff, Nat.reduceEqDiff, Int.reduceToNat])) | (refine callH_intro (fun hcc => impl_CoversSpan_ok _ _ (Nat.le_trans (bsF_len _ _) (by decide))) ?_; try (simp (disch := exact eqId (by kernel_rfl)) only [go_sem, ↓reduceIte, Nat.reduceAdd, Nat.reduceMul, Nat.reduceLT, Nat.reduceBEq, Nat.reduceLeDiff, Nat.reduceEqDiff, Int.reduceToNat])) | (refine callQ_intro (impl_IsBarred_ok _ _ _) ?_; try (simp (disch := exact eqId (by kernel_rfl)) only [go_sem, ↓reduceIte, Nat.reduceAdd, Nat.reduceMul, Nat.reduceLT, Nat.reduceBEq, Nat.reduceLeDiff, Nat.reduceEqDiff, Int.reduceToNat])) | (refine callH_intro (fun hcc => impl_IsBarred_ok _ _ _) ?_; try (simp (disch := exact eqId (by kernel_rfl)) only [go_sem, ↓reduceIte, Nat.reduceAdd, Nat.reduceMul, Nat.reduceLT, Nat.reduceBEq, Nat.reduceLeDiff, Nat.reduceEqDiff, Int.reduceToNat])))
    all_goals (try omega)
    all_goals (try rfl)
    all_goals (try (refine back_intro (d + 1) ?_ ?_ (sub_shp hN [(40096, some 40096), (40112, some 40112)] ?_)
                    · omega
                    · omega
                    · simp (disch := exact eqId (by kernel_rfl)) only [go_sem, ↓reduceIte, Nat.reduceAdd, Nat.reduceMul, Nat.reduceLT, Nat.reduceBEq, Nat.reduceLeDiff, Nat.reduceEqDiff, Int.reduceToNat]
                      rw [wrap_i64 (by omega) (by omega)]
                      exact (by omega : ((3 * d : Nat) : Int) + 3 = ((3 * (d + 1) : Nat) : Int))
                    done))
    all_goals
      have w1 : IntKind.i64.wrap (0 + 1) = 1 := by decide
      have w2 : IntKind.i64.wrap (1 + 1) = 2 := by decide
      have hg := hg (by omega) (by omega)
      have ho := ho (by omega) (by omega)
      clear hX hx hx2 hL hl hl2
      have hd9 : (((3 * d : Nat) : Int)) ≤ 200 := by omega
      generalize ((3 * d : Nat) : Int) = t at *
      revert hg ho
      cases hA : toF (gsF x l) (t, t, ()) <;> cases hB : toF (bsF x l) (t, t, ()) <;> cases hC : toF (otF x l) (t, t, ()) <;> simp_all
end Go.Proofs.Ytcbecpjhgfkofaa
