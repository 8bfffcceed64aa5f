/- What the functions of spans answer, on both sides. It proves nothing of a statement by itself. -/
import Derived.Test.YtcbecpjhgfkofaaPn
set_option linter.unusedSimpArgs false
set_option linter.unusedVariables false
set_option maxRecDepth 100000
namespace Go.Proofs.Ytcbecpjhgfkofaa
open Go.AL
theorem impl_IsSpan_ok (s : tSpan.den) : FunOK Try.prog 26 [⟨tSpan, s⟩] (.rd .bool (spB s)) := by
  refine fun_of (tb := tb) follows Try.func26 (by kernel_rfl) Try.ntmps26 rfl rfl rfl ?_
  intro cx hN hw
  simp (disch := exact eqId (by kernel_rfl)) only [go_sem, ↓reduceIte, Nat.reduceAdd, Nat.reduceMul, Nat.reduceLT, Nat.reduceBEq, Nat.reduceLeDiff, Nat.reduceEqDiff, Int.reduceToNat]
  repeat' (first | (refine And.intro ?_ ?_) | intro _ | (refine callQ_intro (impl_isTime_ok _) ?_; try (simp (disch := exact eqId (by kernel_rfl)) only [go_sem, ↓reduceIte, Nat.reduceAdd, Nat.reduceMul, Nat.reduceLT, Nat.reduceBEq, Nat.reduceLeDiff, Nat.reduceEqDiff, Int.reduceToNat])) | (refine callH_intro (fun hcc => impl_isTime_ok _) ?_; try (simp (disch := exact eqId (by kernel_rfl)) only [go_sem, ↓reduceIte, Nat.reduceAdd, Nat.reduceMul, Nat.reduceLT, Nat.reduceBEq, Nat.reduceLeDiff, Nat.reduceEqDiff, Int.reduceToNat])))
  all_goals (try rfl)
theorem spec_IsSpan_ok (s : tSpan.den) : FunOK Try.prog 51 [⟨tSpan, s⟩] (.rd .bool (spB s)) := by
  refine fun_of (tb := tb) follows Try.func51 (by kernel_rfl) Try.ntmps51 rfl rfl rfl ?_
  intro cx hN hw
  simp (disch := exact eqId (by kernel_rfl)) only [go_sem, ↓reduceIte, Nat.reduceAdd, Nat.reduceMul, Nat.reduceLT, Nat.reduceBEq, Nat.reduceLeDiff, Nat.reduceEqDiff, Int.reduceToNat]
  repeat' (first | (refine And.intro ?_ ?_) | intro _ | (refine callQ_intro (spec_l4Time_ok _) ?_; try (simp (disch := exact eqId (by kernel_rfl)) only [go_sem, ↓reduceIte, Nat.reduceAdd, Nat.reduceMul, Nat.reduceLT, Nat.reduceBEq, Nat.reduceLeDiff, Nat.reduceEqDiff, Int.reduceToNat])) | (refine callH_intro (fun hcc => spec_l4Time_ok _) ?_; try (simp (disch := exact eqId (by kernel_rfl)) only [go_sem, ↓reduceIte, Nat.reduceAdd, Nat.reduceMul, Nat.reduceLT, Nat.reduceBEq, Nat.reduceLeDiff, Nat.reduceEqDiff, Int.reduceToNat])))
  all_goals (try rfl)
theorem impl_MakeSpan_ok (a b : Int) : FunOK Try.prog 21 [⟨I, a⟩, ⟨I, b⟩] (.tup [.rd tSpan (mkF a b).1, .rd .bool (mkF a b).2]) := by
  refine fun_of (tb := tb) follows Try.func21 (by kernel_rfl) Try.ntmps21 rfl rfl rfl ?_
  intro cx hN hw
  simp (disch := exact eqId (by kernel_rfl)) only [go_sem, ↓reduceIte, Nat.reduceAdd, Nat.reduceMul, Nat.reduceLT, Nat.reduceBEq, Nat.reduceLeDiff, Nat.reduceEqDiff, Int.reduceToNat]
  repeat' (first | (refine And.intro ?_ ?_) | intro _ | (refine callQ_intro (impl_IsSpan_ok _) ?_; try (simp (disch := exact eqId (by kernel_rfl)) only [go_sem, ↓reduceIte, Nat.reduceAdd, Nat.reduceMul, Nat.reduceLT, Nat.reduceBEq, Nat.reduceLeDiff, Nat.reduceEqDiff, Int.reduceToNat])) | (refine callH_intro (fun hcc => impl_IsSpan_ok _) ?_; try (simp (disch := exact eqId (by kernel_rfl)) only [go_sem, ↓reduceIte, Nat.reduceAdd, Nat.reduceMul, Nat.reduceLT, Nat.reduceBEq, Nat.reduceLeDiff, Nat.reduceEqDiff, Int.reduceToNat])))
  all_goals (rename_i hc; first | exact (congrArg Prod.fst (mkA_f hc)).symm | exact (congrArg Prod.snd (mkA_f hc)).symm | exact (congrArg Prod.fst (mkA_t hc)).symm | exact (congrArg Prod.snd (mkA_t hc)).symm)
theorem impl_MeetSpans_ok (a b : tSpan.den) : FunOK Try.prog 24 [⟨tSpan, a⟩, ⟨tSpan, b⟩] (.tup [.rd tSpan (meF a b).1, .rd .bool (meF a b).2]) := by
  refine fun_of (tb := tb) follows Try.func24 (by kernel_rfl) Try.ntmps24 rfl rfl rfl ?_
  intro cx hN hw
  simp (disch := exact eqId (by kernel_rfl)) only [go_sem, ↓reduceIte, Nat.reduceAdd, Nat.reduceMul, Nat.reduceLT, Nat.reduceBEq, Nat.reduceLeDiff, Nat.reduceEqDiff, Int.reduceToNat]
  repeat' (first | (refine And.intro ?_ ?_) | intro _ | (refine callQ_intro (impl_IsSpan_ok _) ?_; try (simp (disch := exact eqId (by kernel_rfl)) only [go_sem, ↓reduceIte, Nat.reduceAdd, Nat.reduceMul, Nat.reduceLT, Nat.reduceBEq, Nat.reduceLeDiff, Nat.reduceEqDiff, Int.reduceToNat])) | (refine callH_intro (fun hcc => impl_IsSpan_ok _) ?_; try (simp (disch := exact eqId (by kernel_rfl)) only [go_sem, ↓reduceIte, Nat.reduceAdd, Nat.reduceMul, Nat.reduceLT, Nat.reduceBEq, Nat.reduceLeDiff, Nat.reduceEqDiff, Int.reduceToNat])))
  all_goals (rename_i hc; first | exact (congrArg Prod.fst (meA_f hc)).symm | exact (congrArg Prod.snd (meA_f hc)).symm | exact (congrArg Prod.fst (meA_t hc)).symm | exact (congrArg Prod.snd (meA_t hc)).symm)
theorem impl_IsInside_ok (a b : tSpan.den) : FunOK Try.prog 27 [⟨tSpan, a⟩, ⟨tSpan, b⟩] (.rd .bool (insF a b)) := by
  refine fun_of (tb := tb) follows Try.func27 (by kernel_rfl) Try.ntmps27 rfl rfl rfl ?_
  intro cx hN hw
  simp (disch := exact eqId (by kernel_rfl)) only [go_sem, ↓reduceIte, Nat.reduceAdd, Nat.reduceMul, Nat.reduceLT, Nat.reduceBEq, Nat.reduceLeDiff, Nat.reduceEqDiff, Int.reduceToNat]
  repeat' (first | (refine And.intro ?_ ?_) | intro _ | (refine callQ_intro (impl_IsSpan_ok _) ?_; try (simp (disch := exact eqId (by kernel_rfl)) only [go_sem, ↓reduceIte, Nat.reduceAdd, Nat.reduceMul, Nat.reduceLT, Nat.reduceBEq, Nat.reduceLeDiff, Nat.reduceEqDiff, Int.reduceToNat])) | (refine callH_intro (fun hcc => impl_IsSpan_ok _) ?_; try (simp (disch := exact eqId (by kernel_rfl)) only [go_sem, ↓reduceIte, Nat.reduceAdd, Nat.reduceMul, Nat.reduceLT, Nat.reduceBEq, Nat.reduceLeDiff, Nat.reduceEqDiff, Int.reduceToNat])))
  all_goals (try rfl)
theorem sp_getD {out : List tSpan.den} (h : AllSp out) {j : Nat} (hj : j < out.length) : spB (out.getD j (0, 0, ())) = true := h _ (getD_mem hj _)
theorem impl_JoinAll_ok (l : List tSpan.den) (hs : l.length ≤ 1000000000) : FunOK Try.prog 23 [⟨(.list tSpan), l⟩] (.own 28 tSpan (jaF [] l)) := by
  refine fun_of (tb := tb) follows Try.func23 (by kernel_rfl) Try.ntmps23 rfl rfl rfl ?_
  intro cx hN hw
  simp (disch := exact eqId (by kernel_rfl)) only [go_sem, ↓reduceIte, Nat.reduceAdd, Nat.reduceMul, Nat.reduceLT, Nat.reduceBEq, Nat.reduceLeDiff, Nat.reduceEqDiff, Int.reduceToNat]
  refine loop_intro (tb := tb) follows hN (D := Nat × (List tSpan.den)) (fun d => shp [(3, .own 1), (10, .rd (.list tSpan) (l)), (11, .rd I (((l).length : Int) : Int)), (12, .rd I (d.1 : Int))] [(1, .row 28 tSpan d.2)]) (fun d => (d.1 ≤ l.length ∧ d.2.length ≤ d.1 ∧ AllSp d.2) ∧ jaF [] l = jaF d.2 (l.drop d.1)) (fun d => l.length - d.1) ((0, [])) ?_ (sub_shp hN [(1, none)] ?_) (fun d hd => ?_)
  · exact ⟨⟨Nat.zero_le _, Nat.le_refl _, fun x hx => by cases hx⟩, rfl⟩
  · simp (disch := exact eqId (by kernel_rfl)) only [go_sem, ↓reduceIte, Nat.reduceAdd, Nat.reduceMul, Nat.reduceLT, Nat.reduceBEq, Nat.reduceLeDiff, Nat.reduceEqDiff, Int.reduceToNat]
    try rfl
  · obtain ⟨k, out⟩ := d
    obtain ⟨⟨h1, h2, h3⟩, h4⟩ := hd
    simp only at h1 h2 h3 h4
    simp (disch := exact eqId (by kernel_rfl)) only [go_sem, ↓reduceIte, Nat.reduceAdd, Nat.reduceMul, Nat.reduceLT, Nat.reduceBEq, Nat.reduceLeDiff, Nat.reduceEqDiff, Int.reduceToNat]
    repeat' (first | (refine And.intro ?_ ?_) | intro _ | (refine callQ_intro (impl_IsSpan_ok _) ?_; try (simp (disch := exact eqId (by kernel_rfl)) only [go_sem, ↓reduceIte, Nat.reduceAdd, Nat.reduceMul, Nat.reduceLT, Nat.reduceBEq, Nat.reduceLeDiff, Nat.reduceEqDiff, Int.reduceToNat])) | (refine callH_intro (fun hcc => impl_IsSpan_ok _) ?_; try (simp (disch := exact eqId (by kernel_rfl)) only [go_sem, ↓reduceIte, Nat.reduceAdd, Nat.reduceMul, Nat.reduceLT, Nat.reduceBEq, Nat.reduceLeDiff, Nat.reduceEqDiff, Int.reduceToNat])))
    all_goals (try omega)
    · rename_i hk hc
      have hk : k < l.length := by omega
      refine back_intro ((k + 1, out)) ?_ ?_ (sub_shp hN [(1, some 1)] ?_)
      · refine ⟨⟨hk, by simp only; omega, h3⟩, ?_⟩
        simp only
        rw [h4, drop_getD hk (0, 0, ()), jaF_cons, if_neg (by rw [show spB (l.getD k (0, 0, ())) = false from hc]; decide)]
      · simp only; omega
      · simp (disch := exact eqId (by kernel_rfl)) only [go_sem, ↓reduceIte, Nat.reduceAdd, Nat.reduceMul, Nat.reduceLT, Nat.reduceBEq, Nat.reduceLeDiff, Nat.reduceEqDiff, Int.reduceToNat]
        try exact wrap_succ' (by omega)
    · rename_i hk hc
      have hk : k < l.length := by omega
      have hs0 : spB (l.getD k (0, 0, ())) = true := hc
      refine loop_intro (tb := tb) follows hN (D := Nat × (List tSpan.den) × tSpan.den) (fun d => shp [(5, .bp 50032 0), (6, .own 2), (10, .rd (.list tSpan) (l)), (11, .rd I (((l).length : Int) : Int)), (12, .rd I (k : Int)), (19, .own 1), (20, .rd I (out.length : Int)), (21, .rd I (d.1 : Int))] [(1, .row 28 tSpan out), (2, .row 28 tSpan d.2.1), (50032, .box 28 [.rd I d.2.2.1, .rd I d.2.2.2.1])]) (fun d => (d.1 ≤ out.length ∧ d.2.1.length ≤ d.1 ∧ spB d.2.2 = true) ∧ mgJ out (l.getD k (0, 0, ())) = (d.2.1 ++ (mgJ (List.drop d.1 out) d.2.2).1, (mgJ (List.drop d.1 out) d.2.2).2)) (fun d => out.length - d.1) ((0, [], l.getD k (0, 0, ()))) ?_ (sub_shp hN [(1, some 1), (2, none), (50032, some 50032)] ?_) (fun d hd => ?_)
      · exact ⟨⟨Nat.zero_le _, Nat.le_refl _, hs0⟩, rfl⟩
      · simp (disch := exact eqId (by kernel_rfl)) only [go_sem, ↓reduceIte, Nat.reduceAdd, Nat.reduceMul, Nat.reduceLT, Nat.reduceBEq, Nat.reduceLeDiff, Nat.reduceEqDiff, Int.reduceToNat]
        try rfl
      · obtain ⟨j, nx, sp⟩ := d
        obtain ⟨⟨j1, j2, j3⟩, j4⟩ := hd
        simp only at j1 j2 j3 j4
        have jb := spB_t.1 j3
        have je1 : j < out.length → IntKind.i64.wrap ((out.getD j (0, 0, ())).2.1 + 1) = (out.getD j (0, 0, ())).2.1 + 1 := fun hj => by
          have := spB_t.1 (sp_getD h3 hj)
          exact wrap_i64 (by omega) (by omega)
        have je2 : IntKind.i64.wrap (sp.2.1 + 1) = sp.2.1 + 1 := wrap_i64 (by omega) (by omega)
        simp (disch := exact eqId (by kernel_rfl)) only [go_sem, ↓reduceIte, Nat.reduceAdd, Nat.reduceMul, Nat.reduceLT, Nat.reduceBEq, Nat.reduceLeDiff, Nat.reduceEqDiff, Int.reduceToNat, je2]
        repeat' (first | (refine And.intro ?_ ?_) | intro _)
        all_goals (try omega)
        · rename_i hj hc
          have hj : j < out.length := by omega
          rw [je1 hj] at hc
          refine back_intro ((j + 1, nx ++ [out.getD j (0, 0, ())], sp)) ?_ ?_ (sub_shp hN [(1, some 1), (2, some 120048), (50032, some 50032)] ?_)
          · refine ⟨⟨hj, by simp only [List.length_append, List.length_cons, List.length_nil]; omega, j3⟩, ?_⟩
            simp only
            rw [j4, drop_getD hj (0, 0, ()), mgJ_cons, if_pos (by rw [apJ_t]; exact hc)]
            simp
          · simp only; omega
          · simp (disch := exact eqId (by kernel_rfl)) only [go_sem, ↓reduceIte, Nat.reduceAdd, Nat.reduceMul, Nat.reduceLT, Nat.reduceBEq, Nat.reduceLeDiff, Nat.reduceEqDiff, Int.reduceToNat]
            try exact wrap_succ' (by omega)
        · rename_i hj hc
          have hj : j < out.length := by omega
          rw [je1 hj] at hc
          refine back_intro ((j + 1, nx, unJ sp (out.getD j (0, 0, ())))) ?_ ?_ (sub_shp hN [(1, some 1), (2, some 2), (50032, some 50032)] ?_)
          · refine ⟨⟨hj, by simp only; omega, unJ_sp j3 (sp_getD h3 hj)⟩, ?_⟩
            simp only
            rw [j4, drop_getD hj (0, 0, ()), mgJ_cons, if_neg (by rw [apJ_t]; simp only [not_or]; exact hc)]
          · simp only; omega
          · simp (disch := exact eqId (by kernel_rfl)) only [go_sem, ↓reduceIte, Nat.reduceAdd, Nat.reduceMul, Nat.reduceLT, Nat.reduceBEq, Nat.reduceLeDiff, Nat.reduceEqDiff, Int.reduceToNat]
            try exact wrap_succ' (by omega)
            try exact ⟨rfl, wrap_succ' (by omega)⟩
            try exact ⟨⟨rfl, rfl⟩, wrap_succ' (by omega)⟩
        · rename_i hj
          have j5 : mgJ out (l.getD k (0, 0, ())) = (nx, sp) := by
            rw [j4, drop_end (show out.length ≤ j by omega)]
            simp [mgJ]
          have j6 := insK_le sp.1 nx
          refine loop_intro (tb := tb) follows hN (D := Nat) (fun d => shp [(5, .bp 50032 0), (6, .own 2), (9, .rd I (d : Int)), (10, .rd (.list tSpan) (l)), (11, .rd I (((l).length : Int) : Int)), (12, .rd I (k : Int))] [(2, .row 28 tSpan nx), (50032, .box 28 [.rd I sp.1, .rd I sp.2.1])]) (fun d => d ≤ insK sp.1 nx) (fun d => nx.length - d) (0) ?_ (sub_shp hN [(2, some 2), (50032, some 50032)] ?_) (fun d hd => ?_)
          · exact Nat.zero_le _
          · simp (disch := exact eqId (by kernel_rfl)) only [go_sem, ↓reduceIte, Nat.reduceAdd, Nat.reduceMul, Nat.reduceLT, Nat.reduceBEq, Nat.reduceLeDiff, Nat.reduceEqDiff, Int.reduceToNat]
            try rfl
          · have hat := insK_at (df := (0, 0, ())) hd
            simp (disch := exact eqId (by kernel_rfl)) only [go_sem, ↓reduceIte, Nat.reduceAdd, Nat.reduceMul, Nat.reduceLT, Nat.reduceBEq, Nat.reduceLeDiff, Nat.reduceEqDiff, Int.reduceToNat]
            repeat' (first | (refine And.intro ?_ ?_) | intro _)
            all_goals (try simp only [List.length_append, List.length_take, List.length_drop, List.length_cons, List.length_nil])
            all_goals (try omega)
            · rename_i hc
              have hd2 : d < insK sp.1 nx := hat.1 ⟨by omega, by omega⟩
              refine back_intro (d + 1) ?_ ?_ (sub_shp hN [(2, some 2), (50032, some 50032)] ?_)
              · exact hd2
              · omega
              · simp (disch := exact eqId (by kernel_rfl)) only [go_sem, ↓reduceIte, Nat.reduceAdd, Nat.reduceMul, Nat.reduceLT, Nat.reduceBEq, Nat.reduceLeDiff, Nat.reduceEqDiff, Int.reduceToNat]
                try exact wrap_succ' (by omega)
            · rename_i hc2
              have hd2 : d = insK sp.1 nx := by
                have : ¬ d < insK sp.1 nx := fun hx => by
                  have := hat.2 hx
                  omega
                omega
              have hp : putJ out (l.getD k (0, 0, ())) = nx.take d ++ [sp] ++ List.drop d (List.take nx.length nx) := by
                unfold putJ
                rw [j5, hd2, List.take_length]
              have hpl := (putJ_sp h3 hs0)
              refine back_intro ((k + 1, putJ out (l.getD k (0, 0, ())))) ?_ ?_ (sub_shp hN [(1, some 180176)] ?_)
              · refine ⟨⟨hk, by simp only; omega, hpl.1⟩, ?_⟩
                simp only
                rw [h4, drop_getD hk (0, 0, ()), jaF_cons, if_pos hs0]
              · simp only; omega
              · simp (disch := exact eqId (by kernel_rfl)) only [go_sem, ↓reduceIte, Nat.reduceAdd, Nat.reduceMul, Nat.reduceLT, Nat.reduceBEq, Nat.reduceLeDiff, Nat.reduceEqDiff, Int.reduceToNat]
                rw [hp]
                try exact ⟨rfl, wrap_succ' (by omega)⟩
    · rename_i hk
      rw [h4, drop_end (show l.length ≤ k by omega)]
      rfl
def mrowF (b : List tSpan.den) (x : tSpan.den) : List tSpan.den := b.flatMap fun y => optS (meF x y)
theorem mrow_len (b : List tSpan.den) (x : tSpan.den) : (mrowF b x).length ≤ 1 * b.length := fl_len _ 1 (fun y => optS_len _) b
theorem fm_take' {α β : Type} (f : α → List β) {l : List α} {k : Nat} (hk : k < l.length) (d : α) : (l.take (k + 1)).flatMap f = (l.take k).flatMap f ++ f (l.getD k d) := by
  rw [take_getD hk d, List.flatMap_append]
  simp
theorem impl_MeetAll_ok (a b : List tSpan.den) (ha : a.length ≤ 10000) (hb : b.length ≤ 10000) : FunOK Try.prog 17 [⟨(.list tSpan), a⟩, ⟨(.list tSpan), b⟩] (.own 28 tSpan (maF a b)) := by
  have hbd : ∀ k, ((a.take k).flatMap (mrowF b)).length ≤ 10000 * a.length := fun k => by
    have h1 := fl_len (mrowF b) 10000 (fun x => by have := mrow_len b x; omega) (a.take k)
    have h2 : (a.take k).length ≤ a.length := by rw [List.length_take]; omega
    omega
  have hbd2 : ∀ x j, ((b.take j).flatMap fun y => optS (meF x y)).length ≤ b.length := fun x j => by
    have h1 := fl_len (fun y => optS (meF x y)) 1 (fun y => optS_len _) (b.take j)
    have h2 : (b.take j).length ≤ b.length := by rw [List.length_take]; omega
    omega
  refine fun_of (tb := tb) follows Try.func17 (by kernel_rfl) Try.ntmps17 rfl rfl rfl ?_
  intro cx hN hw
  simp (disch := exact eqId (by kernel_rfl)) only [go_sem, ↓reduceIte, Nat.reduceAdd, Nat.reduceMul, Nat.reduceLT, Nat.reduceBEq, Nat.reduceLeDiff, Nat.reduceEqDiff, Int.reduceToNat]
  refine loop_intro (tb := tb) follows hN (D := Nat) (fun d => shp [(1, .rd (.list tSpan) (b)), (5, .own 1), (12, .rd (.list tSpan) (a)), (13, .rd I (((a).length : Int) : Int)), (14, .rd I (d : Int))] [(1, .row 28 tSpan ((a.take d).flatMap (mrowF b)))]) (fun d => d ≤ a.length) (fun d => a.length - d) (0) ?_ (sub_shp hN [(1, none)] ?_) (fun d hd => ?_)
  · exact Nat.zero_le _
  · simp (disch := exact eqId (by kernel_rfl)) only [go_sem, ↓reduceIte, Nat.reduceAdd, Nat.reduceMul, Nat.reduceLT, Nat.reduceBEq, Nat.reduceLeDiff, Nat.reduceEqDiff, Int.reduceToNat]
    try exact ⟨rfl, rfl⟩
  · revert hd
    generalize d = k
    intro hk0
    simp (disch := exact eqId (by kernel_rfl)) only [go_sem, ↓reduceIte, Nat.reduceAdd, Nat.reduceMul, Nat.reduceLT, Nat.reduceBEq, Nat.reduceLeDiff, Nat.reduceEqDiff, Int.reduceToNat]
    repeat' (first | (refine And.intro ?_ ?_) | intro _)
    all_goals (try omega)
    · rename_i hk
      have hk : k < a.length := by omega
      refine loop_intro (tb := tb) follows hN (D := Nat) (fun d => shp [(1, .rd (.list tSpan) (b)), (5, .own 1), (7, .bp 50032 0), (12, .rd (.list tSpan) (a)), (13, .rd I (((a).length : Int) : Int)), (14, .rd I (k : Int)), (18, .rd (.list tSpan) (b)), (19, .rd I (((b).length : Int) : Int)), (20, .rd I (d : Int))] [(1, .row 28 tSpan ((a.take k).flatMap (mrowF b) ++ (b.take d).flatMap (fun y => optS (meF (a.getD k (0, 0, ())) y)))), (50032, .box 28 [.rd I (a.getD k (0, 0, ())).1, .rd I (a.getD k (0, 0, ())).2.1])]) (fun d => d ≤ b.length) (fun d => b.length - d) (0) ?_ (sub_shp hN [(1, some 1), (50032, some 50032)] ?_) (fun d hd => ?_)
      · exact Nat.zero_le _
      · simp (disch := exact eqId (by kernel_rfl)) only [go_sem, ↓reduceIte, Nat.reduceAdd, Nat.reduceMul, Nat.reduceLT, Nat.reduceBEq, Nat.reduceLeDiff, Nat.reduceEqDiff, Int.reduceToNat]
        try (simp; done)
        try rfl
      · revert hd
        generalize d = j
        intro hj0
        have hq1 := hbd k
        have hq2 := hbd2 (a.getD k (0, 0, ())) j
        simp (disch := exact eqId (by kernel_rfl)) only [go_sem, ↓reduceIte, Nat.reduceAdd, Nat.reduceMul, Nat.reduceLT, Nat.reduceBEq, Nat.reduceLeDiff, Nat.reduceEqDiff, Int.reduceToNat]
        repeat' (first | (refine And.intro ?_ ?_) | intro _ | (refine callQ_intro (impl_MeetSpans_ok _ _) ?_; try (simp (disch := exact eqId (by kernel_rfl)) only [go_sem, ↓reduceIte, Nat.reduceAdd, Nat.reduceMul, Nat.reduceLT, Nat.reduceBEq, Nat.reduceLeDiff, Nat.reduceEqDiff, Int.reduceToNat])) | (refine callH_intro (fun hcc => impl_MeetSpans_ok _ _) ?_; try (simp (disch := exact eqId (by kernel_rfl)) only [go_sem, ↓reduceIte, Nat.reduceAdd, Nat.reduceMul, Nat.reduceLT, Nat.reduceBEq, Nat.reduceLeDiff, Nat.reduceEqDiff, Int.reduceToNat])))
        all_goals (try omega)
        all_goals (try (simp only [List.length_append, List.length_cons, List.length_nil]; omega))
        · rename_i hj hc
          have hj : j < b.length := by omega
          have hT : (b.take (j + 1)).flatMap (fun y => optS (meF (a.getD k (0, 0, ())) y)) = (b.take j).flatMap (fun y => optS (meF (a.getD k (0, 0, ())) y)) ++ [(meF (a.getD k (0, 0, ())) (b.getD j (0, 0, ()))).1] := by
            rw [fm_take' (fun y => optS (meF (a.getD k (0, 0, ())) y)) hj (0, 0, ())]
            exact congrArg _ (by unfold optS; exact if_pos hc)
          refine back_intro (j + 1) ?_ ?_ (sub_shp hN [(1, some 110048), (50032, some 50032)] ?_)
          · exact hj
          · omega
          · simp (disch := exact eqId (by kernel_rfl)) only [go_sem, ↓reduceIte, Nat.reduceAdd, Nat.reduceMul, Nat.reduceLT, Nat.reduceBEq, Nat.reduceLeDiff, Nat.reduceEqDiff, Int.reduceToNat]
            rw [hT, ← List.append_assoc]
            try exact ⟨rfl, wrap_succ' (by omega)⟩
        · rename_i hj hc
          have hj : j < b.length := by omega
          have hT : (b.take (j + 1)).flatMap (fun y => optS (meF (a.getD k (0, 0, ())) y)) = (b.take j).flatMap (fun y => optS (meF (a.getD k (0, 0, ())) y)) := by
            rw [fm_take' (fun y => optS (meF (a.getD k (0, 0, ())) y)) hj (0, 0, ())]
            have : optS (meF (a.getD k (0, 0, ())) (b.getD j (0, 0, ()))) = [] := by unfold optS; exact if_neg (by rw [show (meF (a.getD k (0, 0, ())) (b.getD j (0, 0, ()))).2 = false from hc]; decide)
            simp only [this, List.append_nil]
          refine back_intro (j + 1) ?_ ?_ (sub_shp hN [(1, some 1), (50032, some 50032)] ?_)
          · exact hj
          · omega
          · simp (disch := exact eqId (by kernel_rfl)) only [go_sem, ↓reduceIte, Nat.reduceAdd, Nat.reduceMul, Nat.reduceLT, Nat.reduceBEq, Nat.reduceLeDiff, Nat.reduceEqDiff, Int.reduceToNat]
            rw [hT]
            try exact ⟨rfl, wrap_succ' (by omega)⟩
        · rename_i hj
          have hj : j = b.length := by omega
          subst hj
          refine back_intro (k + 1) ?_ ?_ (sub_shp hN [(1, some 1)] ?_)
          · exact hk
          · omega
          · simp (disch := exact eqId (by kernel_rfl)) only [go_sem, ↓reduceIte, Nat.reduceAdd, Nat.reduceMul, Nat.reduceLT, Nat.reduceBEq, Nat.reduceLeDiff, Nat.reduceEqDiff, Int.reduceToNat]
            rw [fm_take' (mrowF b) hk (0, 0, ()), List.take_length]
            try exact ⟨rfl, wrap_succ' (by omega)⟩
    · rename_i hk
      have hk : k = a.length := by omega
      subst hk
      refine callQ_intro (impl_JoinAll_ok _ (by have := hbd a.length; omega)) ?_
      simp (disch := exact eqId (by kernel_rfl)) only [go_sem, ↓reduceIte, Nat.reduceAdd, Nat.reduceMul, Nat.reduceLT, Nat.reduceBEq, Nat.reduceLeDiff, Nat.reduceEqDiff, Int.reduceToNat]
      unfold maF mrowF
      rw [List.take_length]
theorem impl_CoversSpan_ok (l : List tSpan.den) (s : tSpan.den) (hs : l.length ≤ 1000000000) : FunOK Try.prog 12 [⟨(.list tSpan), l⟩, ⟨tSpan, s⟩] (.rd .bool (coF l s)) := by
  have hj := (jaF_sp l [] (fun x hx => by cases hx)).2
  simp only [List.length_nil, Nat.zero_add] at hj
  refine fun_of (tb := tb) follows Try.func12 (by kernel_rfl) Try.ntmps12 rfl rfl rfl ?_
  intro cx hN hw
  simp (disch := exact eqId (by kernel_rfl)) only [go_sem, ↓reduceIte, Nat.reduceAdd, Nat.reduceMul, Nat.reduceLT, Nat.reduceBEq, Nat.reduceLeDiff, Nat.reduceEqDiff, Int.reduceToNat]
  refine callQ_intro (impl_JoinAll_ok _ hs) ?_
  simp (disch := exact eqId (by kernel_rfl)) only [go_sem, ↓reduceIte, Nat.reduceAdd, Nat.reduceMul, Nat.reduceLT, Nat.reduceBEq, Nat.reduceLeDiff, Nat.reduceEqDiff, Int.reduceToNat]
  refine loop_intro (tb := tb) follows hN (D := Nat) (fun d => shp [(3, .bp 10000 0), (8, .rd (.list tSpan) (jaF [] l)), (9, .rd I ((jaF [] l).length : Int)), (10, .rd I (d : Int))] [(10000, .box 28 [.rd I (s.1), .rd I (s.2.1)])]) (fun d => d ≤ (jaF [] l).length ∧ coF l s = ((jaF [] l).drop d).any (insF s)) (fun d => (jaF [] l).length - d) (0) ?_ (sub_shp hN [(10000, some 10000)] ?_) (fun d hd => ?_)
  · exact ⟨Nat.zero_le _, rfl⟩
  · simp (disch := exact eqId (by kernel_rfl)) only [go_sem, ↓reduceIte, Nat.reduceAdd, Nat.reduceMul, Nat.reduceLT, Nat.reduceBEq, Nat.reduceLeDiff, Nat.reduceEqDiff, Int.reduceToNat]
    try rfl
  · obtain ⟨h1, h2⟩ := hd
    simp (disch := exact eqId (by kernel_rfl)) only [go_sem, ↓reduceIte, Nat.reduceAdd, Nat.reduceMul, Nat.reduceLT, Nat.reduceBEq, Nat.reduceLeDiff, Nat.reduceEqDiff, Int.reduceToNat]
    repeat' (first | (refine And.intro ?_ ?_) | intro _ | (refine callQ_intro (impl_IsInside_ok _ _) ?_; try (simp (disch := exact eqId (by kernel_rfl)) only [go_sem, ↓reduceIte, Nat.reduceAdd, Nat.reduceMul, Nat.reduceLT, Nat.reduceBEq, Nat.reduceLeDiff, Nat.reduceEqDiff, Int.reduceToNat])) | (refine callH_intro (fun hcc => impl_IsInside_ok _ _) ?_; try (simp (disch := exact eqId (by kernel_rfl)) only [go_sem, ↓reduceIte, Nat.reduceAdd, Nat.reduceMul, Nat.reduceLT, Nat.reduceBEq, Nat.reduceLeDiff, Nat.reduceEqDiff, Int.reduceToNat])))
    all_goals (try omega)
    · rename_i hk hc
      rw [h2, drop_getD (show d < (jaF [] l).length by omega) (0, 0, ()), List.any_cons, show insF s ((jaF [] l).getD d (0, 0, ())) = true from hc, Bool.true_or]
    · rename_i hk hc
      have hk : d < (jaF [] l).length := by omega
      refine back_intro (d + 1) ?_ ?_ (sub_shp hN [(10000, some 10000)] ?_)
      · refine ⟨hk, ?_⟩
        rw [h2, drop_getD hk (0, 0, ()), List.any_cons, show insF s ((jaF [] l).getD d (0, 0, ())) = false from hc, Bool.false_or]
      · omega
      · simp (disch := exact eqId (by kernel_rfl)) only [go_sem, ↓reduceIte, Nat.reduceAdd, Nat.reduceMul, Nat.reduceLT, Nat.reduceBEq, Nat.reduceLeDiff, Nat.reduceEqDiff, Int.reduceToNat]
        try exact wrap_succ' (by omega)
    · rename_i hk
      rw [h2, drop_end (show (jaF [] l).length ≤ d by omega)]
      rfl
end Go.Proofs.Ytcbecpjhgfkofaa
