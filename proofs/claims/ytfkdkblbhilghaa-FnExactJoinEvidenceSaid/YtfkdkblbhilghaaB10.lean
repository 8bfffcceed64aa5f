/- What functions of evidence brought together answer. It proves nothing of a statement by itself. -/
import Derived.Test.YtfkdkblbhilghaaB9
set_option linter.unusedSimpArgs false
set_option linter.unusedVariables false
set_option maxRecDepth 100000
namespace Go.Proofs.Ytfkdkblbhilghaa
open Go.AL
theorem l20Copy_own (s : tStrand.den) (hs : Small tStrand 1048576 s) : FunOK Try.prog 72 [⟨tStrand, s⟩] (.agg [.own 52 tPiece s.1, .own 66 tRenewal s.2.1]) := by
  obtain ⟨h1, h2⟩ := sm_pc hs
  obtain ⟨h3, h4⟩ := sm_ch hs
  refine fun_of (tb := tb) follows Try.func72 (by kernel_rfl) Try.ntmps72 rfl rfl rfl ?_; intro cx hN hw
  simp (disch := exact eqId (by kernel_rfl)) only [go_sem, ↓reduceIte, Nat.reduceAdd, Nat.reduceMul, Nat.reduceLT, Nat.reduceBEq, Nat.reduceLeDiff, Nat.reduceEqDiff, Int.reduceToNat]
  repeat' (first | (refine And.intro ?_ ?_) | intro _ | (refine callQ_intro (l18All_ok _ h1 h2) ?_; try (simp (disch := exact eqId (by kernel_rfl)) only [go_sem, ↓reduceIte, Nat.reduceAdd, Nat.reduceMul, Nat.reduceLT, Nat.reduceBEq, Nat.reduceLeDiff, Nat.reduceEqDiff, Int.reduceToNat])) | (refine callH_intro (fun hcc => l18All_ok _ h1 h2) ?_; try (simp (disch := exact eqId (by kernel_rfl)) only [go_sem, ↓reduceIte, Nat.reduceAdd, Nat.reduceMul, Nat.reduceLT, Nat.reduceBEq, Nat.reduceLeDiff, Nat.reduceEqDiff, Int.reduceToNat])))
  refine loop_intro (tb := tb) follows hN (D := Nat) (fun d => shp [(1, .bp 10000 0), (2, .bp 10016 0), (3, .bp 20064 0), (4, .rd I (d : Int))] [(10000, .box 36 [.rd (.list tPiece) s.1, .rd (.list tRenewal) s.2.1]), (10016, .box 36 [.nils, .nils]), (20032, .row 52 tPiece s.1), (20064, .box 36 [.own 20032, .own 90000]), (90000, .row 66 tRenewal (List.take d s.2.1))]) (fun d => d ≤ List.length s.2.1) (fun d => List.length s.2.1 - d) (0) ?_ (sub_shp hN [(10000, some 10000), (10016, some 10016), (20064, some 20064), (20032, some 20032), (90000, none)] ?_) (fun d hd => ?_)
  · exact Nat.zero_le _
  · simp (disch := exact eqId (by kernel_rfl)) only [go_sem, ↓reduceIte, Nat.reduceAdd, Nat.reduceMul, Nat.reduceLT, Nat.reduceBEq, Nat.reduceLeDiff, Nat.reduceEqDiff, Int.reduceToNat]
    try exact ⟨rfl, rfl⟩
    try rfl
  · simp (disch := exact eqId (by kernel_rfl)) only [go_sem, ↓reduceIte, Nat.reduceAdd, Nat.reduceMul, Nat.reduceLT, Nat.reduceBEq, Nat.reduceLeDiff, Nat.reduceEqDiff, Int.reduceToNat]
    repeat' (first | (refine And.intro ?_ ?_) | intro _ | (refine callQ_intro (l19Copy_ok _ (h4 _ (getD_mem (by omega) _)).1 (h4 _ (getD_mem (by omega) _)).2) ?_; try (simp (disch := exact eqId (by kernel_rfl)) only [go_sem, ↓reduceIte, Nat.reduceAdd, Nat.reduceMul, Nat.reduceLT, Nat.reduceBEq, Nat.reduceLeDiff, Nat.reduceEqDiff, Int.reduceToNat])) | (refine callH_intro (fun hcc => l19Copy_ok _ (h4 _ (getD_mem (by omega) _)).1 (h4 _ (getD_mem (by omega) _)).2) ?_; try (simp (disch := exact eqId (by kernel_rfl)) only [go_sem, ↓reduceIte, Nat.reduceAdd, Nat.reduceMul, Nat.reduceLT, Nat.reduceBEq, Nat.reduceLeDiff, Nat.reduceEqDiff, Int.reduceToNat])))
    all_goals (try omega)
    all_goals (try (simp only [List.length_append, List.length_cons, List.length_nil, List.length_take]; omega))
    · rename_i hk
      refine back_intro (d + 1) ?_ ?_ (sub_shp hN [(10000, some 10000), (10016, some 10016), (20064, some 20064), (20032, some 20032), (90000, some 60144)] ?_)
      · omega
      · omega
      · simp (disch := exact eqId (by kernel_rfl)) only [go_sem, ↓reduceIte, Nat.reduceAdd, Nat.reduceMul, Nat.reduceLT, Nat.reduceBEq, Nat.reduceLeDiff, Nat.reduceEqDiff, Int.reduceToNat]
        refine ⟨?_, wrap_succ' (by omega)⟩
        exact take_snoc (show d < List.length s.2.1 by omega) _
    · rename_i hk
      rw [List.take_of_length_le (by omega)]
theorem spec_l23Copy_ok (e : tEvidence.den) (hs : Small tEvidence 1048576 e) : FunOK Try.prog 106 [⟨tEvidence, e⟩] (.agg [.own 36 tStrand e.1, .own 64 (.list tStamp) e.2.1]) := by
  have hl1 : e.1.length ≤ 1048576 := hs.1.1
  have hl2 : e.2.1.length ≤ 1048576 := hs.2.1.1
  have hq : ∀ s, s ∈ e.1 → Small tStrand 1048576 s := hs.1.2
  have hq2 : ∀ l, l ∈ e.2.1 → l.length ≤ 1048576 := fun l hl => (hs.2.1.2 l hl).1
  refine fun_of (tb := tb) follows Try.func106 (by kernel_rfl) Try.ntmps106 rfl rfl rfl ?_; intro cx hN hw
  simp (disch := exact eqId (by kernel_rfl)) only [go_sem, ↓reduceIte, Nat.reduceAdd, Nat.reduceMul, Nat.reduceLT, Nat.reduceBEq, Nat.reduceLeDiff, Nat.reduceEqDiff, Int.reduceToNat]
  refine loop_intro (tb := tb) follows hN (D := Nat) (fun d => shp [(1, .bp 10000 0), (2, .bp 10016 0), (3, .bp 20016 0), (4, .rd I (d : Int))] [(10000, .box 81 [.rd (.list tStrand) e.1, .rd (.list (.list tStamp)) e.2.1]), (10016, .box 81 [.nils, .nils]), (20016, .box 81 [.own 900000, .nils]), (900000, .row 36 tStrand (List.take d e.1))]) (fun d => d ≤ List.length e.1) (fun d => List.length e.1 - d) (0) ?_ (sub_shp hN [(10000, some 10000), (10016, some 10016), (20016, some 20016), (900000, none)] ?_) (fun d hd => ?_)
  · exact Nat.zero_le _
  · simp (disch := exact eqId (by kernel_rfl)) only [go_sem, ↓reduceIte, Nat.reduceAdd, Nat.reduceMul, Nat.reduceLT, Nat.reduceBEq, Nat.reduceLeDiff, Nat.reduceEqDiff, Int.reduceToNat]
    try exact ⟨rfl, rfl⟩
    try rfl
  · simp (disch := exact eqId (by kernel_rfl)) only [go_sem, ↓reduceIte, Nat.reduceAdd, Nat.reduceMul, Nat.reduceLT, Nat.reduceBEq, Nat.reduceLeDiff, Nat.reduceEqDiff, Int.reduceToNat]
    repeat' (first | (refine And.intro ?_ ?_) | intro _ | (refine callQ_intro (l20Copy_own _ (hq _ (getD_mem (by omega) _))) ?_; try (simp (disch := exact eqId (by kernel_rfl)) only [go_sem, ↓reduceIte, Nat.reduceAdd, Nat.reduceMul, Nat.reduceLT, Nat.reduceBEq, Nat.reduceLeDiff, Nat.reduceEqDiff, Int.reduceToNat])) | (refine callH_intro (fun hcc => l20Copy_own _ (hq _ (getD_mem (by omega) _))) ?_; try (simp (disch := exact eqId (by kernel_rfl)) only [go_sem, ↓reduceIte, Nat.reduceAdd, Nat.reduceMul, Nat.reduceLT, Nat.reduceBEq, Nat.reduceLeDiff, Nat.reduceEqDiff, Int.reduceToNat])))
    all_goals (try omega)
    all_goals (try (simp only [List.length_append, List.length_cons, List.length_nil, List.length_take]; omega))
    · rename_i hk
      refine back_intro (d + 1) ?_ ?_ (sub_shp hN [(10000, some 10000), (10016, some 10016), (20016, some 20016), (900000, some 60144)] ?_)
      · omega
      · omega
      · simp (disch := exact eqId (by kernel_rfl)) only [go_sem, ↓reduceIte, Nat.reduceAdd, Nat.reduceMul, Nat.reduceLT, Nat.reduceBEq, Nat.reduceLeDiff, Nat.reduceEqDiff, Int.reduceToNat]
        refine ⟨?_, wrap_succ' (by omega)⟩
        exact take_snoc (show d < List.length e.1 by omega) _
    · rename_i hk
      rw [List.take_of_length_le (show List.length e.1 ≤ d by omega)]
      refine loop_intro (tb := tb) follows hN (D := Nat) (fun d => shp [(1, .bp 10000 0), (2, .bp 10016 0), (3, .bp 20016 0), (5, .rd I (d : Int))] [(10000, .box 81 [.rd (.list tStrand) e.1, .rd (.list (.list tStamp)) e.2.1]), (10016, .box 81 [.nils, .nils]), (20016, .box 81 [.own 900000, .own 900001]), (900000, .row 36 tStrand e.1), (900001, .row 64 (.list tStamp) (List.take d e.2.1))]) (fun d => d ≤ List.length e.2.1) (fun d => List.length e.2.1 - d) (0) ?_ (sub_shp hN [(10000, some 10000), (10016, some 10016), (20016, some 20016), (900000, some 900000), (900001, none)] ?_) (fun d hd => ?_)
      · exact Nat.zero_le _
      · simp (disch := exact eqId (by kernel_rfl)) only [go_sem, ↓reduceIte, Nat.reduceAdd, Nat.reduceMul, Nat.reduceLT, Nat.reduceBEq, Nat.reduceLeDiff, Nat.reduceEqDiff, Int.reduceToNat]
        try exact ⟨rfl, rfl⟩
        try rfl
      · simp (disch := exact eqId (by kernel_rfl)) only [go_sem, ↓reduceIte, Nat.reduceAdd, Nat.reduceMul, Nat.reduceLT, Nat.reduceBEq, Nat.reduceLeDiff, Nat.reduceEqDiff, Int.reduceToNat]
        repeat' (first | (refine And.intro ?_ ?_) | intro _)
        all_goals (try omega)
        all_goals (try (simp only [List.length_append, List.length_cons, List.length_nil, List.length_take]; omega))
        all_goals (try (have := hq2 _ (getD_mem (show d < List.length e.2.1 by omega) []); omega))
        · rename_i hk
          refine back_intro (d + 1) ?_ ?_ (sub_shp hN [(10000, some 10000), (10016, some 10016), (20016, some 20016), (900000, some 900000), (900001, some 100160)] ?_)
          · omega
          · omega
          · simp (disch := exact eqId (by kernel_rfl)) only [go_sem, ↓reduceIte, Nat.reduceAdd, Nat.reduceMul, Nat.reduceLT, Nat.reduceBEq, Nat.reduceLeDiff, Nat.reduceEqDiff, Int.reduceToNat]
            refine ⟨?_, wrap_succ' (by omega)⟩
            exact take_snoc (show d < List.length e.2.1 by omega) _
        · rename_i hk
          rw [List.take_of_length_le (show List.length e.2.1 ≤ d by omega)]
          try exact .inl rfl
        all_goals trace_state
    all_goals trace_state
theorem impl_copyEvidence_d (e : tEvidence.den) (hs : Small tEvidence 1048576 e) : FunOK Try.prog 109 [⟨tEvidence, e⟩] (.agg [.deep TE tStrand e.1, .deep TE (.list tStamp) e.2.1]) := by
  have hl1 : e.1.length ≤ 1048576 := hs.1.1
  have hl2 : e.2.1.length ≤ 1048576 := hs.2.1.1
  have hq : ∀ s, s ∈ e.1 → Small tStrand 1048576 s := hs.1.2
  have hq2 : ∀ l, l ∈ e.2.1 → l.length ≤ 1048576 := fun l hl => (hs.2.1.2 l hl).1
  refine fun_ofN (tb := tbd) follows Try.func109 (by kernel_rfl) Try.ntmps109 rfl rfl rfl ?_; intro cx hN hw
  simp (disch := exact eqId (by kernel_rfl)) only [go_sem, ↓reduceIte, Nat.reduceAdd, Nat.reduceMul, Nat.reduceLT, Nat.reduceBEq, Nat.reduceLeDiff, Nat.reduceEqDiff, Int.reduceToNat]
  refine loop_intro (tb := tbd) follows hN (D := Nat) (fun d => shp [(1, .bp 10000 0), (2, .bp 10016 0), (3, .bp 20000 0), (9, .rd (.list tStrand) (e.1)), (10, .rd I (((e.1).length : Int) : Int)), (11, .rd I (d : Int))] [(10000, .box 81 [.rd (.list tStrand) e.1, .rd (.list (.list tStamp)) e.2.1]), (10016, .box 81 [.nils, .nils]), (20000, .box 81 [.own 900000, .nils]), (900000, .deep TE tStrand (List.take d e.1))]) (fun d => d ≤ List.length e.1) (fun d => List.length e.1 - d) (0) ?_ (sub_shp hN [(10000, some 10000), (10016, some 10016), (20000, some 20000), (900000, none)] ?_) (fun d hd => ?_)
  · exact Nat.zero_le _
  · simp (disch := exact eqId (by kernel_rfl)) only [go_sem, ↓reduceIte, Nat.reduceAdd, Nat.reduceMul, Nat.reduceLT, Nat.reduceBEq, Nat.reduceLeDiff, Nat.reduceEqDiff, Int.reduceToNat]
    try exact ⟨rfl, rfl⟩
    try rfl
  · simp (disch := exact eqId (by kernel_rfl)) only [go_sem, ↓reduceIte, Nat.reduceAdd, Nat.reduceMul, Nat.reduceLT, Nat.reduceBEq, Nat.reduceLeDiff, Nat.reduceEqDiff, Int.reduceToNat]
    repeat' (first | (refine And.intro ?_ ?_) | intro _ | (refine callQ_intro (copyStrand_d _ (hq _ (getD_mem (by omega) _))) ?_; try (simp (disch := exact eqId (by kernel_rfl)) only [go_sem, ↓reduceIte, Nat.reduceAdd, Nat.reduceMul, Nat.reduceLT, Nat.reduceBEq, Nat.reduceLeDiff, Nat.reduceEqDiff, Int.reduceToNat])) | (refine callH_intro (fun hcc => copyStrand_d _ (hq _ (getD_mem (by omega) _))) ?_; try (simp (disch := exact eqId (by kernel_rfl)) only [go_sem, ↓reduceIte, Nat.reduceAdd, Nat.reduceMul, Nat.reduceLT, Nat.reduceBEq, Nat.reduceLeDiff, Nat.reduceEqDiff, Int.reduceToNat])))
    all_goals (try omega)
    all_goals (try (simp only [List.length_append, List.length_cons, List.length_nil, List.length_take]; omega))
    · rename_i hk
      refine back_intro (d + 1) ?_ ?_ (sub_shp hN [(10000, some 10000), (10016, some 10016), (20000, some 20000), (900000, some 60080)] ?_)
      · omega
      · omega
      · simp (disch := exact eqId (by kernel_rfl)) only [go_sem, ↓reduceIte, Nat.reduceAdd, Nat.reduceMul, Nat.reduceLT, Nat.reduceBEq, Nat.reduceLeDiff, Nat.reduceEqDiff, Int.reduceToNat]
        refine ⟨?_, wrap_succ' (by omega)⟩
        exact take_snoc (show d < List.length e.1 by omega) _
    · rename_i hk
      rw [List.take_of_length_le (show List.length e.1 ≤ d by omega)]
      refine loop_intro (tb := tbd) follows hN (D := Nat) (fun d => shp [(2, .bp 10016 0), (3, .bp 20000 0), (24, .rd (.list (.list tStamp)) (e.2.1)), (25, .rd I (((e.2.1).length : Int) : Int)), (26, .rd I (d : Int))] [(10016, .box 81 [.nils, .nils]), (20000, .box 81 [.own 900000, .own 900001]), (900000, .deep TE tStrand e.1), (900001, .deep TE (.list tStamp) (List.take d e.2.1))]) (fun d => d ≤ List.length e.2.1) (fun d => List.length e.2.1 - d) (0) ?_ (sub_shp hN [(10016, some 10016), (20000, some 20000), (900000, some 900000), (900001, none)] ?_) (fun d hd => ?_)
      · exact Nat.zero_le _
      · simp (disch := exact eqId (by kernel_rfl)) only [go_sem, ↓reduceIte, Nat.reduceAdd, Nat.reduceMul, Nat.reduceLT, Nat.reduceBEq, Nat.reduceLeDiff, Nat.reduceEqDiff, Int.reduceToNat]
        try exact ⟨rfl, rfl⟩
        try rfl
      · simp (disch := exact eqId (by kernel_rfl)) only [go_sem, ↓reduceIte, Nat.reduceAdd, Nat.reduceMul, Nat.reduceLT, Nat.reduceBEq, Nat.reduceLeDiff, Nat.reduceEqDiff, Int.reduceToNat]
        repeat' (first | (refine And.intro ?_ ?_) | intro _ | (refine callQ_intro (copyStamps_fr _ (hq2 _ (getD_mem (by omega) _))) ?_; try (simp (disch := exact eqId (by kernel_rfl)) only [go_sem, ↓reduceIte, Nat.reduceAdd, Nat.reduceMul, Nat.reduceLT, Nat.reduceBEq, Nat.reduceLeDiff, Nat.reduceEqDiff, Int.reduceToNat])) | (refine callH_intro (fun hcc => copyStamps_fr _ (hq2 _ (getD_mem (by omega) _))) ?_; try (simp (disch := exact eqId (by kernel_rfl)) only [go_sem, ↓reduceIte, Nat.reduceAdd, Nat.reduceMul, Nat.reduceLT, Nat.reduceBEq, Nat.reduceLeDiff, Nat.reduceEqDiff, Int.reduceToNat])))
        all_goals (try omega)
        all_goals (try (simp only [List.length_append, List.length_cons, List.length_nil, List.length_take]; omega))
        all_goals (try (have := hq2 _ (getD_mem (show d < List.length e.2.1 by omega) []); omega))
        · rename_i hk
          refine back_intro (d + 1) ?_ ?_ (sub_shp hN [(10016, some 10016), (20000, some 20000), (900000, some 900000), (900001, some 110080)] ?_)
          · omega
          · omega
          · simp (disch := exact eqId (by kernel_rfl)) only [go_sem, ↓reduceIte, Nat.reduceAdd, Nat.reduceMul, Nat.reduceLT, Nat.reduceBEq, Nat.reduceLeDiff, Nat.reduceEqDiff, Int.reduceToNat]
            refine ⟨?_, wrap_succ' (by omega)⟩
            exact take_snoc (show d < List.length e.2.1 by omega) _
        · rename_i hk
          rw [List.take_of_length_le (show List.length e.2.1 ≤ d by omega)]
          try exact .inl rfl
        all_goals trace_state
    all_goals trace_state
end Go.Proofs.Ytfkdkblbhilghaa
/- Rows that own the rows nested in them, settled while they grow, given out unsettled. A general part, over any program. -/
set_option linter.unusedSimpArgs false
set_option linter.unusedVariables false
namespace Go.AL
open Go.RowKit

/-! ### Settled while they grow -/

def AObj.toSd : AObj → AObj
  | .deep te t xs => .sd te t xs
  | o => o
theorem toSd_live (o : AObj) : o.toSd.live = o.live := by cases o <;> rfl
theorem toSd_born (o : AObj) : o.toSd.born = o.born := by cases o <;> rfl
def St.toSd (σ : St) : St := ⟨σ.tmps, fun i => (σ.objs i).toSd⟩

/-- How far a block is to be settled. -/
def SD (w : World) : AObj → Rt → Nat → Nat → Prop
  | .deep _ t xs, r, b, n => (blk r.v = some b ∧ n = xs.length * t.size) ∨ (b ∈ r.fp ∧ n = bsz w b)
  | _, _, _, _ => False

section
variable {w : World} {lim lim' : Nat → Nat} {G : Nat → Rt} {objs : Nat → AObj} {o : AObj} {r : Rt} {b n m : Nat}
theorem SD_blk (h : SD w o r b n) : o.live = true ∧ Blk o r b := by
  cases o <;> simp only [SD] at h
  refine ⟨rfl, ?_⟩
  simp only [Blk]
  rcases h with h | h
  · rw [h.1]; simp
  · exact List.mem_append_right _ h.1
theorem SD_uniq (ho : ObjOK w lim G objs 0 r o) (h : SD w o r b n) (k : SD w o r b m) : n = m := by
  cases o <;> simp only [SD] at h k
  simp only [ObjOK] at ho
  have hnd := ho.1.2.1
  rw [List.nodup_append] at hnd
  rcases h with h | h <;> rcases k with k | k
  · rw [h.2, k.2]
  · exact absurd rfl (hnd.2.2 b (by rw [h.1]; simp) b k.1)
  · exact absurd rfl (hnd.2.2 b (by rw [k.1]; simp) b h.1)
  · rw [h.2, k.2]
theorem SD_lim (ho : ObjOK w lim G objs 0 r o) (h : SD w o r b n) : lim b = 0 := by
  have hb := (SD_blk h).2
  cases o <;> simp only [SD] at h
  simp only [ObjOK] at ho; exact ho.1.2.2 b hb
theorem toSd_ok (ho : ObjOK w lim G objs 0 r o) (hs : ∀ b n, SD w o r b n → lim' b = n) (hx : (∀ b n, ¬ SD w o r b n) → ObjOK w lim' G objs 0 r o) : ObjOK w lim' G objs 0 r o.toSd := by
  cases o with
  | deep te t xs =>
    simp only [ObjOK] at ho
    simp only [AObj.toSd, ObjOK]
    exact ⟨⟨ho.1.1, ho.1.2.1, fun g hg => hs g _ (.inl ⟨hg, rfl⟩), fun g hg => hs g _ (.inr ⟨hg, rfl⟩)⟩, fun _ _ => Nat.zero_le _⟩
  | _ => exact hx fun _ _ h => h
theorem toSd_Blk {g : Nat} (h : Blk o.toSd r g) : Blk o r g := by
  cases o <;> exact h
end

theorem sat_sd {cx : Cx} {σ : St} {a : Act} {w : World} (h : Sat cx σ a w) : Sat cx σ.toSd a w := by
  classical
  obtain ⟨lim, G, hh, hf⟩ := h
  let Pr : Nat → Nat → Prop := fun b n => ∃ i, SD w (σ.objs i) (G i) b n
  let lim' : Nat → Nat := fun b => if h : ∃ n, Pr b n then h.choose else lim b
  have hin : ∀ b n, Pr b n → lim' b = n := by
    intro b n hp
    have hex : ∃ n, Pr b n := ⟨n, hp⟩
    show (if h : ∃ n, Pr b n then h.choose else lim b) = n
    rw [dif_pos hex]
    obtain ⟨i, h1⟩ := hex.choose_spec
    obtain ⟨j, k1⟩ := hp
    by_cases hij : i = j
    · subst hij
      exact SD_uniq (hh.obj i) h1 k1
    · exact absurd (SD_blk k1).2 (hh.sep i j b hij (SD_blk h1).1 (SD_blk k1).1 (SD_blk h1).2)
  have hout : ∀ b, (¬ ∃ n, Pr b n) → lim' b = lim b := by
    intro b hp
    show (if h : ∃ n, Pr b n then h.choose else lim b) = _
    rw [dif_neg hp]
  have other : ∀ i g, (σ.objs i).live = true → (∀ n, ¬ SD w (σ.objs i) (G i) g n) → Blk (σ.objs i) (G i) g → lim' g = lim g := by
    intro i g hl hna hg
    apply hout
    rintro ⟨n, j, h1⟩
    by_cases hij : i = j
    · subst hij; exact hna n h1
    · exact hh.sep i j g hij hl (SD_blk h1).1 hg (SD_blk h1).2
  have hk : Keeps w lim w lim' := by
    refine ⟨fun _ _ hc _ => hc, fun b _ => ?_⟩
    by_cases hp : ∃ n, Pr b n
    · obtain ⟨n, i, h1⟩ := hp
      rw [SD_lim (hh.obj i) h1]
      exact Nat.zero_le _
    · rw [hout b hp]; exact Nat.le_refl _
  have sl : ∀ i, (σ.toSd.objs i).live = (σ.objs i).live := fun i => toSd_live _
  have sb : ∀ i, (σ.toSd.objs i).born = (σ.objs i).born := fun i => toSd_born _
  have sk : ∀ i g, Blk (σ.toSd.objs i) (G i) g → Blk (σ.objs i) (G i) g := fun i g hg => toSd_Blk hg
  have he : Ext G σ.objs G σ.toSd.objs := by
    intro i hb
    exact ⟨by rw [sb]; exact hb, fun hl => ⟨by rw [← sl]; exact hl, rfl⟩⟩
  refine ⟨lim', G, ⟨hh.start, hh.below, fun b hb hL => ?_, fun i => ?_, fun i j g hij hi hj hg hg' => ?_, fun i g hi hg => hh.mine i g (by rw [← sl]; exact hi) (sk i g hg), fun j r hr => ⟨(he j (hh.lent j r hr).1).1, (hh.lent j r hr).2⟩, fun j r hr => by
    have := hh.nob j r hr
    show (σ.objs j).toSd.isBld = false
    revert this
    cases σ.objs j <;> first | exact fun h => h | exact fun _ => rfl⟩, hf.keeps hk he⟩
  · rw [hout b]
    · exact hh.lim0 b hb hL
    · rintro ⟨n, i, h1⟩
      rcases hh.mine i b (SD_blk h1).1 (SD_blk h1).2 with h | h
      · omega
      · exact hL h
  · have ho := hh.obj i
    have same : (∀ g n, ¬ SD w (σ.objs i) (G i) g n) → ObjOK w lim' G σ.toSd.objs 0 (G i) (σ.objs i) := by
      intro hna
      cases hl : (σ.objs i).live with
      | true => exact ho.keeps hk he fun g hg => ⟨rfl, other i g hl (hna g) hg⟩
      | false => cases hoi : σ.objs i <;> rw [hoi] at hl <;> first | (simp only [ObjOK]; done) | cases hl
    have e : ObjOK w lim G σ.toSd.objs 0 (G i) (σ.objs i) := ho.keeps (Keeps.refl w lim) he fun _ _ => ⟨rfl, rfl⟩
    exact toSd_ok e (fun b n h => hin b n ⟨i, h⟩) same
  · exact hh.sep i j g hij (by rw [← sl]; exact hi) (by rw [← sl]; exact hj) (sk i g hg) (sk j g hg')

def sdL : List (Nat × AObj) → List (Nat × AObj)
  | [] => []
  | p :: r => (p.1, p.2.toSd) :: sdL r
theorem sdL_lk (i : Nat) : ∀ ob : List (Nat × AObj), lkO (sdL ob) i = (lkO ob i).toSd
  | [] => rfl
  | p :: r => by
    simp only [sdL, lkO]
    cases Nat.beq i p.1 with
    | true => rfl
    | false => exact sdL_lk i r
@[go_sem ↓] theorem sd_shp (tm : List (Nat × AV)) (ob : List (Nat × AObj)) : (shp tm ob).toSd = shp tm (sdL ob) := by
  unfold shp St.toSd
  congr 1
  funext i
  exact (sdL_lk i ob).symm

theorem loopQ_sd {P : Program} {cx : Cx} {c : Code} {Q : Exit → St → Prop} {tm : List (Nat × AV)} {ob ob' : List (Nat × AObj)} (e : sdL ob = ob') (h : loopQ P cx c Q (shp tm ob') ⟨⟩ ⟨⟩ ⟨⟩) : loopQ P cx c Q (shp tm ob) ⟨⟩ ⟨⟩ ⟨⟩ :=
  loopQ_intro fun a w hs => by
    subst e
    have h2 := h
    unfold loopQ at h2
    refine h2 a w ?_
    rw [← sd_shp]
    exact sat_sd hs

theorem sub_sd {cx : Cx} {σ σ' : St} (h : Sub cx σ.toSd σ') : Sub cx σ σ' := fun a w hs => h a w (sat_sd hs)
attribute [go_sem] sdL AObj.toSd

/-! ### Given out unsettled -/

mutual
/-- What hangs on nothing that is settled. -/
def thA : AV → AV
  | .own i => .own i
  | .bp i off => .bp i off
  | .nils => .nils
  | .agg cs => .agg (thL cs)
  | .tup cs => .tup (thL cs)
  | .rd t x => bif t.noL then .rd t x else .any
  | _ => .any
def thL : List AV → List AV
  | [] => []
  | a :: r => thA a :: thL r
end
def AObj.thaw : AObj → AObj
  | .sd te t xs => .deep te t xs
  | .box T cs => .box T (thL cs)
  | .unborn => .unborn
  | _ => .dead
theorem thaw_born (o : AObj) : o.thaw.born = o.born := by cases o <;> rfl
theorem thaw_live {o : AObj} (h : o.thaw.live = true) : o.live = true := by cases o <;> first | rfl | exact h
theorem thaw_Blk {o : AObj} {r : Rt} {g : Nat} (hl : o.thaw.live = true) (h : Blk o.thaw r g) : Blk o r g := by
  cases o <;> first | exact h | cases hl
def St.thaw (σ : St) : St := ⟨fun t => thA (σ.tmps t), fun i => (σ.objs i).thaw⟩

mutual
theorem thA_ok {w : World} {lim lim' : Nat → Nat} {G : Nat → Rt} {objs objs' : Nat → AObj} (he : Ext G objs G objs') : ∀ (a : AV) (v : Value), AVok w lim G objs a v → AVok w lim' G objs' (thA a) v
  | .own id, v, h => by
    simp only [AVok] at h
    simp only [thA, AVok]
    obtain ⟨hb, hl⟩ := h
    obtain ⟨h1, h2⟩ := he id hb
    exact ⟨h1, fun k => hl (h2 k).1⟩
  | .bp id off, v, h => by
    simp only [AVok] at h
    simp only [thA, AVok]
    obtain ⟨hb, hl⟩ := h
    obtain ⟨h1, h2⟩ := he id hb
    exact ⟨h1, fun k => hl (h2 k).1⟩
  | .nils, v, h => by
    simp only [AVok] at h
    simp only [thA, AVok]
    exact h
  | .agg cs, v, h => by
    simp only [AVok] at h
    simp only [thA, AVok]
    obtain ⟨arr, h1, h2⟩ := h
    exact ⟨arr, h1, thL_ok he cs arr h2⟩
  | .tup cs, v, h => by
    simp only [AVok] at h
    simp only [thA, AVok]
    obtain ⟨arr, h1, h2⟩ := h
    exact ⟨arr, h1, thL_ok he cs arr h2⟩
  | .rd t x, v, h => by
    simp only [thA]
    cases hn : t.noL with
    | true =>
      simp only [AVok] at h
      simp only [cond_true, AVok]
      exact h.noL hn
    | false => simp only [cond_false, AVok]
  | .any, v, h => by simp only [thA, AVok]
  | .ptr t x, v, h => by simp only [thA, AVok]
  | .ep a b c, v, h => by simp only [thA, AVok]
  | .ef a b c d, v, h => by simp only [thA, AVok]
  | .gd c a, v, h => by simp only [thA, AVok]
  | .fn f cs, v, h => by simp only [thA, AVok]
theorem thL_ok {w : World} {lim lim' : Nat → Nat} {G : Nat → Rt} {objs objs' : Nat → AObj} (he : Ext G objs G objs') : ∀ (cs : List AV) (vs : List Value), AVsOk w lim G objs cs vs → AVsOk w lim' G objs' (thL cs) vs
  | [], vs, h => by
    simp only [AVsOk] at h
    simp only [thL, AVsOk]
    exact h
  | a :: r, vs, h => by
    simp only [AVsOk] at h
    simp only [thL, AVsOk]
    obtain ⟨v, q, h1, h2, h3⟩ := h
    exact ⟨v, q, h1, thA_ok he a v h2, thL_ok he r q h3⟩
end

def SB : AObj → Rt → Nat → Prop
  | .sd _ _ _, r, b => b ∈ (blk r.v).toList ++ r.fp
  | _, _, _ => False
theorem SB_blk {o : AObj} {r : Rt} {b : Nat} (h : SB o r b) : o.live = true ∧ Blk o r b := by
  cases o <;> simp only [SB] at h
  exact ⟨rfl, h⟩

theorem sat_thaw {cx : Cx} {σ : St} {a : Act} {w : World} (hR : ∀ j, cx.R j = none) (hF : ∀ p, ¬ cx.F p) (h : Sat cx σ a w) : Sat cx σ.thaw a w := by
  classical
  obtain ⟨lim, G, hh, hf⟩ := h
  let lim' : Nat → Nat := fun b => if ∃ i, SB (σ.objs i) (G i) b then 0 else lim b
  have hin : ∀ b, (∃ i, SB (σ.objs i) (G i) b) → lim' b = 0 := fun b h => if_pos h
  have hout : ∀ b, (¬ ∃ i, SB (σ.objs i) (G i) b) → lim' b = lim b := fun b h => if_neg h
  have he : Ext G σ.objs G σ.thaw.objs := fun i hb => ⟨by show (σ.objs i).thaw.born = true; rw [thaw_born]; exact hb, fun hl => ⟨thaw_live hl, rfl⟩⟩
  refine ⟨lim', G, ⟨hh.start, hh.below, fun b hb hL => ?_, fun i => ?_, fun i j g hij hi hj hg hg' => hh.sep i j g hij (thaw_live hi) (thaw_live hj) (thaw_Blk hi hg) (thaw_Blk hj hg'), fun i g hi hg => hh.mine i g (thaw_live hi) (thaw_Blk hi hg),
    fun j r hr => (by rw [hR j] at hr; cases hr), fun j r hr => (by rw [hR j] at hr; cases hr)⟩, ⟨hf.size, hf.defers, fun t => thA_ok he _ _ (hf.tmp t), fun p hp => absurd hp (hF p)⟩⟩
  · rw [hout b]
    · exact hh.lim0 b hb hL
    · rintro ⟨i, h1⟩
      rcases hh.mine i b (SB_blk h1).1 (SB_blk h1).2 with h | h
      · omega
      · exact hL h
  · have ho := hh.obj i
    show ObjOK w lim' G σ.thaw.objs 0 (G i) (σ.objs i).thaw
    cases hoi : σ.objs i with
    | sd te t xs =>
      rw [hoi] at ho
      simp only [ObjOK] at ho
      simp only [AObj.thaw, ObjOK]
      exact ⟨⟨ho.1.1, ho.1.2.1, fun g hg => hin g ⟨i, by rw [hoi]; exact hg⟩⟩, fun _ _ => Nat.zero_le _⟩
    | box T cs =>
      rw [hoi] at ho
      simp only [ObjOK] at ho
      simp only [AObj.thaw, ObjOK]
      obtain ⟨g, arr, hr, hb, h2, h3, hc⟩ := ho
      refine ⟨g, arr, hr, hb, h2, ?_, thL_ok he _ _ hc⟩
      by_cases hp : ∃ i, SB (σ.objs i) (G i) g
      · exact hin g hp
      · rw [hout g hp]; exact h3
    | _ => simp only [AObj.thaw, ObjOK]

def thT : List (Nat × AV) → List (Nat × AV)
  | [] => []
  | p :: r => (p.1, thA p.2) :: thT r
theorem thT_lk (i : Nat) : ∀ tm : List (Nat × AV), lkT (thT tm) i = thA (lkT tm i)
  | [] => rfl
  | p :: r => by
    simp only [thT, lkT]
    cases Nat.beq i p.1 with
    | true => rfl
    | false => exact thT_lk i r
def thO : List (Nat × AObj) → List (Nat × AObj)
  | [] => []
  | p :: r => (p.1, p.2.thaw) :: thO r
theorem thO_lk (i : Nat) : ∀ ob : List (Nat × AObj), lkO (thO ob) i = (lkO ob i).thaw
  | [] => rfl
  | p :: r => by
    simp only [thO, lkO]
    cases Nat.beq i p.1 with
    | true => rfl
    | false => exact thO_lk i r
@[go_sem ↓] theorem thaw_shp (tm : List (Nat × AV)) (ob : List (Nat × AObj)) : (shp tm ob).thaw = shp (thT tm) (thO ob) := by
  unfold shp St.thaw
  congr 1
  · funext i
    exact (thT_lk i tm).symm
  · funext i
    exact (thO_lk i ob).symm

def retT (P : Program) (tb : Tb) (rs : List ResultVar) (rv : RV) (σ : St) : Prop := retS P tb rs rv σ.thaw
attribute [go_sem] retT thT thO thA thL AObj.thaw

/-- A function, by its body; the rows that grew settled are given out unsettled. -/
theorem fun_ofT' {P : Program} {tb : Tb} {f : FuncId} {fn : Func} {c : Code} {N : Nat} {rs : List ResultVar} {args : List TV} {rv : RV} (hm : P.follows .mixedOrders = true) (hf : P.funcs[f]? = some fn) (hn : (fn.name == "runtime.NumGoroutine") = false)
    (hN : fn.ntmps = N) (hr : fn.results = rs.toArray) (hb : fn.body = some c)
    (hl : Nat.ble args.length N = true)
    (h : ∀ cx : Cx, cx.is N [] → WFs args → aCode P tb cx N c (finQ (retT P tb rs rv)) (shp (initL 0 args) [])) : FunOK P f args rv := by
  subst hN
  refine fun_ofT (tb := tb) hf hn hb (Nat.le_of_ble_eq_true hl) fun cx hN hw => ?_
  have h1 := h cx hN hw
  rw [← hN.1] at h1
  have hR : ∀ j, cx.R j = none := fun j => by
    cases hj : cx.R j with
    | none => rfl
    | some r => exact absurd (hN.2.1 j r hj) (by simp)
  refine fun a w hsat => wp_mono (aCode_sound (cx := cx) hm h1 a w hsat) fun e a' w' ⟨σ, hq, hs'⟩ => ?_
  have fin : retT P tb rs rv σ → RetQ P tb fn.results.toList rv σ.thaw := by
    rintro ⟨q1, q2, q3⟩
    rw [hr]
    exact ⟨q1, _, q2, rvC_le σ.thaw.objs rv _ q3⟩
  refine ⟨σ.thaw, ?_, sat_thaw hR hN.2.2 hs'⟩
  cases e with
  | normal => exact fin hq
  | ret => exact fin hq
  | _ => exact hq
end Go.AL
/- What the functions that bring evidence together answer. It proves nothing of a statement by itself. -/
set_option linter.unusedSimpArgs false
set_option linter.unusedVariables false
set_option maxRecDepth 100000
namespace Go.Proofs.Ytfkdkblbhilghaa
open Go.AL
noncomputable def jnF {α : Type} (o l : List α) : List α := l.foldl (fun o s => if o.any (fun x => eqC x s) = true then o else o ++ [s]) o
theorem jn_step {α : Type} (o l : List α) {k : Nat} (hk : k < l.length) (x0 : α) : jnF o (l.take (k + 1)) = if (jnF o (l.take k)).any (fun x => eqC x (l.getD k x0)) = true then jnF o (l.take k) else jnF o (l.take k) ++ [l.getD k x0] := by
  rw [← take_snoc hk x0]
  unfold jnF
  rw [List.foldl_append]
  rfl
theorem jn_y {α : Type} {o l : List α} {k : Nat} (hk : k < l.length) (x0 : α) (h : (jnF o (l.take k)).any (fun x => eqC x (l.getD k x0)) = true) : jnF o (l.take (k + 1)) = jnF o (l.take k) := by rw [jn_step o l hk x0, if_pos h]
theorem jn_n {α : Type} {o l : List α} {k : Nat} (hk : k < l.length) (x0 : α) (h : (jnF o (l.take k)).any (fun x => eqC x (l.getD k x0)) = false) : jnF o (l.take (k + 1)) = jnF o (l.take k) ++ [l.getD k x0] := by rw [jn_step o l hk x0, if_neg (by rw [h]; decide)]
theorem jn_len {α : Type} (o l : List α) : (jnF o l).length ≤ o.length + l.length := by
  unfold jnF
  induction l generalizing o with
  | nil => simp
  | cons s l ih =>
    rw [List.foldl_cons]
    refine Nat.le_trans (ih _) ?_
    split
    · rw [List.length_cons]; omega
    · rw [List.length_append, List.length_cons, List.length_cons, List.length_nil]; omega
theorem any_snoc {α : Type} {l : List α} {k : Nat} (hk : k < l.length) (x0 : α) (f : α → Bool) : (l.take (k + 1)).any f = ((l.take k).any f || f (l.getD k x0)) := by
  rw [← take_snoc hk x0, List.any_append]
  simp
theorem spec_JoinEvidence_ok (a b : tEvidence.den) (ha : Small tEvidence 1048576 a) (hb : Small tEvidence 1048576 b) : FunOK Try.prog 51 [⟨tEvidence, a⟩, ⟨tEvidence, b⟩] (.agg [.own 36 tStrand (jnF a.1 b.1), .own 64 (.list tStamp) (jnF a.2.1 b.2.1)]) := by
  have la1 : a.1.length ≤ 1048576 := ha.1.1
  have la2 : a.2.1.length ≤ 1048576 := ha.2.1.1
  have lb1 : b.1.length ≤ 1048576 := hb.1.1
  have lb2 : b.2.1.length ≤ 1048576 := hb.2.1.1
  have hq : ∀ s, s ∈ b.1 → Small tStrand 1048576 s := hb.1.2
  have hq2 : ∀ l, l ∈ b.2.1 → l.length ≤ 1048576 := fun l hl => (hb.2.1.2 l hl).1
  refine fun_of (tb := tb) follows Try.func51 (by kernel_rfl) Try.ntmps51 rfl rfl rfl ?_; intro cx hN hw
  simp (disch := exact eqId (by kernel_rfl)) only [go_sem, ↓reduceIte, Nat.reduceAdd, Nat.reduceMul, Nat.reduceLT, Nat.reduceBEq, Nat.reduceLeDiff, Nat.reduceEqDiff, Int.reduceToNat]
  repeat' (first | (refine And.intro ?_ ?_) | intro _ | (refine callQ_intro (spec_l23Copy_ok _ ha) ?_; try (simp (disch := exact eqId (by kernel_rfl)) only [go_sem, ↓reduceIte, Nat.reduceAdd, Nat.reduceMul, Nat.reduceLT, Nat.reduceBEq, Nat.reduceLeDiff, Nat.reduceEqDiff, Int.reduceToNat])) | (refine callH_intro (fun hcc => spec_l23Copy_ok _ ha) ?_; try (simp (disch := exact eqId (by kernel_rfl)) only [go_sem, ↓reduceIte, Nat.reduceAdd, Nat.reduceMul, Nat.reduceLT, Nat.reduceBEq, Nat.reduceLeDiff, Nat.reduceEqDiff, Int.reduceToNat])))
  refine loop_intro (tb := tb) follows hN (D := Nat) (fun d => shp [(3, .bp 10016 0), (4, .bp 10032 0), (5, .bp 20032 0), (6, .rd I (d : Int))] [(10016, .box 81 [.rd (.list tStrand) b.1, .rd (.list (.list tStamp)) b.2.1]), (10032, .box 81 [.nils, .nils]), (20016, .row 36 tStrand (jnF a.1 (List.take d b.1))), (20017, .row 64 (.list tStamp) a.2.1), (20032, .box 81 [.own 20016, .own 20017])]) (fun d => d ≤ List.length b.1) (fun d => List.length b.1 - d) (0) ?_ (sub_shp hN [(10016, some 10016), (10032, some 10032), (20032, some 20032), (20016, some 20016), (20017, some 20017)] ?_) (fun d hd => ?_)
  · exact Nat.zero_le _
  · simp (disch := exact eqId (by kernel_rfl)) only [go_sem, ↓reduceIte, Nat.reduceAdd, Nat.reduceMul, Nat.reduceLT, Nat.reduceBEq, Nat.reduceLeDiff, Nat.reduceEqDiff, Int.reduceToNat]
    all_goals (try exact ⟨⟨rfl, rfl⟩, rfl⟩)
    all_goals (try exact ⟨rfl, rfl⟩)
    all_goals (try rfl)
  · obtain ⟨c, hc⟩ : ∃ c, c = d := ⟨d, rfl⟩
    subst hc
    have hll := jn_len a.1 (List.take c b.1)
    have hlt : (List.take c b.1).length ≤ List.length b.1 := by rw [List.length_take]; omega
    simp (disch := exact eqId (by kernel_rfl)) only [go_sem, ↓reduceIte, Nat.reduceAdd, Nat.reduceMul, Nat.reduceLT, Nat.reduceBEq, Nat.reduceLeDiff, Nat.reduceEqDiff, Int.reduceToNat]
    repeat' (first | (refine And.intro ?_ ?_) | intro _)
    all_goals (try omega)
    · rename_i hk
      have hk : c < List.length b.1 := by omega
      refine loop_intro (tb := tb) follows hN (D := Nat) (fun d => shp [(3, .bp 10016 0), (4, .bp 10032 0), (5, .bp 20032 0), (6, .rd I (c : Int)), (7, .rd .bool (List.any (List.take d (jnF a.1 (List.take c b.1))) (fun x => eqC x (List.getD b.1 c ([], [], ()))))), (8, .rd I (d : Int))] [(10016, .box 81 [.rd (.list tStrand) b.1, .rd (.list (.list tStamp)) b.2.1]), (10032, .box 81 [.nils, .nils]), (20016, .row 36 tStrand (jnF a.1 (List.take c b.1))), (20017, .row 64 (.list tStamp) a.2.1), (20032, .box 81 [.own 20016, .own 20017])]) (fun d => d ≤ List.length (jnF a.1 (List.take c b.1))) (fun d => List.length (jnF a.1 (List.take c b.1)) - d) (0) ?_ (sub_shp hN [(10016, some 10016), (10032, some 10032), (20032, some 20032), (20016, some 20016), (20017, some 20017)] ?_) (fun d hd => ?_)
      · exact Nat.zero_le _
      · simp (disch := exact eqId (by kernel_rfl)) only [go_sem, ↓reduceIte, Nat.reduceAdd, Nat.reduceMul, Nat.reduceLT, Nat.reduceBEq, Nat.reduceLeDiff, Nat.reduceEqDiff, Int.reduceToNat]
        try exact ⟨rfl, rfl⟩
        try rfl
      · simp (disch := exact eqId (by kernel_rfl)) only [go_sem, ↓reduceIte, Nat.reduceAdd, Nat.reduceMul, Nat.reduceLT, Nat.reduceBEq, Nat.reduceLeDiff, Nat.reduceEqDiff, Int.reduceToNat]
        repeat' (first | (refine And.intro ?_ ?_) | intro _ | (refine callQ_intro (spec_EqualStrands_ok _ _) ?_; try (simp (disch := exact eqId (by kernel_rfl)) only [go_sem, ↓reduceIte, Nat.reduceAdd, Nat.reduceMul, Nat.reduceLT, Nat.reduceBEq, Nat.reduceLeDiff, Nat.reduceEqDiff, Int.reduceToNat])) | (refine callH_intro (fun hcc => spec_EqualStrands_ok _ _) ?_; try (simp (disch := exact eqId (by kernel_rfl)) only [go_sem, ↓reduceIte, Nat.reduceAdd, Nat.reduceMul, Nat.reduceLT, Nat.reduceBEq, Nat.reduceLeDiff, Nat.reduceEqDiff, Int.reduceToNat])) | (refine callQ_intro (l20Copy_own _ (hq _ (getD_mem hk _))) ?_; try (simp (disch := exact eqId (by kernel_rfl)) only [go_sem, ↓reduceIte, Nat.reduceAdd, Nat.reduceMul, Nat.reduceLT, Nat.reduceBEq, Nat.reduceLeDiff, Nat.reduceEqDiff, Int.reduceToNat])) | (refine callH_intro (fun hcc => l20Copy_own _ (hq _ (getD_mem hk _))) ?_; try (simp (disch := exact eqId (by kernel_rfl)) only [go_sem, ↓reduceIte, Nat.reduceAdd, Nat.reduceMul, Nat.reduceLT, Nat.reduceBEq, Nat.reduceLeDiff, Nat.reduceEqDiff, Int.reduceToNat])))
        all_goals (try omega)
        all_goals (try (simp only [List.length_append, List.length_cons, List.length_nil, List.length_take]; omega))
        all_goals (try (have := (hq _ (getD_mem hk ([], [], ()))).1.1; omega))
        · rename_i q
          refine back_intro (d + 1) ?_ ?_ (sub_shp hN [(10016, some 10016), (10032, some 10032), (20032, some 20032), (20016, some 20016), (20017, some 20017)] ?_)
          · omega
          · omega
          · simp (disch := exact eqId (by kernel_rfl)) only [go_sem, ↓reduceIte, Nat.reduceAdd, Nat.reduceMul, Nat.reduceLT, Nat.reduceBEq, Nat.reduceLeDiff, Nat.reduceEqDiff, Int.reduceToNat]
            refine ⟨?_, wrap_succ' (by omega)⟩
            exact (any_snoc (show d < List.length (jnF a.1 (List.take c b.1)) by omega) ([], [], ()) (fun x => eqC x (List.getD b.1 c ([], [], ())))).symm
        · rename_i q1 q2
          have q2 : List.any (List.take d (jnF a.1 (List.take c b.1))) (fun x => eqC x (List.getD b.1 c ([], [], ()))) = false := q2
          rw [List.take_of_length_le (show List.length (jnF a.1 (List.take c b.1)) ≤ d by omega)] at q2
          refine back_intro (c + 1) ?_ ?_ (sub_shp hN [(10016, some 10016), (10032, some 10032), (20032, some 20032), (20016, some 120144), (20017, some 20017)] ?_)
          · omega
          · omega
          · simp (disch := exact eqId (by kernel_rfl)) only [go_sem, ↓reduceIte, Nat.reduceAdd, Nat.reduceMul, Nat.reduceLT, Nat.reduceBEq, Nat.reduceLeDiff, Nat.reduceEqDiff, Int.reduceToNat]
            refine ⟨?_, wrap_succ' (by omega)⟩
            first | exact (jn_n hk ([], [], ()) q2).symm | exact congrArg (AObj.sd TE _) (jn_n hk ([], [], ()) q2).symm
        · rename_i q1 q2
          have q2 : List.any (List.take d (jnF a.1 (List.take c b.1))) (fun x => eqC x (List.getD b.1 c ([], [], ()))) = true := q2
          rw [List.take_of_length_le (show List.length (jnF a.1 (List.take c b.1)) ≤ d by omega)] at q2
          refine back_intro (c + 1) ?_ ?_ (sub_shp hN [(10016, some 10016), (10032, some 10032), (20032, some 20032), (20016, some 20016), (20017, some 20017)] ?_)
          · omega
          · omega
          · simp (disch := exact eqId (by kernel_rfl)) only [go_sem, ↓reduceIte, Nat.reduceAdd, Nat.reduceMul, Nat.reduceLT, Nat.reduceBEq, Nat.reduceLeDiff, Nat.reduceEqDiff, Int.reduceToNat]
            refine ⟨?_, wrap_succ' (by omega)⟩
            first | exact (jn_y hk ([], [], ()) q2).symm | exact congrArg (AObj.sd TE _) (jn_y hk ([], [], ()) q2).symm
        all_goals trace_state
    · rename_i hk
      rw [List.take_of_length_le (show List.length b.1 ≤ c by omega)]
      refine loop_intro (tb := tb) follows hN (D := Nat) (fun d => shp [(3, .bp 10016 0), (4, .bp 10032 0), (5, .bp 20032 0), (9, .rd I (d : Int))] [(10016, .box 81 [.rd (.list tStrand) b.1, .rd (.list (.list tStamp)) b.2.1]), (10032, .box 81 [.nils, .nils]), (20016, .row 36 tStrand (jnF a.1 b.1)), (20017, .row 64 (.list tStamp) (jnF a.2.1 (List.take d b.2.1))), (20032, .box 81 [.own 20016, .own 20017])]) (fun d => d ≤ List.length b.2.1) (fun d => List.length b.2.1 - d) (0) ?_ (sub_shp hN [(10016, some 10016), (10032, some 10032), (20032, some 20032), (20016, some 20016), (20017, some 20017)] ?_) (fun d hd => ?_)
      · exact Nat.zero_le _
      · simp (disch := exact eqId (by kernel_rfl)) only [go_sem, ↓reduceIte, Nat.reduceAdd, Nat.reduceMul, Nat.reduceLT, Nat.reduceBEq, Nat.reduceLeDiff, Nat.reduceEqDiff, Int.reduceToNat]
        all_goals (try exact ⟨⟨rfl, rfl⟩, rfl⟩)
        all_goals (try exact ⟨rfl, rfl⟩)
        all_goals (try rfl)
      · obtain ⟨c, hc⟩ : ∃ c, c = d := ⟨d, rfl⟩
        subst hc
        have hll := jn_len a.2.1 (List.take c b.2.1)
        have hlt : (List.take c b.2.1).length ≤ List.length b.2.1 := by rw [List.length_take]; omega
        simp (disch := exact eqId (by kernel_rfl)) only [go_sem, ↓reduceIte, Nat.reduceAdd, Nat.reduceMul, Nat.reduceLT, Nat.reduceBEq, Nat.reduceLeDiff, Nat.reduceEqDiff, Int.reduceToNat]
        repeat' (first | (refine And.intro ?_ ?_) | intro _)
        all_goals (try omega)
        · rename_i hk
          have hk : c < List.length b.2.1 := by omega
          refine loop_intro (tb := tb) follows hN (D := Nat) (fun d => shp [(3, .bp 10016 0), (4, .bp 10032 0), (5, .bp 20032 0), (9, .rd I (c : Int)), (10, .rd .bool (List.any (List.take d (jnF a.2.1 (List.take c b.2.1))) (fun x => eqC x (List.getD b.2.1 c [])))), (11, .rd I (d : Int))] [(10016, .box 81 [.rd (.list tStrand) b.1, .rd (.list (.list tStamp)) b.2.1]), (10032, .box 81 [.nils, .nils]), (20016, .row 36 tStrand (jnF a.1 b.1)), (20017, .row 64 (.list tStamp) (jnF a.2.1 (List.take c b.2.1))), (20032, .box 81 [.own 20016, .own 20017])]) (fun d => d ≤ List.length (jnF a.2.1 (List.take c b.2.1))) (fun d => List.length (jnF a.2.1 (List.take c b.2.1)) - d) (0) ?_ (sub_shp hN [(10016, some 10016), (10032, some 10032), (20032, some 20032), (20016, some 20016), (20017, some 20017)] ?_) (fun d hd => ?_)
          · exact Nat.zero_le _
          · simp (disch := exact eqId (by kernel_rfl)) only [go_sem, ↓reduceIte, Nat.reduceAdd, Nat.reduceMul, Nat.reduceLT, Nat.reduceBEq, Nat.reduceLeDiff, Nat.reduceEqDiff, Int.reduceToNat]
            try exact ⟨rfl, rfl⟩
            try rfl
          · simp (disch := exact eqId (by kernel_rfl)) only [go_sem, ↓reduceIte, Nat.reduceAdd, Nat.reduceMul, Nat.reduceLT, Nat.reduceBEq, Nat.reduceLeDiff, Nat.reduceEqDiff, Int.reduceToNat]
            repeat' (first | (refine And.intro ?_ ?_) | intro _ | (refine callQ_intro (spec_l23Stamps_ok _ _) ?_; try (simp (disch := exact eqId (by kernel_rfl)) only [go_sem, ↓reduceIte, Nat.reduceAdd, Nat.reduceMul, Nat.reduceLT, Nat.reduceBEq, Nat.reduceLeDiff, Nat.reduceEqDiff, Int.reduceToNat])) | (refine callH_intro (fun hcc => spec_l23Stamps_ok _ _) ?_; try (simp (disch := exact eqId (by kernel_rfl)) only [go_sem, ↓reduceIte, Nat.reduceAdd, Nat.reduceMul, Nat.reduceLT, Nat.reduceBEq, Nat.reduceLeDiff, Nat.reduceEqDiff, Int.reduceToNat])))
            all_goals (try omega)
            all_goals (try (simp only [List.length_append, List.length_cons, List.length_nil, List.length_take]; omega))
            all_goals (try (have := hq2 _ (getD_mem hk []); omega))
            · rename_i q
              refine back_intro (d + 1) ?_ ?_ (sub_shp hN [(10016, some 10016), (10032, some 10032), (20032, some 20032), (20016, some 20016), (20017, some 20017)] ?_)
              · omega
              · omega
              · simp (disch := exact eqId (by kernel_rfl)) only [go_sem, ↓reduceIte, Nat.reduceAdd, Nat.reduceMul, Nat.reduceLT, Nat.reduceBEq, Nat.reduceLeDiff, Nat.reduceEqDiff, Int.reduceToNat]
                refine ⟨?_, wrap_succ' (by omega)⟩
                exact (any_snoc (show d < List.length (jnF a.2.1 (List.take c b.2.1)) by omega) [] (fun x => eqC x (List.getD b.2.1 c []))).symm
            · rename_i q1 q2
              have q2 : List.any (List.take d (jnF a.2.1 (List.take c b.2.1))) (fun x => eqC x (List.getD b.2.1 c [])) = false := q2
              rw [List.take_of_length_le (show List.length (jnF a.2.1 (List.take c b.2.1)) ≤ d by omega)] at q2
              refine back_intro (c + 1) ?_ ?_ (sub_shp hN [(10016, some 10016), (10032, some 10032), (20032, some 20032), (20016, some 20016), (20017, some 220160)] ?_)
              · omega
              · omega
              · simp (disch := exact eqId (by kernel_rfl)) only [go_sem, ↓reduceIte, Nat.reduceAdd, Nat.reduceMul, Nat.reduceLT, Nat.reduceBEq, Nat.reduceLeDiff, Nat.reduceEqDiff, Int.reduceToNat]
                refine ⟨?_, wrap_succ' (by omega)⟩
                first | exact (jn_n hk [] q2).symm | exact congrArg (AObj.sd TE _) (jn_n hk [] q2).symm
            · rename_i q1 q2
              have q2 : List.any (List.take d (jnF a.2.1 (List.take c b.2.1))) (fun x => eqC x (List.getD b.2.1 c [])) = true := q2
              rw [List.take_of_length_le (show List.length (jnF a.2.1 (List.take c b.2.1)) ≤ d by omega)] at q2
              refine back_intro (c + 1) ?_ ?_ (sub_shp hN [(10016, some 10016), (10032, some 10032), (20032, some 20032), (20016, some 20016), (20017, some 20017)] ?_)
              · omega
              · omega
              · simp (disch := exact eqId (by kernel_rfl)) only [go_sem, ↓reduceIte, Nat.reduceAdd, Nat.reduceMul, Nat.reduceLT, Nat.reduceBEq, Nat.reduceLeDiff, Nat.reduceEqDiff, Int.reduceToNat]
                refine ⟨?_, wrap_succ' (by omega)⟩
                first | exact (jn_y hk [] q2).symm | exact congrArg (AObj.sd TE _) (jn_y hk [] q2).symm
            all_goals trace_state
        rw [List.take_of_length_le (show List.length b.2.1 ≤ c by omega)]
        try exact .inl rfl
      all_goals trace_state

  all_goals trace_state
theorem impl_JoinEvidence_d (a b : tEvidence.den) (ha : Small tEvidence 1048576 a) (hb : Small tEvidence 1048576 b) : FunOK Try.prog 52 [⟨tEvidence, a⟩, ⟨tEvidence, b⟩] (.agg [.deep TE tStrand (jnF a.1 b.1), .deep TE (.list tStamp) (jnF a.2.1 b.2.1)]) := by
  have la1 : a.1.length ≤ 1048576 := ha.1.1
  have la2 : a.2.1.length ≤ 1048576 := ha.2.1.1
  have lb1 : b.1.length ≤ 1048576 := hb.1.1
  have lb2 : b.2.1.length ≤ 1048576 := hb.2.1.1
  have hq : ∀ s, s ∈ b.1 → Small tStrand 1048576 s := hb.1.2
  have hq2 : ∀ l, l ∈ b.2.1 → l.length ≤ 1048576 := fun l hl => (hb.2.1.2 l hl).1
  refine fun_ofT' (tb := tbd) follows Try.func52 (by kernel_rfl) Try.ntmps52 rfl rfl rfl ?_; intro cx hN hw
  simp (disch := exact eqId (by kernel_rfl)) only [go_sem, ↓reduceIte, Nat.reduceAdd, Nat.reduceMul, Nat.reduceLT, Nat.reduceBEq, Nat.reduceLeDiff, Nat.reduceEqDiff, Int.reduceToNat]
  repeat' (first | (refine And.intro ?_ ?_) | intro _ | (refine callQ_intro (impl_copyEvidence_d _ ha) ?_; try (simp (disch := exact eqId (by kernel_rfl)) only [go_sem, ↓reduceIte, Nat.reduceAdd, Nat.reduceMul, Nat.reduceLT, Nat.reduceBEq, Nat.reduceLeDiff, Nat.reduceEqDiff, Int.reduceToNat])) | (refine callH_intro (fun hcc => impl_copyEvidence_d _ ha) ?_; try (simp (disch := exact eqId (by kernel_rfl)) only [go_sem, ↓reduceIte, Nat.reduceAdd, Nat.reduceMul, Nat.reduceLT, Nat.reduceBEq, Nat.reduceLeDiff, Nat.reduceEqDiff, Int.reduceToNat])))
  refine loop_intro (tb := tbd) follows hN (D := Nat) (fun d => shp [(3, .bp 10016 0), (4, .bp 10032 0), (5, .bp 20032 0), (19, .rd (.list tStrand) (b.1)), (20, .rd I (((b.1).length : Int) : Int)), (21, .rd I (d : Int))] [(10016, .box 81 [.rd (.list tStrand) b.1, .rd (.list (.list tStamp)) b.2.1]), (10032, .box 81 [.nils, .nils]), (20016, .sd TE tStrand (jnF a.1 (List.take d b.1))), (20017, .sd TE (.list tStamp) a.2.1), (20032, .box 81 [.own 20016, .own 20017])]) (fun d => d ≤ List.length b.1) (fun d => List.length b.1 - d) (0) ?_ (sub_sd (sub_shp hN [(10016, some 10016), (10032, some 10032), (20032, some 20032), (20016, some 20016), (20017, some 20017)] ?_)) (fun d hd => ?_)
  · exact Nat.zero_le _
  · simp (disch := exact eqId (by kernel_rfl)) only [go_sem, ↓reduceIte, Nat.reduceAdd, Nat.reduceMul, Nat.reduceLT, Nat.reduceBEq, Nat.reduceLeDiff, Nat.reduceEqDiff, Int.reduceToNat]
    all_goals (try exact ⟨⟨rfl, rfl⟩, rfl⟩)
    all_goals (try exact ⟨rfl, rfl⟩)
    all_goals (try rfl)
  · obtain ⟨c, hc⟩ : ∃ c, c = d := ⟨d, rfl⟩
    subst hc
    have hll := jn_len a.1 (List.take c b.1)
    have hlt : (List.take c b.1).length ≤ List.length b.1 := by rw [List.length_take]; omega
    simp (disch := exact eqId (by kernel_rfl)) only [go_sem, ↓reduceIte, Nat.reduceAdd, Nat.reduceMul, Nat.reduceLT, Nat.reduceBEq, Nat.reduceLeDiff, Nat.reduceEqDiff, Int.reduceToNat]
    repeat' (first | (refine And.intro ?_ ?_) | intro _)
    all_goals (try omega)
    · rename_i hk
      have hk : c < List.length b.1 := by omega
      refine loop_intro (tb := tbd) follows hN (D := Nat) (fun d => shp [(3, .bp 10016 0), (4, .bp 10032 0), (5, .bp 20032 0), (7, .bp 50032 0), (8, .rd .bool (List.any (List.take d (jnF a.1 (List.take c b.1))) (fun x => eqC x (List.getD b.1 c ([], [], ()))))), (19, .rd (.list tStrand) (b.1)), (20, .rd I (((b.1).length : Int) : Int)), (21, .rd I (c : Int)), (26, .own 20016), (27, .rd I (List.length (jnF a.1 (List.take c b.1)) : Int)), (28, .rd I (d : Int))] [(10016, .box 81 [.rd (.list tStrand) b.1, .rd (.list (.list tStamp)) b.2.1]), (10032, .box 81 [.nils, .nils]), (20016, .sd TE tStrand (jnF a.1 (List.take c b.1))), (20017, .sd TE (.list tStamp) a.2.1), (20032, .box 81 [.own 20016, .own 20017]), (50032, .box 36 [.rd (.list tPiece) (List.getD b.1 c ([], [], ())).1, .rd (.list tRenewal) (List.getD b.1 c ([], [], ())).2.1])]) (fun d => d ≤ List.length (jnF a.1 (List.take c b.1))) (fun d => List.length (jnF a.1 (List.take c b.1)) - d) (0) ?_ (sub_shp hN [(10016, some 10016), (10032, some 10032), (20032, some 20032), (20016, some 20016), (20017, some 20017), (50032, some 50032)] ?_) (fun d hd => ?_)
      · exact Nat.zero_le _
      · simp (disch := exact eqId (by kernel_rfl)) only [go_sem, ↓reduceIte, Nat.reduceAdd, Nat.reduceMul, Nat.reduceLT, Nat.reduceBEq, Nat.reduceLeDiff, Nat.reduceEqDiff, Int.reduceToNat]
        try exact ⟨rfl, rfl⟩
        try rfl
      · simp (disch := exact eqId (by kernel_rfl)) only [go_sem, ↓reduceIte, Nat.reduceAdd, Nat.reduceMul, Nat.reduceLT, Nat.reduceBEq, Nat.reduceLeDiff, Nat.reduceEqDiff, Int.reduceToNat]
        repeat' (first | (refine And.intro ?_ ?_) | intro _ | (refine callQ_intro (impl_EqualStrands_ok _ _) ?_; try (simp (disch := exact eqId (by kernel_rfl)) only [go_sem, ↓reduceIte, Nat.reduceAdd, Nat.reduceMul, Nat.reduceLT, Nat.reduceBEq, Nat.reduceLeDiff, Nat.reduceEqDiff, Int.reduceToNat])) | (refine callH_intro (fun hcc => impl_EqualStrands_ok _ _) ?_; try (simp (disch := exact eqId (by kernel_rfl)) only [go_sem, ↓reduceIte, Nat.reduceAdd, Nat.reduceMul, Nat.reduceLT, Nat.reduceBEq, Nat.reduceLeDiff, Nat.reduceEqDiff, Int.reduceToNat])) | (refine callQ_intro (copyStrand_d _ (hq _ (getD_mem hk _))) ?_; try (simp (disch := exact eqId (by kernel_rfl)) only [go_sem, ↓reduceIte, Nat.reduceAdd, Nat.reduceMul, Nat.reduceLT, Nat.reduceBEq, Nat.reduceLeDiff, Nat.reduceEqDiff, Int.reduceToNat])) | (refine callH_intro (fun hcc => copyStrand_d _ (hq _ (getD_mem hk _))) ?_; try (simp (disch := exact eqId (by kernel_rfl)) only [go_sem, ↓reduceIte, Nat.reduceAdd, Nat.reduceMul, Nat.reduceLT, Nat.reduceBEq, Nat.reduceLeDiff, Nat.reduceEqDiff, Int.reduceToNat])))
        all_goals (try omega)
        all_goals (try (simp only [List.length_append, List.length_cons, List.length_nil, List.length_take]; omega))
        all_goals (try (have := (hq _ (getD_mem hk ([], [], ()))).1.1; omega))
        · rename_i q
          refine back_intro (d + 1) ?_ ?_ (sub_shp hN [(10016, some 10016), (10032, some 10032), (20032, some 20032), (20016, some 20016), (20017, some 20017), (50032, some 50032)] ?_)
          · omega
          · omega
          · simp (disch := exact eqId (by kernel_rfl)) only [go_sem, ↓reduceIte, Nat.reduceAdd, Nat.reduceMul, Nat.reduceLT, Nat.reduceBEq, Nat.reduceLeDiff, Nat.reduceEqDiff, Int.reduceToNat]
            refine ⟨?_, wrap_succ' (by omega)⟩
            exact (any_snoc (show d < List.length (jnF a.1 (List.take c b.1)) by omega) ([], [], ()) (fun x => eqC x (List.getD b.1 c ([], [], ())))).symm
        · rename_i q1 q2
          have q2 : List.any (List.take d (jnF a.1 (List.take c b.1))) (fun x => eqC x (List.getD b.1 c ([], [], ()))) = false := q2
          rw [List.take_of_length_le (show List.length (jnF a.1 (List.take c b.1)) ≤ d by omega)] at q2
          refine back_intro (c + 1) ?_ ?_ (sub_shp hN [(10016, some 10016), (10032, some 10032), (20032, some 20032), (20016, some 130080), (20017, some 20017)] ?_)
          · omega
          · omega
          · simp (disch := exact eqId (by kernel_rfl)) only [go_sem, ↓reduceIte, Nat.reduceAdd, Nat.reduceMul, Nat.reduceLT, Nat.reduceBEq, Nat.reduceLeDiff, Nat.reduceEqDiff, Int.reduceToNat]
            refine ⟨?_, wrap_succ' (by omega)⟩
            first | exact (jn_n hk ([], [], ()) q2).symm | exact congrArg (AObj.sd TE _) (jn_n hk ([], [], ()) q2).symm
        · rename_i q1 q2
          have q2 : List.any (List.take d (jnF a.1 (List.take c b.1))) (fun x => eqC x (List.getD b.1 c ([], [], ()))) = true := q2
          rw [List.take_of_length_le (show List.length (jnF a.1 (List.take c b.1)) ≤ d by omega)] at q2
          refine back_intro (c + 1) ?_ ?_ (sub_shp hN [(10016, some 10016), (10032, some 10032), (20032, some 20032), (20016, some 20016), (20017, some 20017)] ?_)
          · omega
          · omega
          · simp (disch := exact eqId (by kernel_rfl)) only [go_sem, ↓reduceIte, Nat.reduceAdd, Nat.reduceMul, Nat.reduceLT, Nat.reduceBEq, Nat.reduceLeDiff, Nat.reduceEqDiff, Int.reduceToNat]
            refine ⟨?_, wrap_succ' (by omega)⟩
            first | exact (jn_y hk ([], [], ()) q2).symm | exact congrArg (AObj.sd TE _) (jn_y hk ([], [], ()) q2).symm
        all_goals trace_state
    · rename_i hk
      rw [List.take_of_length_le (show List.length b.1 ≤ c by omega)]
      refine loop_intro (tb := tbd) follows hN (D := Nat) (fun d => shp [(4, .bp 10032 0), (5, .bp 20032 0), (50, .rd (.list (.list tStamp)) (b.2.1)), (51, .rd I (((b.2.1).length : Int) : Int)), (52, .rd I (d : Int))] [(10032, .box 81 [.nils, .nils]), (20016, .sd TE tStrand (jnF a.1 b.1)), (20017, .sd TE (.list tStamp) (jnF a.2.1 (List.take d b.2.1))), (20032, .box 81 [.own 20016, .own 20017])]) (fun d => d ≤ List.length b.2.1) (fun d => List.length b.2.1 - d) (0) ?_ (sub_shp hN [(10032, some 10032), (20032, some 20032), (20016, some 20016), (20017, some 20017)] ?_) (fun d hd => ?_)
      · exact Nat.zero_le _
      · simp (disch := exact eqId (by kernel_rfl)) only [go_sem, ↓reduceIte, Nat.reduceAdd, Nat.reduceMul, Nat.reduceLT, Nat.reduceBEq, Nat.reduceLeDiff, Nat.reduceEqDiff, Int.reduceToNat]
        all_goals (try exact ⟨⟨rfl, rfl⟩, rfl⟩)
        all_goals (try exact ⟨rfl, rfl⟩)
        all_goals (try rfl)
      · obtain ⟨c, hc⟩ : ∃ c, c = d := ⟨d, rfl⟩
        subst hc
        have hll := jn_len a.2.1 (List.take c b.2.1)
        have hlt : (List.take c b.2.1).length ≤ List.length b.2.1 := by rw [List.length_take]; omega
        simp (disch := exact eqId (by kernel_rfl)) only [go_sem, ↓reduceIte, Nat.reduceAdd, Nat.reduceMul, Nat.reduceLT, Nat.reduceBEq, Nat.reduceLeDiff, Nat.reduceEqDiff, Int.reduceToNat]
        repeat' (first | (refine And.intro ?_ ?_) | intro _)
        all_goals (try omega)
        · rename_i hk
          have hk : c < List.length b.2.1 := by omega
          refine loop_intro (tb := tbd) follows hN (D := Nat) (fun d => shp [(4, .bp 10032 0), (5, .bp 20032 0), (12, .rd (.list tStamp) (List.getD b.2.1 c [])), (13, .rd .bool (List.any (List.take d (jnF a.2.1 (List.take c b.2.1))) (fun x => eqC x (List.getD b.2.1 c [])))), (50, .rd (.list (.list tStamp)) (b.2.1)), (51, .rd I (((b.2.1).length : Int) : Int)), (52, .rd I (c : Int)), (57, .own 20017), (58, .rd I (List.length (jnF a.2.1 (List.take c b.2.1)) : Int)), (59, .rd I (d : Int))] [(10032, .box 81 [.nils, .nils]), (20016, .sd TE tStrand (jnF a.1 b.1)), (20017, .sd TE (.list tStamp) (jnF a.2.1 (List.take c b.2.1))), (20032, .box 81 [.own 20016, .own 20017])]) (fun d => d ≤ List.length (jnF a.2.1 (List.take c b.2.1))) (fun d => List.length (jnF a.2.1 (List.take c b.2.1)) - d) (0) ?_ (sub_shp hN [(10032, some 10032), (20032, some 20032), (20016, some 20016), (20017, some 20017)] ?_) (fun d hd => ?_)
          · exact Nat.zero_le _
          · simp (disch := exact eqId (by kernel_rfl)) only [go_sem, ↓reduceIte, Nat.reduceAdd, Nat.reduceMul, Nat.reduceLT, Nat.reduceBEq, Nat.reduceLeDiff, Nat.reduceEqDiff, Int.reduceToNat]
            try exact ⟨rfl, rfl⟩
            try rfl
          · simp (disch := exact eqId (by kernel_rfl)) only [go_sem, ↓reduceIte, Nat.reduceAdd, Nat.reduceMul, Nat.reduceLT, Nat.reduceBEq, Nat.reduceLeDiff, Nat.reduceEqDiff, Int.reduceToNat]
            repeat' (first | (refine And.intro ?_ ?_) | intro _ | (refine callQ_intro (impl_equalStamps_ok _ _) ?_; try (simp (disch := exact eqId (by kernel_rfl)) only [go_sem, ↓reduceIte, Nat.reduceAdd, Nat.reduceMul, Nat.reduceLT, Nat.reduceBEq, Nat.reduceLeDiff, Nat.reduceEqDiff, Int.reduceToNat])) | (refine callH_intro (fun hcc => impl_equalStamps_ok _ _) ?_; try (simp (disch := exact eqId (by kernel_rfl)) only [go_sem, ↓reduceIte, Nat.reduceAdd, Nat.reduceMul, Nat.reduceLT, Nat.reduceBEq, Nat.reduceLeDiff, Nat.reduceEqDiff, Int.reduceToNat])) | (refine callQ_intro (copyStamps_fr _ (hq2 _ (getD_mem hk _))) ?_; try (simp (disch := exact eqId (by kernel_rfl)) only [go_sem, ↓reduceIte, Nat.reduceAdd, Nat.reduceMul, Nat.reduceLT, Nat.reduceBEq, Nat.reduceLeDiff, Nat.reduceEqDiff, Int.reduceToNat])) | (refine callH_intro (fun hcc => copyStamps_fr _ (hq2 _ (getD_mem hk _))) ?_; try (simp (disch := exact eqId (by kernel_rfl)) only [go_sem, ↓reduceIte, Nat.reduceAdd, Nat.reduceMul, Nat.reduceLT, Nat.reduceBEq, Nat.reduceLeDiff, Nat.reduceEqDiff, Int.reduceToNat])))
            all_goals (try omega)
            all_goals (try (simp only [List.length_append, List.length_cons, List.length_nil, List.length_take]; omega))
            all_goals (try (have := hq2 _ (getD_mem hk []); omega))
            · rename_i q
              refine back_intro (d + 1) ?_ ?_ (sub_shp hN [(10032, some 10032), (20032, some 20032), (20016, some 20016), (20017, some 20017)] ?_)
              · omega
              · omega
              · simp (disch := exact eqId (by kernel_rfl)) only [go_sem, ↓reduceIte, Nat.reduceAdd, Nat.reduceMul, Nat.reduceLT, Nat.reduceBEq, Nat.reduceLeDiff, Nat.reduceEqDiff, Int.reduceToNat]
                refine ⟨?_, wrap_succ' (by omega)⟩
                exact (any_snoc (show d < List.length (jnF a.2.1 (List.take c b.2.1)) by omega) [] (fun x => eqC x (List.getD b.2.1 c []))).symm
            · rename_i q1 q2
              have q2 : List.any (List.take d (jnF a.2.1 (List.take c b.2.1))) (fun x => eqC x (List.getD b.2.1 c [])) = false := q2
              rw [List.take_of_length_le (show List.length (jnF a.2.1 (List.take c b.2.1)) ≤ d by omega)] at q2
              refine back_intro (c + 1) ?_ ?_ (sub_shp hN [(10032, some 10032), (20032, some 20032), (20016, some 20016), (20017, some 250080)] ?_)
              · omega
              · omega
              · simp (disch := exact eqId (by kernel_rfl)) only [go_sem, ↓reduceIte, Nat.reduceAdd, Nat.reduceMul, Nat.reduceLT, Nat.reduceBEq, Nat.reduceLeDiff, Nat.reduceEqDiff, Int.reduceToNat]
                refine ⟨?_, wrap_succ' (by omega)⟩
                first | exact (jn_n hk [] q2).symm | exact congrArg (AObj.sd TE _) (jn_n hk [] q2).symm
            · rename_i q1 q2
              have q2 : List.any (List.take d (jnF a.2.1 (List.take c b.2.1))) (fun x => eqC x (List.getD b.2.1 c [])) = true := q2
              rw [List.take_of_length_le (show List.length (jnF a.2.1 (List.take c b.2.1)) ≤ d by omega)] at q2
              refine back_intro (c + 1) ?_ ?_ (sub_shp hN [(10032, some 10032), (20032, some 20032), (20016, some 20016), (20017, some 20017)] ?_)
              · omega
              · omega
              · simp (disch := exact eqId (by kernel_rfl)) only [go_sem, ↓reduceIte, Nat.reduceAdd, Nat.reduceMul, Nat.reduceLT, Nat.reduceBEq, Nat.reduceLeDiff, Nat.reduceEqDiff, Int.reduceToNat]
                refine ⟨?_, wrap_succ' (by omega)⟩
                first | exact (jn_y hk [] q2).symm | exact congrArg (AObj.sd TE _) (jn_y hk [] q2).symm
            all_goals trace_state
        rw [List.take_of_length_le (show List.length b.2.1 ≤ c by omega)]
        try exact .inl rfl
      all_goals trace_state

  all_goals trace_state
end Go.Proofs.Ytfkdkblbhilghaa
/- Laws of strands and evidence. It proves nothing of a statement by itself. -/
set_option linter.unusedSimpArgs false
set_option linter.unusedVariables false
set_option maxRecDepth 100000
namespace Go.Proofs.Ytfkdkblbhilghaa
open Go.AL
theorem szS {t : Ty} {x : t.den} {l : Int} (g : ¬ szD t x l < 0) (h0 : 0 ≤ l) (h1 : l ≤ 1073741824) : Small t 1073741824 x :=
  (szD_le t x l h0).2 (by omega) 1073741824 h1
theorem szS1 {t : Ty} {x : t.den} {l : Int} (g : ¬ szD t x l < 0) (h0 : 0 ≤ l) (h1 : l ≤ 1048576) : Small t 1048576 x :=
  (szD_le t x l h0).2 (by omega) 1048576 h1
end Go.Proofs.Ytfkdkblbhilghaa
/- Laws of strands that grow. It proves nothing of a statement by itself. -/
set_option linter.unusedSimpArgs false
set_option linter.unusedVariables false
set_option maxRecDepth 100000
namespace Go.Proofs.Ytfkdkblbhilghaa
open Go.AL
theorem okS {X : Ty} {x : X.den} {l : Int} (g : ¬ szD X x l < 0) (h0 : 0 ≤ l) (h1 : l ≤ 1048576) (hk : okc 8 X = true) : cnv X x ≤ flc X + 8388608 := by
  have h2 := sz_tot X x l h0 (by omega)
  have h3 := cnv_le 8 X x hk
  omega
theorem apF_sm {s : tStrand.den} {p : tPiece.den} (hs : Small tStrand 1048576 s) (hp : Small tPiece 1048576 p) : Small tStrand 1073741824 (apF s p).1 ∧ cnv tStrand (apF s p).1 ≤ cnv tStrand s + cnv tPiece p := by
  cases h : strB (s.1 ++ [p], s.2.1, ()) with
  | false =>
    rw [apF_y h]
    exact ⟨⟨hs.1.mono (by omega), hs.2.1.mono (by omega), trivial⟩, Nat.le_add_right _ _⟩
  | true =>
    rw [apF_n h]
    refine ⟨⟨⟨?_, fun x hx => ?_⟩, hs.2.1.mono (by omega), trivial⟩, ?_⟩
    · have := hs.1.1
      simp only [List.length_append, List.length_cons, List.length_nil]
      omega
    · rcases List.mem_append.1 hx with hx | hx
      · exact (hs.1.2 x hx).mono (by omega)
      · have : x = p := by simpa using hx
        subst this
        exact hp.mono (by omega)
    · simp only [cnv, List.map_append, List.sum_append, List.map_cons, List.map_nil, List.sum_cons, List.sum_nil]
      omega
theorem arF_sm {s : tStrand.den} {r : tRenewal.den} (hs : Small tStrand 1048576 s) (hr : Small tRenewal 1048576 r) : Small tStrand 1073741824 (arF s r).1 ∧ cnv tStrand (arF s r).1 ≤ cnv tStrand s + cnv tRenewal r := by
  cases h : strB (s.1, s.2.1 ++ [r], ()) with
  | false =>
    rw [arF_y h]
    exact ⟨⟨hs.1.mono (by omega), hs.2.1.mono (by omega), trivial⟩, Nat.le_add_right _ _⟩
  | true =>
    rw [arF_n h]
    refine ⟨⟨hs.1.mono (by omega), ⟨?_, fun x hx => ?_⟩, trivial⟩, ?_⟩
    · have := hs.2.1.1
      simp only [List.length_append, List.length_cons, List.length_nil]
      omega
    · rcases List.mem_append.1 hx with hx | hx
      · exact (hs.2.1.2 x hx).mono (by omega)
      · have : x = r := by simpa using hx
        subst this
        exact hr.mono (by omega)
    · simp only [cnv, List.map_append, List.sum_append, List.map_cons, List.map_nil, List.sum_cons, List.sum_nil]
      omega
theorem law_FnExactAddPiece_ok (a : tStrand.den) (b : tPiece.den) : FunOK Try.prog 4 [⟨tStrand, a⟩, ⟨tPiece, b⟩] (.rd .bool true) := by
  refine fun_of (tb := tb) follows Try.func4 (by kernel_rfl) Try.ntmps4 rfl rfl rfl ?_; intro cx hN hw
  simp (disch := exact eqId (by kernel_rfl)) only [go_sem, ↓reduceIte, Nat.reduceAdd, Nat.reduceMul, Nat.reduceLT, Nat.reduceBEq, Nat.reduceLeDiff, Nat.reduceEqDiff, Int.reduceToNat]
  have b0 := (szD_le tStrand a (1048576) (by omega)).1
  refine callQ_intro (szStrand_ok a _ (by omega) (by omega)) ?_
  simp (disch := exact eqId (by kernel_rfl)) only [go_sem, ↓reduceIte, Nat.reduceAdd, Nat.reduceMul, Nat.reduceLT, Nat.reduceBEq, Nat.reduceLeDiff, Nat.reduceEqDiff, Int.reduceToNat]
  intro g0
  have s0 := szS g0 (by omega) (by omega)
  have u0 := szS1 g0 (by omega) (by omega)
  have b1 := (szD_le tPiece b (szD tStrand a (1048576)) (by omega)).1
  refine callQ_intro (szPiece_ok b _ (by omega) (by omega)) ?_
  simp (disch := exact eqId (by kernel_rfl)) only [go_sem, ↓reduceIte, Nat.reduceAdd, Nat.reduceMul, Nat.reduceLT, Nat.reduceBEq, Nat.reduceLeDiff, Nat.reduceEqDiff, Int.reduceToNat]
  intro g1
  have s1 := szS g1 (by omega) (by omega)
  have u1 := szS1 g1 (by omega) (by omega)
  have c0 := okS g0 (by omega) (by omega) rfl
  have c1 := okS g1 (by omega) (by omega) rfl
  have f0 : flc tStrand = 0 := rfl
  have f1 : flc tPiece = 2 := rfl
  have hA := apF_sm u0 u1
  have n0 := mrk_snd tStrand (apF a b).1 1
  have n1 := mrk_snd tStrand a 1
  refine callQ_intro (toStrand_ok _ s0) ?_
  simp (disch := exact eqId (by kernel_rfl)) only [go_sem, ↓reduceIte, Nat.reduceAdd, Nat.reduceMul, Nat.reduceLT, Nat.reduceBEq, Nat.reduceLeDiff, Nat.reduceEqDiff, Int.reduceToNat]
  refine callQ_intro (toPiece_ok _ s1) ?_
  simp (disch := exact eqId (by kernel_rfl)) only [go_sem, ↓reduceIte, Nat.reduceAdd, Nat.reduceMul, Nat.reduceLT, Nat.reduceBEq, Nat.reduceLeDiff, Nat.reduceEqDiff, Int.reduceToNat]
  refine callQ_intro (spec_AddPiece_ok _ _ u0 u1.2.1.1) ?_
  simp (disch := exact eqId (by kernel_rfl)) only [go_sem, ↓reduceIte, Nat.reduceAdd, Nat.reduceMul, Nat.reduceLT, Nat.reduceBEq, Nat.reduceLeDiff, Nat.reduceEqDiff, Int.reduceToNat]
  refine callQ_intro (toStrand_d _ s0) ?_
  simp (disch := exact eqId (by kernel_rfl)) only [go_sem, ↓reduceIte, Nat.reduceAdd, Nat.reduceMul, Nat.reduceLT, Nat.reduceBEq, Nat.reduceLeDiff, Nat.reduceEqDiff, Int.reduceToNat]
  refine callQ_intro (toPiece_fr _ s1) ?_
  simp (disch := exact eqId (by kernel_rfl)) only [go_sem, ↓reduceIte, Nat.reduceAdd, Nat.reduceMul, Nat.reduceLT, Nat.reduceBEq, Nat.reduceLeDiff, Nat.reduceEqDiff, Int.reduceToNat]
  refine callB_intro (impl_AddPiece_d _ _ u0 u1.2.1.1) rfl trivial ?_
  simp (disch := exact eqId (by kernel_rfl)) only [go_sem, ↓reduceIte, Nat.reduceAdd, Nat.reduceMul, Nat.reduceLT, Nat.reduceBEq, Nat.reduceLeDiff, Nat.reduceEqDiff, Int.reduceToNat]
  repeat' (first | (refine And.intro ?_ ?_) | intro _ | (refine callB_intro (eqStrand_ok _ _) rfl trivial ?_; try (simp (disch := exact eqId (by kernel_rfl)) only [go_sem, ↓reduceIte, Nat.reduceAdd, Nat.reduceMul, Nat.reduceLT, Nat.reduceBEq, Nat.reduceLeDiff, Nat.reduceEqDiff, Int.reduceToNat])) | (refine callH_intro (fun hcc => eqStrand_ok _ _) ?_; try (simp (disch := exact eqId (by kernel_rfl)) only [go_sem, ↓reduceIte, Nat.reduceAdd, Nat.reduceMul, Nat.reduceLT, Nat.reduceBEq, Nat.reduceLeDiff, Nat.reduceEqDiff, Int.reduceToNat])) | (refine callB_intro (eqPiece_ok _ _) rfl trivial ?_; try (simp (disch := exact eqId (by kernel_rfl)) only [go_sem, ↓reduceIte, Nat.reduceAdd, Nat.reduceMul, Nat.reduceLT, Nat.reduceBEq, Nat.reduceLeDiff, Nat.reduceEqDiff, Int.reduceToNat])) | (refine callM_intro (markStrand_d a 1 (by omega) (by omega) s0) ⟨⟨trivial, by decide⟩, rfl, rfl⟩ ?_; try (simp (disch := exact eqId (by kernel_rfl)) only [go_sem, ↓reduceIte, Nat.reduceAdd, Nat.reduceMul, Nat.reduceLT, Nat.reduceBEq, Nat.reduceLeDiff, Nat.reduceEqDiff, Int.reduceToNat])) | (refine callM_intro (markPiece_ok _ _ _ _ (by omega) (by omega) s1.2.1.1) ⟨⟨trivial, by decide⟩, rfl, rfl⟩ ?_; try (simp (disch := exact eqId (by kernel_rfl)) only [go_sem, ↓reduceIte, Nat.reduceAdd, Nat.reduceMul, Nat.reduceLT, Nat.reduceBEq, Nat.reduceLeDiff, Nat.reduceEqDiff, Int.reduceToNat])) | (refine callM_intro (markStrand_d (apF a b).1 1 (by omega) (by omega) hA.1) ⟨⟨trivial, by decide⟩, rfl, rfl⟩ ?_; try (simp (disch := exact eqId (by kernel_rfl)) only [go_sem, ↓reduceIte, Nat.reduceAdd, Nat.reduceMul, Nat.reduceLT, Nat.reduceBEq, Nat.reduceLeDiff, Nat.reduceEqDiff, Int.reduceToNat])) | (refine callB_intro (heldStrand_d (apF a b).1 1 (by omega) (by omega) hA.1) rfl trivial ?_; try (simp (disch := exact eqId (by kernel_rfl)) only [go_sem, ↓reduceIte, Nat.reduceAdd, Nat.reduceMul, Nat.reduceLT, Nat.reduceBEq, Nat.reduceLeDiff, Nat.reduceEqDiff, Int.reduceToNat])) | (refine callQ_intro (toStrand_ok _ s0) ?_; try (simp (disch := exact eqId (by kernel_rfl)) only [go_sem, ↓reduceIte, Nat.reduceAdd, Nat.reduceMul, Nat.reduceLT, Nat.reduceBEq, Nat.reduceLeDiff, Nat.reduceEqDiff, Int.reduceToNat])) | (refine callH_intro (fun hcc => toStrand_ok _ s0) ?_; try (simp (disch := exact eqId (by kernel_rfl)) only [go_sem, ↓reduceIte, Nat.reduceAdd, Nat.reduceMul, Nat.reduceLT, Nat.reduceBEq, Nat.reduceLeDiff, Nat.reduceEqDiff, Int.reduceToNat])) | (refine callQ_intro (toPiece_ok _ s1) ?_; try (simp (disch := exact eqId (by kernel_rfl)) only [go_sem, ↓reduceIte, Nat.reduceAdd, Nat.reduceMul, Nat.reduceLT, Nat.reduceBEq, Nat.reduceLeDiff, Nat.reduceEqDiff, Int.reduceToNat])) | (refine callH_intro (fun hcc => toPiece_ok _ s1) ?_; try (simp (disch := exact eqId (by kernel_rfl)) only [go_sem, ↓reduceIte, Nat.reduceAdd, Nat.reduceMul, Nat.reduceLT, Nat.reduceBEq, Nat.reduceLeDiff, Nat.reduceEqDiff, Int.reduceToNat])) | (refine callQ_intro (impl_AddPiece_ok _ _ u0 u1.2.1.1) ?_; try (simp (disch := exact eqId (by kernel_rfl)) only [go_sem, ↓reduceIte, Nat.reduceAdd, Nat.reduceMul, Nat.reduceLT, Nat.reduceBEq, Nat.reduceLeDiff, Nat.reduceEqDiff, Int.reduceToNat])) | (refine callH_intro (fun hcc => impl_AddPiece_ok _ _ u0 u1.2.1.1) ?_; try (simp (disch := exact eqId (by kernel_rfl)) only [go_sem, ↓reduceIte, Nat.reduceAdd, Nat.reduceMul, Nat.reduceLT, Nat.reduceBEq, Nat.reduceLeDiff, Nat.reduceEqDiff, Int.reduceToNat])) | (refine callQ_intro (eqStrand_ok _ _) ?_; try (simp (disch := exact eqId (by kernel_rfl)) only [go_sem, ↓reduceIte, Nat.reduceAdd, Nat.reduceMul, Nat.reduceLT, Nat.reduceBEq, Nat.reduceLeDiff, Nat.reduceEqDiff, Int.reduceToNat])) | (refine callH_intro (fun hcc => eqStrand_ok _ _) ?_; try (simp (disch := exact eqId (by kernel_rfl)) only [go_sem, ↓reduceIte, Nat.reduceAdd, Nat.reduceMul, Nat.reduceLT, Nat.reduceBEq, Nat.reduceLeDiff, Nat.reduceEqDiff, Int.reduceToNat])))
  all_goals (try omega)
  all_goals trace_state
theorem law_FnExactAddRenewal_ok (a : tStrand.den) (b : tRenewal.den) : FunOK Try.prog 5 [⟨tStrand, a⟩, ⟨tRenewal, b⟩] (.rd .bool true) := by
  refine fun_of (tb := tb) follows Try.func5 (by kernel_rfl) Try.ntmps5 rfl rfl rfl ?_; intro cx hN hw
  simp (disch := exact eqId (by kernel_rfl)) only [go_sem, ↓reduceIte, Nat.reduceAdd, Nat.reduceMul, Nat.reduceLT, Nat.reduceBEq, Nat.reduceLeDiff, Nat.reduceEqDiff, Int.reduceToNat]
  have b0 := (szD_le tStrand a (1048576) (by omega)).1
  refine callQ_intro (szStrand_ok a _ (by omega) (by omega)) ?_
  simp (disch := exact eqId (by kernel_rfl)) only [go_sem, ↓reduceIte, Nat.reduceAdd, Nat.reduceMul, Nat.reduceLT, Nat.reduceBEq, Nat.reduceLeDiff, Nat.reduceEqDiff, Int.reduceToNat]
  intro g0
  have s0 := szS g0 (by omega) (by omega)
  have u0 := szS1 g0 (by omega) (by omega)
  have b1 := (szD_le tRenewal b (szD tStrand a (1048576)) (by omega)).1
  refine callQ_intro (szRenewal_ok b _ (by omega) (by omega)) ?_
  simp (disch := exact eqId (by kernel_rfl)) only [go_sem, ↓reduceIte, Nat.reduceAdd, Nat.reduceMul, Nat.reduceLT, Nat.reduceBEq, Nat.reduceLeDiff, Nat.reduceEqDiff, Int.reduceToNat]
  intro g1
  have s1 := szS g1 (by omega) (by omega)
  have u1 := szS1 g1 (by omega) (by omega)
  have c0 := okS g0 (by omega) (by omega) rfl
  have c1 := okS g1 (by omega) (by omega) rfl
  have f0 : flc tStrand = 0 := rfl
  have f1 : flc tRenewal = 3 := rfl
  have hA := arF_sm u0 u1
  have e1 : cnv tRenewal b = 1 + (1 + (1 + (cnv (.list tStep) b.2.2.2.1 + (cnv (.list tStamp) b.2.2.2.2.1 + 0)))) := rfl
  have n0 := mrk_snd tStrand (arF a b).1 1
  have n1 := mrk_snd tStrand a 1
  refine callQ_intro (toStrand_ok _ s0) ?_
  simp (disch := exact eqId (by kernel_rfl)) only [go_sem, ↓reduceIte, Nat.reduceAdd, Nat.reduceMul, Nat.reduceLT, Nat.reduceBEq, Nat.reduceLeDiff, Nat.reduceEqDiff, Int.reduceToNat]
  refine callQ_intro (toRenewal_ok _ s1) ?_
  simp (disch := exact eqId (by kernel_rfl)) only [go_sem, ↓reduceIte, Nat.reduceAdd, Nat.reduceMul, Nat.reduceLT, Nat.reduceBEq, Nat.reduceLeDiff, Nat.reduceEqDiff, Int.reduceToNat]
  refine callQ_intro (spec_AddRenewal_fr _ _ u0 u1.2.2.2.1.1 u1.2.2.2.2.1.1) ?_
  simp (disch := exact eqId (by kernel_rfl)) only [go_sem, ↓reduceIte, Nat.reduceAdd, Nat.reduceMul, Nat.reduceLT, Nat.reduceBEq, Nat.reduceLeDiff, Nat.reduceEqDiff, Int.reduceToNat]
  refine callQ_intro (toStrand_d _ s0) ?_
  simp (disch := exact eqId (by kernel_rfl)) only [go_sem, ↓reduceIte, Nat.reduceAdd, Nat.reduceMul, Nat.reduceLT, Nat.reduceBEq, Nat.reduceLeDiff, Nat.reduceEqDiff, Int.reduceToNat]
  refine callQ_intro (toRenewal_fr _ s1) ?_
  simp (disch := exact eqId (by kernel_rfl)) only [go_sem, ↓reduceIte, Nat.reduceAdd, Nat.reduceMul, Nat.reduceLT, Nat.reduceBEq, Nat.reduceLeDiff, Nat.reduceEqDiff, Int.reduceToNat]
  refine callB_intro (impl_AddRenewal_d _ _ u0 u1.2.2.2.1.1 u1.2.2.2.2.1.1) rfl trivial ?_
  simp (disch := exact eqId (by kernel_rfl)) only [go_sem, ↓reduceIte, Nat.reduceAdd, Nat.reduceMul, Nat.reduceLT, Nat.reduceBEq, Nat.reduceLeDiff, Nat.reduceEqDiff, Int.reduceToNat]
  repeat' (first | (refine And.intro ?_ ?_) | intro _ | (refine callB_intro (eqStrand_ok _ _) rfl trivial ?_; try (simp (disch := exact eqId (by kernel_rfl)) only [go_sem, ↓reduceIte, Nat.reduceAdd, Nat.reduceMul, Nat.reduceLT, Nat.reduceBEq, Nat.reduceLeDiff, Nat.reduceEqDiff, Int.reduceToNat])) | (refine callH_intro (fun hcc => eqStrand_ok _ _) ?_; try (simp (disch := exact eqId (by kernel_rfl)) only [go_sem, ↓reduceIte, Nat.reduceAdd, Nat.reduceMul, Nat.reduceLT, Nat.reduceBEq, Nat.reduceLeDiff, Nat.reduceEqDiff, Int.reduceToNat])) | (refine callB_intro (eqRenewal_ok _ _) rfl trivial ?_; try (simp (disch := exact eqId (by kernel_rfl)) only [go_sem, ↓reduceIte, Nat.reduceAdd, Nat.reduceMul, Nat.reduceLT, Nat.reduceBEq, Nat.reduceLeDiff, Nat.reduceEqDiff, Int.reduceToNat])) | (refine callM_intro (markStrand_d a 1 (by omega) (by omega) s0) ⟨⟨trivial, by decide⟩, rfl, rfl⟩ ?_; try (simp (disch := exact eqId (by kernel_rfl)) only [go_sem, ↓reduceIte, Nat.reduceAdd, Nat.reduceMul, Nat.reduceLT, Nat.reduceBEq, Nat.reduceLeDiff, Nat.reduceEqDiff, Int.reduceToNat])) | (refine callM_intro (markRenewal_d b _ (by omega) (by omega) s1) ⟨⟨trivial, by decide⟩, rfl, rfl⟩ ?_; try (simp (disch := exact eqId (by kernel_rfl)) only [go_sem, ↓reduceIte, Nat.reduceAdd, Nat.reduceMul, Nat.reduceLT, Nat.reduceBEq, Nat.reduceLeDiff, Nat.reduceEqDiff, Int.reduceToNat])) | (refine callM_intro (markStrand_d (arF a b).1 1 (by omega) (by omega) hA.1) ⟨⟨trivial, by decide⟩, rfl, rfl⟩ ?_; try (simp (disch := exact eqId (by kernel_rfl)) only [go_sem, ↓reduceIte, Nat.reduceAdd, Nat.reduceMul, Nat.reduceLT, Nat.reduceBEq, Nat.reduceLeDiff, Nat.reduceEqDiff, Int.reduceToNat])) | (refine callB_intro (heldStrand_d (arF a b).1 1 (by omega) (by omega) hA.1) rfl trivial ?_; try (simp (disch := exact eqId (by kernel_rfl)) only [go_sem, ↓reduceIte, Nat.reduceAdd, Nat.reduceMul, Nat.reduceLT, Nat.reduceBEq, Nat.reduceLeDiff, Nat.reduceEqDiff, Int.reduceToNat])) | (refine callQ_intro (toStrand_ok _ s0) ?_; try (simp (disch := exact eqId (by kernel_rfl)) only [go_sem, ↓reduceIte, Nat.reduceAdd, Nat.reduceMul, Nat.reduceLT, Nat.reduceBEq, Nat.reduceLeDiff, Nat.reduceEqDiff, Int.reduceToNat])) | (refine callH_intro (fun hcc => toStrand_ok _ s0) ?_; try (simp (disch := exact eqId (by kernel_rfl)) only [go_sem, ↓reduceIte, Nat.reduceAdd, Nat.reduceMul, Nat.reduceLT, Nat.reduceBEq, Nat.reduceLeDiff, Nat.reduceEqDiff, Int.reduceToNat])) | (refine callQ_intro (toRenewal_ok _ s1) ?_; try (simp (disch := exact eqId (by kernel_rfl)) only [go_sem, ↓reduceIte, Nat.reduceAdd, Nat.reduceMul, Nat.reduceLT, Nat.reduceBEq, Nat.reduceLeDiff, Nat.reduceEqDiff, Int.reduceToNat])) | (refine callH_intro (fun hcc => toRenewal_ok _ s1) ?_; try (simp (disch := exact eqId (by kernel_rfl)) only [go_sem, ↓reduceIte, Nat.reduceAdd, Nat.reduceMul, Nat.reduceLT, Nat.reduceBEq, Nat.reduceLeDiff, Nat.reduceEqDiff, Int.reduceToNat])) | (refine callQ_intro (impl_AddRenewal_ok _ _ u0 u1.2.2.2.1.1 u1.2.2.2.2.1.1) ?_; try (simp (disch := exact eqId (by kernel_rfl)) only [go_sem, ↓reduceIte, Nat.reduceAdd, Nat.reduceMul, Nat.reduceLT, Nat.reduceBEq, Nat.reduceLeDiff, Nat.reduceEqDiff, Int.reduceToNat])) | (refine callH_intro (fun hcc => impl_AddRenewal_ok _ _ u0 u1.2.2.2.1.1 u1.2.2.2.2.1.1) ?_; try (simp (disch := exact eqId (by kernel_rfl)) only [go_sem, ↓reduceIte, Nat.reduceAdd, Nat.reduceMul, Nat.reduceLT, Nat.reduceBEq, Nat.reduceLeDiff, Nat.reduceEqDiff, Int.reduceToNat])) | (refine callQ_intro (eqStrand_ok _ _) ?_; try (simp (disch := exact eqId (by kernel_rfl)) only [go_sem, ↓reduceIte, Nat.reduceAdd, Nat.reduceMul, Nat.reduceLT, Nat.reduceBEq, Nat.reduceLeDiff, Nat.reduceEqDiff, Int.reduceToNat])) | (refine callH_intro (fun hcc => eqStrand_ok _ _) ?_; try (simp (disch := exact eqId (by kernel_rfl)) only [go_sem, ↓reduceIte, Nat.reduceAdd, Nat.reduceMul, Nat.reduceLT, Nat.reduceBEq, Nat.reduceLeDiff, Nat.reduceEqDiff, Int.reduceToNat])))
  all_goals (try omega)
  all_goals trace_state
end Go.Proofs.Ytfkdkblbhilghaa
/- The law of evidence brought together. It proves nothing of a statement by itself. -/
set_option linter.unusedSimpArgs false
set_option linter.unusedVariables false
set_option maxRecDepth 100000
namespace Go.Proofs.Ytfkdkblbhilghaa
open Go.AL
theorem jn_mem {α : Type} {o l : List α} {x : α} (h : x ∈ jnF o l) : x ∈ o ∨ x ∈ l := by
  unfold jnF at h
  induction l generalizing o with
  | nil => exact .inl h
  | cons s l ih =>
    rw [List.foldl_cons] at h
    rcases ih h with h | h
    · split at h
      · exact .inl h
      · rcases List.mem_append.1 h with h | h
        · exact .inl h
        · exact .inr (by rw [List.mem_singleton.1 h]; exact List.mem_cons_self)
    · exact .inr (List.mem_cons_of_mem _ h)
theorem jn_sum {α : Type} (f : α → Nat) (o l : List α) : ((jnF o l).map f).sum ≤ (o.map f).sum + (l.map f).sum := by
  unfold jnF
  induction l generalizing o with
  | nil => simp
  | cons s l ih =>
    rw [List.foldl_cons, List.map_cons, List.sum_cons]
    refine Nat.le_trans (ih _) ?_
    split
    · omega
    · rw [List.map_append, List.sum_append, List.map_cons, List.map_nil, List.sum_cons, List.sum_nil]; omega
noncomputable def jnE (a b : tEvidence.den) : tEvidence.den := (jnF a.1 b.1, jnF a.2.1 b.2.1, ())
theorem jn_sm {a b : tEvidence.den} (ha : Small tEvidence 1048576 a) (hb : Small tEvidence 1048576 b) : Small tEvidence 1073741824 (jnE a b) ∧ cnv tEvidence (jnE a b) ≤ cnv tEvidence a + cnv tEvidence b := by
  have l1 := jn_len a.1 b.1
  have l2 := jn_len a.2.1 b.2.1
  have a1 := ha.1.1
  have a2 := ha.2.1.1
  have b1 := hb.1.1
  have b2 := hb.2.1.1
  refine ⟨⟨⟨?_, fun x hx => ?_⟩, ⟨?_, fun x hx => ?_⟩, trivial⟩, ?_⟩
  · show (jnF a.1 b.1).length ≤ _
    omega
  · rcases jn_mem hx with h | h
    · exact (ha.1.2 x h).mono (by omega)
    · exact (hb.1.2 x h).mono (by omega)
  · show (jnF a.2.1 b.2.1).length ≤ _
    omega
  · rcases jn_mem hx with h | h
    · exact (ha.2.1.2 x h).mono (by omega)
    · exact (hb.2.1.2 x h).mono (by omega)
  · have s1 := jn_sum (cnv tStrand) a.1 b.1
    have s2 := jn_sum (cnv (.list tStamp)) a.2.1 b.2.1
    have e1 : cnv tEvidence (jnE a b) = ((jnF a.1 b.1).map (cnv tStrand)).sum + (((jnF a.2.1 b.2.1).map (cnv (.list tStamp))).sum + 0) := rfl
    have e2 : cnv tEvidence a = (a.1.map (cnv tStrand)).sum + ((a.2.1.map (cnv (.list tStamp))).sum + 0) := rfl
    have e3 : cnv tEvidence b = (b.1.map (cnv tStrand)).sum + ((b.2.1.map (cnv (.list tStamp))).sum + 0) := rfl
    omega
theorem law_FnExactJoinEvidence_ok (a : tEvidence.den) (b : tEvidence.den) : FunOK Try.prog 8 [⟨tEvidence, a⟩, ⟨tEvidence, b⟩] (.rd .bool true) := by
  refine fun_of (tb := tb) follows Try.func8 (by kernel_rfl) Try.ntmps8 rfl rfl rfl ?_; intro cx hN hw
  simp (disch := exact eqId (by kernel_rfl)) only [go_sem, ↓reduceIte, Nat.reduceAdd, Nat.reduceMul, Nat.reduceLT, Nat.reduceBEq, Nat.reduceLeDiff, Nat.reduceEqDiff, Int.reduceToNat]
  have b0 := (szD_le tEvidence a (1048576) (by omega)).1
  refine callQ_intro (szEvidence_ok a _ (by omega) (by omega)) ?_
  simp (disch := exact eqId (by kernel_rfl)) only [go_sem, ↓reduceIte, Nat.reduceAdd, Nat.reduceMul, Nat.reduceLT, Nat.reduceBEq, Nat.reduceLeDiff, Nat.reduceEqDiff, Int.reduceToNat]
  intro g0
  have s0 := szS g0 (by omega) (by omega)
  have u0 := szS1 g0 (by omega) (by omega)
  have b1 := (szD_le tEvidence b (szD tEvidence a (1048576)) (by omega)).1
  refine callQ_intro (szEvidence_ok b _ (by omega) (by omega)) ?_
  simp (disch := exact eqId (by kernel_rfl)) only [go_sem, ↓reduceIte, Nat.reduceAdd, Nat.reduceMul, Nat.reduceLT, Nat.reduceBEq, Nat.reduceLeDiff, Nat.reduceEqDiff, Int.reduceToNat]
  intro g1
  have s1 := szS g1 (by omega) (by omega)
  have u1 := szS1 g1 (by omega) (by omega)
  have c0 := okS g0 (by omega) (by omega) rfl
  have c1 := okS g1 (by omega) (by omega) rfl
  have f0 : flc tEvidence = 0 := rfl
  have hA := jn_sm u0 u1
  have n1 := mrk_snd tEvidence a 1
  have n2 := mrk_snd tEvidence b (mrk tEvidence a 1).2
  have n3 := mrk_snd tEvidence (jnE a b) 1
  refine callQ_intro (toEvidence_ok _ s0) ?_
  simp (disch := exact eqId (by kernel_rfl)) only [go_sem, ↓reduceIte, Nat.reduceAdd, Nat.reduceMul, Nat.reduceLT, Nat.reduceBEq, Nat.reduceLeDiff, Nat.reduceEqDiff, Int.reduceToNat]
  refine callQ_intro (toEvidence_ok _ s1) ?_
  simp (disch := exact eqId (by kernel_rfl)) only [go_sem, ↓reduceIte, Nat.reduceAdd, Nat.reduceMul, Nat.reduceLT, Nat.reduceBEq, Nat.reduceLeDiff, Nat.reduceEqDiff, Int.reduceToNat]
  refine callQ_intro (spec_JoinEvidence_ok _ _ u0 u1) ?_
  simp (disch := exact eqId (by kernel_rfl)) only [go_sem, ↓reduceIte, Nat.reduceAdd, Nat.reduceMul, Nat.reduceLT, Nat.reduceBEq, Nat.reduceLeDiff, Nat.reduceEqDiff, Int.reduceToNat]
  refine callQ_intro (toEvidence_d _ s0) ?_
  simp (disch := exact eqId (by kernel_rfl)) only [go_sem, ↓reduceIte, Nat.reduceAdd, Nat.reduceMul, Nat.reduceLT, Nat.reduceBEq, Nat.reduceLeDiff, Nat.reduceEqDiff, Int.reduceToNat]
  refine callQ_intro (toEvidence_d _ s1) ?_
  simp (disch := exact eqId (by kernel_rfl)) only [go_sem, ↓reduceIte, Nat.reduceAdd, Nat.reduceMul, Nat.reduceLT, Nat.reduceBEq, Nat.reduceLeDiff, Nat.reduceEqDiff, Int.reduceToNat]
  refine callB_intro (impl_JoinEvidence_d _ _ u0 u1) rfl trivial ?_
  simp (disch := exact eqId (by kernel_rfl)) only [go_sem, ↓reduceIte, Nat.reduceAdd, Nat.reduceMul, Nat.reduceLT, Nat.reduceBEq, Nat.reduceLeDiff, Nat.reduceEqDiff, Int.reduceToNat]
  repeat' (first | (refine And.intro ?_ ?_) | intro _ | (refine callB_intro (eqEvidence_ok _ _) rfl trivial ?_; try (simp (disch := exact eqId (by kernel_rfl)) only [go_sem, ↓reduceIte, Nat.reduceAdd, Nat.reduceMul, Nat.reduceLT, Nat.reduceBEq, Nat.reduceLeDiff, Nat.reduceEqDiff, Int.reduceToNat])) | (refine callH_intro (fun hcc => eqEvidence_ok _ _) ?_; try (simp (disch := exact eqId (by kernel_rfl)) only [go_sem, ↓reduceIte, Nat.reduceAdd, Nat.reduceMul, Nat.reduceLT, Nat.reduceBEq, Nat.reduceLeDiff, Nat.reduceEqDiff, Int.reduceToNat])) | (refine callB_intro (heldEvidence_d (jnE a b) 1 (by omega) (by omega) hA.1) rfl trivial ?_; try (simp (disch := exact eqId (by kernel_rfl)) only [go_sem, ↓reduceIte, Nat.reduceAdd, Nat.reduceMul, Nat.reduceLT, Nat.reduceBEq, Nat.reduceLeDiff, Nat.reduceEqDiff, Int.reduceToNat])) | (refine callH_intro (fun hcc => heldEvidence_d (jnE a b) 1 (by omega) (by omega) hA.1) ?_; try (simp (disch := exact eqId (by kernel_rfl)) only [go_sem, ↓reduceIte, Nat.reduceAdd, Nat.reduceMul, Nat.reduceLT, Nat.reduceBEq, Nat.reduceLeDiff, Nat.reduceEqDiff, Int.reduceToNat])) | (refine callM_intro (markEvidence_d a 1 (by omega) (by omega) s0) ⟨⟨trivial, by decide⟩, rfl, rfl⟩ ?_; try (simp (disch := exact eqId (by kernel_rfl)) only [go_sem, ↓reduceIte, Nat.reduceAdd, Nat.reduceMul, Nat.reduceLT, Nat.reduceBEq, Nat.reduceLeDiff, Nat.reduceEqDiff, Int.reduceToNat])) | (refine callM_intro (markEvidence_d b (mrk tEvidence a 1).2 (by omega) (by omega) s1) ⟨⟨trivial, by decide⟩, rfl, rfl⟩ ?_; try (simp (disch := exact eqId (by kernel_rfl)) only [go_sem, ↓reduceIte, Nat.reduceAdd, Nat.reduceMul, Nat.reduceLT, Nat.reduceBEq, Nat.reduceLeDiff, Nat.reduceEqDiff, Int.reduceToNat])) | (refine callM_intro (markEvidence_d (jnE a b) 1 (by omega) (by omega) hA.1) ⟨⟨trivial, by decide⟩, rfl, rfl⟩ ?_; try (simp (disch := exact eqId (by kernel_rfl)) only [go_sem, ↓reduceIte, Nat.reduceAdd, Nat.reduceMul, Nat.reduceLT, Nat.reduceBEq, Nat.reduceLeDiff, Nat.reduceEqDiff, Int.reduceToNat])) | (refine callQ_intro (toEvidence_ok _ s0) ?_; try (simp (disch := exact eqId (by kernel_rfl)) only [go_sem, ↓reduceIte, Nat.reduceAdd, Nat.reduceMul, Nat.reduceLT, Nat.reduceBEq, Nat.reduceLeDiff, Nat.reduceEqDiff, Int.reduceToNat])) | (refine callH_intro (fun hcc => toEvidence_ok _ s0) ?_; try (simp (disch := exact eqId (by kernel_rfl)) only [go_sem, ↓reduceIte, Nat.reduceAdd, Nat.reduceMul, Nat.reduceLT, Nat.reduceBEq, Nat.reduceLeDiff, Nat.reduceEqDiff, Int.reduceToNat])) | (refine callQ_intro (toEvidence_ok _ s1) ?_; try (simp (disch := exact eqId (by kernel_rfl)) only [go_sem, ↓reduceIte, Nat.reduceAdd, Nat.reduceMul, Nat.reduceLT, Nat.reduceBEq, Nat.reduceLeDiff, Nat.reduceEqDiff, Int.reduceToNat])) | (refine callH_intro (fun hcc => toEvidence_ok _ s1) ?_; try (simp (disch := exact eqId (by kernel_rfl)) only [go_sem, ↓reduceIte, Nat.reduceAdd, Nat.reduceMul, Nat.reduceLT, Nat.reduceBEq, Nat.reduceLeDiff, Nat.reduceEqDiff, Int.reduceToNat])) | (refine callQ_intro (impl_JoinEvidence_d _ _ u0 u1) ?_; try (simp (disch := exact eqId (by kernel_rfl)) only [go_sem, ↓reduceIte, Nat.reduceAdd, Nat.reduceMul, Nat.reduceLT, Nat.reduceBEq, Nat.reduceLeDiff, Nat.reduceEqDiff, Int.reduceToNat])) | (refine callH_intro (fun hcc => impl_JoinEvidence_d _ _ u0 u1) ?_; try (simp (disch := exact eqId (by kernel_rfl)) only [go_sem, ↓reduceIte, Nat.reduceAdd, Nat.reduceMul, Nat.reduceLT, Nat.reduceBEq, Nat.reduceLeDiff, Nat.reduceEqDiff, Int.reduceToNat])) | (refine callQ_intro (eqEvidence_ok _ _) ?_; try (simp (disch := exact eqId (by kernel_rfl)) only [go_sem, ↓reduceIte, Nat.reduceAdd, Nat.reduceMul, Nat.reduceLT, Nat.reduceBEq, Nat.reduceLeDiff, Nat.reduceEqDiff, Int.reduceToNat])) | (refine callH_intro (fun hcc => eqEvidence_ok _ _) ?_; try (simp (disch := exact eqId (by kernel_rfl)) only [go_sem, ↓reduceIte, Nat.reduceAdd, Nat.reduceMul, Nat.reduceLT, Nat.reduceBEq, Nat.reduceLeDiff, Nat.reduceEqDiff, Int.reduceToNat])) | (refine callQ_intro (heldEvidence_d (jnE a b) 1 (by omega) (by omega) hA.1) ?_; try (simp (disch := exact eqId (by kernel_rfl)) only [go_sem, ↓reduceIte, Nat.reduceAdd, Nat.reduceMul, Nat.reduceLT, Nat.reduceBEq, Nat.reduceLeDiff, Nat.reduceEqDiff, Int.reduceToNat])) | (refine callH_intro (fun hcc => heldEvidence_d (jnE a b) 1 (by omega) (by omega) hA.1) ?_; try (simp (disch := exact eqId (by kernel_rfl)) only [go_sem, ↓reduceIte, Nat.reduceAdd, Nat.reduceMul, Nat.reduceLT, Nat.reduceBEq, Nat.reduceLeDiff, Nat.reduceEqDiff, Int.reduceToNat])))
  all_goals (try omega)
  all_goals trace_state
end Go.Proofs.Ytfkdkblbhilghaa
