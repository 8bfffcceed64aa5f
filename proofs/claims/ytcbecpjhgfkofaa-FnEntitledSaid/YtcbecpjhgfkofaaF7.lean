/- What the functions of keys, methods, authorities and frames answer, on both sides. It proves nothing of a statement by itself. -/
import Derived.Test.YtcbecpjhgfkofaaF5
set_option linter.unusedSimpArgs false
set_option linter.unusedVariables false
set_option maxRecDepth 100000
namespace Go.Proofs.Ytcbecpjhgfkofaa
open Go.AL
def inB (t a b : Int) : Bool := decide (a ≤ t) && decide (t ≤ b)
theorem inB_t {t a b : Int} : (inB t a b = true) = (a ≤ t ∧ t ≤ b) := by simp [inB]
theorem inB_f {t a b : Int} : (inB t a b = false) = ¬ (a ≤ t ∧ t ≤ b) := by simp [inB]; 
theorem impl_isTime_ok (t : Int) : FunOK Try.prog 34 [⟨I, t⟩] (.rd .bool (inB t 0 10000)) := by
  refine fun_of (tb := tb) follows Try.func34 (by kernel_rfl) Try.ntmps34 rfl rfl rfl ?_
  intro cx hN hw
  simp (disch := exact eqId (by kernel_rfl)) only [go_sem, ↓reduceIte, Nat.reduceAdd, Nat.reduceMul, Nat.reduceLT, Nat.reduceBEq, Nat.reduceLeDiff, Nat.reduceEqDiff, Int.reduceToNat]
  repeat' (first | (refine And.intro ?_ ?_) | intro _ | (refine callQ_intro (inRange_ok _ _ _) ?_; try (simp (disch := exact eqId (by kernel_rfl)) only [go_sem, ↓reduceIte, Nat.reduceAdd, Nat.reduceMul, Nat.reduceLT, Nat.reduceBEq, Nat.reduceLeDiff, Nat.reduceEqDiff, Int.reduceToNat])) | (refine callH_intro (fun hcc => inRange_ok _ _ _) ?_; try (simp (disch := exact eqId (by kernel_rfl)) only [go_sem, ↓reduceIte, Nat.reduceAdd, Nat.reduceMul, Nat.reduceLT, Nat.reduceBEq, Nat.reduceLeDiff, Nat.reduceEqDiff, Int.reduceToNat])))
  all_goals (try rfl)
theorem spec_l4Time_ok (t : Int) : FunOK Try.prog 54 [⟨I, t⟩] (.rd .bool (inB t 0 10000)) := by
  refine fun_of (tb := tb) follows Try.func54 (by kernel_rfl) Try.ntmps54 rfl rfl rfl ?_
  intro cx hN hw
  simp (disch := exact eqId (by kernel_rfl)) only [go_sem, ↓reduceIte, Nat.reduceAdd, Nat.reduceMul, Nat.reduceLT, Nat.reduceBEq, Nat.reduceLeDiff, Nat.reduceEqDiff, Int.reduceToNat]
  repeat' (first | (refine And.intro ?_ ?_) | intro _ | (refine callQ_intro (l1In_ok _ _ _) ?_; try (simp (disch := exact eqId (by kernel_rfl)) only [go_sem, ↓reduceIte, Nat.reduceAdd, Nat.reduceMul, Nat.reduceLT, Nat.reduceBEq, Nat.reduceLeDiff, Nat.reduceEqDiff, Int.reduceToNat])) | (refine callH_intro (fun hcc => l1In_ok _ _ _) ?_; try (simp (disch := exact eqId (by kernel_rfl)) only [go_sem, ↓reduceIte, Nat.reduceAdd, Nat.reduceMul, Nat.reduceLT, Nat.reduceBEq, Nat.reduceLeDiff, Nat.reduceEqDiff, Int.reduceToNat])))
  all_goals (try rfl)
def keyB (k : tKey.den) : Bool := inB k.1 1 99 && inB k.2.1 0 99 && inB k.2.2.1 0 99 && inB k.2.2.2.1 0 10000 && inB k.2.2.2.2.1 1 2147483646
def khF (s : Int) (l : List Int) : Int := hashF (s :: l ++ [s])
def mwF (k : tKey.den) (l : List Int) : Int := khF k.2.2.2.2.1 (k.2.2.1 :: l)
def finF {α : Type} (n : α → Int) (q : Int) : List α → Int → Int
  | [], _ => -1
  | x :: xs, i => if n x = q then i else finF n q xs (i + 1)
theorem finF_lt {α : Type} (n : α → Int) (q : Int) : ∀ (l : List α) (i : Int), finF n q l i = -1 ∨ i ≤ finF n q l i ∧ finF n q l i < i + l.length
  | [], _ => .inl rfl
  | x :: xs, i => by
    unfold finF
    split
    · right; simp only [List.length_cons]; omega
    · rcases finF_lt n q xs (i + 1) with h | h
      · exact .inl h
      · right; simp only [List.length_cons]; omega
theorem spec_FindKey_ok (l : List tKey.den) (q : Int) : FunOK Try.prog 44 [⟨(.list tKey), l⟩, ⟨I, q⟩] (.rd I (finF (fun x => x.1) q l 0)) := by
  refine fun_of (tb := tb) follows Try.func44 (by kernel_rfl) Try.ntmps44 rfl rfl rfl ?_
  intro cx hN hw
  simp (disch := exact eqId (by kernel_rfl)) only [go_sem, ↓reduceIte, Nat.reduceAdd, Nat.reduceMul, Nat.reduceLT, Nat.reduceBEq, Nat.reduceLeDiff, Nat.reduceEqDiff, Int.reduceToNat]
  refine loop_intro (tb := tb) follows hN (D := Nat) (fun d => shp [(0, .rd (.list tKey) (l)), (1, .rd I (q : Int)), (5, .rd I (d : Int))] []) (fun d => d ≤ l.length ∧ finF (fun x => x.1) q l 0 = finF (fun x => x.1) q (l.drop d) d) (fun d => l.length - d) (0) ?_ (sub_shp hN [] ?_) (fun d hd => ?_)
  · exact ⟨Nat.zero_le _, rfl⟩
  · simp (disch := exact eqId (by kernel_rfl)) only [go_sem, ↓reduceIte, Nat.reduceAdd, Nat.reduceMul, Nat.reduceLT, Nat.reduceBEq, Nat.reduceLeDiff, Nat.reduceEqDiff, Int.reduceToNat]
    try rfl
  · obtain ⟨h1, h2⟩ := hd
    simp (disch := exact eqId (by kernel_rfl)) only [go_sem, ↓reduceIte, Nat.reduceAdd, Nat.reduceMul, Nat.reduceLT, Nat.reduceBEq, Nat.reduceLeDiff, Nat.reduceEqDiff, Int.reduceToNat]
    repeat' (first | (refine And.intro ?_ ?_) | intro _)
    all_goals (try omega)
    · rename_i hk he
      rw [h2, drop_getD (show d < l.length by omega) (0, 0, 0, 0, 0, ()), finF, if_pos he]
    · rename_i hk he
      have hk : d < l.length := by omega
      refine back_intro (d + 1) ?_ ?_ (sub_shp hN [] ?_)
      · refine ⟨hk, ?_⟩
        rw [h2, drop_getD hk (0, 0, 0, 0, 0, ()), finF, if_neg he]
        rfl
      · omega
      · simp (disch := exact eqId (by kernel_rfl)) only [go_sem, ↓reduceIte, Nat.reduceAdd, Nat.reduceMul, Nat.reduceLT, Nat.reduceBEq, Nat.reduceLeDiff, Nat.reduceEqDiff, Int.reduceToNat]
        exact wrap_succ hk hw.1.1
    · rename_i hk
      rw [h2, drop_end (show l.length ≤ d by omega)]
      rfl
theorem spec_KeyedHash_ok (s : Int) (l : List Int) (hs : l.length ≤ 1073741824) : FunOK Try.prog 53 [⟨I, s⟩, ⟨(.list I), l⟩] (.rd I (khF s l)) := by
  refine fun_of (tb := tb) follows Try.func53 (by kernel_rfl) Try.ntmps53 rfl rfl rfl ?_
  intro cx hN hw
  simp (disch := exact eqId (by kernel_rfl)) only [go_sem, ↓reduceIte, Nat.reduceAdd, Nat.reduceMul, Nat.reduceLT, Nat.reduceBEq, Nat.reduceLeDiff, Nat.reduceEqDiff, Int.reduceToNat]
  repeat' (first | (refine And.intro ?_ ?_) | intro _ | (refine callQ_intro (spec_Hash_ok _) ?_; try (simp (disch := exact eqId (by kernel_rfl)) only [go_sem, ↓reduceIte, Nat.reduceAdd, Nat.reduceMul, Nat.reduceLT, Nat.reduceBEq, Nat.reduceLeDiff, Nat.reduceEqDiff, Int.reduceToNat])) | (refine callH_intro (fun hcc => spec_Hash_ok _) ?_; try (simp (disch := exact eqId (by kernel_rfl)) only [go_sem, ↓reduceIte, Nat.reduceAdd, Nat.reduceMul, Nat.reduceLT, Nat.reduceBEq, Nat.reduceLeDiff, Nat.reduceEqDiff, Int.reduceToNat])))
  all_goals (try simp only [List.length_append, List.length_cons, List.length_nil])
  all_goals (try omega)
  all_goals (try rfl)
theorem spec_MarkWith_ok (k : tKey.den) (l : List Int) (hs : l.length ≤ 1073741823) : FunOK Try.prog 46 [⟨tKey, k⟩, ⟨(.list I), l⟩] (.rd I (mwF k l)) := by
  refine fun_of (tb := tb) follows Try.func46 (by kernel_rfl) Try.ntmps46 rfl rfl rfl ?_
  intro cx hN hw
  simp (disch := exact eqId (by kernel_rfl)) only [go_sem, ↓reduceIte, Nat.reduceAdd, Nat.reduceMul, Nat.reduceLT, Nat.reduceBEq, Nat.reduceLeDiff, Nat.reduceEqDiff, Int.reduceToNat]
  have hs1 : ∀ x : Int, (x :: l).length ≤ 1073741824 := fun x => by simp only [List.length_cons]; omega
  repeat' (first | (refine And.intro ?_ ?_) | intro _ | (refine callQ_intro (spec_KeyedHash_ok _ _ (hs1 _)) ?_; try (simp (disch := exact eqId (by kernel_rfl)) only [go_sem, ↓reduceIte, Nat.reduceAdd, Nat.reduceMul, Nat.reduceLT, Nat.reduceBEq, Nat.reduceLeDiff, Nat.reduceEqDiff, Int.reduceToNat])) | (refine callH_intro (fun hcc => spec_KeyedHash_ok _ _ (hs1 _)) ?_; try (simp (disch := exact eqId (by kernel_rfl)) only [go_sem, ↓reduceIte, Nat.reduceAdd, Nat.reduceMul, Nat.reduceLT, Nat.reduceBEq, Nat.reduceLeDiff, Nat.reduceEqDiff, Int.reduceToNat])))
  all_goals (try simp only [List.length_append, List.length_cons, List.length_nil])
  all_goals (try omega)
  all_goals (try rfl)
def mbF (l : List tKey.den) (n : Int) (w : List Int) : Int × Bool := if finF (fun x => x.1) n l 0 < 0 then (0, false) else (mwF (l.getD (finF (fun x => x.1) n l 0).toNat (0, 0, 0, 0, 0, ())) w, true)
def cmF (l : List tKey.den) (n : Int) (w : List Int) (m : Int) : Bool := (mbF l n w).2 && ((mbF l n w).1 == m)
end Go.Proofs.Ytcbecpjhgfkofaa
