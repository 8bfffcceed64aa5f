/- What the laws' own helpers answer over texts and documents. It proves nothing of a statement by itself. -/
import Derived.Test.YtfkdkblbhilghaaB9
import Derived.Laws.Strings
set_option linter.unusedSimpArgs false
set_option linter.unusedVariables false
set_option maxRecDepth 100000
namespace Go.Proofs.Ytfkdkblbhilghaa
open Go.AL
theorem str_inj {a b : ByteArray} (h : a.toList = b.toList) : a = b := by
  have h1 := ByteArray.toList_eq a
  have h2 := ByteArray.toList_eq b
  exact Go.WideShapes.bytes_inj (by rw [← h1, ← h2]; exact h)
theorem szD_str (s : ByteArray) (l : Int) : szD .str s l = if l - (s.size : Int) < 0 then -1 else l - s.size := (rfl)
theorem szStringS_ok (l : List (.str : Ty).den) (n : Int) (h0 : 0 ≤ n) (h1 : n ≤ 1048576) : FunOK Try.prog 58 [⟨(.list .str), l⟩, ⟨I, n⟩] (.rd I (szD (.list .str) l n)) := by
  refine fun_of (tb := tb) follows Try.func58 (by kernel_rfl) Try.ntmps58 rfl rfl rfl ?_; intro cx hN hw
  have hl : l.length ≤ maxLen := hw.1.1
  have hm : maxLen = 9223372036854775807 := rfl
  have e : IntKind.i64.wrap (n - (l.length : Int)) = n - l.length := wrap_i64 (by omega) (by omega)
  simp (disch := exact eqId (by kernel_rfl)) only [go_sem, ↓reduceIte, Nat.reduceAdd, Nat.reduceMul, Nat.reduceLT, Nat.reduceBEq, Nat.reduceLeDiff, Nat.reduceEqDiff, Int.reduceToNat]
  rw [e]
  refine ⟨fun hn => ?_, fun hn => ?_⟩
  · simp only [szD]; rw [if_pos hn]
  · refine loop_intro (tb := tb) follows hN (D := Nat × Int) (fun d => shp [(0, .rd (.list .str) (l)), (1, .rd I d.2), (5, .rd I (d.1 : Int))] []) (fun d => d.1 ≤ l.length ∧ 0 ≤ d.2 ∧ d.2 ≤ n ∧ szD (.list .str) l n = szLoop (szD .str) (l.drop d.1) d.2) (fun d => l.length - d.1) (0, n - l.length) ?_ (sub_shp hN [] ?_) (fun d hd => ?_)
    · refine ⟨Nat.zero_le _, by omega, by omega, ?_⟩
      simp only [szD]; rw [if_neg hn]; rfl
    · simp (disch := exact eqId (by kernel_rfl)) only [go_sem, ↓reduceIte, Nat.reduceAdd, Nat.reduceMul, Nat.reduceLT, Nat.reduceBEq, Nat.reduceLeDiff, Nat.reduceEqDiff, Int.reduceToNat]
      first | trivial | (exact ⟨rfl, rfl⟩) | rfl
    · obtain ⟨h2, h3, h4, h5⟩ := hd
      simp (disch := exact eqId (by kernel_rfl)) only [go_sem, ↓reduceIte, Nat.reduceAdd, Nat.reduceMul, Nat.reduceLT, Nat.reduceBEq, Nat.reduceLeDiff, Nat.reduceEqDiff, Int.reduceToNat]
      have hsz : (l.getD d.1 ByteArray.empty).size ≤ maxLen := by
        rcases Nat.lt_or_ge d.1 l.length with hlt | hge
        · have := hw.1.2 d.1 hlt
          rw [List.getD_eq_getElem?_getD, List.getElem?_eq_getElem hlt]
          exact this
        · rw [List.getD_eq_getElem?_getD, List.getElem?_eq_none hge]
          exact Nat.zero_le _
      have e2 : IntKind.i64.wrap (d.2 - ((l.getD d.1 ByteArray.empty).size : Int)) = d.2 - (l.getD d.1 ByteArray.empty).size := wrap_i64 (by omega) (by omega)
      have hx := szD_str (l.getD d.1 ByteArray.empty) d.2
      rw [e2]
      repeat' (first | (refine And.intro ?_ ?_) | intro _)
      all_goals (try omega)
      · rename_i hk hq
        have hk : d.1 < l.length := by omega
        rw [drop_getD hk (ByteArray.empty : (.str : Ty).den), szLoop] at h5
        rw [if_pos (by rw [hx, if_pos hq]; omega)] at h5
        exact h5.symm
      · rename_i hk hq
        have hk : d.1 < l.length := by omega
        rw [drop_getD hk (ByteArray.empty : (.str : Ty).den), szLoop] at h5
        rw [if_neg (by rw [hx, if_neg hq]; omega)] at h5
        rw [if_neg hq] at hx
        refine back_intro (d.1 + 1, d.2 - (l.getD d.1 ByteArray.empty).size) ?_ ?_ (sub_shp hN [] ?_)
        · exact ⟨hk, by simp only; omega, by simp only; omega, by rw [← hx]; exact h5⟩
        · simp only; omega
        · simp (disch := exact eqId (by kernel_rfl)) only [go_sem, ↓reduceIte, Nat.reduceAdd, Nat.reduceMul, Nat.reduceLT, Nat.reduceBEq, Nat.reduceLeDiff, Nat.reduceEqDiff, Int.reduceToNat]
          first | exact wrap_succ hk hl | exact ⟨rfl, wrap_succ hk hl⟩ | exact ⟨wrap_succ hk hl, rfl⟩
      · rw [drop_end (by omega)] at h5
        exact h5.symm
theorem szDocument_ok (a : tDocument.den) (n : Int) (h0 : 0 ≤ n) (h1 : n ≤ 1048576) : FunOK Try.prog 11 [⟨tDocument, a⟩, ⟨I, n⟩] (.rd I (szD tDocument a n)) := by
  obtain ⟨a0, a1, a2, _⟩ := a
  simp only [szD_cons, szD_int, szD_bool, szD_nil]
  rw [if_neg (show ¬ n < 0 by omega)]
  refine fun_of (tb := tb) follows Try.func11 (by kernel_rfl) Try.ntmps11 rfl rfl rfl ?_; intro cx hN hw
  simp (disch := exact eqId (by kernel_rfl)) only [go_sem, ↓reduceIte, Nat.reduceAdd, Nat.reduceMul, Nat.reduceLT, Nat.reduceBEq, Nat.reduceLeDiff, Nat.reduceEqDiff, Int.reduceToNat]
  refine callQ_intro (szStringS_ok a1 _ (by omega) (by omega)) ?_
  have b1 := (szD_le (.list .str) a1 (n) (by omega)).1
  simp (disch := exact eqId (by kernel_rfl)) only [go_sem, ↓reduceIte, Nat.reduceAdd, Nat.reduceMul, Nat.reduceLT, Nat.reduceBEq, Nat.reduceLeDiff, Nat.reduceEqDiff, Int.reduceToNat]
  refine ⟨fun h => ?_, fun h1 => ?_⟩
  · repeat' split
    all_goals first | rfl | omega
  refine callQ_intro (szIntS_ok a2 _ (by omega) (by omega)) ?_
  have b2 := (szD_le (.list I) a2 (szD (.list .str) a1 (n)) (by omega)).1
  simp (disch := exact eqId (by kernel_rfl)) only [go_sem, ↓reduceIte, Nat.reduceAdd, Nat.reduceMul, Nat.reduceLT, Nat.reduceBEq, Nat.reduceLeDiff, Nat.reduceEqDiff, Int.reduceToNat]
  refine ⟨fun h => ?_, fun h2 => ?_⟩
  · repeat' split
    all_goals first | rfl | omega
  repeat' split
  all_goals first | rfl | omega
theorem szRedacted_ok (a : tRedacted.den) (n : Int) (h0 : 0 ≤ n) (h1 : n ≤ 1048576) : FunOK Try.prog 45 [⟨tRedacted, a⟩, ⟨I, n⟩] (.rd I (szD tRedacted a n)) := by
  obtain ⟨a0, a1, a2, a3, a4, a5, _⟩ := a
  simp only [szD_cons, szD_int, szD_bool, szD_nil]
  rw [if_neg (show ¬ n < 0 by omega)]
  refine fun_of (tb := tb) follows Try.func45 (by kernel_rfl) Try.ntmps45 rfl rfl rfl ?_; intro cx hN hw
  simp (disch := exact eqId (by kernel_rfl)) only [go_sem, ↓reduceIte, Nat.reduceAdd, Nat.reduceMul, Nat.reduceLT, Nat.reduceBEq, Nat.reduceLeDiff, Nat.reduceEqDiff, Int.reduceToNat]
  refine callQ_intro (szIntS_ok a1 _ (by omega) (by omega)) ?_
  have b1 := (szD_le (.list I) a1 (n) (by omega)).1
  simp (disch := exact eqId (by kernel_rfl)) only [go_sem, ↓reduceIte, Nat.reduceAdd, Nat.reduceMul, Nat.reduceLT, Nat.reduceBEq, Nat.reduceLeDiff, Nat.reduceEqDiff, Int.reduceToNat]
  refine ⟨fun h => ?_, fun h1 => ?_⟩
  · repeat' split
    all_goals first | rfl | omega
  refine callQ_intro (szBoolS_ok a2 _ (by omega) (by omega)) ?_
  have b2 := (szD_le (.list .bool) a2 (szD (.list I) a1 (n)) (by omega)).1
  simp (disch := exact eqId (by kernel_rfl)) only [go_sem, ↓reduceIte, Nat.reduceAdd, Nat.reduceMul, Nat.reduceLT, Nat.reduceBEq, Nat.reduceLeDiff, Nat.reduceEqDiff, Int.reduceToNat]
  refine ⟨fun h => ?_, fun h2 => ?_⟩
  · repeat' split
    all_goals first | rfl | omega
  refine callQ_intro (szStringS_ok a3 _ (by omega) (by omega)) ?_
  have b3 := (szD_le (.list .str) a3 (szD (.list .bool) a2 (szD (.list I) a1 (n))) (by omega)).1
  simp (disch := exact eqId (by kernel_rfl)) only [go_sem, ↓reduceIte, Nat.reduceAdd, Nat.reduceMul, Nat.reduceLT, Nat.reduceBEq, Nat.reduceLeDiff, Nat.reduceEqDiff, Int.reduceToNat]
  refine ⟨fun h => ?_, fun h3 => ?_⟩
  · repeat' split
    all_goals first | rfl | omega
  refine callQ_intro (szIntS_ok a4 _ (by omega) (by omega)) ?_
  have b4 := (szD_le (.list I) a4 (szD (.list .str) a3 (szD (.list .bool) a2 (szD (.list I) a1 (n)))) (by omega)).1
  simp (disch := exact eqId (by kernel_rfl)) only [go_sem, ↓reduceIte, Nat.reduceAdd, Nat.reduceMul, Nat.reduceLT, Nat.reduceBEq, Nat.reduceLeDiff, Nat.reduceEqDiff, Int.reduceToNat]
  refine ⟨fun h => ?_, fun h4 => ?_⟩
  · repeat' split
    all_goals first | rfl | omega
  refine callQ_intro (szIntSS_ok a5 _ (by omega) (by omega)) ?_
  have b5 := (szD_le (.list (.list I)) a5 (szD (.list I) a4 (szD (.list .str) a3 (szD (.list .bool) a2 (szD (.list I) a1 (n))))) (by omega)).1
  simp (disch := exact eqId (by kernel_rfl)) only [go_sem, ↓reduceIte, Nat.reduceAdd, Nat.reduceMul, Nat.reduceLT, Nat.reduceBEq, Nat.reduceLeDiff, Nat.reduceEqDiff, Int.reduceToNat]
  refine ⟨fun h => ?_, fun h5 => ?_⟩
  · repeat' split
    all_goals first | rfl | omega
  repeat' split
  all_goals first | rfl | omega
theorem eqStringS_ok (a b : List (.str : Ty).den) : FunOK Try.prog 68 [⟨(.list .str), a⟩, ⟨(.list .str), b⟩] (.rd .bool (eqC a b)) := by
  refine fun_of (tb := tb) follows Try.func68 (by kernel_rfl) Try.ntmps68 rfl rfl rfl ?_; intro cx hN hw
  simp (disch := exact eqId (by kernel_rfl)) only [go_sem, ↓reduceIte, Nat.reduceAdd, Nat.reduceMul, Nat.reduceLT, Nat.reduceBEq, Nat.reduceLeDiff, Nat.reduceEqDiff, Int.reduceToNat]
  repeat' (first | (refine And.intro ?_ ?_) | intro _)
  all_goals (try omega)
  · refine Eq.symm (eqC_f.mpr ?_); rintro rfl; simp_all
  · have hl : a.length = b.length := by omega
    refine loop_intro (tb := tb) follows hN (D := Nat) (fun d => shp [(0, .rd (.list .str) (a)), (1, .rd (.list .str) (b)), (5, .rd I (d : Int))] []) (fun d => d ≤ a.length ∧ a.take d = b.take d) (fun d => a.length - d) (0) ?_ (sub_shp hN [] ?_) (fun d hd => ?_)
    · exact ⟨Nat.zero_le _, rfl⟩
    · simp (disch := exact eqId (by kernel_rfl)) only [go_sem, ↓reduceIte, Nat.reduceAdd, Nat.reduceMul, Nat.reduceLT, Nat.reduceBEq, Nat.reduceLeDiff, Nat.reduceEqDiff, Int.reduceToNat]
      rfl
    · obtain ⟨h1, h2⟩ := hd
      simp (disch := exact eqId (by kernel_rfl)) only [go_sem, ↓reduceIte, Nat.reduceAdd, Nat.reduceMul, Nat.reduceLT, Nat.reduceBEq, Nat.reduceLeDiff, Nat.reduceEqDiff, Int.reduceToNat]
      repeat' (first | (refine And.intro ?_ ?_) | intro _)
      all_goals (try omega)
      · rename_i hk _ hne
        refine Eq.symm (eqC_f.mpr ?_)
        rintro rfl
        simp_all [eqC_f]
      · rename_i hk _ he
        have hk : d < a.length := by omega
        refine back_intro (d + 1) ?_ ?_ (sub_shp hN [] ?_)
        · refine ⟨hk, ?_⟩
          rw [take_getD hk ((.str : Ty).dflt), take_getD (show d < b.length by omega) ((.str : Ty).dflt), h2]
          try simp only [eqC_t] at he
          try have he := str_inj he
          first | rw [he] | (simp_all; done)
        · omega
        · simp (disch := exact eqId (by kernel_rfl)) only [go_sem, ↓reduceIte, Nat.reduceAdd, Nat.reduceMul, Nat.reduceLT, Nat.reduceBEq, Nat.reduceLeDiff, Nat.reduceEqDiff, Int.reduceToNat]
          exact wrap_succ hk hw.1.1
      · have hk : d = a.length := by omega
        refine Eq.symm (eqC_t.mpr ?_)
        rw [hk, List.take_length, hl, List.take_length] at h2
        exact h2
end Go.Proofs.Ytfkdkblbhilghaa
/- What the laws' own marks answer over texts and documents. It proves nothing of a statement by itself. -/
set_option linter.unusedSimpArgs false
set_option linter.unusedVariables false
set_option maxRecDepth 100000
namespace Go.Proofs.Ytfkdkblbhilghaa
open Go.AL
theorem eqDocument_ok (a b : tDocument.den) : FunOK Try.prog 18 [⟨tDocument, a⟩, ⟨tDocument, b⟩] (.rd .bool (eqC a b)) := by
  refine fun_of (tb := tb) follows Try.func18 (by kernel_rfl) Try.ntmps18 rfl rfl rfl ?_; intro cx hN hw
  simp (disch := exact eqId (by kernel_rfl)) only [go_sem, ↓reduceIte, Nat.reduceAdd, Nat.reduceMul, Nat.reduceLT, Nat.reduceBEq, Nat.reduceLeDiff, Nat.reduceEqDiff, Int.reduceToNat]
  repeat' (first | (refine And.intro ?_ ?_) | intro _ | (refine callQ_intro (eqStringS_ok _ _) ?_; try (simp (disch := exact eqId (by kernel_rfl)) only [go_sem, ↓reduceIte, Nat.reduceAdd, Nat.reduceMul, Nat.reduceLT, Nat.reduceBEq, Nat.reduceLeDiff, Nat.reduceEqDiff, Int.reduceToNat])) | (refine callH_intro (fun hcc => eqStringS_ok _ _) ?_; try (simp (disch := exact eqId (by kernel_rfl)) only [go_sem, ↓reduceIte, Nat.reduceAdd, Nat.reduceMul, Nat.reduceLT, Nat.reduceBEq, Nat.reduceLeDiff, Nat.reduceEqDiff, Int.reduceToNat])) | (refine callQ_intro (eqIntS_ok _ _) ?_; try (simp (disch := exact eqId (by kernel_rfl)) only [go_sem, ↓reduceIte, Nat.reduceAdd, Nat.reduceMul, Nat.reduceLT, Nat.reduceBEq, Nat.reduceLeDiff, Nat.reduceEqDiff, Int.reduceToNat])) | (refine callH_intro (fun hcc => eqIntS_ok _ _) ?_; try (simp (disch := exact eqId (by kernel_rfl)) only [go_sem, ↓reduceIte, Nat.reduceAdd, Nat.reduceMul, Nat.reduceLT, Nat.reduceBEq, Nat.reduceLeDiff, Nat.reduceEqDiff, Int.reduceToNat])))
  all_goals (try simp only [eqC_t, eqC_f] at *)
  all_goals first
    | (refine Eq.symm (eqC_f.mpr ?_); rintro rfl; simp_all; done)
    | (refine Eq.symm (eqC_t.mpr ?_); obtain ⟨a0, a1, a2, _⟩ := a; obtain ⟨b0, b1, b2, _⟩ := b; simp_all; done)
theorem eqRedacted_ok (a b : tRedacted.den) : FunOK Try.prog 49 [⟨tRedacted, a⟩, ⟨tRedacted, b⟩] (.rd .bool (eqC a b)) := by
  refine fun_of (tb := tb) follows Try.func49 (by kernel_rfl) Try.ntmps49 rfl rfl rfl ?_; intro cx hN hw
  simp (disch := exact eqId (by kernel_rfl)) only [go_sem, ↓reduceIte, Nat.reduceAdd, Nat.reduceMul, Nat.reduceLT, Nat.reduceBEq, Nat.reduceLeDiff, Nat.reduceEqDiff, Int.reduceToNat]
  repeat' (first | (refine And.intro ?_ ?_) | intro _ | (refine callQ_intro (eqIntS_ok _ _) ?_; try (simp (disch := exact eqId (by kernel_rfl)) only [go_sem, ↓reduceIte, Nat.reduceAdd, Nat.reduceMul, Nat.reduceLT, Nat.reduceBEq, Nat.reduceLeDiff, Nat.reduceEqDiff, Int.reduceToNat])) | (refine callH_intro (fun hcc => eqIntS_ok _ _) ?_; try (simp (disch := exact eqId (by kernel_rfl)) only [go_sem, ↓reduceIte, Nat.reduceAdd, Nat.reduceMul, Nat.reduceLT, Nat.reduceBEq, Nat.reduceLeDiff, Nat.reduceEqDiff, Int.reduceToNat])) | (refine callQ_intro (eqBoolS_ok _ _) ?_; try (simp (disch := exact eqId (by kernel_rfl)) only [go_sem, ↓reduceIte, Nat.reduceAdd, Nat.reduceMul, Nat.reduceLT, Nat.reduceBEq, Nat.reduceLeDiff, Nat.reduceEqDiff, Int.reduceToNat])) | (refine callH_intro (fun hcc => eqBoolS_ok _ _) ?_; try (simp (disch := exact eqId (by kernel_rfl)) only [go_sem, ↓reduceIte, Nat.reduceAdd, Nat.reduceMul, Nat.reduceLT, Nat.reduceBEq, Nat.reduceLeDiff, Nat.reduceEqDiff, Int.reduceToNat])) | (refine callQ_intro (eqStringS_ok _ _) ?_; try (simp (disch := exact eqId (by kernel_rfl)) only [go_sem, ↓reduceIte, Nat.reduceAdd, Nat.reduceMul, Nat.reduceLT, Nat.reduceBEq, Nat.reduceLeDiff, Nat.reduceEqDiff, Int.reduceToNat])) | (refine callH_intro (fun hcc => eqStringS_ok _ _) ?_; try (simp (disch := exact eqId (by kernel_rfl)) only [go_sem, ↓reduceIte, Nat.reduceAdd, Nat.reduceMul, Nat.reduceLT, Nat.reduceBEq, Nat.reduceLeDiff, Nat.reduceEqDiff, Int.reduceToNat])) | (refine callQ_intro (eqIntSS_ok _ _) ?_; try (simp (disch := exact eqId (by kernel_rfl)) only [go_sem, ↓reduceIte, Nat.reduceAdd, Nat.reduceMul, Nat.reduceLT, Nat.reduceBEq, Nat.reduceLeDiff, Nat.reduceEqDiff, Int.reduceToNat])) | (refine callH_intro (fun hcc => eqIntSS_ok _ _) ?_; try (simp (disch := exact eqId (by kernel_rfl)) only [go_sem, ↓reduceIte, Nat.reduceAdd, Nat.reduceMul, Nat.reduceLT, Nat.reduceBEq, Nat.reduceLeDiff, Nat.reduceEqDiff, Int.reduceToNat])))
  all_goals (try simp only [eqC_t, eqC_f] at *)
  all_goals first
    | (refine Eq.symm (eqC_f.mpr ?_); rintro rfl; simp_all; done)
    | (refine Eq.symm (eqC_t.mpr ?_); obtain ⟨a0, a1, a2, a3, a4, a5, _⟩ := a; obtain ⟨b0, b1, b2, b3, b4, b5, _⟩ := b; simp_all; done)
def txl (m : Int) (s : ByteArray) : ByteArray := if h : 0 < m then txl (m.tdiv 10) (byS [IntKind.u8.wrap (IntKind.i64.wrap (48 + m.tmod 10))] ++ s) else s
termination_by m.toNat
decreasing_by
  have : m.tdiv 10 < m := by rw [Int.tdiv_eq_ediv_of_nonneg (by omega)]; omega
  have h2 : 0 ≤ m.tdiv 10 := by rw [Int.tdiv_eq_ediv_of_nonneg (by omega)]; omega
  omega
def txtF (n : Int) : ByteArray := if n ≤ 0 then ⟨#[109, 48]⟩ else ⟨#[109]⟩ ++ txl n ⟨#[]⟩
def txM (k : Nat) (n : Int) : List ByteArray := (List.range k).map fun i : Nat => txtF (n + i)
def boM (k : Nat) (n : Int) : List Bool := (List.range k).map fun i : Nat => ((n + i).tmod 3 == 0)
theorem cnv_ints (q : List Int) : cnv (.list I) q = q.length := by
  show (q.map fun _ => 1).sum = q.length
  induction q with
  | nil => rfl
  | cons a q ih => rw [List.map_cons, List.sum_cons, ih, List.length_cons]; omega
theorem markText_ok (n : Int) (h1 : n ≤ 1152921504606846980) : FunOK Try.prog 121 [⟨I, n⟩] (.rd .str (txtF n)) := by
  have hm : maxLen = 9223372036854775807 := rfl
  refine fun_of (tb := tb) follows Try.func121 (by kernel_rfl) Try.ntmps121 rfl rfl rfl ?_; intro cx hN hw
  simp (disch := exact eqId (by kernel_rfl)) only [go_sem, ↓reduceIte, Nat.reduceAdd, Nat.reduceMul, Nat.reduceLT, Nat.reduceBEq, Nat.reduceLeDiff, Nat.reduceEqDiff, Int.reduceToNat]
  repeat' (first | (refine And.intro ?_ ?_) | intro _)
  · rename_i h
    unfold txtF
    rw [if_pos h]
  · rename_i h
    refine loop_intro (tb := tb) follows hN (D := Int × ByteArray) (fun d => shp [(0, .rd I d.1), (3, .rd .str d.2)] []) (fun d => 0 ≤ d.1 ∧ d.1 ≤ n ∧ (d.2.size : Int) + d.1 ≤ n ∧ txl d.1 d.2 = txl n ⟨#[]⟩) (fun d => d.1.toNat) (n, ⟨#[]⟩) ?_ (sub_shp hN [] ?_) (fun d hd => ?_)
    · exact ⟨by omega, by simp only; omega, by simp only; show ((0 : Nat) : Int) + n ≤ n; omega, rfl⟩
    · simp (disch := exact eqId (by kernel_rfl)) only [go_sem, ↓reduceIte, Nat.reduceAdd, Nat.reduceMul, Nat.reduceLT, Nat.reduceBEq, Nat.reduceLeDiff, Nat.reduceEqDiff, Int.reduceToNat]
      all_goals trace_state
    · obtain ⟨k1, k2, k3, k4⟩ := hd
      have q0 : 0 < d.1 → 0 ≤ d.1.tdiv 10 ∧ d.1.tdiv 10 < d.1 := fun hp => by rw [Int.tdiv_eq_ediv_of_nonneg k1]; omega
      have q2 := byS_size [IntKind.u8.wrap (IntKind.i64.wrap (48 + d.1.tmod 10))]
      simp only [List.length_cons, List.length_nil] at q2
      have q3 := ByteArray.size_append (a := byS [IntKind.u8.wrap (IntKind.i64.wrap (48 + d.1.tmod 10))]) (b := d.2)
      simp (disch := exact eqId (by kernel_rfl)) only [go_sem, ↓reduceIte, Nat.reduceAdd, Nat.reduceMul, Nat.reduceLT, Nat.reduceBEq, Nat.reduceLeDiff, Nat.reduceEqDiff, Int.reduceToNat]
      refine ⟨fun hp => ⟨by decide, ?_, by decide, ?_⟩, fun hp => ⟨?_, ?_⟩⟩
      · rw [q2]; omega
      · have q1 := q0 hp
        rw [txl, dif_pos hp] at k4
        refine back_intro (d.1.tdiv 10, byS [IntKind.u8.wrap (IntKind.i64.wrap (48 + d.1.tmod 10))] ++ d.2) ?_ ?_ (sub_shp hN [] ?_)
        · exact ⟨by simp only; omega, by simp only; omega, by simp only; rw [q3, q2]; omega, k4⟩
        · simp only; omega
        · simp (disch := exact eqId (by kernel_rfl)) only [go_sem, ↓reduceIte, Nat.reduceAdd, Nat.reduceMul, Nat.reduceLT, Nat.reduceBEq, Nat.reduceLeDiff, Nat.reduceEqDiff, Int.reduceToNat]
          exact wrap_i64 (by omega) (by omega)
      · show 1 + d.2.size ≤ maxLen
        omega
      · unfold txtF
        rw [if_neg h, ← k4, txl, dif_neg (by omega)]
theorem markStringS_m (l : List (.str : Ty).den) (n : Int) (h0 : 0 ≤ n) (h1 : n + l.length ≤ 1152921504606846976) (hs : l.length ≤ 1073741824) : MutOK Try.prog 71 [none, none] [.obj (.arr 9 .str l), .rd ⟨I, n⟩] (.rd I (n + l.length : Int)) [.arr 9 .str (txM l.length n)] := by
  have hm : ∀ k, k ≤ l.length → ((List.range k).map (fun i : Nat => txtF (n + i)) ++ l.drop k).length = l.length := fun k hk => by rw [List.length_append, List.length_map, List.length_range, List.length_drop]; omega
  have hst : ∀ k, k < l.length → ((List.range k).map (fun i : Nat => txtF (n + i)) ++ l.drop k).set k (txtF (n + k)) = (List.range (k + 1)).map (fun i : Nat => txtF (n + i)) ++ l.drop (k + 1) := fun k hk => by
    have ht : ((List.range k).map (fun i : Nat => txtF (n + i))).length = k := by rw [List.length_map, List.length_range]
    rw [List.set_append_right _ _ (by omega), ht, Nat.sub_self, List.drop_eq_getElem_cons hk, List.set_cons_zero, List.range_succ, List.map_append, List.append_assoc]
    rfl
  refine fun_ofM (tb := tb) follows Try.func71 (by kernel_rfl) Try.ntmps71 rfl rfl (by simp [shOK]) rfl ?_; intro cx hN hw
  simp (disch := exact eqId (by kernel_rfl)) only [go_sem, ↓reduceIte, Nat.reduceAdd, Nat.reduceMul, Nat.reduceLT, Nat.reduceBEq, Nat.reduceLeDiff, Nat.reduceEqDiff, Int.reduceToNat]
  refine loop_intro (tb := tb) follows hN (D := Nat) (fun d => shp [(0, .own 0), (1, .rd I (n + d : Int)), (5, .rd I (d : Int))] [(0, .arr 9 .str ((List.range d).map (fun i : Nat => txtF (n + i)) ++ l.drop d))]) (fun d => d ≤ l.length) (fun d => l.length - d) (0) ?_ (sub_shp hN [(0, some 0)] ?_) (fun d hd => ?_)
  · exact Nat.zero_le _
  · simp (disch := exact eqId (by kernel_rfl)) only [go_sem, ↓reduceIte, Nat.reduceAdd, Nat.reduceMul, Nat.reduceLT, Nat.reduceBEq, Nat.reduceLeDiff, Nat.reduceEqDiff, Int.reduceToNat]
    simp
  · simp (disch := exact eqId (by kernel_rfl)) only [go_sem, ↓reduceIte, Nat.reduceAdd, Nat.reduceMul, Nat.reduceLT, Nat.reduceBEq, Nat.reduceLeDiff, Nat.reduceEqDiff, Int.reduceToNat]
    rw [hm d hd]
    repeat' (first | (refine And.intro ?_ ?_) | intro _ | (refine callQ_intro (markText_ok _ (by omega)) ?_; try (simp (disch := exact eqId (by kernel_rfl)) only [go_sem, ↓reduceIte, Nat.reduceAdd, Nat.reduceMul, Nat.reduceLT, Nat.reduceBEq, Nat.reduceLeDiff, Nat.reduceEqDiff, Int.reduceToNat])) | (refine callH_intro (fun hcc => markText_ok _ (by omega)) ?_; try (simp (disch := exact eqId (by kernel_rfl)) only [go_sem, ↓reduceIte, Nat.reduceAdd, Nat.reduceMul, Nat.reduceLT, Nat.reduceBEq, Nat.reduceLeDiff, Nat.reduceEqDiff, Int.reduceToNat])))
    all_goals (try simp only [List.length_set, hm d hd])
    all_goals (try omega)
    · have hk : d < l.length := by omega
      refine back_intro (d + 1) ?_ ?_ (sub_shp hN [(0, some 0)] ?_)
      · exact hk
      · omega
      · simp (disch := exact eqId (by kernel_rfl)) only [go_sem, ↓reduceIte, Nat.reduceAdd, Nat.reduceMul, Nat.reduceLT, Nat.reduceBEq, Nat.reduceLeDiff, Nat.reduceEqDiff, Int.reduceToNat]
        have hst' := hst d hk
        rw [List.range_succ] at hst'
        rw [← hst']
        exact ⟨rfl, I_eq (by rw [wrap_i64 (by omega) (by omega)]; omega), wrap_succ' (by omega)⟩
    · have hk : d = l.length := by omega
      rw [hk]
    · have hk : d = l.length := by omega
      simp [hk, txM]
theorem markBoolS_m (l : List (.bool : Ty).den) (n : Int) (h0 : 0 ≤ n) (h1 : n + l.length ≤ 1152921504606846976) (hs : l.length ≤ 1073741824) : MutOK Try.prog 105 [none, none] [.obj (.arr 4 .bool l), .rd ⟨I, n⟩] (.rd I (n + l.length : Int)) [.arr 4 .bool (boM l.length n)] := by
  have hm : ∀ k, k ≤ l.length → ((List.range k).map (fun i : Nat => ((n + i).tmod 3 == 0)) ++ l.drop k).length = l.length := fun k hk => by rw [List.length_append, List.length_map, List.length_range, List.length_drop]; omega
  have hst : ∀ k, k < l.length → ((List.range k).map (fun i : Nat => ((n + i).tmod 3 == 0)) ++ l.drop k).set k ((n + k).tmod 3 == 0) = (List.range (k + 1)).map (fun i : Nat => ((n + i).tmod 3 == 0)) ++ l.drop (k + 1) := fun k hk => by
    have ht : ((List.range k).map (fun i : Nat => ((n + i).tmod 3 == 0))).length = k := by rw [List.length_map, List.length_range]
    rw [List.set_append_right _ _ (by omega), ht, Nat.sub_self, List.drop_eq_getElem_cons hk, List.set_cons_zero, List.range_succ, List.map_append, List.append_assoc]
    rfl
  refine fun_ofM (tb := tb) follows Try.func105 (by kernel_rfl) Try.ntmps105 rfl rfl (by simp [shOK]) rfl ?_; intro cx hN hw
  simp (disch := exact eqId (by kernel_rfl)) only [go_sem, ↓reduceIte, Nat.reduceAdd, Nat.reduceMul, Nat.reduceLT, Nat.reduceBEq, Nat.reduceLeDiff, Nat.reduceEqDiff, Int.reduceToNat]
  refine loop_intro (tb := tb) follows hN (D := Nat) (fun d => shp [(0, .own 0), (1, .rd I (n + d : Int)), (5, .rd I (d : Int))] [(0, .arr 4 .bool ((List.range d).map (fun i : Nat => ((n + i).tmod 3 == 0)) ++ l.drop d))]) (fun d => d ≤ l.length) (fun d => l.length - d) (0) ?_ (sub_shp hN [(0, some 0)] ?_) (fun d hd => ?_)
  · exact Nat.zero_le _
  · simp (disch := exact eqId (by kernel_rfl)) only [go_sem, ↓reduceIte, Nat.reduceAdd, Nat.reduceMul, Nat.reduceLT, Nat.reduceBEq, Nat.reduceLeDiff, Nat.reduceEqDiff, Int.reduceToNat]
    simp
  · simp (disch := exact eqId (by kernel_rfl)) only [go_sem, ↓reduceIte, Nat.reduceAdd, Nat.reduceMul, Nat.reduceLT, Nat.reduceBEq, Nat.reduceLeDiff, Nat.reduceEqDiff, Int.reduceToNat]
    rw [hm d hd]
    repeat' (first | (refine And.intro ?_ ?_) | intro _)
    all_goals (try simp only [List.length_set, hm d hd])
    all_goals (try omega)
    · have hk : d < l.length := by omega
      refine back_intro (d + 1) ?_ ?_ (sub_shp hN [(0, some 0)] ?_)
      · exact hk
      · omega
      · simp (disch := exact eqId (by kernel_rfl)) only [go_sem, ↓reduceIte, Nat.reduceAdd, Nat.reduceMul, Nat.reduceLT, Nat.reduceBEq, Nat.reduceLeDiff, Nat.reduceEqDiff, Int.reduceToNat]
        have hst' := hst d hk
        rw [List.range_succ] at hst'
        rw [← hst']
        exact ⟨rfl, I_eq (by rw [wrap_i64 (by omega) (by omega)]; omega), wrap_succ' (by omega)⟩
    · have hk : d = l.length := by omega
      rw [hk]
    · have hk : d = l.length := by omega
      simp [hk, boM]
theorem markDocument_m (x : Int) (p : List ByteArray) (q : List Int) (n : Int) (h0 : 0 ≤ n) (h1 : n ≤ 1152921504600000000) (hp : p.length ≤ 1048576) (hq : q.length ≤ 1048576) : MutOK Try.prog 20 [some 3, none] [.rd ⟨I, x⟩, .obj (.arr 9 .str p), .obj (.arr 3 I q), .rd ⟨I, n⟩] (.rd I (n + p.length + q.length : Int)) [.arr 9 .str (txM p.length n), .arr 3 I (mrk (.list I) q (n + p.length)).1] := by
  have f2 := mrk_snd (.list I) q (n + p.length)
  have f3 : cnv (.list I) q = q.length := cnv_ints q
  refine fun_ofM (tb := tb) follows Try.func20 (by kernel_rfl) Try.ntmps20 rfl rfl (by simp [shOK]) rfl ?_; intro cx hN hw
  simp (disch := exact eqId (by kernel_rfl)) only [go_sem, ↓reduceIte, Nat.reduceAdd, Nat.reduceMul, Nat.reduceLT, Nat.reduceBEq, Nat.reduceLeDiff, Nat.reduceEqDiff, Int.reduceToNat]
  refine callM_intro (markStringS_m p n h0 (by omega) (by omega)) ⟨⟨trivial, by decide⟩, rfl, rfl⟩ ?_
  simp (disch := exact eqId (by kernel_rfl)) only [go_sem, ↓reduceIte, Nat.reduceAdd, Nat.reduceMul, Nat.reduceLT, Nat.reduceBEq, Nat.reduceLeDiff, Nat.reduceEqDiff, Int.reduceToNat]
  refine callM_intro (markIntS_m q _ (by omega) (by omega) (by omega)) ⟨⟨trivial, by decide⟩, rfl, rfl⟩ ?_
  simp (disch := exact eqId (by kernel_rfl)) only [go_sem, ↓reduceIte, Nat.reduceAdd, Nat.reduceMul, Nat.reduceLT, Nat.reduceBEq, Nat.reduceLeDiff, Nat.reduceEqDiff, Int.reduceToNat]
  first | (rw [f2, f3]; done) | exact I_eq (by rw [f2, f3]) | trace_state
theorem markRedacted_m (a : tRedacted.den) (n : Int) (h0 : 0 ≤ n) (h1 : n ≤ 1152921504500000000) (hs : Small tRedacted 1048576 a) (hc : cnv (.list (.list I)) a.2.2.2.2.2.1 ≤ 10000000) : MutOK Try.prog 50 [some 6, none] [.rd ⟨I, a.1⟩, .obj (.arr 3 I a.2.1), .obj (.arr 4 .bool a.2.2.1), .obj (.arr 9 .str a.2.2.2.1), .obj (.arr 3 I a.2.2.2.2.1), .obj (.deep TE (.list I) a.2.2.2.2.2.1), .rd ⟨I, n⟩] (.rd I (mrk (.list (.list I)) a.2.2.2.2.2.1 (n + a.2.1.length + a.2.2.1.length + a.2.2.2.1.length + a.2.2.2.2.1.length)).2) [.arr 3 I (mrk (.list I) a.2.1 n).1, .arr 4 .bool (boM a.2.2.1.length (n + a.2.1.length)), .arr 9 .str (txM a.2.2.2.1.length (n + a.2.1.length + a.2.2.1.length)), .arr 3 I (mrk (.list I) a.2.2.2.2.1 (n + a.2.1.length + a.2.2.1.length + a.2.2.2.1.length)).1, .deep TE (.list I) (mrk (.list (.list I)) a.2.2.2.2.2.1 (n + a.2.1.length + a.2.2.1.length + a.2.2.2.1.length + a.2.2.2.2.1.length)).1] := by
  have l1 : a.2.1.length ≤ 1048576 := hs.2.1.1
  have l2 : a.2.2.1.length ≤ 1048576 := hs.2.2.1.1
  have l3 : a.2.2.2.1.length ≤ 1048576 := hs.2.2.2.1.1
  have l4 : a.2.2.2.2.1.length ≤ 1048576 := hs.2.2.2.2.1.1
  have f2 : (mrk (.list I) a.2.1 n).2 = n + a.2.1.length := by rw [mrk_snd, cnv_ints]
  have f3 : (mrk (.list I) a.2.2.2.2.1 (n + a.2.1.length + a.2.2.1.length + a.2.2.2.1.length)).2 = n + a.2.1.length + a.2.2.1.length + a.2.2.2.1.length + a.2.2.2.2.1.length := by rw [mrk_snd, cnv_ints]
  refine fun_ofM (tb := tb) follows Try.func50 (by kernel_rfl) Try.ntmps50 rfl rfl (by simp [shOK]) rfl ?_; intro cx hN hw
  simp (disch := exact eqId (by kernel_rfl)) only [go_sem, ↓reduceIte, Nat.reduceAdd, Nat.reduceMul, Nat.reduceLT, Nat.reduceBEq, Nat.reduceLeDiff, Nat.reduceEqDiff, Int.reduceToNat]
  refine callM_intro (markIntS_m a.2.1 n h0 (by omega) (by omega)) ⟨⟨trivial, by decide⟩, rfl, rfl⟩ ?_
  simp (disch := exact eqId (by kernel_rfl)) only [go_sem, ↓reduceIte, Nat.reduceAdd, Nat.reduceMul, Nat.reduceLT, Nat.reduceBEq, Nat.reduceLeDiff, Nat.reduceEqDiff, Int.reduceToNat]
  rw [f2]
  refine callM_intro (markBoolS_m a.2.2.1 (n + a.2.1.length) (by omega) (by omega) (by omega)) ⟨⟨trivial, by decide⟩, rfl, rfl⟩ ?_
  simp (disch := exact eqId (by kernel_rfl)) only [go_sem, ↓reduceIte, Nat.reduceAdd, Nat.reduceMul, Nat.reduceLT, Nat.reduceBEq, Nat.reduceLeDiff, Nat.reduceEqDiff, Int.reduceToNat]
  refine callM_intro (markStringS_m a.2.2.2.1 (n + a.2.1.length + a.2.2.1.length) (by omega) (by omega) (by omega)) ⟨⟨trivial, by decide⟩, rfl, rfl⟩ ?_
  simp (disch := exact eqId (by kernel_rfl)) only [go_sem, ↓reduceIte, Nat.reduceAdd, Nat.reduceMul, Nat.reduceLT, Nat.reduceBEq, Nat.reduceLeDiff, Nat.reduceEqDiff, Int.reduceToNat]
  refine callM_intro (markIntS_m a.2.2.2.2.1 (n + a.2.1.length + a.2.2.1.length + a.2.2.2.1.length) (by omega) (by omega) (by omega)) ⟨⟨trivial, by decide⟩, rfl, rfl⟩ ?_
  simp (disch := exact eqId (by kernel_rfl)) only [go_sem, ↓reduceIte, Nat.reduceAdd, Nat.reduceMul, Nat.reduceLT, Nat.reduceBEq, Nat.reduceLeDiff, Nat.reduceEqDiff, Int.reduceToNat]
  rw [f3]
  refine callM_intro (markIntSS_d a.2.2.2.2.2.1 (n + a.2.1.length + a.2.2.1.length + a.2.2.2.1.length + a.2.2.2.2.1.length) (by omega) (by omega) (hs.2.2.2.2.2.1.mono (by omega))) ⟨⟨trivial, by decide⟩, rfl, rfl⟩ ?_
  simp (disch := exact eqId (by kernel_rfl)) only [go_sem, ↓reduceIte, Nat.reduceAdd, Nat.reduceMul, Nat.reduceLT, Nat.reduceBEq, Nat.reduceLeDiff, Nat.reduceEqDiff, Int.reduceToNat]
  all_goals trace_state
end Go.Proofs.Ytfkdkblbhilghaa
/- What the draws' cursor answers. It proves nothing of a statement by itself. -/
set_option linter.unusedSimpArgs false
set_option linter.unusedVariables false
set_option maxRecDepth 100000
namespace Go.Proofs.Ytfkdkblbhilghaa
open Go.AL
def byH (h : Int) : Int := IntKind.i64.wrap (IntKind.i64.wrap (h * 6364136223846793005) + 1442695040888963407)
def byW (h : Int) : Int := bitI .and .i64 (bitI .xor .i64 (Int.fdiv (byH h) (2 ^ (min 33 64))) (Int.fdiv (byH h) (2 ^ (min 47 64)))) 255
def byX (b : List Int) (i h : Int) : Int := if i < (b.length : Int) then bitI .and .i64 (IntKind.i64.wrap (byW h + IntKind.i64.wrap (b.getD i.toNat 0))) 255 else byW h
def byI (b : List Int) (i : Int) : Int := if i < (b.length : Int) then IntKind.i64.wrap (i + 1) else i
theorem byI_ge {b : List Int} {i : Int} (hb : b.length ≤ maxLen) (h : 0 ≤ i) : 0 ≤ byI b i := by
  have hm : maxLen = 9223372036854775807 := rfl
  unfold byI
  split
  · rw [wrap_i64 (by omega) (by omega)]; omega
  · exact h
def blX (b : List Int) (i h n : Int) : Int := if n ≤ 0 then 0 else if n ≤ 256 then (byX b i h).tmod n else (IntKind.i64.wrap (IntKind.i64.wrap (IntKind.i64.wrap (byX b i h * 65536) + IntKind.i64.wrap (byX b (byI b i) (byH h) * 256)) + byX b (byI b (byI b i)) (byH (byH h)))).tmod n
def blI (b : List Int) (i n : Int) : Int := if n ≤ 0 then i else if n ≤ 256 then byI b i else byI b (byI b (byI b i))
def blH (h n : Int) : Int := if n ≤ 0 then h else if n ≤ 256 then byH h else byH (byH (byH h))
theorem blI_ge {b : List Int} {i n : Int} (hb : b.length ≤ maxLen) (h : 0 ≤ i) : 0 ≤ blI b i n := by
  unfold blI
  repeat' split
  · exact h
  · exact byI_ge hb h
  · exact byI_ge hb (byI_ge hb (byI_ge hb h))
theorem blX_lt {b : List Int} {i h n : Int} (hn : 1 ≤ n) : blX b i h n < n := by
  unfold blX
  rw [if_neg (by omega)]
  split <;> exact Int.tmod_lt_of_pos _ (by omega)
def nwG (h x : Int) : Int := bitI .and .i64 (IntKind.i64.wrap (IntKind.i64.wrap (IntKind.i64.wrap (h * 137) + IntKind.i64.wrap x) + 11)) 1073741823
def nwK (b : List Int) : Nat → Nat → Int → Int
  | 0, _, h => h
  | n + 1, k, h => if k < b.length ∧ k < 4000 then nwK b n (k + 1) (nwG h (b.getD k 0)) else h
theorem nwK_end {b : List Int} {k : Nat} {h : Int} (hk : ¬ (k < b.length ∧ k < 4000)) : nwK b (4000 - k) k h = h := by
  cases hn : 4000 - k with
  | zero => rfl
  | succ n => rw [nwK, if_neg hk]
def newH (b : List Int) : Int := nwK b 4000 0 (IntKind.i64.wrap (193017 + (b.length : Int)))
end Go.Proofs.Ytfkdkblbhilghaa
/- What small draws answer, by the state of their cursor. It proves nothing of a statement by itself. -/
set_option linter.unusedSimpArgs false
set_option linter.unusedVariables false
set_option maxRecDepth 100000
namespace Go.Proofs.Ytfkdkblbhilghaa
open Go.AL
theorem bit_255 (x : Int) : 0 ≤ bitI .and .i64 x 255 ∧ bitI .and .i64 x 255 ≤ 255 := by
  have h : (BitVec.ofInt 64 x &&& BitVec.ofInt 64 255).toNat ≤ 255 := by
    rw [BitVec.toNat_and]
    exact Nat.le_trans Nat.and_le_right (by decide)
  have e : bitI .and .i64 x 255 = IntKind.i64.wrap ((BitVec.ofInt 64 x &&& BitVec.ofInt 64 255).toNat : Int) := rfl
  rw [e, wrap_i64 (by omega) (by omega)]
  omega
theorem byX_in (b : List Int) (i h : Int) : 0 ≤ byX b i h ∧ byX b i h ≤ 255 := by
  unfold byX byW
  split <;> exact bit_255 _
theorem blX_ge {b : List Int} {i h n : Int} (hn : 1 ≤ n) : 0 ≤ blX b i h n := by
  unfold blX
  rw [if_neg (by omega)]
  split
  · exact Int.tmod_nonneg _ (byX_in _ _ _).1
  · have h1 := byX_in b i h
    have h2 := byX_in b (byI b i) (byH h)
    have h3 := byX_in b (byI b (byI b i)) (byH (byH h))
    rw [wrap_i64 (n := byX b i h * 65536) (by omega) (by omega), wrap_i64 (n := byX b (byI b i) (byH h) * 256) (by omega) (by omega), wrap_i64 (n := byX b i h * 65536 + byX b (byI b i) (byH h) * 256) (by omega) (by omega), wrap_i64 (by omega) (by omega)]
    exact Int.tmod_nonneg _ (by omega)
/-- The state of a draws' cursor. -/
structure Cu where
  b : List Int
  i : Int
  h : Int
  hb : b.length ≤ maxLen
  hi : 0 ≤ i
def cu0 (b : List Int) (hb : b.length ≤ maxLen) : Cu := ⟨b, 0, newH b, hb, Int.le_refl 0⟩
def dB (s : Cu) (n : Int) : Int × Cu := (blX s.b s.i s.h n, ⟨s.b, blI s.b s.i n, blH s.h n, s.hb, blI_ge s.hb s.hi⟩)
theorem dB_in (s : Cu) {n : Int} (hn : 1 ≤ n) : 0 ≤ (dB s n).1 ∧ (dB s n).1 < n := ⟨blX_ge hn, blX_lt hn⟩
def dO (s : Cu) (n : Int) : Bool × Cu := ((dB s n).1 == 0, (dB s n).2)
def dI (s : Cu) (l : List Int) : Int × Cu := (l.getD (dB s (l.length : Int)).1.toNat 0, (dB s (l.length : Int)).2)
theorem dI_mem (s : Cu) {l : List Int} (hl : 1 ≤ l.length) : (dI s l).1 ∈ l := by
  have := dB_in s (n := (l.length : Int)) (by omega)
  exact getD_mem (by omega) 0
def rep {α : Type} (f : Cu → α × Cu) : Nat → Cu → List α × Cu
  | 0, s => ([], s)
  | n + 1, s => ((f s).1 :: (rep f n (f s).2).1, (rep f n (f s).2).2)
theorem rep_len {α : Type} (f : Cu → α × Cu) : ∀ (n : Nat) (s : Cu), (rep f n s).1.length = n
  | 0, _ => rfl
  | n + 1, s => by rw [rep]; simp only [List.length_cons]; rw [rep_len f n]
theorem rep_all {α : Type} {f : Cu → α × Cu} {p : α → Prop} (hf : ∀ s, p (f s).1) : ∀ (n : Nat) (s : Cu) (x : α), x ∈ (rep f n s).1 → p x
  | 0, _, x, h => by cases h
  | n + 1, s, x, h => by
    rw [rep] at h
    rcases List.mem_cons.1 h with rfl | h
    · exact hf s
    · exact rep_all hf n _ x h
def NUM : List Int := [1, 2, 11, 12, 13, 21, 31, 32, 33, 34, 0, 50]
def RAW : List Int := [-1, 0, 10000, 10001, 9223372036854775807, -9223372036854775808]
def dN (s : Cu) : Int × Cu := dI s NUM
def dR (s : Cu) : Int × Cu := if (dO s 6).1 = true then dI (dO s 6).2 RAW else dB (dO s 6).2 40
def dSp (s : Cu) : tSpan.den × Cu := (((dB s 30).1, IntKind.i64.wrap ((dB s 30).1 + (dB (dB s 30).2 12).1), ()), (dB (dB s 30).2 12).2)
def dSpA (s : Cu) : tSpan.den × Cu :=
  let x := dSp s
  let k := dB x.2 8
  if k.1 = 0 then (((dR k.2).1, x.1.2.1, ()), (dR k.2).2) else if k.1 = 1 then ((x.1.1, (dR k.2).1, ()), (dR k.2).2) else (x.1, k.2)
end Go.Proofs.Ytfkdkblbhilghaa
/- What the functions of digests, paths and trees answer, on both sides. It proves nothing of a statement by itself. -/
set_option linter.unusedSimpArgs false
set_option linter.unusedVariables false
set_option maxRecDepth 100000
namespace Go.Proofs.Ytfkdkblbhilghaa
open Go.AL
theorem map_take_succ {α β : Type} (f : α → β) {l : List α} {k : Nat} (hk : k < l.length) (d : α) : (l.take (k + 1)).map f = (l.take k).map f ++ [f (l.getD k d)] := by
  rw [take_getD hk d, List.map_append]
  rfl
def pgF (m : Int) (p : tPiece.den) : Int := digF m (p.1 :: p.2.2.1 :: p.2.1)
def pdF (m : Int) (l : List tPiece.den) : Int := digF m (2 :: l.map (pgF m))
theorem dLen {l : List tPiece.den} (hs : Small (.list tPiece) 1048576 l) {k : Nat} (hk : k < l.length) {df : tPiece.den} (x y : Int) : (x :: y :: (l.getD k df).2.1).length ≤ 1073741824 := by
  have := (hs.2 _ (getD_mem hk df)).2.1.1
  simp only [List.length_cons]
  omega
def leafF (m a : Int) (l : List tPiece.den) (b : Int) : Int := digF m [3, a, pdF m l, b]
theorem pLen {l : List tPiece.den} (hs : Small (.list tPiece) 1048576 l) {k : Nat} (hk : k < l.length) (df : tPiece.den) : (l.getD k df).2.1.length ≤ 1048576 :=
  (hs.2 _ (getD_mem hk df)).2.1.1
def fpStep (m : Int) (h : Int) (s : tStep.den) : Int := if s.2.1 then pairF m s.1 h else pairF m h s.1
def upF (m : Int) : List Int → List Int
  | a :: b :: r => pairF m a b :: upF m r
  | l => l
theorem upF_two (m : Int) {l : List Int} {k : Nat} (h : k + 1 < l.length) : upF m (l.drop k) = pairF m (l.getD k 0) (l.getD (k + 1) 0) :: upF m (l.drop (k + 2)) := by
  rw [drop_getD (show k < l.length by omega) 0, drop_getD h 0, upF]
theorem upF_one (m : Int) {l : List Int} {k : Nat} (h : k + 1 = l.length) : upF m (l.drop k) = [l.getD k 0] := by
  rw [drop_getD (show k < l.length by omega) 0, List.drop_eq_nil_of_le (by omega)]
  rfl
theorem upF_len (m : Int) : ∀ l : List Int, 2 * (upF m l).length ≤ l.length + 1
  | [] => by simp [upF]
  | [_] => by simp [upF]
  | a :: b :: r => by
    have := upF_len m r
    simp only [upF, List.length_cons]; omega
theorem upF_len2 (m : Int) : ∀ l : List Int, l.length ≤ 2 * (upF m l).length
  | [] => by simp [upF]
  | [_] => by simp [upF]
  | a :: b :: r => by
    have := upF_len2 m r
    simp only [upF, List.length_cons]; omega
def topR (m : Int) (l : List Int) : List Int := if h : l.length ≤ 1 then l else topR m (upF m l)
termination_by l.length
decreasing_by have := upF_len m l; omega
def rootF (m : Int) (l : List Int) : Int := if 1 ≤ l.length ∧ l.length ≤ 16 then (topR m l).getD 0 0 else -1
theorem renEq {a b : tRenewal.den} (h0 : a.1 = b.1) (h1 : a.2.1 = b.2.1) (h2 : a.2.2.1 = b.2.2.1) (h3 : a.2.2.2.1 = b.2.2.2.1) (h4 : a.2.2.2.2.1 = b.2.2.2.2.1) : a = b := by
  obtain ⟨a0, a1, a2, a3, a4, ⟨⟩⟩ := a
  obtain ⟨b0, b1, b2, b3, b4, ⟨⟩⟩ := b
  simp only at h0 h1 h2 h3 h4
  subst h0 h1 h2 h3 h4
  rfl
theorem impl_EqualRenewals_ok (a b : tRenewal.den) : FunOK Try.prog 142 [⟨tRenewal, a⟩, ⟨tRenewal, b⟩] (.rd .bool (eqC a b)) := by
  refine fun_of (tb := tb) follows Try.func142 (by kernel_rfl) Try.ntmps142 rfl rfl rfl ?_; intro cx hN hw
  simp (disch := exact eqId (by kernel_rfl)) only [go_sem, ↓reduceIte, Nat.reduceAdd, Nat.reduceMul, Nat.reduceLT, Nat.reduceBEq, Nat.reduceLeDiff, Nat.reduceEqDiff, Int.reduceToNat]
  repeat' (first | (refine And.intro ?_ ?_) | intro _)
  all_goals (try omega)
  · rename_i hc
    refine Eq.symm (eqC_f.mpr ?_)
    rintro rfl
    simp_all
  · rename_i hc
    obtain ⟨⟨⟨c0, c1⟩, c2⟩, hl⟩ := hc
    have hl3 : List.length a.2.2.2.1 = List.length b.2.2.2.1 := by omega
    refine loop_intro (tb := tb) follows hN (D := Nat) (fun d => shp [(2, .bp 10000 0), (3, .bp 10016 0), (36, .rd I (((a.2.2.2.1).length : Int) : Int)), (37, .rd I (d : Int))] [(10000, .box 66 [.rd I (a.1), .rd I (a.2.1), .rd I (a.2.2.1), .rd (.list tStep) (a.2.2.2.1), .rd (.list tStamp) (a.2.2.2.2.1)]), (10016, .box 66 [.rd I (b.1), .rd I (b.2.1), .rd I (b.2.2.1), .rd (.list tStep) (b.2.2.2.1), .rd (.list tStamp) (b.2.2.2.2.1)])]) (fun d => d ≤ List.length a.2.2.2.1 ∧ List.take d a.2.2.2.1 = List.take d b.2.2.2.1) (fun d => List.length a.2.2.2.1 - d) (0) ?_ (sub_shp hN [(10000, some 10000), (10016, some 10016)] ?_) (fun d hd => ?_)
    · exact ⟨Nat.zero_le _, rfl⟩
    · simp (disch := exact eqId (by kernel_rfl)) only [go_sem, ↓reduceIte, Nat.reduceAdd, Nat.reduceMul, Nat.reduceLT, Nat.reduceBEq, Nat.reduceLeDiff, Nat.reduceEqDiff, Int.reduceToNat]
      try rfl
    · obtain ⟨h1, h2⟩ := hd
      simp (disch := exact eqId (by kernel_rfl)) only [go_sem, ↓reduceIte, Nat.reduceAdd, Nat.reduceMul, Nat.reduceLT, Nat.reduceBEq, Nat.reduceLeDiff, Nat.reduceEqDiff, Int.reduceToNat]
      repeat' (first | (refine And.intro ?_ ?_) | intro _ | (refine callQ_intro (impl_equalStamps_ok _ _) ?_; try (simp (disch := exact eqId (by kernel_rfl)) only [go_sem, ↓reduceIte, Nat.reduceAdd, Nat.reduceMul, Nat.reduceLT, Nat.reduceBEq, Nat.reduceLeDiff, Nat.reduceEqDiff, Int.reduceToNat])) | (refine callH_intro (fun hcc => impl_equalStamps_ok _ _) ?_; try (simp (disch := exact eqId (by kernel_rfl)) only [go_sem, ↓reduceIte, Nat.reduceAdd, Nat.reduceMul, Nat.reduceLT, Nat.reduceBEq, Nat.reduceLeDiff, Nat.reduceEqDiff, Int.reduceToNat])))
      all_goals (try omega)
      · rename_i hk hne
        refine Eq.symm (eqC_f.mpr ?_)
        rintro rfl
        simp_all
      · rename_i hk he
        have hk : d < List.length a.2.2.2.1 := by omega
        have hk2 : d < List.length b.2.2.2.1 := by omega
        refine back_intro (d + 1) ?_ ?_ (sub_shp hN [(10000, some 10000), (10016, some 10016)] ?_)
        · refine ⟨hk, ?_⟩
          rw [take_getD hk (0, false, ()), take_getD hk2 (0, false, ()), h2]
          first | rw [he] | (simp_all; done)
        · omega
        · simp (disch := exact eqId (by kernel_rfl)) only [go_sem, ↓reduceIte, Nat.reduceAdd, Nat.reduceMul, Nat.reduceLT, Nat.reduceBEq, Nat.reduceLeDiff, Nat.reduceEqDiff, Int.reduceToNat]
          exact wrap_succ hk hw.1.2.2.2.1.1
      · rename_i hk
        have hk : d = List.length a.2.2.2.1 := by omega
        have hh3 : a.2.2.2.1 = b.2.2.2.1 := by
          rw [hk, List.take_length, hl3, List.take_length] at h2
          exact h2
        refine Bool.eq_iff_iff.mpr ?_
        rw [eqC_t, eqC_t]
        exact ⟨fun h => renEq c0 c1 c2 hh3 h, fun h => by rw [h]⟩
theorem spec_EqualRenewals_ok (a b : tRenewal.den) : FunOK Try.prog 140 [⟨tRenewal, a⟩, ⟨tRenewal, b⟩] (.rd .bool (eqC a b)) := by
  refine fun_of (tb := tb) follows Try.func140 (by kernel_rfl) Try.ntmps140 rfl rfl rfl ?_; intro cx hN hw
  simp (disch := exact eqId (by kernel_rfl)) only [go_sem, ↓reduceIte, Nat.reduceAdd, Nat.reduceMul, Nat.reduceLT, Nat.reduceBEq, Nat.reduceLeDiff, Nat.reduceEqDiff, Int.reduceToNat]
  repeat' (first | (refine And.intro ?_ ?_) | intro _)
  all_goals (try omega)
  · rename_i hc
    refine Eq.symm (eqC_f.mpr ?_)
    rintro rfl
    simp_all
  · rename_i hc
    obtain ⟨⟨⟨⟨c0, c1⟩, c2⟩, hl⟩, hl'⟩ := hc
    have hl3 : List.length a.2.2.2.1 = List.length b.2.2.2.1 := by omega
    have hl4 : List.length a.2.2.2.2.1 = List.length b.2.2.2.2.1 := by omega
    refine loop_intro (tb := tb) follows hN (D := Nat) (fun d => shp [(2, .bp 10000 0), (3, .bp 10016 0), (5, .rd I (d : Int))] [(10000, .box 66 [.rd I (a.1), .rd I (a.2.1), .rd I (a.2.2.1), .rd (.list tStep) (a.2.2.2.1), .rd (.list tStamp) (a.2.2.2.2.1)]), (10016, .box 66 [.rd I (b.1), .rd I (b.2.1), .rd I (b.2.2.1), .rd (.list tStep) (b.2.2.2.1), .rd (.list tStamp) (b.2.2.2.2.1)])]) (fun d => d ≤ List.length a.2.2.2.1 ∧ List.take d a.2.2.2.1 = List.take d b.2.2.2.1) (fun d => List.length a.2.2.2.1 - d) (0) ?_ (sub_shp hN [(10000, some 10000), (10016, some 10016)] ?_) (fun d hd => ?_)
    · exact ⟨Nat.zero_le _, rfl⟩
    · simp (disch := exact eqId (by kernel_rfl)) only [go_sem, ↓reduceIte, Nat.reduceAdd, Nat.reduceMul, Nat.reduceLT, Nat.reduceBEq, Nat.reduceLeDiff, Nat.reduceEqDiff, Int.reduceToNat]
      try rfl
    · obtain ⟨h1, h2⟩ := hd
      simp (disch := exact eqId (by kernel_rfl)) only [go_sem, ↓reduceIte, Nat.reduceAdd, Nat.reduceMul, Nat.reduceLT, Nat.reduceBEq, Nat.reduceLeDiff, Nat.reduceEqDiff, Int.reduceToNat]
      repeat' (first | (refine And.intro ?_ ?_) | intro _ | (refine callQ_intro (impl_equalStamps_ok _ _) ?_; try (simp (disch := exact eqId (by kernel_rfl)) only [go_sem, ↓reduceIte, Nat.reduceAdd, Nat.reduceMul, Nat.reduceLT, Nat.reduceBEq, Nat.reduceLeDiff, Nat.reduceEqDiff, Int.reduceToNat])) | (refine callH_intro (fun hcc => impl_equalStamps_ok _ _) ?_; try (simp (disch := exact eqId (by kernel_rfl)) only [go_sem, ↓reduceIte, Nat.reduceAdd, Nat.reduceMul, Nat.reduceLT, Nat.reduceBEq, Nat.reduceLeDiff, Nat.reduceEqDiff, Int.reduceToNat])))
      all_goals (try omega)
      · rename_i hk hne
        refine Eq.symm (eqC_f.mpr ?_)
        rintro rfl
        simp_all
      · rename_i hk he
        have hk : d < List.length a.2.2.2.1 := by omega
        have hk2 : d < List.length b.2.2.2.1 := by omega
        refine back_intro (d + 1) ?_ ?_ (sub_shp hN [(10000, some 10000), (10016, some 10016)] ?_)
        · refine ⟨hk, ?_⟩
          rw [take_getD hk (0, false, ()), take_getD hk2 (0, false, ()), h2]
          first | rw [he] | (simp_all; done)
        · omega
        · simp (disch := exact eqId (by kernel_rfl)) only [go_sem, ↓reduceIte, Nat.reduceAdd, Nat.reduceMul, Nat.reduceLT, Nat.reduceBEq, Nat.reduceLeDiff, Nat.reduceEqDiff, Int.reduceToNat]
          exact wrap_succ hk hw.1.2.2.2.1.1
      · rename_i hk
        have hk : d = List.length a.2.2.2.1 := by omega
        have hh3 : a.2.2.2.1 = b.2.2.2.1 := by
          rw [hk, List.take_length, hl3, List.take_length] at h2
          exact h2
        refine loop_intro (tb := tb) follows hN (D := Nat) (fun d => shp [(2, .bp 10000 0), (3, .bp 10016 0), (6, .rd I (d : Int))] [(10000, .box 66 [.rd I (a.1), .rd I (a.2.1), .rd I (a.2.2.1), .rd (.list tStep) (a.2.2.2.1), .rd (.list tStamp) (a.2.2.2.2.1)]), (10016, .box 66 [.rd I (b.1), .rd I (b.2.1), .rd I (b.2.2.1), .rd (.list tStep) (b.2.2.2.1), .rd (.list tStamp) (b.2.2.2.2.1)])]) (fun d => d ≤ List.length a.2.2.2.2.1 ∧ List.take d a.2.2.2.2.1 = List.take d b.2.2.2.2.1) (fun d => List.length a.2.2.2.2.1 - d) (0) ?_ (sub_shp hN [(10000, some 10000), (10016, some 10016)] ?_) (fun d hd => ?_)
        · exact ⟨Nat.zero_le _, rfl⟩
        · simp (disch := exact eqId (by kernel_rfl)) only [go_sem, ↓reduceIte, Nat.reduceAdd, Nat.reduceMul, Nat.reduceLT, Nat.reduceBEq, Nat.reduceLeDiff, Nat.reduceEqDiff, Int.reduceToNat]
          try rfl
        · obtain ⟨h1, h2⟩ := hd
          simp (disch := exact eqId (by kernel_rfl)) only [go_sem, ↓reduceIte, Nat.reduceAdd, Nat.reduceMul, Nat.reduceLT, Nat.reduceBEq, Nat.reduceLeDiff, Nat.reduceEqDiff, Int.reduceToNat]
          repeat' (first | (refine And.intro ?_ ?_) | intro _ | (refine callQ_intro (impl_equalStamps_ok _ _) ?_; try (simp (disch := exact eqId (by kernel_rfl)) only [go_sem, ↓reduceIte, Nat.reduceAdd, Nat.reduceMul, Nat.reduceLT, Nat.reduceBEq, Nat.reduceLeDiff, Nat.reduceEqDiff, Int.reduceToNat])) | (refine callH_intro (fun hcc => impl_equalStamps_ok _ _) ?_; try (simp (disch := exact eqId (by kernel_rfl)) only [go_sem, ↓reduceIte, Nat.reduceAdd, Nat.reduceMul, Nat.reduceLT, Nat.reduceBEq, Nat.reduceLeDiff, Nat.reduceEqDiff, Int.reduceToNat])))
          all_goals (try omega)
          · rename_i hk hne
            refine Eq.symm (eqC_f.mpr ?_)
            rintro rfl
            simp_all
          · rename_i hk he
            have hk : d < List.length a.2.2.2.2.1 := by omega
            have hk2 : d < List.length b.2.2.2.2.1 := by omega
            refine back_intro (d + 1) ?_ ?_ (sub_shp hN [(10000, some 10000), (10016, some 10016)] ?_)
            · refine ⟨hk, ?_⟩
              rw [take_getD hk (0, 0, 0, 0, 0, ()), take_getD hk2 (0, 0, 0, 0, 0, ()), h2]
              first | rw [he] | (simp_all; done)
            · omega
            · simp (disch := exact eqId (by kernel_rfl)) only [go_sem, ↓reduceIte, Nat.reduceAdd, Nat.reduceMul, Nat.reduceLT, Nat.reduceBEq, Nat.reduceLeDiff, Nat.reduceEqDiff, Int.reduceToNat]
              exact wrap_succ hk hw.1.2.2.2.2.1.1
          · rename_i hk
            have hk : d = List.length a.2.2.2.2.1 := by omega
            have hh4 : a.2.2.2.2.1 = b.2.2.2.2.1 := by
              rw [hk, List.take_length, hl4, List.take_length] at h2
              exact h2
            exact Eq.symm (eqC_t.mpr (renEq c0 c1 c2 hh3 hh4))
def rsF (s : tStep.den) : List Int := [s.1, if s.2.1 then 1 else 0]
def rtF (x : tStamp.den) : List Int := [103, x.1, x.2.1, x.2.2.1, x.2.2.2.1, x.2.2.2.2.1]
def rdF (m : Int) (r : tRenewal.den) : Int := digF m ([4, r.1, r.2.1, r.2.2.1] ++ r.2.2.2.1.flatMap rsF ++ [(r.2.2.2.2.1.length : Int)] ++ r.2.2.2.2.1.flatMap rtF)
theorem fm_len {α : Type} (f : α → List Int) (c : Nat) (h : ∀ x, (f x).length = c) : ∀ l : List α, (l.flatMap f).length = c * l.length
  | [] => by simp
  | x :: l => by rw [List.flatMap_cons, List.length_append, h, fm_len f c h l, List.length_cons, Nat.mul_add]; omega
theorem rs_len (l : List tStep.den) : (l.flatMap rsF).length = 2 * l.length := fm_len rsF 2 (fun _ => rfl) l
theorem rt_len (l : List tStamp.den) : (l.flatMap rtF).length = 6 * l.length := fm_len rtF 6 (fun _ => rfl) l
theorem fm_take_succ {α : Type} (f : α → List Int) {l : List α} {k : Nat} (hk : k < l.length) (d : α) : (l.take (k + 1)).flatMap f = (l.take k).flatMap f ++ f (l.getD k d) := by
  rw [take_getD hk d, List.flatMap_append]
  simp
end Go.Proofs.Ytfkdkblbhilghaa
/- What the functions of keys, methods, authorities and frames answer, on both sides. It proves nothing of a statement by itself. -/
set_option linter.unusedSimpArgs false
set_option linter.unusedVariables false
set_option maxRecDepth 100000
namespace Go.Proofs.Ytfkdkblbhilghaa
open Go.AL
def inB (t a b : Int) : Bool := decide (a ≤ t) && decide (t ≤ b)
theorem inB_t {t a b : Int} : (inB t a b = true) = (a ≤ t ∧ t ≤ b) := by simp [inB]
theorem inB_f {t a b : Int} : (inB t a b = false) = ¬ (a ≤ t ∧ t ≤ b) := by simp [inB]; 
def keyB (k : tKey.den) : Bool := inB k.1 1 99 && inB k.2.1 0 99 && inB k.2.2.1 0 99 && inB k.2.2.2.1 0 10000 && inB k.2.2.2.2.1 1 2147483646
def khF (s : Int) (l : List Int) : Int := hashF (s :: l ++ [s])
def mwF (k : tKey.den) (l : List Int) : Int := khF k.2.2.2.2.1 (k.2.2.1 :: l)
def finF {α : Type} (n : α → Int) (q : Int) : List α → Int → Int
  | [], _ => -1
  | x :: xs, i => if n x = q then i else finF n q xs (i + 1)
theorem finF_lt {α : Type} (n : α → Int) (q : Int) : ∀ (l : List α) (i : Int), finF n q l i = -1 ∨ i ≤ finF n q l i ∧ finF n q l i < i + l.length
  | [], _ => .inl rfl
  | x :: xs, i => by
    unfold finF
    split
    · right; simp only [List.length_cons]; omega
    · rcases finF_lt n q xs (i + 1) with h | h
      · exact .inl h
      · right; simp only [List.length_cons]; omega
def mbF (l : List tKey.den) (n : Int) (w : List Int) : Int × Bool := if finF (fun x => x.1) n l 0 < 0 then (0, false) else (mwF (l.getD (finF (fun x => x.1) n l 0).toNat (0, 0, 0, 0, 0, ())) w, true)
def cmF (l : List tKey.den) (n : Int) (w : List Int) (m : Int) : Bool := (mbF l n w).2 && ((mbF l n w).1 == m)
end Go.Proofs.Ytfkdkblbhilghaa
/- Plain mathematics: lines of keys, spans that are agreed on, spans joined. It proves nothing of a statement by itself. -/
set_option linter.unusedSimpArgs false
set_option linter.unusedVariables false
namespace Go.Proofs.Ytfkdkblbhilghaa
open Go.AL
theorem pig {α : Type} [DecidableEq α] : ∀ (l m : List α), l.Nodup → (∀ x, x ∈ l → x ∈ m) → l.length ≤ m.length
  | [], m, _, _ => Nat.zero_le _
  | a :: l, m, hn, hs => by
    have ha : a ∈ m := hs a (by simp)
    have h1 := List.nodup_cons.1 hn
    have h2 : l.length ≤ (m.erase a).length := pig l (m.erase a) h1.2 (fun x hx => (List.mem_erase_of_ne (fun (e : x = a) => h1.1 (e ▸ hx))).2 (hs x (List.mem_cons_of_mem _ hx)))
    rw [List.length_erase_of_mem ha] at h2
    have h3 := List.length_pos_of_mem ha
    simp only [List.length_cons]
    omega
def lineF (nk : Int → Int) : Nat → List Int → Int → List Int
  | 0, out, _ => out
  | n + 1, out, key => if key = 0 ∨ key ∈ out then out else lineF nk n (out ++ [key]) (nk key)
theorem lineF_stop (nk : Int → Int) (n : Nat) (out : List Int) (key : Int) (h : key = 0 ∨ key ∈ out) : lineF nk n out key = out := by
  cases n with
  | zero => rfl
  | succ n => rw [lineF, if_pos h]
theorem lineF_go (nk : Int → Int) (n : Nat) (out : List Int) (key : Int) (h : ¬ (key = 0 ∨ key ∈ out)) : lineF nk (n + 1) out key = lineF nk n (out ++ [key]) (nk key) := by
  rw [lineF, if_neg h]
/-- What a line under way is: all different, each the first or a new one. -/
def LineI (k0 : Int) (news : List Int) (out : List Int) : Prop := out.Nodup ∧ ∀ x, x ∈ out → x ∈ k0 :: news
theorem LineI.len {k0 : Int} {news out : List Int} (h : LineI k0 news out) : out.length ≤ news.length + 1 := by
  have := pig out (k0 :: news) h.1 h.2
  simpa using this
theorem LineI.nil (k0 : Int) (news : List Int) : LineI k0 news [] := ⟨List.nodup_nil, fun x h => by cases h⟩
theorem LineI.snoc {k0 : Int} {news out : List Int} {k : Int} (h : LineI k0 news out) (hk : k ∉ out) (hm : k ∈ k0 :: news) : LineI k0 news (out ++ [k]) := by
  refine ⟨?_, fun x hx => ?_⟩
  · rw [List.nodup_append]
    refine ⟨h.1, by simp, ?_⟩
    intro a ha b hb
    simp only [List.mem_singleton] at hb
    subst hb
    intro e
    exact hk (e ▸ ha)
  · rcases List.mem_append.1 hx with hx | hx
    · exact h.2 x hx
    · simp only [List.mem_singleton] at hx
      subst hx
      exact hm
theorem lineF_len (nk : Int → Int) : ∀ (n : Nat) (out : List Int) (key : Int), (lineF nk n out key).length ≤ out.length + n
  | 0, out, key => Nat.le_refl _
  | n + 1, out, key => by
    rw [lineF]
    split
    · omega
    · have := lineF_len nk n (out ++ [key]) (nk key)
      simp only [List.length_append, List.length_cons, List.length_nil] at this
      omega
def spB (s : Int × Int × Unit) : Bool := inB s.1 0 10000 && inB s.2.1 0 10000 && decide (s.1 ≤ s.2.1)
def mxF (a b : Int) : Int := if b > a then b else a
def mnF (a b : Int) : Int := if b < a then b else a
theorem mxF_eq (a b : Int) : mxF a b = max a b := by unfold mxF; omega
theorem mnF_eq (a b : Int) : mnF a b = min a b := by unfold mnF; omega
theorem spB_t {s : Int × Int × Unit} : spB s = true ↔ 0 ≤ s.1 ∧ s.1 ≤ s.2.1 ∧ s.2.1 ≤ 10000 := by
  simp only [spB, inB, Bool.and_eq_true, decide_eq_true_eq]; omega
def inS (t : Int) (s : Int × Int × Unit) : Bool := spB s && (decide (s.1 ≤ t) && decide (t ≤ s.2.1))
theorem inS_t {t : Int} {s : Int × Int × Unit} : inS t s = true ↔ 0 ≤ s.1 ∧ s.2.1 ≤ 10000 ∧ s.1 ≤ t ∧ t ≤ s.2.1 := by
  simp only [inS, Bool.and_eq_true, spB_t, decide_eq_true_eq]; omega
def cntF (l : List (Int × Int × Unit)) (t : Int) : Nat := l.countP (inS t)
def supF (l : List (Int × Int × Unit)) (n : Int) (t : Int) : Bool := inB n 0 ((l.length : Int) - 1) && decide ((cntF l t : Int) ≥ (l.length : Int) - n)
theorem cnt_mono {l : List (Int × Int × Unit)} {t u : Int} (h : ∀ s, s ∈ l → inS t s = true → inS u s = true) : cntF l t ≤ cntF l u :=
  List.countP_mono_left h
/-- The program's walk over all times. -/
def agI (sup : Int → Bool) : Nat → (Int × Int × Unit) × Bool
  | 0 => ((0, 0, ()), false)
  | n + 1 => if sup (n : Int) = true then ((if (agI sup n).2 = true then (agI sup n).1.1 else (n : Int), (n : Int), ()), true) else agI sup n
/-- The reference's walk over the spans. -/
def agS (sup : Int → Bool) : List (Int × Int × Unit) → Int × Int → Int × Int
  | [], r => r
  | x :: xs, r => agS sup xs (if spB x = true ∧ sup x.1 = true ∧ (r.1 < 0 ∨ x.1 < r.1) then x.1 else r.1, if spB x = true ∧ sup x.2.1 = true then mxF r.2 x.2.1 else r.2)
theorem agI_spec (sup : Int → Bool) : ∀ n : Nat,
    ((agI sup n).2 = true → sup (agI sup n).1.1 = true ∧ 0 ≤ (agI sup n).1.1 ∧ (agI sup n).1.1 < n ∧ (∀ u : Int, 0 ≤ u → u < (agI sup n).1.1 → sup u = false) ∧
      sup (agI sup n).1.2.1 = true ∧ 0 ≤ (agI sup n).1.2.1 ∧ (agI sup n).1.2.1 < n ∧ (∀ u : Int, (agI sup n).1.2.1 < u → u < n → sup u = false)) ∧
    ((agI sup n).2 = false → agI sup n = ((0, 0, ()), false) ∧ ∀ u : Int, 0 ≤ u → u < n → sup u = false)
  | 0 => by
    refine ⟨fun h => (by simp [agI] at h), fun _ => ⟨rfl, fun u h1 h2 => by omega⟩⟩
  | n + 1 => by
    obtain ⟨h1, h2⟩ := agI_spec sup n
    by_cases hs : sup (n : Int) = true
    · rw [show agI sup (n + 1) = ((if (agI sup n).2 = true then (agI sup n).1.1 else (n : Int), (n : Int), ()), true) from by rw [agI, if_pos hs]]
      refine ⟨fun _ => ?_, fun h => by cases h⟩
      by_cases hb : (agI sup n).2 = true
      · obtain ⟨a1, a2, a3, a4, a5, a6, a7, a8⟩ := h1 hb
        simp only [hb, if_true]
        exact ⟨a1, a2, by omega, a4, hs, by omega, by omega, fun u h3 h4 => by omega⟩
      · have hb' : (agI sup n).2 = false := by simpa using hb
        simp only [hb', Bool.false_eq_true, if_false]
        refine ⟨hs, by omega, by omega, fun u h3 h4 => (h2 hb').2 u h3 h4, hs, by omega, by omega, fun u h3 h4 => by omega⟩
    · have hs' : sup (n : Int) = false := by simpa using hs
      have e : agI sup (n + 1) = agI sup n := by rw [agI, if_neg hs]
      rw [e]
      refine ⟨fun h => ?_, fun h => ?_⟩
      · obtain ⟨a1, a2, a3, a4, a5, a6, a7, a8⟩ := h1 h
        refine ⟨a1, a2, by omega, a4, a5, a6, by omega, fun u h3 h4 => ?_⟩
        by_cases e : u = n
        · subst e; exact hs'
        · exact a8 u h3 (by omega)
      · refine ⟨(h2 h).1, fun u h3 h4 => ?_⟩
        by_cases e : u = n
        · subst e; exact hs'
        · exact (h2 h).2 u h3 (by omega)
theorem agS_from (sup : Int → Bool) : ∀ (l : List (Int × Int × Unit)) (r : Int × Int), (r.1 = -1 ∨ 0 ≤ r.1) →
    ((agS sup l r).1 = r.1 ∨ ∃ x, x ∈ l ∧ spB x = true ∧ sup x.1 = true ∧ (agS sup l r).1 = x.1) ∧
    (0 ≤ r.1 → 0 ≤ (agS sup l r).1 ∧ (agS sup l r).1 ≤ r.1) ∧ (∀ x, x ∈ l → spB x = true → sup x.1 = true → 0 ≤ (agS sup l r).1 ∧ (agS sup l r).1 ≤ x.1)
  | [], r, _ => ⟨.inl rfl, fun h => ⟨h, Int.le_refl _⟩, fun x hx => by cases hx⟩
  | x :: xs, r, hr => by
    rw [agS]
    by_cases hc : spB x = true ∧ sup x.1 = true ∧ (r.1 < 0 ∨ x.1 < r.1)
    · rw [if_pos hc]
      have hx0 := (spB_t.1 hc.1).1
      obtain ⟨h1, h2, h3⟩ := agS_from sup xs (x.1, if spB x = true ∧ sup x.2.1 = true then mxF r.2 x.2.1 else r.2) (.inr hx0)
      refine ⟨.inr ?_, fun h => ?_, fun y hy hv hs => ?_⟩
      · rcases h1 with h1 | ⟨y, hy, h4⟩
        · exact ⟨x, by simp, hc.1, hc.2.1, h1⟩
        · exact ⟨y, by simp [hy], h4⟩
      · have := h2 hx0
        simp only at this
        omega
      · rcases List.mem_cons.1 hy with rfl | hy
        · exact h2 hx0
        · exact h3 y hy hv hs
    · rw [if_neg hc]
      obtain ⟨h1, h2, h3⟩ := agS_from sup xs (r.1, if spB x = true ∧ sup x.2.1 = true then mxF r.2 x.2.1 else r.2) hr
      refine ⟨?_, h2, fun y hy hv hs => ?_⟩
      · rcases h1 with h1 | ⟨y, hy, h4⟩
        · exact .inl h1
        · exact .inr ⟨y, by simp [hy], h4⟩
      · rcases List.mem_cons.1 hy with rfl | hy
        · have hn : 0 ≤ r.1 ∧ r.1 ≤ y.1 := by
            have : ¬ (r.1 < 0 ∨ y.1 < r.1) := fun h => hc ⟨hv, hs, h⟩
            omega
          have := h2 hn.1
          simp only at this
          omega
        · exact h3 y hy hv hs
theorem agS_to (sup : Int → Bool) : ∀ (l : List (Int × Int × Unit)) (r : Int × Int),
    ((agS sup l r).2 = r.2 ∨ ∃ x, x ∈ l ∧ spB x = true ∧ sup x.2.1 = true ∧ (agS sup l r).2 = x.2.1) ∧
    r.2 ≤ (agS sup l r).2 ∧ (∀ x, x ∈ l → spB x = true → sup x.2.1 = true → x.2.1 ≤ (agS sup l r).2)
  | [], r => ⟨.inl rfl, Int.le_refl _, fun x hx => by cases hx⟩
  | x :: xs, r => by
    rw [agS]
    by_cases hc : spB x = true ∧ sup x.2.1 = true
    · rw [if_pos hc, mxF_eq]
      obtain ⟨h1, h2, h3⟩ := agS_to sup xs (if spB x = true ∧ sup x.1 = true ∧ (r.1 < 0 ∨ x.1 < r.1) then x.1 else r.1, max r.2 x.2.1)
      simp only at h1 h2 h3
      refine ⟨?_, by omega, fun y hy hv hs => ?_⟩
      · rcases h1 with h1 | ⟨y, hy, h4⟩
        · by_cases h : r.2 ≤ x.2.1
          · exact .inr ⟨x, by simp, hc.1, hc.2, by omega⟩
          · exact .inl (by omega)
        · exact .inr ⟨y, by simp [hy], h4⟩
      · rcases List.mem_cons.1 hy with rfl | hy
        · omega
        · exact h3 y hy hv hs
    · rw [if_neg hc]
      obtain ⟨h1, h2, h3⟩ := agS_to sup xs (if spB x = true ∧ sup x.1 = true ∧ (r.1 < 0 ∨ x.1 < r.1) then x.1 else r.1, r.2)
      refine ⟨?_, h2, fun y hy hv hs => ?_⟩
      · rcases h1 with h1 | ⟨y, hy, h4⟩
        · exact .inl h1
        · exact .inr ⟨y, by simp [hy], h4⟩
      · rcases List.mem_cons.1 hy with rfl | hy
        · exact absurd ⟨hv, hs⟩ hc
        · exact h3 y hy hv hs
def agF (l : List (Int × Int × Unit)) (n : Int) : (Int × Int × Unit) × Bool :=
  if inB n 0 ((l.length : Int) - 1) = true then
    (if (agS (supF l n) l (-1, -1)).1 < 0 then ((0, 0, ()), false) else (((agS (supF l n) l (-1, -1)).1, (agS (supF l n) l (-1, -1)).2, ()), true))
  else ((0, 0, ()), false)
theorem sup_count {l : List (Int × Int × Unit)} {n t : Int} (h : supF l n t = true) : 0 ≤ n ∧ n ≤ (l.length : Int) - 1 ∧ (l.length : Int) - n ≤ (cntF l t : Int) := by
  simp only [supF, inB, Bool.and_eq_true, decide_eq_true_eq] at h; omega
theorem sup_of {l : List (Int × Int × Unit)} {n t u : Int} (h : supF l n t = true) (hm : cntF l t ≤ cntF l u) : supF l n u = true := by
  have := sup_count h
  simp only [supF, inB, Bool.and_eq_true, decide_eq_true_eq]; omega
theorem sup_in {l : List (Int × Int × Unit)} {n t : Int} (h : supF l n t = true) : ∃ s, s ∈ l ∧ inS t s = true := by
  have := sup_count h
  have hp : 0 < l.countP (inS t) := by unfold cntF at this; omega
  exact List.countP_pos_iff.1 hp
theorem ag_from {l : List (Int × Int × Unit)} {n t : Int} (h : supF l n t = true) (h0 : 0 ≤ t) (hf : ∀ u, 0 ≤ u → u < t → supF l n u = false) : ∃ s, s ∈ l ∧ spB s = true ∧ s.1 = t := by
  apply Classical.byContradiction
  intro hno
  have hlt : ∀ s, s ∈ l → inS t s = true → s.1 < t := by
    intro s hs hi
    have h1 := inS_t.1 hi
    have hv : spB s = true := spB_t.2 (by omega)
    have : s.1 ≠ t := fun e => hno ⟨s, hs, hv, e⟩
    omega
  obtain ⟨s, hs, hi⟩ := sup_in h
  have h2 := hlt s hs hi
  have h3 := inS_t.1 hi
  have := sup_of (u := t - 1) h (cnt_mono fun s hs hi => by
    have h1 := inS_t.1 hi
    have h2 := hlt s hs hi
    exact inS_t.2 (by omega))
  rw [hf (t - 1) (by omega) (by omega)] at this
  cases this
theorem ag_to {l : List (Int × Int × Unit)} {n t : Int} (h : supF l n t = true) (h0 : t ≤ 10000) (hf : ∀ u, t < u → u < 10001 → supF l n u = false) : ∃ s, s ∈ l ∧ spB s = true ∧ s.2.1 = t := by
  apply Classical.byContradiction
  intro hno
  have hlt : ∀ s, s ∈ l → inS t s = true → t < s.2.1 := by
    intro s hs hi
    have h1 := inS_t.1 hi
    have hv : spB s = true := spB_t.2 (by omega)
    have : s.2.1 ≠ t := fun e => hno ⟨s, hs, hv, e⟩
    omega
  obtain ⟨s, hs, hi⟩ := sup_in h
  have h2 := hlt s hs hi
  have h3 := inS_t.1 hi
  have := sup_of (u := t + 1) h (cnt_mono fun s hs hi => by
    have h1 := inS_t.1 hi
    have h2 := hlt s hs hi
    exact inS_t.2 (by omega))
  rw [hf (t + 1) (by omega) (by omega)] at this
  cases this
theorem ag_eq (l : List (Int × Int × Unit)) (n : Int) : agI (supF l n) 10001 = agF l n := by
  obtain ⟨h1, h2⟩ := agI_spec (supF l n) 10001
  obtain ⟨f1, -, f3⟩ := agS_from (supF l n) l (-1, -1) (.inl rfl)
  obtain ⟨t1, -, t3⟩ := agS_to (supF l n) l (-1, -1)
  unfold agF
  by_cases hb : (agI (supF l n) 10001).2 = true
  · obtain ⟨a1, a2, a3, a4, a5, a6, a7, a8⟩ := h1 hb
    have hn := sup_count a1
    rw [if_pos (by simp only [inB, Bool.and_eq_true, decide_eq_true_eq]; omega)]
    obtain ⟨s, hs, hv, he⟩ := ag_from a1 a2 a4
    obtain ⟨r, hr, hw, hz⟩ := ag_to a5 (by omega) (fun u h3 h4 => a8 u h3 (by omega))
    have f4 := f3 s hs hv (he ▸ a1)
    have t4 := t3 r hr hw (hz ▸ a5)
    rw [if_neg (by omega)]
    have e1 : (agS (supF l n) l (-1, -1)).1 = (agI (supF l n) 10001).1.1 := by
      rcases f1 with f1 | ⟨x, hx, hxv, hxs, hxe⟩
      · simp only at f1; omega
      · have h5 := spB_t.1 hxv
        have : ¬ x.1 < (agI (supF l n) 10001).1.1 := fun h => by
          rw [a4 x.1 h5.1 h] at hxs; cases hxs
        omega
    have e2 : (agS (supF l n) l (-1, -1)).2 = (agI (supF l n) 10001).1.2.1 := by
      rcases t1 with t1 | ⟨x, hx, hxv, hxs, hxe⟩
      · simp only at t1; omega
      · have h5 := spB_t.1 hxv
        have : ¬ (agI (supF l n) 10001).1.2.1 < x.2.1 := fun h => by
          rw [a8 x.2.1 h (by omega)] at hxs; cases hxs
        omega
    rw [e1, e2]
    exact Prod.ext rfl hb
  · have hb' : (agI (supF l n) 10001).2 = false := by simpa using hb
    obtain ⟨h3, h4⟩ := h2 hb'
    rw [h3]
    have e1 : (agS (supF l n) l (-1, -1)).1 < 0 := by
      rcases f1 with f1 | ⟨x, hx, hxv, hxs, hxe⟩
      · simp only at f1; omega
      · have h5 := spB_t.1 hxv
        rw [h4 x.1 (by omega) (by omega)] at hxs; cases hxs
    rw [if_pos e1]
    simp
def apJ (x s : Int × Int × Unit) : Bool := decide (x.2.1 + 1 < s.1) || decide (s.2.1 + 1 < x.1)
def unJ (s x : Int × Int × Unit) : Int × Int × Unit := (mnF s.1 x.1, mxF s.2.1 x.2.1, ())
def mgJ : List (Int × Int × Unit) → Int × Int × Unit → List (Int × Int × Unit) × (Int × Int × Unit)
  | [], s => ([], s)
  | x :: xs, s => if apJ x s = true then (x :: (mgJ xs s).1, (mgJ xs s).2) else mgJ xs (unJ s x)
def insK (f : Int) : List (Int × Int × Unit) → Nat
  | [] => 0
  | x :: xs => if x.1 < f then insK f xs + 1 else 0
def putJ (out : List (Int × Int × Unit)) (s : Int × Int × Unit) : List (Int × Int × Unit) :=
  (((mgJ out s).1.take (insK (mgJ out s).2.1 (mgJ out s).1)) ++ [(mgJ out s).2]) ++ (mgJ out s).1.drop (insK (mgJ out s).2.1 (mgJ out s).1)
def jaF (out : List (Int × Int × Unit)) : List (Int × Int × Unit) → List (Int × Int × Unit)
  | [] => out
  | s :: l => jaF (if spB s = true then putJ out s else out) l
def AllSp (l : List (Int × Int × Unit)) : Prop := ∀ x, x ∈ l → spB x = true
theorem unJ_sp {s x : Int × Int × Unit} (hs : spB s = true) (hx : spB x = true) : spB (unJ s x) = true := by
  rw [spB_t] at hs hx ⊢
  simp only [unJ, mnF_eq, mxF_eq]
  omega
theorem mgJ_sp : ∀ (l : List (Int × Int × Unit)) (s : Int × Int × Unit), AllSp l → spB s = true → AllSp (mgJ l s).1 ∧ spB (mgJ l s).2 = true ∧ (mgJ l s).1.length ≤ l.length
  | [], s, _, hs => ⟨fun x hx => by simp [mgJ] at hx, hs, Nat.le_refl _⟩
  | x :: xs, s, hl, hs => by
    have hx : spB x = true := hl x (by simp)
    have hxs : AllSp xs := fun y hy => hl y (by simp [hy])
    rw [mgJ]
    split
    · obtain ⟨h1, h2, h3⟩ := mgJ_sp xs s hxs hs
      refine ⟨fun y hy => ?_, h2, by simp only [List.length_cons]; omega⟩
      rcases List.mem_cons.1 hy with rfl | hy
      · exact hx
      · exact h1 y hy
    · obtain ⟨h1, h2, h3⟩ := mgJ_sp xs (unJ s x) hxs (unJ_sp hs hx)
      exact ⟨h1, h2, by simp only [List.length_cons]; omega⟩
theorem insK_le (f : Int) : ∀ l : List (Int × Int × Unit), insK f l ≤ l.length
  | [] => Nat.le_refl _
  | x :: xs => by
    have := insK_le f xs
    unfold insK
    split <;> simp only [List.length_cons] <;> omega
theorem insK_lt (f : Int) (df : Int × Int × Unit) : ∀ (l : List (Int × Int × Unit)) (k : Nat), k < insK f l → (l.getD k df).1 < f
  | [], k, h => by simp [insK] at h
  | x :: xs, k, h => by
    unfold insK at h
    split at h
    · cases k with
      | zero => simpa using ‹x.1 < f›
      | succ k => simpa using insK_lt f df xs k (by omega)
    · omega
theorem insK_ge (f : Int) (df : Int × Int × Unit) : ∀ (l : List (Int × Int × Unit)), insK f l < l.length → ¬ (l.getD (insK f l) df).1 < f
  | [], h => by simp [insK] at h
  | x :: xs, h => by
    unfold insK at h ⊢
    split
    · rename_i hx
      rw [if_pos hx] at h
      simpa using insK_ge f df xs (by simpa using h)
    · rename_i hx
      simpa using hx
/-- The walk to the place. -/
theorem insK_at {f : Int} {df : Int × Int × Unit} {l : List (Int × Int × Unit)} {k : Nat} (h1 : k ≤ insK f l) : (k < l.length ∧ (l.getD k df).1 < f) ↔ k < insK f l := by
  constructor
  · rintro ⟨h2, h3⟩
    apply Classical.byContradiction
    intro h4
    have e : k = insK f l := by omega
    rw [e] at h2 h3
    exact insK_ge f df l h2 h3
  · intro h
    exact ⟨Nat.lt_of_lt_of_le h (insK_le f l), insK_lt f df l k h⟩
theorem putJ_sp {out : List (Int × Int × Unit)} {s : Int × Int × Unit} (hl : AllSp out) (hs : spB s = true) : AllSp (putJ out s) ∧ (putJ out s).length ≤ out.length + 1 := by
  obtain ⟨h1, h2, h3⟩ := mgJ_sp out s hl hs
  refine ⟨fun x hx => ?_, ?_⟩
  · unfold putJ at hx
    rcases List.mem_append.1 hx with hx | hx
    · rcases List.mem_append.1 hx with hx | hx
      · exact h1 x (List.mem_of_mem_take hx)
      · simp only [List.mem_singleton] at hx
        subst hx
        exact h2
    · exact h1 x (List.mem_of_mem_drop hx)
  · unfold putJ
    simp only [List.length_append, List.length_take, List.length_drop, List.length_cons, List.length_nil]
    omega
theorem jaF_sp : ∀ (l out : List (Int × Int × Unit)), AllSp out → AllSp (jaF out l) ∧ (jaF out l).length ≤ out.length + l.length
  | [], out, h => ⟨h, Nat.le_refl _⟩
  | s :: l, out, h => by
    rw [jaF]
    by_cases hs : spB s = true
    · rw [if_pos hs]
      obtain ⟨h1, h2⟩ := putJ_sp h hs
      obtain ⟨h3, h4⟩ := jaF_sp l (putJ out s) h1
      refine ⟨h3, ?_⟩
      simp only [List.length_cons]
      omega
    · rw [if_neg hs]
      obtain ⟨h3, h4⟩ := jaF_sp l out h
      exact ⟨h3, by simp only [List.length_cons]; omega⟩
def mkF (a b : Int) : (Int × Int × Unit) × Bool := if mxF a 0 ≤ mnF b 10000 then ((mxF a 0, mnF b 10000, ()), true) else ((0, 0, ()), false)
theorem mkF_sp {a b : Int} (h : (mkF a b).2 = true) : spB (mkF a b).1 = true := by
  unfold mkF at h ⊢
  split
  · rename_i h1
    rw [spB_t]
    simp only [mxF_eq, mnF_eq] at h1 ⊢
    omega
  · rename_i h1
    rw [if_neg h1] at h
    cases h
def meF (a b : Int × Int × Unit) : (Int × Int × Unit) × Bool := if spB a = true ∧ spB b = true ∧ mxF a.1 b.1 ≤ mnF a.2.1 b.2.1 then ((mxF a.1 b.1, mnF a.2.1 b.2.1, ()), true) else ((0, 0, ()), false)
def insF (a b : Int × Int × Unit) : Bool := spB a && spB b && decide (b.1 ≤ a.1) && decide (a.2.1 ≤ b.2.1)
def coF (l : List (Int × Int × Unit)) (s : Int × Int × Unit) : Bool := (jaF [] l).any (insF s)
def optS (r : (Int × Int × Unit) × Bool) : List (Int × Int × Unit) := if r.2 = true then [r.1] else []
/-- The gaps of a list of spans from a time on. -/
def gapF : Int → List (Int × Int × Unit) → List (Int × Int × Unit)
  | n, [] => if n ≤ 10000 then [(n, 10000, ())] else []
  | n, x :: xs => (if n < x.1 then [(n, x.1 - 1, ())] else []) ++ gapF (x.2.1 + 1) xs
theorem gapF_len : ∀ (l : List (Int × Int × Unit)) (n : Int), (gapF n l).length ≤ l.length + 1
  | [], n => by unfold gapF; split <;> simp
  | x :: xs, n => by
    have := gapF_len xs (x.2.1 + 1)
    unfold gapF
    split <;> simp only [List.length_append, List.length_cons, List.length_nil] <;> omega
theorem mk_gap {n f : Int} (h0 : 0 ≤ n) (hf : f ≤ 10000) : mkF n (f - 1) = if n < f then ((n, f - 1, ()), true) else ((0, 0, ()), false) := by
  unfold mkF
  rw [mxF_eq, mnF_eq, show max n 0 = n by omega, show min (f - 1) 10000 = f - 1 by omega]
  by_cases h : n < f
  · rw [if_pos h, if_pos (by omega)]
  · rw [if_neg h, if_neg (by omega)]
theorem mk_gapE {n : Int} (h0 : 0 ≤ n) : mkF n 10000 = if n ≤ 10000 then ((n, 10000, ()), true) else ((0, 0, ()), false) := by
  unfold mkF
  rw [mxF_eq, mnF_eq, show max n 0 = n by omega, show min (10000 : Int) 10000 = 10000 by omega]
end Go.Proofs.Ytfkdkblbhilghaa
/- More plain mathematics of spans. It proves nothing of a statement by itself. -/
set_option linter.unusedSimpArgs false
set_option linter.unusedVariables false
namespace Go.Proofs.Ytfkdkblbhilghaa
open Go.AL
theorem mkA_f {a b : Int} (h : a > b ∨ spB (mxF a 0, mnF b 10000, ()) = false) : mkF a b = ((0, 0, ()), false) := by
  unfold mkF
  rw [if_neg]
  intro hle
  rcases h with h | h
  · simp only [mxF_eq, mnF_eq] at hle; omega
  · rw [show spB (mxF a 0, mnF b 10000, ()) = true from spB_t.2 (by simp only [mxF_eq, mnF_eq] at hle ⊢; omega)] at h
    cases h
theorem mkA_t {a b : Int} (h : ¬ a > b ∧ spB (mxF a 0, mnF b 10000, ()) = true) : mkF a b = ((mxF a 0, mnF b 10000, ()), true) := by
  unfold mkF
  rw [if_pos (spB_t.1 h.2).2.1]
theorem mkB_f {a b : Int} (h : mxF 0 a > mnF 10000 b) : mkF a b = ((0, 0, ()), false) := by
  unfold mkF
  rw [if_neg (by simp only [mxF_eq, mnF_eq] at h ⊢; omega)]
theorem mkB_t {a b : Int} (h : ¬ mxF 0 a > mnF 10000 b) : mkF a b = ((mxF 0 a, mnF 10000 b, ()), true) := by
  unfold mkF
  rw [if_pos (by simp only [mxF_eq, mnF_eq] at h ⊢; omega), show mxF a 0 = mxF 0 a by simp only [mxF_eq]; omega, show mnF b 10000 = mnF 10000 b by simp only [mnF_eq]; omega]
theorem meA_f {a b : Int × Int × Unit} (h : (spB a = false ∨ spB b = false) ∨ spB (mxF a.1 b.1, mnF a.2.1 b.2.1, ()) = false) : meF a b = ((0, 0, ()), false) := by
  unfold meF
  rw [if_neg]
  rintro ⟨h1, h2, h3⟩
  rcases h with (h | h) | h
  · rw [h1] at h; cases h
  · rw [h2] at h; cases h
  · rw [spB_t] at h1 h2
    rw [show spB (mxF a.1 b.1, mnF a.2.1 b.2.1, ()) = true from spB_t.2 (by simp only [mxF_eq, mnF_eq] at h3 ⊢; omega)] at h
    cases h
theorem meA_t {a b : Int × Int × Unit} (h : (spB a = true ∧ spB b = true) ∧ spB (mxF a.1 b.1, mnF a.2.1 b.2.1, ()) = true) : meF a b = ((mxF a.1 b.1, mnF a.2.1 b.2.1, ()), true) := by
  unfold meF
  rw [if_pos ⟨h.1.1, h.1.2, (spB_t.1 h.2).2.1⟩]
theorem meB_f {a b : Int × Int × Unit} (h : spB a = false ∨ spB b = false) : meF a b = ((0, 0, ()), false) := meA_f (.inl h)
theorem meB_t {a b : Int × Int × Unit} (h : spB a = true ∧ spB b = true) : mkF (mxF a.1 b.1) (mnF a.2.1 b.2.1) = meF a b := by
  have h1 := spB_t.1 h.1
  have h2 := spB_t.1 h.2
  unfold mkF meF
  by_cases h3 : mxF a.1 b.1 ≤ mnF a.2.1 b.2.1
  · rw [if_pos (show mxF (mxF a.1 b.1) 0 ≤ mnF (mnF a.2.1 b.2.1) 10000 by simp only [mxF_eq, mnF_eq] at h3 ⊢; omega), if_pos ⟨h.1, h.2, h3⟩]
    have e1 : mxF (mxF a.1 b.1) 0 = mxF a.1 b.1 := by simp only [mxF_eq]; omega
    have e2 : mnF (mnF a.2.1 b.2.1) 10000 = mnF a.2.1 b.2.1 := by simp only [mnF_eq]; omega
    rw [e1, e2]
  · rw [if_neg (show ¬ mxF (mxF a.1 b.1) 0 ≤ mnF (mnF a.2.1 b.2.1) 10000 by simp only [mxF_eq, mnF_eq] at h3 ⊢; omega), if_neg (fun h => h3 h.2.2)]
theorem mgJ_cons (x : Int × Int × Unit) (xs : List (Int × Int × Unit)) (s : Int × Int × Unit) : mgJ (x :: xs) s = if apJ x s = true then (x :: (mgJ xs s).1, (mgJ xs s).2) else mgJ xs (unJ s x) := by
  rw [mgJ]
theorem apJ_t {x s : Int × Int × Unit} : (apJ x s = true) = (x.2.1 + 1 < s.1 ∨ s.2.1 + 1 < x.1) := by simp [apJ]
theorem jaF_cons (out l : List (Int × Int × Unit)) (s : Int × Int × Unit) : jaF out (s :: l) = jaF (if spB s = true then putJ out s else out) l := by rw [jaF]
def maF (a b : List (Int × Int × Unit)) : List (Int × Int × Unit) := jaF [] (a.flatMap fun x => b.flatMap fun y => optS (meF x y))
theorem optS_len (r : (Int × Int × Unit) × Bool) : (optS r).length ≤ 1 := by unfold optS; split <;> simp
theorem fl_len {α β : Type} (f : α → List β) (c : Nat) (h : ∀ x, (f x).length ≤ c) : ∀ l : List α, (l.flatMap f).length ≤ c * l.length
  | [] => by simp
  | x :: l => by
    have := h x
    have := fl_len f c h l
    rw [List.flatMap_cons, List.length_append, List.length_cons, Nat.mul_succ]
    omega
end Go.Proofs.Ytfkdkblbhilghaa
/- What the functions of spans answer, on both sides. It proves nothing of a statement by itself. -/
set_option linter.unusedSimpArgs false
set_option linter.unusedVariables false
set_option maxRecDepth 100000
namespace Go.Proofs.Ytfkdkblbhilghaa
open Go.AL
theorem sp_getD {out : List tSpan.den} (h : AllSp out) {j : Nat} (hj : j < out.length) : spB (out.getD j (0, 0, ())) = true := h _ (getD_mem hj _)
def mrowF (b : List tSpan.den) (x : tSpan.den) : List tSpan.den := b.flatMap fun y => optS (meF x y)
theorem mrow_len (b : List tSpan.den) (x : tSpan.den) : (mrowF b x).length ≤ 1 * b.length := fl_len _ 1 (fun y => optS_len _) b
theorem fm_take' {α β : Type} (f : α → List β) {l : List α} {k : Nat} (hk : k < l.length) (d : α) : (l.take (k + 1)).flatMap f = (l.take k).flatMap f ++ f (l.getD k d) := by
  rw [take_getD hk d, List.flatMap_append]
  simp
end Go.Proofs.Ytfkdkblbhilghaa
/- What draws of certificates and statuses answer. It proves nothing of a statement by itself. -/
set_option linter.unusedSimpArgs false
set_option linter.unusedVariables false
set_option maxRecDepth 100000
namespace Go.Proofs.Ytfkdkblbhilghaa
open Go.AL
def K8 : List tKey.den := [(1, 90, 1, 0, 501, ()), (2, 90, 3, 40, 502, ()), (11, 1, 1, 0, 511, ()), (12, 1, 2, 20, 512, ()), (13, 2, 3, 40, 513, ()), (21, 50, 1, 0, 521, ()), (31, 81, 1, 0, 531, ()), (32, 82, 2, 20, 532, ()), (33, 83, 3, 40, 533, ()), (34, 84, 4, 60, 534, ())]
def isC (x : tCert.den) : Bool := inB x.1 1 999 && inB x.2.1 1 99 && inB x.2.2.2.2.2.1 1 99 && !((x.2.1 : Int) == x.2.2.2.2.2.1) && inB x.2.2.1 0 99 && spB (x.2.2.2.1, x.2.2.2.2.1, ())
def fnK (ks : List tKey.den) (n : Int) : Int := finF (fun x : tKey.den => x.1) n ks 0
theorem fnK_lt (ks : List tKey.den) (n : Int) : fnK ks n = -1 ∨ 0 ≤ fnK ks n ∧ fnK ks n < ks.length := by
  have := finF_lt (fun x : tKey.den => x.1) n ks 0
  unfold fnK
  omega
def certI (x : tCert.den) : List Int := [101, x.1, x.2.1, x.2.2.1, x.2.2.2.1, x.2.2.2.2.1, x.2.2.2.2.2.1]
def iscF (ks : List tKey.den) (x : tCert.den) : tCert.den × Bool := if (isC x = false ∨ fnK ks x.2.2.2.2.2.1 < 0) ∨ fnK ks x.2.1 < 0 then (tCert.dflt, false) else ((x.1, x.2.1, x.2.2.1, x.2.2.2.1, x.2.2.2.2.1, x.2.2.2.2.2.1, mwF (ks.getD (fnK ks x.2.2.2.2.2.1).toNat tKey.dflt) (certI x), ()), true)
theorem iscF_y {ks : List tKey.den} {x : tCert.den} (h : (isC x = false ∨ fnK ks x.2.2.2.2.2.1 < 0) ∨ fnK ks x.2.1 < 0) : iscF ks x = (tCert.dflt, false) := if_pos h
theorem iscF_n {ks : List tKey.den} {x : tCert.den} (h : (isC x = true ∧ ¬ fnK ks x.2.2.2.2.2.1 < 0) ∧ ¬ fnK ks x.2.1 < 0) : iscF ks x = ((x.1, x.2.1, x.2.2.1, x.2.2.2.1, x.2.2.2.2.1, x.2.2.2.2.2.1, mwF (ks.getD (fnK ks x.2.2.2.2.2.1).toNat tKey.dflt) (certI x), ()), true) := if_neg (by simp only [not_or, Bool.not_eq_false]; exact h)
def isS (x : tStatus.den) : Bool := inB x.1 1 999 && inB x.2.1 0 10000 && inB x.2.2.1 (-1) (IntKind.i64.wrap (x.2.1 + 1)) && inB x.2.2.2.1 1 99
def mstF (ks : List tKey.den) (x : tStatus.den) : tStatus.den × Bool := if isS x = false ∨ fnK ks x.2.2.2.1 < 0 then (tStatus.dflt, false) else ((x.1, x.2.1, x.2.2.1, x.2.2.2.1, mwF (ks.getD (fnK ks x.2.2.2.1).toNat tKey.dflt) [102, x.1, x.2.1, x.2.2.1, x.2.2.2.1], ()), true)
theorem mstF_y {ks : List tKey.den} {x : tStatus.den} (h : isS x = false ∨ fnK ks x.2.2.2.1 < 0) : mstF ks x = (tStatus.dflt, false) := if_pos h
theorem mstF_n {ks : List tKey.den} {x : tStatus.den} (h : isS x = true ∧ ¬ fnK ks x.2.2.2.1 < 0) : mstF ks x = ((x.1, x.2.1, x.2.2.1, x.2.2.2.1, mwF (ks.getD (fnK ks x.2.2.2.1).toNat tKey.dflt) [102, x.1, x.2.1, x.2.2.1, x.2.2.2.1], ()), true) := if_neg (by simp only [not_or, Bool.not_eq_false]; exact h)
def C3 : List tCert.den := [(iscF K8 (1, 11, 1, 0, 60, 1, 0, ())).1, (iscF K8 (2, 12, 1, 20, 100, 1, 0, ())).1, (iscF K8 (3, 13, 2, 40, 150, 2, 0, ())).1]
def d9 (s : Cu) : tCert.den × Cu :=
  let j := dB s 3
  let x := C3.getD j.1.toNat tCert.dflt
  let k := dB j.2 10
  if k.1 = 0 then (setF tCert x 0 (dI k.2 [0, 1, 999, 1000]).1, (dI k.2 [0, 1, 999, 1000]).2)
  else if k.1 = 1 then (setF tCert x 1 (dN k.2).1, (dN k.2).2)
  else if k.1 = 2 then (setF tCert x 2 (dI k.2 [-1, 2, 100]).1, (dI k.2 [-1, 2, 100]).2)
  else if k.1 = 3 then (setF tCert x 4 (dR k.2).1, (dR k.2).2)
  else if k.1 = 4 then (setF tCert x 6 (IntKind.i64.wrap (x.2.2.2.2.2.2.1 + 1)), k.2)
  else if k.1 = 5 then (setF tCert x 5 (dN k.2).1, (dN k.2).2)
  else (x, k.2)
def d10D (s : Cu) : tStatus.den × Cu :=
  let t := dB s 60
  let a := dB t.2 3
  let b := dB a.2 2
  let o := dO b.2 3
  if o.1 = true then ((mstF K8 (IntKind.i64.wrap (1 + a.1), t.1, (dB o.2 (IntKind.i64.wrap (t.1 + 2))).1, IntKind.i64.wrap (1 + b.1), 0, ())).1, (dB o.2 (IntKind.i64.wrap (t.1 + 2))).2)
  else ((mstF K8 (IntKind.i64.wrap (1 + a.1), t.1, -1, IntKind.i64.wrap (1 + b.1), 0, ())).1, o.2)
def d10 (s : Cu) : tStatus.den × Cu :=
  let x := d10D s
  let k := dB x.2 9
  if k.1 = 0 then (setF tStatus x.1 0 (dI k.2 [0, 999, 1000]).1, (dI k.2 [0, 999, 1000]).2)
  else if k.1 = 1 then (setF tStatus x.1 1 (dR k.2).1, (dR k.2).2)
  else if k.1 = 2 then (setF tStatus x.1 2 (dI k.2 [-2, 0, 61, 62]).1, (dI k.2 [-2, 0, 61, 62]).2)
  else if k.1 = 3 then (setF tStatus x.1 3 (dN k.2).1, (dN k.2).2)
  else if k.1 = 4 then (setF tStatus x.1 4 (IntKind.i64.wrap (x.1.2.2.2.2.1 + 1)), k.2)
  else (x.1, k.2)
end Go.Proofs.Ytfkdkblbhilghaa
/- What functions and draws of documents and signatures answer. It proves nothing of a statement by itself. -/
set_option linter.unusedSimpArgs false
set_option linter.unusedVariables false
set_option maxRecDepth 100000
namespace Go.Proofs.Ytfkdkblbhilghaa
open Go.AL
theorem all_step {α : Type} (f : α → Bool) {l : List α} {k : Nat} (hk : k < l.length) (x : α) : (l.drop k).all f = (f (l.getD k x) && (l.drop (k + 1)).all f) := by
  rw [drop_getD hk x, List.all_cons]
theorem and_asc (a b c d e : Bool) : (a && b && (c && d) && e) = ((a && b) && ((c && d) && e)) := by cases a <;> cases b <;> cases c <;> cases d <;> cases e <;> rfl
def pOK (p : ByteArray) : Bool := decide ((p.size : Int) ≤ 40)
def isD (d : tDocument.den) : Bool := d.2.1.all pOK && (d.2.2.1.all (fun x => inB x 1 1000000000000) && (inB d.1 0 999 && (inB (d.2.1.length : Int) 1 6 && ((d.2.2.1.length : Int) == (d.2.1.length : Int)))))
theorem isD_len {d : tDocument.den} (h : isD d = true) : d.2.1.length ≤ 6 ∧ d.2.2.1.length = d.2.1.length ∧ ∀ p, p ∈ d.2.1 → p.size ≤ 40 := by
  simp only [isD, Bool.and_eq_true, inB, decide_eq_true_eq, beq_iff_eq, List.all_eq_true, pOK] at h
  refine ⟨by omega, by omega, fun p hp => ?_⟩
  have := h.1 p hp
  omega
def strL (s : ByteArray) : List Int := s.data.toList.map (fun c => (c.toNat : Int))
theorem strL_len (s : ByteArray) : (strL s).length = s.size := by
  unfold strL
  rw [List.length_map, Array.length_toList]
  rfl
theorem strL_step {s : ByteArray} {k : Nat} (hk : k < s.size) {t : Int} : (t :: (strL s).take k) ++ [((s.data.toList.getD k 0).toNat : Int)] = t :: (strL s).take (k + 1) := by
  have hl : k < (strL s).length := by rw [strL_len]; exact hk
  rw [List.take_succ_eq_append_getElem hl]
  have h2 : k < s.data.toList.length := by rw [Array.length_toList]; exact hk
  simp only [strL, List.getElem_map, List.cons_append]
  rw [List.getD_eq_getElem?_getD, List.getElem?_eq_getElem h2]
  rfl
def ptF (m : Int) (s : ByteArray) (t : Int) : Int := digF m (t :: strL s)
def ddL (m : Int) : List ByteArray → List Int → List Int
  | p :: ps, t :: ts => ptF m p t :: ddL m ps ts
  | _, _ => []
theorem ddL_len (m : Int) : ∀ (ps : List ByteArray) (ts : List Int), ts.length = ps.length → (ddL m ps ts).length = ps.length
  | [], ts, h => by
    have : ts = [] := List.eq_nil_of_length_eq_zero h
    subst this
    rfl
  | p :: ps, [], h => by simp at h
  | p :: ps, t :: ts, h => by
    rw [ddL, List.length_cons, List.length_cons, ddL_len m ps ts (by simpa using h)]
theorem ddL_get (m : Int) : ∀ (ps : List ByteArray) (ts : List Int) (k : Nat), k < ps.length → ts.length = ps.length → (ddL m ps ts).getD k 0 = ptF m (ps.getD k ByteArray.empty) (ts.getD k 0)
  | [], ts, k, h, _ => by simp at h
  | p :: ps, [], k, _, h => by simp at h
  | p :: ps, t :: ts, 0, _, _ => rfl
  | p :: ps, t :: ts, k + 1, h, h2 => by
    have := ddL_get m ps ts k (by simpa using h) (by simpa using h2)
    simpa only [ddL, List.getD_cons_succ] using this
theorem ddL_step {m : Int} {ps : List ByteArray} {ts : List Int} {k : Nat} (hk : k < ps.length) (hl : ts.length = ps.length) {t : Int} : (t :: (ddL m ps ts).take k) ++ [ptF m (ps.getD k ByteArray.empty) (ts.getD k 0)] = t :: (ddL m ps ts).take (k + 1) := by
  have h1 : k < (ddL m ps ts).length := by rw [ddL_len m ps ts hl]; exact hk
  rw [List.take_succ_eq_append_getElem h1, ← ddL_get m ps ts k hk hl, List.getD_eq_getElem?_getD, List.getElem?_eq_getElem h1]
  rfl
def ddF (m : Int) (d : tDocument.den) : Int := if isD d = true then digF m (d.1 :: ddL m d.2.1 d.2.2.1) else -1
def saF (sd t : Int) (n : Nat) : List Int := (List.range n).map fun i : Nat => mxF 1 (khF sd [t, (i : Int)])
theorem saF_succ (sd t : Int) (n : Nat) : saF sd t (n + 1) = saF sd t n ++ [mxF 1 (khF sd [t, (n : Int)])] := by
  unfold saF
  rw [List.range_succ, List.map_append]
  rfl
theorem saF_len (sd t : Int) (n : Nat) : (saF sd t n).length = n := by
  unfold saF
  rw [List.length_map, List.length_range]
def isG (x : tSignature.den) : Bool := inB x.1 1 99 && inB x.2.1 1 999 && inB x.2.2.1 0 99 && inB x.2.2.2.2.2.1 0 99 && inB x.2.2.2.2.1 1 3 && inB x.2.2.2.1 0 1000000000000 && inB x.2.2.2.2.2.2.1 0 1000000000000 && inB x.2.2.2.2.2.2.2.1 0 1000000000000
def mdF (t : Int) (ps : List ByteArray) (sd : Int) : tDocument.den × Bool := if isD (t, ps, saF sd t ps.length, ()) = false ∨ inB sd 1 2147483646 = false then (tDocument.dflt, false) else ((t, ps, saF sd t ps.length, ()), true)
theorem mdF_y {t : Int} {ps : List ByteArray} {sd : Int} (h : isD (t, ps, saF sd t ps.length, ()) = false ∨ inB sd 1 2147483646 = false) : mdF t ps sd = (tDocument.dflt, false) := if_pos h
theorem mdF_n {t : Int} {ps : List ByteArray} {sd : Int} (h : isD (t, ps, saF sd t ps.length, ()) = true ∧ inB sd 1 2147483646 = true) : mdF t ps sd = ((t, ps, saF sd t ps.length, ()), true) := if_neg (by simp only [not_or, Bool.not_eq_false]; exact h)
def sgF (ks : List tKey.den) (x : tSignature.den) : tSignature.den × Bool := if isG x = false ∨ fnK ks x.1 < 0 then (tSignature.dflt, false) else ((x.1, x.2.1, x.2.2.1, x.2.2.2.1, x.2.2.2.2.1, x.2.2.2.2.2.1, x.2.2.2.2.2.2.1, x.2.2.2.2.2.2.2.1, mwF (ks.getD (fnK ks x.1).toNat tKey.dflt) [104, x.1, x.2.1, x.2.2.1, x.2.2.2.1, x.2.2.2.2.1, x.2.2.2.2.2.1, x.2.2.2.2.2.2.1, x.2.2.2.2.2.2.2.1], ()), true)
theorem sgF_y {ks : List tKey.den} {x : tSignature.den} (h : isG x = false ∨ fnK ks x.1 < 0) : sgF ks x = (tSignature.dflt, false) := if_pos h
theorem sgF_n {ks : List tKey.den} {x : tSignature.den} (h : isG x = true ∧ ¬ fnK ks x.1 < 0) : sgF ks x = ((x.1, x.2.1, x.2.2.1, x.2.2.2.1, x.2.2.2.2.1, x.2.2.2.2.2.1, x.2.2.2.2.2.2.1, x.2.2.2.2.2.2.2.1, mwF (ks.getD (fnK ks x.1).toNat tKey.dflt) [104, x.1, x.2.1, x.2.2.1, x.2.2.2.1, x.2.2.2.2.1, x.2.2.2.2.2.1, x.2.2.2.2.2.2.1, x.2.2.2.2.2.2.2.1], ()), true) := if_neg (by simp only [not_or, Bool.not_eq_false]; exact h)
theorem spec_IsDocument_ok (e : tDocument.den) : FunOK Try.prog 115 [⟨tDocument, e⟩] (.rd .bool (isD e)) := by
  refine fun_of (tb := tb) follows Try.func115 (by kernel_rfl) Try.ntmps115 rfl rfl rfl ?_; intro cx hN hw
  simp (disch := exact eqId (by kernel_rfl)) only [go_sem, ↓reduceIte, Nat.reduceAdd, Nat.reduceMul, Nat.reduceLT, Nat.reduceBEq, Nat.reduceLeDiff, Nat.reduceEqDiff, Int.reduceToNat]
  have hp1 : e.2.1.length ≤ maxLen := hw.1.2.1.1
  have hp2 : e.2.2.1.length ≤ maxLen := hw.1.2.2.1.1
  refine loop_intro (tb := tb) follows hN (D := Nat) (fun d => shp [(1, .bp 10000 0), (3, .rd I (d : Int))] [(10000, .box 38 [.rd I (e.1), .rd (.list .str) (e.2.1), .rd (.list I) (e.2.2.1)])]) (fun d => d ≤ e.2.1.length ∧ e.2.1.all pOK = (e.2.1.drop d).all pOK) (fun d => e.2.1.length - d) (0) ?_ (sub_shp hN [(10000, some 10000)] ?_) (fun d hd => ?_)
  · exact ⟨Nat.zero_le _, rfl⟩
  · simp (disch := exact eqId (by kernel_rfl)) only [go_sem, ↓reduceIte, Nat.reduceAdd, Nat.reduceMul, Nat.reduceLT, Nat.reduceBEq, Nat.reduceLeDiff, Nat.reduceEqDiff, Int.reduceToNat]
    try rfl
  · obtain ⟨h1, h2⟩ := hd
    have hstep := fun (hk : d < e.2.1.length) => all_step pOK hk ByteArray.empty
    simp (disch := exact eqId (by kernel_rfl)) only [go_sem, ↓reduceIte, Nat.reduceAdd, Nat.reduceMul, Nat.reduceLT, Nat.reduceBEq, Nat.reduceLeDiff, Nat.reduceEqDiff, Int.reduceToNat]
    repeat' (first | (refine And.intro ?_ ?_) | intro _)
    all_goals (try omega)
    · rename_i hk hc
      rw [hstep (by omega)] at h2
      unfold isD
      rw [h2, show pOK _ = false from decide_eq_false (by simpa using hc)]
      rfl
    · rename_i hk hc
      have hk : d < e.2.1.length := by omega
      refine back_intro (d + 1) ?_ ?_ (sub_shp hN [(10000, some 10000)] ?_)
      · refine ⟨hk, h2.trans ?_⟩
        rw [hstep hk, show pOK _ = true from decide_eq_true (by simpa using hc), Bool.true_and]
      · omega
      · simp (disch := exact eqId (by kernel_rfl)) only [go_sem, ↓reduceIte, Nat.reduceAdd, Nat.reduceMul, Nat.reduceLT, Nat.reduceBEq, Nat.reduceLeDiff, Nat.reduceEqDiff, Int.reduceToNat]
        exact wrap_succ hk hp1
    · rename_i hk
      rw [drop_end (show e.2.1.length ≤ d by omega)] at h2
      have h2 : e.2.1.all pOK = true := h2
      clear h1 hk hstep
      refine loop_intro (tb := tb) follows hN (D := Nat) (fun d => shp [(1, .bp 10000 0), (4, .rd I (d : Int))] [(10000, .box 38 [.rd I (e.1), .rd (.list .str) (e.2.1), .rd (.list I) (e.2.2.1)])]) (fun d => d ≤ e.2.2.1.length ∧ e.2.2.1.all (fun x => inB x 1 1000000000000) = (e.2.2.1.drop d).all (fun x => inB x 1 1000000000000)) (fun d => e.2.2.1.length - d) (0) ?_ (sub_shp hN [(10000, some 10000)] ?_) (fun d hd => ?_)
      · exact ⟨Nat.zero_le _, rfl⟩
      · simp (disch := exact eqId (by kernel_rfl)) only [go_sem, ↓reduceIte, Nat.reduceAdd, Nat.reduceMul, Nat.reduceLT, Nat.reduceBEq, Nat.reduceLeDiff, Nat.reduceEqDiff, Int.reduceToNat]
        try rfl
      · rename_i d0 d
        obtain ⟨h1, h3⟩ := hd
        have hstep := fun (hk : d < e.2.2.1.length) => all_step (fun x => inB x 1 1000000000000) hk 0
        simp (disch := exact eqId (by kernel_rfl)) only [go_sem, ↓reduceIte, Nat.reduceAdd, Nat.reduceMul, Nat.reduceLT, Nat.reduceBEq, Nat.reduceLeDiff, Nat.reduceEqDiff, Int.reduceToNat]
        repeat' (first | (refine And.intro ?_ ?_) | intro _ | (refine callQ_intro (l1In_ok _ _ _) ?_; try (simp (disch := exact eqId (by kernel_rfl)) only [go_sem, ↓reduceIte, Nat.reduceAdd, Nat.reduceMul, Nat.reduceLT, Nat.reduceBEq, Nat.reduceLeDiff, Nat.reduceEqDiff, Int.reduceToNat])) | (refine callH_intro (fun hcc => l1In_ok _ _ _) ?_; try (simp (disch := exact eqId (by kernel_rfl)) only [go_sem, ↓reduceIte, Nat.reduceAdd, Nat.reduceMul, Nat.reduceLT, Nat.reduceBEq, Nat.reduceLeDiff, Nat.reduceEqDiff, Int.reduceToNat])))
        all_goals (try omega)
        · rename_i hk hc
          rw [hstep (by omega)] at h3
          unfold isD
          rw [h2, h3, (inB_f.mpr (by omega) : inB (e.2.2.1.getD d 0) 1 1000000000000 = false)]
          rfl
        · rename_i hk hc
          have hk : d < e.2.2.1.length := by omega
          refine back_intro (d + 1) ?_ ?_ (sub_shp hN [(10000, some 10000)] ?_)
          · refine ⟨hk, h3.trans ?_⟩
            rw [hstep hk, (inB_t.mpr hc : inB (e.2.2.1.getD d 0) 1 1000000000000 = true), Bool.true_and]
          · omega
          · simp (disch := exact eqId (by kernel_rfl)) only [go_sem, ↓reduceIte, Nat.reduceAdd, Nat.reduceMul, Nat.reduceLT, Nat.reduceBEq, Nat.reduceLeDiff, Nat.reduceEqDiff, Int.reduceToNat]
            exact wrap_succ hk hp2
        · rename_i hk
          rw [drop_end (show e.2.2.1.length ≤ d by omega)] at h3
          have h3 : e.2.2.1.all (fun x => inB x 1 1000000000000) = true := h3
          unfold isD
          rw [h2, h3]
          simp only [Bool.true_and]
          first | exact and_asc (decide (0 ≤ e.1)) (decide (e.1 ≤ 999)) (decide (1 ≤ (e.2.1.length : Int))) (decide ((e.2.1.length : Int) ≤ 6)) ((e.2.2.1.length : Int) == (e.2.1.length : Int)) | trace_state
theorem spec_PartDigest_ok (m : Int) (p : ByteArray) (t : Int) (hp : p.size ≤ 1000000) : FunOK Try.prog 116 [⟨I, m⟩, ⟨.str, p⟩, ⟨I, t⟩] (.rd I (ptF m p t)) := by
  refine fun_of (tb := tb) follows Try.func116 (by kernel_rfl) Try.ntmps116 rfl rfl rfl ?_; intro cx hN hw
  have hm : maxLen = 9223372036854775807 := rfl
  simp (disch := exact eqId (by kernel_rfl)) only [go_sem, ↓reduceIte, Nat.reduceAdd, Nat.reduceMul, Nat.reduceLT, Nat.reduceBEq, Nat.reduceLeDiff, Nat.reduceEqDiff, Int.reduceToNat]
  refine loop_intro (tb := tb) follows hN (D := Nat) (fun d => shp [(0, .rd I (m : Int)), (1, .rd .str (p)), (7, .own 20016), (8, .rd I (d : Int))] [(20016, .row 3 I (t :: (strL p).take d))]) (fun d => d ≤ p.size) (fun d => p.size - d) (0) ?_ (sub_shp hN [(20016, some 20016)] ?_) (fun d hd => ?_)
  · exact Nat.zero_le _
  · simp (disch := exact eqId (by kernel_rfl)) only [go_sem, ↓reduceIte, Nat.reduceAdd, Nat.reduceMul, Nat.reduceLT, Nat.reduceBEq, Nat.reduceLeDiff, Nat.reduceEqDiff, Int.reduceToNat]
    try exact ⟨rfl, rfl⟩
    try rfl
  · have hl := strL_len p
    have hlD : ∀ k, (t :: (strL p).take k).length ≤ 1073741824 := fun k => by simp only [List.length_cons, List.length_take]; omega
    have hub : ∀ c : UInt8, IntKind.i64.wrap (c.toNat : Int) = (c.toNat : Int) := fun c => by have := c.toNat_lt; exact wrap_i64 (by omega) (by omega)
    simp (disch := exact eqId (by kernel_rfl)) only [go_sem, ↓reduceIte, Nat.reduceAdd, Nat.reduceMul, Nat.reduceLT, Nat.reduceBEq, Nat.reduceLeDiff, Nat.reduceEqDiff, Int.reduceToNat]
    repeat' (first | (refine And.intro ?_ ?_) | intro _ | (refine callQ_intro (spec_DigestOf_ok _ _ (hlD _)) ?_; try (simp (disch := exact eqId (by kernel_rfl)) only [go_sem, ↓reduceIte, Nat.reduceAdd, Nat.reduceMul, Nat.reduceLT, Nat.reduceBEq, Nat.reduceLeDiff, Nat.reduceEqDiff, Int.reduceToNat])) | (refine callH_intro (fun hcc => spec_DigestOf_ok _ _ (hlD _)) ?_; try (simp (disch := exact eqId (by kernel_rfl)) only [go_sem, ↓reduceIte, Nat.reduceAdd, Nat.reduceMul, Nat.reduceLT, Nat.reduceBEq, Nat.reduceLeDiff, Nat.reduceEqDiff, Int.reduceToNat])))
    all_goals (try omega)
    all_goals (try (simp only [List.length_append, List.length_cons, List.length_nil, List.length_take]; omega))
    · rename_i hk
      have hk : d < p.size := by omega
      refine back_intro (d + 1) ?_ ?_ (sub_shp hN [(20016, some 60096)] ?_)
      · omega
      · omega
      · simp (disch := exact eqId (by kernel_rfl)) only [go_sem, ↓reduceIte, Nat.reduceAdd, Nat.reduceMul, Nat.reduceLT, Nat.reduceBEq, Nat.reduceLeDiff, Nat.reduceEqDiff, Int.reduceToNat]
        refine ⟨?_, wrap_succ' (by omega)⟩
        rw [hub]
        first | exact strL_step hk | trace_state
    · rename_i hk
      have : d = p.size := by omega
      subst this
      unfold ptF
      rw [List.take_of_length_le (by omega)]
theorem spec_DocDigest_ok (m : Int) (e : tDocument.den) : FunOK Try.prog 60 [⟨I, m⟩, ⟨tDocument, e⟩] (.rd I (ddF m e)) := by
  refine fun_of (tb := tb) follows Try.func60 (by kernel_rfl) Try.ntmps60 rfl rfl rfl ?_; intro cx hN hw
  have hm : maxLen = 9223372036854775807 := rfl
  simp (disch := exact eqId (by kernel_rfl)) only [go_sem, ↓reduceIte, Nat.reduceAdd, Nat.reduceMul, Nat.reduceLT, Nat.reduceBEq, Nat.reduceLeDiff, Nat.reduceEqDiff, Int.reduceToNat]
  repeat' (first | (refine And.intro ?_ ?_) | intro _ | (refine callQ_intro (spec_IsDocument_ok _) ?_; try (simp (disch := exact eqId (by kernel_rfl)) only [go_sem, ↓reduceIte, Nat.reduceAdd, Nat.reduceMul, Nat.reduceLT, Nat.reduceBEq, Nat.reduceLeDiff, Nat.reduceEqDiff, Int.reduceToNat])) | (refine callH_intro (fun hcc => spec_IsDocument_ok _) ?_; try (simp (disch := exact eqId (by kernel_rfl)) only [go_sem, ↓reduceIte, Nat.reduceAdd, Nat.reduceMul, Nat.reduceLT, Nat.reduceBEq, Nat.reduceLeDiff, Nat.reduceEqDiff, Int.reduceToNat])))
  · rename_i hc
    unfold ddF
    rw [if_neg (by rw [show isD e = false from hc]; decide)]
  · rename_i hc
    obtain ⟨l1, l2, l3⟩ := isD_len (d := e) hc
    refine loop_intro (tb := tb) follows hN (D := Nat) (fun d => shp [(0, .rd I (m : Int)), (3, .bp 10000 0), (5, .own 40032), (6, .rd I (d : Int))] [(10000, .box 38 [.rd I (e.1), .rd (.list .str) (e.2.1), .rd (.list I) (e.2.2.1)]), (40032, .row 3 I (e.1 :: (ddL m e.2.1 e.2.2.1).take d))]) (fun d => d ≤ e.2.1.length) (fun d => e.2.1.length - d) (0) ?_ (sub_shp hN [(10000, some 10000), (40032, some 40032)] ?_) (fun d hd => ?_)
    · exact Nat.zero_le _
    · simp (disch := exact eqId (by kernel_rfl)) only [go_sem, ↓reduceIte, Nat.reduceAdd, Nat.reduceMul, Nat.reduceLT, Nat.reduceBEq, Nat.reduceLeDiff, Nat.reduceEqDiff, Int.reduceToNat]
      try exact ⟨rfl, rfl⟩
      try rfl
    · have hl := ddL_len m e.2.1 e.2.2.1 l2
      have hlD : ∀ k, (e.1 :: (ddL m e.2.1 e.2.2.1).take k).length ≤ 1073741824 := fun k => by simp only [List.length_cons, List.length_take]; omega
      have hps : ∀ k, k < e.2.1.length → (e.2.1.getD k ByteArray.empty).size ≤ 1000000 := fun k hk => Nat.le_trans (l3 _ (getD_mem hk _)) (by decide)
      simp (disch := exact eqId (by kernel_rfl)) only [go_sem, ↓reduceIte, Nat.reduceAdd, Nat.reduceMul, Nat.reduceLT, Nat.reduceBEq, Nat.reduceLeDiff, Nat.reduceEqDiff, Int.reduceToNat]
      repeat' (first | (refine And.intro ?_ ?_) | intro _ | (refine callQ_intro (spec_DigestOf_ok _ _ (hlD _)) ?_; try (simp (disch := exact eqId (by kernel_rfl)) only [go_sem, ↓reduceIte, Nat.reduceAdd, Nat.reduceMul, Nat.reduceLT, Nat.reduceBEq, Nat.reduceLeDiff, Nat.reduceEqDiff, Int.reduceToNat])) | (refine callH_intro (fun hcc => spec_DigestOf_ok _ _ (hlD _)) ?_; try (simp (disch := exact eqId (by kernel_rfl)) only [go_sem, ↓reduceIte, Nat.reduceAdd, Nat.reduceMul, Nat.reduceLT, Nat.reduceBEq, Nat.reduceLeDiff, Nat.reduceEqDiff, Int.reduceToNat])) | (refine callQ_intro (spec_PartDigest_ok _ _ _ (hps _ (by omega))) ?_; try (simp (disch := exact eqId (by kernel_rfl)) only [go_sem, ↓reduceIte, Nat.reduceAdd, Nat.reduceMul, Nat.reduceLT, Nat.reduceBEq, Nat.reduceLeDiff, Nat.reduceEqDiff, Int.reduceToNat])) | (refine callH_intro (fun hcc => spec_PartDigest_ok _ _ _ (hps _ (by omega))) ?_; try (simp (disch := exact eqId (by kernel_rfl)) only [go_sem, ↓reduceIte, Nat.reduceAdd, Nat.reduceMul, Nat.reduceLT, Nat.reduceBEq, Nat.reduceLeDiff, Nat.reduceEqDiff, Int.reduceToNat])))
      all_goals (try omega)
      all_goals (try (simp only [List.length_append, List.length_cons, List.length_nil, List.length_take]; omega))
      · rename_i hk
        have hk : d < e.2.1.length := by omega
        refine back_intro (d + 1) ?_ ?_ (sub_shp hN [(10000, some 10000), (40032, some 80224)] ?_)
        · omega
        · omega
        · simp (disch := exact eqId (by kernel_rfl)) only [go_sem, ↓reduceIte, Nat.reduceAdd, Nat.reduceMul, Nat.reduceLT, Nat.reduceBEq, Nat.reduceLeDiff, Nat.reduceEqDiff, Int.reduceToNat]
          refine ⟨?_, wrap_succ' (by omega)⟩
          first | exact ddL_step hk l2 | trace_state
      · rename_i hk
        have : d = e.2.1.length := by omega
        subst this
        unfold ddF
        rw [if_pos hc, List.take_of_length_le (by omega)]
end Go.Proofs.Ytfkdkblbhilghaa
/- What draws of documents and signatures answer. It proves nothing of a statement by itself. -/
set_option linter.unusedSimpArgs false
set_option linter.unusedVariables false
set_option maxRecDepth 100000
namespace Go.Proofs.Ytfkdkblbhilghaa
open Go.AL
def STRS : List ByteArray := [⟨#[]⟩, ⟨#[97]⟩, ⟨#[98]⟩, ⟨#[97, 98]⟩, ⟨#[121, 101, 115]⟩, ⟨#[110, 111]⟩, ⟨#[111, 110, 101, 32, 104, 117, 110, 100, 114, 101, 100]⟩]
def dT (s : Cu) : ByteArray × Cu := (STRS.getD (dB s 7).1.toNat ByteArray.empty, (dB s 7).2)
def dLS (s : Cu) (l : List ByteArray) : ByteArray × Cu := (l.getD (dB s (l.length : Int)).1.toNat ByteArray.empty, (dB s (l.length : Int)).2)
def d6 (s : Cu) : tDocument.den × Cu :=
  let n := dB s 3
  let p := rep dT (IntKind.i64.wrap (1 + n.1)).toNat n.2
  let q := dB p.2 5
  ((mdF q.1 p.1 11).1, q.2)
def d13 (s : Cu) : (tSignature.den × tDocument.den) × Cu :=
  let e := d6 s
  let n := dB e.2 3
  let c := dB n.2 3
  (((sgF K8 (IntKind.i64.wrap (11 + n.1), IntKind.i64.wrap (1 + n.1), IntKind.i64.wrap (1 + n.1), ddF (IntKind.i64.wrap (1 + n.1)) e.1, IntKind.i64.wrap (1 + c.1), 0, 0, 0, 0, ())).1, e.1), c.2)
def d13A (s : Cu) : tSignature.den × Cu :=
  let x := d13 s
  let k := dB x.2 10
  if k.1 = 0 then (setF tSignature x.1.1 0 (dN k.2).1, (dN k.2).2)
  else if k.1 = 1 then (setF tSignature x.1.1 4 (dB k.2 5).1, (dB k.2 5).2)
  else if k.1 = 2 then (setF tSignature x.1.1 3 (dI k.2 [-1, 0, 7]).1, (dI k.2 [-1, 0, 7]).2)
  else if k.1 = 3 then (setF tSignature x.1.1 8 (IntKind.i64.wrap (x.1.1.2.2.2.2.2.2.2.2.1 + 1)), k.2)
  else if k.1 = 4 then (setF tSignature x.1.1 5 (dI k.2 [-1, 50, 100]).1, (dI k.2 [-1, 50, 100]).2)
  else if k.1 = 5 then (setF tSignature x.1.1 7 (dI k.2 [-1, 9]).1, (dI k.2 [-1, 9]).2)
  else (x.1.1, k.2)
end Go.Proofs.Ytfkdkblbhilghaa
/- What the functions of successions and lines of keys answer, on both sides. It proves nothing of a statement by itself. -/
set_option linter.unusedSimpArgs false
set_option linter.unusedVariables false
set_option maxRecDepth 100000
namespace Go.Proofs.Ytfkdkblbhilghaa
open Go.AL
def sucI (x : tSuccession.den) : List Int := [106, x.1, x.2.1, x.2.2.1]
theorem suc_len (x : tSuccession.den) : (sucI x).length ≤ 1073741823 := by simp [sucI]
def finK (l : List tKey.den) (n : Int) : Int := finF (fun x : tKey.den => x.1) n l 0
def ownF (l : List tKey.den) (n : Int) : Int := if 0 ≤ finK l n then (l.getD (finK l n).toNat (0, 0, 0, 0, 0, ())).2.1 else -1
theorem finF_mem (q : Int) : ∀ (l : List Int) (i : Int), 0 ≤ i → (0 ≤ finF (fun x : Int => x) q l i ↔ q ∈ l)
  | [], i, h => by simp [finF]
  | x :: xs, i, h => by
    unfold finF
    split
    · rename_i e
      simp [e, h]
    · rename_i e
      rw [finF_mem q xs (i + 1) (by omega)]
      simp only [List.mem_cons]
      exact ⟨fun h => .inr h, fun h => h.resolve_left (fun h => e h.symm)⟩
theorem impl_indexOf_ok (l : List Int) (q : Int) : FunOK Try.prog 136 [⟨(.list I), l⟩, ⟨I, q⟩] (.rd I (finF (fun x : Int => x) q l 0)) := by
  refine fun_of (tb := tb) follows Try.func136 (by kernel_rfl) Try.ntmps136 rfl rfl rfl ?_; intro cx hN hw
  simp (disch := exact eqId (by kernel_rfl)) only [go_sem, ↓reduceIte, Nat.reduceAdd, Nat.reduceMul, Nat.reduceLT, Nat.reduceBEq, Nat.reduceLeDiff, Nat.reduceEqDiff, Int.reduceToNat]
  refine loop_intro (tb := tb) follows hN (D := Nat) (fun d => shp [(1, .rd I (q : Int)), (7, .rd (.list I) (l)), (8, .rd I (((l).length : Int) : Int)), (9, .rd I (d : Int))] []) (fun d => d ≤ l.length ∧ finF (fun x : Int => x) q l 0 = finF (fun x : Int => x) q (l.drop d) d) (fun d => l.length - d) (0) ?_ (sub_shp hN [] ?_) (fun d hd => ?_)
  · exact ⟨Nat.zero_le _, rfl⟩
  · simp (disch := exact eqId (by kernel_rfl)) only [go_sem, ↓reduceIte, Nat.reduceAdd, Nat.reduceMul, Nat.reduceLT, Nat.reduceBEq, Nat.reduceLeDiff, Nat.reduceEqDiff, Int.reduceToNat]
    try rfl
  · obtain ⟨h1, h2⟩ := hd
    simp (disch := exact eqId (by kernel_rfl)) only [go_sem, ↓reduceIte, Nat.reduceAdd, Nat.reduceMul, Nat.reduceLT, Nat.reduceBEq, Nat.reduceLeDiff, Nat.reduceEqDiff, Int.reduceToNat]
    repeat' (first | (refine And.intro ?_ ?_) | intro _)
    all_goals (try omega)
    · rename_i hk he
      rw [h2, drop_getD (show d < l.length by omega) 0, finF, if_pos he]
    · rename_i hk he
      have hk : d < l.length := by omega
      refine back_intro (d + 1) ?_ ?_ (sub_shp hN [] ?_)
      · refine ⟨hk, ?_⟩
        rw [h2, drop_getD hk 0, finF, if_neg he]
        rfl
      · omega
      · simp (disch := exact eqId (by kernel_rfl)) only [go_sem, ↓reduceIte, Nat.reduceAdd, Nat.reduceMul, Nat.reduceLT, Nat.reduceBEq, Nat.reduceLeDiff, Nat.reduceEqDiff, Int.reduceToNat]
        exact wrap_succ hk hw.1.1
    · rename_i hk
      rw [h2, drop_end (show l.length ≤ d by omega)]
      rfl
def sucF (l : List tKey.den) (x : tSuccession.den) : tSuccession.den × Bool :=
  if finK l x.1 < 0 ∨ finK l x.2.1 < 0 ∨ x.1 = x.2.1 ∨ ownF l x.1 ≠ ownF l x.2.1 ∨ ¬ (0 ≤ (x.2.2.1 : Int) ∧ (x.2.2.1 : Int) ≤ 10000) then ((0, 0, 0, 0, ()), false)
  else ((x.1, x.2.1, x.2.2.1, (mbF l x.1 (sucI x)).1, ()), true)
theorem mb_f (l : List tKey.den) (n : Int) (w : List Int) : ((mbF l n w).2 = false) = (finF (fun x : tKey.den => x.1) n l 0 < 0) := by
  unfold mbF
  split
  · rename_i h; simp [h]
  · rename_i h; simp [h]
theorem mb_t (l : List tKey.den) (n : Int) (w : List Int) : ((mbF l n w).2 = true) = ¬ (finF (fun x : tKey.den => x.1) n l 0 < 0) := by
  rw [← mb_f l n w]; simp
theorem sucF_f {l : List tKey.den} {x : tSuccession.den} (h : ((((mbF l x.1 (sucI x)).2 = false ∨ finF (fun x : tKey.den => x.1) x.2.1 l 0 < 0) ∨ x.1 = x.2.1) ∨ ¬ ownF l x.1 = ownF l x.2.1) ∨ inB x.2.2.1 0 10000 = false) : sucF l x = ((0, 0, 0, 0, ()), false) := by
  unfold sucF finK
  rw [if_pos]
  rw [mb_f, inB_f] at h
  rcases h with (((h | h) | h) | h) | h
  · exact .inl h
  · exact .inr (.inl h)
  · exact .inr (.inr (.inl h))
  · exact .inr (.inr (.inr (.inl h)))
  · exact .inr (.inr (.inr (.inr h)))
theorem sucF_t {l : List tKey.den} {x : tSuccession.den} (h : ((((mbF l x.1 (sucI x)).2 = true ∧ ¬ finF (fun x : tKey.den => x.1) x.2.1 l 0 < 0) ∧ ¬ x.1 = x.2.1) ∧ ownF l x.1 = ownF l x.2.1) ∧ inB x.2.2.1 0 10000 = true) : sucF l x = ((x.1, x.2.1, x.2.2.1, (mbF l x.1 (sucI x)).1, ()), true) := by
  unfold sucF finK
  rw [if_neg]
  rw [mb_t, inB_t] at h
  rintro (k | k | k | k | k)
  · exact h.1.1.1.1 k
  · exact h.1.1.1.2 k
  · exact h.1.1.2 k
  · exact k h.1.2
  · exact k h.2
theorem ownF_at {l : List tKey.den} {n : Int} (h : ¬ finF (fun x : tKey.den => x.1) n l 0 < 0) : ownF l n = (l.getD (finF (fun x : tKey.den => x.1) n l 0).toNat (0, 0, 0, 0, 0, ())).2.1 := by
  unfold ownF finK
  rw [if_pos (by omega)]
theorem sucG_f {l : List tKey.den} {x : tSuccession.den} (h : (((finF (fun x : tKey.den => x.1) x.1 l 0 < 0 ∨ finF (fun x : tKey.den => x.1) x.2.1 l 0 < 0) ∨ x.1 = x.2.1) ∨ ¬ (l.getD (finF (fun x : tKey.den => x.1) x.1 l 0).toNat (0, 0, 0, 0, 0, ())).2.1 = (l.getD (finF (fun x : tKey.den => x.1) x.2.1 l 0).toNat (0, 0, 0, 0, 0, ())).2.1) ∨ inB x.2.2.1 0 10000 = false) : sucF l x = ((0, 0, 0, 0, ()), false) := by
  unfold sucF finK
  rw [if_pos]
  rw [inB_f] at h
  rcases h with (((h | h) | h) | h) | h
  · exact .inl h
  · exact .inr (.inl h)
  · exact .inr (.inr (.inl h))
  · by_cases f1 : finF (fun x : tKey.den => x.1) x.1 l 0 < 0
    · exact .inl f1
    · by_cases f2 : finF (fun x : tKey.den => x.1) x.2.1 l 0 < 0
      · exact .inr (.inl f2)
      · exact .inr (.inr (.inr (.inl (by rw [ownF_at f1, ownF_at f2]; exact h))))
  · exact .inr (.inr (.inr (.inr h)))
theorem sucG_t {l : List tKey.den} {x : tSuccession.den} (h : (((¬ finF (fun x : tKey.den => x.1) x.1 l 0 < 0 ∧ ¬ finF (fun x : tKey.den => x.1) x.2.1 l 0 < 0) ∧ ¬ x.1 = x.2.1) ∧ (l.getD (finF (fun x : tKey.den => x.1) x.1 l 0).toNat (0, 0, 0, 0, 0, ())).2.1 = (l.getD (finF (fun x : tKey.den => x.1) x.2.1 l 0).toNat (0, 0, 0, 0, 0, ())).2.1) ∧ inB x.2.2.1 0 10000 = true) : sucF l x = ((x.1, x.2.1, x.2.2.1, mwF (l.getD (finF (fun x : tKey.den => x.1) x.1 l 0).toNat (0, 0, 0, 0, 0, ())) (sucI x), ()), true) := by
  have e : (mbF l x.1 (sucI x)).1 = mwF (l.getD (finF (fun x : tKey.den => x.1) x.1 l 0).toNat (0, 0, 0, 0, 0, ())) (sucI x) := by
    unfold mbF
    rw [if_neg h.1.1.1.1]
  unfold sucF finK
  rw [if_neg, e]
  rw [inB_t] at h
  rintro (k | k | k | k | k)
  · exact h.1.1.1.1 k
  · exact h.1.1.1.2 k
  · exact h.1.1.2 k
  · exact k (by rw [ownF_at h.1.1.1.1, ownF_at h.1.1.1.2]; exact h.1.2)
  · exact k h.2
noncomputable def cksF (l : List tKey.den) (x : tSuccession.den) : Bool := (sucF l x).2 && eqC (sucF l x).1 x
noncomputable def nkF (ks : List tKey.den) (key t : Int) : List tSuccession.den → Int
  | [] => 0
  | x :: xs => if (x.1 : Int) = key ∧ (x.2.2.1 : Int) ≤ t ∧ cksF ks x = true then x.2.1 else nkF ks key t xs
def nwF (ls : List tSuccession.den) : List Int := ls.map (fun x => x.2.1)
theorem nkF_mem (ks : List tKey.den) (key t : Int) : ∀ ls, nkF ks key t ls = 0 ∨ nkF ks key t ls ∈ nwF ls
  | [] => .inl rfl
  | x :: xs => by
    unfold nkF
    split
    · exact .inr (by simp [nwF])
    · rcases nkF_mem ks key t xs with h | h
      · exact .inl h
      · exact .inr (by unfold nwF at h ⊢; rw [List.map_cons]; exact List.mem_cons_of_mem _ h)
noncomputable def klF (ks : List tKey.den) (ls : List tSuccession.den) (key t : Int) : List Int :=
  if finK ks key < 0 ∨ key = 0 then [] else lineF (fun k => nkF ks k t ls) (ls.length + 2) [] key
theorem klF_len (ks : List tKey.den) (ls : List tSuccession.den) (key t : Int) : (klF ks ls key t).length ≤ ls.length + 2 := by
  unfold klF
  split
  · exact Nat.zero_le _
  · simpa using lineF_len (fun k => nkF ks k t ls) (ls.length + 2) [] key
noncomputable def ckyF (ks : List tKey.den) (ls : List tSuccession.den) (key t : Int) : Int := (klF ks ls key t).getD ((klF ks ls key t).length - 1) 0
end Go.Proofs.Ytfkdkblbhilghaa
/- What the functions of renewals' digests answer, on both sides. It proves nothing of a statement by itself. -/
set_option linter.unusedSimpArgs false
set_option linter.unusedVariables false
set_option maxRecDepth 100000
namespace Go.Proofs.Ytfkdkblbhilghaa
open Go.AL
theorem lb1 {X Z : List Int} {y : Int} {n : Nat} (h1 : X.length ≤ 2097152) (h2 : Z.length ≤ 6291456) (hn : 100000000 ≤ n) : (X ++ y :: Z).length ≤ n := by
  simp only [List.length_append, List.length_cons]; omega
theorem lb2 {X Z W : List Int} {y : Int} {n : Nat} (h1 : X.length ≤ 2097152) (h2 : Z.length ≤ 6291456) (hw : W.length ≤ 100) (hn : 100000000 ≤ n) : (X ++ y :: Z ++ W).length ≤ n := by
  simp only [List.length_append, List.length_cons]; omega
theorem lb4 {X : List Int} {y : Int} {n : Nat} (h1 : X.length ≤ 2097152) (hn : 100000000 ≤ n) : (X ++ [y]).length ≤ n := by
  simp only [List.length_append, List.length_cons, List.length_nil]; omega
theorem lb3 {X Z : List Int} {y a b c e : Int} (h1 : X.length ≤ 2097152) (h2 : Z.length ≤ 6291456) : (a :: b :: c :: e :: (X ++ y :: Z)).length ≤ 1073741824 := by
  simp only [List.length_append, List.length_cons]; omega
end Go.Proofs.Ytfkdkblbhilghaa
/- What the functions of strands' leaves answer, on both sides. It proves nothing of a statement by itself. -/
set_option linter.unusedSimpArgs false
set_option linter.unusedVariables false
set_option maxRecDepth 100000
namespace Go.Proofs.Ytfkdkblbhilghaa
open Go.AL
theorem pTake {s : tStrand.den} (hs : Small tStrand 1048576 s) (n : Nat) : Small (.list tPiece) 1048576 (List.take n s.1) :=
  ⟨Nat.le_trans (List.length_take_le' n s.1) hs.1.1, fun x hx => hs.1.2 x (List.mem_of_mem_take hx)⟩
def laF (s : tStrand.den) (docs : List Int) (k : Int) : Int :=
  let r := List.getD s.2.1 k.toNat (0, 0, 0, [], [], ())
  if (0 ≤ k ∧ k < (List.length s.2.1 : Int)) ∧ (docs.length : Int) = (List.length s.2.1 : Int) ∧ (0 : Int) ≤ (r.1 : Int) ∧ (r.1 : Int) ≤ (List.length s.1 : Int) then
    leafF r.2.1 (docs.getD k.toNat 0) (List.take r.1.toNat s.1) (if 0 < k then rdF r.2.1 (List.getD s.2.1 (k.toNat - 1) (0, 0, 0, [], [], ())) else 0)
  else -1
end Go.Proofs.Ytfkdkblbhilghaa
/- What the functions of ordered lists and frames answer, on both sides. It proves nothing of a statement by itself. -/
set_option linter.unusedSimpArgs false
set_option linter.unusedVariables false
set_option maxRecDepth 100000
namespace Go.Proofs.Ytfkdkblbhilghaa
open Go.AL
def ltG : Option Int → Int → Bool
  | none, _ => true
  | some m, y => decide (m < y)
def areG {α : Type} (p : α → Bool) (n : α → Int) : Option Int → List α → Bool
  | _, [] => true
  | pr, x :: xs => p x && (ltG pr (n x) && areG p n (some (n x)) xs)
theorem areG_cons {α : Type} (p : α → Bool) (n : α → Int) (pr : Option Int) (x : α) (xs : List α) : areG p n pr (x :: xs) = (p x && (ltG pr (n x) && areG p n (some (n x)) xs)) := by cases pr <;> rfl
theorem areG_nil {α : Type} (p : α → Bool) (n : α → Int) (pr : Option Int) : areG p n pr [] = true := by cases pr <;> rfl
def pvG {α : Type} (n : α → Int) (df : α) (l : List α) (k : Nat) : Option Int := if (k : Int) > 0 then some (n (l.getD ((k : Int) - 1).toNat df)) else none
theorem pvG_succ {α : Type} (n : α → Int) (df : α) (l : List α) (k : Nat) : pvG n df l (k + 1) = some (n (l.getD k df)) := by
  unfold pvG
  rw [if_pos (by omega), show (((k + 1 : Nat) : Int) - 1).toNat = k by omega]
def metB (m : tMethod.den) : Bool := inB m.1 0 99 && inB m.2.1 0 10000 && inB m.2.2.1 1 10001 && inB m.2.2.2.1 1 10001 && decide (m.2.1 < m.2.2.1) && decide (m.2.1 < m.2.2.2.1)
def autB (m : tAuthority.den) : Bool := inB m.1 0 99 && inB m.2.1 1 99 && inB m.2.2.1 0 100
def frmB (f : tFrame.den) : Bool := (areG keyB (fun x => x.1) none f.1 && decide (f.1.length ≤ 12)) && (areG autB (fun x => x.1) none f.2.1 && decide (f.2.1.length ≤ 6)) && (areG metB (fun x => x.1) none f.2.2.1 && decide (f.2.2.1.length ≤ 8)) && inB f.2.2.2.1 0 6 && inB f.2.2.2.2.1 0 10000
end Go.Proofs.Ytfkdkblbhilghaa
/- What the functions of stamps, of agreed spans and of renewals answer, on both sides. It proves nothing of a statement by itself. -/
set_option linter.unusedSimpArgs false
set_option linter.unusedVariables false
set_option maxRecDepth 100000
namespace Go.Proofs.Ytfkdkblbhilghaa
open Go.AL
def finA (l : List tAuthority.den) (n : Int) : Int := finF (fun x : tAuthority.den => x.1) n l 0
def finM (l : List tMethod.den) (n : Int) : Int := finF (fun x : tMethod.den => x.1) n l 0
def stI (s : tStamp.den) : List Int := [103, s.1, s.2.1, s.2.2.1, s.2.2.2.1]
def mksF (ks : List tKey.den) (l : List tAuthority.den) (s : tStamp.den) : tStamp.den × Bool :=
  if finA l s.1 < 0 ∨ (s.2.1 : Int) < 0 ∨ ¬ (0 ≤ (s.2.2.1 : Int) ∧ (s.2.2.1 : Int) ≤ 10000) ∨ finF (fun x : tKey.den => x.1) (l.getD (finA l s.1).toNat (0, 0, 0, ())).2.1 ks 0 < 0 then ((0, 0, 0, 0, 0, ()), false)
  else ((s.1, s.2.1, s.2.2.1, s.2.2.2.1, (mbF ks (l.getD (finA l s.1).toNat (0, 0, 0, ())).2.1 (stI s)).1, ()), true)
noncomputable def cksS (ks : List tKey.den) (l : List tAuthority.den) (s : tStamp.den) : Bool := (mksF ks l s).2 && eqC (mksF ks l s).1 s
def sspF (l : List tAuthority.den) (s : tStamp.den) : tSpan.den × Bool :=
  if finA l s.1 < 0 ∨ ((l.getD (finA l s.1).toNat (0, 0, 0, ())).2.2.1 : Int) < 0 ∨ ¬ (0 ≤ (s.2.2.1 : Int) ∧ (s.2.2.1 : Int) ≤ 10000) then ((0, 0, ()), false)
  else mkF (IntKind.i64.wrap (s.2.2.1 - (l.getD (finA l s.1).toNat (0, 0, 0, ())).2.2.1)) (IntKind.i64.wrap (s.2.2.1 + (l.getD (finA l s.1).toNat (0, 0, 0, ())).2.2.1))
def skyF (l : List tAuthority.den) (s : tStamp.den) : Int := if 0 ≤ finA l s.1 then (l.getD (finA l s.1).toNat (0, 0, 0, ())).2.1 else 0
def brkF (l : List tMethod.den) (n : Int) : Int := if 0 ≤ finM l n then (l.getD (finM l n).toNat (0, 0, 0, 0, ())).2.2.2.1 else 0
theorem mks_f {ks : List tKey.den} {l : List tAuthority.den} {s : tStamp.den} (h : (finF (fun x : tAuthority.den => x.1) s.1 l 0 < 0 ∨ (s.2.1 : Int) < 0) ∨ inB s.2.2.1 0 10000 = false) : mksF ks l s = ((0, 0, 0, 0, 0, ()), false) := by
  unfold mksF finA
  rw [if_pos]
  rw [inB_f] at h
  rcases h with (h | h) | h
  · exact .inl h
  · exact .inr (.inl h)
  · exact .inr (.inr (.inl h))
theorem mks_k {ks : List tKey.den} {l : List tAuthority.den} {s : tStamp.den} (h : finF (fun x : tKey.den => x.1) (l.getD (finF (fun x : tAuthority.den => x.1) s.1 l 0).toNat (0, 0, 0, ())).2.1 ks 0 < 0) : mksF ks l s = ((0, 0, 0, 0, 0, ()), false) := by
  unfold mksF finA
  rw [if_pos (.inr (.inr (.inr h)))]
theorem mks_t {ks : List tKey.den} {l : List tAuthority.den} {s : tStamp.den} (h : (¬ finF (fun x : tAuthority.den => x.1) s.1 l 0 < 0 ∧ ¬ (s.2.1 : Int) < 0) ∧ inB s.2.2.1 0 10000 = true) (hk : ¬ finF (fun x : tKey.den => x.1) (l.getD (finF (fun x : tAuthority.den => x.1) s.1 l 0).toNat (0, 0, 0, ())).2.1 ks 0 < 0) :
    mksF ks l s = ((s.1, s.2.1, s.2.2.1, s.2.2.2.1, (mbF ks (l.getD (finF (fun x : tAuthority.den => x.1) s.1 l 0).toNat (0, 0, 0, ())).2.1 (stI s)).1, ()), true) := by
  unfold mksF finA
  rw [if_neg]
  rw [inB_t] at h
  rintro (k | k | k | k)
  · exact h.1.1 k
  · exact h.1.2 k
  · exact k h.2
  · exact hk k
theorem mks_u {ks : List tKey.den} {l : List tAuthority.den} {s : tStamp.den} (h : (¬ finF (fun x : tAuthority.den => x.1) s.1 l 0 < 0 ∧ ¬ (s.2.1 : Int) < 0) ∧ inB s.2.2.1 0 10000 = true) (hk : ¬ finF (fun x : tKey.den => x.1) (l.getD (finF (fun x : tAuthority.den => x.1) s.1 l 0).toNat (0, 0, 0, ())).2.1 ks 0 < 0) :
    mksF ks l s = ((s.1, s.2.1, s.2.2.1, s.2.2.2.1, mwF (ks.getD (finF (fun x : tKey.den => x.1) (l.getD (finF (fun x : tAuthority.den => x.1) s.1 l 0).toNat (0, 0, 0, ())).2.1 ks 0).toNat (0, 0, 0, 0, 0, ())) (stI s), ()), true) := by
  rw [mks_t h hk]
  have e : (mbF ks (l.getD (finF (fun x : tAuthority.den => x.1) s.1 l 0).toNat (0, 0, 0, ())).2.1 (stI s)).1 = mwF (ks.getD (finF (fun x : tKey.den => x.1) (l.getD (finF (fun x : tAuthority.den => x.1) s.1 l 0).toNat (0, 0, 0, ())).2.1 ks 0).toNat (0, 0, 0, 0, 0, ())) (stI s) := by
    unfold mbF
    rw [if_neg hk]
  rw [e]
theorem ssp_f {l : List tAuthority.den} {s : tStamp.den} (h : (finF (fun x : tAuthority.den => x.1) s.1 l 0 < 0 ∨ ((l.getD (finF (fun x : tAuthority.den => x.1) s.1 l 0).toNat (0, 0, 0, ())).2.2.1 : Int) < 0) ∨ inB s.2.2.1 0 10000 = false) : sspF l s = ((0, 0, ()), false) := by
  unfold sspF finA
  rw [if_pos]
  rw [inB_f] at h
  rcases h with (h | h) | h
  · exact .inl h
  · exact .inr (.inl h)
  · exact .inr (.inr h)
theorem ssp_t {l : List tAuthority.den} {s : tStamp.den} (h : (¬ finF (fun x : tAuthority.den => x.1) s.1 l 0 < 0 ∧ ¬ ((l.getD (finF (fun x : tAuthority.den => x.1) s.1 l 0).toNat (0, 0, 0, ())).2.2.1 : Int) < 0) ∧ inB s.2.2.1 0 10000 = true) :
    sspF l s = mkF (IntKind.i64.wrap (s.2.2.1 - (l.getD (finF (fun x : tAuthority.den => x.1) s.1 l 0).toNat (0, 0, 0, ())).2.2.1)) (IntKind.i64.wrap (s.2.2.1 + (l.getD (finF (fun x : tAuthority.den => x.1) s.1 l 0).toNat (0, 0, 0, ())).2.2.1)) := by
  unfold sspF finA
  rw [if_neg]
  rw [inB_t] at h
  rintro (k | k | k)
  · exact h.1.1 k
  · exact h.1.2 k
  · exact k h.2
theorem dec_not {p : Prop} [Decidable p] (h : ¬ p) : decide p = false := decide_eq_false h
def risF (l : List tStamp.den) : Bool := areG (fun _ => true) (fun x : tStamp.den => (x.1 : Int)) none l
noncomputable def stB (ks : List tKey.den) (l : List tAuthority.den) (root : Int) (s : tStamp.den) : Bool := decide ((s.2.2.2.1 : Int) = root) && cksS ks l s
theorem areG_all {α : Type} (p : α → Bool) (n : α → Int) : ∀ (l : List α) (pr : Option Int), areG p n pr l = (areG (fun _ => true) n pr l && l.all p)
  | [], pr => by rw [areG_nil, areG_nil]; rfl
  | x :: xs, pr => by
    rw [areG_cons, areG_cons, areG_all p n xs (some (n x)), List.all_cons]
    cases p x <;> cases ltG pr (n x) <;> simp
noncomputable def crF (ks : List tKey.den) (l : List tAuthority.den) (r : tRenewal.den) (leaf : Int) : Bool :=
  decide (r.2.2.2.1.length ≤ 4 ∧ List.foldl (fpStep r.2.1) leaf r.2.2.2.1 = (r.2.2.1 : Int) ∧ 1 ≤ r.2.2.2.2.1.length ∧ r.2.2.2.2.1.length ≤ 6) && areG (stB ks l r.2.2.1) (fun x : tStamp.den => (x.1 : Int)) none r.2.2.2.2.1
theorem crA_f {ks : List tKey.den} {l : List tAuthority.den} {r : tRenewal.den} {leaf : Int} (h : ((((List.length r.2.2.2.1 : Int) > 4) ∨ ¬ List.foldl (fpStep r.2.1) leaf r.2.2.2.1 = (r.2.2.1 : Int)) ∨ (¬ 1 ≤ (List.length r.2.2.2.2.1 : Int) ∨ ¬ (List.length r.2.2.2.2.1 : Int) ≤ 6)) ∨ risF r.2.2.2.2.1 = false) : false = crF ks l r leaf := by
  unfold crF
  rw [areG_all]
  rcases h with ((h | h) | h) | h
  · rw [decide_eq_false (by rintro ⟨h1, h2, h3, h4⟩; omega)]; rfl
  · rw [decide_eq_false (by rintro ⟨h1, h2, h3, h4⟩; exact h h2)]; rfl
  · rw [decide_eq_false (by rintro ⟨h1, h2, h3, h4⟩; omega)]; rfl
  · unfold risF at h
    rw [h, Bool.false_and, Bool.and_false]
theorem crA_t {ks : List tKey.den} {l : List tAuthority.den} {r : tRenewal.den} {leaf : Int} (h : ((¬ ((List.length r.2.2.2.1 : Int) > 4) ∧ List.foldl (fpStep r.2.1) leaf r.2.2.2.1 = (r.2.2.1 : Int)) ∧ (1 ≤ (List.length r.2.2.2.2.1 : Int) ∧ (List.length r.2.2.2.2.1 : Int) ≤ 6)) ∧ risF r.2.2.2.2.1 = true) : crF ks l r leaf = List.all r.2.2.2.2.1 (stB ks l r.2.2.1) := by
  unfold crF
  rw [areG_all, decide_eq_true (show _ from ⟨by have := h.1.1.1; omega, h.1.1.2, by have := h.1.2.1; omega, by have := h.1.2.2; omega⟩), Bool.true_and]
  have := h.2
  unfold risF at this
  rw [this, Bool.true_and]
theorem crB_f {ks : List tKey.den} {l : List tAuthority.den} {r : tRenewal.den} {leaf : Int} (h : (((List.length r.2.2.2.1 : Int) > 4) ∨ ¬ List.foldl (fpStep r.2.1) leaf r.2.2.2.1 = (r.2.2.1 : Int)) ∨ (¬ 1 ≤ (List.length r.2.2.2.2.1 : Int) ∨ ¬ (List.length r.2.2.2.2.1 : Int) ≤ 6)) : false = crF ks l r leaf := crA_f (.inl h)
theorem crB_t {ks : List tKey.den} {l : List tAuthority.den} {r : tRenewal.den} {leaf : Int} (h : (¬ ((List.length r.2.2.2.1 : Int) > 4) ∧ List.foldl (fpStep r.2.1) leaf r.2.2.2.1 = (r.2.2.1 : Int)) ∧ (1 ≤ (List.length r.2.2.2.2.1 : Int) ∧ (List.length r.2.2.2.2.1 : Int) ≤ 6)) : crF ks l r leaf = areG (stB ks l r.2.2.1) (fun x : tStamp.den => (x.1 : Int)) none r.2.2.2.2.1 := by
  unfold crF
  rw [decide_eq_true (show _ from ⟨by have := h.1.1; omega, h.1.2, by have := h.2.1; omega, by have := h.2.2; omega⟩), Bool.true_and]
theorem stB_f {ks : List tKey.den} {l : List tAuthority.den} {root : Int} {s : tStamp.den} (he : ¬ (s.2.2.2.1 : Int) = root ∨ cksS ks l s = false) : stB ks l root s = false := by
  unfold stB
  rcases he with he | he
  · rw [decide_eq_false he, Bool.false_and]
  · rw [he, Bool.and_false]
theorem stB_t {ks : List tKey.den} {l : List tAuthority.den} {root : Int} {s : tStamp.den} (he : (s.2.2.2.1 : Int) = root ∧ cksS ks l s = true) : stB ks l root s = true := by
  unfold stB
  rw [decide_eq_true he.1, he.2]
  rfl
end Go.Proofs.Ytfkdkblbhilghaa
/- What draws of stamps, mandates and pieces answer. It proves nothing of a statement by itself. -/
set_option linter.unusedSimpArgs false
set_option linter.unusedVariables false
set_option maxRecDepth 100000
namespace Go.Proofs.Ytfkdkblbhilghaa
open Go.AL
def A4 : List tAuthority.den := [(1, 31, 1, ()), (2, 32, 2, ()), (3, 33, 1, ()), (4, 34, 0, ())]
def isM (x : tMandate.den) : Bool := inB x.1 1 99 && inB x.2.1 0 99 && inB x.2.2.2.2.1 1 99 && spB (x.2.2.1, x.2.2.2.1, ())
def mmF (ks : List tKey.den) (x : tMandate.den) : tMandate.den × Bool := if isM x = false ∨ fnK ks x.2.2.2.2.1 < 0 then (tMandate.dflt, false) else ((x.1, x.2.1, x.2.2.1, x.2.2.2.1, x.2.2.2.2.1, mwF (ks.getD (fnK ks x.2.2.2.2.1).toNat tKey.dflt) [105, x.1, x.2.1, x.2.2.1, x.2.2.2.1, x.2.2.2.2.1], ()), true)
theorem mmF_y {ks : List tKey.den} {x : tMandate.den} (h : isM x = false ∨ fnK ks x.2.2.2.2.1 < 0) : mmF ks x = (tMandate.dflt, false) := if_pos h
theorem mmF_n {ks : List tKey.den} {x : tMandate.den} (h : isM x = true ∧ ¬ fnK ks x.2.2.2.2.1 < 0) : mmF ks x = ((x.1, x.2.1, x.2.2.1, x.2.2.2.1, x.2.2.2.2.1, mwF (ks.getD (fnK ks x.2.2.2.2.1).toNat tKey.dflt) [105, x.1, x.2.1, x.2.2.1, x.2.2.2.1, x.2.2.2.2.1], ()), true) := if_neg (by simp only [not_or, Bool.not_eq_false]; exact h)
def d11 (s : Cu) : tStamp.den × Cu :=
  let a := dB s 4
  let q := dB a.2 9
  let t := dB q.2 60
  let e := dB t.2 99
  ((mksF K8 A4 (IntKind.i64.wrap (1 + a.1), q.1, t.1, e.1, 0, ())).1, e.2)
def d11B (s : Cu) : tStamp.den × Cu :=
  let x := d11 s
  let k := dB x.2 9
  if k.1 = 0 then (setF tStamp x.1 0 (dB k.2 6).1, (dB k.2 6).2)
  else if k.1 = 1 then (setF tStamp x.1 1 (dI k.2 [-1, 3]).1, (dI k.2 [-1, 3]).2)
  else if k.1 = 2 then (setF tStamp x.1 2 (dR k.2).1, (dR k.2).2)
  else if k.1 = 3 then (setF tStamp x.1 3 (IntKind.i64.wrap (x.1.2.2.2.1 + 1)), k.2)
  else if k.1 = 4 then (setF tStamp x.1 4 (IntKind.i64.wrap (x.1.2.2.2.2.1 + 1)), k.2)
  else (x.1, k.2)
def d15 (s : Cu) : tMandate.den × Cu :=
  let f := dB s 40
  let p := dB f.2 2
  let t := dB p.2 30
  ((mmF K8 (50, IntKind.i64.wrap (1 + p.1), f.1, IntKind.i64.wrap (f.1 + t.1), 21, 0, ())).1, t.2)
def d15A (s : Cu) : tMandate.den × Cu :=
  let x := d15 s
  let k := dB x.2 9
  if k.1 = 0 then (setF tMandate x.1 0 (dI k.2 [0, 51, 100]).1, (dI k.2 [0, 51, 100]).2)
  else if k.1 = 1 then (setF tMandate x.1 1 (dI k.2 [-1, 2, 100]).1, (dI k.2 [-1, 2, 100]).2)
  else if k.1 = 2 then (setF tMandate x.1 3 (dR k.2).1, (dR k.2).2)
  else if k.1 = 3 then (setF tMandate x.1 4 (dN k.2).1, (dN k.2).2)
  else if k.1 = 4 then (setF tMandate x.1 5 (IntKind.i64.wrap (x.1.2.2.2.2.2.1 + 1)), k.2)
  else (x.1, k.2)
def d18D (s : Cu) : tPiece.den × Cu :=
  let k := dB s 5
  if k.1 = 0 then
    let j := dB k.2 3
    let x := C3.getD j.1.toNat tCert.dflt
    ((x.2.2.2.2.2.1, certI x, x.2.2.2.2.2.2.1, ()), j.2)
  else if k.1 = 1 then
    let x := d10D k.2
    ((x.1.2.2.2.1, [102, x.1.1, x.1.2.1, x.1.2.2.1, x.1.2.2.2.1], x.1.2.2.2.2.1, ()), x.2)
  else if k.1 = 2 then
    let x := d11 k.2
    ((skyF A4 x.1, [103, x.1.1, x.1.2.1, x.1.2.2.1, x.1.2.2.2.1], x.1.2.2.2.2.1, ()), x.2)
  else if k.1 = 3 then
    let x := d13 k.2
    ((x.1.1.1, [104, x.1.1.1, x.1.1.2.1, x.1.1.2.2.1, x.1.1.2.2.2.1, x.1.1.2.2.2.2.1, x.1.1.2.2.2.2.2.1, x.1.1.2.2.2.2.2.2.1, x.1.1.2.2.2.2.2.2.2.1], x.1.1.2.2.2.2.2.2.2.2.1, ()), x.2)
  else
    let x := d15 k.2
    ((x.1.2.2.2.2.1, [105, x.1.1, x.1.2.1, x.1.2.2.1, x.1.2.2.2.1, x.1.2.2.2.2.1], x.1.2.2.2.2.2.1, ()), x.2)
theorem d18D_len (s : Cu) : 5 ≤ (d18D s).1.2.1.length ∧ (d18D s).1.2.1.length ≤ 9 := by
  unfold d18D
  simp only
  repeat' split
  all_goals (simp only [List.length_cons, List.length_nil, certI]; omega)
def d18 (s : Cu) : tPiece.den × Cu :=
  let p := d18D s
  let k := dB p.2 8
  if k.1 = 0 then (((dN k.2).1, p.1.2.1, p.1.2.2.1, ()), (dN k.2).2)
  else if k.1 = 1 then ((p.1.1, p.1.2.1 ++ [5], p.1.2.2.1, ()), k.2)
  else if k.1 = 2 then ((p.1.1, p.1.2.1, IntKind.i64.wrap (p.1.2.2.1 + 1), ()), k.2)
  else if k.1 = 3 then ((p.1.1, p.1.2.1.set 0 (dI k.2 [100, 101, 103, 105, 106, -1]).1, p.1.2.2.1, ()), (dI k.2 [100, 101, 103, 105, 106, -1]).2)
  else if k.1 = 4 then ((p.1.1, p.1.2.1.set 1 (IntKind.i64.wrap (p.1.2.1.getD 1 0 + 1)), p.1.2.2.1, ()), k.2)
  else (p.1, k.2)
end Go.Proofs.Ytfkdkblbhilghaa
/- What draws of lists of keys, authorities and methods answer, and pieces copied and bent. It proves nothing of a statement by itself. -/
set_option linter.unusedSimpArgs false
set_option linter.unusedVariables false
set_option maxRecDepth 100000
namespace Go.Proofs.Ytfkdkblbhilghaa
open Go.AL
def M4 : List tMethod.den := [(1, 0, 40, 50, ()), (2, 20, 80, 70, ()), (3, 40, 120, 200, ()), (4, 60, 10001, 10001, ())]
def d8A (s : Cu) : List tKey.den × Cu :=
  let j := dB s 10
  let k := dB j.2 9
  if k.1 = 0 then (K8.set j.1.toNat (setF tKey (K8.getD j.1.toNat tKey.dflt) 0 (dI k.2 [0, 1, 50, 99, 100]).1), (dI k.2 [0, 1, 50, 99, 100]).2)
  else if k.1 = 1 then (K8.set j.1.toNat (setF tKey (K8.getD j.1.toNat tKey.dflt) 1 (dI k.2 [-1, 5, 100]).1), (dI k.2 [-1, 5, 100]).2)
  else if k.1 = 2 then (K8.set j.1.toNat (setF tKey (K8.getD j.1.toNat tKey.dflt) 4 (dI k.2 [0, 777]).1), (dI k.2 [0, 777]).2)
  else if k.1 = 3 then (K8.set j.1.toNat (setF tKey (K8.getD j.1.toNat tKey.dflt) 3 (dR k.2).1), (dR k.2).2)
  else if k.1 = 4 then (K8.set j.1.toNat (setF tKey (K8.getD j.1.toNat tKey.dflt) 2 (dI k.2 [-1, 0, 99, 100]).1), (dI k.2 [-1, 0, 99, 100]).2)
  else (K8, k.2)
def d11A (s : Cu) : List tAuthority.den × Cu :=
  let j := dB s 4
  let k := dB j.2 8
  if k.1 = 0 then (A4.set j.1.toNat (setF tAuthority (A4.getD j.1.toNat tAuthority.dflt) 0 (dI k.2 [-1, 2, 99, 100]).1), (dI k.2 [-1, 2, 99, 100]).2)
  else if k.1 = 1 then (A4.set j.1.toNat (setF tAuthority (A4.getD j.1.toNat tAuthority.dflt) 1 (dN k.2).1), (dN k.2).2)
  else if k.1 = 2 then (A4.set j.1.toNat (setF tAuthority (A4.getD j.1.toNat tAuthority.dflt) 2 (dI k.2 [-1, 100, 101, 9223372036854775807]).1), (dI k.2 [-1, 100, 101, 9223372036854775807]).2)
  else (A4, k.2)
def d5A (s : Cu) : List tMethod.den × Cu :=
  let j := dB s 4
  let k := dB j.2 9
  if k.1 = 0 then (M4.set j.1.toNat (setF tMethod (M4.getD j.1.toNat tMethod.dflt) 0 (dI k.2 [-1, 0, 1, 99, 100]).1), (dI k.2 [-1, 0, 1, 99, 100]).2)
  else if k.1 = 1 then (M4.set j.1.toNat (setF tMethod (M4.getD j.1.toNat tMethod.dflt) 1 (dR k.2).1), (dR k.2).2)
  else if k.1 = 2 then (M4.set j.1.toNat (setF tMethod (M4.getD j.1.toNat tMethod.dflt) 2 (dI k.2 [0, 1, 45, 10001, 10002]).1), (dI k.2 [0, 1, 45, 10001, 10002]).2)
  else if k.1 = 3 then (M4.set j.1.toNat (setF tMethod (M4.getD j.1.toNat tMethod.dflt) 3 (dI k.2 [0, 1, 45, 10001, 10002]).1), (dI k.2 [0, 1, 45, 10001, 10002]).2)
  else if k.1 = 4 then (M4.take j.1.toNat, k.2)
  else (M4, k.2)
theorem l18Copy_ok (p : tPiece.den) (hp : p.2.1.length ≤ 1048576) : FunOK Try.prog 73 [⟨tPiece, p⟩] (.agg [.rd I p.1, .own 3 I p.2.1, .rd I p.2.2.1]) := by
  refine fun_of (tb := tb) follows Try.func73 (by kernel_rfl) Try.ntmps73 rfl rfl rfl ?_; intro cx hN hw
  simp (disch := exact eqId (by kernel_rfl)) only [go_sem, ↓reduceIte, Nat.reduceAdd, Nat.reduceMul, Nat.reduceLT, Nat.reduceBEq, Nat.reduceLeDiff, Nat.reduceEqDiff, Int.reduceToNat]
  repeat' (first | (refine And.intro ?_ ?_) | intro _)
  all_goals (try omega)
theorem d18_len (s : Cu) : 5 ≤ (d18 s).1.2.1.length ∧ (d18 s).1.2.1.length ≤ 10 := by
  have hl := d18D_len s
  unfold d18
  simp only
  repeat' split
  all_goals (simp only [List.length_append, List.length_set, List.length_cons, List.length_nil]; omega)
end Go.Proofs.Ytfkdkblbhilghaa
/- What the functions of paths in trees answer, on both sides. It proves nothing of a statement by itself. -/
set_option linter.unusedSimpArgs false
set_option linter.unusedVariables false
set_option maxRecDepth 100000
namespace Go.Proofs.Ytfkdkblbhilghaa
open Go.AL
def stepR (l : List Int) (j : Nat) : List tStep.den := if j % 2 = 1 then [(l.getD (j - 1) 0, true, ())] else if j + 1 < l.length then [(l.getD (j + 1) 0, false, ())] else []
def pathR (m : Int) (l : List Int) (j : Nat) : List tStep.den := if h : l.length ≤ 1 then [] else stepR l j ++ pathR m (upF m l) (j / 2)
termination_by l.length
decreasing_by have := upF_len m l; omega
theorem pathR_step (m : Int) (h : List Int) (j : Nat) (hh : 1 < h.length) : pathR m h j = stepR h j ++ pathR m (upF m h) (j / 2) := by
  conv => lhs; unfold pathR
  rw [dif_neg (by omega)]
def pathF (m : Int) (l : List Int) (i : Int) : List tStep.den := if (0 ≤ i ∧ i < (l.length : Int)) ∧ l.length ≤ 16 then pathR m l i.toNat else []
end Go.Proofs.Ytfkdkblbhilghaa
/- Plain maths of trees: a leaf leads to the root by its path, the next number does not. It proves nothing of a statement by itself. -/
set_option linter.unusedSimpArgs false
set_option linter.unusedVariables false
namespace Go.Proofs.Ytfkdkblbhilghaa
open Go.AL
theorem tmod_eq (n : Int) : ∃ q, n = 2147483647 * q + n.tmod 2147483647 ∧ (0 ≤ n → 0 ≤ n.tmod 2147483647) ∧ (n ≤ 0 → n.tmod 2147483647 ≤ 0) ∧ -2147483647 < n.tmod 2147483647 ∧ n.tmod 2147483647 < 2147483647 := by
  refine ⟨n.tdiv 2147483647, (Int.mul_tdiv_add_tmod n 2147483647).symm, fun h => Int.tmod_nonneg _ h, fun h => ?_, ?_, Int.tmod_lt_of_pos n (by decide)⟩
  · have := Int.tmod_nonneg (a := -n) 2147483647 (by omega)
    rw [Int.neg_tmod] at this
    omega
  · have := Int.tmod_lt_of_pos (-n) (b := 2147483647) (by decide)
    rw [Int.neg_tmod] at this
    omega
theorem tmod_pos {n : Int} (h : 0 ≤ n) : n.tmod 2147483647 = n % 2147483647 := Int.tmod_eq_emod_of_nonneg h
theorem modF_eq (v : Int) : modF v 2147483647 = v % 2147483647 := by
  obtain ⟨q, h1, h2, h3, h4, h5⟩ := tmod_eq v
  unfold modF
  rw [if_pos (by decide), wrap_i64 (by omega) (by omega), tmod_pos (by omega)]
  omega
theorem step_eq {h v : Int} (h0 : 0 ≤ h) (h1 : h < 2147483647) : hashStep h v = (h * 1000003 + v % 2147483647 + 13) % 2147483647 := by
  have := Int.emod_nonneg v (b := 2147483647) (by decide)
  have := Int.emod_lt_of_pos v (b := 2147483647) (by decide)
  unfold hashStep
  rw [modF_eq, wrap_i64 (n := h * 1000003) (by omega) (by omega), wrap_i64 (n := h * 1000003 + v % 2147483647) (by omega) (by omega), wrap_i64 (by omega) (by omega), tmod_pos (by omega)]
theorem step_in {h v : Int} (h0 : 0 ≤ h) (h1 : h < 2147483647) : 0 ≤ hashStep h v ∧ hashStep h v < 2147483647 := by
  rw [step_eq h0 h1]; omega
theorem inv0 {d k : Int} (h : 1000003 * d = 2147483647 * k) (h1 : -2147483647 < d) (h2 : d < 2147483647) : d = 0 := by
  have e : d = 2147483647 * (1523789695 * k - 709572 * d) := by
    have e1 : 1523789695 * (1000003 * d) = 1523789695 * (2147483647 * k) := by rw [h]
    omega
  generalize 1523789695 * k - 709572 * d = z at e
  omega
theorem em_sub {X Y p : Int} (e : X % p = Y % p) : ∃ k, X - Y = p * k := by
  refine ⟨X / p - Y / p, ?_⟩
  have e1 := Int.mul_ediv_add_emod X p
  have e2 := Int.mul_ediv_add_emod Y p
  rw [Int.mul_sub]
  omega
theorem step_inj {h g v : Int} (h0 : 0 ≤ h) (h1 : h < 2147483647) (g0 : 0 ≤ g) (g1 : g < 2147483647) (e : hashStep h v = hashStep g v) : h = g := by
  rw [step_eq h0 h1, step_eq g0 g1] at e
  have b1 : -2147483647 < h - g := by clear e; omega
  have b2 : h - g < 2147483647 := by clear e; omega
  obtain ⟨k, hk⟩ := em_sub e
  clear e
  generalize v % 2147483647 = c at hk
  have e4 : 1000003 * (h - g) = 2147483647 * k := by
    rw [← hk]
    omega
  have := inv0 e4 b1 b2
  clear hk e4
  omega
theorem step_ne {h v u : Int} (h0 : 0 ≤ h) (h1 : h < 2147483647) (e : hashStep h v = hashStep h u) : v % 2147483647 = u % 2147483647 := by
  rw [step_eq h0 h1, step_eq h0 h1] at e
  omega
theorem fold_in : ∀ (l : List Int) (h : Int), 0 ≤ h → h < 2147483647 → 0 ≤ l.foldl hashStep h ∧ l.foldl hashStep h < 2147483647
  | [], h, h0, h1 => ⟨h0, h1⟩
  | v :: l, h, h0, h1 => fold_in l _ (step_in h0 h1).1 (step_in h0 h1).2
theorem fold_inj : ∀ (l : List Int) (h g : Int), 0 ≤ h → h < 2147483647 → 0 ≤ g → g < 2147483647 → l.foldl hashStep h = l.foldl hashStep g → h = g
  | [], h, g, _, _, _, _, e => e
  | v :: l, h, g, h0, h1, g0, g1, e => step_inj h0 h1 g0 g1 (fold_inj l _ _ (step_in h0 h1).1 (step_in h0 h1).2 (step_in g0 g1).1 (step_in g0 g1).2 e)
theorem hash_ne (a c : List Int) (v u : Int) (h : v % 2147483647 ≠ u % 2147483647) : hashF (a ++ v :: c) ≠ hashF (a ++ u :: c) := by
  intro e
  unfold hashF at e
  rw [List.foldl_append, List.foldl_append, List.foldl_cons, List.foldl_cons] at e
  obtain ⟨h0, h1⟩ := fold_in a 11 (by decide) (by decide)
  exact h (step_ne h0 h1 (fold_inj c _ _ (step_in h0 h1).1 (step_in h0 h1).2 (step_in h0 h1).1 (step_in h0 h1).2 e))
theorem hash_in (l : List Int) : 0 ≤ hashF l ∧ hashF l < 2147483647 := fold_in l 11 (by decide) (by decide)
theorem next_ne {v : Int} (h1 : -9223372036854775808 ≤ v) (h2 : v ≤ 9223372036854775807) : v % 2147483647 ≠ IntKind.i64.wrap (v + 1) % 2147483647 := by
  by_cases h : v = 9223372036854775807
  · subst h; decide
  · rw [wrap_i64 (by omega) (by omega)]; omega
theorem up_get (m : Int) : ∀ (l : List Int) (i : Nat), (upF m l).getD i 0 = if 2 * i + 1 < l.length then pairF m (l.getD (2 * i) 0) (l.getD (2 * i + 1) 0) else l.getD (2 * i) 0
  | [], i => by simp [upF]
  | [x], i => by
    cases i with
    | zero => simp [upF]
    | succ i => simp [upF]
  | a :: b :: r, i => by
    cases i with
    | zero => simp [upF]
    | succ i =>
      have ih := up_get m r i
      simp only [upF, List.length_cons, List.getD_cons_succ, show 2 * (i + 1) = 2 * i + 1 + 1 by omega] at ih ⊢
      rw [ih]
      by_cases h : 2 * i + 1 < r.length
      · rw [if_pos h, if_pos (by omega)]
      · rw [if_neg h, if_neg (by omega)]
theorem up_step (m : Int) (l : List Int) (j : Nat) (hj : j < l.length) : (stepR l j).foldl (fpStep m) (l.getD j 0) = (upF m l).getD (j / 2) 0 := by
  rw [up_get]
  unfold stepR
  by_cases h : j % 2 = 1
  · rw [if_pos h, if_pos (by omega), show 2 * (j / 2) = j - 1 by omega, show j - 1 + 1 = j by omega, List.foldl_cons, List.foldl_nil, fpStep]
    exact if_pos rfl
  · rw [if_neg h]
    by_cases h2 : j + 1 < l.length
    · rw [if_pos h2, if_pos (by omega), show 2 * (j / 2) = j by omega, List.foldl_cons, List.foldl_nil, fpStep]
      exact if_neg (by simp)
    · rw [if_neg h2, if_neg (by omega), show 2 * (j / 2) = j by omega, List.foldl_nil]
theorem follow_top (m : Int) : ∀ (n : Nat) (l : List Int) (j : Nat), l.length ≤ n → j < l.length → (pathR m l j).foldl (fpStep m) (l.getD j 0) = (topR m l).getD 0 0
  | 0, l, j, h, hj => by omega
  | n + 1, l, j, h, hj => by
    by_cases h1 : l.length ≤ 1
    · unfold pathR topR
      rw [dif_pos h1, dif_pos h1, show j = 0 by omega]
      rfl
    · have u1 := upF_len m l
      have u2 := upF_len2 m l
      rw [pathR_step m l j (by omega), List.foldl_append, up_step m l j hj, follow_top m n (upF m l) (j / 2) (by omega) (by omega)]
      conv => rhs; unfold topR
      rw [dif_neg h1]
theorem path_pow (m : Int) : ∀ (k : Nat) (l : List Int) (j : Nat), l.length ≤ 2 ^ k → (pathR m l j).length ≤ k
  | 0, l, j, h => by
    unfold pathR
    rw [dif_pos (by simpa using h)]
    exact Nat.le_refl _
  | k + 1, l, j, h => by
    by_cases h1 : l.length ≤ 1
    · unfold pathR
      rw [dif_pos h1]
      exact Nat.zero_le _
    · have u1 := upF_len m l
      have hs : (stepR l j).length ≤ 1 := by
        unfold stepR
        repeat' split
        all_goals simp
      have := path_pow m k (upF m l) (j / 2) (by rw [Nat.pow_succ] at h; omega)
      rw [pathR_step m l j (by omega), List.length_append]
      omega
def lev (n : Int) : Int := if n < 1 ∨ 16 < n then 0 else if n ≤ 1 then 0 else if n ≤ 2 then 1 else if n ≤ 4 then 2 else if n ≤ 8 then 3 else 4
def levJ (n : Int) (d : Int × Int) : Prop := (d.1 = 0 ∧ d.2 = 1) ∨ (d.1 = 1 ∧ d.2 = 2 ∧ 1 < n) ∨ (d.1 = 2 ∧ d.2 = 4 ∧ 2 < n) ∨ (d.1 = 3 ∧ d.2 = 8 ∧ 4 < n) ∨ (d.1 = 4 ∧ d.2 = 16 ∧ 8 < n)
theorem pair_ne {m a x y : Int} (h : x % 2147483647 ≠ y % 2147483647) : pairF m a x % 2147483647 ≠ pairF m a y % 2147483647 ∧ pairF m x a % 2147483647 ≠ pairF m y a % 2147483647 := by
  have e : ∀ l, hashF l % 2147483647 = hashF l := fun l => Int.emod_eq_of_lt (hash_in l).1 (hash_in l).2
  unfold pairF digF
  rw [e, e, e, e]
  exact ⟨hash_ne [7, m, 1, a] [] x y h, hash_ne [7, m, 1] [a] x y h⟩
theorem fold_ne (m : Int) : ∀ (l : List tStep.den) (x y : Int), x % 2147483647 ≠ y % 2147483647 → l.foldl (fpStep m) x % 2147483647 ≠ l.foldl (fpStep m) y % 2147483647
  | [], x, y, h => h
  | s :: l, x, y, h => by
    refine fold_ne m l _ _ ?_
    unfold fpStep
    cases s.2.1
    · exact (pair_ne (a := s.1) h).2
    · exact (pair_ne (a := s.1) h).1
theorem lev_pow {n : Nat} (h0 : 1 ≤ n) (h : n ≤ 16) : ∃ k : Nat, lev (n : Int) = (k : Int) ∧ k ≤ 4 ∧ n ≤ 2 ^ k ∧ (k = 0 ∨ 2 ^ k / 2 < n) := by
  have hc : ∀ n : Nat, n ≤ 16 → 1 ≤ n → ∃ k : Nat, k ≤ 4 ∧ lev (n : Int) = (k : Int) ∧ n ≤ 2 ^ k ∧ (k = 0 ∨ 2 ^ k / 2 < n) := by decide
  obtain ⟨k, h1, h2, h3, h4⟩ := hc n h h0
  exact ⟨k, h2, h1, h3, h4⟩
theorem tree_ok {m : Int} {l : List Int} {i : Int} (h0 : 0 ≤ i) (h1 : i < (l.length : Int)) (h2 : l.length ≤ 16) (hv : -9223372036854775808 ≤ l.getD i.toNat 0 ∧ l.getD i.toNat 0 ≤ 9223372036854775807) :
    (pathF m l i).foldl (fpStep m) (l.getD i.toNat 0) = rootF m l ∧ ¬ (pathF m l i).foldl (fpStep m) (IntKind.i64.wrap (l.getD i.toNat 0 + 1)) = rootF m l ∧ ∃ k : Nat, lev (l.length : Int) = (k : Int) ∧ k ≤ 4 ∧ (pathF m l i).length ≤ k ∧ l.length ≤ 2 ^ k ∧ (k = 0 ∨ 2 ^ k / 2 < l.length) := by
  have hp : pathF m l i = pathR m l i.toNat := by unfold pathF; exact if_pos ⟨⟨h0, h1⟩, h2⟩
  have hr : rootF m l = (topR m l).getD 0 0 := by unfold rootF; exact if_pos ⟨by omega, h2⟩
  have hf := follow_top m l.length l i.toNat (Nat.le_refl _) (by omega)
  obtain ⟨k, k1, k2, k3, k4⟩ := lev_pow (n := l.length) (by omega) h2
  rw [hp, hr]
  refine ⟨hf, fun e => ?_, k, k1, k2, path_pow m k l _ k3, k3, k4⟩
  rw [← hf] at e
  exact fold_ne m _ _ _ (next_ne hv.1 hv.2) (by rw [e])
theorem path_no {m : Int} {l : List Int} {i : Int} (h : (i < 0 ∨ i ≥ (l.length : Int)) ∨ (l.length : Int) > 16) : (pathF m l i).length = 0 := by
  unfold pathF
  rw [if_neg (by omega)]
  rfl
end Go.Proofs.Ytfkdkblbhilghaa
/- What draws of renewals answer. It proves nothing of a statement by itself. -/
set_option linter.unusedSimpArgs false
set_option linter.unusedVariables false
set_option maxRecDepth 100000
namespace Go.Proofs.Ytfkdkblbhilghaa
open Go.AL
def d99 (s : Cu) : Int × Cu := dB s 99
def d17 (s : Cu) (n : Int) : List Int × Cu := rep d99 (dB s n).1.toNat (dB s n).2
theorem d17_len (s : Cu) {n : Int} (hn : 1 ≤ n) : ((d17 s n).1.length : Int) < n := by
  have := dB_in s hn
  unfold d17
  rw [rep_len]
  omega
theorem take_flat {α β : Type} (f : α → List β) {l : List α} {k : Nat} (hk : k < l.length) (x : α) : (l.take (k + 1)).flatMap f = (l.take k).flatMap f ++ f (l.getD k x) := by
  rw [List.take_succ_eq_append_getElem hk, List.flatMap_append, List.flatMap_cons, List.flatMap_nil, List.append_nil, List.getD_eq_getElem?_getD, List.getElem?_eq_getElem hk]
  rfl
def mkT (ks : List tKey.den) (l : List tAuthority.den) (q tm root i : Int) : List tStamp.den := if (mksF ks l (i, q, tm, root, 0, ())).2 = true then [(mksF ks l (i, q, tm, root, 0, ())).1] else []
def mkR (ks : List tKey.den) (l : List tAuthority.den) (m leaf : Int) (ot : List Int) (ct : Int) (ids : List Int) (q tm : Int) : tRenewal.den :=
  (ct, m, rootF m (ot ++ [leaf]), pathF m (ot ++ [leaf]) (IntKind.i64.wrap (((ot ++ [leaf]).length : Int) - 1)), ids.flatMap (mkT ks l q tm (rootF m (ot ++ [leaf]))), ())
theorem mkT_len (ks : List tKey.den) (l : List tAuthority.den) (q tm root i : Int) : (mkT ks l q tm root i).length ≤ 1 := by
  unfold mkT
  split <;> simp
theorem mkT_all (ks : List tKey.den) (l : List tAuthority.den) (q tm root : Int) : ∀ (ids : List Int), (ids.flatMap (mkT ks l q tm root)).length ≤ ids.length
  | [] => by simp
  | i :: ids => by
    have h1 := mkT_len ks l q tm root i
    have h2 := mkT_all ks l q tm root ids
    rw [List.flatMap_cons, List.length_append, List.length_cons]
    omega
theorem path_len (m : Int) (l : List Int) (i : Int) : (pathF m l i).length ≤ 1000 := by
  unfold pathF
  split
  · rename_i h
    have := path_pow m 4 l i.toNat (Nat.le_trans h.2 (by decide))
    omega
  · simp
def d19 (s : Cu) (leaf ct tm : Int) : tRenewal.den × Cu :=
  let a := dB s 4
  let m := dB a.2 4
  let t := d17 m.2 4
  let q := dB t.2 9
  (mkR K8 A4 (IntKind.i64.wrap (1 + m.1)) leaf t.1 ct (([1, 2, 3, 4] : List Int).take (IntKind.i64.wrap (1 + a.1)).toNat) q.1 tm, q.2)
def d19B (s : Cu) (r : tRenewal.den) : tRenewal.den × Cu :=
  let k := dB s 10
  if k.1 = 0 then (setF tRenewal r 2 (IntKind.i64.wrap (r.2.2.1 + 1)), k.2)
  else if k.1 = 1 then (setF tRenewal r 1 (dB k.2 6).1, (dB k.2 6).2)
  else if k.1 = 2 then (setF tRenewal r 0 (dI k.2 [-1, 0, 3]).1, (dI k.2 [-1, 0, 3]).2)
  else if k.1 = 3 then (setF tRenewal r 3 (r.2.2.2.1 ++ [(1, false, ())]), k.2)
  else if k.1 = 4 then (setF tRenewal r 4 (r.2.2.2.2.1 ++ [(d11B k.2).1]), (d11B k.2).2)
  else if k.1 = 5 then (if (r.2.2.2.2.1.length : Int) > 0 then (setF tRenewal r 4 (r.2.2.2.2.1.set 0 (setF tStamp (r.2.2.2.2.1.getD 0 tStamp.dflt) 2 (dR k.2).1)), (dR k.2).2) else (r, k.2))
  else (r, k.2)
theorem l19Copy_ok (r : tRenewal.den) (h1 : r.2.2.2.1.length ≤ 1048576) (h2 : r.2.2.2.2.1.length ≤ 1048576) : FunOK Try.prog 82 [⟨tRenewal, r⟩] (.agg [.rd I r.1, .rd I r.2.1, .rd I r.2.2.1, .own 151 tStep r.2.2.2.1, .own 155 tStamp r.2.2.2.2.1]) := by
  refine fun_of (tb := tb) follows Try.func82 (by kernel_rfl) Try.ntmps82 rfl rfl rfl ?_; intro cx hN hw
  simp (disch := exact eqId (by kernel_rfl)) only [go_sem, ↓reduceIte, Nat.reduceAdd, Nat.reduceMul, Nat.reduceLT, Nat.reduceBEq, Nat.reduceLeDiff, Nat.reduceEqDiff, Int.reduceToNat]
  repeat' (first | (refine And.intro ?_ ?_) | intro _)
  all_goals (try omega)
theorem l19Copy_fr (r : tRenewal.den) (h1 : r.2.2.2.1.length ≤ 1048576) (h2 : r.2.2.2.2.1.length ≤ 1048576) : FunOK Try.prog 82 [⟨tRenewal, r⟩] (.agg [.rd I r.1, .rd I r.2.1, .rd I r.2.2.1, .fresh 151 tStep r.2.2.2.1, .fresh 155 tStamp r.2.2.2.2.1]) := (l19Copy_ok r h1 h2).fr rfl
end Go.Proofs.Ytfkdkblbhilghaa
/- What the functions of strands and evidence answer, on both sides. It proves nothing of a statement by itself. -/
set_option linter.unusedSimpArgs false
set_option linter.unusedVariables false
set_option maxRecDepth 100000
namespace Go.Proofs.Ytfkdkblbhilghaa
open Go.AL
theorem impl_equalPieceLists_ok (a b : List (tPiece : Ty).den) : FunOK Try.prog 141 [⟨(.list tPiece), a⟩, ⟨(.list tPiece), b⟩] (.rd .bool (eqC a b)) := by
  refine fun_of (tb := tb) follows Try.func141 (by kernel_rfl) Try.ntmps141 rfl rfl rfl ?_; intro cx hN hw
  simp (disch := exact eqId (by kernel_rfl)) only [go_sem, ↓reduceIte, Nat.reduceAdd, Nat.reduceMul, Nat.reduceLT, Nat.reduceBEq, Nat.reduceLeDiff, Nat.reduceEqDiff, Int.reduceToNat]
  repeat' (first | (refine And.intro ?_ ?_) | intro _)
  all_goals (try omega)
  · refine Eq.symm (eqC_f.mpr ?_); rintro rfl; simp_all
  · have hl : a.length = b.length := by omega
    refine loop_intro (tb := tb) follows hN (D := Nat) (fun d => shp [(0, .rd (.list tPiece) (a)), (1, .rd (.list tPiece) (b)), (12, .rd I (((a).length : Int) : Int)), (13, .rd I (d : Int))] []) (fun d => d ≤ a.length ∧ a.take d = b.take d) (fun d => a.length - d) (0) ?_ (sub_shp hN [] ?_) (fun d hd => ?_)
    · exact ⟨Nat.zero_le _, rfl⟩
    · simp (disch := exact eqId (by kernel_rfl)) only [go_sem, ↓reduceIte, Nat.reduceAdd, Nat.reduceMul, Nat.reduceLT, Nat.reduceBEq, Nat.reduceLeDiff, Nat.reduceEqDiff, Int.reduceToNat]
      rfl
    · obtain ⟨h1, h2⟩ := hd
      simp (disch := exact eqId (by kernel_rfl)) only [go_sem, ↓reduceIte, Nat.reduceAdd, Nat.reduceMul, Nat.reduceLT, Nat.reduceBEq, Nat.reduceLeDiff, Nat.reduceEqDiff, Int.reduceToNat]
      repeat' (first | (refine And.intro ?_ ?_) | intro _ | (refine callQ_intro (impl_EqualPieces_ok _ _) ?_; try (simp (disch := exact eqId (by kernel_rfl)) only [go_sem, ↓reduceIte, Nat.reduceAdd, Nat.reduceMul, Nat.reduceLT, Nat.reduceBEq, Nat.reduceLeDiff, Nat.reduceEqDiff, Int.reduceToNat])) | (refine callH_intro (fun hcc => impl_EqualPieces_ok _ _) ?_; try (simp (disch := exact eqId (by kernel_rfl)) only [go_sem, ↓reduceIte, Nat.reduceAdd, Nat.reduceMul, Nat.reduceLT, Nat.reduceBEq, Nat.reduceLeDiff, Nat.reduceEqDiff, Int.reduceToNat])))
      all_goals (try omega)
      · rename_i hk hne
        refine Eq.symm (eqC_f.mpr ?_)
        rintro rfl
        simp_all [eqC_f]
      · rename_i hk he
        have hk : d < a.length := by omega
        refine back_intro (d + 1) ?_ ?_ (sub_shp hN [] ?_)
        · refine ⟨hk, ?_⟩
          rw [take_getD hk ((0, [], 0, ()) : (tPiece : Ty).den), take_getD (show d < b.length by omega) ((0, [], 0, ()) : (tPiece : Ty).den), h2]
          try simp only [eqC_t] at he
          first | rw [he] | (simp_all; done)
        · omega
        · simp (disch := exact eqId (by kernel_rfl)) only [go_sem, ↓reduceIte, Nat.reduceAdd, Nat.reduceMul, Nat.reduceLT, Nat.reduceBEq, Nat.reduceLeDiff, Nat.reduceEqDiff, Int.reduceToNat]
          exact wrap_succ hk hw.1.1
      · have hk : d = a.length := by omega
        refine Eq.symm (eqC_t.mpr ?_)
        rw [hk, List.take_length, hl, List.take_length] at h2
        exact h2
theorem strEq {a b : tStrand.den} (h0 : a.1 = b.1) (h1 : a.2.1 = b.2.1) : a = b := by
  obtain ⟨a0, a1, ⟨⟩⟩ := a
  obtain ⟨b0, b1, ⟨⟩⟩ := b
  simp only at h0 h1
  subst h0 h1
  rfl
theorem eviEq {a b : tEvidence.den} (h0 : a.1 = b.1) (h1 : a.2.1 = b.2.1) : a = b := by
  obtain ⟨a0, a1, ⟨⟩⟩ := a
  obtain ⟨b0, b1, ⟨⟩⟩ := b
  simp only at h0 h1
  subst h0 h1
  rfl
theorem impl_EqualStrands_ok (a b : tStrand.den) : FunOK Try.prog 110 [⟨tStrand, a⟩, ⟨tStrand, b⟩] (.rd .bool (eqC a b)) := by
  refine fun_of (tb := tb) follows Try.func110 (by kernel_rfl) Try.ntmps110 rfl rfl rfl ?_; intro cx hN hw
  simp (disch := exact eqId (by kernel_rfl)) only [go_sem, ↓reduceIte, Nat.reduceAdd, Nat.reduceMul, Nat.reduceLT, Nat.reduceBEq, Nat.reduceLeDiff, Nat.reduceEqDiff, Int.reduceToNat]
  repeat' (first | (refine And.intro ?_ ?_) | intro _ | (refine callQ_intro (impl_equalPieceLists_ok _ _) ?_; try (simp (disch := exact eqId (by kernel_rfl)) only [go_sem, ↓reduceIte, Nat.reduceAdd, Nat.reduceMul, Nat.reduceLT, Nat.reduceBEq, Nat.reduceLeDiff, Nat.reduceEqDiff, Int.reduceToNat])) | (refine callH_intro (fun hcc => impl_equalPieceLists_ok _ _) ?_; try (simp (disch := exact eqId (by kernel_rfl)) only [go_sem, ↓reduceIte, Nat.reduceAdd, Nat.reduceMul, Nat.reduceLT, Nat.reduceBEq, Nat.reduceLeDiff, Nat.reduceEqDiff, Int.reduceToNat])))
  all_goals (try omega)
  · rename_i hc
    refine Eq.symm (eqC_f.mpr ?_)
    rintro rfl
    simp_all
  · rename_i hc
    obtain ⟨hh0, hl⟩ := hc
    have hl1 : List.length a.2.1 = List.length b.2.1 := by omega
    refine loop_intro (tb := tb) follows hN (D := Nat) (fun d => shp [(2, .bp 10000 0), (3, .bp 10016 0), (23, .rd I (((a.2.1).length : Int) : Int)), (24, .rd I (d : Int))] [(10000, .box 36 [.rd (.list tPiece) (a.1), .rd (.list tRenewal) (a.2.1)]), (10016, .box 36 [.rd (.list tPiece) (b.1), .rd (.list tRenewal) (b.2.1)])]) (fun d => d ≤ List.length a.2.1 ∧ List.take d a.2.1 = List.take d b.2.1) (fun d => List.length a.2.1 - d) (0) ?_ (sub_shp hN [(10000, some 10000), (10016, some 10016)] ?_) (fun d hd => ?_)
    · exact ⟨Nat.zero_le _, rfl⟩
    · simp (disch := exact eqId (by kernel_rfl)) only [go_sem, ↓reduceIte, Nat.reduceAdd, Nat.reduceMul, Nat.reduceLT, Nat.reduceBEq, Nat.reduceLeDiff, Nat.reduceEqDiff, Int.reduceToNat]
      try rfl
    · obtain ⟨h1, h2⟩ := hd
      simp (disch := exact eqId (by kernel_rfl)) only [go_sem, ↓reduceIte, Nat.reduceAdd, Nat.reduceMul, Nat.reduceLT, Nat.reduceBEq, Nat.reduceLeDiff, Nat.reduceEqDiff, Int.reduceToNat]
      repeat' (first | (refine And.intro ?_ ?_) | intro _ | (refine callQ_intro (impl_EqualRenewals_ok _ _) ?_; try (simp (disch := exact eqId (by kernel_rfl)) only [go_sem, ↓reduceIte, Nat.reduceAdd, Nat.reduceMul, Nat.reduceLT, Nat.reduceBEq, Nat.reduceLeDiff, Nat.reduceEqDiff, Int.reduceToNat])) | (refine callH_intro (fun hcc => impl_EqualRenewals_ok _ _) ?_; try (simp (disch := exact eqId (by kernel_rfl)) only [go_sem, ↓reduceIte, Nat.reduceAdd, Nat.reduceMul, Nat.reduceLT, Nat.reduceBEq, Nat.reduceLeDiff, Nat.reduceEqDiff, Int.reduceToNat])))
      all_goals (try omega)
      · rename_i hk hne
        refine Eq.symm (eqC_f.mpr ?_)
        rintro rfl
        simp_all
      · rename_i hk he
        have hk : d < List.length a.2.1 := by omega
        have hk2 : d < List.length b.2.1 := by omega
        refine back_intro (d + 1) ?_ ?_ (sub_shp hN [(10000, some 10000), (10016, some 10016)] ?_)
        · refine ⟨hk, ?_⟩
          rw [take_getD hk (0, 0, 0, [], [], ()), take_getD hk2 (0, 0, 0, [], [], ()), h2]
          first | rw [he] | (simp_all; done)
        · omega
        · simp (disch := exact eqId (by kernel_rfl)) only [go_sem, ↓reduceIte, Nat.reduceAdd, Nat.reduceMul, Nat.reduceLT, Nat.reduceBEq, Nat.reduceLeDiff, Nat.reduceEqDiff, Int.reduceToNat]
          exact wrap_succ hk hw.1.2.1.1
      · rename_i hk
        have hk : d = List.length a.2.1 := by omega
        have hh1 : a.2.1 = b.2.1 := by
          rw [hk, List.take_length, hl1, List.take_length] at h2
          exact h2
        exact Eq.symm (eqC_t.mpr (strEq hh0 hh1))
theorem spec_EqualStrands_ok (a b : tStrand.den) : FunOK Try.prog 107 [⟨tStrand, a⟩, ⟨tStrand, b⟩] (.rd .bool (eqC a b)) := by
  refine fun_of (tb := tb) follows Try.func107 (by kernel_rfl) Try.ntmps107 rfl rfl rfl ?_; intro cx hN hw
  simp (disch := exact eqId (by kernel_rfl)) only [go_sem, ↓reduceIte, Nat.reduceAdd, Nat.reduceMul, Nat.reduceLT, Nat.reduceBEq, Nat.reduceLeDiff, Nat.reduceEqDiff, Int.reduceToNat]
  repeat' (first | (refine And.intro ?_ ?_) | intro _)
  all_goals (try omega)
  · rename_i hc
    refine Eq.symm (eqC_f.mpr ?_)
    rintro rfl
    simp_all
  · rename_i hc
    obtain ⟨hl, hl'⟩ := hc
    have hl0 : List.length a.1 = List.length b.1 := by omega
    have hl1 : List.length a.2.1 = List.length b.2.1 := by omega
    refine loop_intro (tb := tb) follows hN (D := Nat) (fun d => shp [(2, .bp 10000 0), (3, .bp 10016 0), (5, .rd I (d : Int))] [(10000, .box 36 [.rd (.list tPiece) (a.1), .rd (.list tRenewal) (a.2.1)]), (10016, .box 36 [.rd (.list tPiece) (b.1), .rd (.list tRenewal) (b.2.1)])]) (fun d => d ≤ List.length a.1 ∧ List.take d a.1 = List.take d b.1) (fun d => List.length a.1 - d) (0) ?_ (sub_shp hN [(10000, some 10000), (10016, some 10016)] ?_) (fun d hd => ?_)
    · exact ⟨Nat.zero_le _, rfl⟩
    · simp (disch := exact eqId (by kernel_rfl)) only [go_sem, ↓reduceIte, Nat.reduceAdd, Nat.reduceMul, Nat.reduceLT, Nat.reduceBEq, Nat.reduceLeDiff, Nat.reduceEqDiff, Int.reduceToNat]
      try rfl
    · obtain ⟨h1, h2⟩ := hd
      simp (disch := exact eqId (by kernel_rfl)) only [go_sem, ↓reduceIte, Nat.reduceAdd, Nat.reduceMul, Nat.reduceLT, Nat.reduceBEq, Nat.reduceLeDiff, Nat.reduceEqDiff, Int.reduceToNat]
      repeat' (first | (refine And.intro ?_ ?_) | intro _ | (refine callQ_intro (spec_EqualPieces_ok _ _) ?_; try (simp (disch := exact eqId (by kernel_rfl)) only [go_sem, ↓reduceIte, Nat.reduceAdd, Nat.reduceMul, Nat.reduceLT, Nat.reduceBEq, Nat.reduceLeDiff, Nat.reduceEqDiff, Int.reduceToNat])) | (refine callH_intro (fun hcc => spec_EqualPieces_ok _ _) ?_; try (simp (disch := exact eqId (by kernel_rfl)) only [go_sem, ↓reduceIte, Nat.reduceAdd, Nat.reduceMul, Nat.reduceLT, Nat.reduceBEq, Nat.reduceLeDiff, Nat.reduceEqDiff, Int.reduceToNat])))
      all_goals (try omega)
      · rename_i hk hne
        refine Eq.symm (eqC_f.mpr ?_)
        rintro rfl
        simp_all
      · rename_i hk he
        have hk : d < List.length a.1 := by omega
        have hk2 : d < List.length b.1 := by omega
        refine back_intro (d + 1) ?_ ?_ (sub_shp hN [(10000, some 10000), (10016, some 10016)] ?_)
        · refine ⟨hk, ?_⟩
          rw [take_getD hk (0, [], 0, ()), take_getD hk2 (0, [], 0, ()), h2]
          first | rw [he] | (simp_all; done)
        · omega
        · simp (disch := exact eqId (by kernel_rfl)) only [go_sem, ↓reduceIte, Nat.reduceAdd, Nat.reduceMul, Nat.reduceLT, Nat.reduceBEq, Nat.reduceLeDiff, Nat.reduceEqDiff, Int.reduceToNat]
          exact wrap_succ hk hw.1.1.1
      · rename_i hk
        have hk : d = List.length a.1 := by omega
        have hh0 : a.1 = b.1 := by
          rw [hk, List.take_length, hl0, List.take_length] at h2
          exact h2
        refine loop_intro (tb := tb) follows hN (D := Nat) (fun d => shp [(2, .bp 10000 0), (3, .bp 10016 0), (6, .rd I (d : Int))] [(10000, .box 36 [.rd (.list tPiece) (a.1), .rd (.list tRenewal) (a.2.1)]), (10016, .box 36 [.rd (.list tPiece) (b.1), .rd (.list tRenewal) (b.2.1)])]) (fun d => d ≤ List.length a.2.1 ∧ List.take d a.2.1 = List.take d b.2.1) (fun d => List.length a.2.1 - d) (0) ?_ (sub_shp hN [(10000, some 10000), (10016, some 10016)] ?_) (fun d hd => ?_)
        · exact ⟨Nat.zero_le _, rfl⟩
        · simp (disch := exact eqId (by kernel_rfl)) only [go_sem, ↓reduceIte, Nat.reduceAdd, Nat.reduceMul, Nat.reduceLT, Nat.reduceBEq, Nat.reduceLeDiff, Nat.reduceEqDiff, Int.reduceToNat]
          try rfl
        · obtain ⟨h1, h2⟩ := hd
          simp (disch := exact eqId (by kernel_rfl)) only [go_sem, ↓reduceIte, Nat.reduceAdd, Nat.reduceMul, Nat.reduceLT, Nat.reduceBEq, Nat.reduceLeDiff, Nat.reduceEqDiff, Int.reduceToNat]
          repeat' (first | (refine And.intro ?_ ?_) | intro _ | (refine callQ_intro (spec_EqualRenewals_ok _ _) ?_; try (simp (disch := exact eqId (by kernel_rfl)) only [go_sem, ↓reduceIte, Nat.reduceAdd, Nat.reduceMul, Nat.reduceLT, Nat.reduceBEq, Nat.reduceLeDiff, Nat.reduceEqDiff, Int.reduceToNat])) | (refine callH_intro (fun hcc => spec_EqualRenewals_ok _ _) ?_; try (simp (disch := exact eqId (by kernel_rfl)) only [go_sem, ↓reduceIte, Nat.reduceAdd, Nat.reduceMul, Nat.reduceLT, Nat.reduceBEq, Nat.reduceLeDiff, Nat.reduceEqDiff, Int.reduceToNat])))
          all_goals (try omega)
          · rename_i hk hne
            refine Eq.symm (eqC_f.mpr ?_)
            rintro rfl
            simp_all
          · rename_i hk he
            have hk : d < List.length a.2.1 := by omega
            have hk2 : d < List.length b.2.1 := by omega
            refine back_intro (d + 1) ?_ ?_ (sub_shp hN [(10000, some 10000), (10016, some 10016)] ?_)
            · refine ⟨hk, ?_⟩
              rw [take_getD hk (0, 0, 0, [], [], ()), take_getD hk2 (0, 0, 0, [], [], ()), h2]
              first | rw [he] | (simp_all; done)
            · omega
            · simp (disch := exact eqId (by kernel_rfl)) only [go_sem, ↓reduceIte, Nat.reduceAdd, Nat.reduceMul, Nat.reduceLT, Nat.reduceBEq, Nat.reduceLeDiff, Nat.reduceEqDiff, Int.reduceToNat]
              exact wrap_succ hk hw.1.2.1.1
          · rename_i hk
            have hk : d = List.length a.2.1 := by omega
            have hh1 : a.2.1 = b.2.1 := by
              rw [hk, List.take_length, hl1, List.take_length] at h2
              exact h2
            exact Eq.symm (eqC_t.mpr (strEq hh0 hh1))
noncomputable def fpiF (p : tPiece.den) : List tPiece.den → Int → Int
  | [], _ => -1
  | x :: xs, i => bif eqC x p then i else fpiF p xs (i + 1)
theorem spec_FindPiece_ok (a : tStrand.den) (p : tPiece.den) : FunOK Try.prog 123 [⟨tStrand, a⟩, ⟨tPiece, p⟩] (.rd I (fpiF p a.1 0)) := by
  refine fun_of (tb := tb) follows Try.func123 (by kernel_rfl) Try.ntmps123 rfl rfl rfl ?_; intro cx hN hw
  simp (disch := exact eqId (by kernel_rfl)) only [go_sem, ↓reduceIte, Nat.reduceAdd, Nat.reduceMul, Nat.reduceLT, Nat.reduceBEq, Nat.reduceLeDiff, Nat.reduceEqDiff, Int.reduceToNat]
  refine loop_intro (tb := tb) follows hN (D := Nat) (fun d => shp [(2, .bp 10000 0), (3, .bp 10016 0), (5, .rd I (d : Int))] [(10000, .box 36 [.rd (.list tPiece) (a.1), .rd (.list tRenewal) (a.2.1)]), (10016, .box 52 [.rd I (p.1), .rd (.list I) (p.2.1), .rd I (p.2.2.1)])]) (fun d => d ≤ List.length a.1 ∧ fpiF p a.1 0 = fpiF p (List.drop d a.1) d) (fun d => List.length a.1 - d) (0) ?_ (sub_shp hN [(10000, some 10000), (10016, some 10016)] ?_) (fun d hd => ?_)
  · exact ⟨Nat.zero_le _, rfl⟩
  · simp (disch := exact eqId (by kernel_rfl)) only [go_sem, ↓reduceIte, Nat.reduceAdd, Nat.reduceMul, Nat.reduceLT, Nat.reduceBEq, Nat.reduceLeDiff, Nat.reduceEqDiff, Int.reduceToNat]
    try rfl
  · obtain ⟨h1, h2⟩ := hd
    simp (disch := exact eqId (by kernel_rfl)) only [go_sem, ↓reduceIte, Nat.reduceAdd, Nat.reduceMul, Nat.reduceLT, Nat.reduceBEq, Nat.reduceLeDiff, Nat.reduceEqDiff, Int.reduceToNat]
    repeat' (first | (refine And.intro ?_ ?_) | intro _ | (refine callQ_intro (spec_EqualPieces_ok _ _) ?_; try (simp (disch := exact eqId (by kernel_rfl)) only [go_sem, ↓reduceIte, Nat.reduceAdd, Nat.reduceMul, Nat.reduceLT, Nat.reduceBEq, Nat.reduceLeDiff, Nat.reduceEqDiff, Int.reduceToNat])) | (refine callH_intro (fun hcc => spec_EqualPieces_ok _ _) ?_; try (simp (disch := exact eqId (by kernel_rfl)) only [go_sem, ↓reduceIte, Nat.reduceAdd, Nat.reduceMul, Nat.reduceLT, Nat.reduceBEq, Nat.reduceLeDiff, Nat.reduceEqDiff, Int.reduceToNat])))
    all_goals (try omega)
    · rename_i hk he
      rw [h2, drop_getD (show d < List.length a.1 by omega) (0, [], 0, ()), fpiF, eqC_t.mpr he]
      rfl
    · rename_i hk he
      have hk : d < List.length a.1 := by omega
      refine back_intro (d + 1) ?_ ?_ (sub_shp hN [(10000, some 10000), (10016, some 10016)] ?_)
      · refine ⟨hk, ?_⟩
        rw [h2, drop_getD hk (0, [], 0, ()), fpiF, eqC_f.mpr he]
        rfl
      · omega
      · simp (disch := exact eqId (by kernel_rfl)) only [go_sem, ↓reduceIte, Nat.reduceAdd, Nat.reduceMul, Nat.reduceLT, Nat.reduceBEq, Nat.reduceLeDiff, Nat.reduceEqDiff, Int.reduceToNat]
        exact wrap_succ hk hw.1.1.1
    · rename_i hk
      rw [h2, drop_end (show List.length a.1 ≤ d by omega)]
      rfl
end Go.Proofs.Ytfkdkblbhilghaa
/- What the functions of well formed strands answer, on both sides. It proves nothing of a statement by itself. -/
set_option linter.unusedSimpArgs false
set_option linter.unusedVariables false
set_option maxRecDepth 100000
namespace Go.Proofs.Ytfkdkblbhilghaa
open Go.AL
noncomputable def hpF (p : tPiece.den) : List tPiece.den → Bool
  | [] => false
  | x :: xs => eqC x p || hpF p xs
theorem fpi_ge (p : tPiece.den) : ∀ (l : List tPiece.den) (i : Int), fpiF p l i = -1 ∨ i ≤ fpiF p l i
  | [], i => .inl rfl
  | x :: xs, i => by
    unfold fpiF
    cases eqC x p
    · simp only [cond_false]
      rcases fpi_ge p xs (i + 1) with h | h
      · exact .inl h
      · exact .inr (by omega)
    · exact .inr (Int.le_refl i)
theorem hp_fpi (p : tPiece.den) (df : tPiece.den) : ∀ (l : List tPiece.den) (k : Nat) (i : Int), k < l.length → l.getD k df = p → (hpF p (l.take k) = true ↔ fpiF p l i < i + k) ∧ i ≤ fpiF p l i
  | [], k, i, hk, _ => absurd hk (Nat.not_lt_zero k)
  | x :: xs, 0, i, hk, he => by
    have hx : eqC x p = true := eqC_t.mpr he
    simp only [List.take_zero, hpF, fpiF, hx, cond_true]
    constructor
    · constructor
      · intro h; cases h
      · intro h; omega
    · exact Int.le_refl i
  | x :: xs, k + 1, i, hk, he => by
    simp only [List.take_succ_cons, hpF, fpiF]
    cases hx : eqC x p
    · simp only [Bool.false_or, cond_false]
      obtain ⟨h1, h2⟩ := hp_fpi p df xs k (i + 1) (by simpa using hk) (by simpa using he)
      refine ⟨h1.trans ?_, by omega⟩
      constructor <;> intro h <;> omega
    · simp only [Bool.true_or, cond_true, true_iff]
      exact ⟨by omega, Int.le_refl i⟩
def leG : Option Int → Int → Bool
  | none, _ => true
  | some m, y => decide (m ≤ y)
def chG (n : Int) : Option Int → List tRenewal.den → Bool
  | _, [] => true
  | pr, x :: xs => inB x.1 1 n && (leG pr x.1 && chG n (some x.1) xs)
theorem chG_cons (n : Int) (pr : Option Int) (x : tRenewal.den) (xs : List tRenewal.den) : chG n pr (x :: xs) = (inB x.1 1 n && (leG pr x.1 && chG n (some x.1) xs)) := by cases pr <;> rfl
theorem chG_nil (n : Int) (pr : Option Int) : chG n pr [] = true := by cases pr <;> rfl
noncomputable def ndB (l : List tPiece.den) : Bool := (List.range l.length).all (fun i => !hpF (l.getD i (0, [], 0, ())) (l.take i))
noncomputable def strB (s : tStrand.den) : Bool := inB (List.length s.1 : Int) 1 12 && decide (List.length s.2.1 ≤ 8) && ndB s.1 && chG (List.length s.1 : Int) none s.2.1
theorem impl_hasPiece_ok (l : List tPiece.den) (p : tPiece.den) : FunOK Try.prog 128 [⟨(.list tPiece), l⟩, ⟨tPiece, p⟩] (.rd .bool (hpF p l)) := by
  refine fun_of (tb := tb) follows Try.func128 (by kernel_rfl) Try.ntmps128 rfl rfl rfl ?_; intro cx hN hw
  simp (disch := exact eqId (by kernel_rfl)) only [go_sem, ↓reduceIte, Nat.reduceAdd, Nat.reduceMul, Nat.reduceLT, Nat.reduceBEq, Nat.reduceLeDiff, Nat.reduceEqDiff, Int.reduceToNat]
  refine loop_intro (tb := tb) follows hN (D := Nat) (fun d => shp [(3, .bp 10000 0), (7, .rd (.list tPiece) (l)), (8, .rd I (((l).length : Int) : Int)), (9, .rd I (d : Int))] [(10000, .box 52 [.rd I (p.1), .rd (.list I) (p.2.1), .rd I (p.2.2.1)])]) (fun d => d ≤ List.length l ∧ hpF p l = hpF p (List.drop d l)) (fun d => List.length l - d) (0) ?_ (sub_shp hN [(10000, some 10000)] ?_) (fun d hd => ?_)
  · exact ⟨Nat.zero_le _, rfl⟩
  · simp (disch := exact eqId (by kernel_rfl)) only [go_sem, ↓reduceIte, Nat.reduceAdd, Nat.reduceMul, Nat.reduceLT, Nat.reduceBEq, Nat.reduceLeDiff, Nat.reduceEqDiff, Int.reduceToNat]
    try rfl
  · obtain ⟨h1, h2⟩ := hd
    simp (disch := exact eqId (by kernel_rfl)) only [go_sem, ↓reduceIte, Nat.reduceAdd, Nat.reduceMul, Nat.reduceLT, Nat.reduceBEq, Nat.reduceLeDiff, Nat.reduceEqDiff, Int.reduceToNat]
    repeat' (first | (refine And.intro ?_ ?_) | intro _ | (refine callQ_intro (impl_EqualPieces_ok _ _) ?_; try (simp (disch := exact eqId (by kernel_rfl)) only [go_sem, ↓reduceIte, Nat.reduceAdd, Nat.reduceMul, Nat.reduceLT, Nat.reduceBEq, Nat.reduceLeDiff, Nat.reduceEqDiff, Int.reduceToNat])) | (refine callH_intro (fun hcc => impl_EqualPieces_ok _ _) ?_; try (simp (disch := exact eqId (by kernel_rfl)) only [go_sem, ↓reduceIte, Nat.reduceAdd, Nat.reduceMul, Nat.reduceLT, Nat.reduceBEq, Nat.reduceLeDiff, Nat.reduceEqDiff, Int.reduceToNat])))
    all_goals (try omega)
    · rename_i hk he
      rw [h2, drop_getD (show d < List.length l by omega) (0, [], 0, ()), hpF, eqC_t.mpr he]
      rfl
    · rename_i hk he
      have hk : d < List.length l := by omega
      refine back_intro (d + 1) ?_ ?_ (sub_shp hN [(10000, some 10000)] ?_)
      · refine ⟨hk, ?_⟩
        rw [h2, drop_getD hk (0, [], 0, ()), hpF, eqC_f.mpr he]
        rfl
      · omega
      · simp (disch := exact eqId (by kernel_rfl)) only [go_sem, ↓reduceIte, Nat.reduceAdd, Nat.reduceMul, Nat.reduceLT, Nat.reduceBEq, Nat.reduceLeDiff, Nat.reduceEqDiff, Int.reduceToNat]
        exact wrap_succ hk hw.1.1
    · rename_i hk
      rw [h2, drop_end (show List.length l ≤ d by omega)]
      rfl
theorem impl_IsStrand_ok (s : tStrand.den) : FunOK Try.prog 77 [⟨tStrand, s⟩] (.rd .bool (strB s)) := by
  refine fun_of (tb := tb) follows Try.func77 (by kernel_rfl) Try.ntmps77 rfl rfl rfl ?_; intro cx hN hw
  simp (disch := exact eqId (by kernel_rfl)) only [go_sem, ↓reduceIte, Nat.reduceAdd, Nat.reduceMul, Nat.reduceLT, Nat.reduceBEq, Nat.reduceLeDiff, Nat.reduceEqDiff, Int.reduceToNat]
  repeat' (first | (refine And.intro ?_ ?_) | intro _ | (refine callQ_intro (inRange_ok _ _ _) ?_; try (simp (disch := exact eqId (by kernel_rfl)) only [go_sem, ↓reduceIte, Nat.reduceAdd, Nat.reduceMul, Nat.reduceLT, Nat.reduceBEq, Nat.reduceLeDiff, Nat.reduceEqDiff, Int.reduceToNat])) | (refine callH_intro (fun hcc => inRange_ok _ _ _) ?_; try (simp (disch := exact eqId (by kernel_rfl)) only [go_sem, ↓reduceIte, Nat.reduceAdd, Nat.reduceMul, Nat.reduceLT, Nat.reduceBEq, Nat.reduceLeDiff, Nat.reduceEqDiff, Int.reduceToNat])))
  all_goals (try omega)
  · rename_i hc
    unfold strB inB
    have : (decide (1 ≤ (List.length s.1 : Int)) && decide ((List.length s.1 : Int) ≤ 12) && decide (List.length s.2.1 ≤ 8)) = false := by
      rw [← Bool.not_eq_true]
      intro h
      simp only [Bool.and_eq_true, decide_eq_true_eq] at h
      omega
    rw [this]
    rfl
  · rename_i hb
    refine loop_intro (tb := tb) follows hN (D := Nat) (fun d => shp [(1, .bp 10000 0), (19, .rd (.list tPiece) (s.1)), (20, .rd I (((s.1).length : Int) : Int)), (21, .rd I (d : Int))] [(10000, .box 36 [.rd (.list tPiece) (s.1), .rd (.list tRenewal) (s.2.1)])]) (fun d => d ≤ List.length s.1 ∧ ∀ i, i < d → hpF (List.getD s.1 i (0, [], 0, ())) (List.take i s.1) = false) (fun d => List.length s.1 - d) (0) ?_ (sub_shp hN [(10000, some 10000)] ?_) (fun d hd => ?_)
    · exact ⟨Nat.zero_le _, fun i h => absurd h (Nat.not_lt_zero i)⟩
    · simp (disch := exact eqId (by kernel_rfl)) only [go_sem, ↓reduceIte, Nat.reduceAdd, Nat.reduceMul, Nat.reduceLT, Nat.reduceBEq, Nat.reduceLeDiff, Nat.reduceEqDiff, Int.reduceToNat]
      try rfl
    · obtain ⟨h1, h2⟩ := hd
      simp (disch := exact eqId (by kernel_rfl)) only [go_sem, ↓reduceIte, Nat.reduceAdd, Nat.reduceMul, Nat.reduceLT, Nat.reduceBEq, Nat.reduceLeDiff, Nat.reduceEqDiff, Int.reduceToNat]
      repeat' (first | (refine And.intro ?_ ?_) | intro _ | (refine callQ_intro (impl_hasPiece_ok _ _) ?_; try (simp (disch := exact eqId (by kernel_rfl)) only [go_sem, ↓reduceIte, Nat.reduceAdd, Nat.reduceMul, Nat.reduceLT, Nat.reduceBEq, Nat.reduceLeDiff, Nat.reduceEqDiff, Int.reduceToNat])) | (refine callH_intro (fun hcc => impl_hasPiece_ok _ _) ?_; try (simp (disch := exact eqId (by kernel_rfl)) only [go_sem, ↓reduceIte, Nat.reduceAdd, Nat.reduceMul, Nat.reduceLT, Nat.reduceBEq, Nat.reduceLeDiff, Nat.reduceEqDiff, Int.reduceToNat])))
      all_goals (try omega)
      · rename_i hk he
        have he' : hpF (List.getD s.1 d (0, [], 0, ())) (List.take d s.1) = true := he
        have hn : ndB s.1 = false := by
          rw [← Bool.not_eq_true]
          intro h
          have h9 := List.all_eq_true.1 h d (List.mem_range.2 (by omega))
          rw [he'] at h9
          cases h9
        unfold strB
        rw [hn]
        simp
      · rename_i hk he
        have hk : d < List.length s.1 := by omega
        refine back_intro (d + 1) ?_ ?_ (sub_shp hN [(10000, some 10000)] ?_)
        · refine ⟨hk, fun i hi => ?_⟩
          by_cases e : i = d
          · subst e; exact he
          · exact h2 i (by omega)
        · omega
        · simp (disch := exact eqId (by kernel_rfl)) only [go_sem, ↓reduceIte, Nat.reduceAdd, Nat.reduceMul, Nat.reduceLT, Nat.reduceBEq, Nat.reduceLeDiff, Nat.reduceEqDiff, Int.reduceToNat]
          exact wrap_succ hk hw.1.1.1
      · rename_i hk
        have hn : ndB s.1 = true := by
          unfold ndB
          rw [List.all_eq_true]
          intro i hi
          rw [h2 i (by have := List.mem_range.1 hi; omega)]
          rfl
        refine loop_intro (tb := tb) follows hN (D := Nat) (fun d => shp [(1, .bp 10000 0), (34, .rd (.list tRenewal) (s.2.1)), (35, .rd I (((s.2.1).length : Int) : Int)), (36, .rd I (d : Int))] [(10000, .box 36 [.rd (.list tPiece) (s.1), .rd (.list tRenewal) (s.2.1)])]) (fun d => d ≤ List.length s.2.1 ∧ chG (List.length s.1 : Int) none s.2.1 = chG (List.length s.1 : Int) (pvG (fun x : tRenewal.den => (x.1 : Int)) (0, 0, 0, [], [], ()) s.2.1 d) (List.drop d s.2.1)) (fun d => List.length s.2.1 - d) (0) ?_ (sub_shp hN [(10000, some 10000)] ?_) (fun d hd => ?_)
        · exact ⟨Nat.zero_le _, rfl⟩
        · simp (disch := exact eqId (by kernel_rfl)) only [go_sem, ↓reduceIte, Nat.reduceAdd, Nat.reduceMul, Nat.reduceLT, Nat.reduceBEq, Nat.reduceLeDiff, Nat.reduceEqDiff, Int.reduceToNat]
          try rfl
        · obtain ⟨g1, g2⟩ := hd
          have e1 : IntKind.i64.wrap ((d : Int) - 1) = (d : Int) - 1 := wrap_i64 (by omega) (by omega)
          simp (disch := exact eqId (by kernel_rfl)) only [go_sem, ↓reduceIte, Nat.reduceAdd, Nat.reduceMul, Nat.reduceLT, Nat.reduceBEq, Nat.reduceLeDiff, Nat.reduceEqDiff, Int.reduceToNat, e1]
          repeat' (first | (refine And.intro ?_ ?_) | intro _ | (refine callQ_intro (inRange_ok _ _ _) ?_; try (simp (disch := exact eqId (by kernel_rfl)) only [go_sem, ↓reduceIte, Nat.reduceAdd, Nat.reduceMul, Nat.reduceLT, Nat.reduceBEq, Nat.reduceLeDiff, Nat.reduceEqDiff, Int.reduceToNat])) | (refine callH_intro (fun hcc => inRange_ok _ _ _) ?_; try (simp (disch := exact eqId (by kernel_rfl)) only [go_sem, ↓reduceIte, Nat.reduceAdd, Nat.reduceMul, Nat.reduceLT, Nat.reduceBEq, Nat.reduceLeDiff, Nat.reduceEqDiff, Int.reduceToNat])))
          all_goals (try omega)
          · rename_i hk hc
            have hch : chG (List.length s.1 : Int) none s.2.1 = false := by
              rw [g2, drop_getD (show d < List.length s.2.1 by omega) (0, 0, 0, [], [], ()), chG_cons]
              rcases hc with hc | ⟨hd, hlt⟩
              · rw [show inB (List.getD s.2.1 d (0, 0, 0, [], [], ())).1 1 (List.length s.1 : Int) = false from by
                  rw [inB_f]
                  intro h
                  rcases hc with hc | hc
                  · exact hc h.1
                  · exact hc h.2]
                rfl
              · rw [e1] at hlt
                unfold pvG
                rw [if_pos hd, show leG (some (List.getD s.2.1 ((d : Int) - 1).toNat (0, 0, 0, [], [], ())).1) (List.getD s.2.1 d (0, 0, 0, [], [], ())).1 = false from decide_eq_false (Int.not_le.mpr hlt)]
                simp
            unfold strB
            rw [hch]
            simp
          · rename_i hk hc
            have hk : d < List.length s.2.1 := by omega
            obtain ⟨hc, hd⟩ := hc
            rw [e1] at hd
            refine back_intro (d + 1) ?_ ?_ (sub_shp hN [(10000, some 10000)] ?_)
            · refine ⟨hk, ?_⟩
              rw [g2, drop_getD hk (0, 0, 0, [], [], ()), chG_cons, pvG_succ, show inB (List.getD s.2.1 d (0, 0, 0, [], [], ())).1 1 (List.length s.1 : Int) = true from by rw [inB_t]; exact hc, Bool.true_and]
              unfold pvG
              by_cases h0 : (d : Int) > 0
              · rw [if_pos h0, show leG (some (List.getD s.2.1 ((d : Int) - 1).toNat (0, 0, 0, [], [], ())).1) (List.getD s.2.1 d (0, 0, 0, [], [], ())).1 = true from decide_eq_true (Int.not_lt.mp (hd.resolve_left (fun hx => hx h0))), Bool.true_and]
              · rw [if_neg h0]
                rfl
            · omega
            · simp (disch := exact eqId (by kernel_rfl)) only [go_sem, ↓reduceIte, Nat.reduceAdd, Nat.reduceMul, Nat.reduceLT, Nat.reduceBEq, Nat.reduceLeDiff, Nat.reduceEqDiff, Int.reduceToNat]
              exact wrap_succ hk hw.1.2.1.1
          · rename_i hk
            have hch : chG (List.length s.1 : Int) none s.2.1 = true := by rw [g2, drop_end (show List.length s.2.1 ≤ d by omega), chG_nil]
            unfold strB
            rw [hn, hch, show inB (List.length s.1 : Int) 1 12 = true from by rw [inB_t]; exact hb.1, decide_eq_true (show List.length s.2.1 ≤ 8 by omega)]
            rfl
theorem spec_IsStrand_ok (s : tStrand.den) : FunOK Try.prog 74 [⟨tStrand, s⟩] (.rd .bool (strB s)) := by
  refine fun_of (tb := tb) follows Try.func74 (by kernel_rfl) Try.ntmps74 rfl rfl rfl ?_; intro cx hN hw
  have hm : maxLen = 9223372036854775807 := rfl
  have hl : List.length s.2.1 ≤ maxLen := hw.1.2.1.1
  simp (disch := exact eqId (by kernel_rfl)) only [go_sem, ↓reduceIte, Nat.reduceAdd, Nat.reduceMul, Nat.reduceLT, Nat.reduceBEq, Nat.reduceLeDiff, Nat.reduceEqDiff, Int.reduceToNat]
  refine loop_intro (tb := tb) follows hN (D := Nat) (fun d => shp [(1, .bp 10000 0), (3, .rd I (d : Int))] [(10000, .box 36 [.rd (.list tPiece) (s.1), .rd (.list tRenewal) (s.2.1)])]) (fun d => d ≤ List.length s.1 ∧ ∀ i, i < d → hpF (List.getD s.1 i (0, [], 0, ())) (List.take i s.1) = false) (fun d => List.length s.1 - d) (0) ?_ (sub_shp hN [(10000, some 10000)] ?_) (fun d hd => ?_)
  · exact ⟨Nat.zero_le _, fun i h => absurd h (Nat.not_lt_zero i)⟩
  · simp (disch := exact eqId (by kernel_rfl)) only [go_sem, ↓reduceIte, Nat.reduceAdd, Nat.reduceMul, Nat.reduceLT, Nat.reduceBEq, Nat.reduceLeDiff, Nat.reduceEqDiff, Int.reduceToNat]
    try rfl
  · obtain ⟨h1, h2⟩ := hd
    simp (disch := exact eqId (by kernel_rfl)) only [go_sem, ↓reduceIte, Nat.reduceAdd, Nat.reduceMul, Nat.reduceLT, Nat.reduceBEq, Nat.reduceLeDiff, Nat.reduceEqDiff, Int.reduceToNat]
    repeat' (first | (refine And.intro ?_ ?_) | intro _ | (refine callQ_intro (spec_FindPiece_ok _ _) ?_; try (simp (disch := exact eqId (by kernel_rfl)) only [go_sem, ↓reduceIte, Nat.reduceAdd, Nat.reduceMul, Nat.reduceLT, Nat.reduceBEq, Nat.reduceLeDiff, Nat.reduceEqDiff, Int.reduceToNat])) | (refine callH_intro (fun hcc => spec_FindPiece_ok _ _) ?_; try (simp (disch := exact eqId (by kernel_rfl)) only [go_sem, ↓reduceIte, Nat.reduceAdd, Nat.reduceMul, Nat.reduceLT, Nat.reduceBEq, Nat.reduceLeDiff, Nat.reduceEqDiff, Int.reduceToNat])))
    all_goals (try omega)
    · rename_i hk he
      have he0 : fpiF (List.getD s.1 d (0, [], 0, ())) s.1 0 < (d : Int) := he
      have he' : hpF (List.getD s.1 d (0, [], 0, ())) (List.take d s.1) = true := ((hp_fpi _ (0, [], 0, ()) s.1 d 0 (by omega) rfl).1).mpr (by omega)
      have hn : ndB s.1 = false := by
        rw [← Bool.not_eq_true]
        intro h
        have h9 := List.all_eq_true.1 h d (List.mem_range.2 (by omega))
        rw [he'] at h9
        cases h9
      unfold strB
      rw [hn]
      simp
    · rename_i hk he
      have hk : d < List.length s.1 := by omega
      refine back_intro (d + 1) ?_ ?_ (sub_shp hN [(10000, some 10000)] ?_)
      · refine ⟨hk, fun i hi => ?_⟩
        by_cases e : i = d
        · subst e
          rw [← Bool.not_eq_true]
          intro h
          have h9 := ((hp_fpi _ (0, [], 0, ()) s.1 i 0 hk rfl).1).mp h
          exact he (show fpiF (List.getD s.1 i (0, [], 0, ())) s.1 0 < (i : Int) by omega)
        · exact h2 i (by omega)
      · omega
      · simp (disch := exact eqId (by kernel_rfl)) only [go_sem, ↓reduceIte, Nat.reduceAdd, Nat.reduceMul, Nat.reduceLT, Nat.reduceBEq, Nat.reduceLeDiff, Nat.reduceEqDiff, Int.reduceToNat]
        exact wrap_succ hk hw.1.1.1
    · rename_i hk
      have hn : ndB s.1 = true := by
        unfold ndB
        rw [List.all_eq_true]
        intro i hi
        rw [h2 i (by have := List.mem_range.1 hi; omega)]
        rfl
      refine loop_intro (tb := tb) follows hN (D := Nat) (fun d => shp [(1, .bp 10000 0), (4, .rd I (d : Int))] [(10000, .box 36 [.rd (.list tPiece) (s.1), .rd (.list tRenewal) (s.2.1)])]) (fun d => d ≤ List.length s.2.1 ∧ chG (List.length s.1 : Int) none s.2.1 = chG (List.length s.1 : Int) (pvG (fun x : tRenewal.den => (x.1 : Int)) (0, 0, 0, [], [], ()) s.2.1 d) (List.drop d s.2.1)) (fun d => List.length s.2.1 - d) (0) ?_ (sub_shp hN [(10000, some 10000)] ?_) (fun d hd => ?_)
      · exact ⟨Nat.zero_le _, rfl⟩
      · simp (disch := exact eqId (by kernel_rfl)) only [go_sem, ↓reduceIte, Nat.reduceAdd, Nat.reduceMul, Nat.reduceLT, Nat.reduceBEq, Nat.reduceLeDiff, Nat.reduceEqDiff, Int.reduceToNat]
        try rfl
      · obtain ⟨g1, g2⟩ := hd
        have e1 : IntKind.i64.wrap ((d : Int) - 1) = (d : Int) - 1 := wrap_i64 (by omega) (by omega)
        simp (disch := exact eqId (by kernel_rfl)) only [go_sem, ↓reduceIte, Nat.reduceAdd, Nat.reduceMul, Nat.reduceLT, Nat.reduceBEq, Nat.reduceLeDiff, Nat.reduceEqDiff, Int.reduceToNat, e1]
        repeat' (first | (refine And.intro ?_ ?_) | intro _ | (refine callQ_intro (l1In_ok _ _ _) ?_; try (simp (disch := exact eqId (by kernel_rfl)) only [go_sem, ↓reduceIte, Nat.reduceAdd, Nat.reduceMul, Nat.reduceLT, Nat.reduceBEq, Nat.reduceLeDiff, Nat.reduceEqDiff, Int.reduceToNat])) | (refine callH_intro (fun hcc => l1In_ok _ _ _) ?_; try (simp (disch := exact eqId (by kernel_rfl)) only [go_sem, ↓reduceIte, Nat.reduceAdd, Nat.reduceMul, Nat.reduceLT, Nat.reduceBEq, Nat.reduceLeDiff, Nat.reduceEqDiff, Int.reduceToNat])))
        all_goals (try omega)
        · rename_i hk hc
          have hch : chG (List.length s.1 : Int) none s.2.1 = false := by
            rw [g2, drop_getD (show d < List.length s.2.1 by omega) (0, 0, 0, [], [], ()), chG_cons]
            rcases hc with hc | ⟨hd, hlt⟩
            · rw [show inB (List.getD s.2.1 d (0, 0, 0, [], [], ())).1 1 (List.length s.1 : Int) = false from by
                rw [inB_f]
                intro h
                rcases hc with hc | hc
                · exact hc h.1
                · exact hc h.2]
              rfl
            · rw [e1] at hlt
              unfold pvG
              rw [if_pos hd, show leG (some (List.getD s.2.1 ((d : Int) - 1).toNat (0, 0, 0, [], [], ())).1) (List.getD s.2.1 d (0, 0, 0, [], [], ())).1 = false from decide_eq_false (Int.not_le.mpr hlt)]
              simp
          unfold strB
          rw [hch]
          simp
        · rename_i hk hc
          have hk : d < List.length s.2.1 := by omega
          obtain ⟨hc, hd⟩ := hc
          rw [e1] at hd
          refine back_intro (d + 1) ?_ ?_ (sub_shp hN [(10000, some 10000)] ?_)
          · refine ⟨hk, ?_⟩
            rw [g2, drop_getD hk (0, 0, 0, [], [], ()), chG_cons, pvG_succ, show inB (List.getD s.2.1 d (0, 0, 0, [], [], ())).1 1 (List.length s.1 : Int) = true from by rw [inB_t]; exact hc, Bool.true_and]
            unfold pvG
            by_cases h0 : (d : Int) > 0
            · rw [if_pos h0, show leG (some (List.getD s.2.1 ((d : Int) - 1).toNat (0, 0, 0, [], [], ())).1) (List.getD s.2.1 d (0, 0, 0, [], [], ())).1 = true from decide_eq_true (Int.not_lt.mp (hd.resolve_left (fun hx => hx h0))), Bool.true_and]
            · rw [if_neg h0]
              rfl
          · omega
          · simp (disch := exact eqId (by kernel_rfl)) only [go_sem, ↓reduceIte, Nat.reduceAdd, Nat.reduceMul, Nat.reduceLT, Nat.reduceBEq, Nat.reduceLeDiff, Nat.reduceEqDiff, Int.reduceToNat]
            exact wrap_succ hk hw.1.2.1.1
        · rename_i hk
          have hch : chG (List.length s.1 : Int) none s.2.1 = true := by rw [g2, drop_end (show List.length s.2.1 ≤ d by omega), chG_nil]
          unfold strB
          rw [hn, hch]
          simp [inB]
          exact congrArg _ (decide_eq_decide.mpr (by omega))
end Go.Proofs.Ytfkdkblbhilghaa
/- What functions of growing strands answer, the reference's side. It proves nothing of a statement by itself. -/
set_option linter.unusedSimpArgs false
set_option linter.unusedVariables false
set_option maxRecDepth 100000
namespace Go.Proofs.Ytfkdkblbhilghaa
open Go.AL
theorem sm_pc {s : tStrand.den} (hs : Small tStrand 1048576 s) : s.1.length ≤ 1048576 ∧ ∀ p, p ∈ s.1 → p.2.1.length ≤ 1048576 := ⟨hs.1.1, fun p hp => (hs.1.2 p hp).2.1.1⟩
theorem sm_ch {s : tStrand.den} (hs : Small tStrand 1048576 s) : s.2.1.length ≤ 1048576 ∧ ∀ r, r ∈ s.2.1 → r.2.2.2.1.length ≤ 1048576 ∧ r.2.2.2.2.1.length ≤ 1048576 := ⟨hs.2.1.1, fun r hr => ⟨(hs.2.1.2 r hr).2.2.2.1.1, (hs.2.1.2 r hr).2.2.2.2.1.1⟩⟩
theorem take_snoc {α : Type} {l : List α} {k : Nat} (hk : k < l.length) (x : α) : l.take k ++ [l.getD k x] = l.take (k + 1) := by
  rw [List.take_succ_eq_append_getElem hk, List.getD_eq_getElem?_getD, List.getElem?_eq_getElem hk]
  rfl
theorem l18All_ok (l : List tPiece.den) (hl : l.length ≤ 1048576) (hp : ∀ p, p ∈ l → p.2.1.length ≤ 1048576) : FunOK Try.prog 122 [⟨(.list tPiece), l⟩] (.own 52 tPiece l) := by
  refine fun_of (tb := tb) follows Try.func122 (by kernel_rfl) Try.ntmps122 rfl rfl rfl ?_; intro cx hN hw
  simp (disch := exact eqId (by kernel_rfl)) only [go_sem, ↓reduceIte, Nat.reduceAdd, Nat.reduceMul, Nat.reduceLT, Nat.reduceBEq, Nat.reduceLeDiff, Nat.reduceEqDiff, Int.reduceToNat]
  refine loop_intro (tb := tb) follows hN (D := Nat) (fun d => shp [(0, .rd (.list tPiece) (l)), (3, .own 20000), (4, .rd I (d : Int))] [(20000, .row 52 tPiece (l.take d))]) (fun d => d ≤ l.length) (fun d => l.length - d) (0) ?_ (sub_shp hN [(20000, some 20000)] ?_) (fun d hd => ?_)
  · exact Nat.zero_le _
  · simp (disch := exact eqId (by kernel_rfl)) only [go_sem, ↓reduceIte, Nat.reduceAdd, Nat.reduceMul, Nat.reduceLT, Nat.reduceBEq, Nat.reduceLeDiff, Nat.reduceEqDiff, Int.reduceToNat]
    try exact ⟨rfl, rfl⟩
    try rfl
  · simp (disch := exact eqId (by kernel_rfl)) only [go_sem, ↓reduceIte, Nat.reduceAdd, Nat.reduceMul, Nat.reduceLT, Nat.reduceBEq, Nat.reduceLeDiff, Nat.reduceEqDiff, Int.reduceToNat]
    repeat' (first | (refine And.intro ?_ ?_) | intro _ | (refine callQ_intro (l18Copy_ok _ (hp _ (getD_mem (by omega) _))) ?_; try (simp (disch := exact eqId (by kernel_rfl)) only [go_sem, ↓reduceIte, Nat.reduceAdd, Nat.reduceMul, Nat.reduceLT, Nat.reduceBEq, Nat.reduceLeDiff, Nat.reduceEqDiff, Int.reduceToNat])) | (refine callH_intro (fun hcc => l18Copy_ok _ (hp _ (getD_mem (by omega) _))) ?_; try (simp (disch := exact eqId (by kernel_rfl)) only [go_sem, ↓reduceIte, Nat.reduceAdd, Nat.reduceMul, Nat.reduceLT, Nat.reduceBEq, Nat.reduceLeDiff, Nat.reduceEqDiff, Int.reduceToNat])))
    all_goals (try omega)
    all_goals (try (simp only [List.length_append, List.length_cons, List.length_nil, List.length_take]; omega))
    · rename_i hk
      refine back_intro (d + 1) ?_ ?_ (sub_shp hN [(20000, some 60112)] ?_)
      · omega
      · omega
      · simp (disch := exact eqId (by kernel_rfl)) only [go_sem, ↓reduceIte, Nat.reduceAdd, Nat.reduceMul, Nat.reduceLT, Nat.reduceBEq, Nat.reduceLeDiff, Nat.reduceEqDiff, Int.reduceToNat]
        refine ⟨?_, wrap_succ' (by omega)⟩
        exact take_snoc (show d < l.length by omega) _
    · rename_i hk
      rw [List.take_of_length_le (by omega)]
theorem l20Copy_fr (s : tStrand.den) (hs : Small tStrand 1048576 s) : FunOK Try.prog 72 [⟨tStrand, s⟩] (.agg [.own 52 tPiece s.1, .fresh 66 tRenewal s.2.1]) := by
  obtain ⟨h1, h2⟩ := sm_pc hs
  obtain ⟨h3, h4⟩ := sm_ch hs
  refine fun_ofN (tb := tb) follows Try.func72 (by kernel_rfl) Try.ntmps72 rfl rfl rfl ?_; intro cx hN hw
  simp (disch := exact eqId (by kernel_rfl)) only [go_sem, ↓reduceIte, Nat.reduceAdd, Nat.reduceMul, Nat.reduceLT, Nat.reduceBEq, Nat.reduceLeDiff, Nat.reduceEqDiff, Int.reduceToNat]
  repeat' (first | (refine And.intro ?_ ?_) | intro _ | (refine callQ_intro (l18All_ok _ h1 h2) ?_; try (simp (disch := exact eqId (by kernel_rfl)) only [go_sem, ↓reduceIte, Nat.reduceAdd, Nat.reduceMul, Nat.reduceLT, Nat.reduceBEq, Nat.reduceLeDiff, Nat.reduceEqDiff, Int.reduceToNat])) | (refine callH_intro (fun hcc => l18All_ok _ h1 h2) ?_; try (simp (disch := exact eqId (by kernel_rfl)) only [go_sem, ↓reduceIte, Nat.reduceAdd, Nat.reduceMul, Nat.reduceLT, Nat.reduceBEq, Nat.reduceLeDiff, Nat.reduceEqDiff, Int.reduceToNat])))
  refine loop_intro (tb := tb) follows hN (D := Nat) (fun d => shp [(1, .bp 10000 0), (2, .bp 10016 0), (3, .bp 20064 0), (4, .rd I (d : Int))] [(10000, .box 36 [.rd (.list tPiece) s.1, .rd (.list tRenewal) s.2.1]), (10016, .box 36 [.nils, .nils]), (20032, .row 52 tPiece s.1), (20064, .box 36 [.own 20032, .own 90000]), (90000, .arr 66 tRenewal (List.take d s.2.1))]) (fun d => d ≤ List.length s.2.1) (fun d => List.length s.2.1 - d) (0) ?_ (sub_shp hN [(10000, some 10000), (10016, some 10016), (20064, some 20064), (20032, some 20032), (90000, none)] ?_) (fun d hd => ?_)
  · exact Nat.zero_le _
  · simp (disch := exact eqId (by kernel_rfl)) only [go_sem, ↓reduceIte, Nat.reduceAdd, Nat.reduceMul, Nat.reduceLT, Nat.reduceBEq, Nat.reduceLeDiff, Nat.reduceEqDiff, Int.reduceToNat]
    try exact ⟨rfl, rfl⟩
    try rfl
  · simp (disch := exact eqId (by kernel_rfl)) only [go_sem, ↓reduceIte, Nat.reduceAdd, Nat.reduceMul, Nat.reduceLT, Nat.reduceBEq, Nat.reduceLeDiff, Nat.reduceEqDiff, Int.reduceToNat]
    repeat' (first | (refine And.intro ?_ ?_) | intro _ | (refine callQ_intro (l19Copy_ok _ (h4 _ (getD_mem (by omega) _)).1 (h4 _ (getD_mem (by omega) _)).2) ?_; try (simp (disch := exact eqId (by kernel_rfl)) only [go_sem, ↓reduceIte, Nat.reduceAdd, Nat.reduceMul, Nat.reduceLT, Nat.reduceBEq, Nat.reduceLeDiff, Nat.reduceEqDiff, Int.reduceToNat])) | (refine callH_intro (fun hcc => l19Copy_ok _ (h4 _ (getD_mem (by omega) _)).1 (h4 _ (getD_mem (by omega) _)).2) ?_; try (simp (disch := exact eqId (by kernel_rfl)) only [go_sem, ↓reduceIte, Nat.reduceAdd, Nat.reduceMul, Nat.reduceLT, Nat.reduceBEq, Nat.reduceLeDiff, Nat.reduceEqDiff, Int.reduceToNat])))
    all_goals (try omega)
    all_goals (try (simp only [List.length_append, List.length_cons, List.length_nil, List.length_take]; omega))
    · rename_i hk
      refine back_intro (d + 1) ?_ ?_ (sub_shp hN [(10000, some 10000), (10016, some 10016), (20064, some 20064), (20032, some 20032), (90000, some 60144)] ?_)
      · omega
      · omega
      · simp (disch := exact eqId (by kernel_rfl)) only [go_sem, ↓reduceIte, Nat.reduceAdd, Nat.reduceMul, Nat.reduceLT, Nat.reduceBEq, Nat.reduceLeDiff, Nat.reduceEqDiff, Int.reduceToNat]
        refine ⟨?_, wrap_succ' (by omega)⟩
        exact take_snoc (show d < List.length s.2.1 by omega) _
    · rename_i hk
      rw [List.take_of_length_le (by omega)]
end Go.Proofs.Ytfkdkblbhilghaa
/- What functions of growing strands answer, the reference's side. It proves nothing of a statement by itself. -/
set_option linter.unusedSimpArgs false
set_option linter.unusedVariables false
set_option maxRecDepth 100000
namespace Go.Proofs.Ytfkdkblbhilghaa
open Go.AL
noncomputable def apF (s : tStrand.den) (p : tPiece.den) : tStrand.den × Bool := if strB (s.1 ++ [p], s.2.1, ()) = false then ((s.1, s.2.1, ()), false) else ((s.1 ++ [p], s.2.1, ()), true)
theorem apF_y {s : tStrand.den} {p : tPiece.den} (h : strB (s.1 ++ [p], s.2.1, ()) = false) : apF s p = ((s.1, s.2.1, ()), false) := if_pos h
theorem apF_n {s : tStrand.den} {p : tPiece.den} (h : strB (s.1 ++ [p], s.2.1, ()) = true) : apF s p = ((s.1 ++ [p], s.2.1, ()), true) := if_neg (by rw [h]; decide)
noncomputable def arF (s : tStrand.den) (r : tRenewal.den) : tStrand.den × Bool := if strB (s.1, s.2.1 ++ [r], ()) = false then ((s.1, s.2.1, ()), false) else ((s.1, s.2.1 ++ [r], ()), true)
theorem arF_y {s : tStrand.den} {r : tRenewal.den} (h : strB (s.1, s.2.1 ++ [r], ()) = false) : arF s r = ((s.1, s.2.1, ()), false) := if_pos h
theorem arF_n {s : tStrand.den} {r : tRenewal.den} (h : strB (s.1, s.2.1 ++ [r], ()) = true) : arF s r = ((s.1, s.2.1 ++ [r], ()), true) := if_neg (by rw [h]; decide)
def dsF (s : tStrand.den) (d : tDocument.den) : List Int := s.2.1.map (fun r => ddF r.2.1 d)
theorem spec_AddPiece_ok (s : tStrand.den) (p : tPiece.den) (hs : Small tStrand 1048576 s) (hp : p.2.1.length ≤ 1048576) : FunOK Try.prog 24 [⟨tStrand, s⟩, ⟨tPiece, p⟩] (.tup [.agg [.own 52 tPiece (apF s p).1.1, .own 66 tRenewal (apF s p).1.2.1], .rd .bool (apF s p).2]) := by
  have h1 := (sm_pc hs).1
  have h2 := (sm_ch hs).1
  refine fun_of (tb := tb) follows Try.func24 (by kernel_rfl) Try.ntmps24 rfl rfl rfl ?_; intro cx hN hw
  simp (disch := exact eqId (by kernel_rfl)) only [go_sem, ↓reduceIte, Nat.reduceAdd, Nat.reduceMul, Nat.reduceLT, Nat.reduceBEq, Nat.reduceLeDiff, Nat.reduceEqDiff, Int.reduceToNat]
  repeat' (first | (refine And.intro ?_ ?_) | intro _ | (refine callB_intro (spec_IsStrand_ok _) rfl trivial ?_; try (simp (disch := exact eqId (by kernel_rfl)) only [go_sem, ↓reduceIte, Nat.reduceAdd, Nat.reduceMul, Nat.reduceLT, Nat.reduceBEq, Nat.reduceLeDiff, Nat.reduceEqDiff, Int.reduceToNat])) | (refine callQ_intro (l20Copy_fr _ hs) ?_; try (simp (disch := exact eqId (by kernel_rfl)) only [go_sem, ↓reduceIte, Nat.reduceAdd, Nat.reduceMul, Nat.reduceLT, Nat.reduceBEq, Nat.reduceLeDiff, Nat.reduceEqDiff, Int.reduceToNat])) | (refine callH_intro (fun hcc => l20Copy_fr _ hs) ?_; try (simp (disch := exact eqId (by kernel_rfl)) only [go_sem, ↓reduceIte, Nat.reduceAdd, Nat.reduceMul, Nat.reduceLT, Nat.reduceBEq, Nat.reduceLeDiff, Nat.reduceEqDiff, Int.reduceToNat])) | (refine callQ_intro (l18Copy_ok _ hp) ?_; try (simp (disch := exact eqId (by kernel_rfl)) only [go_sem, ↓reduceIte, Nat.reduceAdd, Nat.reduceMul, Nat.reduceLT, Nat.reduceBEq, Nat.reduceLeDiff, Nat.reduceEqDiff, Int.reduceToNat])) | (refine callH_intro (fun hcc => l18Copy_ok _ hp) ?_; try (simp (disch := exact eqId (by kernel_rfl)) only [go_sem, ↓reduceIte, Nat.reduceAdd, Nat.reduceMul, Nat.reduceLT, Nat.reduceBEq, Nat.reduceLeDiff, Nat.reduceEqDiff, Int.reduceToNat])) | (refine callQ_intro (spec_IsStrand_ok _) ?_; try (simp (disch := exact eqId (by kernel_rfl)) only [go_sem, ↓reduceIte, Nat.reduceAdd, Nat.reduceMul, Nat.reduceLT, Nat.reduceBEq, Nat.reduceLeDiff, Nat.reduceEqDiff, Int.reduceToNat])) | (refine callH_intro (fun hcc => spec_IsStrand_ok _) ?_; try (simp (disch := exact eqId (by kernel_rfl)) only [go_sem, ↓reduceIte, Nat.reduceAdd, Nat.reduceMul, Nat.reduceLT, Nat.reduceBEq, Nat.reduceLeDiff, Nat.reduceEqDiff, Int.reduceToNat])))
  all_goals (try omega)
  all_goals (try (simp only [List.length_append, List.length_cons, List.length_nil]; omega))
  all_goals (rename_i hc; first | exact (congrArg (fun x => x.1.1) (apF_y hc)).symm | exact (congrArg (fun x => x.1.2.1) (apF_y hc)).symm | exact (congrArg (fun x => x.2) (apF_y hc)).symm | exact (congrArg (fun x => x.1.1) (apF_n hc)).symm | exact (congrArg (fun x => x.1.2.1) (apF_n hc)).symm | exact (congrArg (fun x => x.2) (apF_n hc)).symm | trace_state)
theorem spec_AddRenewal_fr (s : tStrand.den) (r : tRenewal.den) (hs : Small tStrand 1048576 s) (hr1 : r.2.2.2.1.length ≤ 1048576) (hr2 : r.2.2.2.2.1.length ≤ 1048576) : FunOK Try.prog 31 [⟨tStrand, s⟩, ⟨tRenewal, r⟩] (.tup [.agg [.own 52 tPiece (arF s r).1.1, .fresh 66 tRenewal (arF s r).1.2.1], .rd .bool (arF s r).2]) := by
  have h1 := (sm_pc hs).1
  have h2 := (sm_ch hs).1
  refine fun_ofN (tb := tb) follows Try.func31 (by kernel_rfl) Try.ntmps31 rfl rfl rfl ?_; intro cx hN hw
  simp (disch := exact eqId (by kernel_rfl)) only [go_sem, ↓reduceIte, Nat.reduceAdd, Nat.reduceMul, Nat.reduceLT, Nat.reduceBEq, Nat.reduceLeDiff, Nat.reduceEqDiff, Int.reduceToNat]
  repeat' (first | (refine And.intro ?_ ?_) | intro _ | (refine callB_intro (spec_IsStrand_ok _) rfl trivial ?_; try (simp (disch := exact eqId (by kernel_rfl)) only [go_sem, ↓reduceIte, Nat.reduceAdd, Nat.reduceMul, Nat.reduceLT, Nat.reduceBEq, Nat.reduceLeDiff, Nat.reduceEqDiff, Int.reduceToNat])) | (refine callQ_intro (l20Copy_fr _ hs) ?_; try (simp (disch := exact eqId (by kernel_rfl)) only [go_sem, ↓reduceIte, Nat.reduceAdd, Nat.reduceMul, Nat.reduceLT, Nat.reduceBEq, Nat.reduceLeDiff, Nat.reduceEqDiff, Int.reduceToNat])) | (refine callH_intro (fun hcc => l20Copy_fr _ hs) ?_; try (simp (disch := exact eqId (by kernel_rfl)) only [go_sem, ↓reduceIte, Nat.reduceAdd, Nat.reduceMul, Nat.reduceLT, Nat.reduceBEq, Nat.reduceLeDiff, Nat.reduceEqDiff, Int.reduceToNat])) | (refine callQ_intro (l19Copy_ok _ hr1 hr2) ?_; try (simp (disch := exact eqId (by kernel_rfl)) only [go_sem, ↓reduceIte, Nat.reduceAdd, Nat.reduceMul, Nat.reduceLT, Nat.reduceBEq, Nat.reduceLeDiff, Nat.reduceEqDiff, Int.reduceToNat])) | (refine callH_intro (fun hcc => l19Copy_ok _ hr1 hr2) ?_; try (simp (disch := exact eqId (by kernel_rfl)) only [go_sem, ↓reduceIte, Nat.reduceAdd, Nat.reduceMul, Nat.reduceLT, Nat.reduceBEq, Nat.reduceLeDiff, Nat.reduceEqDiff, Int.reduceToNat])) | (refine callQ_intro (spec_IsStrand_ok _) ?_; try (simp (disch := exact eqId (by kernel_rfl)) only [go_sem, ↓reduceIte, Nat.reduceAdd, Nat.reduceMul, Nat.reduceLT, Nat.reduceBEq, Nat.reduceLeDiff, Nat.reduceEqDiff, Int.reduceToNat])) | (refine callH_intro (fun hcc => spec_IsStrand_ok _) ?_; try (simp (disch := exact eqId (by kernel_rfl)) only [go_sem, ↓reduceIte, Nat.reduceAdd, Nat.reduceMul, Nat.reduceLT, Nat.reduceBEq, Nat.reduceLeDiff, Nat.reduceEqDiff, Int.reduceToNat])))
  all_goals (try omega)
  all_goals (try (simp only [List.length_append, List.length_cons, List.length_nil]; omega))
  all_goals (rename_i hc; first | exact (congrArg (fun x => x.1.1) (arF_y hc)).symm | exact (congrArg (fun x => x.1.2.1) (arF_y hc)).symm | exact (congrArg (fun x => x.2) (arF_y hc)).symm | exact (congrArg (fun x => x.1.1) (arF_n hc)).symm | exact (congrArg (fun x => x.1.2.1) (arF_n hc)).symm | exact (congrArg (fun x => x.2) (arF_n hc)).symm | trace_state)
theorem spec_DocDigests_ok (s : tStrand.den) (e : tDocument.den) (hs : Small tStrand 1048576 s) : FunOK Try.prog 12 [⟨tStrand, s⟩, ⟨tDocument, e⟩] (.own 3 I (dsF s e)) := by
  have h2 := (sm_ch hs).1
  refine fun_of (tb := tb) follows Try.func12 (by kernel_rfl) Try.ntmps12 rfl rfl rfl ?_; intro cx hN hw
  simp (disch := exact eqId (by kernel_rfl)) only [go_sem, ↓reduceIte, Nat.reduceAdd, Nat.reduceMul, Nat.reduceLT, Nat.reduceBEq, Nat.reduceLeDiff, Nat.reduceEqDiff, Int.reduceToNat]
  refine loop_intro (tb := tb) follows hN (D := Nat) (fun d => shp [(2, .bp 10000 0), (3, .bp 10016 0), (5, .own 20000), (6, .rd I (d : Int))] [(10000, .box 36 [.rd (.list tPiece) (s.1), .rd (.list tRenewal) (s.2.1)]), (10016, .box 38 [.rd I (e.1), .rd (.list .str) (e.2.1), .rd (.list I) (e.2.2.1)]), (20000, .row 3 I ((List.take d s.2.1).map (fun r => ddF r.2.1 e)))]) (fun d => d ≤ List.length s.2.1) (fun d => List.length s.2.1 - d) (0) ?_ (sub_shp hN [(10000, some 10000), (10016, some 10016), (20000, some 20000)] ?_) (fun d hd => ?_)
  · exact Nat.zero_le _
  · simp (disch := exact eqId (by kernel_rfl)) only [go_sem, ↓reduceIte, Nat.reduceAdd, Nat.reduceMul, Nat.reduceLT, Nat.reduceBEq, Nat.reduceLeDiff, Nat.reduceEqDiff, Int.reduceToNat]
    try exact ⟨rfl, rfl⟩
    try rfl
  · simp (disch := exact eqId (by kernel_rfl)) only [go_sem, ↓reduceIte, Nat.reduceAdd, Nat.reduceMul, Nat.reduceLT, Nat.reduceBEq, Nat.reduceLeDiff, Nat.reduceEqDiff, Int.reduceToNat]
    repeat' (first | (refine And.intro ?_ ?_) | intro _ | (refine callQ_intro (spec_DocDigest_ok _ _) ?_; try (simp (disch := exact eqId (by kernel_rfl)) only [go_sem, ↓reduceIte, Nat.reduceAdd, Nat.reduceMul, Nat.reduceLT, Nat.reduceBEq, Nat.reduceLeDiff, Nat.reduceEqDiff, Int.reduceToNat])) | (refine callH_intro (fun hcc => spec_DocDigest_ok _ _) ?_; try (simp (disch := exact eqId (by kernel_rfl)) only [go_sem, ↓reduceIte, Nat.reduceAdd, Nat.reduceMul, Nat.reduceLT, Nat.reduceBEq, Nat.reduceLeDiff, Nat.reduceEqDiff, Int.reduceToNat])))
    all_goals (try omega)
    all_goals (try (simp only [List.length_append, List.length_cons, List.length_nil, List.length_take, List.length_map]; omega))
    · rename_i hk
      refine back_intro (d + 1) ?_ ?_ (sub_shp hN [(10000, some 10000), (10016, some 10016), (20000, some 60160)] ?_)
      · omega
      · omega
      · simp (disch := exact eqId (by kernel_rfl)) only [go_sem, ↓reduceIte, Nat.reduceAdd, Nat.reduceMul, Nat.reduceLT, Nat.reduceBEq, Nat.reduceLeDiff, Nat.reduceEqDiff, Int.reduceToNat]
        refine ⟨?_, wrap_succ' (by omega)⟩
        rw [← take_snoc (show d < List.length s.2.1 by omega) (0, 0, 0, [], [], ()), List.map_append]
        rfl
    · rename_i hk
      rw [List.take_of_length_le (by omega)]
      rfl
end Go.Proofs.Ytfkdkblbhilghaa
/- What functions of documents answer, the program's side. It proves nothing of a statement by itself. -/
set_option linter.unusedSimpArgs false
set_option linter.unusedVariables false
set_option maxRecDepth 100000
namespace Go.Proofs.Ytfkdkblbhilghaa
open Go.AL
theorem impl_bytesOf_ok (l : List Int) (hl : l.length ≤ 1048576) : FunOK Try.prog 144 [⟨(.list (.int .u8)), l⟩] (.own 3 I l) := by
  refine fun_of (tb := tb) follows Try.func144 (by kernel_rfl) Try.ntmps144 rfl rfl rfl ?_; intro cx hN hw
  have hu : ∀ k, k < l.length → 0 ≤ l.getD k 0 ∧ l.getD k 0 ≤ 255 := fun k hk => by
    have h := hw.1.2 k hk
    rw [List.getD_eq_getElem?_getD, List.getElem?_eq_getElem hk]
    exact h
  simp (disch := exact eqId (by kernel_rfl)) only [go_sem, ↓reduceIte, Nat.reduceAdd, Nat.reduceMul, Nat.reduceLT, Nat.reduceBEq, Nat.reduceLeDiff, Nat.reduceEqDiff, Int.reduceToNat]
  refine loop_intro (tb := tb) follows hN (D := Nat) (fun d => shp [(3, .own 20000), (6, .rd (.list (.int .u8)) (l)), (7, .rd I (((l).length : Int) : Int)), (8, .rd I (d : Int))] [(20000, .row 3 I (l.take d))]) (fun d => d ≤ l.length) (fun d => l.length - d) (0) ?_ (sub_shp hN [(20000, none)] ?_) (fun d hd => ?_)
  · exact Nat.zero_le _
  · simp (disch := exact eqId (by kernel_rfl)) only [go_sem, ↓reduceIte, Nat.reduceAdd, Nat.reduceMul, Nat.reduceLT, Nat.reduceBEq, Nat.reduceLeDiff, Nat.reduceEqDiff, Int.reduceToNat]
    try exact ⟨rfl, rfl⟩
    try rfl
  · simp (disch := exact eqId (by kernel_rfl)) only [go_sem, ↓reduceIte, Nat.reduceAdd, Nat.reduceMul, Nat.reduceLT, Nat.reduceBEq, Nat.reduceLeDiff, Nat.reduceEqDiff, Int.reduceToNat]
    repeat' (first | (refine And.intro ?_ ?_) | intro _)
    all_goals (try omega)
    all_goals (try (simp only [List.length_append, List.length_cons, List.length_nil, List.length_take]; omega))
    · rename_i hk
      have hk : d < l.length := by omega
      refine back_intro (d + 1) ?_ ?_ (sub_shp hN [(20000, some 60064)] ?_)
      · omega
      · omega
      · simp (disch := exact eqId (by kernel_rfl)) only [go_sem, ↓reduceIte, Nat.reduceAdd, Nat.reduceMul, Nat.reduceLT, Nat.reduceBEq, Nat.reduceLeDiff, Nat.reduceEqDiff, Int.reduceToNat]
        refine ⟨?_, wrap_succ' (by omega)⟩
        have := hu d hk
        rw [wrap_i64 (by omega) (by omega)]
        exact take_snoc hk _
    · rename_i hk
      rw [List.take_of_length_le (by omega)]
theorem impl_PartDigest_ok (m : Int) (p : ByteArray) (t : Int) (hp : p.size ≤ 1000000) : FunOK Try.prog 119 [⟨I, m⟩, ⟨.str, p⟩, ⟨I, t⟩] (.rd I (ptF m p t)) := by
  refine fun_of (tb := tb) follows Try.func119 (by kernel_rfl) Try.ntmps119 rfl rfl rfl ?_; intro cx hN hw
  simp (disch := exact eqId (by kernel_rfl)) only [go_sem, ↓reduceIte, Nat.reduceAdd, Nat.reduceMul, Nat.reduceLT, Nat.reduceBEq, Nat.reduceLeDiff, Nat.reduceEqDiff, Int.reduceToNat]
  have hl : (byL p).length ≤ 1048576 := by rw [byL_len]; omega
  have hlD : (t :: byL p).length ≤ 1073741824 := by rw [List.length_cons]; omega
  repeat' (first | (refine And.intro ?_ ?_) | intro _ | (refine callQ_intro (impl_bytesOf_ok _ hl) ?_; try (simp (disch := exact eqId (by kernel_rfl)) only [go_sem, ↓reduceIte, Nat.reduceAdd, Nat.reduceMul, Nat.reduceLT, Nat.reduceBEq, Nat.reduceLeDiff, Nat.reduceEqDiff, Int.reduceToNat])) | (refine callH_intro (fun hcc => impl_bytesOf_ok _ hl) ?_; try (simp (disch := exact eqId (by kernel_rfl)) only [go_sem, ↓reduceIte, Nat.reduceAdd, Nat.reduceMul, Nat.reduceLT, Nat.reduceBEq, Nat.reduceLeDiff, Nat.reduceEqDiff, Int.reduceToNat])) | (refine callQ_intro (impl_DigestOf_ok _ _ hlD) ?_; try (simp (disch := exact eqId (by kernel_rfl)) only [go_sem, ↓reduceIte, Nat.reduceAdd, Nat.reduceMul, Nat.reduceLT, Nat.reduceBEq, Nat.reduceLeDiff, Nat.reduceEqDiff, Int.reduceToNat])) | (refine callH_intro (fun hcc => impl_DigestOf_ok _ _ hlD) ?_; try (simp (disch := exact eqId (by kernel_rfl)) only [go_sem, ↓reduceIte, Nat.reduceAdd, Nat.reduceMul, Nat.reduceLT, Nat.reduceBEq, Nat.reduceLeDiff, Nat.reduceEqDiff, Int.reduceToNat])))
  all_goals (try omega)
  all_goals (try (simp only [List.length_append, List.length_cons, List.length_nil]; omega))
  all_goals (try rfl)
theorem isD_f1 {e : tDocument.den} {k : Nat} (hk : k < e.2.1.length) (h : pOK (e.2.1.getD k ByteArray.empty) = false) : isD e = false := by
  have : e.2.1.all pOK = false := by
    rw [← Bool.not_eq_true]
    intro h9
    rw [List.all_eq_true] at h9
    rw [h9 _ (getD_mem hk _)] at h
    cases h
  unfold isD
  rw [this]
  rfl
theorem isD_f2 {e : tDocument.den} {k : Nat} (hk : k < e.2.2.1.length) (h : inB (e.2.2.1.getD k 0) 1 1000000000000 = false) : isD e = false := by
  have : e.2.2.1.all (fun x => inB x 1 1000000000000) = false := by
    rw [← Bool.not_eq_true]
    intro h9
    rw [List.all_eq_true] at h9
    rw [h9 _ (getD_mem hk _)] at h
    cases h
  unfold isD
  rw [this]
  simp
theorem isD_t {e : tDocument.den} (h1 : inB e.1 0 999 = true) (h2 : inB (e.2.1.length : Int) 1 6 = true) (h3 : e.2.2.1.length = e.2.1.length) (h : ∀ k, k < e.2.1.length → pOK (e.2.1.getD k ByteArray.empty) = true ∧ inB (e.2.2.1.getD k 0) 1 1000000000000 = true) : isD e = true := by
  have a1 : e.2.1.all pOK = true := by
    rw [List.all_eq_true]
    intro x hx
    obtain ⟨k, hk, rfl⟩ := List.mem_iff_getElem.1 hx
    have := (h k hk).1
    rwa [List.getD_eq_getElem?_getD, List.getElem?_eq_getElem hk] at this
  have a2 : e.2.2.1.all (fun x => inB x 1 1000000000000) = true := by
    rw [List.all_eq_true]
    intro x hx
    obtain ⟨k, hk, rfl⟩ := List.mem_iff_getElem.1 hx
    have := (h k (by omega)).2
    rwa [List.getD_eq_getElem?_getD, List.getElem?_eq_getElem hk] at this
  unfold isD
  rw [a1, a2, h1, h2, h3]
  simp
theorem impl_IsDocument_ok (e : tDocument.den) : FunOK Try.prog 118 [⟨tDocument, e⟩] (.rd .bool (isD e)) := by
  refine fun_of (tb := tb) follows Try.func118 (by kernel_rfl) Try.ntmps118 rfl rfl rfl ?_; intro cx hN hw
  simp (disch := exact eqId (by kernel_rfl)) only [go_sem, ↓reduceIte, Nat.reduceAdd, Nat.reduceMul, Nat.reduceLT, Nat.reduceBEq, Nat.reduceLeDiff, Nat.reduceEqDiff, Int.reduceToNat]
  have hp1 : e.2.1.length ≤ maxLen := hw.1.2.1.1
  repeat' (first | (refine And.intro ?_ ?_) | intro _ | (refine callQ_intro (inRange_ok _ _ _) ?_; try (simp (disch := exact eqId (by kernel_rfl)) only [go_sem, ↓reduceIte, Nat.reduceAdd, Nat.reduceMul, Nat.reduceLT, Nat.reduceBEq, Nat.reduceLeDiff, Nat.reduceEqDiff, Int.reduceToNat])) | (refine callH_intro (fun hcc => inRange_ok _ _ _) ?_; try (simp (disch := exact eqId (by kernel_rfl)) only [go_sem, ↓reduceIte, Nat.reduceAdd, Nat.reduceMul, Nat.reduceLT, Nat.reduceBEq, Nat.reduceLeDiff, Nat.reduceEqDiff, Int.reduceToNat])))
  all_goals (try omega)
  · rename_i hc
    have hf : (inB e.1 0 999 && inB (e.2.1.length : Int) 1 6 && ((e.2.2.1.length : Int) == (e.2.1.length : Int))) = false := by
      rw [← Bool.not_eq_true]
      intro h
      simp only [inB, Bool.and_eq_true, decide_eq_true_eq, beq_iff_eq] at h
      omega
    unfold isD
    symm
    rw [← Bool.not_eq_true] at hf ⊢
    intro h
    refine hf ?_
    simp only [Bool.and_eq_true] at h ⊢
    exact ⟨⟨h.2.2.1, h.2.2.2.1⟩, h.2.2.2.2⟩
  · rename_i hc
    refine loop_intro (tb := tb) follows hN (D := Nat) (fun d => shp [(1, .bp 10000 0), (26, .rd (.list .str) (e.2.1)), (27, .rd I (((e.2.1).length : Int) : Int)), (28, .rd I (d : Int))] [(10000, .box 38 [.rd I (e.1), .rd (.list .str) (e.2.1), .rd (.list I) (e.2.2.1)])]) (fun d => d ≤ e.2.1.length ∧ ∀ j, j < d → pOK (e.2.1.getD j ByteArray.empty) = true ∧ inB (e.2.2.1.getD j 0) 1 1000000000000 = true) (fun d => e.2.1.length - d) (0) ?_ (sub_shp hN [(10000, some 10000)] ?_) (fun d hd => ?_)
    · exact ⟨Nat.zero_le _, fun j hj => absurd hj (Nat.not_lt_zero j)⟩
    · simp (disch := exact eqId (by kernel_rfl)) only [go_sem, ↓reduceIte, Nat.reduceAdd, Nat.reduceMul, Nat.reduceLT, Nat.reduceBEq, Nat.reduceLeDiff, Nat.reduceEqDiff, Int.reduceToNat]
      try rfl
    · obtain ⟨h1, h2⟩ := hd
      simp (disch := exact eqId (by kernel_rfl)) only [go_sem, ↓reduceIte, Nat.reduceAdd, Nat.reduceMul, Nat.reduceLT, Nat.reduceBEq, Nat.reduceLeDiff, Nat.reduceEqDiff, Int.reduceToNat]
      repeat' (first | (refine And.intro ?_ ?_) | intro _ | (refine callQ_intro (inRange_ok _ _ _) ?_; try (simp (disch := exact eqId (by kernel_rfl)) only [go_sem, ↓reduceIte, Nat.reduceAdd, Nat.reduceMul, Nat.reduceLT, Nat.reduceBEq, Nat.reduceLeDiff, Nat.reduceEqDiff, Int.reduceToNat])) | (refine callH_intro (fun hcc => inRange_ok _ _ _) ?_; try (simp (disch := exact eqId (by kernel_rfl)) only [go_sem, ↓reduceIte, Nat.reduceAdd, Nat.reduceMul, Nat.reduceLT, Nat.reduceBEq, Nat.reduceLeDiff, Nat.reduceEqDiff, Int.reduceToNat])))
      all_goals (try omega)
      · rename_i hk hx
        have hk : d < e.2.1.length := by omega
        rcases hx with hx | hx
        · exact (isD_f1 hk (decide_eq_false (Int.not_le.2 hx))).symm
        · exact (isD_f2 (k := d) (by omega) (inB_f.mpr (by omega))).symm
      · rename_i hk hx
        have hk : d < e.2.1.length := by omega
        refine back_intro (d + 1) ?_ ?_ (sub_shp hN [(10000, some 10000)] ?_)
        · refine ⟨hk, fun j hj => ?_⟩
          rcases Nat.lt_or_ge j d with h | h
          · exact h2 j h
          · rw [show j = d by omega]
            exact ⟨decide_eq_true (Int.not_lt.1 hx.1), inB_t.mpr hx.2⟩
        · omega
        · simp (disch := exact eqId (by kernel_rfl)) only [go_sem, ↓reduceIte, Nat.reduceAdd, Nat.reduceMul, Nat.reduceLT, Nat.reduceBEq, Nat.reduceLeDiff, Nat.reduceEqDiff, Int.reduceToNat]
          exact wrap_succ hk hp1
      · rename_i hk
        have hd2 : d = e.2.1.length := by omega
        subst hd2
        exact (isD_t (inB_t.mpr hc.1.1) (inB_t.mpr hc.1.2) (by omega) h2).symm
      all_goals trace_state
theorem impl_DocDigest_ok (m : Int) (e : tDocument.den) : FunOK Try.prog 65 [⟨I, m⟩, ⟨tDocument, e⟩] (.rd I (ddF m e)) := by
  refine fun_of (tb := tb) follows Try.func65 (by kernel_rfl) Try.ntmps65 rfl rfl rfl ?_; intro cx hN hw
  have hm : maxLen = 9223372036854775807 := rfl
  simp (disch := exact eqId (by kernel_rfl)) only [go_sem, ↓reduceIte, Nat.reduceAdd, Nat.reduceMul, Nat.reduceLT, Nat.reduceBEq, Nat.reduceLeDiff, Nat.reduceEqDiff, Int.reduceToNat]
  repeat' (first | (refine And.intro ?_ ?_) | intro _ | (refine callQ_intro (impl_IsDocument_ok _) ?_; try (simp (disch := exact eqId (by kernel_rfl)) only [go_sem, ↓reduceIte, Nat.reduceAdd, Nat.reduceMul, Nat.reduceLT, Nat.reduceBEq, Nat.reduceLeDiff, Nat.reduceEqDiff, Int.reduceToNat])) | (refine callH_intro (fun hcc => impl_IsDocument_ok _) ?_; try (simp (disch := exact eqId (by kernel_rfl)) only [go_sem, ↓reduceIte, Nat.reduceAdd, Nat.reduceMul, Nat.reduceLT, Nat.reduceBEq, Nat.reduceLeDiff, Nat.reduceEqDiff, Int.reduceToNat])))
  · rename_i hc
    unfold ddF
    rw [if_neg (by rw [show isD e = false from hc]; decide)]
  · rename_i hc
    obtain ⟨l1, l2, l3⟩ := isD_len (d := e) hc
    refine loop_intro (tb := tb) follows hN (D := Nat) (fun d => shp [(0, .rd I (m : Int)), (3, .bp 10000 0), (5, .own 40032), (15, .rd (.list .str) (e.2.1)), (16, .rd I (((e.2.1).length : Int) : Int)), (17, .rd I (d : Int))] [(10000, .box 38 [.rd I (e.1), .rd (.list .str) (e.2.1), .rd (.list I) (e.2.2.1)]), (40032, .row 3 I (e.1 :: (ddL m e.2.1 e.2.2.1).take d))]) (fun d => d ≤ e.2.1.length) (fun d => e.2.1.length - d) (0) ?_ (sub_shp hN [(10000, some 10000), (40032, some 40032)] ?_) (fun d hd => ?_)
    · exact Nat.zero_le _
    · simp (disch := exact eqId (by kernel_rfl)) only [go_sem, ↓reduceIte, Nat.reduceAdd, Nat.reduceMul, Nat.reduceLT, Nat.reduceBEq, Nat.reduceLeDiff, Nat.reduceEqDiff, Int.reduceToNat]
      try exact ⟨rfl, rfl⟩
      try rfl
    · have hl := ddL_len m e.2.1 e.2.2.1 l2
      have hlD : ∀ k, (e.1 :: (ddL m e.2.1 e.2.2.1).take k).length ≤ 1073741824 := fun k => by simp only [List.length_cons, List.length_take]; omega
      have hps : ∀ k, k < e.2.1.length → (e.2.1.getD k ByteArray.empty).size ≤ 1000000 := fun k hk => Nat.le_trans (l3 _ (getD_mem hk _)) (by decide)
      simp (disch := exact eqId (by kernel_rfl)) only [go_sem, ↓reduceIte, Nat.reduceAdd, Nat.reduceMul, Nat.reduceLT, Nat.reduceBEq, Nat.reduceLeDiff, Nat.reduceEqDiff, Int.reduceToNat]
      repeat' (first | (refine And.intro ?_ ?_) | intro _ | (refine callQ_intro (impl_DigestOf_ok _ _ (hlD _)) ?_; try (simp (disch := exact eqId (by kernel_rfl)) only [go_sem, ↓reduceIte, Nat.reduceAdd, Nat.reduceMul, Nat.reduceLT, Nat.reduceBEq, Nat.reduceLeDiff, Nat.reduceEqDiff, Int.reduceToNat])) | (refine callH_intro (fun hcc => impl_DigestOf_ok _ _ (hlD _)) ?_; try (simp (disch := exact eqId (by kernel_rfl)) only [go_sem, ↓reduceIte, Nat.reduceAdd, Nat.reduceMul, Nat.reduceLT, Nat.reduceBEq, Nat.reduceLeDiff, Nat.reduceEqDiff, Int.reduceToNat])) | (refine callQ_intro (impl_PartDigest_ok _ _ _ (hps _ (by omega))) ?_; try (simp (disch := exact eqId (by kernel_rfl)) only [go_sem, ↓reduceIte, Nat.reduceAdd, Nat.reduceMul, Nat.reduceLT, Nat.reduceBEq, Nat.reduceLeDiff, Nat.reduceEqDiff, Int.reduceToNat])) | (refine callH_intro (fun hcc => impl_PartDigest_ok _ _ _ (hps _ (by omega))) ?_; try (simp (disch := exact eqId (by kernel_rfl)) only [go_sem, ↓reduceIte, Nat.reduceAdd, Nat.reduceMul, Nat.reduceLT, Nat.reduceBEq, Nat.reduceLeDiff, Nat.reduceEqDiff, Int.reduceToNat])))
      all_goals (try omega)
      all_goals (try (simp only [List.length_append, List.length_cons, List.length_nil, List.length_take]; omega))
      · rename_i hk
        have hk : d < e.2.1.length := by omega
        refine back_intro (d + 1) ?_ ?_ (sub_shp hN [(10000, some 10000), (40032, some 80160)] ?_)
        · omega
        · omega
        · simp (disch := exact eqId (by kernel_rfl)) only [go_sem, ↓reduceIte, Nat.reduceAdd, Nat.reduceMul, Nat.reduceLT, Nat.reduceBEq, Nat.reduceLeDiff, Nat.reduceEqDiff, Int.reduceToNat]
          refine ⟨?_, wrap_succ' (by omega)⟩
          first | exact ddL_step hk l2 | trace_state
      · rename_i hk
        have : d = e.2.1.length := by omega
        subst this
        unfold ddF
        rw [if_pos hc, List.take_of_length_le (by omega)]
      all_goals trace_state
theorem impl_DocDigests_ok (s : tStrand.den) (e : tDocument.den) (hs : Small tStrand 1048576 s) : FunOK Try.prog 15 [⟨tStrand, s⟩, ⟨tDocument, e⟩] (.own 3 I (dsF s e)) := by
  have h2 := (sm_ch hs).1
  refine fun_of (tb := tb) follows Try.func15 (by kernel_rfl) Try.ntmps15 rfl rfl rfl ?_; intro cx hN hw
  simp (disch := exact eqId (by kernel_rfl)) only [go_sem, ↓reduceIte, Nat.reduceAdd, Nat.reduceMul, Nat.reduceLT, Nat.reduceBEq, Nat.reduceLeDiff, Nat.reduceEqDiff, Int.reduceToNat]
  refine loop_intro (tb := tb) follows hN (D := Nat) (fun d => shp [(3, .bp 10016 0), (5, .own 20000), (9, .rd (.list tRenewal) (s.2.1)), (10, .rd I (((s.2.1).length : Int) : Int)), (11, .rd I (d : Int))] [(10016, .box 38 [.rd I (e.1), .rd (.list .str) (e.2.1), .rd (.list I) (e.2.2.1)]), (20000, .row 3 I ((List.take d s.2.1).map (fun r => ddF r.2.1 e)))]) (fun d => d ≤ List.length s.2.1) (fun d => List.length s.2.1 - d) (0) ?_ (sub_shp hN [(10016, some 10016), (20000, none)] ?_) (fun d hd => ?_)
  · exact Nat.zero_le _
  · simp (disch := exact eqId (by kernel_rfl)) only [go_sem, ↓reduceIte, Nat.reduceAdd, Nat.reduceMul, Nat.reduceLT, Nat.reduceBEq, Nat.reduceLeDiff, Nat.reduceEqDiff, Int.reduceToNat]
    try exact ⟨rfl, rfl⟩
    try rfl
  · simp (disch := exact eqId (by kernel_rfl)) only [go_sem, ↓reduceIte, Nat.reduceAdd, Nat.reduceMul, Nat.reduceLT, Nat.reduceBEq, Nat.reduceLeDiff, Nat.reduceEqDiff, Int.reduceToNat]
    repeat' (first | (refine And.intro ?_ ?_) | intro _ | (refine callQ_intro (impl_DocDigest_ok _ _) ?_; try (simp (disch := exact eqId (by kernel_rfl)) only [go_sem, ↓reduceIte, Nat.reduceAdd, Nat.reduceMul, Nat.reduceLT, Nat.reduceBEq, Nat.reduceLeDiff, Nat.reduceEqDiff, Int.reduceToNat])) | (refine callH_intro (fun hcc => impl_DocDigest_ok _ _) ?_; try (simp (disch := exact eqId (by kernel_rfl)) only [go_sem, ↓reduceIte, Nat.reduceAdd, Nat.reduceMul, Nat.reduceLT, Nat.reduceBEq, Nat.reduceLeDiff, Nat.reduceEqDiff, Int.reduceToNat])))
    all_goals (try omega)
    all_goals (try (simp only [List.length_append, List.length_cons, List.length_nil, List.length_take, List.length_map]; omega))
    · rename_i hk
      refine back_intro (d + 1) ?_ ?_ (sub_shp hN [(10016, some 10016), (20000, some 60096)] ?_)
      · omega
      · omega
      · simp (disch := exact eqId (by kernel_rfl)) only [go_sem, ↓reduceIte, Nat.reduceAdd, Nat.reduceMul, Nat.reduceLT, Nat.reduceBEq, Nat.reduceLeDiff, Nat.reduceEqDiff, Int.reduceToNat]
        refine ⟨?_, wrap_succ' (by omega)⟩
        rw [← take_snoc (show d < List.length s.2.1 by omega) (0, 0, 0, [], [], ()), List.map_append]
        rfl
    · rename_i hk
      rw [List.take_of_length_le (by omega)]
      rfl
end Go.Proofs.Ytfkdkblbhilghaa
/- What functions of growing strands answer, the program's side. It proves nothing of a statement by itself. -/
set_option linter.unusedSimpArgs false
set_option linter.unusedVariables false
set_option maxRecDepth 100000
namespace Go.Proofs.Ytfkdkblbhilghaa
open Go.AL
theorem copyInts_ok (l : List Int) (hl : l.length ≤ 1048576) : FunOK Try.prog 126 [⟨(.list I), l⟩] (.own 3 I l) := by
  refine fun_of (tb := tb) follows Try.func126 (by kernel_rfl) Try.ntmps126 rfl rfl rfl ?_; intro cx hN hw
  simp (disch := exact eqId (by kernel_rfl)) only [go_sem, ↓reduceIte, Nat.reduceAdd, Nat.reduceMul, Nat.reduceLT, Nat.reduceBEq, Nat.reduceLeDiff, Nat.reduceEqDiff, Int.reduceToNat]
  repeat' (first | (refine And.intro ?_ ?_) | intro _)
  all_goals (try omega)
theorem copyStamps_ok (l : List tStamp.den) (hl : l.length ≤ 1048576) : FunOK Try.prog 112 [⟨(.list tStamp), l⟩] (.own 155 tStamp l) := by
  refine fun_of (tb := tb) follows Try.func112 (by kernel_rfl) Try.ntmps112 rfl rfl rfl ?_; intro cx hN hw
  simp (disch := exact eqId (by kernel_rfl)) only [go_sem, ↓reduceIte, Nat.reduceAdd, Nat.reduceMul, Nat.reduceLT, Nat.reduceBEq, Nat.reduceLeDiff, Nat.reduceEqDiff, Int.reduceToNat]
  repeat' (first | (refine And.intro ?_ ?_) | intro _)
  all_goals (try omega)
theorem copyPiece_ok (p : tPiece.den) (hp : p.2.1.length ≤ 1048576) : FunOK Try.prog 76 [⟨tPiece, p⟩] (.agg [.rd I p.1, .own 3 I p.2.1, .rd I p.2.2.1]) := by
  refine fun_of (tb := tb) follows Try.func76 (by kernel_rfl) Try.ntmps76 rfl rfl rfl ?_; intro cx hN hw
  simp (disch := exact eqId (by kernel_rfl)) only [go_sem, ↓reduceIte, Nat.reduceAdd, Nat.reduceMul, Nat.reduceLT, Nat.reduceBEq, Nat.reduceLeDiff, Nat.reduceEqDiff, Int.reduceToNat]
  repeat' (first | (refine And.intro ?_ ?_) | intro _ | (refine callQ_intro (copyInts_ok _ hp) ?_; try (simp (disch := exact eqId (by kernel_rfl)) only [go_sem, ↓reduceIte, Nat.reduceAdd, Nat.reduceMul, Nat.reduceLT, Nat.reduceBEq, Nat.reduceLeDiff, Nat.reduceEqDiff, Int.reduceToNat])) | (refine callH_intro (fun hcc => copyInts_ok _ hp) ?_; try (simp (disch := exact eqId (by kernel_rfl)) only [go_sem, ↓reduceIte, Nat.reduceAdd, Nat.reduceMul, Nat.reduceLT, Nat.reduceBEq, Nat.reduceLeDiff, Nat.reduceEqDiff, Int.reduceToNat])))
  all_goals (try omega)
theorem copyRenewal_ok (r : tRenewal.den) (h1 : r.2.2.2.1.length ≤ 1048576) (h2 : r.2.2.2.2.1.length ≤ 1048576) : FunOK Try.prog 85 [⟨tRenewal, r⟩] (.agg [.rd I r.1, .rd I r.2.1, .rd I r.2.2.1, .own 151 tStep r.2.2.2.1, .own 155 tStamp r.2.2.2.2.1]) := by
  refine fun_of (tb := tb) follows Try.func85 (by kernel_rfl) Try.ntmps85 rfl rfl rfl ?_; intro cx hN hw
  simp (disch := exact eqId (by kernel_rfl)) only [go_sem, ↓reduceIte, Nat.reduceAdd, Nat.reduceMul, Nat.reduceLT, Nat.reduceBEq, Nat.reduceLeDiff, Nat.reduceEqDiff, Int.reduceToNat]
  repeat' (first | (refine And.intro ?_ ?_) | intro _ | (refine callQ_intro (copyStamps_ok _ h2) ?_; try (simp (disch := exact eqId (by kernel_rfl)) only [go_sem, ↓reduceIte, Nat.reduceAdd, Nat.reduceMul, Nat.reduceLT, Nat.reduceBEq, Nat.reduceLeDiff, Nat.reduceEqDiff, Int.reduceToNat])) | (refine callH_intro (fun hcc => copyStamps_ok _ h2) ?_; try (simp (disch := exact eqId (by kernel_rfl)) only [go_sem, ↓reduceIte, Nat.reduceAdd, Nat.reduceMul, Nat.reduceLT, Nat.reduceBEq, Nat.reduceLeDiff, Nat.reduceEqDiff, Int.reduceToNat])))
  all_goals (try omega)
theorem copyPieces_ok (l : List tPiece.den) (hl : l.length ≤ 1048576) (hp : ∀ p, p ∈ l → p.2.1.length ≤ 1048576) : FunOK Try.prog 125 [⟨(.list tPiece), l⟩] (.own 52 tPiece l) := by
  refine fun_of (tb := tb) follows Try.func125 (by kernel_rfl) Try.ntmps125 rfl rfl rfl ?_; intro cx hN hw
  simp (disch := exact eqId (by kernel_rfl)) only [go_sem, ↓reduceIte, Nat.reduceAdd, Nat.reduceMul, Nat.reduceLT, Nat.reduceBEq, Nat.reduceLeDiff, Nat.reduceEqDiff, Int.reduceToNat]
  refine loop_intro (tb := tb) follows hN (D := Nat) (fun d => shp [(3, .own 20000), (6, .rd (.list tPiece) (l)), (7, .rd I (((l).length : Int) : Int)), (8, .rd I (d : Int))] [(20000, .row 52 tPiece (l.take d))]) (fun d => d ≤ l.length) (fun d => l.length - d) (0) ?_ (sub_shp hN [(20000, none)] ?_) (fun d hd => ?_)
  · exact Nat.zero_le _
  · simp (disch := exact eqId (by kernel_rfl)) only [go_sem, ↓reduceIte, Nat.reduceAdd, Nat.reduceMul, Nat.reduceLT, Nat.reduceBEq, Nat.reduceLeDiff, Nat.reduceEqDiff, Int.reduceToNat]
    try exact ⟨rfl, rfl⟩
    try rfl
  · simp (disch := exact eqId (by kernel_rfl)) only [go_sem, ↓reduceIte, Nat.reduceAdd, Nat.reduceMul, Nat.reduceLT, Nat.reduceBEq, Nat.reduceLeDiff, Nat.reduceEqDiff, Int.reduceToNat]
    repeat' (first | (refine And.intro ?_ ?_) | intro _ | (refine callQ_intro (copyPiece_ok _ (hp _ (getD_mem (by omega) _))) ?_; try (simp (disch := exact eqId (by kernel_rfl)) only [go_sem, ↓reduceIte, Nat.reduceAdd, Nat.reduceMul, Nat.reduceLT, Nat.reduceBEq, Nat.reduceLeDiff, Nat.reduceEqDiff, Int.reduceToNat])) | (refine callH_intro (fun hcc => copyPiece_ok _ (hp _ (getD_mem (by omega) _))) ?_; try (simp (disch := exact eqId (by kernel_rfl)) only [go_sem, ↓reduceIte, Nat.reduceAdd, Nat.reduceMul, Nat.reduceLT, Nat.reduceBEq, Nat.reduceLeDiff, Nat.reduceEqDiff, Int.reduceToNat])))
    all_goals (try omega)
    all_goals (try (simp only [List.length_append, List.length_cons, List.length_nil, List.length_take]; omega))
    · rename_i hk
      refine back_intro (d + 1) ?_ ?_ (sub_shp hN [(20000, some 60064)] ?_)
      · omega
      · omega
      · simp (disch := exact eqId (by kernel_rfl)) only [go_sem, ↓reduceIte, Nat.reduceAdd, Nat.reduceMul, Nat.reduceLT, Nat.reduceBEq, Nat.reduceLeDiff, Nat.reduceEqDiff, Int.reduceToNat]
        refine ⟨?_, wrap_succ' (by omega)⟩
        exact take_snoc (show d < l.length by omega) _
    · rename_i hk
      rw [List.take_of_length_le (by omega)]
    all_goals trace_state
theorem copyStrand_ok (s : tStrand.den) (hs : Small tStrand 1048576 s) : FunOK Try.prog 75 [⟨tStrand, s⟩] (.agg [.own 52 tPiece s.1, .own 66 tRenewal s.2.1]) := by
  obtain ⟨h1, h2⟩ := sm_pc hs
  obtain ⟨h3, h4⟩ := sm_ch hs
  refine fun_of (tb := tb) follows Try.func75 (by kernel_rfl) Try.ntmps75 rfl rfl rfl ?_; intro cx hN hw
  simp (disch := exact eqId (by kernel_rfl)) only [go_sem, ↓reduceIte, Nat.reduceAdd, Nat.reduceMul, Nat.reduceLT, Nat.reduceBEq, Nat.reduceLeDiff, Nat.reduceEqDiff, Int.reduceToNat]
  repeat' (first | (refine And.intro ?_ ?_) | intro _ | (refine callQ_intro (copyPieces_ok _ h1 h2) ?_; try (simp (disch := exact eqId (by kernel_rfl)) only [go_sem, ↓reduceIte, Nat.reduceAdd, Nat.reduceMul, Nat.reduceLT, Nat.reduceBEq, Nat.reduceLeDiff, Nat.reduceEqDiff, Int.reduceToNat])) | (refine callH_intro (fun hcc => copyPieces_ok _ h1 h2) ?_; try (simp (disch := exact eqId (by kernel_rfl)) only [go_sem, ↓reduceIte, Nat.reduceAdd, Nat.reduceMul, Nat.reduceLT, Nat.reduceBEq, Nat.reduceLeDiff, Nat.reduceEqDiff, Int.reduceToNat])))
  refine loop_intro (tb := tb) follows hN (D := Nat) (fun d => shp [(2, .bp 10016 0), (3, .bp 20064 0), (11, .rd (.list tRenewal) (s.2.1)), (12, .rd I (((s.2.1).length : Int) : Int)), (13, .rd I (d : Int))] [(10016, .box 36 [.nils, .nils]), (20032, .row 52 tPiece s.1), (20064, .box 36 [.own 20032, .own 90000]), (90000, .row 66 tRenewal (List.take d s.2.1))]) (fun d => d ≤ List.length s.2.1) (fun d => List.length s.2.1 - d) (0) ?_ (sub_shp hN [(10016, some 10016), (20064, some 20064), (20032, some 20032), (90000, none)] ?_) (fun d hd => ?_)
  · exact Nat.zero_le _
  · simp (disch := exact eqId (by kernel_rfl)) only [go_sem, ↓reduceIte, Nat.reduceAdd, Nat.reduceMul, Nat.reduceLT, Nat.reduceBEq, Nat.reduceLeDiff, Nat.reduceEqDiff, Int.reduceToNat]
    try exact ⟨rfl, rfl⟩
    try rfl
  · simp (disch := exact eqId (by kernel_rfl)) only [go_sem, ↓reduceIte, Nat.reduceAdd, Nat.reduceMul, Nat.reduceLT, Nat.reduceBEq, Nat.reduceLeDiff, Nat.reduceEqDiff, Int.reduceToNat]
    repeat' (first | (refine And.intro ?_ ?_) | intro _ | (refine callQ_intro (copyRenewal_ok _ (h4 _ (getD_mem (by omega) _)).1 (h4 _ (getD_mem (by omega) _)).2) ?_; try (simp (disch := exact eqId (by kernel_rfl)) only [go_sem, ↓reduceIte, Nat.reduceAdd, Nat.reduceMul, Nat.reduceLT, Nat.reduceBEq, Nat.reduceLeDiff, Nat.reduceEqDiff, Int.reduceToNat])) | (refine callH_intro (fun hcc => copyRenewal_ok _ (h4 _ (getD_mem (by omega) _)).1 (h4 _ (getD_mem (by omega) _)).2) ?_; try (simp (disch := exact eqId (by kernel_rfl)) only [go_sem, ↓reduceIte, Nat.reduceAdd, Nat.reduceMul, Nat.reduceLT, Nat.reduceBEq, Nat.reduceLeDiff, Nat.reduceEqDiff, Int.reduceToNat])))
    all_goals (try omega)
    all_goals (try (simp only [List.length_append, List.length_cons, List.length_nil, List.length_take]; omega))
    · rename_i hk
      refine back_intro (d + 1) ?_ ?_ (sub_shp hN [(10016, some 10016), (20064, some 20064), (20032, some 20032), (90000, some 60080)] ?_)
      · omega
      · omega
      · simp (disch := exact eqId (by kernel_rfl)) only [go_sem, ↓reduceIte, Nat.reduceAdd, Nat.reduceMul, Nat.reduceLT, Nat.reduceBEq, Nat.reduceLeDiff, Nat.reduceEqDiff, Int.reduceToNat]
        refine ⟨?_, wrap_succ' (by omega)⟩
        exact take_snoc (show d < List.length s.2.1 by omega) _
    · rename_i hk
      rw [List.take_of_length_le (by omega)]
    all_goals trace_state
theorem impl_AddPiece_ok (s : tStrand.den) (p : tPiece.den) (hs : Small tStrand 1048576 s) (hp : p.2.1.length ≤ 1048576) : FunOK Try.prog 26 [⟨tStrand, s⟩, ⟨tPiece, p⟩] (.tup [.agg [.own 52 tPiece (apF s p).1.1, .own 66 tRenewal (apF s p).1.2.1], .rd .bool (apF s p).2]) := by
  have h1 := (sm_pc hs).1
  have h2 := (sm_ch hs).1
  refine fun_of (tb := tb) follows Try.func26 (by kernel_rfl) Try.ntmps26 rfl rfl rfl ?_; intro cx hN hw
  simp (disch := exact eqId (by kernel_rfl)) only [go_sem, ↓reduceIte, Nat.reduceAdd, Nat.reduceMul, Nat.reduceLT, Nat.reduceBEq, Nat.reduceLeDiff, Nat.reduceEqDiff, Int.reduceToNat]
  repeat' (first | (refine And.intro ?_ ?_) | intro _ | (refine callQ_intro (copyStrand_ok _ hs) ?_; try (simp (disch := exact eqId (by kernel_rfl)) only [go_sem, ↓reduceIte, Nat.reduceAdd, Nat.reduceMul, Nat.reduceLT, Nat.reduceBEq, Nat.reduceLeDiff, Nat.reduceEqDiff, Int.reduceToNat])) | (refine callH_intro (fun hcc => copyStrand_ok _ hs) ?_; try (simp (disch := exact eqId (by kernel_rfl)) only [go_sem, ↓reduceIte, Nat.reduceAdd, Nat.reduceMul, Nat.reduceLT, Nat.reduceBEq, Nat.reduceLeDiff, Nat.reduceEqDiff, Int.reduceToNat])) | (refine callQ_intro (copyPiece_ok _ hp) ?_; try (simp (disch := exact eqId (by kernel_rfl)) only [go_sem, ↓reduceIte, Nat.reduceAdd, Nat.reduceMul, Nat.reduceLT, Nat.reduceBEq, Nat.reduceLeDiff, Nat.reduceEqDiff, Int.reduceToNat])) | (refine callH_intro (fun hcc => copyPiece_ok _ hp) ?_; try (simp (disch := exact eqId (by kernel_rfl)) only [go_sem, ↓reduceIte, Nat.reduceAdd, Nat.reduceMul, Nat.reduceLT, Nat.reduceBEq, Nat.reduceLeDiff, Nat.reduceEqDiff, Int.reduceToNat])) | (refine callQ_intro (impl_IsStrand_ok _) ?_; try (simp (disch := exact eqId (by kernel_rfl)) only [go_sem, ↓reduceIte, Nat.reduceAdd, Nat.reduceMul, Nat.reduceLT, Nat.reduceBEq, Nat.reduceLeDiff, Nat.reduceEqDiff, Int.reduceToNat])) | (refine callH_intro (fun hcc => impl_IsStrand_ok _) ?_; try (simp (disch := exact eqId (by kernel_rfl)) only [go_sem, ↓reduceIte, Nat.reduceAdd, Nat.reduceMul, Nat.reduceLT, Nat.reduceBEq, Nat.reduceLeDiff, Nat.reduceEqDiff, Int.reduceToNat])))
  all_goals (try omega)
  all_goals (try (simp only [List.length_append, List.length_cons, List.length_nil]; omega))
  all_goals (rename_i hc; first | exact (congrArg (fun x => x.1.1) (apF_y hc)).symm | exact (congrArg (fun x => x.1.2.1) (apF_y hc)).symm | exact (congrArg (fun x => x.2) (apF_y hc)).symm | exact (congrArg (fun x => x.1.1) (apF_n hc)).symm | exact (congrArg (fun x => x.1.2.1) (apF_n hc)).symm | exact (congrArg (fun x => x.2) (apF_n hc)).symm | trace_state)
theorem impl_AddRenewal_ok (s : tStrand.den) (r : tRenewal.den) (hs : Small tStrand 1048576 s) (hr1 : r.2.2.2.1.length ≤ 1048576) (hr2 : r.2.2.2.2.1.length ≤ 1048576) : FunOK Try.prog 33 [⟨tStrand, s⟩, ⟨tRenewal, r⟩] (.tup [.agg [.own 52 tPiece (arF s r).1.1, .own 66 tRenewal (arF s r).1.2.1], .rd .bool (arF s r).2]) := by
  have h1 := (sm_pc hs).1
  have h2 := (sm_ch hs).1
  refine fun_of (tb := tb) follows Try.func33 (by kernel_rfl) Try.ntmps33 rfl rfl rfl ?_; intro cx hN hw
  simp (disch := exact eqId (by kernel_rfl)) only [go_sem, ↓reduceIte, Nat.reduceAdd, Nat.reduceMul, Nat.reduceLT, Nat.reduceBEq, Nat.reduceLeDiff, Nat.reduceEqDiff, Int.reduceToNat]
  repeat' (first | (refine And.intro ?_ ?_) | intro _ | (refine callQ_intro (copyStrand_ok _ hs) ?_; try (simp (disch := exact eqId (by kernel_rfl)) only [go_sem, ↓reduceIte, Nat.reduceAdd, Nat.reduceMul, Nat.reduceLT, Nat.reduceBEq, Nat.reduceLeDiff, Nat.reduceEqDiff, Int.reduceToNat])) | (refine callH_intro (fun hcc => copyStrand_ok _ hs) ?_; try (simp (disch := exact eqId (by kernel_rfl)) only [go_sem, ↓reduceIte, Nat.reduceAdd, Nat.reduceMul, Nat.reduceLT, Nat.reduceBEq, Nat.reduceLeDiff, Nat.reduceEqDiff, Int.reduceToNat])) | (refine callQ_intro (copyRenewal_ok _ hr1 hr2) ?_; try (simp (disch := exact eqId (by kernel_rfl)) only [go_sem, ↓reduceIte, Nat.reduceAdd, Nat.reduceMul, Nat.reduceLT, Nat.reduceBEq, Nat.reduceLeDiff, Nat.reduceEqDiff, Int.reduceToNat])) | (refine callH_intro (fun hcc => copyRenewal_ok _ hr1 hr2) ?_; try (simp (disch := exact eqId (by kernel_rfl)) only [go_sem, ↓reduceIte, Nat.reduceAdd, Nat.reduceMul, Nat.reduceLT, Nat.reduceBEq, Nat.reduceLeDiff, Nat.reduceEqDiff, Int.reduceToNat])) | (refine callQ_intro (impl_IsStrand_ok _) ?_; try (simp (disch := exact eqId (by kernel_rfl)) only [go_sem, ↓reduceIte, Nat.reduceAdd, Nat.reduceMul, Nat.reduceLT, Nat.reduceBEq, Nat.reduceLeDiff, Nat.reduceEqDiff, Int.reduceToNat])) | (refine callH_intro (fun hcc => impl_IsStrand_ok _) ?_; try (simp (disch := exact eqId (by kernel_rfl)) only [go_sem, ↓reduceIte, Nat.reduceAdd, Nat.reduceMul, Nat.reduceLT, Nat.reduceBEq, Nat.reduceLeDiff, Nat.reduceEqDiff, Int.reduceToNat])))
  all_goals (try omega)
  all_goals (try (simp only [List.length_append, List.length_cons, List.length_nil]; omega))
  all_goals (rename_i hc; first | exact (congrArg (fun x => x.1.1) (arF_y hc)).symm | exact (congrArg (fun x => x.1.2.1) (arF_y hc)).symm | exact (congrArg (fun x => x.2) (arF_y hc)).symm | exact (congrArg (fun x => x.1.1) (arF_n hc)).symm | exact (congrArg (fun x => x.1.2.1) (arF_n hc)).symm | exact (congrArg (fun x => x.2) (arF_n hc)).symm | trace_state)
end Go.Proofs.Ytfkdkblbhilghaa
