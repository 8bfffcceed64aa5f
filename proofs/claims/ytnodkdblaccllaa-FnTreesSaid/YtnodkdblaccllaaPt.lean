/- Plain maths of trees: a leaf leads to the root by its path, the next number does not. It proves nothing of a statement by itself. -/
import Derived.Test.YtnodkdblaccllaaF12
set_option linter.unusedSimpArgs false
set_option linter.unusedVariables false
namespace Go.Proofs.Ytnodkdblaccllaa
open Go.AL
theorem tmod_eq (n : Int) : ∃ q, n = 2147483647 * q + n.tmod 2147483647 ∧ (0 ≤ n → 0 ≤ n.tmod 2147483647) ∧ (n ≤ 0 → n.tmod 2147483647 ≤ 0) ∧ -2147483647 < n.tmod 2147483647 ∧ n.tmod 2147483647 < 2147483647 := by
  refine ⟨n.tdiv 2147483647, (Int.mul_tdiv_add_tmod n 2147483647).symm, fun h => Int.tmod_nonneg _ h, fun h => ?_, ?_, Int.tmod_lt_of_pos n (by decide)⟩
  · have := Int.tmod_nonneg (a := -n) 2147483647 (by omega)
    rw [Int.neg_tmod] at this
    omega
  · have := Int.tmod_lt_of_pos (-n) (b := 2147483647) (by decide)
    rw [Int.neg_tmod] at this
    omega
theorem tmod_pos {n : Int} (h : 0 ≤ n) : n.tmod 2147483647 = n % 2147483647 := Int.tmod_eq_emod_of_nonneg h
theorem modF_eq (v : Int) : modF v 2147483647 = v % 2147483647 := by
  obtain ⟨q, h1, h2, h3, h4, h5⟩ := tmod_eq v
  unfold modF
  rw [if_pos (by decide), wrap_i64 (by omega) (by omega), tmod_pos (by omega)]
  omega
theorem step_eq {h v : Int} (h0 : 0 ≤ h) (h1 : h < 2147483647) : hashStep h v = (h * 1000003 + v % 2147483647 + 13) % 2147483647 := by
  have := Int.emod_nonneg v (b := 2147483647) (by decide)
  have := Int.emod_lt_of_pos v (b := 2147483647) (by decide)
  unfold hashStep
  rw [modF_eq, wrap_i64 (n := h * 1000003) (by omega) (by omega), wrap_i64 (n := h * 1000003 + v % 2147483647) (by omega) (by omega), wrap_i64 (by omega) (by omega), tmod_pos (by omega)]
theorem step_in {h v : Int} (h0 : 0 ≤ h) (h1 : h < 2147483647) : 0 ≤ hashStep h v ∧ hashStep h v < 2147483647 := by
  rw [step_eq h0 h1]; omega
theorem inv0 {d k : Int} (h : 1000003 * d = 2147483647 * k) (h1 : -2147483647 < d) (h2 : d < 2147483647) : d = 0 := by
  have e : d = 2147483647 * (1523789695 * k - 709572 * d) := by
    have e1 : 1523789695 * (1000003 * d) = 1523789695 * (2147483647 * k) := by rw [h]
    omega
  generalize 1523789695 * k - 709572 * d = z at e
  omega
theorem em_sub {X Y p : Int} (e : X % p = Y % p) : ∃ k, X - Y = p * k := by
  refine ⟨X / p - Y / p, ?_⟩
  have e1 := Int.mul_ediv_add_emod X p
  have e2 := Int.mul_ediv_add_emod Y p
  rw [Int.mul_sub]
  omega
theorem step_inj {h g v : Int} (h0 : 0 ≤ h) (h1 : h < 2147483647) (g0 : 0 ≤ g) (g1 : g < 2147483647) (e : hashStep h v = hashStep g v) : h = g := by
  rw [step_eq h0 h1, step_eq g0 g1] at e
  have b1 : -2147483647 < h - g := by clear e; omega
  have b2 : h - g < 2147483647 := by clear e; omega
  obtain ⟨k, hk⟩ := em_sub e
  clear e
  generalize v % 2147483647 = c at hk
  have e4 : 1000003 * (h - g) = 2147483647 * k := by
    rw [← hk]
    omega
  have := inv0 e4 b1 b2
  clear hk e4
  omega
theorem step_ne {h v u : Int} (h0 : 0 ≤ h) (h1 : h < 2147483647) (e : hashStep h v = hashStep h u) : v % 2147483647 = u % 2147483647 := by
  rw [step_eq h0 h1, step_eq h0 h1] at e
  omega
theorem fold_in : ∀ (l : List Int) (h : Int), 0 ≤ h → h < 2147483647 → 0 ≤ l.foldl hashStep h ∧ l.foldl hashStep h < 2147483647
  | [], h, h0, h1 => ⟨h0, h1⟩
  | v :: l, h, h0, h1 => fold_in l _ (step_in h0 h1).1 (step_in h0 h1).2
theorem fold_inj : ∀ (l : List Int) (h g : Int), 0 ≤ h → h < 2147483647 → 0 ≤ g → g < 2147483647 → l.foldl hashStep h = l.foldl hashStep g → h = g
  | [], h, g, _, _, _, _, e => e
  | v :: l, h, g, h0, h1, g0, g1, e => step_inj h0 h1 g0 g1 (fold_inj l _ _ (step_in h0 h1).1 (step_in h0 h1).2 (step_in g0 g1).1 (step_in g0 g1).2 e)
theorem hash_ne (a c : List Int) (v u : Int) (h : v % 2147483647 ≠ u % 2147483647) : hashF (a ++ v :: c) ≠ hashF (a ++ u :: c) := by
  intro e
  unfold hashF at e
  rw [List.foldl_append, List.foldl_append, List.foldl_cons, List.foldl_cons] at e
  obtain ⟨h0, h1⟩ := fold_in a 11 (by decide) (by decide)
  exact h (step_ne h0 h1 (fold_inj c _ _ (step_in h0 h1).1 (step_in h0 h1).2 (step_in h0 h1).1 (step_in h0 h1).2 e))
theorem hash_in (l : List Int) : 0 ≤ hashF l ∧ hashF l < 2147483647 := fold_in l 11 (by decide) (by decide)
theorem next_ne {v : Int} (h1 : -9223372036854775808 ≤ v) (h2 : v ≤ 9223372036854775807) : v % 2147483647 ≠ IntKind.i64.wrap (v + 1) % 2147483647 := by
  by_cases h : v = 9223372036854775807
  · subst h; decide
  · rw [wrap_i64 (by omega) (by omega)]; omega
theorem up_get (m : Int) : ∀ (l : List Int) (i : Nat), (upF m l).getD i 0 = if 2 * i + 1 < l.length then pairF m (l.getD (2 * i) 0) (l.getD (2 * i + 1) 0) else l.getD (2 * i) 0
  | [], i => by simp [upF]
  | [x], i => by
    cases i with
    | zero => simp [upF]
    | succ i => simp [upF]
  | a :: b :: r, i => by
    cases i with
    | zero => simp [upF]
    | succ i =>
      have ih := up_get m r i
      simp only [upF, List.length_cons, List.getD_cons_succ, show 2 * (i + 1) = 2 * i + 1 + 1 by omega] at ih ⊢
      rw [ih]
      by_cases h : 2 * i + 1 < r.length
      · rw [if_pos h, if_pos (by omega)]
      · rw [if_neg h, if_neg (by omega)]
theorem up_step (m : Int) (l : List Int) (j : Nat) (hj : j < l.length) : (stepR l j).foldl (fpStep m) (l.getD j 0) = (upF m l).getD (j / 2) 0 := by
  rw [up_get]
  unfold stepR
  by_cases h : j % 2 = 1
  · rw [if_pos h, if_pos (by omega), show 2 * (j / 2) = j - 1 by omega, show j - 1 + 1 = j by omega, List.foldl_cons, List.foldl_nil, fpStep]
    exact if_pos rfl
  · rw [if_neg h]
    by_cases h2 : j + 1 < l.length
    · rw [if_pos h2, if_pos (by omega), show 2 * (j / 2) = j by omega, List.foldl_cons, List.foldl_nil, fpStep]
      exact if_neg (by simp)
    · rw [if_neg h2, if_neg (by omega), show 2 * (j / 2) = j by omega, List.foldl_nil]
theorem follow_top (m : Int) : ∀ (n : Nat) (l : List Int) (j : Nat), l.length ≤ n → j < l.length → (pathR m l j).foldl (fpStep m) (l.getD j 0) = (topR m l).getD 0 0
  | 0, l, j, h, hj => by omega
  | n + 1, l, j, h, hj => by
    by_cases h1 : l.length ≤ 1
    · unfold pathR topR
      rw [dif_pos h1, dif_pos h1, show j = 0 by omega]
      rfl
    · have u1 := upF_len m l
      have u2 := upF_len2 m l
      rw [pathR_step m l j (by omega), List.foldl_append, up_step m l j hj, follow_top m n (upF m l) (j / 2) (by omega) (by omega)]
      conv => rhs; unfold topR
      rw [dif_neg h1]
theorem path_pow (m : Int) : ∀ (k : Nat) (l : List Int) (j : Nat), l.length ≤ 2 ^ k → (pathR m l j).length ≤ k
  | 0, l, j, h => by
    unfold pathR
    rw [dif_pos (by simpa using h)]
    exact Nat.le_refl _
  | k + 1, l, j, h => by
    by_cases h1 : l.length ≤ 1
    · unfold pathR
      rw [dif_pos h1]
      exact Nat.zero_le _
    · have u1 := upF_len m l
      have hs : (stepR l j).length ≤ 1 := by
        unfold stepR
        repeat' split
        all_goals simp
      have := path_pow m k (upF m l) (j / 2) (by rw [Nat.pow_succ] at h; omega)
      rw [pathR_step m l j (by omega), List.length_append]
      omega
def lev (n : Int) : Int := if n < 1 ∨ 16 < n then 0 else if n ≤ 1 then 0 else if n ≤ 2 then 1 else if n ≤ 4 then 2 else if n ≤ 8 then 3 else 4
def levJ (n : Int) (d : Int × Int) : Prop := (d.1 = 0 ∧ d.2 = 1) ∨ (d.1 = 1 ∧ d.2 = 2 ∧ 1 < n) ∨ (d.1 = 2 ∧ d.2 = 4 ∧ 2 < n) ∨ (d.1 = 3 ∧ d.2 = 8 ∧ 4 < n) ∨ (d.1 = 4 ∧ d.2 = 16 ∧ 8 < n)
theorem impl_LevelsOf_ok (n : Int) : FunOK Try.prog 8 [⟨I, n⟩] (.rd I (lev n)) := by
  refine fun_of (tb := tb) follows Try.func8 (by kernel_rfl) Try.ntmps8 rfl rfl rfl ?_
  intro cx hN hw
  simp (disch := exact eqId (by kernel_rfl)) only [go_sem, ↓reduceIte, Nat.reduceAdd, Nat.reduceMul, Nat.reduceLT, Nat.reduceBEq, Nat.reduceLeDiff, Nat.reduceEqDiff, Int.reduceToNat]
  refine loop_intro (tb := tb) follows hN (D := Int × Int) (fun d => shp [(2, .rd I 0), (3, .rd I d.1), (0, .rd I n)] []) (fun d => (d.1 = 0 ∧ d.2 = 1) ∨ (n ≤ 16 ∧ levJ n d)) (fun d => (5 - d.1).toNat) (0, 1) (by left; exact ⟨rfl, rfl⟩) (sub_shp hN [] (by simp (disch := exact eqId (by kernel_rfl)) only [go_sem, ↓reduceIte, Nat.reduceAdd, Nat.reduceMul, Nat.reduceLT, Nat.reduceBEq, Nat.reduceLeDiff, Nat.reduceEqDiff, Int.reduceToNat])) (fun d hd => ?_)
  simp (disch := exact eqId (by kernel_rfl)) only [go_sem, ↓reduceIte, Nat.reduceAdd, Nat.reduceMul, Nat.reduceLT, Nat.reduceBEq, Nat.reduceLeDiff, Nat.reduceEqDiff, Int.reduceToNat]
  refine callQ_intro (inRange_ok _ _ _) ?_
  simp (disch := exact eqId (by kernel_rfl)) only [go_sem, ↓reduceIte, Nat.reduceAdd, Nat.reduceMul, Nat.reduceLT, Nat.reduceBEq, Nat.reduceLeDiff, Nat.reduceEqDiff, Int.reduceToNat]
  have hp : IntKind.i64.wrap (1 * 2 ^ min (IntKind.u64.wrap d.1).toNat 64) = d.2 := by
    unfold levJ at hd
    rcases hd with ⟨h1, h2⟩ | ⟨_, ⟨h1, h2⟩ | ⟨h1, h2, _⟩ | ⟨h1, h2, _⟩ | ⟨h1, h2, _⟩ | ⟨h1, h2, _⟩⟩ <;> rw [h1, h2] <;> rfl
  rw [hp]
  unfold levJ at hd
  refine ⟨fun h1 => back_intro (d.1 + 1, 2 * d.2) ?_ ?_ (sub_shp hN [] ?_), fun h1 => ?_⟩
  · unfold levJ; simp only; omega
  · simp only; omega
  · simp (disch := exact eqId (by kernel_rfl)) only [go_sem, ↓reduceIte, Nat.reduceAdd, Nat.reduceMul, Nat.reduceLT, Nat.reduceBEq, Nat.reduceLeDiff, Nat.reduceEqDiff, Int.reduceToNat]
    rw [wrap_i64 (by omega) (by omega)]
  · show (d.1 : Int) = lev n
    unfold lev
    repeat' split
    all_goals omega
theorem pair_ne {m a x y : Int} (h : x % 2147483647 ≠ y % 2147483647) : pairF m a x % 2147483647 ≠ pairF m a y % 2147483647 ∧ pairF m x a % 2147483647 ≠ pairF m y a % 2147483647 := by
  have e : ∀ l, hashF l % 2147483647 = hashF l := fun l => Int.emod_eq_of_lt (hash_in l).1 (hash_in l).2
  unfold pairF digF
  rw [e, e, e, e]
  exact ⟨hash_ne [7, m, 1, a] [] x y h, hash_ne [7, m, 1] [a] x y h⟩
theorem fold_ne (m : Int) : ∀ (l : List tStep.den) (x y : Int), x % 2147483647 ≠ y % 2147483647 → l.foldl (fpStep m) x % 2147483647 ≠ l.foldl (fpStep m) y % 2147483647
  | [], x, y, h => h
  | s :: l, x, y, h => by
    refine fold_ne m l _ _ ?_
    unfold fpStep
    cases s.2.1
    · exact (pair_ne (a := s.1) h).2
    · exact (pair_ne (a := s.1) h).1
theorem lev_pow {n : Nat} (h0 : 1 ≤ n) (h : n ≤ 16) : ∃ k : Nat, lev (n : Int) = (k : Int) ∧ k ≤ 4 ∧ n ≤ 2 ^ k ∧ (k = 0 ∨ 2 ^ k / 2 < n) := by
  have hc : ∀ n : Nat, n ≤ 16 → 1 ≤ n → ∃ k : Nat, k ≤ 4 ∧ lev (n : Int) = (k : Int) ∧ n ≤ 2 ^ k ∧ (k = 0 ∨ 2 ^ k / 2 < n) := by decide
  obtain ⟨k, h1, h2, h3, h4⟩ := hc n h h0
  exact ⟨k, h2, h1, h3, h4⟩
theorem tree_ok {m : Int} {l : List Int} {i : Int} (h0 : 0 ≤ i) (h1 : i < (l.length : Int)) (h2 : l.length ≤ 16) (hv : -9223372036854775808 ≤ l.getD i.toNat 0 ∧ l.getD i.toNat 0 ≤ 9223372036854775807) :
    (pathF m l i).foldl (fpStep m) (l.getD i.toNat 0) = rootF m l ∧ ¬ (pathF m l i).foldl (fpStep m) (IntKind.i64.wrap (l.getD i.toNat 0 + 1)) = rootF m l ∧ ∃ k : Nat, lev (l.length : Int) = (k : Int) ∧ k ≤ 4 ∧ (pathF m l i).length ≤ k ∧ l.length ≤ 2 ^ k ∧ (k = 0 ∨ 2 ^ k / 2 < l.length) := by
  have hp : pathF m l i = pathR m l i.toNat := by unfold pathF; exact if_pos ⟨⟨h0, h1⟩, h2⟩
  have hr : rootF m l = (topR m l).getD 0 0 := by unfold rootF; exact if_pos ⟨by omega, h2⟩
  have hf := follow_top m l.length l i.toNat (Nat.le_refl _) (by omega)
  obtain ⟨k, k1, k2, k3, k4⟩ := lev_pow (n := l.length) (by omega) h2
  rw [hp, hr]
  refine ⟨hf, fun e => ?_, k, k1, k2, path_pow m k l _ k3, k3, k4⟩
  rw [← hf] at e
  exact fold_ne m _ _ _ (next_ne hv.1 hv.2) (by rw [e])
theorem path_no {m : Int} {l : List Int} {i : Int} (h : (i < 0 ∨ i ≥ (l.length : Int)) ∨ (l.length : Int) > 16) : (pathF m l i).length = 0 := by
  unfold pathF
  rw [if_neg (by omega)]
  rfl
end Go.Proofs.Ytnodkdblaccllaa
