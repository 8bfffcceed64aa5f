/- Plain mathematics: lines of keys, spans that are agreed on, spans joined. It proves nothing of a statement by itself. -/
import Derived.Test.YtcbecpjhgfkofaaF7
set_option linter.unusedSimpArgs false
set_option linter.unusedVariables false
namespace Go.Proofs.Ytcbecpjhgfkofaa
open Go.AL
theorem pig {α : Type} [DecidableEq α] : ∀ (l m : List α), l.Nodup → (∀ x, x ∈ l → x ∈ m) → l.length ≤ m.length
  | [], m, _, _ => Nat.zero_le _
  | a :: l, m, hn, hs => by
    have ha : a ∈ m := hs a (by simp)
    have h1 := List.nodup_cons.1 hn
    have h2 : l.length ≤ (m.erase a).length := pig l (m.erase a) h1.2 (fun x hx => (List.mem_erase_of_ne (fun (e : x = a) => h1.1 (e ▸ hx))).2 (hs x (List.mem_cons_of_mem _ hx)))
    rw [List.length_erase_of_mem ha] at h2
    have h3 := List.length_pos_of_mem ha
    simp only [List.length_cons]
    omega
def lineF (nk : Int → Int) : Nat → List Int → Int → List Int
  | 0, out, _ => out
  | n + 1, out, key => if key = 0 ∨ key ∈ out then out else lineF nk n (out ++ [key]) (nk key)
theorem lineF_stop (nk : Int → Int) (n : Nat) (out : List Int) (key : Int) (h : key = 0 ∨ key ∈ out) : lineF nk n out key = out := by
  cases n with
  | zero => rfl
  | succ n => rw [lineF, if_pos h]
theorem lineF_go (nk : Int → Int) (n : Nat) (out : List Int) (key : Int) (h : ¬ (key = 0 ∨ key ∈ out)) : lineF nk (n + 1) out key = lineF nk n (out ++ [key]) (nk key) := by
  rw [lineF, if_neg h]
/-- What a line under way is: all different, each the first or a new one. -/
def LineI (k0 : Int) (news : List Int) (out : List Int) : Prop := out.Nodup ∧ ∀ x, x ∈ out → x ∈ k0 :: news
theorem LineI.len {k0 : Int} {news out : List Int} (h : LineI k0 news out) : out.length ≤ news.length + 1 := by
  have := pig out (k0 :: news) h.1 h.2
  simpa using this
theorem LineI.nil (k0 : Int) (news : List Int) : LineI k0 news [] := ⟨List.nodup_nil, fun x h => by cases h⟩
theorem LineI.snoc {k0 : Int} {news out : List Int} {k : Int} (h : LineI k0 news out) (hk : k ∉ out) (hm : k ∈ k0 :: news) : LineI k0 news (out ++ [k]) := by
  refine ⟨?_, fun x hx => ?_⟩
  · rw [List.nodup_append]
    refine ⟨h.1, by simp, ?_⟩
    intro a ha b hb
    simp only [List.mem_singleton] at hb
    subst hb
    intro e
    exact hk (e ▸ ha)
  · rcases List.mem_append.1 hx with hx | hx
    · exact h.2 x hx
    · simp only [List.mem_singleton] at hx
      subst hx
      exact hm
theorem lineF_len (nk : Int → Int) : ∀ (n : Nat) (out : List Int) (key : Int), (lineF nk n out key).length ≤ out.length + n
  | 0, out, key => Nat.le_refl _
  | n + 1, out, key => by
    rw [lineF]
    split
    · omega
    · have := lineF_len nk n (out ++ [key]) (nk key)
      simp only [List.length_append, List.length_cons, List.length_nil] at this
      omega
def spB (s : Int × Int × Unit) : Bool := inB s.1 0 10000 && inB s.2.1 0 10000 && decide (s.1 ≤ s.2.1)
def mxF (a b : Int) : Int := if b > a then b else a
def mnF (a b : Int) : Int := if b < a then b else a
theorem mxF_eq (a b : Int) : mxF a b = max a b := by unfold mxF; omega
theorem mnF_eq (a b : Int) : mnF a b = min a b := by unfold mnF; omega
theorem spB_t {s : Int × Int × Unit} : spB s = true ↔ 0 ≤ s.1 ∧ s.1 ≤ s.2.1 ∧ s.2.1 ≤ 10000 := by
  simp only [spB, inB, Bool.and_eq_true, decide_eq_true_eq]; omega
def inS (t : Int) (s : Int × Int × Unit) : Bool := spB s && (decide (s.1 ≤ t) && decide (t ≤ s.2.1))
theorem inS_t {t : Int} {s : Int × Int × Unit} : inS t s = true ↔ 0 ≤ s.1 ∧ s.2.1 ≤ 10000 ∧ s.1 ≤ t ∧ t ≤ s.2.1 := by
  simp only [inS, Bool.and_eq_true, spB_t, decide_eq_true_eq]; omega
def cntF (l : List (Int × Int × Unit)) (t : Int) : Nat := l.countP (inS t)
def supF (l : List (Int × Int × Unit)) (n : Int) (t : Int) : Bool := inB n 0 ((l.length : Int) - 1) && decide ((cntF l t : Int) ≥ (l.length : Int) - n)
theorem cnt_mono {l : List (Int × Int × Unit)} {t u : Int} (h : ∀ s, s ∈ l → inS t s = true → inS u s = true) : cntF l t ≤ cntF l u :=
  List.countP_mono_left h
/-- The program's walk over all times. -/
def agI (sup : Int → Bool) : Nat → (Int × Int × Unit) × Bool
  | 0 => ((0, 0, ()), false)
  | n + 1 => if sup (n : Int) = true then ((if (agI sup n).2 = true then (agI sup n).1.1 else (n : Int), (n : Int), ()), true) else agI sup n
/-- The reference's walk over the spans. -/
def agS (sup : Int → Bool) : List (Int × Int × Unit) → Int × Int → Int × Int
  | [], r => r
  | x :: xs, r => agS sup xs (if spB x = true ∧ sup x.1 = true ∧ (r.1 < 0 ∨ x.1 < r.1) then x.1 else r.1, if spB x = true ∧ sup x.2.1 = true then mxF r.2 x.2.1 else r.2)
theorem agI_spec (sup : Int → Bool) : ∀ n : Nat,
    ((agI sup n).2 = true → sup (agI sup n).1.1 = true ∧ 0 ≤ (agI sup n).1.1 ∧ (agI sup n).1.1 < n ∧ (∀ u : Int, 0 ≤ u → u < (agI sup n).1.1 → sup u = false) ∧
      sup (agI sup n).1.2.1 = true ∧ 0 ≤ (agI sup n).1.2.1 ∧ (agI sup n).1.2.1 < n ∧ (∀ u : Int, (agI sup n).1.2.1 < u → u < n → sup u = false)) ∧
    ((agI sup n).2 = false → agI sup n = ((0, 0, ()), false) ∧ ∀ u : Int, 0 ≤ u → u < n → sup u = false)
  | 0 => by
    refine ⟨fun h => (by simp [agI] at h), fun _ => ⟨rfl, fun u h1 h2 => by omega⟩⟩
  | n + 1 => by
    obtain ⟨h1, h2⟩ := agI_spec sup n
    by_cases hs : sup (n : Int) = true
    · rw [show agI sup (n + 1) = ((if (agI sup n).2 = true then (agI sup n).1.1 else (n : Int), (n : Int), ()), true) from by rw [agI, if_pos hs]]
      refine ⟨fun _ => ?_, fun h => by cases h⟩
      by_cases hb : (agI sup n).2 = true
      · obtain ⟨a1, a2, a3, a4, a5, a6, a7, a8⟩ := h1 hb
        simp only [hb, if_true]
        exact ⟨a1, a2, by omega, a4, hs, by omega, by omega, fun u h3 h4 => by omega⟩
      · have hb' : (agI sup n).2 = false := by simpa using hb
        simp only [hb', Bool.false_eq_true, if_false]
        refine ⟨hs, by omega, by omega, fun u h3 h4 => (h2 hb').2 u h3 h4, hs, by omega, by omega, fun u h3 h4 => by omega⟩
    · have hs' : sup (n : Int) = false := by simpa using hs
      have e : agI sup (n + 1) = agI sup n := by rw [agI, if_neg hs]
      rw [e]
      refine ⟨fun h => ?_, fun h => ?_⟩
      · obtain ⟨a1, a2, a3, a4, a5, a6, a7, a8⟩ := h1 h
        refine ⟨a1, a2, by omega, a4, a5, a6, by omega, fun u h3 h4 => ?_⟩
        by_cases e : u = n
        · subst e; exact hs'
        · exact a8 u h3 (by omega)
      · refine ⟨(h2 h).1, fun u h3 h4 => ?_⟩
        by_cases e : u = n
        · subst e; exact hs'
        · exact (h2 h).2 u h3 (by omega)
theorem agS_from (sup : Int → Bool) : ∀ (l : List (Int × Int × Unit)) (r : Int × Int), (r.1 = -1 ∨ 0 ≤ r.1) →
    ((agS sup l r).1 = r.1 ∨ ∃ x, x ∈ l ∧ spB x = true ∧ sup x.1 = true ∧ (agS sup l r).1 = x.1) ∧
    (0 ≤ r.1 → 0 ≤ (agS sup l r).1 ∧ (agS sup l r).1 ≤ r.1) ∧ (∀ x, x ∈ l → spB x = true → sup x.1 = true → 0 ≤ (agS sup l r).1 ∧ (agS sup l r).1 ≤ x.1)
  | [], r, _ => ⟨.inl rfl, fun h => ⟨h, Int.le_refl _⟩, fun x hx => by cases hx⟩
  | x :: xs, r, hr => by
    rw [agS]
    by_cases hc : spB x = true ∧ sup x.1 = true ∧ (r.1 < 0 ∨ x.1 < r.1)
    · rw [if_pos hc]
      have hx0 := (spB_t.1 hc.1).1
      obtain ⟨h1, h2, h3⟩ := agS_from sup xs (x.1, if spB x = true ∧ sup x.2.1 = true then mxF r.2 x.2.1 else r.2) (.inr hx0)
      refine ⟨.inr ?_, fun h => ?_, fun y hy hv hs => ?_⟩
      · rcases h1 with h1 | ⟨y, hy, h4⟩
        · exact ⟨x, by simp, hc.1, hc.2.1, h1⟩
        · exact ⟨y, by simp [hy], h4⟩
      · have := h2 hx0
        simp only at this
        omega
      · rcases List.mem_cons.1 hy with rfl | hy
        · exact h2 hx0
        · exact h3 y hy hv hs
    · rw [if_neg hc]
      obtain ⟨h1, h2, h3⟩ := agS_from sup xs (r.1, if spB x = true ∧ sup x.2.1 = true then mxF r.2 x.2.1 else r.2) hr
      refine ⟨?_, h2, fun y hy hv hs => ?_⟩
      · rcases h1 with h1 | ⟨y, hy, h4⟩
        · exact .inl h1
        · exact .inr ⟨y, by simp [hy], h4⟩
      · rcases List.mem_cons.1 hy with rfl | hy
        · have hn : 0 ≤ r.1 ∧ r.1 ≤ y.1 := by
            have : ¬ (r.1 < 0 ∨ y.1 < r.1) := fun h => hc ⟨hv, hs, h⟩
            omega
          have := h2 hn.1
          simp only at this
          omega
        · exact h3 y hy hv hs
theorem agS_to (sup : Int → Bool) : ∀ (l : List (Int × Int × Unit)) (r : Int × Int),
    ((agS sup l r).2 = r.2 ∨ ∃ x, x ∈ l ∧ spB x = true ∧ sup x.2.1 = true ∧ (agS sup l r).2 = x.2.1) ∧
    r.2 ≤ (agS sup l r).2 ∧ (∀ x, x ∈ l → spB x = true → sup x.2.1 = true → x.2.1 ≤ (agS sup l r).2)
  | [], r => ⟨.inl rfl, Int.le_refl _, fun x hx => by cases hx⟩
  | x :: xs, r => by
    rw [agS]
    by_cases hc : spB x = true ∧ sup x.2.1 = true
    · rw [if_pos hc, mxF_eq]
      obtain ⟨h1, h2, h3⟩ := agS_to sup xs (if spB x = true ∧ sup x.1 = true ∧ (r.1 < 0 ∨ x.1 < r.1) then x.1 else r.1, max r.2 x.2.1)
      simp only at h1 h2 h3
      refine ⟨?_, by omega, fun y hy hv hs => ?_⟩
      · rcases h1 with h1 | ⟨y, hy, h4⟩
        · by_cases h : r.2 ≤ x.2.1
          · exact .inr ⟨x, by simp, hc.1, hc.2, by omega⟩
          · exact .inl (by omega)
        · exact .inr ⟨y, by simp [hy], h4⟩
      · rcases List.mem_cons.1 hy with rfl | hy
        · omega
        · exact h3 y hy hv hs
    · rw [if_neg hc]
      obtain ⟨h1, h2, h3⟩ := agS_to sup xs (if spB x = true ∧ sup x.1 = true ∧ (r.1 < 0 ∨ x.1 < r.1) then x.1 else r.1, r.2)
      refine ⟨?_, h2, fun y hy hv hs => ?_⟩
      · rcases h1 with h1 | ⟨y, hy, h4⟩
        · exact .inl h1
        · exact .inr ⟨y, by simp [hy], h4⟩
      · rcases List.mem_cons.1 hy with rfl | hy
        · exact absurd ⟨hv, hs⟩ hc
        · exact h3 y hy hv hs
def agF (l : List (Int × Int × Unit)) (n : Int) : (Int × Int × Unit) × Bool :=
  if inB n 0 ((l.length : Int) - 1) = true then
    (if (agS (supF l n) l (-1, -1)).1 < 0 then ((0, 0, ()), false) else (((agS (supF l n) l (-1, -1)).1, (agS (supF l n) l (-1, -1)).2, ()), true))
  else ((0, 0, ()), false)
theorem sup_count {l : List (Int × Int × Unit)} {n t : Int} (h : supF l n t = true) : 0 ≤ n ∧ n ≤ (l.length : Int) - 1 ∧ (l.length : Int) - n ≤ (cntF l t : Int) := by
  simp only [supF, inB, Bool.and_eq_true, decide_eq_true_eq] at h; omega
theorem sup_of {l : List (Int × Int × Unit)} {n t u : Int} (h : supF l n t = true) (hm : cntF l t ≤ cntF l u) : supF l n u = true := by
  have := sup_count h
  simp only [supF, inB, Bool.and_eq_true, decide_eq_true_eq]; omega
theorem sup_in {l : List (Int × Int × Unit)} {n t : Int} (h : supF l n t = true) : ∃ s, s ∈ l ∧ inS t s = true := by
  have := sup_count h
  have hp : 0 < l.countP (inS t) := by unfold cntF at this; omega
  exact List.countP_pos_iff.1 hp
theorem ag_from {l : List (Int × Int × Unit)} {n t : Int} (h : supF l n t = true) (h0 : 0 ≤ t) (hf : ∀ u, 0 ≤ u → u < t → supF l n u = false) : ∃ s, s ∈ l ∧ spB s = true ∧ s.1 = t := by
  apply Classical.byContradiction
  intro hno
  have hlt : ∀ s, s ∈ l → inS t s = true → s.1 < t := by
    intro s hs hi
    have h1 := inS_t.1 hi
    have hv : spB s = true := spB_t.2 (by omega)
    have : s.1 ≠ t := fun e => hno ⟨s, hs, hv, e⟩
    omega
  obtain ⟨s, hs, hi⟩ := sup_in h
  have h2 := hlt s hs hi
  have h3 := inS_t.1 hi
  have := sup_of (u := t - 1) h (cnt_mono fun s hs hi => by
    have h1 := inS_t.1 hi
    have h2 := hlt s hs hi
    exact inS_t.2 (by omega))
  rw [hf (t - 1) (by omega) (by omega)] at this
  cases this
theorem ag_to {l : List (Int × Int × Unit)} {n t : Int} (h : supF l n t = true) (h0 : t ≤ 10000) (hf : ∀ u, t < u → u < 10001 → supF l n u = false) : ∃ s, s ∈ l ∧ spB s = true ∧ s.2.1 = t := by
  apply Classical.byContradiction
  intro hno
  have hlt : ∀ s, s ∈ l → inS t s = true → t < s.2.1 := by
    intro s hs hi
    have h1 := inS_t.1 hi
    have hv : spB s = true := spB_t.2 (by omega)
    have : s.2.1 ≠ t := fun e => hno ⟨s, hs, hv, e⟩
    omega
  obtain ⟨s, hs, hi⟩ := sup_in h
  have h2 := hlt s hs hi
  have h3 := inS_t.1 hi
  have := sup_of (u := t + 1) h (cnt_mono fun s hs hi => by
    have h1 := inS_t.1 hi
    have h2 := hlt s hs hi
    exact inS_t.2 (by omega))
  rw [hf (t + 1) (by omega) (by omega)] at this
  cases this
theorem ag_eq (l : List (Int × Int × Unit)) (n : Int) : agI (supF l n) 10001 = agF l n := by
  obtain ⟨h1, h2⟩ := agI_spec (supF l n) 10001
  obtain ⟨f1, -, f3⟩ := agS_from (supF l n) l (-1, -1) (.inl rfl)
  obtain ⟨t1, -, t3⟩ := agS_to (supF l n) l (-1, -1)
  unfold agF
  by_cases hb : (agI (supF l n) 10001).2 = true
  · obtain ⟨a1, a2, a3, a4, a5, a6, a7, a8⟩ := h1 hb
    have hn := sup_count a1
    rw [if_pos (by simp only [inB, Bool.and_eq_true, decide_eq_true_eq]; omega)]
    obtain ⟨s, hs, hv, he⟩ := ag_from a1 a2 a4
    obtain ⟨r, hr, hw, hz⟩ := ag_to a5 (by omega) (fun u h3 h4 => a8 u h3 (by omega))
    have f4 := f3 s hs hv (he ▸ a1)
    have t4 := t3 r hr hw (hz ▸ a5)
    rw [if_neg (by omega)]
    have e1 : (agS (supF l n) l (-1, -1)).1 = (agI (supF l n) 10001).1.1 := by
      rcases f1 with f1 | ⟨x, hx, hxv, hxs, hxe⟩
      · simp only at f1; omega
      · have h5 := spB_t.1 hxv
        have : ¬ x.1 < (agI (supF l n) 10001).1.1 := fun h => by
          rw [a4 x.1 h5.1 h] at hxs; cases hxs
        omega
    have e2 : (agS (supF l n) l (-1, -1)).2 = (agI (supF l n) 10001).1.2.1 := by
      rcases t1 with t1 | ⟨x, hx, hxv, hxs, hxe⟩
      · simp only at t1; omega
      · have h5 := spB_t.1 hxv
        have : ¬ (agI (supF l n) 10001).1.2.1 < x.2.1 := fun h => by
          rw [a8 x.2.1 h (by omega)] at hxs; cases hxs
        omega
    rw [e1, e2]
    exact Prod.ext rfl hb
  · have hb' : (agI (supF l n) 10001).2 = false := by simpa using hb
    obtain ⟨h3, h4⟩ := h2 hb'
    rw [h3]
    have e1 : (agS (supF l n) l (-1, -1)).1 < 0 := by
      rcases f1 with f1 | ⟨x, hx, hxv, hxs, hxe⟩
      · simp only at f1; omega
      · have h5 := spB_t.1 hxv
        rw [h4 x.1 (by omega) (by omega)] at hxs; cases hxs
    rw [if_pos e1]
    simp
def apJ (x s : Int × Int × Unit) : Bool := decide (x.2.1 + 1 < s.1) || decide (s.2.1 + 1 < x.1)
def unJ (s x : Int × Int × Unit) : Int × Int × Unit := (mnF s.1 x.1, mxF s.2.1 x.2.1, ())
def mgJ : List (Int × Int × Unit) → Int × Int × Unit → List (Int × Int × Unit) × (Int × Int × Unit)
  | [], s => ([], s)
  | x :: xs, s => if apJ x s = true then (x :: (mgJ xs s).1, (mgJ xs s).2) else mgJ xs (unJ s x)
def insK (f : Int) : List (Int × Int × Unit) → Nat
  | [] => 0
  | x :: xs => if x.1 < f then insK f xs + 1 else 0
def putJ (out : List (Int × Int × Unit)) (s : Int × Int × Unit) : List (Int × Int × Unit) :=
  (((mgJ out s).1.take (insK (mgJ out s).2.1 (mgJ out s).1)) ++ [(mgJ out s).2]) ++ (mgJ out s).1.drop (insK (mgJ out s).2.1 (mgJ out s).1)
def jaF (out : List (Int × Int × Unit)) : List (Int × Int × Unit) → List (Int × Int × Unit)
  | [] => out
  | s :: l => jaF (if spB s = true then putJ out s else out) l
def AllSp (l : List (Int × Int × Unit)) : Prop := ∀ x, x ∈ l → spB x = true
theorem unJ_sp {s x : Int × Int × Unit} (hs : spB s = true) (hx : spB x = true) : spB (unJ s x) = true := by
  rw [spB_t] at hs hx ⊢
  simp only [unJ, mnF_eq, mxF_eq]
  omega
theorem mgJ_sp : ∀ (l : List (Int × Int × Unit)) (s : Int × Int × Unit), AllSp l → spB s = true → AllSp (mgJ l s).1 ∧ spB (mgJ l s).2 = true ∧ (mgJ l s).1.length ≤ l.length
  | [], s, _, hs => ⟨fun x hx => by simp [mgJ] at hx, hs, Nat.le_refl _⟩
  | x :: xs, s, hl, hs => by
    have hx : spB x = true := hl x (by simp)
    have hxs : AllSp xs := fun y hy => hl y (by simp [hy])
    rw [mgJ]
    split
    · obtain ⟨h1, h2, h3⟩ := mgJ_sp xs s hxs hs
      refine ⟨fun y hy => ?_, h2, by simp only [List.length_cons]; omega⟩
      rcases List.mem_cons.1 hy with rfl | hy
      · exact hx
      · exact h1 y hy
    · obtain ⟨h1, h2, h3⟩ := mgJ_sp xs (unJ s x) hxs (unJ_sp hs hx)
      exact ⟨h1, h2, by simp only [List.length_cons]; omega⟩
theorem insK_le (f : Int) : ∀ l : List (Int × Int × Unit), insK f l ≤ l.length
  | [] => Nat.le_refl _
  | x :: xs => by
    have := insK_le f xs
    unfold insK
    split <;> simp only [List.length_cons] <;> omega
theorem insK_lt (f : Int) (df : Int × Int × Unit) : ∀ (l : List (Int × Int × Unit)) (k : Nat), k < insK f l → (l.getD k df).1 < f
  | [], k, h => by simp [insK] at h
  | x :: xs, k, h => by
    unfold insK at h
    split at h
    · cases k with
      | zero => simpa using ‹x.1 < f›
      | succ k => simpa using insK_lt f df xs k (by omega)
    · omega
theorem insK_ge (f : Int) (df : Int × Int × Unit) : ∀ (l : List (Int × Int × Unit)), insK f l < l.length → ¬ (l.getD (insK f l) df).1 < f
  | [], h => by simp [insK] at h
  | x :: xs, h => by
    unfold insK at h ⊢
    split
    · rename_i hx
      rw [if_pos hx] at h
      simpa using insK_ge f df xs (by simpa using h)
    · rename_i hx
      simpa using hx
/-- The walk to the place. -/
theorem insK_at {f : Int} {df : Int × Int × Unit} {l : List (Int × Int × Unit)} {k : Nat} (h1 : k ≤ insK f l) : (k < l.length ∧ (l.getD k df).1 < f) ↔ k < insK f l := by
  constructor
  · rintro ⟨h2, h3⟩
    apply Classical.byContradiction
    intro h4
    have e : k = insK f l := by omega
    rw [e] at h2 h3
    exact insK_ge f df l h2 h3
  · intro h
    exact ⟨Nat.lt_of_lt_of_le h (insK_le f l), insK_lt f df l k h⟩
theorem putJ_sp {out : List (Int × Int × Unit)} {s : Int × Int × Unit} (hl : AllSp out) (hs : spB s = true) : AllSp (putJ out s) ∧ (putJ out s).length ≤ out.length + 1 := by
  obtain ⟨h1, h2, h3⟩ := mgJ_sp out s hl hs
  refine ⟨fun x hx => ?_, ?_⟩
  · unfold putJ at hx
    rcases List.mem_append.1 hx with hx | hx
    · rcases List.mem_append.1 hx with hx | hx
      · exact h1 x (List.mem_of_mem_take hx)
      · simp only [List.mem_singleton] at hx
        subst hx
        exact h2
    · exact h1 x (List.mem_of_mem_drop hx)
  · unfold putJ
    simp only [List.length_append, List.length_take, List.length_drop, List.length_cons, List.length_nil]
    omega
theorem jaF_sp : ∀ (l out : List (Int × Int × Unit)), AllSp out → AllSp (jaF out l) ∧ (jaF out l).length ≤ out.length + l.length
  | [], out, h => ⟨h, Nat.le_refl _⟩
  | s :: l, out, h => by
    rw [jaF]
    by_cases hs : spB s = true
    · rw [if_pos hs]
      obtain ⟨h1, h2⟩ := putJ_sp h hs
      obtain ⟨h3, h4⟩ := jaF_sp l (putJ out s) h1
      refine ⟨h3, ?_⟩
      simp only [List.length_cons]
      omega
    · rw [if_neg hs]
      obtain ⟨h3, h4⟩ := jaF_sp l out h
      exact ⟨h3, by simp only [List.length_cons]; omega⟩
def mkF (a b : Int) : (Int × Int × Unit) × Bool := if mxF a 0 ≤ mnF b 10000 then ((mxF a 0, mnF b 10000, ()), true) else ((0, 0, ()), false)
theorem mkF_sp {a b : Int} (h : (mkF a b).2 = true) : spB (mkF a b).1 = true := by
  unfold mkF at h ⊢
  split
  · rename_i h1
    rw [spB_t]
    simp only [mxF_eq, mnF_eq] at h1 ⊢
    omega
  · rename_i h1
    rw [if_neg h1] at h
    cases h
def meF (a b : Int × Int × Unit) : (Int × Int × Unit) × Bool := if spB a = true ∧ spB b = true ∧ mxF a.1 b.1 ≤ mnF a.2.1 b.2.1 then ((mxF a.1 b.1, mnF a.2.1 b.2.1, ()), true) else ((0, 0, ()), false)
def insF (a b : Int × Int × Unit) : Bool := spB a && spB b && decide (b.1 ≤ a.1) && decide (a.2.1 ≤ b.2.1)
def coF (l : List (Int × Int × Unit)) (s : Int × Int × Unit) : Bool := (jaF [] l).any (insF s)
def optS (r : (Int × Int × Unit) × Bool) : List (Int × Int × Unit) := if r.2 = true then [r.1] else []
/-- The gaps of a list of spans from a time on. -/
def gapF : Int → List (Int × Int × Unit) → List (Int × Int × Unit)
  | n, [] => if n ≤ 10000 then [(n, 10000, ())] else []
  | n, x :: xs => (if n < x.1 then [(n, x.1 - 1, ())] else []) ++ gapF (x.2.1 + 1) xs
theorem gapF_len : ∀ (l : List (Int × Int × Unit)) (n : Int), (gapF n l).length ≤ l.length + 1
  | [], n => by unfold gapF; split <;> simp
  | x :: xs, n => by
    have := gapF_len xs (x.2.1 + 1)
    unfold gapF
    split <;> simp only [List.length_append, List.length_cons, List.length_nil] <;> omega
theorem mk_gap {n f : Int} (h0 : 0 ≤ n) (hf : f ≤ 10000) : mkF n (f - 1) = if n < f then ((n, f - 1, ()), true) else ((0, 0, ()), false) := by
  unfold mkF
  rw [mxF_eq, mnF_eq, show max n 0 = n by omega, show min (f - 1) 10000 = f - 1 by omega]
  by_cases h : n < f
  · rw [if_pos h, if_pos (by omega)]
  · rw [if_neg h, if_neg (by omega)]
theorem mk_gapE {n : Int} (h0 : 0 ≤ n) : mkF n 10000 = if n ≤ 10000 then ((n, 10000, ()), true) else ((0, 0, ()), false) := by
  unfold mkF
  rw [mxF_eq, mnF_eq, show max n 0 = n by omega, show min (10000 : Int) 10000 = 10000 by omega]
end Go.Proofs.Ytcbecpjhgfkofaa
