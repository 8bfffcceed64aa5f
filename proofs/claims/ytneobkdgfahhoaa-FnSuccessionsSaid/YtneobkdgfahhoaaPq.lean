/- Plain maths of lines of keys and of successions. It proves nothing of a statement by itself. -/
import Derived.Test.YtneobkdgfahhoaaF14
set_option linter.unusedSimpArgs false
set_option linter.unusedVariables false
namespace Go.Proofs.Ytneobkdgfahhoaa
open Go.AL
def GoodL (nk own : Int → Int) (o0 : Int) (out : List Int) : Prop := out.Nodup ∧ (0 : Int) ∉ out ∧ (∀ i, i + 1 < out.length → out.getD (i + 1) 0 = nk (out.getD i 0)) ∧ ∀ x, x ∈ out → own x = o0
theorem good_snoc {nk own : Int → Int} {o0 : Int} {out : List Int} {key : Int} (hnk : ∀ k, nk k ≠ 0 → own (nk k) = own k) (h : GoodL nk own o0 out) (hk : ¬ (key = 0 ∨ key ∈ out)) (hr : (out = [] ∧ own key = o0) ∨ (out ≠ [] ∧ key = nk (out.getD (out.length - 1) 0))) : GoodL nk own o0 (out ++ [key]) := by
  obtain ⟨h1, h2, h3, h4⟩ := h
  have h0 : key ≠ 0 := fun e => hk (.inl e)
  have hm : key ∉ out := fun e => hk (.inr e)
  refine ⟨?_, ?_, fun i hi => ?_, fun x hx => ?_⟩
  · rw [List.nodup_append]
    refine ⟨h1, by simp, ?_⟩
    intro a ha b hb
    simp only [List.mem_singleton] at hb
    subst hb
    intro e
    exact hm (e ▸ ha)
  · simp only [List.mem_append, List.mem_singleton, not_or]
    exact ⟨h2, fun e => h0 e.symm⟩
  · rw [List.length_append, List.length_singleton] at hi
    have g : ∀ j, j < out.length → (out ++ [key]).getD j 0 = out.getD j 0 := fun j hj => by
      rw [List.getD_eq_getElem?_getD, List.getElem?_append_left hj, ← List.getD_eq_getElem?_getD]
    have gl : (out ++ [key]).getD out.length 0 = key := by
      rw [List.getD_eq_getElem?_getD, List.getElem?_append_right (Nat.le_refl _), Nat.sub_self]
      rfl
    by_cases hj : i + 1 < out.length
    · rw [g _ hj, g i (by omega)]
      exact h3 i hj
    · have he : i + 1 = out.length := by omega
      rw [he, gl, g i (by omega)]
      rcases hr with ⟨hr, _⟩ | ⟨_, hr⟩
      · rw [hr] at he; simp at he
      · rw [hr, show out.length - 1 = i from by omega]
  · rcases List.mem_append.1 hx with hx | hx
    · exact h4 x hx
    · simp only [List.mem_singleton] at hx
      subst hx
      rcases hr with ⟨_, hr⟩ | ⟨hn, hr⟩
      · exact hr
      · rw [hr, hnk _ (by rw [← hr]; exact h0)]
        exact h4 _ (getD_mem (by have := List.length_pos_iff.2 hn; omega) 0)
theorem line_good {nk own : Int → Int} {o0 : Int} (hnk : ∀ k, nk k ≠ 0 → own (nk k) = own k) : ∀ (n : Nat) (out : List Int) (key : Int), GoodL nk own o0 out → ((out = [] ∧ own key = o0) ∨ (out ≠ [] ∧ key = nk (out.getD (out.length - 1) 0))) → GoodL nk own o0 (lineF nk n out key)
  | 0, out, key, h, _ => h
  | n + 1, out, key, h, hr => by
    by_cases hk : key = 0 ∨ key ∈ out
    · rw [lineF_stop _ _ _ _ hk]; exact h
    · rw [lineF_go _ _ _ _ hk]
      refine line_good hnk n _ _ (good_snoc hnk h hk hr) (.inr ⟨by simp, ?_⟩)
      rw [List.length_append, List.length_singleton, Nat.add_sub_cancel, List.getD_eq_getElem?_getD, List.getElem?_append_right (Nat.le_refl _), Nat.sub_self]
      rfl
theorem line_head {nk : Int → Int} : ∀ (n : Nat) (out : List Int) (key : Int), out ≠ [] → lineF nk n out key ≠ [] ∧ (lineF nk n out key).getD 0 0 = out.getD 0 0
  | 0, out, key, h => ⟨h, rfl⟩
  | n + 1, out, key, h => by
    by_cases hk : key = 0 ∨ key ∈ out
    · rw [lineF_stop _ _ _ _ hk]; exact ⟨h, rfl⟩
    · rw [lineF_go _ _ _ _ hk]
      obtain ⟨h1, h2⟩ := line_head n (out ++ [key]) (nk key) (by simp)
      refine ⟨h1, h2.trans ?_⟩
      rw [List.getD_eq_getElem?_getD, List.getElem?_append_left (List.length_pos_iff.2 h), ← List.getD_eq_getElem?_getD]
theorem suc_in {ks : List tKey.den} {x : tSuccession.den} (h : (sucF ks x).2 = true) : ownF ks x.1 = ownF ks x.2.1 ∧ (sucF ks x).1.1 = x.1 ∧ (sucF ks x).1.2.1 = x.2.1 ∧ sucF ks (sucF ks x).1 = ((sucF ks x).1, true) := by
  by_cases hc : finK ks x.1 < 0 ∨ finK ks x.2.1 < 0 ∨ x.1 = x.2.1 ∨ ownF ks x.1 ≠ ownF ks x.2.1 ∨ ¬ (0 ≤ (x.2.2.1 : Int) ∧ (x.2.2.1 : Int) ≤ 10000)
  · rw [sucF, if_pos hc] at h; cases h
  · have e : sucF ks x = ((x.1, x.2.1, x.2.2.1, (mbF ks x.1 (sucI x)).1, ()), true) := by rw [sucF, if_neg hc]
    refine ⟨?_, by rw [e], by rw [e], ?_⟩
    · exact Classical.byContradiction fun hn => hc (.inr (.inr (.inr (.inl hn))))
    · rw [e]
      show sucF ks (x.1, x.2.1, x.2.2.1, (mbF ks x.1 (sucI x)).1, ()) = _
      rw [sucF, if_neg (show ¬ _ from hc)]
      rfl
theorem cks_mk {ks : List tKey.den} {x : tSuccession.den} (h : (sucF ks x).2 = true) : cksF ks (sucF ks x).1 = true := by
  unfold cksF
  rw [(suc_in h).2.2.2]
  exact Bool.and_eq_true_iff.2 ⟨rfl, eqC_t.mpr rfl⟩
theorem own_mk {ks : List tKey.den} {x : tSuccession.den} (h : (sucF ks x).2 = true) : ownF ks (sucF ks x).1.1 = ownF ks (sucF ks x).1.2.1 := by
  rw [(suc_in h).2.1, (suc_in h).2.2.1]
  exact (suc_in h).1
theorem nk_own (ks : List tKey.den) (k t : Int) : ∀ ls, nkF ks k t ls ≠ 0 → ownF ks (nkF ks k t ls) = ownF ks k
  | [], h => absurd rfl h
  | x :: xs, h => by
    rw [nkF] at h ⊢
    split
    · rename_i hc
      obtain ⟨h1, _, h3⟩ := hc
      unfold cksF at h3
      rw [← h1]
      exact (suc_in (Bool.and_eq_true_iff.1 h3).1).1.symm
    · rename_i hc
      rw [if_neg hc] at h
      exact nk_own ks k t xs h
theorem kl_good (ks : List tKey.den) (ls : List tSuccession.den) (key t : Int) : GoodL (fun k => nkF ks k t ls) (ownF ks) (ownF ks key) (klF ks ls key t) ∧ (klF ks ls key t = [] ∨ (klF ks ls key t ≠ [] ∧ (klF ks ls key t).getD 0 0 = key)) := by
  have hg0 : GoodL (fun k => nkF ks k t ls) (ownF ks) (ownF ks key) [] := ⟨List.nodup_nil, (fun h => by cases h), (fun i hi => by simp at hi), fun x hx => by cases hx⟩
  unfold klF
  split
  · exact ⟨hg0, .inl rfl⟩
  · rename_i hc
    refine ⟨line_good (fun k hk => nk_own ks k t ls hk) _ _ _ hg0 (.inl ⟨rfl, rfl⟩), .inr ?_⟩
    rw [lineF_go _ _ _ _ (fun h => h.elim (fun e => hc (.inr e)) (fun e => by cases e))]
    exact line_head _ _ _ (by simp)
end Go.Proofs.Ytneobkdgfahhoaa
