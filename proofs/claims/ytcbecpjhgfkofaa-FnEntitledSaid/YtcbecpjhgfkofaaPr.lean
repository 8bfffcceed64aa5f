/- Plain mathematics: joined spans and the gaps between them. It proves nothing of a statement by itself. -/
import Derived.Test.YtcbecpjhgfkofaaPn
set_option linter.unusedSimpArgs false
set_option linter.unusedVariables false
namespace Go.Proofs.Ytcbecpjhgfkofaa
open Go.AL
def inT (t : Int) (x : Int × Int × Unit) : Prop := x.1 ≤ t ∧ t ≤ x.2.1
def inAny (t : Int) (l : List (Int × Int × Unit)) : Prop := ∃ x, x ∈ l ∧ inT t x
theorem inAny_cons (t : Int) (x : Int × Int × Unit) (l : List (Int × Int × Unit)) : inAny t (x :: l) ↔ inT t x ∨ inAny t l := by
  constructor
  · rintro ⟨y, hy, h⟩
    rcases List.mem_cons.1 hy with rfl | hy
    · exact .inl h
    · exact .inr ⟨y, hy, h⟩
  · rintro (h | ⟨y, hy, h⟩)
    · exact ⟨x, List.mem_cons_self, h⟩
    · exact ⟨y, List.mem_cons_of_mem _ hy, h⟩
theorem inAny_nil (t : Int) : ¬ inAny t [] := by rintro ⟨y, hy, _⟩; cases hy
theorem apJ_f {x s : Int × Int × Unit} (h : ¬ apJ x s = true) : s.1 ≤ x.2.1 + 1 ∧ x.1 ≤ s.2.1 + 1 := by
  simp only [apJ, Bool.or_eq_true, decide_eq_true_eq, not_or] at h
  omega
theorem unJ_in {x s : Int × Int × Unit} (h : ¬ apJ x s = true) (hx : x.1 ≤ x.2.1) (hs : s.1 ≤ s.2.1) (t : Int) : inT t (unJ s x) ↔ (inT t s ∨ inT t x) := by
  have := apJ_f h
  simp only [inT, unJ, mnF_eq, mxF_eq]
  omega
theorem mgJ_in : ∀ (l : List (Int × Int × Unit)) (s : Int × Int × Unit), AllSp l → spB s = true → ∀ t, (inAny t (mgJ l s).1 ∨ inT t (mgJ l s).2) ↔ (inAny t l ∨ inT t s)
  | [], s, _, _, t => by simp [mgJ]
  | x :: xs, s, hl, hs, t => by
    have hx := hl x List.mem_cons_self
    have hxs : AllSp xs := fun y hy => hl y (List.mem_cons_of_mem _ hy)
    rw [mgJ]
    split
    · rename_i ha
      simp only
      rw [inAny_cons, inAny_cons, or_assoc, mgJ_in xs s hxs hs t, or_assoc]
    · rename_i ha
      rw [mgJ_in xs (unJ s x) hxs (unJ_sp hs hx) t, unJ_in ha (spB_t.1 hx).2.1 (spB_t.1 hs).2.1, inAny_cons]
      constructor
      · rintro (h | h | h)
        · exact .inl (.inr h)
        · exact .inr h
        · exact .inl (.inl h)
      · rintro ((h | h) | h)
        · exact .inr (.inr h)
        · exact .inl h
        · exact .inr (.inl h)
theorem putJ_in {out : List (Int × Int × Unit)} {s : Int × Int × Unit} (hl : AllSp out) (hs : spB s = true) (t : Int) : inAny t (putJ out s) ↔ (inAny t out ∨ inT t s) := by
  rw [← mgJ_in out s hl hs t]
  unfold putJ
  generalize insK (mgJ out s).2.1 (mgJ out s).1 = k
  generalize (mgJ out s).1 = r
  generalize (mgJ out s).2 = u
  constructor
  · rintro ⟨x, hx, h⟩
    rcases List.mem_append.1 hx with hx | hx
    · rcases List.mem_append.1 hx with hx | hx
      · exact .inl ⟨x, List.mem_of_mem_take hx, h⟩
      · simp only [List.mem_singleton] at hx
        subst hx
        exact .inr h
    · exact .inl ⟨x, List.mem_of_mem_drop hx, h⟩
  · rintro (⟨x, hx, h⟩ | h)
    · refine ⟨x, ?_, h⟩
      rw [← List.take_append_drop k r] at hx
      rcases List.mem_append.1 hx with hx | hx
      · exact List.mem_append_left _ (List.mem_append_left _ hx)
      · exact List.mem_append_right _ hx
    · exact ⟨u, List.mem_append_left _ (List.mem_append_right _ (by simp)), h⟩
theorem jaF_in : ∀ (l out : List (Int × Int × Unit)), AllSp out → ∀ t, inAny t (jaF out l) ↔ (inAny t out ∨ ∃ x, x ∈ l ∧ spB x = true ∧ inT t x)
  | [], out, h, t => by simp [jaF]
  | s :: l, out, h, t => by
    rw [jaF]
    by_cases hs : spB s = true
    · rw [if_pos hs, jaF_in l _ (putJ_sp h hs).1 t, putJ_in h hs]
      constructor
      · rintro ((h | h) | ⟨x, hx, h⟩)
        · exact .inl h
        · exact .inr ⟨s, List.mem_cons_self, hs, h⟩
        · exact .inr ⟨x, List.mem_cons_of_mem _ hx, h⟩
      · rintro (h | ⟨x, hx, h1, h2⟩)
        · exact .inl (.inl h)
        · rcases List.mem_cons.1 hx with rfl | hx
          · exact .inl (.inr h2)
          · exact .inr ⟨x, hx, h1, h2⟩
    · rw [if_neg hs, jaF_in l out h t]
      constructor
      · rintro (h | ⟨x, hx, h⟩)
        · exact .inl h
        · exact .inr ⟨x, List.mem_cons_of_mem _ hx, h⟩
      · rintro (h | ⟨x, hx, h1, h2⟩)
        · exact .inl h
        · rcases List.mem_cons.1 hx with rfl | hx
          · exact absurd h1 hs
          · exact .inr ⟨x, hx, h1, h2⟩

def SepL (l : List (Int × Int × Unit)) : Prop := l.Pairwise (fun x y => x.2.1 + 1 < y.1)
theorem gap_lo : ∀ (l : List (Int × Int × Unit)) (n : Int), AllSp l → (∀ x, x ∈ l → n ≤ x.1) → SepL l → ∀ t, inAny t (gapF n l) → n ≤ t
  | [], n, _, _, _, t, h => by
    unfold gapF at h
    split at h
    · obtain ⟨x, hx, h1, _⟩ := h
      simp only [List.mem_singleton] at hx
      subst hx
      exact h1
    · exact absurd h (inAny_nil t)
  | x :: xs, n, hl, hn, hs, t, h => by
    have hx := spB_t.1 (hl x List.mem_cons_self)
    have h0 := hn x List.mem_cons_self
    obtain ⟨p1, p2⟩ := List.pairwise_cons.1 hs
    unfold gapF at h
    obtain ⟨y, hy, h1⟩ := h
    rcases List.mem_append.1 hy with hy | hy
    · split at hy
      · simp only [List.mem_singleton] at hy
        subst hy
        exact h1.1
      · cases hy
    · have := gap_lo xs (x.2.1 + 1) (fun y hy => hl y (List.mem_cons_of_mem _ hy)) (fun y hy => by have := p1 y hy; omega) p2 t ⟨y, hy, h1⟩
      omega
theorem gap_in : ∀ (l : List (Int × Int × Unit)) (n : Int), AllSp l → (∀ x, x ∈ l → n ≤ x.1) → SepL l → ∀ t, n ≤ t → t ≤ 10000 → (inAny t (gapF n l) ↔ ¬ inAny t l)
  | [], n, _, _, _, t, h1, h2 => by
    unfold gapF
    rw [if_pos (by omega)]
    exact ⟨fun _ => inAny_nil t, fun _ => ⟨_, List.mem_cons_self, h1, h2⟩⟩
  | x :: xs, n, hl, hn, hs, t, h1, h2 => by
    have hx := spB_t.1 (hl x List.mem_cons_self)
    have h0 := hn x List.mem_cons_self
    obtain ⟨p1, p2⟩ := List.pairwise_cons.1 hs
    have hxs : AllSp xs := fun y hy => hl y (List.mem_cons_of_mem _ hy)
    have hb : ∀ y, y ∈ xs → x.2.1 + 1 ≤ y.1 := fun y hy => by have := p1 y hy; omega
    have ih := gap_in xs (x.2.1 + 1) hxs hb p2 t
    have lo := gap_lo xs (x.2.1 + 1) hxs hb p2 t
    rw [inAny_cons, not_or]
    unfold gapF
    have ap : ∀ a b : List (Int × Int × Unit), inAny t (a ++ b) ↔ (inAny t a ∨ inAny t b) := fun a b => by
      constructor
      · rintro ⟨y, hy, h⟩
        rcases List.mem_append.1 hy with hy | hy
        · exact .inl ⟨y, hy, h⟩
        · exact .inr ⟨y, hy, h⟩
      · rintro (⟨y, hy, h⟩ | ⟨y, hy, h⟩)
        · exact ⟨y, List.mem_append_left _ hy, h⟩
        · exact ⟨y, List.mem_append_right _ hy, h⟩
    rw [ap]
    by_cases ht : x.2.1 + 1 ≤ t
    · rw [ih ht h2]
      constructor
      · rintro (h | h)
        · split at h
          · obtain ⟨y, hy, h3⟩ := h
            simp only [List.mem_singleton] at hy
            subst hy
            have := h3.2
            simp only at this
            omega
          · exact absurd h (inAny_nil t)
        · exact ⟨fun h3 => by have := h3.2; omega, h⟩
      · rintro ⟨_, h⟩
        exact .inr h
    · have hno : ¬ inAny t (gapF (x.2.1 + 1) xs) := fun h => ht (lo h)
      have hnx : ¬ inAny t xs := by
        rintro ⟨y, hy, h3⟩
        have := hb y hy
        have := h3.1
        omega
      constructor
      · rintro (h | h)
        · split at h
          · obtain ⟨y, hy, h3⟩ := h
            simp only [List.mem_singleton] at hy
            subst hy
            have := h3.2
            simp only at this
            exact ⟨fun h4 => by have := h4.1; omega, hnx⟩
          · exact absurd h (inAny_nil t)
        · exact absurd h hno
      · rintro ⟨h, _⟩
        left
        have hlt : n < x.1 ∧ t < x.1 := by
          have : ¬ x.1 ≤ t := fun h9 => h ⟨h9, by omega⟩
          omega
        rw [if_pos hlt.1]
        exact ⟨_, List.mem_cons_self, h1, by simp only; omega⟩

theorem mgJ_far : ∀ (l : List (Int × Int × Unit)) (s : Int × Int × Unit), (∀ y, y ∈ l → s.2.1 + 1 < y.1) → mgJ l s = (l, s)
  | [], s, _ => rfl
  | x :: xs, s, h => by
    have ha : apJ x s = true := by
      have := h x List.mem_cons_self
      simp [apJ, this]
    rw [mgJ, if_pos ha, mgJ_far xs s (fun y hy => h y (List.mem_cons_of_mem _ hy))]
theorem mgJ_lo : ∀ (l : List (Int × Int × Unit)) (s : Int × Int × Unit) (a : Int), a + 1 < s.1 → (∀ y, y ∈ l → a + 1 < y.1) → a + 1 < (mgJ l s).2.1
  | [], s, a, h, _ => h
  | x :: xs, s, a, h, hl => by
    have hx := hl x List.mem_cons_self
    have hxs : ∀ y, y ∈ xs → a + 1 < y.1 := fun y hy => hl y (List.mem_cons_of_mem _ hy)
    rw [mgJ]
    split
    · exact mgJ_lo xs s a h hxs
    · refine mgJ_lo xs _ a ?_ hxs
      simp only [unJ, mnF_eq]
      omega
theorem mgJ_sub : ∀ (l : List (Int × Int × Unit)) (s : Int × Int × Unit) (y : Int × Int × Unit), y ∈ (mgJ l s).1 → y ∈ l
  | [], s, y, h => h
  | x :: xs, s, y, h => by
    rw [mgJ] at h
    split at h
    · rcases List.mem_cons.1 h with rfl | h
      · exact List.mem_cons_self
      · exact List.mem_cons_of_mem _ (mgJ_sub xs s y h)
    · exact List.mem_cons_of_mem _ (mgJ_sub xs _ y h)
theorem mgJ_sep : ∀ (l : List (Int × Int × Unit)) (s : Int × Int × Unit), AllSp l → spB s = true → SepL l → SepL (mgJ l s).1 ∧ ∀ x, x ∈ (mgJ l s).1 → apJ x (mgJ l s).2 = true
  | [], s, _, _, _ => ⟨List.Pairwise.nil, fun x hx => by cases hx⟩
  | x :: xs, s, hl, hs, hp => by
    have hx := hl x List.mem_cons_self
    have hx1 := spB_t.1 hx
    have hxs : AllSp xs := fun y hy => hl y (List.mem_cons_of_mem _ hy)
    obtain ⟨p1, p2⟩ := List.pairwise_cons.1 hp
    rw [mgJ]
    split
    · rename_i ha
      obtain ⟨h1, h2⟩ := mgJ_sep xs s hxs hs p2
      refine ⟨List.pairwise_cons.2 ⟨fun y hy => p1 y (mgJ_sub xs s y hy), h1⟩, fun y hy => ?_⟩
      rcases List.mem_cons.1 hy with rfl | hy
      · simp only [apJ, Bool.or_eq_true, decide_eq_true_eq] at ha
        rcases ha with ha | ha
        · have := mgJ_lo xs s y.2.1 ha p1
          simp [apJ, this]
        · rw [mgJ_far xs s (fun z hz => by have := p1 z hz; omega)]
          simp [apJ, ha]
      · exact h2 y hy
    · exact mgJ_sep xs (unJ s x) hxs (unJ_sp hs hx) p2
theorem ins_sep (u : Int × Int × Unit) (hu : spB u = true) : ∀ (r : List (Int × Int × Unit)), AllSp r → SepL r → (∀ x, x ∈ r → apJ x u = true) → SepL ((r.take (insK u.1 r) ++ [u]) ++ r.drop (insK u.1 r))
  | [], _, _, _ => by simp [insK, SepL]
  | x :: xs, hl, hp, ha => by
    have hx1 := spB_t.1 (hl x List.mem_cons_self)
    have hu1 := spB_t.1 hu
    have hxs : AllSp xs := fun y hy => hl y (List.mem_cons_of_mem _ hy)
    obtain ⟨p1, p2⟩ := List.pairwise_cons.1 hp
    have hax := ha x List.mem_cons_self
    simp only [apJ, Bool.or_eq_true, decide_eq_true_eq] at hax
    rw [insK]
    split
    · rename_i hlt
      rw [List.take_succ_cons, List.drop_succ_cons, List.cons_append, List.cons_append]
      refine List.pairwise_cons.2 ⟨fun z hz => ?_, ins_sep u hu xs hxs p2 (fun y hy => ha y (List.mem_cons_of_mem _ hy))⟩
      rcases List.mem_append.1 hz with hz | hz
      · rcases List.mem_append.1 hz with hz | hz
        · exact p1 z (List.mem_of_mem_take hz)
        · simp only [List.mem_singleton] at hz
          subst hz
          omega
      · exact p1 z (List.mem_of_mem_drop hz)
    · rename_i hge
      rw [List.take_zero, List.drop_zero, List.nil_append, List.singleton_append]
      refine List.pairwise_cons.2 ⟨fun z hz => ?_, hp⟩
      rcases List.mem_cons.1 hz with rfl | hz
      · omega
      · have := p1 z hz
        omega
theorem putJ_sep {out : List (Int × Int × Unit)} {s : Int × Int × Unit} (hl : AllSp out) (hs : spB s = true) (hp : SepL out) : SepL (putJ out s) := by
  obtain ⟨h1, h2, _⟩ := mgJ_sp out s hl hs
  obtain ⟨h3, h4⟩ := mgJ_sep out s hl hs hp
  exact ins_sep _ h2 _ h1 h3 h4
theorem jaF_sep : ∀ (l out : List (Int × Int × Unit)), AllSp out → SepL out → SepL (jaF out l)
  | [], out, _, h => h
  | s :: l, out, h, hp => by
    rw [jaF]
    by_cases hs : spB s = true
    · rw [if_pos hs]
      exact jaF_sep l _ (putJ_sp h hs).1 (putJ_sep h hs hp)
    · rw [if_neg hs]
      exact jaF_sep l out h hp
/-- The gaps of joined spans cover what these do not. -/
theorem ja_gap (l : List (Int × Int × Unit)) {t : Int} (h0 : 0 ≤ t) (h1 : t ≤ 10000) : inAny t (gapF 0 (jaF [] l)) ↔ ¬ ∃ x, x ∈ l ∧ spB x = true ∧ inT t x := by
  have hn : AllSp ([] : List (Int × Int × Unit)) := fun x hx => by cases hx
  have ha := (jaF_sp l [] hn).1
  rw [gap_in _ 0 ha (fun x hx => (spB_t.1 (ha x hx)).1) (jaF_sep l [] hn List.Pairwise.nil) t h0 h1, jaF_in l [] hn t]
  constructor
  · intro h hx; exact h (.inr hx)
  · rintro h (hx | hx)
    · exact inAny_nil t hx
    · exact h hx
theorem gap_sp : ∀ (l : List (Int × Int × Unit)) (n : Int), AllSp l → 0 ≤ n → AllSp (gapF n l)
  | [], n, _, h0 => by
    unfold gapF
    intro x hx
    split at hx
    · simp only [List.mem_singleton] at hx
      subst hx
      exact spB_t.2 ⟨h0, by simp only; omega, by simp only; omega⟩
    · cases hx
  | x :: xs, n, hl, h0 => by
    have hx := spB_t.1 (hl x List.mem_cons_self)
    unfold gapF
    intro y hy
    rcases List.mem_append.1 hy with hy | hy
    · split at hy
      · simp only [List.mem_singleton] at hy
        subst hy
        exact spB_t.2 ⟨h0, by simp only; omega, by simp only; omega⟩
      · cases hy
    · exact gap_sp xs _ (fun y hy => hl y (List.mem_cons_of_mem _ hy)) (by omega) y hy
def toF (l : List (Int × Int × Unit)) (s : Int × Int × Unit) : Bool := l.any fun x => (meF x s).2
theorem toF_in {l : List (Int × Int × Unit)} {t : Int} (h0 : 0 ≤ t) (h1 : t ≤ 10000) : toF l (t, t, ()) = true ↔ ∃ x, x ∈ l ∧ spB x = true ∧ inT t x := by
  unfold toF
  rw [List.any_eq_true]
  constructor
  · rintro ⟨x, hx, h⟩
    refine ⟨x, hx, ?_⟩
    unfold meF at h
    split at h
    · rename_i hc
      refine ⟨hc.1, ?_⟩
      have := hc.2.2
      simp only [mxF_eq, mnF_eq] at this
      unfold inT
      omega
    · cases h
  · rintro ⟨x, hx, h2, h3⟩
    refine ⟨x, hx, ?_⟩
    unfold meF
    unfold inT at h3
    rw [if_pos ⟨h2, spB_t.2 ⟨h0, Int.le_refl _, h1⟩, by simp only [mxF_eq, mnF_eq]; omega⟩]
end Go.Proofs.Ytcbecpjhgfkofaa
