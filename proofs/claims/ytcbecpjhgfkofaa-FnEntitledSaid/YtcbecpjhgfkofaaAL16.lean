/- A region that draws its order: the order of the text serves for all. A general part, over any program. -/
import Derived.Test.YtcbecpjhgfkofaaAL15
set_option linter.unusedSimpArgs false
set_option linter.unusedVariables false
namespace Go.AL
open Go.RowKit

theorem updAll_out : ∀ (l : List (Nat × AObj)) (f : Nat → AObj) (j : Nat), j ∉ l.map (·.1) → updAll f l j = f j
  | [], _, _, _ => rfl
  | u :: l, f, j, h => by
    simp only [List.map_cons, List.mem_cons, not_or] at h
    simp only [updAll]
    rw [updAll_out l _ j h.2, upd_ne _ _ _ _ h.1]

theorem updAll_in : ∀ (l : List (Nat × AObj)) (f g : Nat → AObj) (j : Nat), j ∈ l.map (·.1) → updAll f l j = updAll g l j
  | [], _, _, _, h => by cases h
  | u :: l, f, g, j, h => by
    simp only [updAll]
    by_cases hl : j ∈ l.map (·.1)
    · exact updAll_in l _ _ j hl
    · simp only [List.map_cons, List.mem_cons] at h
      rcases h with h | h
      · rw [updAll_out l _ j hl, updAll_out l _ j hl, h, upd_same, upd_same]
      · exact absurd h hl

theorem St.ext' {σ τ : St} (h1 : ∀ t, σ.tmps t = τ.tmps t) (h2 : ∀ j, σ.objs j = τ.objs j) : σ = τ := by
  cases σ; cases τ
  simp only [St.mk.injEq]
  exact ⟨funext h1, funext h2⟩

/-- A record: where the result goes, and the effect. -/
abbrev Rec := Option Nat × Eff

def St.rc (σ : St) (r : Rec) : St := σ.app r.1 r.2

theorem rec_tmps (σ : St) (r : Rec) (t : Nat) : (σ.rc r).tmps t = if r.1 = some t then r.2.av else σ.tmps t := by
  obtain ⟨d, e⟩ := r
  cases d with
  | none => simp [St.rc, St.app, St.put]
  | some d =>
    by_cases h : t = d
    · subst h; simp [St.rc, St.app, St.put, upd_same]
    · have h' : ¬ d = t := fun k => h k.symm
      simp [St.rc, St.app, St.put, upd_ne _ _ _ _ h, h']

theorem rec_objs (σ : St) (r : Rec) : (σ.rc r).objs = updAll σ.objs r.2.upds := by
  obtain ⟨d, e⟩ := r
  cases d <;> rfl

/-- The state behind those records whose numbers (from k on) are in S. -/
def mrg (S : Nat → Bool) : Nat → List Rec → St → St
  | _, [], σ => σ
  | k, r :: rs, σ => mrg S (k + 1) rs (bif S k then σ.rc r else σ)

theorem mrg_tmps {S S' : Nat → Bool} {t : Nat} : ∀ (rs : List Rec) (k : Nat) (σ σ' : St), (∀ j r, rs[j]? = some r → r.1 = some t → S (k + j) = S' (k + j)) → σ.tmps t = σ'.tmps t → (mrg S k rs σ).tmps t = (mrg S' k rs σ').tmps t
  | [], _, _, _, _, h => h
  | r :: rs, k, σ, σ', hS, h => by
    simp only [mrg]
    refine mrg_tmps rs (k + 1) _ _ (fun j r' hj hr => by have := hS (j + 1) r' (by simpa using hj) hr; rwa [show k + 1 + j = k + (j + 1) by omega]) ?_
    by_cases hr : r.1 = some t
    · have := hS 0 r rfl hr
      simp only [Nat.add_zero] at this
      rw [this]
      cases S' k with
      | true => simp only [cond_true]; rw [rec_tmps, rec_tmps, if_pos hr, if_pos hr]
      | false => exact h
    · have f : ∀ (b : Bool) (σ : St), (bif b then σ.rc r else σ).tmps t = σ.tmps t := by
        intro b σ
        cases b with
        | true => simp only [cond_true]; rw [rec_tmps, if_neg hr]
        | false => rfl
      rw [f, f, h]

theorem mrg_objs {S S' : Nat → Bool} {id : Nat} : ∀ (rs : List Rec) (k : Nat) (σ σ' : St), (∀ j r, rs[j]? = some r → id ∈ r.2.upds.map (·.1) → S (k + j) = S' (k + j)) → σ.objs id = σ'.objs id → (mrg S k rs σ).objs id = (mrg S' k rs σ').objs id
  | [], _, _, _, _, h => h
  | r :: rs, k, σ, σ', hS, h => by
    simp only [mrg]
    refine mrg_objs rs (k + 1) _ _ (fun j r' hj hr => by have := hS (j + 1) r' (by simpa using hj) hr; rwa [show k + 1 + j = k + (j + 1) by omega]) ?_
    by_cases hr : id ∈ r.2.upds.map (·.1)
    · have := hS 0 r rfl hr
      simp only [Nat.add_zero] at this
      rw [this]
      cases S' k with
      | true => simp only [cond_true]; rw [rec_objs, rec_objs]; exact updAll_in _ _ _ _ hr
      | false => exact h
    · have f : ∀ (b : Bool) (σ : St), (bif b then σ.rc r else σ).objs id = σ.objs id := by
        intro b σ
        cases b with
        | true => simp only [cond_true]; rw [rec_objs]; exact updAll_out _ _ _ hr
        | false => rfl
      rw [f, f, h]

/-- Two records that may be done in either order. -/
def Apart (r q : Rec) : Prop := (∀ t, r.1 = some t → q.1 ≠ some t) ∧ ∀ j, j ∈ r.2.upds.map (·.1) → j ∉ q.2.upds.map (·.1)

theorem rec_comm (σ : St) {r q : Rec} (h : Apart r q) : (σ.rc r).rc q = (σ.rc q).rc r := by
  refine St.ext' (fun t => ?_) fun j => ?_
  · rw [rec_tmps, rec_tmps, rec_tmps, rec_tmps]
    by_cases h1 : r.1 = some t
    · rw [if_neg (h.1 t h1), if_pos h1, if_pos h1]
    · rw [if_neg h1, if_neg h1]
  · rw [rec_objs, rec_objs, rec_objs, rec_objs]
    by_cases h1 : j ∈ r.2.upds.map (·.1)
    · rw [updAll_out q.2.upds _ j (h.2 j h1)]
      exact updAll_in _ _ _ _ h1
    · rw [updAll_out r.2.upds _ j h1]
      by_cases h2 : j ∈ q.2.upds.map (·.1)
      · exact updAll_in _ _ _ _ h2
      · rw [updAll_out q.2.upds _ j h2, updAll_out q.2.upds _ j h2, updAll_out r.2.upds _ j h1]

theorem mrg_rec (S : Nat → Bool) {q : Rec} : ∀ (rs : List Rec) (k : Nat) (σ : St), (∀ j r, rs[j]? = some r → S (k + j) = true → Apart q r) → mrg S k rs (σ.rc q) = (mrg S k rs σ).rc q
  | [], _, _, _ => rfl
  | r :: rs, k, σ, h => by
    simp only [mrg]
    have ih := mrg_rec S (q := q) rs (k + 1)
    cases hs : S k with
    | true =>
      simp only [cond_true]
      rw [rec_comm σ (h 0 r rfl (by simpa using hs))]
      exact ih _ fun j r' hj hS => h (j + 1) r' (by simpa using hj) (by rwa [show k + (j + 1) = k + 1 + j by omega])
    | false =>
      exact ih _ fun j r' hj hS => h (j + 1) r' (by simpa using hj) (by rwa [show k + (j + 1) = k + 1 + j by omega])

/-- One more record, wherever it stands. -/
theorem mrg_insert (S : Nat → Bool) {i : Nat} {q : Rec} : ∀ (rs : List Rec) (k : Nat) (σ : St), rs[i]? = some q → S (k + i) = false → (∀ j r, rs[j]? = some r → i < j → S (k + j) = true → Apart q r) →
    mrg (fun j => S j || j == k + i) k rs σ = (mrg S k rs σ).rc q := by
  induction i with
  | zero =>
    intro rs k σ hi hS h
    cases rs with
    | nil => cases hi
    | cons r rs =>
      have e : r = q := by simpa using hi
      subst e
      simp only [Nat.add_zero] at hS ⊢
      simp only [mrg, hS, Bool.false_or, beq_self_eq_true, cond_true, cond_false]
      have e2 : mrg (fun j => S j || j == k) (k + 1) rs (σ.rc r) = mrg S (k + 1) rs (σ.rc r) := by
        have gen : ∀ (rs : List Rec) (m : Nat) (σ : St), k < m → mrg (fun j => S j || j == k) m rs σ = mrg S m rs σ := by
          intro rs
          induction rs with
          | nil => intro m σ _; rfl
          | cons r rs ih =>
            intro m σ hm
            simp only [mrg]
            have : (m == k) = false := by simp; omega
            rw [this, Bool.or_false]
            exact ih (m + 1) _ (by omega)
        exact gen rs (k + 1) _ (by omega)
      rw [e2]
      exact mrg_rec S rs (k + 1) σ fun j r' hj hS' => h (j + 1) r' (by simpa using hj) (by omega) (by rwa [show k + (j + 1) = k + 1 + j by omega])
  | succ i ih =>
    intro rs k σ hi hS h
    cases rs with
    | nil => cases hi
    | cons r rs =>
      simp only [mrg]
      have hk : (k == k + (i + 1)) = false := by simp
      rw [hk, Bool.or_false]
      have e : k + (i + 1) = k + 1 + i := by omega
      rw [e] at hS ⊢
      exact ih rs (k + 1) _ (by simpa using hi) hS fun j r' hj hij hS' => h (j + 1) r' (by simpa using hj) (by omega) (by rwa [show k + (j + 1) = k + 1 + j by omega])

end Go.AL
