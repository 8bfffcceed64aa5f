/- Functions on abstract frames: how they begin, how they end; states that say less. A general part, over any program. -/
import Derived.Test.YtcbecpjhgfkofaaAL18
set_option linter.unusedSimpArgs false
set_option linter.unusedVariables false
set_option linter.unusedSectionVars false
namespace Go.AL
open Go.RowKit

/-! ### States by lists -/

def lkT : List (Nat × AV) → Nat → AV
  | [], _ => .any
  | p :: r, t => bif Nat.beq t p.1 then p.2 else lkT r t

def lkO : List (Nat × AObj) → Nat → AObj
  | [], _ => .unborn
  | p :: r, t => bif Nat.beq t p.1 then p.2 else lkO r t

def lkR : List (Nat × Option Nat) → Nat → Option (Option Nat)
  | [], _ => none
  | p :: r, t => bif Nat.beq t p.1 then some p.2 else lkR r t

def shp (tm : List (Nat × AV)) (ob : List (Nat × AObj)) : St := ⟨lkT tm, lkO ob⟩

mutual
def AVLe (objs : Nat → AObj) (ρ : List (Nat × Option Nat)) : AV → AV → Prop
  | _, .any => True
  | a, .rd t x => a.uc ∧ tvc objs t a.un ∧ tvd objs t a.un = x
  | .ptr t x, .ptr t' x' => AV.ptr t x = AV.ptr t' x'
  | .nils, .nils => True
  | .own i, .own j => lkR ρ j = some (some i) ∧ (objs i).live = true
  | .nils, .own j => lkR ρ j = some none
  | .bp i off, .bp j off' => lkR ρ j = some (some i) ∧ (objs i).live = true ∧ off = off'
  | .agg cs, .agg cs' => AVsLe objs ρ cs cs'
  | .tup cs, .tup cs' => AVsLe objs ρ cs cs'
  | _, _ => False
def AVsLe (objs : Nat → AObj) (ρ : List (Nat × Option Nat)) : List AV → List AV → Prop
  | [], [] => True
  | a :: as, b :: bs => AVLe objs ρ a b ∧ AVsLe objs ρ as bs
  | _, _ => False
end

def ObLe (objs : Nat → AObj) (ρ : List (Nat × Option Nat)) : AObj → AObj → Prop
  | .row e t xs, .row e' t' xs' => AObj.row e t xs = AObj.row e' t' xs'
  | .arr e t xs, .arr e' t' xs' => AObj.arr e t xs = AObj.arr e' t' xs'
  | .box T cs, .box T' cs' => T = T' ∧ AVsLe objs ρ cs cs'
  | _, _ => False

def obsLe (objs : Nat → AObj) (ρ : List (Nat × Option Nat)) : List (Nat × AObj) → Prop
  | [] => True
  | p :: r => (match lkR ρ p.1 with
    | some (some i) => ObLe objs ρ (objs i) p.2
    | some none => match p.2 with
      | .row _ t xs => xs = [] ∧ 0 < t.size
      | _ => False
    | none => False) ∧ obsLe objs ρ r

def tmsLe (σ : St) (ρ : List (Nat × Option Nat)) : List (Nat × AV) → Prop
  | [] => True
  | p :: r => AVLe σ.objs ρ (σ.tmps p.1) p.2 ∧ tmsLe σ ρ r

def rhoOK (ob : List (Nat × AObj)) : List (Nat × Option Nat) → Prop
  | [] => True
  | p :: r => (lkO ob p.1).born = true ∧ (match p.2 with
    | some i => (r.all fun q => match q.2 with | some j => !(Nat.beq j i) | none => true) = true
    | none => True) ∧ rhoOK ob r

theorem lkR_mem {j : Nat} {x : Option Nat} : ∀ {ρ : List (Nat × Option Nat)}, lkR ρ j = some x → (j, x) ∈ ρ
  | [], h => by cases h
  | p :: r, h => by
    simp only [lkR] at h
    cases hb : Nat.beq j p.1 with
    | true =>
      rw [hb] at h
      simp only [cond_true] at h
      injection h with h
      have := Nat.eq_of_beq_eq_true hb
      subst this; subst h
      exact List.mem_cons_self
    | false => rw [hb] at h; exact List.mem_cons_of_mem _ (lkR_mem h)

theorem lkO_mem {j : Nat} : ∀ {ob : List (Nat × AObj)}, (lkO ob j).born = true → (j, lkO ob j) ∈ ob
  | [], h => by cases h
  | p :: r, h => by
    simp only [lkO] at h ⊢
    cases hb : Nat.beq j p.1 with
    | true =>
      have := Nat.eq_of_beq_eq_true hb
      subst this
      simp only [cond_true]
      exact List.mem_cons_self
    | false => rw [hb] at h; simp only [cond_false] at h ⊢; exact List.mem_cons_of_mem _ (lkO_mem h)

theorem rhoOK_born {ob : List (Nat × AObj)} : ∀ {ρ : List (Nat × Option Nat)}, rhoOK ob ρ → ∀ p, p ∈ ρ → (lkO ob p.1).born = true
  | [], _, p, h => by cases h
  | q :: r, hr, p, h => by
    rcases List.mem_cons.1 h with rfl | h
    · exact hr.1
    · exact rhoOK_born hr.2.2 p h

theorem rhoOK_inj {ob : List (Nat × AObj)} {i : Nat} : ∀ {ρ : List (Nat × Option Nat)}, rhoOK ob ρ → ∀ j1 j2, lkR ρ j1 = some (some i) → lkR ρ j2 = some (some i) → j1 = j2
  | [], _, _, _, h, _ => by cases h
  | q :: r, hr, j1, j2, h1, h2 => by
    have one : ∀ j, q.2 = some i → lkR r j = some (some i) → False := by
      intro j hq hj
      have h3 := hr.2.1
      rw [hq] at h3
      simp only at h3
      have := List.all_eq_true.1 h3 _ (lkR_mem hj)
      simp at this
    simp only [lkR] at h1 h2
    cases hb1 : Nat.beq j1 q.1 <;> cases hb2 : Nat.beq j2 q.1 <;> rw [hb1] at h1 <;> rw [hb2] at h2 <;> simp only [cond_true, cond_false] at h1 h2
    · exact rhoOK_inj hr.2.2 j1 j2 h1 h2
    · injection h2 with h2; exact (one j1 h2 h1).elim
    · injection h1 with h1; exact (one j2 h1 h2).elim
    · rw [Nat.eq_of_beq_eq_true hb1, Nat.eq_of_beq_eq_true hb2]

section
variable {w : World} {lim : Nat → Nat} {G G' : Nat → Value} {objs objs' : Nat → AObj} {ρ : List (Nat × Option Nat)} {B : Nat}
  (ho : ∀ id, ObjOK w lim G objs B (G id) (objs id)) (hr : ∀ j i, lkR ρ j = some (some i) → (objs' j).born = true ∧ G' j = G i) (hn : ∀ j, lkR ρ j = some none → (objs' j).born = true ∧ G' j = .slice none 0 0)
include ho hr hn

mutual
theorem AVLe_ok : ∀ (b a : AV) (v : Value), AVLe objs ρ a b → AVok w lim G objs a v → AVok w lim G' objs' b v
  | .any, a, v, _, _ => by simp only [AVok]
  | .rd t x, a, v, h, hv => by
    have h' : a.uc ∧ tvc objs t a.un ∧ tvd objs t a.un = x := by cases a <;> simpa only [AVLe] using h
    obtain ⟨h1, h2, h3⟩ := h'
    simp only [AVok]
    rw [← h3]
    exact tv_ok ho t _ v h2 (hv.un h1)
  | .ptr t x, a, v, h, hv => by
    cases a <;> simp only [AVLe] at h
    rw [h] at hv
    simpa only [AVok] using hv
  | .nils, a, v, h, hv => by
    cases a <;> simp only [AVLe] at h
    simpa only [AVok] using hv
  | .own j, a, v, h, hv => by
    cases a <;> simp only [AVLe] at h
    · simp only [AVok] at hv ⊢
      obtain ⟨k1, k2⟩ := hn j h
      exact ⟨k1, fun _ => by rw [k2]; exact hv⟩
    · simp only [AVok] at hv ⊢
      obtain ⟨k1, k2⟩ := hr j _ h.1
      exact ⟨k1, fun _ => by rw [k2]; exact hv.2 h.2⟩
  | .bp j off, a, v, h, hv => by
    cases a <;> simp only [AVLe] at h
    simp only [AVok] at hv ⊢
    obtain ⟨k1, k2⟩ := hr j _ h.1
    obtain ⟨_, h2, h3⟩ := h
    subst h3
    exact ⟨k1, fun _ => by rw [k2]; exact hv.2 h2⟩
  | .ep _ _ _, a, v, h, hv => by cases a <;> simp only [AVLe] at h
  | .ef _ _ _ _, a, v, h, hv => by cases a <;> simp only [AVLe] at h
  | .gd _ _, a, v, h, hv => by cases a <;> simp only [AVLe] at h
  | .fn _ _, a, v, h, hv => by cases a <;> simp only [AVLe] at h
  | .agg cs, a, v, h, hv => by
    cases a <;> simp only [AVLe] at h
    simp only [AVok] at hv ⊢
    obtain ⟨arr, h1, h2⟩ := hv
    exact ⟨arr, h1, AVsLe_ok cs _ arr h h2⟩
  | .tup cs, a, v, h, hv => by
    cases a <;> simp only [AVLe] at h
    simp only [AVok] at hv ⊢
    obtain ⟨arr, h1, h2⟩ := hv
    exact ⟨arr, h1, AVsLe_ok cs _ arr h h2⟩
theorem AVsLe_ok : ∀ (bs as : List AV) (vs : List Value), AVsLe objs ρ as bs → AVsOk w lim G objs as vs → AVsOk w lim G' objs' bs vs
  | [], as, vs, h, hv => by
    cases as <;> simp only [AVsLe] at h
    simpa only [AVsOk] using hv
  | b :: bs, as, vs, h, hv => by
    cases as with
    | nil => simp only [AVsLe] at h
    | cons a as =>
      simp only [AVsLe] at h
      simp only [AVsOk] at hv ⊢
      obtain ⟨v, r, h1, h2, h3⟩ := hv
      exact ⟨v, r, h1, AVLe_ok b a v h.1 h2, AVsLe_ok bs as r h.2 h3⟩
end
end

theorem obsLe_at {objs : Nat → AObj} {ρ : List (Nat × Option Nat)} : ∀ {ob : List (Nat × AObj)}, obsLe objs ρ ob → ∀ p, p ∈ ob → (match lkR ρ p.1 with
    | some (some i) => ObLe objs ρ (objs i) p.2
    | some none => match p.2 with
      | .row _ t xs => xs = [] ∧ 0 < t.size
      | _ => False
    | none => False)
  | [], _, p, h => by cases h
  | q :: r, hr, p, h => by
    rcases List.mem_cons.1 h with rfl | h
    · exact hr.1
    · exact obsLe_at hr.2 p h

theorem tmsLe_at {σ : St} {ρ : List (Nat × Option Nat)} : ∀ {tm : List (Nat × AV)}, tmsLe σ ρ tm → ∀ t, AVLe σ.objs ρ (σ.tmps t) (lkT tm t)
  | [], _, t => by simp only [lkT]; cases σ.tmps t <;> simp only [AVLe]
  | q :: r, hr, t => by
    simp only [lkT]
    cases hb : Nat.beq t q.1 with
    | true => rw [Nat.eq_of_beq_eq_true hb]; exact hr.1
    | false => exact tmsLe_at hr.2 t

/-- How many temporaries there are, and which objects were lent. -/
def Cx.is (cx : Cx) (N : Nat) (l : List Nat) : Prop := cx.N = N ∧ (∀ j r, cx.R j = some r → j ∈ l) ∧ ∀ p, ¬ cx.F p

def rhoL (ρ : List (Nat × Option Nat)) : List Nat → Prop
  | [] => True
  | j :: r => lkR ρ j = some (some j) ∧ rhoL ρ r

theorem rhoL_spec {ρ : List (Nat × Option Nat)} : ∀ {l : List Nat}, rhoL ρ l → ∀ j, j ∈ l → lkR ρ j = some (some j)
  | [], _, j, h => by cases h
  | i :: r, hr, j, h => by
    rcases List.mem_cons.1 h with rfl | h
    · exact hr.1
    · exact rhoL_spec hr.2 j h

theorem sub_shp {cx : Cx} {σ : St} {N : Nat} {l : List Nat} (hN : cx.is N l) {tm : List (Nat × AV)} {ob : List (Nat × AObj)} (ρ : List (Nat × Option Nat)) (h0 : rhoOK ob ρ ∧ rhoL ρ l ∧ obsLe σ.objs ρ ob ∧ tmsLe σ ρ tm) : Sub cx σ (shp tm ob) := by
  obtain ⟨h1, h4, h2, h3⟩ := h0
  intro a w hs
  obtain ⟨lim, G, hh, hf⟩ := hs
  let G' : Nat → Value := fun j => match lkR ρ j with
    | some (some i) => G i
    | _ => .slice none 0 0
  have hr : ∀ j i, lkR ρ j = some (some i) → (lkO ob j).born = true ∧ G' j = G i := by
    intro j i hj
    refine ⟨rhoOK_born h1 _ (lkR_mem hj), ?_⟩
    show (match lkR ρ j with | some (some i) => G i | _ => _) = _
    rw [hj]
  have hn : ∀ j, lkR ρ j = some none → (lkO ob j).born = true ∧ G' j = .slice none 0 0 := by
    intro j hj
    refine ⟨rhoOK_born h1 _ (lkR_mem hj), ?_⟩
    show (match lkR ρ j with | some (some i) => G i | _ => _) = _
    rw [hj]
  have old : ∀ j, (lkO ob j).live = true → ∃ x, lkR ρ j = some x ∧ ∀ i, x = some i → (σ.objs i).live = true := by
    intro j hl
    have hb := AObj.born_of_live hl
    have := obsLe_at h2 _ (lkO_mem hb)
    simp only at this
    cases hx : lkR ρ j with
    | none => rw [hx] at this; exact this.elim
    | some x =>
      refine ⟨x, rfl, fun i hi => ?_⟩
      subst hi
      rw [hx] at this
      simp only at this
      cases hoi : σ.objs i <;> rw [hoi] at this <;> first | rfl | (exfalso; simp only [ObLe] at this; done)
  refine ⟨lim, G', ⟨hh.start, hh.below, hh.lim0, fun j => ?_, fun i j g hij hi hj hg => ?_, fun i g hi hg => ?_, fun j r hjr => ?_⟩, hf.size, hf.defers, fun t => ?_, fun p hp => (hN.2.2 p hp).elim⟩
  rotate_left 2
  · obtain ⟨xi, k1, k2⟩ := old i hi
    cases xi with
    | none => rw [(hn i k1).2] at hg; cases hg
    | some i' =>
      rw [(hr i i' k1).2] at hg
      exact hh.mine i' g (k2 i' rfl) hg
  · have hj := rhoL_spec h4 j (hN.2.1 j r hjr)
    exact ⟨(hr j j hj).1, (hr j j hj).2.trans (hh.lent j r hjr).2⟩
  rotate_left
  · show ObjOK w lim G' (lkO ob) 0 (G' j) (lkO ob j)
    cases hb : (lkO ob j).born with
    | false => cases ho : lkO ob j <;> rw [ho] at hb <;> first | (simp only [ObjOK]; done) | cases hb
    | true =>
      have := obsLe_at h2 _ (lkO_mem hb)
      simp only at this
      cases hx : lkR ρ j with
      | none => rw [hx] at this; exact this.elim
      | some x =>
        cases x with
        | some i =>
          rw [hx] at this
          simp only at this
          rw [(hr j i hx).2]
          have hoi := hh.obj i
          cases hoo : σ.objs i with
          | row e t xs =>
            rw [hoo] at this hoi
            cases hon : lkO ob j with
            | row e' t' xs' =>
              rw [hon] at this
              simp only [ObLe] at this
              rw [← this]
              simpa only [ObjOK] using hoi
            | _ => rw [hon] at this; simp only [ObLe] at this
          | arr e t xs =>
            rw [hoo] at this hoi
            cases hon : lkO ob j with
            | arr e' t' xs' =>
              rw [hon] at this
              simp only [ObLe] at this
              rw [← this]
              simpa only [ObjOK] using hoi
            | _ => rw [hon] at this; simp only [ObLe] at this
          | box T cs =>
            rw [hoo] at this hoi
            cases hon : lkO ob j with
            | box T' cs' =>
              rw [hon] at this
              simp only [ObLe] at this
              obtain ⟨e1, e2⟩ := this
              subst e1
              simp only [ObjOK] at hoi ⊢
              obtain ⟨g, arr, a1, a2, a3, a4, a5⟩ := hoi
              exact ⟨g, arr, a1, a2, a3, a4, AVsLe_ok hh.obj hr hn _ _ _ e2 a5⟩
            | _ => rw [hon] at this; simp only [ObLe] at this
          | _ => rw [hoo] at this; simp only [ObLe] at this
        | none =>
          rw [hx] at this
          simp only at this
          rw [(hn j hx).2]
          cases hon : lkO ob j with
          | row e' t' xs' =>
            rw [hon] at this
            simp only at this
            obtain ⟨e1, e2⟩ := this
            subst e1
            simp only [ObjOK]
            exact ⟨⟨[], World.ownsRow_nil _ _ _ _, e2, fun i h => absurd h (by simp)⟩, fun g hg => by cases hg⟩
          | _ => rw [hon] at this; exact this.elim
  · obtain ⟨xi, k1, k2⟩ := old i hi
    obtain ⟨xj, k3, k4⟩ := old j hj
    cases xi with
    | none => rw [(hn i k1).2] at hg; cases hg
    | some i' =>
      rw [(hr i i' k1).2] at hg
      cases xj with
      | none => rw [(hn j k3).2]; intro h; cases h
      | some j' =>
        rw [(hr j j' k3).2]
        have hne : i' ≠ j' := by
          rintro rfl
          exact hij (rhoOK_inj h1 i j k1 k3)
        exact hh.sep i' j' g hne (k2 i' rfl) (k4 j' rfl) hg
  · exact AVLe_ok hh.obj hr hn _ _ _ (tmsLe_at h3 t) (hf.tmp t)

/-- Each object of the state keeps its number. -/
def idAll (ρ : List (Nat × Option Nat)) : List (Nat × AObj) → Prop
  | [] => True
  | p :: r => lkR ρ p.1 = some (some p.1) ∧ idAll ρ r
theorem idAll_mem {ρ : List (Nat × Option Nat)} : ∀ {ob : List (Nat × AObj)}, idAll ρ ob → ∀ p, p ∈ ob → lkR ρ p.1 = some (some p.1)
  | [], _, p, h => by cases h
  | q :: r, hr, p, h => by
    rcases List.mem_cons.1 h with rfl | h
    · exact hr.1
    · exact idAll_mem hr.2 p h
/-- As sub_shp, where a caller's temporaries stand behind: every object keeps its number. -/
theorem sub_shpF {cx : Cx} {tm0 : List (Nat × AV)} {ob0 : List (Nat × AObj)} {tm : List (Nat × AV)} {ob : List (Nat × AObj)} (ρ : List (Nat × Option Nat)) (h0 : rhoOK ob ρ ∧ idAll ρ ob0 ∧ obsLe (shp tm0 ob0).objs ρ ob ∧ tmsLe (shp tm0 ob0) ρ tm) : Sub cx (shp tm0 ob0) (shp tm ob) := by
  obtain ⟨h1, h4, h2, h3⟩ := h0
  generalize hσ : shp tm0 ob0 = σ at *
  have hob : σ.objs = lkO ob0 := by rw [← hσ]; rfl
  have idb : ∀ j, (σ.objs j).born = true → lkR ρ j = some (some j) := fun j hj => by
    rw [hob] at hj
    exact idAll_mem h4 _ (lkO_mem hj)
  intro a w hs
  obtain ⟨lim, G, hh, hf⟩ := hs
  let G' : Nat → Value := fun j => match lkR ρ j with
    | some (some i) => G i
    | _ => .slice none 0 0
  have hr : ∀ j i, lkR ρ j = some (some i) → (lkO ob j).born = true ∧ G' j = G i := by
    intro j i hj
    refine ⟨rhoOK_born h1 _ (lkR_mem hj), ?_⟩
    show (match lkR ρ j with | some (some i) => G i | _ => _) = _
    rw [hj]
  have hn : ∀ j, lkR ρ j = some none → (lkO ob j).born = true ∧ G' j = .slice none 0 0 := by
    intro j hj
    refine ⟨rhoOK_born h1 _ (lkR_mem hj), ?_⟩
    show (match lkR ρ j with | some (some i) => G i | _ => _) = _
    rw [hj]
  have old : ∀ j, (lkO ob j).live = true → ∃ x, lkR ρ j = some x ∧ ∀ i, x = some i → (σ.objs i).live = true := by
    intro j hl
    have hb := AObj.born_of_live hl
    have := obsLe_at h2 _ (lkO_mem hb)
    simp only at this
    cases hx : lkR ρ j with
    | none => rw [hx] at this; exact this.elim
    | some x =>
      refine ⟨x, rfl, fun i hi => ?_⟩
      subst hi
      rw [hx] at this
      simp only at this
      cases hoi : σ.objs i <;> rw [hoi] at this <;> first | rfl | (exfalso; simp only [ObLe] at this; done)
  refine ⟨lim, G', ⟨hh.start, hh.below, hh.lim0, fun j => ?_, fun i j g hij hi hj hg => ?_, fun i g hi hg => ?_, fun j r hjr => ?_⟩, hf.size, hf.defers, fun t => ?_, fun p hp => ?_⟩
  rotate_left 2
  · obtain ⟨xi, k1, k2⟩ := old i hi
    cases xi with
    | none => rw [(hn i k1).2] at hg; cases hg
    | some i' =>
      rw [(hr i i' k1).2] at hg
      exact hh.mine i' g (k2 i' rfl) hg
  · have hj := idb j (hh.lent j r hjr).1
    exact ⟨(hr j j hj).1, (hr j j hj).2.trans (hh.lent j r hjr).2⟩
  rotate_left 2
  · show ObjOK w lim G' (lkO ob) 0 (G' j) (lkO ob j)
    cases hb : (lkO ob j).born with
    | false => cases ho : lkO ob j <;> rw [ho] at hb <;> first | (simp only [ObjOK]; done) | cases hb
    | true =>
      have := obsLe_at h2 _ (lkO_mem hb)
      simp only at this
      cases hx : lkR ρ j with
      | none => rw [hx] at this; exact this.elim
      | some x =>
        cases x with
        | some i =>
          rw [hx] at this
          simp only at this
          rw [(hr j i hx).2]
          have hoi := hh.obj i
          cases hoo : σ.objs i with
          | row e t xs =>
            rw [hoo] at this hoi
            cases hon : lkO ob j with
            | row e' t' xs' =>
              rw [hon] at this
              simp only [ObLe] at this
              rw [← this]
              simpa only [ObjOK] using hoi
            | _ => rw [hon] at this; simp only [ObLe] at this
          | arr e t xs =>
            rw [hoo] at this hoi
            cases hon : lkO ob j with
            | arr e' t' xs' =>
              rw [hon] at this
              simp only [ObLe] at this
              rw [← this]
              simpa only [ObjOK] using hoi
            | _ => rw [hon] at this; simp only [ObLe] at this
          | box T cs =>
            rw [hoo] at this hoi
            cases hon : lkO ob j with
            | box T' cs' =>
              rw [hon] at this
              simp only [ObLe] at this
              obtain ⟨e1, e2⟩ := this
              subst e1
              simp only [ObjOK] at hoi ⊢
              obtain ⟨g, arr, a1, a2, a3, a4, a5⟩ := hoi
              exact ⟨g, arr, a1, a2, a3, a4, AVsLe_ok hh.obj hr hn _ _ _ e2 a5⟩
            | _ => rw [hon] at this; simp only [ObLe] at this
          | _ => rw [hoo] at this; simp only [ObLe] at this
        | none =>
          rw [hx] at this
          simp only at this
          rw [(hn j hx).2]
          cases hon : lkO ob j with
          | row e' t' xs' =>
            rw [hon] at this
            simp only at this
            obtain ⟨e1, e2⟩ := this
            subst e1
            simp only [ObjOK]
            exact ⟨⟨[], World.ownsRow_nil _ _ _ _, e2, fun i h => absurd h (by simp)⟩, fun g hg => by cases hg⟩
          | _ => rw [hon] at this; exact this.elim
  · obtain ⟨xi, k1, k2⟩ := old i hi
    obtain ⟨xj, k3, k4⟩ := old j hj
    cases xi with
    | none => rw [(hn i k1).2] at hg; cases hg
    | some i' =>
      rw [(hr i i' k1).2] at hg
      cases xj with
      | none => rw [(hn j k3).2]; intro h; cases h
      | some j' =>
        rw [(hr j j' k3).2]
        have hne : i' ≠ j' := by
          rintro rfl
          exact hij (rhoOK_inj h1 i j k1 k3)
        exact hh.sep i' j' g hne (k2 i' rfl) (k4 j' rfl) hg
  · exact AVLe_ok hh.obj hr hn _ _ _ (tmsLe_at h3 t) (hf.tmp t)
  · refine AVok.keeps (Keeps.refl w lim) (fun j hj => ?_) _ _ (hf.ext p hp)
    have hi := idb j hj
    refine ⟨(hr j j hi).1, fun hl => ?_⟩
    obtain ⟨x, k1, k2⟩ := old j hl
    rw [hi] at k1
    injection k1 with k1
    exact ⟨k2 j k1.symm, (hr j j hi).2⟩

end Go.AL
