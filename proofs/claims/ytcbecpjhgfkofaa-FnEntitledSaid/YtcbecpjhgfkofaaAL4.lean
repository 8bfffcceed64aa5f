/- Operations that only compute, on abstract frames. A general part, over any program. -/
import Derived.Test.YtcbecpjhgfkofaaAL3
set_option linter.unusedSimpArgs false
set_option linter.unusedVariables false
namespace Go.AL
open Go.RowKit

/-- The tables of the program at hand: a type's reading; a slice type's element. -/
structure Tb where
  ty : TypeId → Ty
  el : TypeId → TypeId
  /-- Functions that are gone through where they are called, among the caller's own objects. -/
  inl : FuncId → Bool := fun _ => false
  /-- Where the numbers of new objects begin. -/
  off : Nat := 0

def Tb.at (tb : Tb) (n : Nat) : Tb := { tb with off := n }

def AV.un : AV → AV
  | .gd _ a => a.un
  | a => a

def AV.uc : AV → Prop
  | .gd c a => c = true ∧ a.uc
  | _ => True

theorem AVok.un {w : World} {lim : Nat → Nat} {G : Nat → Value} {objs : Nat → AObj} : ∀ {av : AV} {v : Value}, AVok w lim G objs av v → av.uc → AVok w lim G objs av.un v
  | .gd c a, v, h, hc => by
    simp only [AVok] at h
    exact AVok.un (av := a) (h.1 hc.1) hc.2
  | .any, _, h, _ | .rd _ _, _, h, _ | .ptr _ _, _, h, _ | .nils, _, h, _ | .own _, _, h, _ | .bp _ _, _, h, _ | .ep _ _ _, _, h, _ | .ef _ _ _ _, _, h, _ | .agg _, _, h, _ | .tup _, _, h, _ | .fn _ _, _, h, _ => h

/-! ### Reading an abstract value at a type -/

def castTo (t t' : Ty) (x : t'.den) : t.den := if h : t' = t then h ▸ x else t.dflt

theorem castTo_self (t : Ty) (x : t.den) : castTo t t x = x := by simp [castTo]

def rowOf (objs : Nat → AObj) (id : Nat) (t : Ty) : List t.den :=
  match objs id with
  | .row _ t' xs => castTo (.list t) (.list t') xs
  | _ => []

def tvd (objs : Nat → AObj) : (t : Ty) → AV → t.den
  | .list t, .own id => rowOf objs id t
  | .list _, .nils => []
  | .cons h t, .agg (c :: cs) => (tvd objs h c, tvd objs t (.agg cs))
  | t, .rd t' x => castTo t t' x
  | t, _ => t.dflt

def tvc (objs : Nat → AObj) : Ty → AV → Prop
  | .list t, .own id => match objs id with
    | .row _ t' _ => t' = t
    | _ => False
  | .list _, .nils => True
  | .cons h t, .agg (c :: cs) => h.flat1 = true ∧ tvc objs h c ∧ tvc objs t (.agg cs)
  | .nil, .agg [] => True
  | t, .rd t' _ => t' = t
  | _, _ => False

section
variable (objs : Nat → AObj) (t h : Ty)
theorem tvd_rd (x : t.den) : tvd objs t (.rd t x) = x := by cases t <;> simp only [tvd, castTo_self]
theorem tvc_rd (x : t.den) : tvc objs t (.rd t x) = True := by cases t <;> simp only [tvc]
theorem tvd_nils : tvd objs (.list t) .nils = [] := by simp only [tvd]
theorem tvc_nils : tvc objs (.list t) .nils = True := by simp only [tvc]
theorem tvd_agg (c : AV) (cs : List AV) : tvd objs (.cons h t) (.agg (c :: cs)) = (tvd objs h c, tvd objs t (.agg cs)) := by simp only [tvd]
theorem tvc_agg (c : AV) (cs : List AV) : tvc objs (.cons h t) (.agg (c :: cs)) = (h.flat1 = true ∧ tvc objs h c ∧ tvc objs t (.agg cs)) := by simp only [tvc]
theorem tvd_agg0 : tvd objs .nil (.agg []) = () := rfl
theorem tvc_agg0 : tvc objs .nil (.agg []) = True := by simp only [tvc]
theorem tvd_own (id : Nat) : tvd objs (.list t) (.own id) = rowOf objs id t := by simp only [tvd]
theorem tvc_own (id : Nat) : tvc objs (.list t) (.own id) = (match objs id with | .row _ t' _ => t' = t | _ => False) := by simp only [tvc]
end

theorem mkV_flat {t : Ty} (h : t.flat1 = true) (v : Value) : mkV t [v] = v := by
  have := (flat1_size h).2
  simp [mkV, this]

theorem Rd_of_V {w : World} {lim : Nat → Nat} {t : Ty} {v : Value} {x : t.den} (hf : t.flat1 = true) (h : RdV w lim t v x) : Rd w lim t [v] x := by
  obtain ⟨cs, h1, h2⟩ := h
  have hl := h1.length
  rw [(flat1_size hf).1] at hl
  match cs, hl with
  | [c], _ => rw [mkV_flat hf] at h2; subst h2; exact h1

section
variable {w : World} {lim : Nat → Nat} {G : Nat → Value} {objs : Nat → AObj}

theorem ownsRow_rd {B : Nat} {e : TypeId} {t : Ty} {xs : List t.den} {root : Value} (h : RowOK w lim B e t xs root) (hl : ∀ g, blk root = some g → lim g = xs.length * t.size) : RdV w lim (.list t) root xs := by
  obtain ⟨vs, ⟨h1, h2⟩, h3, h4⟩ := h
  rcases h2 with ⟨h2, h0⟩ | ⟨g, cap, cur, hr, hb, hh, hnc, hcm, hcs, htk⟩
  · have hx : xs = [] := List.eq_nil_of_length_eq_zero h0
    subst hx
    exact ⟨[root], ⟨none, 0, by rw [h2]; rfl, Nat.le_refl _, Nat.zero_le _, fun i hi => absurd hi (by simp)⟩, by simp [mkV, Ty.isAgg]⟩
  · refine ⟨[root], ⟨some ⟨g, 0, none⟩, cap, by rw [hr], hnc, hcm, fun i hi => ?_⟩, by simp [mkV, Ty.isAgg]⟩
    have hlim := hl g (by rw [hr]; rfl)
    have hin : i * t.size + t.size ≤ xs.length * t.size := by
      rw [← Nat.succ_mul]; exact Nat.mul_le_mul_right _ hi
    refine ⟨⟨g, 0, none⟩, (vs.drop (i * t.size)).take t.size, rfl, ?_, ?_, h4 i hi⟩
    · intro j u hu
      have hj : j < t.size := by
        rcases Nat.lt_or_ge j t.size with hj | hj
        · exact hj
        · rw [List.getElem?_take, if_neg (by omega)] at hu; cases hu
      rw [List.getElem?_take, if_pos hj, List.getElem?_drop] at hu
      have ea : ((⟨g, 0, none⟩ : Addr).add (i * t.size)).add j = ⟨g, i * t.size + j, none⟩ := by
        rw [add_add']; unfold Addr.add; split
        · rename_i h0; rw [h0]
        · simp
      refine ⟨?_, ?_⟩
      · rw [ea, cell_of_row w g _ cur e (0, 0) hh]
        rw [← htk, List.getElem?_take] at hu
        split at hu
        · simpa using hu
        · cases hu
      · rw [ea, block_add]; show i * t.size + j < lim g
        rw [hlim]; omega
    · rw [List.length_take, List.length_drop, h1]; omega


theorem castTo_of {t t' : Ty} (h : t' = t) {x : t'.den} {w : World} {lim : Nat → Nat} {v : Value} (hr : RdV w lim t' v x) : RdV w lim t v (castTo t t' x) := by
  subst h; rw [castTo_self]; exact hr

theorem tv_ok {B : Nat} (ho : ∀ id, ObjOK w lim G objs B (G id) (objs id)) : ∀ (t : Ty) (av : AV) (v : Value), tvc objs t av → AVok w lim G objs av v → RdV w lim t v (tvd objs t av) := by
  intro t
  have hrd : ∀ (t t' : Ty) (x : t'.den) (v : Value), tvc objs t (.rd t' x) → AVok w lim G objs (.rd t' x) v → RdV w lim t v (tvd objs t (.rd t' x)) := by
    intro t t' x v hc hv
    have e : t' = t := by cases t <;> simpa only [tvc] using hc
    subst e
    rw [tvd_rd]
    simpa only [AVok] using hv
  induction t with
  | int k => intro av v hc hv; cases av <;> first | exact hrd _ _ _ _ hc hv | simp only [tvc] at hc
  | bool => intro av v hc hv; cases av <;> first | exact hrd _ _ _ _ hc hv | simp only [tvc] at hc
  | str => intro av v hc hv; cases av <;> first | exact hrd _ _ _ _ hc hv | simp only [tvc] at hc
  | list t _ =>
    intro av v hc hv
    cases av with
    | rd t' x => exact hrd _ _ _ _ hc hv
    | nils =>
      simp only [AVok] at hv
      rw [tvd_nils]
      exact ⟨[v], ⟨none, 0, by rw [hv]; rfl, Nat.le_refl _, Nat.zero_le _, fun i hi => absurd hi (by simp)⟩, by simp [mkV, Ty.isAgg]⟩
    | own id =>
      rw [tvc_own] at hc
      rw [tvd_own]
      have h := ho id
      simp only [AVok] at hv
      unfold rowOf
      cases hob : objs id with
      | row e t' xs =>
        rw [hob] at hc h hv
        simp only at hc
        subst hc
        simp only [castTo_self]
        simp only [ObjOK] at h
        rw [hv.2 rfl]
        exact ownsRow_rd h.1 h.2
      | _ => rw [hob] at hc; exact hc.elim
    | _ => simp only [tvc] at hc
  | nil =>
    intro av v hc hv
    cases av with
    | rd t' x => exact hrd _ _ _ _ hc hv
    | agg cs =>
      cases cs with
      | nil =>
        simp only [AVok, AVsOk] at hv
        obtain ⟨arr, h1, h2⟩ := hv
        subst h2
        exact ⟨[], rfl, by rw [h1]; rfl⟩
      | cons c cs => simp only [tvc] at hc
    | _ => simp only [tvc] at hc
  | cons h t ih1 ih2 =>
    intro av v hc hv
    cases av with
    | rd t' x => exact hrd _ _ _ _ hc hv
    | agg cs =>
      cases cs with
      | nil => simp only [tvc] at hc
      | cons c cs =>
        rw [tvc_agg] at hc
        obtain ⟨hf, hc1, hc2⟩ := hc
        simp only [AVok, AVsOk] at hv
        obtain ⟨arr, h1, v0, r, h2, h3, h4⟩ := hv
        subst h2
        have a1 := Rd_of_V hf (ih1 c v0 hc1 h3)
        have a2 := ih2 (.agg cs) (.agg r.toArray) hc2 (by simp only [AVok]; exact ⟨r, rfl, h4⟩)
        obtain ⟨cs2, b1, b2⟩ := a2
        rw [tvd_agg]
        have hag : ∀ (t : Ty) (av : AV) (l : List AV), av = .agg l → tvc objs t av → t.isAgg = true := by
          intro t av l he hc
          subst he
          cases t <;> first | rfl | (exfalso; simp only [tvc] at hc; done)
        have e2 : cs2 = r := by
          have hg := hag t (.agg cs) cs rfl hc2
          unfold mkV at b2
          rw [if_pos hg] at b2
          injection b2 with b2
          have := congrArg Array.toList b2
          simpa using this.symm
        subst e2
        refine ⟨v0 :: cs2, ⟨[v0], cs2, rfl, a1, b1⟩, ?_⟩
        rw [h1]
        simp [mkV, Ty.isAgg]
    | _ => simp only [tvc] at hc
end
end Go.AL
