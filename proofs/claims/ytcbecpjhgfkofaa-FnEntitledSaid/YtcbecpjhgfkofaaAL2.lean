/- Abstract frames: what the temporaries hold and which blocks the call owns. A general part, over any program. -/
import Derived.Test.YtcbecpjhgfkofaaAL1
set_option linter.unusedSimpArgs false
set_option linter.unusedVariables false
namespace Go.AL
open Go.RowKit

inductive AV
  | any
  | rd (t : Ty) (x : t.den)
  | ptr (t : Ty) (x : t.den)
  | nils
  | own (id : Nat)
  | bp (id off : Nat)
  | ep (id sz i : Nat)
  | ef (id sz i f : Nat)
  | agg (cs : List AV)
  | tup (cs : List AV)
  | gd (c : Bool) (a : AV)
  | fn (f : FuncId) (caps : List AV)
  deriving Inhabited

inductive AObj
  | unborn
  | dead
  | box (T : TypeId) (cs : List AV)
  | row (e : TypeId) (t : Ty) (xs : List t.den)
  | arr (e : TypeId) (t : Ty) (xs : List t.den)
  deriving Inhabited

def AObj.live : AObj → Bool
  | .unborn => false
  | .dead => false
  | _ => true

def AObj.born : AObj → Bool
  | .unborn => false
  | _ => true

theorem AObj.born_of_live {o : AObj} (h : o.live = true) : o.born = true := by cases o <;> simp_all [AObj.live, AObj.born]

def upd {α : Type} (f : Nat → α) (n : Nat) (x : α) : Nat → α := fun m => bif Nat.beq m n then x else f m

theorem upd_same {α : Type} (f : Nat → α) (n : Nat) (x : α) : upd f n x n = x := by simp [upd]
theorem upd_ne {α : Type} (f : Nat → α) (n m : Nat) (x : α) (h : m ≠ n) : upd f n x m = f m := by
  have : Nat.beq m n = false := by
    cases hb : Nat.beq m n with
    | false => rfl
    | true => exact absurd (Nat.eq_of_beq_eq_true hb) h
  simp [upd, this]

structure St where
  tmps : Nat → AV
  objs : Nat → AObj

def blk : Value → Option Nat
  | .slice (some a) _ _ => some a.block
  | .pointer (some a) => some a.block
  | _ => none

section
variable (w : World) (lim : Nat → Nat) (G : Nat → Value) (objs : Nat → AObj)
mutual
def AVok : AV → Value → Prop
  | .any, _ => True
  | .rd t x, v => RdV w lim t v x
  | .ptr t x, v => ∃ a cs, v = .pointer (some a) ∧ At w lim a cs ∧ Rd w lim t cs x
  | .nils, v => v = .slice none 0 0
  | .own id, v => (objs id).born = true ∧ ((objs id).live = true → v = G id)
  | .bp id off, v => (objs id).born = true ∧ ((objs id).live = true → ∃ g, blk (G id) = some g ∧ v = .pointer (some ⟨g, off, none⟩))
  | .ep id sz i, v => (objs id).born = true ∧ ((objs id).live = true → ∃ g, blk (G id) = some g ∧ v = .pointer (some ⟨g, i * sz, none⟩))
  | .ef id sz i f, v => (objs id).born = true ∧ ((objs id).live = true → ∃ g, blk (G id) = some g ∧ v = .pointer (some ⟨g, i * sz + f, none⟩))
  | .agg cs, v => ∃ arr : List Value, v = .agg arr.toArray ∧ AVsOk cs arr
  | .tup cs, v => ∃ arr : List Value, v = .tuple arr.toArray ∧ AVsOk cs arr
  | .gd c a, v => (c = true → AVok a v) ∧ (c = false → v = undef)
  | .fn f caps, v => ∃ arr : List Value, v = .func (.func f) #[] arr.toArray ∧ AVsOk caps arr
def AVsOk : List AV → List Value → Prop
  | [], vs => vs = []
  | a :: as, vs => ∃ v r, vs = v :: r ∧ AVok a v ∧ AVsOk as r
end

def RowOK (B : Nat) (e : TypeId) (t : Ty) (xs : List t.den) (root : Value) : Prop :=
  ∃ vs, w.ownsRow B e t.size root xs.length vs ∧ 0 < t.size ∧ ∀ i (h : i < xs.length), Rd w lim t ((vs.drop (i * t.size)).take t.size) xs[i]

def ObjOK (B : Nat) (root : Value) : AObj → Prop
  | .unborn => True
  | .dead => True
  | .box T cs => ∃ g arr, root = .pointer (some ⟨g, 0, none⟩) ∧ B ≤ g ∧ w.heap[g]? = some (.cells arr T (0, 0)) ∧ lim g = 0 ∧ AVsOk w lim G objs cs arr.toList
  | .row e t xs => RowOK w lim B e t xs root ∧ ∀ g, blk root = some g → lim g = xs.length * t.size
  | .arr e t xs => RowOK w lim B e t xs root ∧ ∀ g, blk root = some g → lim g = 0
end

/-- Objects may die, or be born; what lives on keeps its root. -/
def Ext (G : Nat → Value) (objs : Nat → AObj) (G' : Nat → Value) (objs' : Nat → AObj) : Prop :=
  ∀ id, (objs id).born = true → (objs' id).born = true ∧ ((objs' id).live = true → (objs id).live = true ∧ G' id = G id)

theorem Ext.refl (G : Nat → Value) (objs : Nat → AObj) : Ext G objs G objs := fun _ h => ⟨h, fun k => ⟨k, rfl⟩⟩

section
variable {w w' : World} {lim lim' : Nat → Nat} {G G' : Nat → Value} {objs objs' : Nat → AObj}

theorem At.isKeeps {a : Addr} {cs : List Value} {t : Ty} {x : t.den} (hk : Keeps w lim w' lim') (h1 : At w lim a cs) (h2 : Rd w lim t cs x) : At w' lim' a cs ∧ Rd w' lim' t cs x :=
  ⟨h1.keeps hk, h2.keeps hk⟩

mutual
theorem AVok.keeps (hk : Keeps w lim w' lim') (he : Ext G objs G' objs') : ∀ (av : AV) (v : Value), AVok w lim G objs av v → AVok w' lim' G' objs' av v
  | .any, _, _ => by simp only [AVok]
  | .rd t x, v, h => by
    simp only [AVok] at h ⊢
    exact h.keeps hk
  | .ptr t x, v, h => by
    simp only [AVok] at h ⊢
    obtain ⟨a, cs, h1, h2, h3⟩ := h
    exact ⟨a, cs, h1, h2.keeps hk, h3.keeps hk⟩
  | .nils, v, h => by simpa only [AVok] using h
  | .own id, v, h => by
    simp only [AVok] at h ⊢
    obtain ⟨hb, hl⟩ := h
    obtain ⟨h1, h2⟩ := he id hb
    exact ⟨h1, fun k => by rw [(h2 k).2]; exact hl (h2 k).1⟩
  | .ep id sz i, v, h => by
    simp only [AVok] at h ⊢
    obtain ⟨hb, hl⟩ := h
    obtain ⟨h1, h2⟩ := he id hb
    exact ⟨h1, fun k => by rw [(h2 k).2]; exact hl (h2 k).1⟩
  | .ef id sz i f, v, h => by
    simp only [AVok] at h ⊢
    obtain ⟨hb, hl⟩ := h
    obtain ⟨h1, h2⟩ := he id hb
    exact ⟨h1, fun k => by rw [(h2 k).2]; exact hl (h2 k).1⟩
  | .bp id off, v, h => by
    simp only [AVok] at h ⊢
    obtain ⟨hb, hl⟩ := h
    obtain ⟨h1, h2⟩ := he id hb
    exact ⟨h1, fun k => by rw [(h2 k).2]; exact hl (h2 k).1⟩
  | .agg cs, v, h => by
    simp only [AVok] at h ⊢
    obtain ⟨arr, h1, h2⟩ := h
    exact ⟨arr, h1, AVsOk.keeps hk he cs arr h2⟩
  | .tup cs, v, h => by
    simp only [AVok] at h ⊢
    obtain ⟨arr, h1, h2⟩ := h
    exact ⟨arr, h1, AVsOk.keeps hk he cs arr h2⟩
  | .gd c a, v, h => by
    simp only [AVok] at h ⊢
    exact ⟨fun hc => AVok.keeps hk he a v (h.1 hc), h.2⟩
  | .fn f caps, v, h => by
    simp only [AVok] at h ⊢
    obtain ⟨arr, h1, h2⟩ := h
    exact ⟨arr, h1, AVsOk.keeps hk he caps arr h2⟩
theorem AVsOk.keeps (hk : Keeps w lim w' lim') (he : Ext G objs G' objs') : ∀ (cs : List AV) (vs : List Value), AVsOk w lim G objs cs vs → AVsOk w' lim' G' objs' cs vs
  | [], _, h => by simpa only [AVsOk] using h
  | a :: as, vs, h => by
    simp only [AVsOk] at h ⊢
    obtain ⟨v, r, h1, h2, h3⟩ := h
    exact ⟨v, r, h1, AVok.keeps hk he a v h2, AVsOk.keeps hk he as r h3⟩
end

theorem AVsOk.length : ∀ {cs : List AV} {vs : List Value}, AVsOk w lim G objs cs vs → vs.length = cs.length
  | [], _, h => by simp only [AVsOk] at h; simp [h]
  | a :: as, vs, h => by
    simp only [AVsOk] at h
    obtain ⟨v, r, h1, _, h3⟩ := h
    rw [h1, List.length_cons, List.length_cons, AVsOk.length h3]

theorem AVsOk.get : ∀ {cs : List AV} {vs : List Value}, AVsOk w lim G objs cs vs → ∀ i, i < cs.length → AVok w lim G objs (cs.getD i .any) (vs.getD i undef)
  | [], _, _, i, hi => absurd hi (by simp)
  | a :: as, vs, h, i, hi => by
    simp only [AVsOk] at h
    obtain ⟨v, r, h1, h2, h3⟩ := h
    subst h1
    cases i with
    | zero => simpa using h2
    | succ i => simpa using AVsOk.get h3 i (by simpa using hi)

theorem AVsOk.mk : ∀ {cs : List AV} {vs : List Value}, vs.length = cs.length → (∀ i, i < cs.length → AVok w lim G objs (cs.getD i .any) (vs.getD i undef)) → AVsOk w lim G objs cs vs
  | [], vs, hl, _ => by
    simp only [AVsOk]
    exact List.eq_nil_of_length_eq_zero (by simpa using hl)
  | a :: as, v :: vs, hl, h => by
    simp only [AVsOk]
    refine ⟨v, vs, rfl, by simpa using h 0 (by simp), AVsOk.mk (by simpa using hl) fun i hi => ?_⟩
    simpa using h (i + 1) (by simpa using hi)
  | a :: as, [], hl, _ => by simp at hl

/-- A row of the call's own, seen after something that keeps its block. -/
theorem RowOK.keeps {B : Nat} {e : TypeId} {t : Ty} {xs : List t.den} {root : Value} (h : RowOK w lim B e t xs root) (hk : Keeps w lim w' lim')
    (hg : ∀ g, blk root = some g → w'.heap[g]? = w.heap[g]?) : RowOK w' lim' B e t xs root := by
  obtain ⟨vs, ⟨h1, h2⟩, h3, h4⟩ := h
  refine ⟨vs, ⟨h1, ?_⟩, h3, fun i hi => (h4 i hi).keeps hk⟩
  rcases h2 with h2 | ⟨g, cap, cur, hr, hb, hh, rest⟩
  · exact .inl h2
  · exact .inr ⟨g, cap, cur, hr, hb, by rw [hg g (by rw [hr]; rfl)]; exact hh, rest⟩

theorem ObjOK.keeps {B : Nat} {root : Value} {o : AObj} (h : ObjOK w lim G objs B root o) (hk : Keeps w lim w' lim') (he : Ext G objs G' objs')
    (hg : ∀ g, blk root = some g → w'.heap[g]? = w.heap[g]? ∧ lim' g = lim g) : ObjOK w' lim' G' objs' B root o := by
  cases o with
  | unborn => simp only [ObjOK]
  | dead => simp only [ObjOK]
  | box T cs =>
    simp only [ObjOK] at h ⊢
    obtain ⟨g, arr, hr, hb, hh, hl, hc⟩ := h
    obtain ⟨h1, h2⟩ := hg g (by rw [hr]; rfl)
    exact ⟨g, arr, hr, hb, by rw [h1]; exact hh, by rw [h2]; exact hl, AVsOk.keeps hk he _ _ hc⟩
  | row e t xs =>
    simp only [ObjOK] at h ⊢
    exact ⟨h.1.keeps hk fun g k => (hg g k).1, fun g k => by rw [(hg g k).2]; exact h.2 g k⟩
  | arr e t xs =>
    simp only [ObjOK] at h ⊢
    exact ⟨h.1.keeps hk fun g k => (hg g k).1, fun g k => by rw [(hg g k).2]; exact h.2 g k⟩

theorem ObjOK.block_ge {B : Nat} {root : Value} {o : AObj} (h : ObjOK w lim G objs B root o) (hl : o.live = true) : ∀ g, blk root = some g → B ≤ g ∧ g < w.heap.size := by
  intro g hg
  have row : ∀ {e : TypeId} {t : Ty} {xs : List t.den}, RowOK w lim B e t xs root → B ≤ g ∧ g < w.heap.size := by
    intro e t xs hr
    obtain ⟨vs, ⟨_, h2⟩, _⟩ := hr
    rcases h2 with ⟨h2, _⟩ | ⟨g', cap, cur, hr, hb, hh, _⟩
    · rw [h2] at hg; cases hg
    · rw [hr] at hg
      injection hg with hg
      subst hg
      exact ⟨hb, (Array.getElem?_eq_some_iff.1 hh).1⟩
  cases o with
  | unborn => cases hl
  | dead => cases hl
  | box T cs =>
    simp only [ObjOK] at h
    obtain ⟨g', arr, hr, hb, hh, _⟩ := h
    rw [hr] at hg
    injection hg with hg
    subst hg
    exact ⟨hb, (Array.getElem?_eq_some_iff.1 hh).1⟩
  | row e t xs => exact row h.1
  | arr e t xs => exact row h.1
end

/-- The call's own start: its first own block, the world, what was settled, the number of temporaries, the roots of what was lent to it. -/
structure Cx where
  B : Nat
  w0 : World
  lim0 : Nat → Nat
  N : Nat
  R : Nat → Option Value
  /-- What a caller's temporaries hold, where this call runs among the caller's own objects. -/
  F : AV × Value → Prop

/-- The blocks that were lent. -/
def Cx.L (cx : Cx) (g : Nat) : Prop := ∃ j r, cx.R j = some r ∧ blk r = some g

/-- Below B the world is as it was, but for the blocks in L. -/
structure BelowL (L : Nat → Prop) (B : Nat) (w w' : World) : Prop where
  os : w'.os = w.os
  tape : w'.tape = w.tape
  output : w'.output = w.output
  size : w.heap.size ≤ w'.heap.size
  block : ∀ k, k < B → ¬ L k → w'.heap[k]? = w.heap[k]?

theorem BelowL.refl (L : Nat → Prop) (B : Nat) (w : World) : BelowL L B w w := ⟨rfl, rfl, rfl, Nat.le_refl _, fun _ _ _ => rfl⟩
theorem BelowL.trans {L : Nat → Prop} {B : Nat} {a b c : World} (h : BelowL L B a b) (k : BelowL L B b c) : BelowL L B a c :=
  ⟨k.os.trans h.os, k.tape.trans h.tape, k.output.trans h.output, Nat.le_trans h.size k.size, fun i hi hL => (k.block i hi hL).trans (h.block i hi hL)⟩
theorem BelowL.mono {L L' : Nat → Prop} {B B' : Nat} {w w' : World} (h : BelowL L B w w') (hB : B' ≤ B) (hL : ∀ k, k < B' → L k → L' k) : BelowL L' B' w w' :=
  ⟨h.os, h.tape, h.output, h.size, fun k hk hn => h.block k (Nat.lt_of_lt_of_le hk hB) fun hl => hn (hL k hk hl)⟩
theorem BelowL.of {B : Nat} {w w' : World} (L : Nat → Prop) (h : Below B w w') : BelowL L B w w' := ⟨h.os, h.tape, h.output, h.size, fun k hk _ => h.block k hk⟩

structure Hp (cx : Cx) (objs : Nat → AObj) (w : World) (lim : Nat → Nat) (G : Nat → Value) : Prop where
  start : cx.B = cx.w0.heap.size
  below : BelowL cx.L cx.B cx.w0 w
  lim0 : ∀ b, b < cx.B → ¬ cx.L b → lim b = cx.lim0 b
  obj : ∀ id, ObjOK w lim G objs 0 (G id) (objs id)
  sep : ∀ i j g, i ≠ j → (objs i).live = true → (objs j).live = true → blk (G i) = some g → blk (G j) ≠ some g
  mine : ∀ i g, (objs i).live = true → blk (G i) = some g → cx.B ≤ g ∨ cx.L g
  lent : ∀ j r, cx.R j = some r → (objs j).born = true ∧ G j = r

structure Fr (cx : Cx) (σ : St) (a : Act) (w : World) (lim : Nat → Nat) (G : Nat → Value) : Prop where
  size : a.tmps.size = cx.N
  defers : a.defers = []
  tmp : ∀ t, AVok w lim G σ.objs (σ.tmps t) (a.tmps.getD t undef)
  ext : ∀ p, cx.F p → AVok w lim G σ.objs p.1 p.2

def Sat (cx : Cx) (σ : St) (a : Act) (w : World) : Prop := ∃ lim G, Hp cx σ.objs w lim G ∧ Fr cx σ a w lim G

def St.put (σ : St) (d : Option Nat) (av : AV) : St :=
  match d with
  | some d => { σ with tmps := upd σ.tmps d av }
  | none => σ

theorem getD_put (a : Act) (d t : Nat) (v : Value) (h : d < a.tmps.size) : (a.put (some d) v).tmps.getD t undef = if t = d then v else a.tmps.getD t undef := by
  unfold Act.put
  simp only [Array.getD_eq_getD_getElem?, Array.getElem?_setIfInBounds]
  by_cases e : d = t
  · subst e; simp [h]
  · have e' : ¬ t = d := fun h => e h.symm
    simp [e, e']

theorem Fr.put {cx : Cx} {σ : St} {a : Act} {w : World} {lim : Nat → Nat} {G : Nat → Value} (h : Fr cx σ a w lim G) {d : Option Nat} (hd : ∀ k, d = some k → k < cx.N) {av : AV} {v : Value}
    (hv : AVok w lim G σ.objs av v) : Fr cx (σ.put d av) (a.put d v) w lim G := by
  cases d with
  | none => exact h
  | some d =>
    have hlt : d < a.tmps.size := by rw [h.size]; exact hd d rfl
    refine ⟨by simpa [Act.put] using h.size, h.defers, fun t => ?_, h.ext⟩
    rw [getD_put a d t v hlt]
    simp only [St.put]
    by_cases e : t = d
    · subst e; rw [upd_same, if_pos rfl]; exact hv
    · rw [upd_ne _ _ _ _ e, if_neg e]; exact h.tmp t

theorem Fr.keeps {cx : Cx} {σ : St} {a : Act} {w w' : World} {lim lim' : Nat → Nat} {G G' : Nat → Value} {objs' : Nat → AObj} (h : Fr cx σ a w lim G) (hk : Keeps w lim w' lim')
    (he : Ext G σ.objs G' objs') : Fr cx { σ with objs := objs' } a w' lim' G' :=
  ⟨h.size, h.defers, fun t => AVok.keeps hk he _ _ (h.tmp t), fun p hp => AVok.keeps hk he _ _ (h.ext p hp)⟩

end Go.AL
