/- Typed readings of values in a world: a general part, over any program. It proves nothing of a statement by itself. -/
import Derived.Below
import Derived.Maps.AppendAt
import Derived.Deep.AppendLies
import Derived.Deep.Draws
import Derived.Laws.OwnMore
import Derived.Laws.MakeOwn
import Derived.Laws.NewBlocks
import Derived.Laws.Rows
import Derived.Still
import Derived.Tactics
set_option linter.unusedSimpArgs false
set_option linter.unusedVariables false
namespace Go.AL
open Go.RowKit

/-- The types that occur: a struct is a chain of cons, ended by nil. -/
inductive Ty
  | int (k : IntKind) | bool | str | list (t : Ty) | nil | cons (h t : Ty)
  deriving DecidableEq, Inhabited

@[reducible] def Ty.den : Ty → Type
  | .int _ => Int
  | .bool => Bool
  | .str => ByteArray
  | .list t => List t.den
  | .nil => Unit
  | .cons h t => h.den × t.den

def Ty.size : Ty → Nat
  | .int _ => 1
  | .bool => 1
  | .str => 1
  | .list _ => 1
  | .nil => 0
  | .cons h t => h.size + t.size

def Ty.isAgg : Ty → Bool
  | .nil => true
  | .cons _ _ => true
  | _ => false

/-- The cells ds lie at a, within the settled cells. -/
def At (w : World) (lim : Nat → Nat) (a : Addr) (ds : List Value) : Prop :=
  ∀ j u, ds[j]? = some u → w.cell? (a.add j) = some u ∧ (a.add j).off < lim a.block

def Rd (w : World) (lim : Nat → Nat) : (t : Ty) → List Value → t.den → Prop
  | .int k, cs, n => cs = [.int k n] ∧ k.min ≤ n ∧ n ≤ k.max
  | .bool, cs, b => cs = [.bool b]
  | .str, cs, s => cs = [.string s] ∧ s.size ≤ maxLen
  | .list t, cs, xs => ∃ A cap, cs = [.slice A xs.length cap] ∧ xs.length ≤ cap ∧ cap ≤ maxLen ∧
      ∀ i (h : i < xs.length), ∃ a ds, A = some a ∧ At w lim (a.add (i * t.size)) ds ∧ ds.length = t.size ∧ Rd w lim t ds xs[i]
  | .nil, cs, _ => cs = []
  | .cons h t, cs, x => ∃ c1 c2, cs = c1 ++ c2 ∧ Rd w lim h c1 x.1 ∧ Rd w lim t c2 x.2

def mkV (t : Ty) (cs : List Value) : Value := if t.isAgg then .agg cs.toArray else cs.headD undef

def RdV (w : World) (lim : Nat → Nat) (t : Ty) (v : Value) (x : t.den) : Prop := ∃ cs, Rd w lim t cs x ∧ v = mkV t cs

/-- What is settled stays. -/
structure Keeps (w : World) (lim : Nat → Nat) (w' : World) (lim' : Nat → Nat) : Prop where
  cell : ∀ a u, w.cell? a = some u → a.off < lim a.block → w'.cell? a = some u
  lim : ∀ b, b < w.heap.size → lim b ≤ lim' b

theorem Keeps.refl (w : World) (lim : Nat → Nat) : Keeps w lim w lim := ⟨fun _ _ h _ => h, fun _ _ => Nat.le_refl _⟩

theorem block_add (a : Addr) (n : Nat) : (a.add n).block = a.block := by unfold Addr.add; split <;> rfl
theorem add_add' (a : Addr) (i j : Nat) : (a.add i).add j = a.add (i + j) := by
  unfold Addr.add
  by_cases hi : i = 0 <;> by_cases hj : j = 0 <;> simp [hi, hj, Nat.add_assoc]

theorem At.keeps {w w' : World} {lim lim' : Nat → Nat} {a : Addr} {ds : List Value} (h : At w lim a ds) (hk : Keeps w lim w' lim') : At w' lim' a ds := by
  intro j u hu
  obtain ⟨h1, h2⟩ := h j u hu
  have hb := World.block_lt_of_cell? _ _ h1
  rw [block_add] at hb
  exact ⟨hk.cell _ _ h1 (by rw [block_add]; exact h2), Nat.lt_of_lt_of_le h2 (hk.lim _ hb)⟩

theorem Rd.keeps {w w' : World} {lim lim' : Nat → Nat} (hk : Keeps w lim w' lim') : ∀ {t : Ty} {cs : List Value} {x : t.den}, Rd w lim t cs x → Rd w' lim' t cs x
  | .int _, _, _, h => h
  | .bool, _, _, h => h
  | .str, _, _, h => h
  | .nil, _, _, h => h
  | .cons h t, _, _, hh => by
    obtain ⟨c1, c2, e, h1, h2⟩ := hh
    exact ⟨c1, c2, e, h1.keeps hk, h2.keeps hk⟩
  | .list t, _, _, hh => by
    obtain ⟨A, cap, e, h1, h2, h3⟩ := hh
    refine ⟨A, cap, e, h1, h2, fun i hi => ?_⟩
    obtain ⟨a, ds, ea, hat, hl, hr⟩ := h3 i hi
    exact ⟨a, ds, ea, hat.keeps hk, hl, hr.keeps hk⟩

theorem RdV.keeps {w w' : World} {lim lim' : Nat → Nat} (hk : Keeps w lim w' lim') {t : Ty} {v : Value} {x : t.den} (h : RdV w lim t v x) : RdV w' lim' t v x := by
  obtain ⟨cs, h1, h2⟩ := h
  exact ⟨cs, h1.keeps hk, h2⟩

theorem Rd.length {w : World} {lim : Nat → Nat} : ∀ {t : Ty} {cs : List Value} {x : t.den}, Rd w lim t cs x → cs.length = t.size
  | .int _, _, _, h => by rw [h.1]; rfl
  | .bool, _, _, h => by rw [h]; rfl
  | .str, _, _, h => by rw [h.1]; rfl
  | .nil, _, _, h => by rw [h]; rfl
  | .cons _ _, _, _, hh => by
    obtain ⟨c1, c2, e, h1, h2⟩ := hh
    rw [e, List.length_append, h1.length, h2.length]; rfl
  | .list _, _, _, hh => by
    obtain ⟨_, _, e, _⟩ := hh
    rw [e]; rfl

theorem Rd.one {w : World} {lim : Nat → Nat} : ∀ {t : Ty} {cs : List Value} {x : t.den}, Rd w lim t cs x → ∀ u ∈ cs, u.oneCell' = true
  | .int _, _, _, h => by rw [h.1]; simp [Value.oneCell']
  | .bool, _, _, h => by rw [h]; simp [Value.oneCell']
  | .str, _, _, h => by rw [h.1]; simp [Value.oneCell']
  | .nil, _, _, h => by rw [h]; simp
  | .cons _ _, _, _, hh => by
    obtain ⟨c1, c2, e, h1, h2⟩ := hh
    rw [e]
    intro u hu
    rcases List.mem_append.1 hu with hu | hu
    · exact h1.one u hu
    · exact h2.one u hu
  | .list _, _, _, hh => by
    obtain ⟨_, _, e, _⟩ := hh
    rw [e]; simp [Value.oneCell']

theorem mkV_cells {t : Ty} {cs : List Value} (hl : cs.length = t.size) (h1 : ∀ u ∈ cs, u.oneCell' = true) : (mkV t cs).cells.toList = cs := by
  unfold mkV
  cases t with
  | nil => simp [Ty.isAgg, Value.cells]
  | cons => simp [Ty.isAgg, Value.cells]
  | _ =>
    match cs, hl with
    | [c], _ =>
      have := h1 c (by simp)
      cases c <;> simp_all [Ty.isAgg, Value.cells, Value.oneCell']

theorem RdV.cells {w : World} {lim : Nat → Nat} {t : Ty} {v : Value} {x : t.den} (h : RdV w lim t v x) : Rd w lim t v.cells.toList x ∧ v = mkV t v.cells.toList := by
  obtain ⟨cs, h1, h2⟩ := h
  have := mkV_cells h1.length h1.one
  rw [h2, this]
  exact ⟨h1, rfl⟩

end Go.AL
/- Abstract frames: what the temporaries hold and which blocks the call owns. A general part, over any program. -/
set_option linter.unusedSimpArgs false
set_option linter.unusedVariables false
namespace Go.AL
open Go.RowKit

inductive AV
  | any
  | rd (t : Ty) (x : t.den)
  | ptr (t : Ty) (x : t.den)
  | nils
  | own (id : Nat)
  | bp (id off : Nat)
  | ep (id sz i : Nat)
  | ef (id sz i f : Nat)
  | agg (cs : List AV)
  | tup (cs : List AV)
  | gd (c : Bool) (a : AV)
  | fn (f : FuncId) (caps : List AV)
  deriving Inhabited

inductive AObj
  | unborn
  | dead
  | box (T : TypeId) (cs : List AV)
  | row (e : TypeId) (t : Ty) (xs : List t.den)
  | arr (e : TypeId) (t : Ty) (xs : List t.den)
  | tl (e : TypeId) (t : Ty) (xs : List t.den)
  /-- An unsettled row whose nested rows are all its own, unsettled too. -/
  | deep (te : Ty → TypeId) (t : Ty) (xs : List t.den)
  /-- The same, while it is being filled; it is never lent. -/
  | bld (te : Ty → TypeId) (t : Ty) (xs : List t.den)
  /-- The same; the object k names what lies in the cell f of the element i. -/
  | held (te : Ty → TypeId) (t : Ty) (xs : List t.den) (i f k : Nat)
  /-- A name of what lies in another object. -/
  | name (d : Nat)
  /-- A row that grows and is settled, with all nested rows its own and settled too. -/
  | sd (te : Ty → TypeId) (t : Ty) (xs : List t.den)
  deriving Inhabited

def AObj.live : AObj → Bool
  | .unborn => false
  | .dead => false
  | _ => true

def AObj.born : AObj → Bool
  | .unborn => false
  | _ => true

theorem AObj.born_of_live {o : AObj} (h : o.live = true) : o.born = true := by cases o <;> simp_all [AObj.live, AObj.born]

def upd {α : Type} (f : Nat → α) (n : Nat) (x : α) : Nat → α := fun m => bif Nat.beq m n then x else f m

theorem upd_same {α : Type} (f : Nat → α) (n : Nat) (x : α) : upd f n x n = x := by simp [upd]
theorem upd_ne {α : Type} (f : Nat → α) (n m : Nat) (x : α) (h : m ≠ n) : upd f n x m = f m := by
  have : Nat.beq m n = false := by
    cases hb : Nat.beq m n with
    | false => rfl
    | true => exact absurd (Nat.eq_of_beq_eq_true hb) h
  simp [upd, this]

/-- A root: the value; the blocks of nested rows. -/
structure Rt where
  v : Value
  fp : List Nat
  deriving Inhabited
instance : Coe Rt Value := ⟨Rt.v⟩

structure St where
  tmps : Nat → AV
  objs : Nat → AObj

def blk : Value → Option Nat
  | .slice (some a) _ _ => some a.block
  | .pointer (some a) => some a.block
  | _ => none

/-- The blocks that belong to an object. -/
def Blk : AObj → Rt → Nat → Prop
  | .name _, _, _ => False
  | .deep _ _ _, r, g => g ∈ (blk r.v).toList ++ r.fp
  | .held _ _ _ _ _ _, r, g => g ∈ (blk r.v).toList ++ r.fp
  | .bld _ _ _, r, g => g ∈ (blk r.v).toList ++ r.fp
  | .sd _ _ _, r, g => g ∈ (blk r.v).toList ++ r.fp
  | _, r, g => blk r.v = some g
def blks : AObj → Rt → List Nat
  | .name _, _ => []
  | .deep _ _ _, r => (blk r.v).toList ++ r.fp
  | .held _ _ _ _ _ _, r => (blk r.v).toList ++ r.fp
  | .bld _ _ _, r => (blk r.v).toList ++ r.fp
  | .sd _ _ _, r => (blk r.v).toList ++ r.fp
  | _, r => (blk r.v).toList
theorem Blk_iff (o : AObj) (r : Rt) (g : Nat) : Blk o r g ↔ g ∈ blks o r := by cases o <;> simp [Blk, blks]
/-- What a lent root may reach. -/
def BlkR (r : Rt) (g : Nat) : Prop := g ∈ (blk r.v).toList ++ r.fp
def AObj.isDeep : AObj → Bool
  | .deep _ _ _ => true
  | _ => false
def AObj.isBld : AObj → Bool
  | .bld _ _ _ => true
  | _ => false
theorem Blk_R {o : AObj} {r : Rt} {g : Nat} (h : Blk o r g) : BlkR r g := by
  unfold BlkR
  cases o <;> simp only [Blk] at h <;> first | exact h.elim | exact h | (rw [h]; simp)
theorem Blk_root {o : AObj} {r : Rt} {g : Nat} (hn : ∀ d, o ≠ .name d) (h : blk r.v = some g) : Blk o r g := by
  cases o <;> simp only [Blk] <;> first | exact absurd rfl (hn _) | exact h | (rw [h]; simp)

/-- A value and all rows that lie under it; the list: the blocks of these rows. -/
def Tr (w : World) (te : Ty → TypeId) : (t : Ty) → List Value → t.den → List Nat → Prop
  | .int k, cs, n, F => (cs = [.int k n] ∧ k.min ≤ n ∧ n ≤ k.max) ∧ F = []
  | .bool, cs, b, F => cs = [.bool b] ∧ F = []
  | .str, cs, s, F => (cs = [.string s] ∧ s.size ≤ maxLen) ∧ F = []
  | .list t, cs, xs, F => ∃ root vs, ∃ Fs : List (List Nat), cs = [root] ∧ w.ownsRow 0 (te t) t.size root xs.length vs ∧ 0 < t.size ∧ Fs.length = xs.length ∧ F = (blk root).toList ++ Fs.flatten ∧
      ∀ i (h : i < xs.length), Tr w te t ((vs.drop (i * t.size)).take t.size) xs[i] (Fs.getD i [])
  | .nil, cs, _, F => cs = [] ∧ F = []
  | .cons h t, cs, x, F => ∃ c1 c2 F1 F2, cs = c1 ++ c2 ∧ F = F1 ++ F2 ∧ Tr w te h c1 x.1 F1 ∧ Tr w te t c2 x.2 F2

def DeepOK (w : World) (lim : Nat → Nat) (te : Ty → TypeId) (t : Ty) (xs : List t.den) (r : Rt) : Prop :=
  Tr w te (.list t) [r.v] xs ((blk r.v).toList ++ r.fp) ∧ ((blk r.v).toList ++ r.fp).Nodup ∧ ∀ g, g ∈ (blk r.v).toList ++ r.fp → lim g = 0

/-- The cells of a block. -/
def bsz (w : World) (g : Nat) : Nat := match w.heap[g]? with
  | some (.cells c _ _) => c.size
  | _ => 0

/-- As 'DeepOK', settled; the row itself as far as it goes. -/
def SdOK (w : World) (lim : Nat → Nat) (te : Ty → TypeId) (t : Ty) (xs : List t.den) (r : Rt) : Prop :=
  Tr w te (.list t) [r.v] xs ((blk r.v).toList ++ r.fp) ∧ ((blk r.v).toList ++ r.fp).Nodup ∧ (∀ g, blk r.v = some g → lim g = xs.length * t.size) ∧ ∀ g, g ∈ r.fp → lim g = bsz w g

theorem mem_flat {Fs : List (List Nat)} {i g : Nat} (h : g ∈ Fs.getD i []) : g ∈ Fs.flatten := by
  rw [List.getD_eq_getElem?_getD] at h
  cases hi : Fs[i]? with
  | none => rw [hi] at h; simp at h
  | some l =>
    rw [hi] at h
    exact List.mem_flatten.2 ⟨l, List.mem_of_getElem? hi, by simpa using h⟩

section
variable {w w' : World} {te : Ty → TypeId}
theorem ownsRow_blk {B : Nat} {e : TypeId} {n sz : Nat} {root : Value} {vs : List Value} (h : w.ownsRow B e sz root n vs) (hg : ∀ g, blk root = some g → w'.heap[g]? = w.heap[g]?) : w'.ownsRow B e sz root n vs := by
  obtain ⟨h1, h2⟩ := h
  refine ⟨h1, ?_⟩
  rcases h2 with h2 | ⟨g, cap, cur, hr, hb, hh, rest⟩
  · exact .inl h2
  · exact .inr ⟨g, cap, cur, hr, hb, by rw [hg g (by rw [hr]; rfl)]; exact hh, rest⟩

theorem Tr.keeps : ∀ {t : Ty} {cs : List Value} {x : t.den} {F : List Nat}, (∀ g, g ∈ F → w'.heap[g]? = w.heap[g]?) → Tr w te t cs x F → Tr w' te t cs x F
  | .int _, _, _, _, _, h => h
  | .bool, _, _, _, _, h => h
  | .str, _, _, _, _, h => h
  | .nil, _, _, _, _, h => h
  | .cons _ _, _, _, _, hg, h => by
    obtain ⟨c1, c2, F1, F2, e1, e2, h1, h2⟩ := h
    subst e2
    exact ⟨c1, c2, F1, F2, e1, rfl, h1.keeps fun g k => hg g (List.mem_append_left _ k), h2.keeps fun g k => hg g (List.mem_append_right _ k)⟩
  | .list _, _, _, _, hg, h => by
    obtain ⟨root, vs, Fs, e1, h1, h2, h3, e2, h4⟩ := h
    subst e2
    exact ⟨root, vs, Fs, e1, ownsRow_blk h1 fun g k => hg g (List.mem_append_left _ (by simpa using k)), h2, h3, rfl, fun i hi => (h4 i hi).keeps fun g k => hg g (List.mem_append_right _ (mem_flat k))⟩

theorem ownsRow_lt {B : Nat} {e : TypeId} {n sz : Nat} {root : Value} {vs : List Value} (h : w.ownsRow B e sz root n vs) {g : Nat} (hg : blk root = some g) : B ≤ g ∧ g < w.heap.size := by
  rcases h.2 with ⟨h2, _⟩ | ⟨g', cap, cur, hr, hb, hh, _⟩
  · rw [h2] at hg; cases hg
  · rw [hr] at hg
    injection hg with hg
    subst hg
    exact ⟨hb, (Array.getElem?_eq_some_iff.1 hh).1⟩

theorem Tr.lt : ∀ {t : Ty} {cs : List Value} {x : t.den} {F : List Nat}, Tr w te t cs x F → ∀ g, g ∈ F → g < w.heap.size
  | .int _, _, _, _, h, g, hg => by rw [h.2] at hg; cases hg
  | .bool, _, _, _, h, g, hg => by rw [h.2] at hg; cases hg
  | .str, _, _, _, h, g, hg => by rw [h.2] at hg; cases hg
  | .nil, _, _, _, h, g, hg => by rw [h.2] at hg; cases hg
  | .cons _ _, _, _, _, h, g, hg => by
    obtain ⟨c1, c2, F1, F2, e1, e2, h1, h2⟩ := h
    subst e2
    rcases List.mem_append.1 hg with hg | hg
    · exact h1.lt g hg
    · exact h2.lt g hg
  | .list _, _, _, _, h, g, hg => by
    obtain ⟨root, vs, Fs, e1, h1, h2, h3, e2, h4⟩ := h
    subst e2
    rcases List.mem_append.1 hg with hg | hg
    · exact (ownsRow_lt h1 (by simpa using hg)).2
    · obtain ⟨l, hl, hg⟩ := List.mem_flatten.1 hg
      obtain ⟨i, hi, rfl⟩ := List.mem_iff_getElem.1 hl
      exact (h4 i (by omega)).lt g (by rw [List.getD_eq_getElem?_getD, List.getElem?_eq_getElem hi]; exact hg)

theorem Tr.length : ∀ {t : Ty} {cs : List Value} {x : t.den} {F : List Nat}, Tr w te t cs x F → cs.length = t.size
  | .int _, _, _, _, h => by rw [h.1.1]; rfl
  | .bool, _, _, _, h => by rw [h.1]; rfl
  | .str, _, _, _, h => by rw [h.1.1]; rfl
  | .nil, _, _, _, h => by rw [h.1]; rfl
  | .cons _ _, _, _, _, h => by
    obtain ⟨c1, c2, F1, F2, e1, e2, h1, h2⟩ := h
    rw [e1, List.length_append, h1.length, h2.length]; rfl
  | .list _, _, _, _, h => by
    obtain ⟨root, vs, Fs, e1, _⟩ := h
    rw [e1]; rfl

theorem ownsRow_one {B : Nat} {e : TypeId} {n sz : Nat} {root : Value} {vs : List Value} (h : w.ownsRow B e sz root n vs) : root.oneCell' = true := by
  rcases h.2 with ⟨h2, _⟩ | ⟨g', cap, cur, hr, _⟩
  · rw [h2]; rfl
  · rw [hr]; rfl

theorem Tr.one : ∀ {t : Ty} {cs : List Value} {x : t.den} {F : List Nat}, Tr w te t cs x F → ∀ u ∈ cs, u.oneCell' = true
  | .int _, _, _, _, h => by rw [h.1.1]; simp [Value.oneCell']
  | .bool, _, _, _, h => by rw [h.1]; simp [Value.oneCell']
  | .str, _, _, _, h => by rw [h.1.1]; simp [Value.oneCell']
  | .nil, _, _, _, h => by rw [h.1]; simp
  | .cons _ _, _, _, _, h => by
    obtain ⟨c1, c2, F1, F2, e1, e2, h1, h2⟩ := h
    rw [e1]
    intro u hu
    rcases List.mem_append.1 hu with hu | hu
    · exact h1.one u hu
    · exact h2.one u hu
  | .list _, _, _, _, h => by
    obtain ⟨root, vs, Fs, e1, h1, _⟩ := h
    rw [e1]
    intro u hu
    have : u = root := by simpa using hu
    rw [this]
    exact ownsRow_one h1

theorem DeepOK.keeps {lim lim' : Nat → Nat} {t : Ty} {xs : List t.den} {r : Rt} (h : DeepOK w lim te t xs r) (hg : ∀ g, g ∈ (blk r.v).toList ++ r.fp → w'.heap[g]? = w.heap[g]? ∧ lim' g = lim g) : DeepOK w' lim' te t xs r :=
  ⟨h.1.keeps fun g k => (hg g k).1, h.2.1, fun g k => by rw [(hg g k).2]; exact h.2.2 g k⟩
end

theorem bsz_keeps {w w' : World} {g : Nat} (h : w'.heap[g]? = w.heap[g]?) : bsz w' g = bsz w g := by unfold bsz; rw [h]
theorem SdOK.keeps {w w' : World} {te : Ty → TypeId} {lim lim' : Nat → Nat} {t : Ty} {xs : List t.den} {r : Rt} (h : SdOK w lim te t xs r) (hg : ∀ g, g ∈ (blk r.v).toList ++ r.fp → w'.heap[g]? = w.heap[g]? ∧ lim' g = lim g) : SdOK w' lim' te t xs r :=
  ⟨h.1.keeps fun g k => (hg g k).1, h.2.1, fun g k => by rw [(hg g (by rw [k]; simp)).2]; exact h.2.2.1 g k, fun g k => by rw [(hg g (List.mem_append_right _ k)).2, bsz_keeps (hg g (List.mem_append_right _ k)).1]; exact h.2.2.2 g k⟩

section
variable (w : World) (lim : Nat → Nat) (G : Nat → Rt) (objs : Nat → AObj)
mutual
def AVok : AV → Value → Prop
  | .any, _ => True
  | .rd t x, v => RdV w lim t v x
  | .ptr t x, v => ∃ a cs, v = .pointer (some a) ∧ At w lim a cs ∧ Rd w lim t cs x
  | .nils, v => v = .slice none 0 0
  | .own id, v => (objs id).born = true ∧ ((objs id).live = true → v = G id)
  | .bp id off, v => (objs id).born = true ∧ ((objs id).live = true → ∃ g, blk (G id) = some g ∧ v = .pointer (some ⟨g, off, none⟩))
  | .ep id sz i, v => (objs id).born = true ∧ ((objs id).live = true → ∃ g, blk (G id) = some g ∧ v = .pointer (some ⟨g, i * sz, none⟩))
  | .ef id sz i f, v => (objs id).born = true ∧ ((objs id).live = true → ∃ g, blk (G id) = some g ∧ v = .pointer (some ⟨g, i * sz + f, none⟩))
  | .agg cs, v => ∃ arr : List Value, v = .agg arr.toArray ∧ AVsOk cs arr
  | .tup cs, v => ∃ arr : List Value, v = .tuple arr.toArray ∧ AVsOk cs arr
  | .gd c a, v => (c = true → AVok a v) ∧ (c = false → v = undef)
  | .fn f caps, v => ∃ arr : List Value, v = .func (.func f) #[] arr.toArray ∧ AVsOk caps arr
def AVsOk : List AV → List Value → Prop
  | [], vs => vs = []
  | a :: as, vs => ∃ v r, vs = v :: r ∧ AVok a v ∧ AVsOk as r
end

def RowOK (B : Nat) (e : TypeId) (t : Ty) (xs : List t.den) (root : Value) : Prop :=
  ∃ vs, w.ownsRow B e t.size root xs.length vs ∧ 0 < t.size ∧ ∀ i (h : i < xs.length), Rd w lim t ((vs.drop (i * t.size)).take t.size) xs[i]

/-- A row of the call's own that begins behind the start of its block; it is settled to its end. -/
def TailOK (B : Nat) (e : TypeId) (t : Ty) (xs : List t.den) (root : Value) : Prop :=
  0 < t.size ∧ ((root = .slice none 0 0 ∧ xs.length = 0) ∨ ∃ g off cap cur, root = .slice (some ⟨g, off, none⟩) xs.length cap ∧ B ≤ g ∧ w.heap[g]? = some (.cells cur e (0, 0)) ∧ xs.length ≤ cap ∧ cap ≤ maxLen ∧
    off + cap * t.size ≤ cur.size ∧ (cap ≠ 0 → lim g = off + xs.length * t.size) ∧ ∀ i (h : i < xs.length), Rd w lim t ((cur.toList.drop (off + i * t.size)).take t.size) xs[i])

def ObjOK (B : Nat) (root : Rt) : AObj → Prop
  | .unborn => True
  | .dead => True
  | .box T cs => ∃ g arr, root.v = .pointer (some ⟨g, 0, none⟩) ∧ B ≤ g ∧ w.heap[g]? = some (.cells arr T (0, 0)) ∧ lim g = 0 ∧ AVsOk w lim G objs cs arr.toList
  | .row e t xs => RowOK w lim B e t xs root.v ∧ ∀ g, blk root.v = some g → lim g = xs.length * t.size
  | .arr e t xs => RowOK w lim B e t xs root.v ∧ ∀ g, blk root.v = some g → lim g = 0
  | .tl e t xs => TailOK w lim B e t xs root.v
  | .deep te t xs => DeepOK w lim te t xs root ∧ ∀ g, Blk (.deep te t xs) root g → B ≤ g
  | .bld te t xs => DeepOK w lim te t xs root ∧ ∀ g, Blk (.bld te t xs) root g → B ≤ g
  | .held te t xs i f k => (DeepOK w lim te t xs root ∧ ∀ g, Blk (.deep te t xs) root g → B ≤ g) ∧ (objs k).born = true ∧ ((objs k).live = true → ∃ g, blk root.v = some g ∧ w.cell? ⟨g, i * t.size + f, none⟩ = some (G k).v)
  | .name _ => root.v.oneCell' = true
  | .sd te t xs => SdOK w lim te t xs root ∧ ∀ g, Blk (.sd te t xs) root g → B ≤ g
end

/-- Objects may die, or be born; what lives on keeps its root. -/
def Ext (G : Nat → Rt) (objs : Nat → AObj) (G' : Nat → Rt) (objs' : Nat → AObj) : Prop :=
  ∀ id, (objs id).born = true → (objs' id).born = true ∧ ((objs' id).live = true → (objs id).live = true ∧ (G' id).v = (G id).v)

theorem Ext.refl (G : Nat → Rt) (objs : Nat → AObj) : Ext G objs G objs := fun _ h => ⟨h, fun k => ⟨k, rfl⟩⟩

section
variable {w w' : World} {lim lim' : Nat → Nat} {G G' : Nat → Rt} {objs objs' : Nat → AObj}

theorem At.isKeeps {a : Addr} {cs : List Value} {t : Ty} {x : t.den} (hk : Keeps w lim w' lim') (h1 : At w lim a cs) (h2 : Rd w lim t cs x) : At w' lim' a cs ∧ Rd w' lim' t cs x :=
  ⟨h1.keeps hk, h2.keeps hk⟩

mutual
theorem AVok.keeps (hk : Keeps w lim w' lim') (he : Ext G objs G' objs') : ∀ (av : AV) (v : Value), AVok w lim G objs av v → AVok w' lim' G' objs' av v
  | .any, _, _ => by simp only [AVok]
  | .rd t x, v, h => by
    simp only [AVok] at h ⊢
    exact h.keeps hk
  | .ptr t x, v, h => by
    simp only [AVok] at h ⊢
    obtain ⟨a, cs, h1, h2, h3⟩ := h
    exact ⟨a, cs, h1, h2.keeps hk, h3.keeps hk⟩
  | .nils, v, h => by simpa only [AVok] using h
  | .own id, v, h => by
    simp only [AVok] at h ⊢
    obtain ⟨hb, hl⟩ := h
    obtain ⟨h1, h2⟩ := he id hb
    exact ⟨h1, fun k => by rw [(h2 k).2]; exact hl (h2 k).1⟩
  | .ep id sz i, v, h => by
    simp only [AVok] at h ⊢
    obtain ⟨hb, hl⟩ := h
    obtain ⟨h1, h2⟩ := he id hb
    exact ⟨h1, fun k => by rw [(h2 k).2]; exact hl (h2 k).1⟩
  | .ef id sz i f, v, h => by
    simp only [AVok] at h ⊢
    obtain ⟨hb, hl⟩ := h
    obtain ⟨h1, h2⟩ := he id hb
    exact ⟨h1, fun k => by rw [(h2 k).2]; exact hl (h2 k).1⟩
  | .bp id off, v, h => by
    simp only [AVok] at h ⊢
    obtain ⟨hb, hl⟩ := h
    obtain ⟨h1, h2⟩ := he id hb
    exact ⟨h1, fun k => by rw [(h2 k).2]; exact hl (h2 k).1⟩
  | .agg cs, v, h => by
    simp only [AVok] at h ⊢
    obtain ⟨arr, h1, h2⟩ := h
    exact ⟨arr, h1, AVsOk.keeps hk he cs arr h2⟩
  | .tup cs, v, h => by
    simp only [AVok] at h ⊢
    obtain ⟨arr, h1, h2⟩ := h
    exact ⟨arr, h1, AVsOk.keeps hk he cs arr h2⟩
  | .gd c a, v, h => by
    simp only [AVok] at h ⊢
    exact ⟨fun hc => AVok.keeps hk he a v (h.1 hc), h.2⟩
  | .fn f caps, v, h => by
    simp only [AVok] at h ⊢
    obtain ⟨arr, h1, h2⟩ := h
    exact ⟨arr, h1, AVsOk.keeps hk he caps arr h2⟩
theorem AVsOk.keeps (hk : Keeps w lim w' lim') (he : Ext G objs G' objs') : ∀ (cs : List AV) (vs : List Value), AVsOk w lim G objs cs vs → AVsOk w' lim' G' objs' cs vs
  | [], _, h => by simpa only [AVsOk] using h
  | a :: as, vs, h => by
    simp only [AVsOk] at h ⊢
    obtain ⟨v, r, h1, h2, h3⟩ := h
    exact ⟨v, r, h1, AVok.keeps hk he a v h2, AVsOk.keeps hk he as r h3⟩
end

theorem AVsOk.length : ∀ {cs : List AV} {vs : List Value}, AVsOk w lim G objs cs vs → vs.length = cs.length
  | [], _, h => by simp only [AVsOk] at h; simp [h]
  | a :: as, vs, h => by
    simp only [AVsOk] at h
    obtain ⟨v, r, h1, _, h3⟩ := h
    rw [h1, List.length_cons, List.length_cons, AVsOk.length h3]

theorem AVsOk.get : ∀ {cs : List AV} {vs : List Value}, AVsOk w lim G objs cs vs → ∀ i, i < cs.length → AVok w lim G objs (cs.getD i .any) (vs.getD i undef)
  | [], _, _, i, hi => absurd hi (by simp)
  | a :: as, vs, h, i, hi => by
    simp only [AVsOk] at h
    obtain ⟨v, r, h1, h2, h3⟩ := h
    subst h1
    cases i with
    | zero => simpa using h2
    | succ i => simpa using AVsOk.get h3 i (by simpa using hi)

theorem AVsOk.mk : ∀ {cs : List AV} {vs : List Value}, vs.length = cs.length → (∀ i, i < cs.length → AVok w lim G objs (cs.getD i .any) (vs.getD i undef)) → AVsOk w lim G objs cs vs
  | [], vs, hl, _ => by
    simp only [AVsOk]
    exact List.eq_nil_of_length_eq_zero (by simpa using hl)
  | a :: as, v :: vs, hl, h => by
    simp only [AVsOk]
    refine ⟨v, vs, rfl, by simpa using h 0 (by simp), AVsOk.mk (by simpa using hl) fun i hi => ?_⟩
    simpa using h (i + 1) (by simpa using hi)
  | a :: as, [], hl, _ => by simp at hl

/-- A row of the call's own, seen after something that keeps its block. -/
theorem RowOK.keeps {B : Nat} {e : TypeId} {t : Ty} {xs : List t.den} {root : Value} (h : RowOK w lim B e t xs root) (hk : Keeps w lim w' lim')
    (hg : ∀ g, blk root = some g → w'.heap[g]? = w.heap[g]?) : RowOK w' lim' B e t xs root := by
  obtain ⟨vs, ⟨h1, h2⟩, h3, h4⟩ := h
  refine ⟨vs, ⟨h1, ?_⟩, h3, fun i hi => (h4 i hi).keeps hk⟩
  rcases h2 with h2 | ⟨g, cap, cur, hr, hb, hh, rest⟩
  · exact .inl h2
  · exact .inr ⟨g, cap, cur, hr, hb, by rw [hg g (by rw [hr]; rfl)]; exact hh, rest⟩

theorem TailOK.keeps {B : Nat} {e : TypeId} {t : Ty} {xs : List t.den} {root : Value} (h : TailOK w lim B e t xs root) (hk : Keeps w lim w' lim')
    (hg : ∀ g, blk root = some g → w'.heap[g]? = w.heap[g]? ∧ lim' g = lim g) : TailOK w' lim' B e t xs root := by
  obtain ⟨h0, h | ⟨g, off, cap, cur, h1, h2, h3, h4, h5, h6, h7, h8⟩⟩ := h
  · exact ⟨h0, .inl h⟩
  · obtain ⟨k1, k2⟩ := hg g (by rw [h1]; rfl)
    exact ⟨h0, .inr ⟨g, off, cap, cur, h1, h2, by rw [k1]; exact h3, h4, h5, h6, fun hc => by rw [k2]; exact h7 hc, fun i hi => (h8 i hi).keeps hk⟩⟩

theorem ObjOK.keeps {B : Nat} {root : Rt} {o : AObj} (h : ObjOK w lim G objs B root o) (hk : Keeps w lim w' lim') (he : Ext G objs G' objs')
    (hg : ∀ g, Blk o root g → w'.heap[g]? = w.heap[g]? ∧ lim' g = lim g) : ObjOK w' lim' G' objs' B root o := by
  cases o with
  | unborn => simp only [ObjOK]
  | dead => simp only [ObjOK]
  | box T cs =>
    simp only [ObjOK] at h ⊢
    obtain ⟨g, arr, hr, hb, hh, hl, hc⟩ := h
    obtain ⟨h1, h2⟩ := hg g (by simp only [Blk]; rw [hr]; rfl)
    exact ⟨g, arr, hr, hb, by rw [h1]; exact hh, by rw [h2]; exact hl, AVsOk.keeps hk he _ _ hc⟩
  | row e t xs =>
    simp only [ObjOK] at h ⊢
    exact ⟨h.1.keeps hk fun g k => (hg g k).1, fun g k => by rw [(hg g k).2]; exact h.2 g k⟩
  | arr e t xs =>
    simp only [ObjOK] at h ⊢
    exact ⟨h.1.keeps hk fun g k => (hg g k).1, fun g k => by rw [(hg g k).2]; exact h.2 g k⟩
  | tl e t xs =>
    simp only [ObjOK] at h ⊢
    exact h.keeps hk hg
  | deep te t xs =>
    simp only [ObjOK] at h ⊢
    exact ⟨h.1.keeps hg, h.2⟩
  | bld te t xs =>
    simp only [ObjOK] at h ⊢
    exact ⟨h.1.keeps hg, h.2⟩
  | held te t xs i f k =>
    simp only [ObjOK] at h ⊢
    obtain ⟨⟨h1, h0⟩, h2, h3⟩ := h
    obtain ⟨e1, e2⟩ := he k h2
    refine ⟨⟨h1.keeps hg, h0⟩, e1, fun hl => ?_⟩
    obtain ⟨g, k1, k2⟩ := h3 (e2 hl).1
    refine ⟨g, k1, ?_⟩
    rw [(e2 hl).2, ← k2]
    exact World.cell?_of_block (w := w) (hg g (by simp only [Blk]; rw [k1]; simp)).1
  | name d =>
    simp only [ObjOK] at h ⊢
    exact h
  | sd te t xs =>
    simp only [ObjOK] at h ⊢
    exact ⟨h.1.keeps hg, h.2⟩

theorem ObjOK.block_ge {B : Nat} {root : Rt} {o : AObj} (h : ObjOK w lim G objs B root o) (hl : o.live = true) : ∀ g, Blk o root g → B ≤ g ∧ g < w.heap.size := by
  intro g hg
  have row : ∀ {e : TypeId} {t : Ty} {xs : List t.den}, blk root.v = some g → RowOK w lim B e t xs root.v → B ≤ g ∧ g < w.heap.size := by
    intro e t xs hg hr
    obtain ⟨vs, ⟨_, h2⟩, _⟩ := hr
    rcases h2 with ⟨h2, _⟩ | ⟨g', cap, cur, hr, hb, hh, _⟩
    · rw [h2] at hg; cases hg
    · rw [hr] at hg
      injection hg with hg
      subst hg
      exact ⟨hb, (Array.getElem?_eq_some_iff.1 hh).1⟩
  cases o with
  | unborn => cases hl
  | dead => cases hl
  | box T cs =>
    simp only [ObjOK] at h
    obtain ⟨g', arr, hr, hb, hh, _⟩ := h
    simp only [Blk] at hg
    rw [hr] at hg
    injection hg with hg
    subst hg
    exact ⟨hb, (Array.getElem?_eq_some_iff.1 hh).1⟩
  | row e t xs => exact row hg h.1
  | arr e t xs => exact row hg h.1
  | deep te t xs =>
    simp only [ObjOK] at h
    exact ⟨h.2 g hg, h.1.1.lt g hg⟩
  | bld te t xs =>
    simp only [ObjOK] at h
    exact ⟨h.2 g hg, h.1.1.lt g hg⟩
  | held te t xs i f k =>
    simp only [ObjOK] at h
    exact ⟨h.1.2 g hg, h.1.1.1.lt g hg⟩
  | name d => exact hg.elim
  | sd te t xs =>
    simp only [ObjOK] at h
    exact ⟨h.2 g hg, h.1.1.lt g hg⟩
  | tl e t xs =>
    simp only [ObjOK] at h
    simp only [Blk] at hg
    obtain ⟨_, h | ⟨g', off, cap, cur, h1, h2, h3, _⟩⟩ := h
    · rw [h.1] at hg; cases hg
    · rw [h1] at hg
      injection hg with hg
      subst hg
      exact ⟨h2, (Array.getElem?_eq_some_iff.1 h3).1⟩
end

/-- The call's own start: its first own block, the world, what was settled, the number of temporaries, the roots of what was lent to it. -/
structure Cx where
  B : Nat
  w0 : World
  lim0 : Nat → Nat
  N : Nat
  R : Nat → Option Rt
  /-- What a caller's temporaries hold, where this call runs among the caller's own objects. -/
  F : AV × Value → Prop

/-- The blocks that were lent. -/
def Cx.L (cx : Cx) (g : Nat) : Prop := ∃ j r, cx.R j = some r ∧ BlkR r g

/-- Below B the world is as it was, but for the blocks in L. -/
structure BelowL (L : Nat → Prop) (B : Nat) (w w' : World) : Prop where
  os : w'.os = w.os
  tape : w'.tape = w.tape
  output : w'.output = w.output
  size : w.heap.size ≤ w'.heap.size
  block : ∀ k, k < B → ¬ L k → w'.heap[k]? = w.heap[k]?

theorem BelowL.refl (L : Nat → Prop) (B : Nat) (w : World) : BelowL L B w w := ⟨rfl, rfl, rfl, Nat.le_refl _, fun _ _ _ => rfl⟩
theorem BelowL.trans {L : Nat → Prop} {B : Nat} {a b c : World} (h : BelowL L B a b) (k : BelowL L B b c) : BelowL L B a c :=
  ⟨k.os.trans h.os, k.tape.trans h.tape, k.output.trans h.output, Nat.le_trans h.size k.size, fun i hi hL => (k.block i hi hL).trans (h.block i hi hL)⟩
theorem BelowL.mono {L L' : Nat → Prop} {B B' : Nat} {w w' : World} (h : BelowL L B w w') (hB : B' ≤ B) (hL : ∀ k, k < B' → L k → L' k) : BelowL L' B' w w' :=
  ⟨h.os, h.tape, h.output, h.size, fun k hk hn => h.block k (Nat.lt_of_lt_of_le hk hB) fun hl => hn (hL k hk hl)⟩
theorem BelowL.of {B : Nat} {w w' : World} (L : Nat → Prop) (h : Below B w w') : BelowL L B w w' := ⟨h.os, h.tape, h.output, h.size, fun k hk _ => h.block k hk⟩

structure Hp (cx : Cx) (objs : Nat → AObj) (w : World) (lim : Nat → Nat) (G : Nat → Rt) : Prop where
  start : cx.B = cx.w0.heap.size
  below : BelowL cx.L cx.B cx.w0 w
  lim0 : ∀ b, b < cx.B → ¬ cx.L b → lim b = cx.lim0 b
  obj : ∀ id, ObjOK w lim G objs 0 (G id) (objs id)
  sep : ∀ i j g, i ≠ j → (objs i).live = true → (objs j).live = true → Blk (objs i) (G i) g → ¬ Blk (objs j) (G j) g
  mine : ∀ i g, (objs i).live = true → Blk (objs i) (G i) g → cx.B ≤ g ∨ cx.L g
  lent : ∀ j r, cx.R j = some r → (objs j).born = true ∧ G j = r
  nob : ∀ j r, cx.R j = some r → (objs j).isBld = false

structure Fr (cx : Cx) (σ : St) (a : Act) (w : World) (lim : Nat → Nat) (G : Nat → Rt) : Prop where
  size : a.tmps.size = cx.N
  defers : a.defers = []
  tmp : ∀ t, AVok w lim G σ.objs (σ.tmps t) (a.tmps.getD t undef)
  ext : ∀ p, cx.F p → AVok w lim G σ.objs p.1 p.2

def Sat (cx : Cx) (σ : St) (a : Act) (w : World) : Prop := ∃ lim G, Hp cx σ.objs w lim G ∧ Fr cx σ a w lim G

def St.put (σ : St) (d : Option Nat) (av : AV) : St :=
  match d with
  | some d => { σ with tmps := upd σ.tmps d av }
  | none => σ

theorem getD_put (a : Act) (d t : Nat) (v : Value) (h : d < a.tmps.size) : (a.put (some d) v).tmps.getD t undef = if t = d then v else a.tmps.getD t undef := by
  unfold Act.put
  simp only [Array.getD_eq_getD_getElem?, Array.getElem?_setIfInBounds]
  by_cases e : d = t
  · subst e; simp [h]
  · have e' : ¬ t = d := fun h => e h.symm
    simp [e, e']

theorem Fr.put {cx : Cx} {σ : St} {a : Act} {w : World} {lim : Nat → Nat} {G : Nat → Rt} (h : Fr cx σ a w lim G) {d : Option Nat} (hd : ∀ k, d = some k → k < cx.N) {av : AV} {v : Value}
    (hv : AVok w lim G σ.objs av v) : Fr cx (σ.put d av) (a.put d v) w lim G := by
  cases d with
  | none => exact h
  | some d =>
    have hlt : d < a.tmps.size := by rw [h.size]; exact hd d rfl
    refine ⟨by simpa [Act.put] using h.size, h.defers, fun t => ?_, h.ext⟩
    rw [getD_put a d t v hlt]
    simp only [St.put]
    by_cases e : t = d
    · subst e; rw [upd_same, if_pos rfl]; exact hv
    · rw [upd_ne _ _ _ _ e, if_neg e]; exact h.tmp t

theorem Fr.keeps {cx : Cx} {σ : St} {a : Act} {w w' : World} {lim lim' : Nat → Nat} {G G' : Nat → Rt} {objs' : Nat → AObj} (h : Fr cx σ a w lim G) (hk : Keeps w lim w' lim')
    (he : Ext G σ.objs G' objs') : Fr cx { σ with objs := objs' } a w' lim' G' :=
  ⟨h.size, h.defers, fun t => AVok.keeps hk he _ _ (h.tmp t), fun p hp => AVok.keeps hk he _ _ (h.ext p hp)⟩

end Go.AL
/- Types of a program against the typed readings; single operations on abstract frames. A general part, over any program. -/
set_option linter.unusedSimpArgs false
set_option linter.unusedVariables false
namespace Go.AL
open Go.RowKit

theorem wrap_in (k : IntKind) (n : Int) : k.min ≤ k.wrap n ∧ k.wrap n ≤ k.max := by
  cases k <;> simp only [IntKind.min, IntKind.max, IntKind.wrap, IntKind.signed, IntKind.bits] <;> (constructor <;> (simp; try split) <;> omega)

theorem emod_le' {a b : Int} (ha : 0 ≤ a) (hb : 0 ≤ b) : a % b ≤ a := by
  have h1 := Int.mul_ediv_add_emod a b
  have h2 : 0 ≤ b * (a / b) := Int.mul_nonneg hb (Int.ediv_nonneg ha hb)
  omega

theorem tmod_in (k : IntKind) (a b : Int) (h : k.min ≤ a ∧ a ≤ k.max) : k.min ≤ a.tmod b ∧ a.tmod b ≤ k.max := by
  have h0 : k.min ≤ 0 ∧ 0 ≤ k.max := by cases k <;> simp [IntKind.min, IntKind.max, IntKind.signed, IntKind.bits]
  rcases Int.le_total 0 a with ha | ha
  · have h1 : 0 ≤ a.tmod b := Int.tmod_nonneg b ha
    have h2 : a.tmod b ≤ a := by
      rcases Int.le_total 0 b with hb | hb
      · rw [Int.tmod_eq_emod_of_nonneg ha]
        exact emod_le' ha hb
      · have : a.tmod b = a.tmod (-b) := (Int.tmod_neg a b).symm
        rw [this, Int.tmod_eq_emod_of_nonneg ha]
        exact emod_le' ha (by omega)
    omega
  · have e : a.tmod b = -((-a).tmod b) := by rw [Int.neg_tmod]; omega
    have h1 : 0 ≤ (-a).tmod b := Int.tmod_nonneg b (by omega)
    have h2 : (-a).tmod b ≤ -a := by
      rcases Int.le_total 0 b with hb | hb
      · rw [Int.tmod_eq_emod_of_nonneg (by omega)]
        exact emod_le' (by omega) hb
      · have : (-a).tmod b = (-a).tmod (-b) := (Int.tmod_neg (-a) b).symm
        rw [this, Int.tmod_eq_emod_of_nonneg (by omega)]
        exact emod_le' (by omega) (by omega)
    omega

/-! ### Types -/

def Ty.zcells : Ty → List Value
  | .int k => [.int k 0]
  | .bool => [.bool false]
  | .str => [.string ByteArray.empty]
  | .list _ => [.slice none 0 0]
  | .nil => []
  | .cons h t => h.zcells ++ t.zcells

def Ty.dflt : (t : Ty) → t.den
  | .int _ => 0
  | .bool => false
  | .str => ByteArray.empty
  | .list _ => []
  | .nil => ()
  | .cons h t => (h.dflt, t.dflt)

def Ty.flat1 : Ty → Bool
  | .nil => false
  | .cons _ _ => false
  | _ => true

/-- What the program's table says of a type: its size, its zero, a bound on its bytes. -/
def InfOK (P : Program) (t : Ty) (T : TypeId) : Prop := ∃ i, P.info? T = some i ∧ i.size = t.size ∧ i.zero = some (mkV t t.zcells) ∧ i.bytes ≤ 256

mutual
def TyOK (P : Program) : Ty → TypeId → Prop
  | .int k, T => P.underlying T = some (.int k) ∧ InfOK P (.int k) T
  | .bool, T => P.underlying T = some .bool ∧ InfOK P .bool T
  | .str, T => P.underlying T = some .string ∧ InfOK P .str T
  | .list t, T => ∃ e, P.underlying T = some (.slice e) ∧ TyOK P t e ∧ InfOK P (.list t) T ∧ 0 < t.size
  | .nil, T => ∃ fs, P.underlying T = some (.struct fs) ∧ fs.toList = [] ∧ InfOK P .nil T
  | .cons h t, T => ∃ fs, P.underlying T = some (.struct fs) ∧ FsOK P (.cons h t) fs.toList 0 ∧ InfOK P (.cons h t) T
def FsOK (P : Program) : Ty → List Field → Nat → Prop
  | .nil, fs, _ => fs = []
  | .cons h t, fs, o => ∃ f r, fs = f :: r ∧ f.offset = o ∧ h.flat1 = true ∧ TyOK P h f.type ∧ FsOK P t r (o + 1)
  | _, _, _ => False
end

theorem flat1_size {t : Ty} (h : t.flat1 = true) : t.size = 1 ∧ t.isAgg = false := by cases t <;> simp_all [Ty.flat1, Ty.size, Ty.isAgg]

theorem TyOK.inf {P : Program} {t : Ty} {T : TypeId} (h : TyOK P t T) : InfOK P t T := by
  cases t <;> simp only [TyOK] at h
  · exact h.2
  · exact h.2
  · exact h.2
  · exact h.choose_spec.2.2.1
  · exact h.choose_spec.2.2
  · exact h.choose_spec.2.2

theorem TyOK.und {P : Program} {t : Ty} {T : TypeId} (h : TyOK P t T) : ∃ d, P.underlying T = some d ∧ (match d with | .struct _ | .array _ _ => true | _ => false) = t.isAgg := by
  cases t <;> simp only [TyOK] at h
  · exact ⟨_, h.1, rfl⟩
  · exact ⟨_, h.1, rfl⟩
  · exact ⟨_, h.1, rfl⟩
  · obtain ⟨e, h, _⟩ := h; exact ⟨_, h, rfl⟩
  · obtain ⟨e, h, _⟩ := h; exact ⟨_, h, rfl⟩
  · obtain ⟨e, h, _⟩ := h; exact ⟨_, h, rfl⟩

section
variable {P : Program}
theorem run_sizeOf' {t : Ty} {T : TypeId} (h : TyOK P t T) (w : World) : (sizeOf T).run P w = .ok t.size w := by
  obtain ⟨i, h1, h2, _⟩ := h.inf
  simp [sizeOf, typeInfo, h1, h2]
theorem run_isAgg' {t : Ty} {T : TypeId} (h : TyOK P t T) (w : World) : (isAgg T).run P w = .ok t.isAgg w := by
  obtain ⟨d, h1, h2⟩ := h.und
  unfold isAgg
  rw [Sem.run_bind, run_underlying h1 w, ← h2]
  cases d <;> simp
theorem run_zero' {t : Ty} {T : TypeId} (h : TyOK P t T) (w : World) : (zeroValue T).run P w = .ok (mkV t t.zcells) w := by
  obtain ⟨i, h1, _, h2, _⟩ := h.inf
  simp [zeroValue, typeInfo, h1, h2]

theorem zcells_len : ∀ t : Ty, t.zcells.length = t.size
  | .int _ => rfl
  | .bool => rfl
  | .str => rfl
  | .list _ => rfl
  | .nil => rfl
  | .cons h t => by simp [Ty.zcells, Ty.size, zcells_len h, zcells_len t]

theorem zcells_rd (w : World) (lim : Nat → Nat) : ∀ t : Ty, Rd w lim t t.zcells t.dflt
  | .int k => ⟨rfl, by cases k <;> simp [Ty.dflt, IntKind.min, IntKind.max, IntKind.signed, IntKind.bits]⟩
  | .bool => rfl
  | .str => ⟨rfl, Nat.zero_le _⟩
  | .list _ => ⟨none, 0, rfl, Nat.le_refl _, Nat.zero_le _, fun i hi => absurd hi (by simp [Ty.dflt])⟩
  | .nil => rfl
  | .cons h t => ⟨h.zcells, t.zcells, rfl, zcells_rd w lim h, zcells_rd w lim t⟩

theorem run_load_at {t : Ty} {T : TypeId} (h : TyOK P t T) (w : World) (a : Addr) (cs : List Value) (hl : cs.length = t.size) (hc : ∀ j u, cs[j]? = some u → w.cell? (a.add j) = some u) :
    (Instr.loadAt T (.pointer (some a))).run P w = .ok (mkV t cs) w := by
  have h1 := run_loadCells_list (P := P) w a cs hc
  rw [hl] at h1
  unfold Instr.loadAt Instr.sureAddr loadVar
  simp only [Sem.run_bind, Sem.run_pure, Result.andThen_ok, run_isAgg' h w]
  cases hg : t.isAgg with
  | true => simp [run_sizeOf' h w, h1, mkV, hg]
  | false =>
    have h2 : t.size = 1 := by cases t <;> simp_all [Ty.isAgg, Ty.size]
    match cs, hl.trans h2 with
    | [c], _ =>
      have := hc 0 c rfl
      have e : a.add 0 = a := by simp [Addr.add]
      rw [e] at this
      simp [mkV, hg, this]
end

/-! ### Operands -/

def constAV : Value → AV
  | .int k n => bif decide (k.min ≤ n) && decide (n ≤ k.max) then .rd (.int k) n else .any
  | .bool b => .rd .bool b
  | .string s => bif Nat.ble s.size 1000000 then .rd .str s else .any
  | .slice none 0 0 => .nils
  | _ => .any

theorem constAV_i64 (n : Int) (h1 : -9223372036854775808 ≤ n) (h2 : n ≤ 9223372036854775807) : constAV (.int .i64 n) = .rd (.int .i64) n := by
  have e1 : decide (IntKind.i64.min ≤ n) = true := by simp [IntKind.min, IntKind.signed, IntKind.bits]; omega
  have e2 : decide (n ≤ IntKind.i64.max) = true := by simp [IntKind.max, IntKind.signed, IntKind.bits]; omega
  simp only [constAV, e1, e2, Bool.and_self, cond_true]

def St.ev (σ : St) : Operand → AV
  | .tmp t => σ.tmps t
  | .const v => constAV v
  | _ => .any

theorem ev_ok {cx : Cx} {σ : St} {a : Act} {w : World} {lim : Nat → Nat} {G : Nat → Rt} (h : Fr cx σ a w lim G) (x : Operand) : AVok w lim G σ.objs (σ.ev x) (a.eval x) := by
  cases x with
  | tmp t => exact h.tmp t
  | const v =>
    simp only [St.ev, Act.eval]
    unfold constAV
    split
    · rename_i k n
      cases hb : (decide (k.min ≤ n) && decide (n ≤ k.max)) with
      | false => simp only [cond_false, AVok]
      | true =>
        simp only [cond_true, AVok]
        simp only [Bool.and_eq_true, decide_eq_true_eq] at hb
        exact ⟨[.int k n], ⟨rfl, hb⟩, rfl⟩
    · simp only [AVok]; exact ⟨_, rfl, rfl⟩
    · rename_i s
      cases hb : Nat.ble s.size 1000000 with
      | false => simp only [cond_false, AVok]
      | true =>
        simp only [cond_true, AVok]
        have := Nat.le_of_ble_eq_true hb
        exact ⟨_, ⟨rfl, by unfold maxLen; omega⟩, rfl⟩
    · simp only [AVok]
    · simp only [AVok]
  | global g => simp only [St.ev, AVok]
  | func f => simp only [St.ev, AVok]

/-! ### The shape of an operation's soundness -/

structure Eff where
  av : AV
  upds : List (Nat × AObj)

def updAll (f : Nat → AObj) : List (Nat × AObj) → (Nat → AObj)
  | [] => f
  | u :: r => updAll (upd f u.1 u.2) r

def St.app (σ : St) (d : Option Nat) (e : Eff) : St := { tmps := (σ.put d e.av).tmps, objs := updAll σ.objs e.upds }

def OpOK (P : Program) (cx : Cx) (σ : St) (o : Oper) (e : Eff) : Prop :=
  ∀ (a : Act) (w : World) (K : Act → World → Prop) (Q : Exit → Act → World → Prop), Sat cx σ a w → (∀ a' w', Sat cx (σ.app o.dst e) a' w' → K a' w') → o.wp P a w K Q

theorem put_objs (σ : St) (d : Option Nat) (av : AV) : (σ.put d av).objs = σ.objs := by cases d <;> rfl

theorem app_nil (σ : St) (d : Option Nat) (av : AV) : σ.app d ⟨av, []⟩ = σ.put d av := by cases d <;> rfl

theorem OpOK.of_value {P : Program} {cx : Cx} {σ : St} {o : Oper} {av : AV} (hd : ∀ k, o.dst = some k → k < cx.N)
    (h : ∀ a w lim G, Hp cx σ.objs w lim G → Fr cx σ a w lim G → ∃ v, (execOp a.eval o).run P w = .ok (.value v) w ∧ AVok w lim G σ.objs av v) : OpOK P cx σ o ⟨av, []⟩ := by
  intro a w K Q hs hK
  obtain ⟨lim, G, hh, hf⟩ := hs
  obtain ⟨v, h1, h2⟩ := h a w lim G hh hf
  unfold Oper.wp
  rw [h1]
  refine hK _ _ ?_
  rw [app_nil]
  exact ⟨lim, G, by rw [put_objs]; exact hh, hf.put hd h2⟩

end Go.AL
/- Operations that only compute, on abstract frames. A general part, over any program. -/
set_option linter.unusedSimpArgs false
set_option linter.unusedVariables false
namespace Go.AL
open Go.RowKit

/-- The tables of the program at hand: a type's reading; a slice type's element. -/
structure Tb where
  ty : TypeId → Ty
  el : TypeId → TypeId
  /-- Functions that are gone through where they are called, among the caller's own objects. -/
  inl : FuncId → Bool := fun _ => false
  /-- Where the numbers of new objects begin. -/
  off : Nat := 0
  /-- Functions to which a nested row is lent. -/
  inn : FuncId → Bool := fun _ => false
  /-- Rows that are made own the rows nested in them. -/
  dp : Bool := false
  /-- The element's number of a row of a type. -/
  te : Ty → TypeId := fun _ => 0

def Tb.at (tb : Tb) (n : Nat) : Tb := { tb with off := n }

def AV.un : AV → AV
  | .gd _ a => a.un
  | a => a

def AV.uc : AV → Prop
  | .gd c a => c = true ∧ a.uc
  | _ => True

theorem AVok.un {w : World} {lim : Nat → Nat} {G : Nat → Rt} {objs : Nat → AObj} : ∀ {av : AV} {v : Value}, AVok w lim G objs av v → av.uc → AVok w lim G objs av.un v
  | .gd c a, v, h, hc => by
    simp only [AVok] at h
    exact AVok.un (av := a) (h.1 hc.1) hc.2
  | .any, _, h, _ | .rd _ _, _, h, _ | .ptr _ _, _, h, _ | .nils, _, h, _ | .own _, _, h, _ | .bp _ _, _, h, _ | .ep _ _ _, _, h, _ | .ef _ _ _ _, _, h, _ | .agg _, _, h, _ | .tup _, _, h, _ | .fn _ _, _, h, _ => h

/-! ### Reading an abstract value at a type -/

def castTo (t t' : Ty) (x : t'.den) : t.den := if h : t' = t then h ▸ x else t.dflt

theorem castTo_self (t : Ty) (x : t.den) : castTo t t x = x := by simp [castTo]

def rowOf (objs : Nat → AObj) (id : Nat) (t : Ty) : List t.den :=
  match objs id with
  | .row _ t' xs => castTo (.list t) (.list t') xs
  | .tl _ t' xs => castTo (.list t) (.list t') xs
  | .sd _ t' xs => castTo (.list t) (.list t') xs
  | _ => []

def tvd (objs : Nat → AObj) : (t : Ty) → AV → t.den
  | .list t, .own id => rowOf objs id t
  | .list _, .nils => []
  | .cons h t, .agg (c :: cs) => (tvd objs h c, tvd objs t (.agg cs))
  | t, .rd t' x => castTo t t' x
  | t, _ => t.dflt

def tvc (objs : Nat → AObj) : Ty → AV → Prop
  | .list t, .own id => match objs id with
    | .row _ t' _ => t' = t
    | .tl _ t' _ => t' = t
    | .sd _ t' _ => t' = t
    | _ => False
  | .list _, .nils => True
  | .cons h t, .agg (c :: cs) => h.flat1 = true ∧ tvc objs h c ∧ tvc objs t (.agg cs)
  | .nil, .agg [] => True
  | t, .rd t' _ => t' = t
  | _, _ => False

section
variable (objs : Nat → AObj) (t h : Ty)
theorem tvd_rd (x : t.den) : tvd objs t (.rd t x) = x := by cases t <;> simp only [tvd, castTo_self]
theorem tvc_rd (x : t.den) : tvc objs t (.rd t x) = True := by cases t <;> simp only [tvc]
theorem tvd_nils : tvd objs (.list t) .nils = [] := by simp only [tvd]
theorem tvc_nils : tvc objs (.list t) .nils = True := by simp only [tvc]
theorem tvd_agg (c : AV) (cs : List AV) : tvd objs (.cons h t) (.agg (c :: cs)) = (tvd objs h c, tvd objs t (.agg cs)) := by simp only [tvd]
theorem tvc_agg (c : AV) (cs : List AV) : tvc objs (.cons h t) (.agg (c :: cs)) = (h.flat1 = true ∧ tvc objs h c ∧ tvc objs t (.agg cs)) := by simp only [tvc]
theorem tvd_agg0 : tvd objs .nil (.agg []) = () := rfl
theorem tvc_agg0 : tvc objs .nil (.agg []) = True := by simp only [tvc]
theorem tvd_own (id : Nat) : tvd objs (.list t) (.own id) = rowOf objs id t := by simp only [tvd]
theorem tvc_own (id : Nat) : tvc objs (.list t) (.own id) = (match objs id with | .row _ t' _ => t' = t | .tl _ t' _ => t' = t | .sd _ t' _ => t' = t | _ => False) := by simp only [tvc]
end

theorem mkV_flat {t : Ty} (h : t.flat1 = true) (v : Value) : mkV t [v] = v := by
  have := (flat1_size h).2
  simp [mkV, this]

theorem Rd_of_V {w : World} {lim : Nat → Nat} {t : Ty} {v : Value} {x : t.den} (hf : t.flat1 = true) (h : RdV w lim t v x) : Rd w lim t [v] x := by
  obtain ⟨cs, h1, h2⟩ := h
  have hl := h1.length
  rw [(flat1_size hf).1] at hl
  match cs, hl with
  | [c], _ => rw [mkV_flat hf] at h2; subst h2; exact h1

section
variable {w : World} {lim : Nat → Nat} {G : Nat → Rt} {objs : Nat → AObj}

theorem TailOK.rd {B : Nat} {e : TypeId} {t : Ty} {xs : List t.den} {root : Value} (h : TailOK w lim B e t xs root) : RdV w lim (.list t) root xs := by
  obtain ⟨h0, ⟨h2, h3⟩ | ⟨g, off, cap, cur, hr, hb, hh, hnc, hcm, hcs, hlim, h4⟩⟩ := h
  · have hx : xs = [] := List.eq_nil_of_length_eq_zero h3
    subst hx
    exact ⟨[root], ⟨none, 0, by rw [h2]; rfl, Nat.le_refl _, Nat.zero_le _, fun i hi => absurd hi (by simp)⟩, by simp [mkV, Ty.isAgg]⟩
  · refine ⟨[root], ⟨some ⟨g, off, none⟩, cap, by rw [hr], hnc, hcm, fun i hi => ?_⟩, by simp [mkV, Ty.isAgg]⟩
    have hin : i * t.size + t.size ≤ xs.length * t.size := by
      rw [← Nat.succ_mul]; exact Nat.mul_le_mul_right _ hi
    have hcap : xs.length * t.size ≤ cap * t.size := Nat.mul_le_mul_right _ hnc
    refine ⟨⟨g, off, none⟩, (cur.toList.drop (off + i * t.size)).take t.size, rfl, ?_, ?_, h4 i hi⟩
    · intro j u hu
      have hj : j < t.size := by
        rcases Nat.lt_or_ge j t.size with hj | hj
        · exact hj
        · rw [List.getElem?_take, if_neg (by omega)] at hu; cases hu
      rw [List.getElem?_take, if_pos hj, List.getElem?_drop] at hu
      have ea : ((⟨g, off, none⟩ : Addr).add (i * t.size)).add j = ⟨g, off + i * t.size + j, none⟩ := by
        rw [add_add']; unfold Addr.add; split
        · rename_i h0; rw [show off + i * t.size + j = off by omega]
        · simp [Nat.add_assoc]
      refine ⟨?_, ?_⟩
      · rw [ea]
        unfold World.cell?
        simp only [hh]
        rw [← hu]
        simp
      · rw [ea, block_add]
        show off + i * t.size + j < lim g
        rw [hlim (by omega)]
        omega
    · rw [List.length_take, List.length_drop, Array.length_toList]
      omega

theorem ownsRow_rd {B : Nat} {e : TypeId} {t : Ty} {xs : List t.den} {root : Value} (h : RowOK w lim B e t xs root) (hl : ∀ g, blk root = some g → lim g = xs.length * t.size) : RdV w lim (.list t) root xs := by
  obtain ⟨vs, ⟨h1, h2⟩, h3, h4⟩ := h
  rcases h2 with ⟨h2, h0⟩ | ⟨g, cap, cur, hr, hb, hh, hnc, hcm, hcs, htk⟩
  · have hx : xs = [] := List.eq_nil_of_length_eq_zero h0
    subst hx
    exact ⟨[root], ⟨none, 0, by rw [h2]; rfl, Nat.le_refl _, Nat.zero_le _, fun i hi => absurd hi (by simp)⟩, by simp [mkV, Ty.isAgg]⟩
  · refine ⟨[root], ⟨some ⟨g, 0, none⟩, cap, by rw [hr], hnc, hcm, fun i hi => ?_⟩, by simp [mkV, Ty.isAgg]⟩
    have hlim := hl g (by rw [hr]; rfl)
    have hin : i * t.size + t.size ≤ xs.length * t.size := by
      rw [← Nat.succ_mul]; exact Nat.mul_le_mul_right _ hi
    refine ⟨⟨g, 0, none⟩, (vs.drop (i * t.size)).take t.size, rfl, ?_, ?_, h4 i hi⟩
    · intro j u hu
      have hj : j < t.size := by
        rcases Nat.lt_or_ge j t.size with hj | hj
        · exact hj
        · rw [List.getElem?_take, if_neg (by omega)] at hu; cases hu
      rw [List.getElem?_take, if_pos hj, List.getElem?_drop] at hu
      have ea : ((⟨g, 0, none⟩ : Addr).add (i * t.size)).add j = ⟨g, i * t.size + j, none⟩ := by
        rw [add_add']; unfold Addr.add; split
        · rename_i h0; rw [h0]
        · simp
      refine ⟨?_, ?_⟩
      · rw [ea, cell_of_row w g _ cur e (0, 0) hh]
        rw [← htk, List.getElem?_take] at hu
        split at hu
        · simpa using hu
        · cases hu
      · rw [ea, block_add]; show i * t.size + j < lim g
        rw [hlim]; omega
    · rw [List.length_take, List.length_drop, h1]; omega


theorem ownsRow_at {B : Nat} {e : TypeId} {sz n : Nat} {root : Value} {vs : List Value} (h : w.ownsRow B e sz root n vs) (hl : ∀ g, blk root = some g → n * sz ≤ lim g) : ∃ A cap, root = .slice A n cap ∧ n ≤ cap ∧ cap ≤ maxLen ∧
    ∀ i, i < n → ∃ a, A = some a ∧ At w lim (a.add (i * sz)) ((vs.drop (i * sz)).take sz) ∧ ((vs.drop (i * sz)).take sz).length = sz := by
  obtain ⟨h1, h2⟩ := h
  rcases h2 with ⟨h2, h0⟩ | ⟨g, cap, cur, hr, hb, hh, hnc, hcm, hcs, htk⟩
  · subst h0
    exact ⟨none, 0, h2, Nat.le_refl _, Nat.zero_le _, fun i hi => absurd hi (by omega)⟩
  · refine ⟨some ⟨g, 0, none⟩, cap, hr, hnc, hcm, fun i hi => ?_⟩
    have hlim := hl g (by rw [hr]; rfl)
    have hin : i * sz + sz ≤ n * sz := by
      rw [← Nat.succ_mul]; exact Nat.mul_le_mul_right _ hi
    refine ⟨⟨g, 0, none⟩, rfl, ?_, by rw [List.length_take, List.length_drop, h1]; omega⟩
    intro j u hu
    have hj : j < sz := by
      rcases Nat.lt_or_ge j sz with hj | hj
      · exact hj
      · rw [List.getElem?_take, if_neg (by omega)] at hu; cases hu
    rw [List.getElem?_take, if_pos hj, List.getElem?_drop] at hu
    have ea : ((⟨g, 0, none⟩ : Addr).add (i * sz)).add j = ⟨g, i * sz + j, none⟩ := by
      rw [add_add']; unfold Addr.add; split
      · rename_i h0; rw [h0]
      · simp
    refine ⟨?_, ?_⟩
    · rw [ea, cell_of_row w g _ cur e (0, 0) hh]
      rw [← htk, List.getElem?_take] at hu
      split at hu
      · simpa using hu
      · cases hu
    · rw [ea, block_add]
      show i * sz + j < lim g
      omega

/-- How many cells a block has. -/
theorem ownsRow_bsz {B : Nat} {e : TypeId} {sz n : Nat} {root : Value} {vs : List Value} (h : w.ownsRow B e sz root n vs) : ∀ g, blk root = some g → n * sz ≤ bsz w g := by
  intro g hg
  rcases h.2 with ⟨h2, h0⟩ | ⟨g', cap, cur, hr, hb, hh, hnc, hcm, hcs, htk⟩
  · rw [h2] at hg; cases hg
  · rw [hr] at hg
    injection hg with hg
    subst hg
    show n * sz ≤ (match w.heap[g']? with | some (.cells c _ _) => c.size | _ => 0)
    rw [hh]
    simp only
    rw [hcs]
    exact Nat.mul_le_mul_right _ hnc

/-- What lies under a value may be read, once it is settled. -/
theorem Tr.rd {te : Ty → TypeId} : ∀ {t : Ty} {cs : List Value} {x : t.den} {F : List Nat}, (∀ g, g ∈ F → bsz w g ≤ lim g) → Tr w te t cs x F → Rd w lim t cs x
  | .int _, _, _, _, _, h => h.1
  | .bool, _, _, _, _, h => h.1
  | .str, _, _, _, _, h => h.1
  | .nil, _, _, _, _, h => h.1
  | .cons _ _, _, _, _, hg, h => by
    obtain ⟨c1, c2, F1, F2, e1, e2, h1, h2⟩ := h
    subst e2
    exact ⟨c1, c2, e1, h1.rd fun g k => hg g (List.mem_append_left _ k), h2.rd fun g k => hg g (List.mem_append_right _ k)⟩
  | .list t, _, xs, _, hg, h => by
    obtain ⟨root, vs, Fs, e1, h1, h2, h3, e2, h4⟩ := h
    subst e2
    obtain ⟨A, cap, k1, k2, k3, k4⟩ := ownsRow_at h1 (lim := lim) fun g k => Nat.le_trans (ownsRow_bsz h1 g k) (hg g (List.mem_append_left _ (by simpa using k)))
    refine ⟨A, cap, by rw [e1, k1], k2, k3, fun i hi => ?_⟩
    obtain ⟨a, q1, q2, q3⟩ := k4 i hi
    exact ⟨a, _, q1, q2, q3, (h4 i hi).rd fun g k => hg g (List.mem_append_right _ (mem_flat k))⟩

theorem SdOK.row {te : Ty → TypeId} {t : Ty} {xs : List t.den} {r : Rt} (h : SdOK w lim te t xs r) : RowOK w lim 0 (te t) t xs r.v := by
  obtain ⟨⟨root, vs, Fs, e1, h1, h2, h3, e2, h4⟩, _, _, hl⟩ := h
  injection e1 with e1
  subst e1
  have e2 := List.append_cancel_left e2
  exact ⟨vs, h1, h2, fun i hi => (h4 i hi).rd fun g hg => Nat.le_of_eq (hl g (by rw [e2]; exact mem_flat hg)).symm⟩

theorem castTo_of {t t' : Ty} (h : t' = t) {x : t'.den} {w : World} {lim : Nat → Nat} {v : Value} (hr : RdV w lim t' v x) : RdV w lim t v (castTo t t' x) := by
  subst h; rw [castTo_self]; exact hr

theorem tv_ok {B : Nat} (ho : ∀ id, ObjOK w lim G objs B (G id) (objs id)) : ∀ (t : Ty) (av : AV) (v : Value), tvc objs t av → AVok w lim G objs av v → RdV w lim t v (tvd objs t av) := by
  intro t
  have hrd : ∀ (t t' : Ty) (x : t'.den) (v : Value), tvc objs t (.rd t' x) → AVok w lim G objs (.rd t' x) v → RdV w lim t v (tvd objs t (.rd t' x)) := by
    intro t t' x v hc hv
    have e : t' = t := by cases t <;> simpa only [tvc] using hc
    subst e
    rw [tvd_rd]
    simpa only [AVok] using hv
  induction t with
  | int k => intro av v hc hv; cases av <;> first | exact hrd _ _ _ _ hc hv | simp only [tvc] at hc
  | bool => intro av v hc hv; cases av <;> first | exact hrd _ _ _ _ hc hv | simp only [tvc] at hc
  | str => intro av v hc hv; cases av <;> first | exact hrd _ _ _ _ hc hv | simp only [tvc] at hc
  | list t _ =>
    intro av v hc hv
    cases av with
    | rd t' x => exact hrd _ _ _ _ hc hv
    | nils =>
      simp only [AVok] at hv
      rw [tvd_nils]
      exact ⟨[v], ⟨none, 0, by rw [hv]; rfl, Nat.le_refl _, Nat.zero_le _, fun i hi => absurd hi (by simp)⟩, by simp [mkV, Ty.isAgg]⟩
    | own id =>
      rw [tvc_own] at hc
      rw [tvd_own]
      have h := ho id
      simp only [AVok] at hv
      unfold rowOf
      cases hob : objs id with
      | row e t' xs =>
        rw [hob] at hc h hv
        simp only at hc
        subst hc
        simp only [castTo_self]
        simp only [ObjOK] at h
        rw [hv.2 rfl]
        exact ownsRow_rd h.1 h.2
      | tl e t' xs =>
        rw [hob] at hc h hv
        simp only at hc
        subst hc
        simp only [castTo_self]
        simp only [ObjOK] at h
        rw [hv.2 rfl]
        exact h.rd
      | sd te t' xs =>
        rw [hob] at hc h hv
        simp only at hc
        subst hc
        simp only [castTo_self]
        simp only [ObjOK] at h
        rw [hv.2 rfl]
        exact ownsRow_rd h.1.row h.1.2.2.1
      | _ => rw [hob] at hc; exact hc.elim
    | _ => simp only [tvc] at hc
  | nil =>
    intro av v hc hv
    cases av with
    | rd t' x => exact hrd _ _ _ _ hc hv
    | agg cs =>
      cases cs with
      | nil =>
        simp only [AVok, AVsOk] at hv
        obtain ⟨arr, h1, h2⟩ := hv
        subst h2
        exact ⟨[], rfl, by rw [h1]; rfl⟩
      | cons c cs => simp only [tvc] at hc
    | _ => simp only [tvc] at hc
  | cons h t ih1 ih2 =>
    intro av v hc hv
    cases av with
    | rd t' x => exact hrd _ _ _ _ hc hv
    | agg cs =>
      cases cs with
      | nil => simp only [tvc] at hc
      | cons c cs =>
        rw [tvc_agg] at hc
        obtain ⟨hf, hc1, hc2⟩ := hc
        simp only [AVok, AVsOk] at hv
        obtain ⟨arr, h1, v0, r, h2, h3, h4⟩ := hv
        subst h2
        have a1 := Rd_of_V hf (ih1 c v0 hc1 h3)
        have a2 := ih2 (.agg cs) (.agg r.toArray) hc2 (by simp only [AVok]; exact ⟨r, rfl, h4⟩)
        obtain ⟨cs2, b1, b2⟩ := a2
        rw [tvd_agg]
        have hag : ∀ (t : Ty) (av : AV) (l : List AV), av = .agg l → tvc objs t av → t.isAgg = true := by
          intro t av l he hc
          subst he
          cases t <;> first | rfl | (exfalso; simp only [tvc] at hc; done)
        have e2 : cs2 = r := by
          have hg := hag t (.agg cs) cs rfl hc2
          unfold mkV at b2
          rw [if_pos hg] at b2
          injection b2 with b2
          have := congrArg Array.toList b2
          simpa using this.symm
        subst e2
        refine ⟨v0 :: cs2, ⟨[v0], cs2, rfl, a1, b1⟩, ?_⟩
        rw [h1]
        simp [mkV, Ty.isAgg]
    | _ => simp only [tvc] at hc
end
end Go.AL
/- Operations that only compute, each with its soundness. A general part, over any program. -/
set_option linter.unusedSimpArgs false
set_option linter.unusedVariables false
namespace Go.AL
open Go.RowKit

/-! ### What an operation gives ('pv') and what it asks ('pc') -/

def St.un (σ : St) (x : Operand) : AV := (σ.ev x).un
def St.uc (σ : St) (x : Operand) : Prop := (σ.ev x).uc
def St.tv (σ : St) (t : Ty) (x : Operand) : t.den := tvd σ.objs t (σ.un x)
def St.tc (σ : St) (t : Ty) (x : Operand) : Prop := σ.uc x ∧ tvc σ.objs t (σ.un x)

def St.ti (σ : St) (k : IntKind) (x : Operand) : Int := σ.tv (.int k) x
def St.tb (σ : St) (x : Operand) : Bool := σ.tv .bool x
def St.ts (σ : St) (x : Operand) : ByteArray := σ.tv .str x

def fldT : Ty → Nat → Ty
  | .cons h _, 0 => h
  | .cons _ t, i + 1 => fldT t i
  | t, _ => t

def fldD : (t : Ty) → t.den → (i : Nat) → (fldT t i).den
  | .cons _ _, x, 0 => x.1
  | .cons _ t, x, i + 1 => fldD t x.2 i
  | .int _, x, _ => x
  | .bool, x, _ => x
  | .str, x, _ => x
  | .list _, x, _ => x
  | .nil, x, _ => x

def Ty.nf : Ty → Nat
  | .cons _ t => t.nf + 1
  | _ => 0

def bitI (op : BinOp) (k : IntKind) (x y : Int) : Int :=
  match op with
  | .and => k.wrap (BitVec.ofInt k.bits x &&& BitVec.ofInt k.bits y).toNat
  | .or => k.wrap (BitVec.ofInt k.bits x ||| BitVec.ofInt k.bits y).toNat
  | _ => k.wrap (BitVec.ofInt k.bits x ^^^ BitVec.ofInt k.bits y).toNat
theorem fdiv_in {k : IntKind} {x : Int} (n : Nat) (h : k.min ≤ x ∧ x ≤ k.max) : k.min ≤ x.fdiv (2 ^ n) ∧ x.fdiv (2 ^ n) ≤ k.max := by
  have h0 : k.min ≤ 0 ∧ 0 ≤ k.max := by cases k <;> simp [IntKind.min, IntKind.max, IntKind.signed, IntKind.bits]
  have hp : (0 : Int) < 2 ^ n := Int.pow_pos (by decide)
  rw [Int.fdiv_eq_ediv_of_nonneg _ (Int.le_of_lt hp)]
  rcases Int.le_total 0 x with hx | hx
  · have h1 : 0 ≤ x / 2 ^ n := Int.ediv_nonneg hx (Int.le_of_lt hp)
    have h2 : x / 2 ^ n ≤ x := Int.ediv_le_self _ hx
    omega
  · have h1 : x ≤ x / 2 ^ n := (Int.le_ediv_iff_mul_le hp).2 (by
      have h9 := Int.mul_le_mul_of_nonpos_left hx (show (1 : Int) ≤ 2 ^ n from hp)
      omega)
    have h2 : x / 2 ^ n < 1 := (Int.ediv_lt_iff_lt_mul hp).2 (by omega)
    omega
def bopI (op : BinOp) (k : IntKind) (x y : Int) : AV :=
  match op with
  | .add => .rd (.int k) (k.wrap (x + y))
  | .sub => .rd (.int k) (k.wrap (x - y))
  | .mul => .rd (.int k) (k.wrap (x * y))
  | .quo => .rd (.int k) (k.wrap (x.tdiv y))
  | .rem => .rd (.int k) (x.tmod y)
  | .eql => .rd .bool (x == y)
  | .neq => .rd .bool (x != y)
  | .lss => .rd .bool (decide (x < y))
  | .leq => .rd .bool (decide (x ≤ y))
  | .gtr => .rd .bool (decide (x > y))
  | .geq => .rd .bool (decide (x ≥ y))
  | .shl => .rd (.int k) (k.wrap (x * 2 ^ (min y.toNat k.bits)))
  | .shr => .rd (.int k) (x.fdiv (2 ^ (min y.toNat k.bits)))
  | .and => .rd (.int k) (bitI .and k x y)
  | .or => .rd (.int k) (bitI .or k x y)
  | .xor => .rd (.int k) (bitI .xor k x y)
  | _ => .any

def bopC (op : BinOp) (y : Int) : Prop :=
  match op with
  | .add | .sub | .mul | .eql | .neq | .lss | .leq | .gtr | .geq | .and | .or | .xor => True
  | .quo | .rem => y ≠ 0
  | .shl => 0 ≤ y
  | .shr => 0 ≤ y
  | _ => False

section
variable {P : Program} {cx : Cx} {σ : St}

theorem un_ok {a : Act} {w : World} {lim : Nat → Nat} {G : Nat → Rt} (hf : Fr cx σ a w lim G) (x : Operand) (hc : σ.uc x) : AVok w lim G σ.objs (σ.un x) (a.eval x) :=
  (ev_ok hf x).un hc

theorem tc_ok {a : Act} {w : World} {lim : Nat → Nat} {G : Nat → Rt} (hh : Hp cx σ.objs w lim G) (hf : Fr cx σ a w lim G) {t : Ty} {x : Operand} (hc : σ.tc t x) : RdV w lim t (a.eval x) (σ.tv t x) :=
  tv_ok hh.obj t _ _ hc.2 (un_ok hf x hc.1)

theorem RdV.int {w : World} {lim : Nat → Nat} {k : IntKind} {v : Value} {n : Int} (h : RdV w lim (.int k) v n) : v = .int k n ∧ k.min ≤ n ∧ n ≤ k.max := by
  obtain ⟨cs, ⟨h1, h2⟩, h3⟩ := h
  subst h1
  exact ⟨h3, h2⟩
theorem RdV.bool {w : World} {lim : Nat → Nat} {v : Value} {b : Bool} (h : RdV w lim .bool v b) : v = .bool b := by
  obtain ⟨cs, h1, h3⟩ := h
  have h1 : cs = [.bool b] := h1
  subst h1
  exact h3
theorem RdV.str {w : World} {lim : Nat → Nat} {v : Value} {s : ByteArray} (h : RdV w lim .str v s) : v = .string s ∧ s.size ≤ maxLen := by
  obtain ⟨cs, ⟨h1, h2⟩, h3⟩ := h
  subst h1
  exact ⟨h3, h2⟩
theorem RdV.mk_int {w : World} {lim : Nat → Nat} {k : IntKind} {n : Int} (h : k.min ≤ n ∧ n ≤ k.max) : RdV w lim (.int k) (.int k n) n := ⟨[.int k n], ⟨rfl, h⟩, rfl⟩
theorem RdV.mk_bool {w : World} {lim : Nat → Nat} {b : Bool} : RdV w lim .bool (.bool b) b := ⟨[.bool b], rfl, rfl⟩
theorem RdV.list {w : World} {lim : Nat → Nat} {t : Ty} {v : Value} {xs : List t.den} (h : RdV w lim (.list t) v xs) :
    ∃ A cap, v = .slice A xs.length cap ∧ xs.length ≤ cap ∧ cap ≤ maxLen ∧ ∀ i (h : i < xs.length), ∃ a ds, A = some a ∧ At w lim (a.add (i * t.size)) ds ∧ ds.length = t.size ∧ Rd w lim t ds xs[i] := by
  obtain ⟨cs, ⟨A, cap, h1, h2⟩, h3⟩ := h
  subst h1
  exact ⟨A, cap, h3, h2⟩

theorem tc_int {a : Act} {w : World} {lim : Nat → Nat} {G : Nat → Rt} (hh : Hp cx σ.objs w lim G) (hf : Fr cx σ a w lim G) {k : IntKind} {x : Operand} (hc : σ.tc (.int k) x) : a.eval x = .int k (σ.ti k x) ∧ k.min ≤ σ.ti k x ∧ σ.ti k x ≤ k.max :=
  (tc_ok hh hf hc).int
theorem tc_bool {a : Act} {w : World} {lim : Nat → Nat} {G : Nat → Rt} (hh : Hp cx σ.objs w lim G) (hf : Fr cx σ a w lim G) {x : Operand} (hc : σ.tc .bool x) : a.eval x = .bool (σ.tb x) :=
  (tc_ok hh hf hc).bool
theorem tc_str {a : Act} {w : World} {lim : Nat → Nat} {G : Nat → Rt} (hh : Hp cx σ.objs w lim G) (hf : Fr cx σ a w lim G) {x : Operand} (hc : σ.tc .str x) : a.eval x = .string (σ.ts x) ∧ (σ.ts x).size ≤ maxLen :=
  (tc_ok hh hf hc).str

variable {o : Oper} (hd : ∀ k, o.dst = some k → k < cx.N)
include hd

theorem op_move {x : Operand} (ho : o.op = .move x) : OpOK P cx σ o ⟨σ.ev x, []⟩ :=
  OpOK.of_value hd fun a w lim G _ hf => ⟨a.eval x, by simp [execOp, ho], ev_ok hf x⟩

theorem op_assign {x : Operand} (ho : o.op = .assign x) : OpOK P cx σ o ⟨σ.ev x, []⟩ :=
  OpOK.of_value hd fun a w lim G _ hf => ⟨a.eval x, by simp [execOp, ho], ev_ok hf x⟩

theorem op_pick {c x y : Operand} (ho : o.op = .pick c x y) (hc : σ.tc .bool c) (hx : σ.tb c = true → σ.tc .bool x) (hy : σ.tb c = false → σ.tc .bool y) :
    OpOK P cx σ o ⟨.rd .bool (bif σ.tb c then σ.tb x else σ.tb y), []⟩ :=
  OpOK.of_value hd fun a w lim G hh hf => by
    have h1 := (tc_bool hh hf hc)
    refine ⟨if σ.tb c = true then a.eval x else a.eval y, by simp [execOp, ho, h1, asBool], ?_⟩
    simp only [AVok]
    cases hb : σ.tb c with
    | true => simp only [cond_true, if_true]; exact tc_ok hh hf (hx hb)
    | false => simp only [cond_false, Bool.false_eq_true, if_false]; exact tc_ok hh hf (hy hb)

theorem op_bin_int {op : BinOp} {T : TypeId} {x y : Operand} {T' : TypeId} {k : IntKind} (ho : o.op = .binOp op T x y T') (hx : σ.tc (.int k) x) (hy : σ.tc (.int k) y) (hc : bopC op (σ.ti k y)) (hs : op ≠ .shl) (hs2 : op ≠ .shr) :
    OpOK P cx σ o ⟨bopI op k (σ.ti k x) (σ.ti k y), []⟩ :=
  OpOK.of_value hd fun a w lim G hh hf => by
    obtain ⟨h1, r1⟩ := (tc_int hh hf hx)
    obtain ⟨h2, r2⟩ := (tc_int hh hf hy)
    generalize σ.ti k x = m at *
    generalize σ.ti k y = n at *
    simp only [execOp, ho, h1, h2]
    cases op <;> simp only [bopC] at hc <;> simp [eqGuard, binOp, Op.intArith, Op.intDiv, Op.intCmp, Op.intBits, bopI, bitI, hc, AVok] <;>
      first
        | exact RdV.mk_bool
        | exact RdV.mk_int (wrap_in _ _)
        | exact RdV.mk_int (tmod_in _ _ _ r1)
        | exact absurd rfl hs
        | exact absurd rfl hs2

theorem op_shl {T : TypeId} {x y : Operand} {T' : TypeId} {k k' : IntKind} (ho : o.op = .binOp .shl T x y T') (hx : σ.tc (.int k) x) (hy : σ.tc (.int k') y) (hc : 0 ≤ σ.ti k' y) :
    OpOK P cx σ o ⟨bopI .shl k (σ.ti k x) (σ.ti k' y), []⟩ :=
  OpOK.of_value hd fun a w lim G hh hf => by
    obtain ⟨h1, r1⟩ := (tc_int hh hf hx)
    obtain ⟨h2, r2⟩ := (tc_int hh hf hy)
    have hn : ¬ σ.ti k' y < 0 := Int.not_lt.mpr hc
    refine ⟨.int k (k.wrap (σ.ti k x * 2 ^ (min (σ.ti k' y).toNat k.bits))), ?_, ?_⟩
    · simp [execOp, ho, h1, h2, eqGuard, binOp, Op.shift, hn]
    · simp only [bopI, AVok]
      exact RdV.mk_int (wrap_in _ _)

theorem op_shr {T : TypeId} {x y : Operand} {T' : TypeId} {k k' : IntKind} (ho : o.op = .binOp .shr T x y T') (hx : σ.tc (.int k) x) (hy : σ.tc (.int k') y) (hc : 0 ≤ σ.ti k' y) :
    OpOK P cx σ o ⟨bopI .shr k (σ.ti k x) (σ.ti k' y), []⟩ :=
  OpOK.of_value hd fun a w lim G hh hf => by
    obtain ⟨h1, r1⟩ := (tc_int hh hf hx)
    obtain ⟨h2, r2⟩ := (tc_int hh hf hy)
    have hn : ¬ σ.ti k' y < 0 := Int.not_lt.mpr hc
    refine ⟨.int k ((σ.ti k x).fdiv (2 ^ (min (σ.ti k' y).toNat k.bits))), ?_, ?_⟩
    · simp [execOp, ho, h1, h2, eqGuard, binOp, Op.shift, hn]
    · simp only [bopI, AVok]
      exact RdV.mk_int (fdiv_in _ r1)

theorem op_bin_bool {op : BinOp} {T : TypeId} {x y : Operand} {T' : TypeId} (ho : o.op = .binOp op T x y T') (hT : TyOK P .bool T) (hx : σ.tc .bool x) (hy : σ.tc .bool y) (hs : op = .eql ∨ op = .neq) :
    OpOK P cx σ o ⟨.rd .bool (match op with | .eql => σ.tb x == σ.tb y | _ => σ.tb x != σ.tb y), []⟩ :=
  OpOK.of_value hd fun a w lim G hh hf => by
    have h1 := (tc_bool hh hf hx)
    have h2 := (tc_bool hh hf hy)
    simp only [TyOK] at hT
    have he0 : ∀ (d : Nat) (x y : Bool), (Op.equalIn (d + 1) T (.bool x) (.bool y)).run P w = .ok (x == y) w := fun d x y => by
      simp [Op.equalIn, run_underlying hT.1]
    have he : (Op.equal T (.bool (σ.tb x)) (.bool (σ.tb y))).run P w = .ok (σ.tb x == σ.tb y) w := he0 9999 _ _
    refine ⟨.bool (match op with | .eql => σ.tb x == σ.tb y | _ => σ.tb x != σ.tb y), ?_, ?_⟩
    · rcases hs with rfl | rfl <;> simp [execOp, ho, h1, h2, eqGuard, binOp, he] <;> first | rfl | (cases σ.tb x <;> cases σ.tb y <;> rfl)
    · simp only [AVok]; exact RdV.mk_bool

theorem op_bin_str {op : BinOp} {T : TypeId} {x y : Operand} {T' : TypeId} (ho : o.op = .binOp op T x y T') (hx : σ.tc .str x) (hy : σ.tc .str y) (hs : op = .eql ∨ op = .neq) :
    OpOK P cx σ o ⟨.rd .bool (match op with | .eql => (σ.ts x).toList == (σ.ts y).toList | _ => !((σ.ts x).toList == (σ.ts y).toList)), []⟩ :=
  OpOK.of_value hd fun a w lim G hh hf => by
    have h1 := (tc_str hh hf hx).1
    have h2 := (tc_str hh hf hy).1
    refine ⟨.bool (match op with | .eql => (σ.ts x).toList == (σ.ts y).toList | _ => !((σ.ts x).toList == (σ.ts y).toList)), ?_, ?_⟩
    · rcases hs with rfl | rfl <;> simp [execOp, ho, h1, h2, eqGuard, binOp, Op.stringOp]
    · simp only [AVok]; exact RdV.mk_bool

theorem op_not {T : TypeId} {x : Operand} (ho : o.op = .unOp .not T x) (hx : σ.tc .bool x) : OpOK P cx σ o ⟨.rd .bool (!σ.tb x), []⟩ :=
  OpOK.of_value hd fun a w lim G hh hf => by
    have h1 := (tc_bool hh hf hx)
    refine ⟨.bool (!σ.tb x), by simp [execOp, ho, h1, Op.unary], ?_⟩
    simp only [AVok]; exact RdV.mk_bool

theorem op_conv {S T : TypeId} {x : Operand} {k k' : IntKind} (ho : o.op = .convert S T x) (hS : TyOK P (.int k) S) (hT : TyOK P (.int k') T) (hx : σ.tc (.int k) x) :
    OpOK P cx σ o ⟨.rd (.int k') (k'.wrap (σ.ti k x)), []⟩ :=
  OpOK.of_value hd fun a w lim G hh hf => by
    have h1 := (tc_int hh hf hx).1
    simp only [TyOK] at hS hT
    refine ⟨.int k' (k'.wrap (σ.ti k x)), ?_, ?_⟩
    · simp [execOp, ho, h1, convert, run_underlying hS.1, run_underlying hT.1, Conv.intToInt]
    · simp only [AVok]; exact RdV.mk_int (wrap_in _ _)

theorem op_len {x : Operand} {T : TypeId} {t : Ty} (ho : o.op = .call { callee := .builtin .len, args := #[x], argTypes := #[T] }) (hT : TyOK P (.list t) T) (hx : σ.tc (.list t) x) :
    OpOK P cx σ o ⟨.rd (.int .i64) ((σ.tv (.list t) x).length : Int), []⟩ :=
  OpOK.of_value hd fun a w lim G hh hf => by
    obtain ⟨A, cap, h1, h2, h3, _⟩ := (tc_ok hh hf hx).list
    simp only [TyOK] at hT
    obtain ⟨e, hT, _⟩ := hT
    refine ⟨goInt ((σ.tv (.list t) x).length : Int), ?_, ?_⟩
    · simp [execOp, ho, h1, resolve, invoke, builtin, Builtin.len_, run_underlying hT]
    · simp only [AVok]
      refine RdV.mk_int ?_
      simp [IntKind.min, IntKind.max, IntKind.signed, IntKind.bits]
      simp [maxLen] at h3
      omega

theorem op_len_str {x : Operand} {T : TypeId} (ho : o.op = .call { callee := .builtin .len, args := #[x], argTypes := #[T] }) (hT : TyOK P .str T) (hx : σ.tc .str x) :
    OpOK P cx σ o ⟨.rd (.int .i64) ((σ.ts x).size : Int), []⟩ :=
  OpOK.of_value hd fun a w lim G hh hf => by
    obtain ⟨h1, h3⟩ := (tc_str hh hf hx)
    simp only [TyOK] at hT
    refine ⟨goInt ((σ.ts x).size : Int), ?_, ?_⟩
    · simp [execOp, ho, h1, resolve, invoke, builtin, Builtin.len_, run_underlying hT.1]
    · simp only [AVok]
      refine RdV.mk_int ?_
      simp [IntKind.min, IntKind.max, IntKind.signed, IntKind.bits]
      simp [maxLen] at h3
      omega

theorem op_min {x y : Operand} {ts : Array TypeId} (ho : o.op = .call { callee := .builtin .min, args := #[x, y], argTypes := ts }) {k : IntKind} (hx : σ.tc (.int k) x) (hy : σ.tc (.int k) y) :
    OpOK P cx σ o ⟨.rd (.int k) (if σ.ti k y < σ.ti k x then σ.ti k y else σ.ti k x), []⟩ :=
  OpOK.of_value hd fun a w lim G hh hf => by
    obtain ⟨h1, r1⟩ := (tc_int hh hf hx)
    obtain ⟨h2, r2⟩ := (tc_int hh hf hy)
    refine ⟨.int k (if σ.ti k y < σ.ti k x then σ.ti k y else σ.ti k x), ?_, ?_⟩
    · simp [execOp, ho, h1, h2, resolve, invoke, builtin, Builtin.min_, Builtin.min2]
    · simp only [AVok]
      refine RdV.mk_int ?_
      split <;> assumption

theorem op_max {x y : Operand} {ts : Array TypeId} (ho : o.op = .call { callee := .builtin .max, args := #[x, y], argTypes := ts }) {k : IntKind} (hx : σ.tc (.int k) x) (hy : σ.tc (.int k) y) :
    OpOK P cx σ o ⟨.rd (.int k) (if σ.ti k y > σ.ti k x then σ.ti k y else σ.ti k x), []⟩ :=
  OpOK.of_value hd fun a w lim G hh hf => by
    obtain ⟨h1, r1⟩ := (tc_int hh hf hx)
    obtain ⟨h2, r2⟩ := (tc_int hh hf hy)
    refine ⟨.int k (if σ.ti k y > σ.ti k x then σ.ti k y else σ.ti k x), ?_, ?_⟩
    · simp [execOp, ho, h1, h2, resolve, invoke, builtin, Builtin.max_, Builtin.max2]
    · simp only [AVok]
      refine RdV.mk_int ?_
      split <;> assumption

end
end Go.AL
/- Objects that a call owns: new ones, turned ones, given-up ones. A general part, over any program. -/
set_option linter.unusedSimpArgs false
set_option linter.unusedVariables false
namespace Go.AL
open Go.RowKit

section
variable {cx : Cx} {objs : Nat → AObj} {w w' : World} {lim lim' : Nat → Nat} {G : Nat → Rt}

theorem upd_live_other {id i : Nat} (o : AObj) (h : i ≠ id) : (upd objs id o) i = objs i := upd_ne _ _ _ _ h

theorem Ext.kill (id : Nat) : Ext G objs G (upd objs id .dead) := by
  intro i hb
  by_cases e : i = id
  · subst e; rw [upd_same]; exact ⟨rfl, fun h => by cases h⟩
  · rw [upd_ne _ _ _ _ e]; exact ⟨hb, fun h => ⟨h, rfl⟩⟩

theorem Hp.kill (h : Hp cx objs w lim G) (id : Nat) : Hp cx (upd objs id .dead) w lim G := by
  refine ⟨h.start, h.below, h.lim0, fun i => ?_, fun i j g hij hi hj => ?_, fun i g hi hg => ?_, fun j r hr => ?_, fun j r hr => by by_cases e : j = id; (subst e; rw [upd_same]; rfl); (rw [upd_ne _ _ _ _ e]; exact h.nob j r hr)⟩
  · by_cases e : i = id
    · subst e; rw [upd_same]; simp only [ObjOK]
    · rw [upd_ne _ _ _ _ e]
      exact (h.obj i).keeps (Keeps.refl w lim) (Ext.kill id) fun g _ => ⟨rfl, rfl⟩
  · have e1 : i ≠ id := by rintro rfl; rw [upd_same] at hi; cases hi
    have e2 : j ≠ id := by rintro rfl; rw [upd_same] at hj; cases hj
    rw [upd_ne _ _ _ _ e1] at hi ⊢
    rw [upd_ne _ _ _ _ e2] at hj ⊢
    exact h.sep i j g hij hi hj
  · have e1 : i ≠ id := by rintro rfl; rw [upd_same] at hi; cases hi
    rw [upd_ne _ _ _ _ e1] at hi hg
    exact h.mine i g hi hg
  · obtain ⟨h1, h2⟩ := h.lent j r hr
    refine ⟨?_, h2⟩
    by_cases e : j = id
    · subst e; rw [upd_same]; rfl
    · rw [upd_ne _ _ _ _ e]; exact h1

theorem Ext.new {id : Nat} (hu : objs id = .unborn) (r : Rt) (o : AObj) : Ext G objs (upd G id r) (upd objs id o) := by
  intro i hb
  have e : i ≠ id := by rintro rfl; rw [hu] at hb; cases hb
  rw [upd_ne _ _ _ _ e, upd_ne _ _ _ _ e]
  exact ⟨hb, fun h => ⟨h, rfl⟩⟩

theorem Hp.new (h : Hp cx objs w lim G) {id : Nat} (hu : objs id = .unborn) {r : Rt} {o : AObj} (hb : BelowL cx.L cx.B cx.w0 w') (hk : Keeps w lim w' lim')
    (hold : ∀ i g, (objs i).live = true → Blk (objs i) (G i) g → w'.heap[g]? = w.heap[g]? ∧ lim' g = lim g) (hlim : ∀ b, b < cx.B → ¬ cx.L b → lim' b = lim b)
    (hsep : ∀ i g, (objs i).live = true → Blk (objs i) (G i) g → ¬ Blk o r g) (hmine : ∀ g, Blk o r g → cx.B ≤ g ∨ cx.L g) (hobj : ObjOK w' lim' (upd G id r) (upd objs id o) 0 r o) :
    Hp cx (upd objs id o) w' lim' (upd G id r) := by
  refine ⟨h.start, hb, fun b hlt hL => (hlim b hlt hL).trans (h.lim0 b hlt hL), fun i => ?_, fun i j g hij hi hj hg => ?_, fun i g hi hg => ?_, fun j q hq => ?_, fun j q hq => by rw [upd_ne _ _ _ _ (by rintro rfl; have := (h.lent j q hq).1; rw [hu] at this; cases this)]; exact h.nob j q hq⟩
  rotate_left 2
  · by_cases e : i = id
    · subst e; rw [upd_same, upd_same] at hg; exact hmine g hg
    · rw [upd_ne _ _ _ _ e] at hi; rw [upd_ne _ _ _ _ e, upd_ne _ _ _ _ e] at hg; exact h.mine i g hi hg
  · obtain ⟨h1, h2⟩ := h.lent j q hq
    have e : j ≠ id := by rintro rfl; rw [hu] at h1; cases h1
    rw [upd_ne _ _ _ _ e, upd_ne _ _ _ _ e]
    exact ⟨h1, h2⟩
  · by_cases e : i = id
    · subst e; rw [upd_same, upd_same]; exact hobj
    · rw [upd_ne _ _ _ _ e, upd_ne _ _ _ _ e]
      cases hl : (objs i).live with
      | true => exact (h.obj i).keeps hk (Ext.new hu r o) fun g hg => hold i g hl hg
      | false =>
        cases ho : objs i <;> rw [ho] at hl <;> first | (simp only [ObjOK]; done) | cases hl
  · by_cases e : i = id
    · subst e
      have e2 : j ≠ i := fun k => hij k.symm
      rw [upd_same, upd_same] at hg
      rw [upd_ne _ _ _ _ e2] at hj
      rw [upd_ne _ _ _ _ e2, upd_ne _ _ _ _ e2]
      intro hgj
      exact hsep j g hj hgj hg
    · rw [upd_ne _ _ _ _ e] at hi
      rw [upd_ne _ _ _ _ e, upd_ne _ _ _ _ e] at hg
      by_cases e2 : j = id
      · subst e2
        rw [upd_same, upd_same]
        exact hsep i g hi hg
      · rw [upd_ne _ _ _ _ e2] at hj
        rw [upd_ne _ _ _ _ e2, upd_ne _ _ _ _ e2]
        exact h.sep i j g hij hi hj hg

/-- The world moves on, nothing that is owned turns. -/
theorem Hp.world (h : Hp cx objs w lim G) (hb : Below w.heap.size w w') (hl : ∀ b, b < w.heap.size → lim' b = lim b) : Hp cx objs w' lim' G ∧ Keeps w lim w' lim' := by
  have hk : Keeps w lim w' lim' := ⟨fun a u hc _ => by rw [hb.cell (p := a) (World.block_lt_of_cell? _ _ hc)]; exact hc, fun b hlt => by rw [hl b hlt]; exact Nat.le_refl _⟩
  have hB : cx.B ≤ w.heap.size := by rw [h.start]; exact h.below.size
  refine ⟨⟨h.start, h.below.trans (.of cx.L (hb.mono hB)), fun b hlt hL => (hl b (Nat.lt_of_lt_of_le hlt hB)).trans (h.lim0 b hlt hL), fun i => ?_, h.sep, h.mine, h.lent, h.nob⟩, hk⟩
  cases hlv : (objs i).live with
  | true =>
    refine (h.obj i).keeps hk (Ext.refl _ _) fun g hg => ?_
    have := ((h.obj i).block_ge hlv g hg).2
    exact ⟨hb.block g this, hl g this⟩
  | false => cases ho : objs i <;> rw [ho] at hlv <;> first | (simp only [ObjOK]; done) | cases hlv

/-- An owned object is turned where it lies. -/
theorem Hp.set (h : Hp cx objs w lim G) {id : Nat} {o : AObj} (hlv : (objs id).live = true) (hb : BelowL cx.L cx.B cx.w0 w') (hk : Keeps w lim w' lim')
    (hold : ∀ i g, i ≠ id → (objs i).live = true → Blk (objs i) (G i) g → w'.heap[g]? = w.heap[g]? ∧ lim' g = lim g) (hlim : ∀ b, b < cx.B → ¬ cx.L b → lim' b = lim b)
    (hobj : ObjOK w' lim' G (upd objs id o) 0 (G id) o) (hl : o.live = true) (hfp : ∀ g, Blk o (G id) g → Blk (objs id) (G id) g) (hnb : o.isBld = true → (objs id).isBld = true) :
    Hp cx (upd objs id o) w' lim' G ∧ Ext G objs G (upd objs id o) := by
  have he : Ext G objs G (upd objs id o) := by
    intro i hbn
    by_cases e : i = id
    · subst e; rw [upd_same]; exact ⟨AObj.born_of_live hl, fun _ => ⟨hlv, rfl⟩⟩
    · rw [upd_ne _ _ _ _ e]; exact ⟨hbn, fun h => ⟨h, rfl⟩⟩
  have f : ∀ k, ((upd objs id o) k).live = true → (objs k).live = true := by
    intro k hk
    by_cases e : k = id
    · subst e; exact hlv
    · rwa [upd_ne _ _ _ _ e] at hk
  have fb : ∀ k g, Blk ((upd objs id o) k) (G k) g → Blk (objs k) (G k) g := by
    intro k g hk
    by_cases e : k = id
    · subst e; rw [upd_same] at hk; exact hfp g hk
    · rwa [upd_ne _ _ _ _ e] at hk
  refine ⟨⟨h.start, hb, fun b hlt hL => (hlim b hlt hL).trans (h.lim0 b hlt hL), fun i => ?_, fun i j g hij hi hj hg hg' => h.sep i j g hij (f i hi) (f j hj) (fb i g hg) (fb j g hg'), fun i g hi hg => h.mine i g (f i hi) (fb i g hg), fun j q hq => ⟨(he j (h.lent j q hq).1).1, (h.lent j q hq).2⟩, fun j q hq => by
    have hj := h.nob j q hq
    by_cases e : j = id
    · subst e
      rw [upd_same]
      cases hb : o.isBld with
      | false => rfl
      | true => rw [hnb hb] at hj; cases hj
    · rw [upd_ne _ _ _ _ e]; exact hj⟩, he⟩
  · by_cases e : i = id
    · subst e; rw [upd_same]; exact hobj
    · rw [upd_ne _ _ _ _ e]
      cases hl : (objs i).live with
      | true => exact (h.obj i).keeps hk he fun g hg => hold i g e hl hg
      | false => cases ho : objs i <;> rw [ho] at hl <;> first | (simp only [ObjOK]; done) | cases hl

/-- A new block. -/
theorem keeps_alloc (o : Obj) (n : Nat) : Keeps w lim (w.alloc o) (upd lim w.heap.size n) :=
  ⟨fun a u hc _ => by rw [World.cell?_alloc_lt w o a (World.block_lt_of_cell? _ _ hc)]; exact hc, fun b hb => by rw [upd_ne _ _ _ _ (Nat.ne_of_lt hb)]; exact Nat.le_refl _⟩

theorem Hp.alloc (h : Hp cx objs w lim G) {id : Nat} (hu : objs id = .unborn) {r : Rt} {o : AObj} (ob : Obj) (n : Nat) (hr : ∀ g, Blk o r g → g = w.heap.size)
    (hobj : ObjOK (w.alloc ob) (upd lim w.heap.size n) (upd G id r) (upd objs id o) 0 r o) :
    Hp cx (upd objs id o) (w.alloc ob) (upd lim w.heap.size n) (upd G id r) := by
  have hB : cx.B ≤ w.heap.size := by rw [h.start]; exact h.below.size
  refine h.new hu (h.below.trans (.of cx.L ((Below.refl cx.B w).alloc hB ob))) (keeps_alloc ob n) (fun i g hl hg => ?_) (fun b hb _ => upd_ne _ _ _ _ (by omega)) (fun i g hl hg => ?_) (fun g hg => .inl (by have := hr g hg; omega)) hobj
  · have hlt := ((h.obj i).block_ge hl g hg).2
    exact ⟨Below.heap_alloc w ob g hlt, upd_ne _ _ _ _ (Nat.ne_of_lt hlt)⟩
  · have hlt := ((h.obj i).block_ge hl g hg).2
    intro e
    have := hr g e
    omega
end

/-! ### Boxes -/

def Ty.zeros : Ty → List AV
  | .int k => [.rd (.int k) 0]
  | .bool => [.rd .bool false]
  | .str => [.rd .str ByteArray.empty]
  | .list _ => [.nils]
  | .nil => []
  | .cons h t => h.zeros ++ t.zeros

def explode : (t : Ty) → t.den → List AV
  | .nil, _ => []
  | .cons h t, x => .rd h x.1 :: explode t x.2
  | .int k, x => [.rd (.int k) x]
  | .bool, x => [.rd .bool x]
  | .str, x => [.rd .str x]
  | .list t, x => [.rd (.list t) x]

def Ty.flats : Ty → Bool
  | .cons h t => h.flat1 && t.flats
  | _ => true

/-- The cells of a value that goes into a variable of type t. -/
def cellsAV : AV → List AV
  | .agg cs => cs
  | .rd t' x => explode t' x
  | a => [a]

/-- Surely one cell. -/
def oneC (objs : Nat → AObj) : AV → Prop
  | .rd t' _ => t'.flat1 = true
  | .nils => True
  | .own id => (objs id).live = true
  | _ => False

def onesC (objs : Nat → AObj) : List AV → Prop
  | [] => True
  | a :: r => oneC objs a ∧ onesC objs r

def cellsC (objs : Nat → AObj) (t : Ty) : AV → Prop
  | .agg cs => t.isAgg = true ∧ cs.length = t.size ∧ onesC objs cs
  | .rd t' _ => t' = t ∧ t.flats = true
  | .nils => t.flat1 = true
  | .own id => t.flat1 = true ∧ (objs id).live = true
  | _ => False

section
variable {w : World} {lim : Nat → Nat} {G : Nat → Rt} {objs : Nat → AObj}
theorem explode_ok : ∀ (t : Ty) (x : t.den) (cs : List Value), t.flats = true → Rd w lim t cs x → AVsOk w lim G objs (explode t x) cs
  | .nil, x, cs, _, h => by simp only [explode, AVsOk]; exact h
  | .cons h t, x, cs, hf, hr => by
    simp only [Ty.flats, Bool.and_eq_true] at hf
    obtain ⟨c1, c2, e, h1, h2⟩ := hr
    have hl := h1.length
    rw [(flat1_size hf.1).1] at hl
    match c1, hl with
    | [c], _ =>
      simp only [explode, AVsOk, AVok]
      exact ⟨c, c2, by rw [e]; rfl, ⟨[c], h1, (mkV_flat hf.1 c).symm⟩, explode_ok t x.2 c2 hf.2 h2⟩
  | .int k, x, cs, _, h => by
    have hl := h.length
    match cs, hl with
    | [c], _ => simp only [explode, AVsOk, AVok]; exact ⟨c, [], rfl, ⟨[c], h, rfl⟩, rfl⟩
  | .bool, x, cs, _, h => by
    have hl := h.length
    match cs, hl with
    | [c], _ => simp only [explode, AVsOk, AVok]; exact ⟨c, [], rfl, ⟨[c], h, rfl⟩, rfl⟩
  | .str, x, cs, _, h => by
    have hl := h.length
    match cs, hl with
    | [c], _ => simp only [explode, AVsOk, AVok]; exact ⟨c, [], rfl, ⟨[c], h, rfl⟩, rfl⟩
  | .list t, x, cs, _, h => by
    have hl := h.length
    match cs, hl with
    | [c], _ => simp only [explode, AVsOk, AVok]; exact ⟨c, [], rfl, ⟨[c], h, rfl⟩, rfl⟩

theorem zeros_ok : ∀ t : Ty, AVsOk w lim G objs t.zeros t.zcells
  | .int k => by simp only [Ty.zeros, Ty.zcells, AVsOk, AVok]; exact ⟨_, _, rfl, ⟨_, zcells_rd w lim (.int k), rfl⟩, rfl⟩
  | .bool => by simp only [Ty.zeros, Ty.zcells, AVsOk, AVok]; exact ⟨_, _, rfl, ⟨_, zcells_rd w lim .bool, rfl⟩, rfl⟩
  | .str => by simp only [Ty.zeros, Ty.zcells, AVsOk, AVok]; exact ⟨_, _, rfl, ⟨_, zcells_rd w lim .str, rfl⟩, rfl⟩
  | .list _ => by simp only [Ty.zeros, Ty.zcells, AVsOk, AVok]; exact ⟨_, _, rfl, rfl, rfl⟩
  | .nil => by simp only [Ty.zeros, Ty.zcells, AVsOk]
  | .cons h t => by
    have app : ∀ (l : List AV) (vs : List Value) (l2 : List AV) (vs2 : List Value), AVsOk w lim G objs l vs → AVsOk w lim G objs l2 vs2 → AVsOk w lim G objs (l ++ l2) (vs ++ vs2) := by
      intro l
      induction l with
      | nil => intro vs l2 vs2 h1 h2; simp only [AVsOk] at h1; subst h1; simpa using h2
      | cons a l ih =>
        intro vs l2 vs2 h1 h2
        simp only [AVsOk] at h1
        obtain ⟨v, r, e, h3, h4⟩ := h1
        subst e
        simp only [List.cons_append, AVsOk]
        exact ⟨v, r ++ vs2, rfl, h3, ih r l2 vs2 h4 h2⟩
    exact app _ _ _ _ (zeros_ok h) (zeros_ok t)

theorem root_one {B : Nat} (ho : ∀ id, ObjOK w lim G objs B (G id) (objs id)) {id : Nat} (hl : (objs id).live = true) : (G id).v.oneCell' = true := by
  have h := ho id
  have row : ∀ {e : TypeId} {t : Ty} {xs : List t.den} {r : Value}, RowOK w lim B e t xs r → r.oneCell' = true := by
    intro e t xs r hr
    obtain ⟨vs, ⟨_, h2⟩, _⟩ := hr
    rcases h2 with ⟨h2, _⟩ | ⟨g', cap, cur, hr, _⟩
    · rw [h2]; rfl
    · rw [hr]; rfl
  cases hob : objs id with
  | unborn => rw [hob] at hl; cases hl
  | dead => rw [hob] at hl; cases hl
  | box T cs => rw [hob] at h; simp only [ObjOK] at h; obtain ⟨g, arr, hr, _⟩ := h; rw [hr]; rfl
  | row e t xs => rw [hob] at h; simp only [ObjOK] at h; exact row h.1
  | arr e t xs => rw [hob] at h; simp only [ObjOK] at h; exact row h.1
  | deep te t xs => rw [hob] at h; simp only [ObjOK] at h; exact h.1.1.one _ (by simp)
  | bld te t xs => rw [hob] at h; simp only [ObjOK] at h; exact h.1.1.one _ (by simp)
  | held te t xs i f k => rw [hob] at h; simp only [ObjOK] at h; exact h.1.1.1.one _ (by simp)
  | sd te t xs => rw [hob] at h; simp only [ObjOK] at h; exact h.1.1.one _ (by simp)
  | name d => rw [hob] at h; simp only [ObjOK] at h; exact h
  | tl e t xs =>
    rw [hob] at h; simp only [ObjOK] at h
    obtain ⟨_, h | ⟨g', off, cap, cur, h1, _⟩⟩ := h
    · rw [h.1]; rfl
    · rw [h1]; rfl

theorem oneC_ok {B : Nat} (ho : ∀ id, ObjOK w lim G objs B (G id) (objs id)) {av : AV} {v : Value} (hc : oneC objs av) (h : AVok w lim G objs av v) : v.oneCell' = true := by
  cases av <;> simp only [oneC] at hc
  · simp only [AVok] at h
    obtain ⟨cs, h1, h2⟩ := h
    have hl := h1.length
    rw [(flat1_size hc).1] at hl
    match cs, hl with
    | [c], _ => rw [mkV_flat hc] at h2; rw [h2]; exact h1.one c (by simp)
  · simp only [AVok] at h; rw [h]; rfl
  · simp only [AVok] at h; rw [h.2 hc]; exact root_one ho hc

theorem onesC_ok {B : Nat} (ho : ∀ id, ObjOK w lim G objs B (G id) (objs id)) : ∀ {cs : List AV} {vs : List Value}, onesC objs cs → AVsOk w lim G objs cs vs → ∀ u ∈ vs, u.oneCell' = true
  | [], vs, _, h => by simp only [AVsOk] at h; subst h; simp
  | a :: cs, vs, hc, h => by
    simp only [AVsOk] at h
    obtain ⟨v, r, e, h1, h2⟩ := h
    subst e
    intro u hu
    rcases List.mem_cons.1 hu with rfl | hu
    · exact oneC_ok ho hc.1 h1
    · exact onesC_ok ho hc.2 h2 u hu

/-- The cells of a value, as they go into a variable. -/
theorem cellsC_ok {B : Nat} (ho : ∀ id, ObjOK w lim G objs B (G id) (objs id)) {t : Ty} {av : AV} {v : Value} (hc : cellsC objs t av) (h : AVok w lim G objs av v) :
    AVsOk w lim G objs (cellsAV av) v.cells.toList ∧ v.cells.toList.length = t.size ∧ ∀ u ∈ v.cells.toList, u.oneCell' = true := by
  cases av <;> simp only [cellsC] at hc
  · obtain ⟨rfl, hf⟩ := hc
    simp only [AVok] at h
    have h1 := h.cells.1
    exact ⟨explode_ok _ _ _ hf h1, h1.length, h1.one⟩
  · simp only [AVok] at h
    rw [h]
    refine ⟨?_, by rw [(flat1_size hc).1]; rfl, by simp [Value.cells, Value.oneCell']⟩
    simp only [cellsAV, AVsOk, AVok, Value.cells]
    exact ⟨_, _, rfl, rfl, rfl⟩
  · have h1 := oneC_ok ho (av := .own _) (by simp only [oneC]; exact hc.2) h
    have hv : v.cells = #[v] := by cases v <;> simp_all [Value.cells, Value.oneCell']
    rw [hv]
    refine ⟨?_, by rw [(flat1_size hc.1).1]; rfl, by simpa using h1⟩
    simp only [cellsAV, AVsOk]
    exact ⟨_, _, rfl, h, rfl⟩
  · simp only [AVok] at h
    obtain ⟨arr, h1, h2⟩ := h
    subst h1
    simp only [cellsAV, Value.cells]
    exact ⟨h2, by rw [h2.length]; exact hc.2.1, onesC_ok ho hc.2.2 h2⟩

theorem RdV.notagg {t : Ty} {v : Value} {x : t.den} (h : RdV w lim t v x) : v.cells.toList.length = t.size ∧ ∀ u ∈ v.cells.toList, u.oneCell' = true :=
  ⟨h.cells.1.length, h.cells.1.one⟩
end
end Go.AL
/- Operations on memory, each with its soundness. A general part, over any program. -/
set_option linter.unusedSimpArgs false
set_option linter.unusedVariables false
namespace Go.AL
open Go.RowKit

section
variable {P : Program} {cx : Cx} {σ : St} {o : Oper} (hd : ∀ k, o.dst = some k → k < cx.N)

theorem Hp.B_le {objs : Nat → AObj} {w : World} {lim : Nat → Nat} {G : Nat → Rt} (h : Hp cx objs w lim G) : cx.B ≤ w.heap.size := by rw [h.start]; exact h.below.size

omit hd in
theorem Blk_nil {o : AObj} {r : Value} {g : Nat} (h : Blk o ⟨r, []⟩ g) : blk r = some g := by
  cases o <;> simp only [Blk, List.append_nil] at h <;> first | exact h | exact h.elim | simpa using h

include hd

/-- A new object behind an allocation. -/
theorem OpOK.of_alloc {id : Nat} {ob : AObj} {av : AV} (hu : σ.objs id = .unborn)
    (h : ∀ a w lim G, Hp cx σ.objs w lim G → Fr cx σ a w lim G → ∃ (cells : Array Value) (T : TypeId) (n : Nat) (v r : Value), (execOp a.eval o).run P w = .ok (.value v) (w.alloc (.cells cells T)) ∧ blk r = some w.heap.size ∧
      ObjOK (w.alloc (.cells cells T)) (upd lim w.heap.size n) (upd G id ⟨r, []⟩) (upd σ.objs id ob) 0 ⟨r, []⟩ ob ∧ AVok (w.alloc (.cells cells T)) (upd lim w.heap.size n) (upd G id ⟨r, []⟩) (upd σ.objs id ob) av v) :
    OpOK P cx σ o ⟨av, [(id, ob)]⟩ := by
  intro a w K Q hs hK
  obtain ⟨lim, G, hh, hf⟩ := hs
  obtain ⟨cells, T, n, v, r, h1, h2, h3, h4⟩ := h a w lim G hh hf
  unfold Oper.wp
  rw [h1]
  refine hK _ _ ?_
  have e : σ.app o.dst ⟨av, [(id, ob)]⟩ = ({ σ with objs := upd σ.objs id ob } : St).put o.dst av := by
    unfold St.app St.put
    cases o.dst <;> rfl
  rw [e]
  have f := hf.keeps (keeps_alloc (w := w) (lim := lim) (.cells cells T) n) (Ext.new hu ⟨r, []⟩ ob)
  refine ⟨_, _, ?_, f.put hd h4⟩
  rw [put_objs]
  exact hh.alloc hu _ n (fun g hg => by have := Blk_nil hg; rw [h2] at this; injection this with this; exact this.symm) h3

theorem op_box {T : TypeId} {x : Operand} {id : Nat} {t : Ty} (ho : o.op = .box T x) (hc : σ.uc x) (hx : cellsC σ.objs t (σ.un x)) (hu : σ.objs id = .unborn) :
    OpOK P cx σ o ⟨.bp id 0, [(id, .box T (cellsAV (σ.un x)))]⟩ :=
  OpOK.of_alloc hd hu fun a w lim G hh hf => by
    obtain ⟨h1, h2, h3⟩ := cellsC_ok hh.obj hx (un_ok hf x hc)
    refine ⟨(a.eval x).cells, T, 0, .pointer (some ⟨w.heap.size, 0, none⟩), .pointer (some ⟨w.heap.size, 0, none⟩), ?_, rfl, ?_, ?_⟩
    · simp [execOp, ho, Instr.box, newVar, newRow]
    · simp only [ObjOK]
      exact ⟨_, _, rfl, Nat.zero_le _, heap_alloc_new w _, upd_same _ _ _, AVsOk.keeps (keeps_alloc _ _) (Ext.new hu _ _) _ _ h1⟩
    · simp only [AVok, upd_same]
      exact ⟨rfl, fun _ => ⟨_, rfl, rfl⟩⟩

theorem op_alloc {T : TypeId} {id : Nat} {t : Ty} (ho : o.op = .alloc T) (hT : TyOK P t T) (hu : σ.objs id = .unborn) :
    OpOK P cx σ o ⟨.bp id 0, [(id, .box T t.zeros)]⟩ :=
  OpOK.of_alloc hd hu fun a w lim G hh hf => by
    have hz := mkV_cells (zcells_len t) (zcells_rd w lim t).one
    refine ⟨(mkV t t.zcells).cells, T, 0, .pointer (some ⟨w.heap.size, 0, none⟩), .pointer (some ⟨w.heap.size, 0, none⟩), ?_, rfl, ?_, ?_⟩
    · simp [execOp, ho, Instr.alloc, run_zero' hT, newVar, newRow]
    · simp only [ObjOK]
      refine ⟨_, _, rfl, Nat.zero_le _, heap_alloc_new w _, upd_same _ _ _, ?_⟩
      rw [hz]
      exact zeros_ok t
    · simp only [AVok, upd_same]
      exact ⟨rfl, fun _ => ⟨_, rfl, rfl⟩⟩

theorem op_load_ptr {T : TypeId} {x : Operand} {t : Ty} {y : t.den} (ho : o.op = .load T x) (hc : σ.uc x) (hx : σ.un x = .ptr t y) (hT : TyOK P t T) : OpOK P cx σ o ⟨.rd t y, []⟩ :=
  OpOK.of_value hd fun a w lim G hh hf => by
    have h := un_ok hf x hc
    rw [hx] at h
    simp only [AVok] at h
    obtain ⟨ad, cs, h1, h2, h3⟩ := h
    refine ⟨mkV t cs, ?_, ?_⟩
    · simp [execOp, ho, h1, run_load_at hT w ad cs h3.length fun j u hu => (h2 j u hu).1]
    · simp only [AVok]
      exact ⟨cs, h3, rfl⟩

/-- What a load out of a box gives. -/
def boxLoad (t : Ty) (cs : List AV) (off : Nat) : AV := bif t.isAgg then .agg ((cs.drop off).take t.size) else cs.getD off .any

omit hd in
theorem boxAt {w : World} {lim : Nat → Nat} {G : Nat → Rt} {objs : Nat → AObj} {id off : Nat} {T' : TypeId} {cs : List AV} {v : Value} (hh : Hp cx objs w lim G) (hb : objs id = .box T' cs) (hv : AVok w lim G objs (.bp id off) v) :
    ∃ g arr, (G id).v = .pointer (some ⟨g, 0, none⟩) ∧ v = .pointer (some ⟨g, off, none⟩) ∧ (cx.B ≤ g ∨ cx.L g) ∧ w.heap[g]? = some (.cells arr T' (0, 0)) ∧ lim g = 0 ∧ AVsOk w lim G objs cs arr.toList := by
  simp only [AVok] at hv
  have h := hh.obj id
  rw [hb] at h hv
  simp only [ObjOK] at h
  obtain ⟨g, arr, h1, h2, h3, h4, h5⟩ := h
  obtain ⟨g', hg, hv'⟩ := hv.2 rfl
  have hm := hh.mine id g' (by rw [hb]; rfl) (by rw [hb]; exact hg)
  rw [h1] at hg
  injection hg with hg
  subst hg
  exact ⟨_, arr, h1, hv', hm, h3, h4, h5⟩

omit hd in
theorem AVsOk.cut {w : World} {lim : Nat → Nat} {G : Nat → Rt} {objs : Nat → AObj} : ∀ (off n : Nat) {cs : List AV} {vs : List Value}, AVsOk w lim G objs cs vs → AVsOk w lim G objs ((cs.drop off).take n) ((vs.drop off).take n) := by
  intro off n cs vs h
  have hl := h.length
  refine AVsOk.mk (by simp [hl]) fun i hi => ?_
  have hi' : i < n ∧ off + i < cs.length := by simp at hi; omega
  have e1 : ((cs.drop off).take n).getD i .any = cs.getD (off + i) .any := by simp [List.getD_eq_getElem?_getD, List.getElem?_take, hi'.1]
  have e2 : ((vs.drop off).take n).getD i undef = vs.getD (off + i) undef := by simp [List.getD_eq_getElem?_getD, List.getElem?_take, hi'.1]
  rw [e1, e2]
  exact h.get _ hi'.2

theorem op_load_box {T : TypeId} {x : Operand} {t : Ty} {id off : Nat} {T' : TypeId} {cs : List AV} (ho : o.op = .load T x) (hc : σ.uc x) (hx : σ.un x = .bp id off) (hb : σ.objs id = .box T' cs) (hT : TyOK P t T) (hin : off + t.size ≤ cs.length) :
    OpOK P cx σ o ⟨boxLoad t cs off, []⟩ :=
  OpOK.of_value hd fun a w lim G hh hf => by
    have h := un_ok hf x hc
    rw [hx] at h
    obtain ⟨g, arr, h1, h2, h3, h4, h5, h6⟩ := boxAt hh hb h
    have hl := h6.length
    have hcells : ∀ j u, ((arr.toList.drop off).take t.size)[j]? = some u → w.cell? ((⟨g, off, none⟩ : Addr).add j) = some u := by
      intro j u hu
      have e : (⟨g, off, none⟩ : Addr).add j = ⟨g, off + j, none⟩ := by unfold Addr.add; split <;> simp_all
      rw [e, cell_of_row w g _ arr T' (0, 0) h4]
      rw [List.getElem?_take] at hu
      split at hu
      · simpa using hu
      · cases hu
    have hlen : ((arr.toList.drop off).take t.size).length = t.size := by rw [List.length_take, List.length_drop, hl]; omega
    refine ⟨mkV t ((arr.toList.drop off).take t.size), ?_, ?_⟩
    · simp [execOp, ho, h2, run_load_at hT w _ _ hlen hcells]
    · unfold boxLoad mkV
      cases hg : t.isAgg with
      | true =>
        simp only [cond_true, AVok, if_true]
        exact ⟨_, rfl, h6.cut off t.size⟩
      | false =>
        have hs : t.size = 1 := by cases t <;> simp_all [Ty.isAgg, Ty.size]
        have hlt : off < cs.length := by omega
        have hla : off < arr.toList.length := by omega
        simp only [cond_false, Bool.false_eq_true, if_false]
        have e : ((arr.toList.drop off).take t.size).headD undef = arr.toList.getD off undef := by
          rw [hs, List.drop_eq_getElem_cons hla]
          simp [List.getD_eq_getElem?_getD, List.getElem?_eq_getElem hla]
        rw [e]
        exact h6.get off hlt

omit hd in
theorem op_store_box {T : TypeId} {x y : Operand} {t : Ty} {id off : Nat} {T' : TypeId} {cs : List AV} (ho : o.op = .store T x y) (hdst : o.dst = none) (hc : σ.uc x) (hx : σ.un x = .bp id off) (hb : σ.objs id = .box T' cs) (hT : TyOK P t T) (hin : off + t.size ≤ cs.length)
    (hcy : σ.uc y) (hy : cellsC σ.objs t (σ.un y)) :
    OpOK P cx σ o ⟨.any, [(id, .box T' (cs.take off ++ cellsAV (σ.un y) ++ cs.drop (off + t.size)))]⟩ := by
  intro a w K Q hs hK
  obtain ⟨lim, G, hh, hf⟩ := hs
  have h := un_ok hf x hc
  rw [hx] at h
  obtain ⟨g, arr, h1, h2, h3, h4, h5, h6⟩ := boxAt hh hb h
  obtain ⟨b1, b2, b3⟩ := cellsC_ok hh.obj hy (un_ok hf y hcy)
  have hl := h6.length
  have hlen : off + (a.eval y).cells.toList.length ≤ arr.size := by rw [b2]; simp at hl; omega
  have hst := run_storeCells_at P g off T' (a.eval y).cells.toList 0 arr w h4 (by simpa using hlen) b3
  have hsz : (a.eval y).cells.size = t.size := by simpa using b2
  have hrun : (execOp a.eval o).run P w = .ok .skip (w.setRow g (arr.toList.take off ++ (a.eval y).cells.toList ++ arr.toList.drop (off + t.size)).toArray) := by
    simp only [Nat.add_zero] at hst
    rw [b2] at hst
    simp [execOp, ho, h2, Instr.storeAt, Instr.sureAddr, storeVar, run_sizeOf' hT, hsz, hst]
  unfold Oper.wp
  rw [hrun]
  refine hK _ _ ?_
  rw [hdst]
  have hk : Keeps w lim (w.setRow g (arr.toList.take off ++ (a.eval y).cells.toList ++ arr.toList.drop (off + t.size)).toArray) lim := by
    refine ⟨fun ad u hcell hlt => ?_, fun _ _ => Nat.le_refl _⟩
    have hne : ad.block ≠ g := by rintro e; rw [e, h5] at hlt; omega
    rw [World.cell?_of_block (w := w) (setRow_other w g ad.block _ hne)]
    exact hcell
  have hbw : BelowL cx.L cx.B cx.w0 (w.setRow g (arr.toList.take off ++ (a.eval y).cells.toList ++ arr.toList.drop (off + t.size)).toArray) :=
    hh.below.trans ⟨rfl, rfl, rfl, by simp, fun k hk hL => setRow_other w g k _ (by rintro rfl; exact h3.elim (fun h => by omega) hL)⟩
  have hlive : (σ.objs id).live = true := by rw [hb]; rfl
  have hset := hh.set (id := id) (o := .box T' (cs.take off ++ cellsAV (σ.un y) ++ cs.drop (off + t.size))) hlive hbw hk
    (fun i g' hi hl hg => by
      have : g' ≠ g := by rintro rfl; exact hh.sep i id g' hi hl hlive hg (by rw [hb]; simp only [Blk]; rw [h1]; rfl)
      exact ⟨setRow_other w g g' _ this, rfl⟩) (fun _ _ _ => rfl)
    (by
      have he : Ext G σ.objs G (upd σ.objs id (.box T' (cs.take off ++ cellsAV (σ.un y) ++ cs.drop (off + t.size)))) := by
        intro i hbn
        by_cases e : i = id
        · subst e; rw [upd_same]; exact ⟨rfl, fun _ => ⟨hlive, rfl⟩⟩
        · rw [upd_ne _ _ _ _ e]; exact ⟨hbn, fun h => ⟨h, rfl⟩⟩
      simp only [ObjOK]
      refine ⟨g, _, h1, Nat.zero_le _, setRow_heap w g arr _ T' _ h4, h5, ?_⟩
      have k1 := AVsOk.keeps hk he _ _ h6
      have k2 := AVsOk.keeps hk he _ _ b1
      have l2 := b1.length
      refine AVsOk.mk (by simp at hl b2 l2 ⊢; omega) fun i hi => ?_
      have ll : (cellsAV (σ.un y)).length = t.size := by rw [← l2, b2]
      have ta : (arr.toList.take off).length = off := by rw [List.length_take, hl]; omega
      have tc : (cs.take off).length = off := by rw [List.length_take]; omega
      rcases Nat.lt_or_ge i off with hio | hio
      · have e1 : (cs.take off ++ cellsAV (σ.un y) ++ cs.drop (off + t.size)).getD i .any = cs.getD i .any := by
          rw [List.append_assoc]; simp only [List.getD_eq_getElem?_getD, List.getElem?_append, tc, if_pos hio, List.getElem?_take]
        have e2 : (arr.toList.take off ++ (a.eval y).cells.toList ++ arr.toList.drop (off + t.size)).getD i undef = arr.toList.getD i undef := by
          rw [List.append_assoc]; simp only [List.getD_eq_getElem?_getD, List.getElem?_append, ta, if_pos hio, List.getElem?_take]
        rw [e1, List.toList_toArray, e2]
        exact k1.get i (by omega)
      · rcases Nat.lt_or_ge i (off + t.size) with hin' | hin'
        · have e1 : (cs.take off ++ cellsAV (σ.un y) ++ cs.drop (off + t.size)).getD i .any = (cellsAV (σ.un y)).getD (i - off) .any := by
            rw [List.append_assoc]; simp only [List.getD_eq_getElem?_getD, List.getElem?_append, tc, if_neg (Nat.not_lt.2 hio), ll, if_pos (show i - off < t.size by omega)]
          have e2 : (arr.toList.take off ++ (a.eval y).cells.toList ++ arr.toList.drop (off + t.size)).getD i undef = (a.eval y).cells.toList.getD (i - off) undef := by
            rw [List.append_assoc]; simp only [List.getD_eq_getElem?_getD, List.getElem?_append, ta, if_neg (Nat.not_lt.2 hio), b2, if_pos (show i - off < t.size by omega)]
          rw [e1, List.toList_toArray, e2]
          exact k2.get (i - off) (by omega)
        · have e1 : (cs.take off ++ cellsAV (σ.un y) ++ cs.drop (off + t.size)).getD i .any = cs.getD i .any := by
            rw [List.append_assoc]; simp only [List.getD_eq_getElem?_getD, List.getElem?_append, tc, if_neg (Nat.not_lt.2 hio), ll, if_neg (show ¬ i - off < t.size by omega), List.getElem?_drop]
            rw [show off + t.size + (i - off - t.size) = i by omega]
          have e2 : (arr.toList.take off ++ (a.eval y).cells.toList ++ arr.toList.drop (off + t.size)).getD i undef = arr.toList.getD i undef := by
            rw [List.append_assoc]; simp only [List.getD_eq_getElem?_getD, List.getElem?_append, ta, if_neg (Nat.not_lt.2 hio), b2, if_neg (show ¬ i - off < t.size by omega), List.getElem?_drop]
            rw [show off + t.size + (i - off - t.size) = i by omega]
          rw [e1, List.toList_toArray, e2]
          exact k1.get i (by simp at hi; omega))
    rfl (fun g hg => by rw [hb]; exact hg) (fun h => by cases h)
  exact ⟨lim, G, hset.1, hf.keeps hk hset.2⟩

end
end Go.AL
/- Addresses, slices, composites, rows of the call's own, each with its soundness. A general part, over any program. -/
set_option linter.unusedSimpArgs false
set_option linter.unusedVariables false
namespace Go.AL
open Go.RowKit

section
variable {P : Program} {cx : Cx} {σ : St} {o : Oper}

/-! ### Fields of a struct -/

theorem fs_at {t : Ty} : ∀ {fs : List Field} {o i : Nat}, FsOK P t fs o → i < t.nf → ∃ f, fs[i]? = some f ∧ f.offset = o + i ∧ TyOK P (fldT t i) f.type ∧ (fldT t i).flat1 = true := by
  induction t with
  | cons h t _ ih =>
    intro fs o i hf hi
    simp only [FsOK] at hf
    obtain ⟨f, r, e, h1, h2, h3, h4⟩ := hf
    subst e
    cases i with
    | zero => exact ⟨f, rfl, h1, h3, h2⟩
    | succ i =>
      obtain ⟨f', a1, a2, a3, a4⟩ := ih h4 (by simpa [Ty.nf] using hi)
      exact ⟨f', by simpa using a1, by omega, a3, a4⟩
  | _ => intro fs o i _ hi; exact absurd hi (by simp [Ty.nf])

theorem run_fieldAt {t : Ty} {T : TypeId} {i : Nat} (hT : TyOK P t T) (hi : i < t.nf) (w : World) (a : Addr) : (Instr.fieldAt T (.pointer (some a)) i).run P w = .ok (.pointer (some (a.add i))) w := by
  cases t with
  | cons h t =>
    simp only [TyOK] at hT
    obtain ⟨fs, h1, h2, _⟩ := hT
    obtain ⟨f, a1, a2, a3, a4⟩ := fs_at h2 hi
    have hs : ¬ (fldT (.cons h t) i).size = 0 := by rw [(flat1_size a4).1]; omega
    have a1' : fs[i]? = some f := by simpa using a1
    simp [Instr.fieldAt, run_underlying h1, a1', Instr.sureAddr, fieldPlace, run_sizeOf' a3, hs, a2]
  | _ => exact absurd hi (by simp [Ty.nf])

theorem Rd_fld {w : World} {lim : Nat → Nat} : ∀ {t : Ty} {cs : List Value} {x : t.den} {i o : Nat} {fs : List Field}, FsOK P t fs o → i < t.nf → Rd w lim t cs x → ∃ c, cs[i]? = some c ∧ Rd w lim (fldT t i) [c] (fldD t x i) := by
  intro t
  induction t with
  | cons h t _ ih =>
    intro cs x i o fs hf hi hr
    simp only [FsOK] at hf
    obtain ⟨f, r, e, h1, h2, h3, h4⟩ := hf
    obtain ⟨c1, c2, e2, r1, r2⟩ := hr
    have hl := r1.length
    rw [(flat1_size h2).1] at hl
    match c1, hl with
    | [c], _ =>
      subst e2
      cases i with
      | zero => exact ⟨c, rfl, r1⟩
      | succ i =>
        obtain ⟨c', b1, b2⟩ := ih h4 (by simpa [Ty.nf] using hi) r2
        exact ⟨c', by simpa using b1, b2⟩
  | _ => intro cs x i o fs _ hi; exact absurd hi (by simp [Ty.nf])

theorem TyOK.fs {t : Ty} {T : TypeId} {i : Nat} (hT : TyOK P t T) (hi : i < t.nf) : ∃ fs, P.underlying T = some (.struct fs) ∧ FsOK P t fs.toList 0 := by
  cases t with
  | cons h t => simp only [TyOK] at hT; obtain ⟨fs, h1, h2, _⟩ := hT; exact ⟨fs, h1, h2⟩
  | _ => exact absurd hi (by simp [Ty.nf])

variable (hd : ∀ k, o.dst = some k → k < cx.N)
include hd

theorem op_fa_ptr {T : TypeId} {x : Operand} {i : Nat} {t : Ty} {y : t.den} (ho : o.op = .fieldAddr T x i) (hc : σ.uc x) (hx : σ.un x = .ptr t y) (hT : TyOK P t T) (hi : i < t.nf) :
    OpOK P cx σ o ⟨.ptr (fldT t i) (fldD t y i), []⟩ :=
  OpOK.of_value hd fun a w lim G hh hf => by
    have h := un_ok hf x hc
    rw [hx] at h
    simp only [AVok] at h
    obtain ⟨ad, cs, h1, h2, h3⟩ := h
    obtain ⟨fs, _, hfs⟩ := hT.fs hi
    obtain ⟨c, b1, b2⟩ := Rd_fld hfs hi h3
    refine ⟨.pointer (some (ad.add i)), by simp [execOp, ho, h1, run_fieldAt hT hi w ad], ?_⟩
    simp only [AVok]
    refine ⟨_, [c], rfl, fun j u hu => ?_, b2⟩
    cases j with
    | zero =>
      have e : u = c := by simpa using hu.symm
      subst e
      obtain ⟨k1, k2⟩ := h2 i u b1
      have e0 : (ad.add i).add 0 = ad.add i := by simp [Addr.add]
      rw [e0, block_add]
      exact ⟨k1, k2⟩
    | succ j => simp at hu

theorem op_fa_box {T : TypeId} {x : Operand} {i id off : Nat} {t : Ty} (ho : o.op = .fieldAddr T x i) (hc : σ.uc x) (hx : σ.un x = .bp id off) (hl : (σ.objs id).live = true) (hT : TyOK P t T) (hi : i < t.nf) :
    OpOK P cx σ o ⟨.bp id (off + i), []⟩ :=
  OpOK.of_value hd fun a w lim G hh hf => by
    have h := un_ok hf x hc
    rw [hx] at h
    simp only [AVok] at h
    obtain ⟨hb, h⟩ := h
    obtain ⟨g, h1, h2⟩ := h hl
    have e : (⟨g, off, none⟩ : Addr).add i = ⟨g, off + i, none⟩ := by unfold Addr.add; split <;> simp_all
    refine ⟨.pointer (some ⟨g, off + i, none⟩), by simp [execOp, ho, h2, run_fieldAt hT hi w, e], ?_⟩
    simp only [AVok]
    exact ⟨hb, fun _ => ⟨g, h1, rfl⟩⟩

omit hd in
theorem run_field {t : Ty} {T : TypeId} {i : Nat} (hT : TyOK P t T) (hi : i < t.nf) (w : World) (cs : Array Value) (c : Value) (hcs : cs[i]? = some c) : (Instr.field T (.agg cs) i).run P w = .ok c w := by
  obtain ⟨fs, h1, h2⟩ := hT.fs hi
  obtain ⟨f, a1, a2, a3, a4⟩ := fs_at h2 hi
  have a1' : fs[i]? = some f := by simpa using a1
  simp only [Nat.zero_add] at a2
  simp [Instr.field, run_underlying h1, a1', part, run_isAgg' a3, (flat1_size a4).2, asAgg, a2, hcs]

theorem op_field_rd {T : TypeId} {x : Operand} {i : Nat} {t : Ty} {y : t.den} (ho : o.op = .field T x i) (hc : σ.uc x) (hx : σ.un x = .rd t y) (hT : TyOK P t T) (hi : i < t.nf) :
    OpOK P cx σ o ⟨.rd (fldT t i) (fldD t y i), []⟩ :=
  OpOK.of_value hd fun a w lim G hh hf => by
    have h := un_ok hf x hc
    rw [hx] at h
    simp only [AVok] at h
    obtain ⟨fs, _, hfs⟩ := hT.fs hi
    obtain ⟨cs, h1, h2⟩ := h
    obtain ⟨c, b1, b2⟩ := Rd_fld hfs hi h1
    have hg : t.isAgg = true := by cases t <;> first | rfl | exact absurd hi (by simp [Ty.nf])
    have hv : a.eval x = .agg cs.toArray := by rw [h2]; simp [mkV, hg]
    have hfl : (fldT t i).flat1 = true := (fs_at hfs hi).choose_spec.2.2.2
    refine ⟨c, by simp [execOp, ho, hv, run_field hT hi w cs.toArray c (by simpa using b1)], ?_⟩
    simp only [AVok]
    exact ⟨[c], b2, (mkV_flat hfl c).symm⟩

theorem op_field_agg {T : TypeId} {x : Operand} {i : Nat} {t : Ty} {cs : List AV} (ho : o.op = .field T x i) (hc : σ.uc x) (hx : σ.un x = .agg cs) (hT : TyOK P t T) (hi : i < t.nf) (hn : i < cs.length) :
    OpOK P cx σ o ⟨cs.getD i .any, []⟩ :=
  OpOK.of_value hd fun a w lim G hh hf => by
    have h := un_ok hf x hc
    rw [hx] at h
    simp only [AVok] at h
    obtain ⟨arr, h1, h2⟩ := h
    have hlt : i < arr.length := by rw [h2.length]; exact hn
    refine ⟨arr.getD i undef, ?_, h2.get i hn⟩
    simp [execOp, ho, h1, run_field hT hi w arr.toArray (arr.getD i undef) (by simp [List.getD_eq_getElem?_getD, List.getElem?_eq_getElem hlt])]

theorem op_extract {x : Operand} {i : Nat} {cs : List AV} (ho : o.op = .extract x i) (hc : σ.uc x) (hx : σ.un x = .tup cs) (hn : i < cs.length) : OpOK P cx σ o ⟨cs.getD i .any, []⟩ :=
  OpOK.of_value hd fun a w lim G hh hf => by
    have h := un_ok hf x hc
    rw [hx] at h
    simp only [AVok] at h
    obtain ⟨arr, h1, h2⟩ := h
    have hlt : i < arr.length := by rw [h2.length]; exact hn
    refine ⟨arr.getD i undef, ?_, h2.get i hn⟩
    simp [execOp, ho, h1, Instr.extract, List.getD_eq_getElem?_getD, List.getElem?_eq_getElem hlt]

theorem op_ia {T : TypeId} {x ix : Operand} {t : Ty} {k : IntKind} (ho : o.op = .indexAddr T x ix) (hx : σ.tc (.list t) x) (hi : σ.tc (.int k) ix) (hT : TyOK P (.list t) T)
    (h0 : 0 ≤ σ.ti k ix) (h1 : σ.ti k ix < ((σ.tv (.list t) x).length : Int)) :
    OpOK P cx σ o ⟨.ptr t ((σ.tv (.list t) x).getD (σ.ti k ix).toNat t.dflt), []⟩ :=
  OpOK.of_value hd fun a w lim G hh hf => by
    obtain ⟨A, cap, e1, e2, e3, e4⟩ := (tc_ok hh hf hx).list
    obtain ⟨i1, _⟩ := (tc_int hh hf hi)
    generalize σ.tv (.list t) x = xs at *
    generalize hn : σ.ti k ix = n at *
    have hlt : (n : Int).toNat < xs.length := by
      have h0' : (0 : Int) ≤ n := h0
      have h1' : (n : Int) < xs.length := h1
      omega
    obtain ⟨ad, ds, a1, a2, a3, a4⟩ := e4 n.toNat hlt
    subst a1
    simp only [TyOK] at hT
    obtain ⟨e, u1, u2, _⟩ := hT
    refine ⟨.pointer (some (ad.add (n.toNat * t.size))), ?_, ?_⟩
    · simp [execOp, ho, e1, i1, Instr.indexAt, asIntOf, run_underlying u1, h0, h1, run_sizeOf' u2]
    · simp only [AVok]
      refine ⟨_, ds, rfl, a2, ?_⟩
      have : xs.getD n.toNat t.dflt = xs[n.toNat] := by simp [List.getD_eq_getElem?_getD, List.getElem?_eq_getElem hlt]
      rw [this]
      exact a4

theorem op_index_str {T : TypeId} {x ix : Operand} {k : IntKind} (ho : o.op = .index T x ix) (hx : σ.tc .str x) (hi : σ.tc (.int k) ix) (hT : TyOK P .str T)
    (h0 : 0 ≤ σ.ti k ix) (h1 : σ.ti k ix < ((σ.ts x).size : Int)) :
    OpOK P cx σ o ⟨.rd (.int .u8) (((σ.ts x).data.toList.getD (σ.ti k ix).toNat 0).toNat : Int), []⟩ :=
  OpOK.of_value hd fun a w lim G hh hf => by
    obtain ⟨e1, _⟩ := (tc_str hh hf hx)
    obtain ⟨i1, _⟩ := (tc_int hh hf hi)
    generalize σ.ts x = s at *
    generalize hn : σ.ti k ix = n at *
    have h0' : (0 : Int) ≤ n := h0
    have h1' : (n : Int) < s.size := h1
    have hlt : (n : Int).toNat < s.size := by omega
    simp only [TyOK] at hT
    have hs : s[n.toNat]? = some s[n.toNat] := getElem?_pos s _ hlt
    refine ⟨.int .u8 (s[n.toNat].toNat : Int), ?_, ?_⟩
    · simp [execOp, ho, e1, i1, Instr.index, asIntOf, run_underlying hT.1, h0', hs]
    · simp only [AVok]
      have hd' : s.data.toList.getD n.toNat 0 = s[n.toNat] := by
        have : n.toNat < s.data.toList.length := by simpa using hlt
        rw [List.getD_eq_getElem?_getD, List.getElem?_eq_getElem this]; rfl
      rw [hd']
      refine RdV.mk_int ?_
      have := (s[n.toNat]).toNat_lt
      simp [IntKind.min, IntKind.max, IntKind.signed, IntKind.bits]
      omega

end
end Go.AL
/- Slices cut, composites, rows made and grown, each with its soundness. A general part, over any program. -/
set_option linter.unusedSimpArgs false
set_option linter.unusedVariables false
namespace Go.AL
open Go.RowKit

theorem foldl_seg : ∀ (l : List Value) (k off : Nat) (cells : Array Value), off + k + l.length ≤ cells.size →
    ((l.zipIdx k).foldl (fun cs (p : Value × Nat) => cs.setIfInBounds (off + p.2) p.1) cells).toList = cells.toList.take (off + k) ++ l ++ cells.toList.drop (off + k + l.length)
  | [], k, off, cells, _ => by simp
  | v :: l, k, off, cells, h => by
    have hl : off + k + 1 + l.length ≤ cells.size := by simp at h; omega
    have ih := foldl_seg l (k + 1) off (cells.setIfInBounds (off + k) v) (by simp; omega)
    simp only [List.zipIdx_cons, List.foldl_cons]
    rw [ih]
    have e := list_seg_step cells.toList (off + k) v l (by simp; omega)
    simp only [Array.toList_setIfInBounds]
    have : off + (k + 1) = off + k + 1 := by omega
    rw [this]
    rw [e]
    simp [Nat.add_assoc, Nat.add_comm 1]

section
variable {P : Program} {cx : Cx} {σ : St} {o : Oper} (hd : ∀ k, o.dst = some k → k < cx.N)
include hd

theorem op_slice {T : TypeId} {x : Operand} {lo hi : Option Operand} {t : Ty} (l h : Nat) (ho : o.op = .slice T x lo hi none) (hx : σ.tc (.list t) x) (hT : TyOK P (.list t) T)
    (hlo : match lo with | some y => σ.tc (.int .i64) y ∧ σ.ti .i64 y = (l : Int) | none => l = 0)
    (hhi : match hi with | some y => σ.tc (.int .i64) y ∧ σ.ti .i64 y = (h : Int) | none => h = (σ.tv (.list t) x).length)
    (h1 : l ≤ h) (h2 : h ≤ (σ.tv (.list t) x).length) :
    OpOK P cx σ o ⟨.rd (.list t) (((σ.tv (.list t) x).take h).drop l), []⟩ :=
  OpOK.of_value hd fun a w lim G hh hf => by
    obtain ⟨A, cap, e1, e2, e3, e4⟩ := (tc_ok hh hf hx).list
    have hlo' : lo = none ∧ l = 0 ∨ ∃ y, lo = some y ∧ a.eval y = .int .i64 (l : Int) := by
      cases lo with
      | none => exact .inl ⟨rfl, hlo⟩
      | some y => exact .inr ⟨y, rfl, by rw [← hlo.2]; exact (tc_int hh hf hlo.1).1⟩
    have hhi' : hi = none ∧ h = (σ.tv (.list t) x).length ∨ ∃ y, hi = some y ∧ a.eval y = .int .i64 (h : Int) := by
      cases hi with
      | none => exact .inl ⟨rfl, hhi⟩
      | some y => exact .inr ⟨y, rfl, by rw [← hhi.2]; exact (tc_int hh hf hhi.1).1⟩
    generalize σ.tv (.list t) x = xs at *
    simp only [TyOK] at hT
    obtain ⟨e, u1, u2, _⟩ := hT
    refine ⟨.slice (if cap = l then A else A.map (·.add (l * t.size))) (h - l) (cap - l), ?_, ?_⟩
    · have c1 : (h : Int) ≤ (cap : Int) := by have := e2; omega
      have c2 : (l : Int) ≤ (h : Int) := by omega
      have c3 : h ≤ cap := by omega
      have n0 : ∀ m : Nat, (0 : Int) ≤ (m : Int) := fun m => by omega
      rcases hlo' with ⟨rfl, rfl⟩ | ⟨y, rfl, hy⟩ <;> rcases hhi' with ⟨rfl, rfl⟩ | ⟨z, rfl, hz⟩ <;>
        simp [execOp, ho, e1, Instr.sliceAt, run_underlying u1, Instr.slice, Instr.sliceBounds, Instr.sliceBound, asIntOf, run_sizeOf' u2, *] <;> rfl
    · simp only [AVok]
      have hlen : ((xs.take h).drop l).length = h - l := by rw [List.length_drop, List.length_take, Nat.min_eq_left h2]
      refine ⟨[.slice (if cap = l then A else A.map (·.add (l * t.size))) (h - l) (cap - l)], ⟨if cap = l then A else A.map (·.add (l * t.size)), cap - l, by rw [hlen], by rw [hlen]; omega, by omega, fun i hi => ?_⟩, by simp [mkV, Ty.isAgg]⟩
      have hi' : l + i < h := by simp only [List.length_drop, List.length_take, Nat.min_eq_left h2] at hi; omega
      obtain ⟨ad, ds, a1, a2, a3, a4⟩ := e4 (l + i) (by omega)
      refine ⟨ad.add (l * t.size), ds, by rw [if_neg (by omega), a1]; rfl, ?_, a3, ?_⟩
      · rw [add_add', ← Nat.add_mul]; exact a2
      · simpa using a4

/-! ### Composites -/

omit hd in
theorem AVsOk.set {w : World} {lim : Nat → Nat} {G : Nat → Rt} {objs : Nat → AObj} {cs : List AV} {vs : List Value} (h : AVsOk w lim G objs cs vs) (i : Nat) {av : AV} {v : Value} (hv : AVok w lim G objs av v) :
    AVsOk w lim G objs (cs.set i av) (vs.set i v) := by
  have hl := h.length
  refine AVsOk.mk (by simp [hl]) fun j hj => ?_
  have hj' : j < cs.length := by simpa using hj
  by_cases e : i = j
  · subst e
    have hj2 : i < vs.length := by omega
    simp only [List.getD_eq_getElem?_getD, List.getElem?_set_self hj', List.getElem?_set_self hj2, Option.getD_some]
    exact hv
  · simp only [List.getD_eq_getElem?_getD, List.getElem?_set_ne e]
    have := h.get j hj'
    simpa only [List.getD_eq_getElem?_getD] using this

def setAll (σ : St) : List (Nat × Operand) → List AV → List AV
  | [], cs => cs
  | p :: r, cs => setAll σ r (cs.set p.1 (σ.un p.2))

def setAllC (σ : St) (n : Nat) : List (Nat × Operand) → Prop
  | [] => True
  | p :: r => p.1 < n ∧ σ.uc p.2 ∧ oneC σ.objs (σ.un p.2) ∧ setAllC σ n r

omit hd in
theorem fill_one {a : Act} {w : World} {lim : Nat → Nat} {G : Nat → Rt} (hh : Hp cx σ.objs w lim G) (hf : Fr cx σ a w lim G) (place : Nat → Option (Nat × Nat)) (n : Nat) (hp : ∀ i, i < n → place i = some (i, 1)) :
    ∀ (ps : List (Nat × Operand)) (cs : List AV) (arr : Array Value), setAllC σ n ps → arr.size = n → AVsOk w lim G σ.objs cs arr.toList →
      ∃ arr', Instr.fill place arr (ps.map fun p => (p.1, a.eval p.2)) = some arr' ∧ AVsOk w lim G σ.objs (setAll σ ps cs) arr'.toList
  | [], cs, arr, _, _, h => ⟨arr, rfl, h⟩
  | p :: ps, cs, arr, hc, hn, h => by
    obtain ⟨c1, c2, c3, c4⟩ := hc
    have h1 := un_ok hf p.2 c2
    have h2 := oneC_ok hh.obj c3 h1
    have hcell : (a.eval p.2).cells = #[a.eval p.2] := by cases hv : a.eval p.2 <;> simp_all [Value.cells, Value.oneCell']
    have hs := h.set p.1 h1
    obtain ⟨arr', e1, e2⟩ := fill_one hh hf place n hp ps (cs.set p.1 (σ.un p.2)) (arr.setIfInBounds p.1 (a.eval p.2)) c4 (by simpa using hn) (by simpa using hs)
    refine ⟨arr', ?_, e2⟩
    simp only [List.map_cons, Instr.fill, hp p.1 c1, hcell]
    have : ¬ (p.1 + 1 > arr.size) := by omega
    simp [this, e1]

omit hd in
theorem fs_places : ∀ {t : Ty} {fs : List Field} {o : Nat}, FsOK P t fs o → fs.mapM (fun f => (P.info? f.type).map fun i => (f.offset, i.size)) = some ((List.range' o t.nf).map fun i => (i, 1)) := by
  intro t
  induction t with
  | nil => intro fs o h; simp only [FsOK] at h; subst h; rfl
  | cons h t _ ih =>
    intro fs o hf
    simp only [FsOK] at hf
    obtain ⟨f, r, e, h1, h2, h3, h4⟩ := hf
    subst e
    obtain ⟨i, i1, i2, _⟩ := h3.inf
    have := ih h4
    rw [(flat1_size h2).1] at i2
    simp [List.mapM_cons, i1, this, i2, h1, Ty.nf, List.range'_succ]
  | _ => intro fs o h; simp only [FsOK] at h

theorem op_build {T : TypeId} {h t : Ty} {ps : List (Nat × Operand)} (ho : o.op = .build T ps.toArray) (hT : TyOK P (.cons h t) T) (hz : (Ty.cons h t).size = (Ty.cons h t).nf) (hc : setAllC σ (Ty.cons h t).nf ps) :
    OpOK P cx σ o ⟨.agg (setAll σ ps (Ty.cons h t).zeros), []⟩ :=
  OpOK.of_value hd fun a w lim G hh hf => by
    have hzc := mkV_cells (zcells_len (.cons h t)) (zcells_rd w lim (.cons h t)).one
    obtain ⟨fs, u1, u2⟩ := hT.fs (i := 0) (by simp [Ty.nf])
    obtain ⟨it, i1, i2, i3, _⟩ := hT.inf
    have hp := fs_places u2
    have hplace : ∀ i, i < (Ty.cons h t).nf → (((List.range' 0 (Ty.cons h t).nf).map fun i => (i, 1)).toArray)[i]? = some (i, 1) := by
      intro i hi
      simp [List.getElem?_range', hi]
    have hsz : (mkV (.cons h t) (Ty.cons h t).zcells).cells.size = (Ty.cons h t).nf := by
      have := congrArg List.length hzc
      rw [zcells_len, hz] at this
      simpa using this
    obtain ⟨arr', e1, e2⟩ := fill_one hh hf _ _ hplace ps (Ty.cons h t).zeros (mkV (.cons h t) (Ty.cons h t).zcells).cells hc hsz (by rw [hzc]; exact zeros_ok _)
    have hb : P.built T (ps.map fun p => (p.1, a.eval p.2)) = some arr' := by
      unfold Program.built
      simp only [i1, u1, i3, hp]
      exact e1
    have hb' : P.built T ((ps.toArray.map fun x => match x with | (i, x) => (i, a.eval x)).toList) = some arr' := by
      simpa using hb
    refine ⟨.agg arr', ?_, ?_⟩
    · simp only [execOp, ho, Sem.run_bind, run_build w T _ arr' hb']; rfl
    · simp only [AVok]
      exact ⟨arr'.toList, by simp, e2⟩

/-! ### Rows -/

/-- The elements of a literal: all of one type. -/
def litD (σ : St) (t : Ty) : List (Nat × Operand) → List t.den
  | [] => []
  | p :: r => σ.tv t p.2 :: litD σ t r

def litC (σ : St) (t : Ty) : Nat → List (Nat × Operand) → Prop
  | _, [] => True
  | k, p :: r => p.1 = k ∧ σ.tc t p.2 ∧ litC σ t (k + 1) r

omit hd in
theorem litD_length (t : Ty) : ∀ ps : List (Nat × Operand), (litD σ t ps).length = ps.length
  | [] => rfl
  | _ :: r => by simp [litD, litD_length t r]

omit hd in
theorem lit_fill {a : Act} {w : World} {lim : Nat → Nat} {G : Nat → Rt} (hh : Hp cx σ.objs w lim G) (hf : Fr cx σ a w lim G) (t : Ty) :
    ∀ (ps : List (Nat × Operand)) (k : Nat) (cells : Array Value), litC σ t k ps → k * t.size + ps.length * t.size ≤ cells.size →
      ∃ vs : List Value, vs.length = ps.length * t.size ∧ (∀ u ∈ vs, u.oneCell' = true) ∧
        (∀ i (h : i < (litD σ t ps).length), Rd w lim t ((vs.drop (i * t.size)).take t.size) (litD σ t ps)[i]) ∧
        Instr.fill (fun i => some (i * t.size, t.size)) cells (ps.map fun p => (p.1, a.eval p.2)) = some (cells.toList.take (k * t.size) ++ vs ++ cells.toList.drop (k * t.size + ps.length * t.size)).toArray
  | [], k, cells, _, _ => ⟨[], by simp, by simp, fun i h => absurd h (by simp [litD]), by simp [Instr.fill]⟩
  | p :: ps, k, cells, hc, hl => by
    obtain ⟨c1, c2, c3⟩ := hc
    have h1 := tc_ok hh hf c2
    have h2 := h1.cells.1
    have hn := h2.length
    have hs : (a.eval p.2).cells.size = t.size := by simpa using hn
    have hl' : k * t.size + t.size + ps.length * t.size ≤ cells.size := by simp only [List.length_cons, Nat.succ_mul] at hl; omega
    have seg := foldl_seg (a.eval p.2).cells.toList 0 (k * t.size) cells (by rw [hn]; omega)
    simp only [Nat.add_zero] at seg
    rw [hn] at seg
    obtain ⟨vs, e1, e2, e3, e4⟩ := lit_fill hh hf t ps (k + 1) (((a.eval p.2).cells.zipIdx).foldl (fun cs (p : Value × Nat) => cs.setIfInBounds (k * t.size + p.2) p.1) cells) c3 (by
      have : (((a.eval p.2).cells.zipIdx).foldl (fun cs (p : Value × Nat) => cs.setIfInBounds (k * t.size + p.2) p.1) cells).size = cells.size := by
        have := congrArg List.length seg
        rw [← Array.foldl_toList, Array.toList_zipIdx]
        simp only [Array.length_toList, List.length_append, List.length_take, List.length_drop, hs] at this
        rw [this]
        omega
      rw [this, Nat.succ_mul]
      omega)
    refine ⟨(a.eval p.2).cells.toList ++ vs, by rw [List.length_append, hn, e1, List.length_cons, Nat.succ_mul]; omega, ?_, ?_, ?_⟩
    · intro u hu
      rcases List.mem_append.1 hu with hu | hu
      · exact h2.one u hu
      · exact e2 u hu
    · intro i hi
      cases i with
      | zero =>
        simp only [Nat.zero_mul, List.drop_zero, litD, List.getElem_cons_zero]
        rw [List.take_append_of_le_length (by omega), List.take_of_length_le (by omega)]
        exact h2
      | succ i =>
        have hi' : i < (litD σ t ps).length := by simpa [litD] using hi
        simp only [litD, List.getElem_cons_succ]
        have : ((a.eval p.2).cells.toList ++ vs).drop ((i + 1) * t.size) = vs.drop (i * t.size) := by
          have h1 : (i + 1) * t.size = i * t.size + t.size := Nat.succ_mul _ _
          rw [List.drop_append, List.drop_of_length_le (by omega), List.nil_append, hn]
          congr 1
          omega
        rw [this]
        exact e3 i hi'
    · simp only [List.map_cons, Instr.fill, c1, hs]
      rw [if_neg (by simp; omega)]
      rw [e4]
      congr 1
      have sl : (((a.eval p.2).cells.zipIdx).foldl (fun cs (p : Value × Nat) => cs.setIfInBounds (k * t.size + p.2) p.1) cells).toList = cells.toList.take (k * t.size) ++ (a.eval p.2).cells.toList ++ cells.toList.drop (k * t.size + t.size) := by
        rw [← Array.foldl_toList, Array.toList_zipIdx]
        exact seg
      rw [sl]
      have l1 : (cells.toList.take (k * t.size)).length = k * t.size := by rw [List.length_take]; simp; omega
      apply congrArg List.toArray
      rw [Nat.succ_mul]
      have t1 : (cells.toList.take (k * t.size) ++ (a.eval p.2).cells.toList ++ cells.toList.drop (k * t.size + t.size)).take (k * t.size + t.size) = cells.toList.take (k * t.size) ++ (a.eval p.2).cells.toList := by
        rw [List.take_append_of_le_length (by simp only [List.length_append, l1, hn]; omega), List.take_of_length_le (by simp only [List.length_append, l1, hn]; omega)]
      have t2 : (cells.toList.take (k * t.size) ++ (a.eval p.2).cells.toList ++ cells.toList.drop (k * t.size + t.size)).drop (k * t.size + t.size + ps.length * t.size) = cells.toList.drop (k * t.size + (ps.length + 1) * t.size) := by
        have h1 : (ps.length + 1) * t.size = ps.length * t.size + t.size := Nat.succ_mul _ _
        have l2 : (cells.toList.take (k * t.size) ++ (a.eval p.2).cells.toList).length = k * t.size + t.size := by simp only [List.length_append, l1, hn]
        rw [List.drop_append, List.drop_of_length_le (by rw [l2]; omega), List.nil_append, l2, List.drop_drop]
        congr 1
        omega
      rw [t1, t2]
      simp [List.append_assoc]

end
end Go.AL
/- Literal slices, append, calls, each with its soundness. A general part, over any program. -/
set_option linter.unusedSimpArgs false
set_option linter.unusedVariables false
namespace Go.AL
open Go.RowKit

/-- The element type's number of a slice type. -/
def ElOK (P : Program) (T e : TypeId) : Prop := P.underlying T = some (.slice e)

section
variable {P : Program} {cx : Cx} {σ : St} {o : Oper} (hd : ∀ k, o.dst = some k → k < cx.N)

theorem TyOK.el {t : Ty} {T e : TypeId} (h : TyOK P (.list t) T) (he : ElOK P T e) : TyOK P t e ∧ 0 < t.size := by
  simp only [TyOK] at h
  obtain ⟨e', h1, h2, _, h3⟩ := h
  unfold ElOK at he
  rw [h1] at he
  injection he with he
  injection he with he
  subst he
  exact ⟨h2, h3⟩

include hd

theorem op_lit {T e : TypeId} {n : Nat} {ps : List (Nat × Operand)} {t : Ty} {id : Nat} (ho : o.op = .buildSlice T n ps.toArray) (hT : TyOK P (.list t) T) (he : ElOK P T e) (hc : litC σ t 0 ps) (hn : ps.length = n) (hs : n * t.size ≤ 16777216) (hu : σ.objs id = .unborn) :
    OpOK P cx σ o ⟨.own id, [(id, .row e t (litD σ t ps))]⟩ :=
  OpOK.of_alloc hd hu fun a w lim G hh hf => by
    obtain ⟨he2, hpos⟩ := hT.el he
    unfold ElOK at he
    subst hn
    have hzc := mkV_cells (zcells_len t) (zcells_rd w lim t).one
    have hcsz : ∀ (f : Nat → Value), ((Array.range (ps.length * t.size)).map f).size = ps.length * t.size := by intro f; simp
    obtain ⟨vs, e1, e2, e3, e4⟩ := lit_fill hh hf t ps 0 ((Array.range (ps.length * t.size)).map fun j => ((mkV t t.zcells).cells)[j % (mkV t t.zcells).cells.size]!) hc (by rw [hcsz]; omega)
    have e5 : Instr.fill (fun i => some (i * t.size, t.size)) ((Array.range (ps.length * t.size)).map fun j => ((mkV t t.zcells).cells)[j % (mkV t t.zcells).cells.size]!) (ps.map fun p => (p.1, a.eval p.2)) = some vs.toArray := by
      rw [e4, List.drop_of_length_le (by rw [Array.length_toList, hcsz]; omega)]
      simp
    have e6 : Instr.fill (fun i => some (i * t.size, t.size)) (#[] : Array Value) ([] : List (Nat × Value)) = some #[] := rfl
    refine ⟨vs.toArray, e, ps.length * t.size, .slice (some ⟨w.heap.size, 0, none⟩) ps.length ps.length, .slice (some ⟨w.heap.size, 0, none⟩) ps.length ps.length, ?_, rfl, ?_, ?_⟩
    · by_cases h0 : ps.length * t.size = 0
      · have hp : ps = [] := by
          cases ps with
          | nil => rfl
          | cons p r => exfalso; rw [List.length_cons, Nat.succ_mul] at h0; omega
        subst hp
        have hv : vs = [] := List.eq_nil_of_length_eq_zero (by simpa using e1)
        subst hv
        simp [execOp, ho, Instr.buildSlice, run_underlying he, run_sizeOf' he2, newRow, Instr.fill, Array.range_zero']
      · have h1 : ¬ (16777216 < ps.length * t.size) := by omega
        simp [execOp, ho, Instr.buildSlice, run_underlying he, run_sizeOf' he2, run_zero' he2, newRow, h0, h1]
        have e7 : Instr.fill (fun i => some (i * t.size, t.size)) ((Array.range (ps.length * t.size)).map fun j => ((mkV t t.zcells).cells)[j % (mkV t t.zcells).cells.size]!) (ps.map ((fun x => (x.1, a.eval x.2)))) = some vs.toArray := e5
        first
          | (rw [e7]; simp)
          | (simp only [e7]; simp)
    · simp only [ObjOK]
      have hl := litD_length (σ := σ) t ps
      refine ⟨⟨vs, ⟨by rw [hl]; exact e1, .inr ⟨w.heap.size, ps.length, vs.toArray, by rw [hl], Nat.zero_le _, heap_alloc_new w _, by rw [hl]; omega, ?_, by simpa using e1, by rw [hl, ← e1]; simp⟩⟩, hpos, fun i hi => (e3 i hi).keeps (keeps_alloc _ _)⟩, fun g hg => ?_⟩
      · simp only [maxLen]
        have : ps.length ≤ ps.length * t.size := Nat.le_mul_of_pos_right _ hpos
        omega
      · injection hg with hg
        subst hg
        rw [upd_same, hl]
    · simp only [AVok, upd_same]
      exact ⟨rfl, fun _ => trivial⟩

end

/-! ### append -/

section
variable {P : Program}

/-- An append to a row of the call's own: either the row has grown where it lies, or a new row was laid and all old blocks are as they were. -/
theorem run_app (w : World) (B : Nat) (T ty e : TypeId) (t : Ty) (hT : TyOK P (.list t) T) (he : ElOK P T e) (v : Value) (n : Nat) (xs : List Value) (hown : w.ownsRow B e t.size v n xs)
    (A : Option Addr) (m c : Nat) (news : List Value) (hl : news.length = m * t.size) (hA : A = none → m = 0) (hnews : ∀ a, A = some a → ∀ j u, news[j]? = some u → w.cell? (a.add j) = some u) (h1 : ∀ u ∈ news, u.oneCell' = true)
    (hb : n + m ≤ 274877906944) (hbase : B ≤ w.heap.size) :
    ∃ v' w', (Builtin.append_ #[T, T] ty #[v, .slice A m c]).run P w = .ok v' w' ∧ w'.ownsRow B e t.size v' (n + m) (xs ++ news) ∧
      ((v'.ownBlock = v.ownBlock ∧ w.grownBy w' v.ownBlock) ∨ (v'.ownBlock = some w.heap.size ∧ w.grownBy w' none)) := by
  obtain ⟨he2, hpos⟩ := hT.el he
  unfold ElOK at he
  obtain ⟨i, i1, i2, i3, i4⟩ := he2.inf
  have hzc := mkV_cells (zcells_len t) (zcells_rd w (fun _ => 0) t).one
  have hzs : (mkV t t.zcells).cells.size = t.size := by
    have := congrArg List.length hzc
    rw [zcells_len] at this
    simpa using this
  have hlen : (xs ++ news).length = (n + m) * t.size := by rw [List.length_append, hown.1, hl, Nat.add_mul]
  have hby : (n + m) * i.bytes ≤ 140737488355328 := by
    have := Nat.mul_le_mul hb i4
    omega
  have stay : w.ownsRow B e t.size v (n + 0) (xs ++ []) := by simpa using hown
  have fresh : ∀ old, old < n + m → (w.drew.alloc (.cells (xs.toArray ++ news.toArray ++ Builtin.zeroCells (mkV t t.zcells).cells (grownCap w (n + m) old e - (n + m))) e)).ownsRow B e t.size
      (.slice (some ⟨w.heap.size, 0, none⟩) (n + m) (grownCap w (n + m) old e)) (n + m) (xs ++ news) := by
    intro old ho
    have hge := grownCap_ge w (n + m) old e
    have hcm : grownCap w (n + m) old e ≤ maxLen := grownCap_le_maxLen w (n + m) old e (by simp only [maxLen]; omega)
    refine ⟨hlen, .inr ⟨w.heap.size, _, _, rfl, hbase, heap_alloc_new w.drew _, hge, hcm, ?_, ?_⟩⟩
    · have e1 : (xs.toArray ++ news.toArray ++ Builtin.zeroCells (mkV t t.zcells).cells (grownCap w (n + m) old e - (n + m))).size = (n + m) * t.size + (grownCap w (n + m) old e - (n + m)) * t.size := by
        rw [Array.size_append, size_zeroCells, hzs, Array.size_append, List.size_toArray, List.size_toArray, ← hlen, List.length_append]
      rw [e1, ← Nat.add_mul]
      congr 1
      omega
    · rw [Array.toList_append, Array.toList_append]
      rw [← hlen]
      exact List.take_left
  rcases hown.2 with ⟨hv, h0⟩ | ⟨g, cap, cur, hv, hbg, hg, hnc, hcm, hcs, htk⟩
  · subst hv
    subst h0
    have hx : xs = [] := List.eq_nil_of_length_eq_zero (by simpa using hown.1)
    subst hx
    by_cases hm : m = 0
    · subst hm
      have hn : news = [] := List.eq_nil_of_length_eq_zero (by simpa using hl)
      subst hn
      refine ⟨.slice none 0 0, w, ?_, by simpa using stay, .inl ⟨rfl, rfl, rfl, rfl, Nat.le_refl _, fun _ _ _ => rfl⟩⟩
      cases A <;> simp [Builtin.append_, run_underlying he, sizeOf, typeInfo, i1, Builtin.lenOf, Builtin.firstCells, loadCells, loadCellsFrom]
    · cases A with
      | none => exact absurd (hA rfl) hm
      | some a =>
        have hr := run_append_nil (P := P) w T ty e i _ he i1 i3 a m c news (by rw [i2]; exact hl) (hnews a rfl) (by omega) (by omega) (by simp only [Nat.zero_add] at hby; omega)
        have hf := fresh 0 (by omega)
        simp only [Nat.zero_add, List.nil_append, Array.empty_append] at hf ⊢
        exact ⟨_, _, hr, hf, .inr ⟨rfl, rfl, rfl, rfl, by simp, fun k hk _ => heap_alloc_old w.drew _ k hk⟩⟩
  · subst hv
    by_cases hm : m = 0
    · subst hm
      have hn : news = [] := List.eq_nil_of_length_eq_zero (by simpa using hl)
      subst hn
      refine ⟨.slice (some ⟨g, 0, none⟩) n cap, w, ?_, by simpa using stay, .inl ⟨rfl, rfl, rfl, rfl, Nat.le_refl _, fun _ _ _ => rfl⟩⟩
      cases A <;> simp [Builtin.append_, run_underlying he, sizeOf, typeInfo, i1, Builtin.lenOf, Builtin.firstCells, loadCells, loadCellsFrom, hnc, storeCells]
    · cases A with
      | none => exact absurd (hA rfl) hm
      | some a =>
        by_cases hroom : n + m ≤ cap
        · have hfit : n * i.size + news.length ≤ cur.size := by rw [i2, hl, hcs, ← Nat.add_mul]; exact Nat.mul_le_mul_right _ hroom
          have hr := run_append_room (P := P) w T ty e i he i1 g n cap cur hg a m c news (by rw [i2]; exact hl) (hnews a rfl) h1 hroom hfit
          refine ⟨_, _, hr, ⟨hlen, .inr ⟨g, cap, _, rfl, hbg, setRow_heap w g cur _ e _ hg, hroom, hcm, ?_, ?_⟩⟩, .inl ⟨rfl, rfl, rfl, rfl, by simp, fun k _ hk => setRow_other w g k _ (fun e => hk (by simp [Value.ownBlock, e]))⟩⟩
          · rw [i2] at hfit ⊢
            simp only [List.size_toArray, List.length_append, List.length_take, List.length_drop, Array.length_toList]
            omega
          · rw [i2, htk, ← hlen]
            exact List.take_left
        · have hr := run_append_grow (P := P) w T ty e i _ he i1 i3 ⟨g, 0, none⟩ n cap xs (by rw [i2]; exact hown.1) (hown.cells (g := g) rfl) a m c news (by rw [i2]; exact hl) (hnews a rfl) (by omega) (by omega) (growslice_fits (by omega) hby)
          exact ⟨_, _, hr, fresh cap (by omega), .inr ⟨rfl, rfl, rfl, rfl, by simp, fun k hk _ => heap_alloc_old w.drew _ k hk⟩⟩
end

end Go.AL
/- append and calls on abstract frames, each with its soundness. A general part, over any program. -/
set_option linter.unusedSimpArgs false
set_option linter.unusedVariables false
namespace Go.AL
open Go.RowKit

theorem list_cells {w : World} {lim : Nat → Nat} {t : Ty} {A : Option Addr} : ∀ {ys : List t.den}, (∀ i (h : i < ys.length), ∃ a ds, A = some a ∧ At w lim (a.add (i * t.size)) ds ∧ ds.length = t.size ∧ Rd w lim t ds ys[i]) →
    ∀ k, k ≤ ys.length → ∃ news : List Value, news.length = k * t.size ∧ (∀ a, A = some a → ∀ j u, news[j]? = some u → w.cell? (a.add j) = some u) ∧ (∀ u ∈ news, u.oneCell' = true) ∧
      ∀ i (h : i < ys.length), i < k → Rd w lim t ((news.drop (i * t.size)).take t.size) ys[i] := by
  intro ys h k
  induction k with
  | zero => intro _; exact ⟨[], by simp, by simp, by simp, fun i _ hi => absurd hi (by omega)⟩
  | succ k ih =>
    intro hk
    obtain ⟨news, e1, e2, e3, e4⟩ := ih (by omega)
    obtain ⟨a, ds, a1, a2, a3, a4⟩ := h k (by omega)
    have hs : (k + 1) * t.size = k * t.size + t.size := Nat.succ_mul _ _
    refine ⟨news ++ ds, by rw [List.length_append, e1, a3, hs], ?_, ?_, ?_⟩
    · intro a' ha' j u hu
      rcases Nat.lt_or_ge j news.length with hj | hj
      · rw [List.getElem?_append_left hj] at hu
        exact e2 a' ha' j u hu
      · rw [List.getElem?_append_right hj] at hu
        rw [a1] at ha'
        injection ha' with ha'
        subst ha'
        have := (a2 _ u hu).1
        rw [add_add', e1] at this
        rwa [show k * t.size + (j - k * t.size) = j by omega] at this
    · intro u hu
      rcases List.mem_append.1 hu with hu | hu
      · exact e3 u hu
      · exact a4.one u hu
    · intro i hi hik
      rcases Nat.lt_or_ge i k with hlt | hge
      · have hin : i * t.size + t.size ≤ news.length := by
          rw [e1, ← Nat.succ_mul]; exact Nat.mul_le_mul_right _ hlt
        have : ((news ++ ds).drop (i * t.size)).take t.size = (news.drop (i * t.size)).take t.size := by
          rw [List.drop_append_of_le_length (by omega), List.take_append_of_le_length (by rw [List.length_drop]; omega)]
        rw [this]
        exact e4 i hi hlt
      · have : i = k := by omega
        subst this
        have : ((news ++ ds).drop (i * t.size)).take t.size = ds := by
          rw [List.drop_append, List.drop_of_length_le (by omega), e1, Nat.sub_self, List.drop_zero, List.nil_append, List.take_of_length_le (by omega)]
        rw [this]
        exact a4

section
variable {P : Program} {cx : Cx} {σ : St} {o : Oper} (hd : ∀ k, o.dst = some k → k < cx.N)

theorem RowOK.blk_own {w : World} {lim : Nat → Nat} {B : Nat} {e : TypeId} {t : Ty} {xs : List t.den} {v : Value} {n : Nat} {vs : List Value} (h : w.ownsRow B e t.size v n vs) : blk v = v.ownBlock := by
  rcases h.2 with ⟨h, _⟩ | ⟨g, cap, cur, h, _⟩ <;> rw [h] <;> rfl

theorem own_blk {w : World} {B : Nat} {e : TypeId} {size : Nat} {v : Value} {n : Nat} {vs : List Value} (h : w.ownsRow B e size v n vs) : blk v = v.ownBlock := by
  rcases h.2 with ⟨h, _⟩ | ⟨g, cap, cur, h, _⟩ <;> rw [h] <;> rfl

/-- The heart of an append: the world and what is settled in it, before and behind; m tells what of the row is settled. -/
theorem app_stepM (m : Nat → Nat) (hm1 : ∀ n, m n ≤ n) (hm2 : ∀ a b, a ≤ b → m a ≤ m b) {w : World} {lim : Nat → Nat} {B : Nat} {e T ty : TypeId} {t : Ty} (hT : TyOK P (.list t) T) (he : ElOK P T e) {xs ys : List t.den} {root x : Value} (hrow : RowOK w lim B e t xs root)
    (hlim : ∀ g, blk root = some g → lim g = m (xs.length * t.size)) (hx : RdV w lim (.list t) x ys) (hb : xs.length + ys.length ≤ 274877906944) (hB : B ≤ w.heap.size) :
    ∃ v' w' lim', (Builtin.append_ #[T, T] ty #[root, x]).run P w = .ok v' w' ∧ Keeps w lim w' lim' ∧ RowOK w' lim' B e t (xs ++ ys) v' ∧ (∀ g, blk v' = some g → lim' g = m ((xs ++ ys).length * t.size)) ∧
      Below B w w' ∧ (∀ g, g < w.heap.size → blk root ≠ some g → w'.heap[g]? = w.heap[g]? ∧ lim' g = lim g) ∧ (blk v' = blk root ∨ blk v' = some w.heap.size) := by
  obtain ⟨vs, hown, hpos, hrd⟩ := hrow
  obtain ⟨A, cap, x1, x2, x3, x4⟩ := hx.list
  subst x1
  obtain ⟨news, n1, n2, n3, n4⟩ := list_cells x4 ys.length (Nat.le_refl _)
  obtain ⟨v', w', r1, r2, r3⟩ := run_app w B T ty e t hT he root xs.length vs hown A ys.length cap news n1 (fun hA => by
    rcases Nat.eq_zero_or_pos ys.length with h0 | h0
    · exact h0
    · obtain ⟨a, _, ha, _⟩ := x4 0 h0
      rw [hA] at ha; cases ha) n2 n3 hb hB
  have b1 := own_blk hown
  have b2 := own_blk r2
  have hvl : vs.length = xs.length * t.size := hown.1
  have hk : Keeps w lim w' (fun b => if v'.ownBlock = some b then m ((xs ++ ys).length * t.size) else lim b) := by
    refine ⟨fun a u hc hlt => ?_, fun b hbl => ?_⟩
    · have hbl := World.block_lt_of_cell? _ _ hc
      rcases r3 with ⟨k1, k2⟩ | ⟨k1, k2⟩
      · by_cases hr : root.ownBlock = some a.block
        · have hl := hlim _ (b1.trans hr)
          rw [hl, ← hvl] at hlt
          have hlt := Nat.lt_of_lt_of_le hlt (hm1 _)
          have ea : (⟨a.block, 0, none⟩ : Addr).add a.off = ⟨a.block, a.off, none⟩ := by unfold Addr.add; split <;> simp_all
          have hsp : a = ⟨a.block, a.off, none⟩ := by
            cases a with
            | mk b o s =>
              cases s with
              | none => rfl
              | some s =>
                unfold World.cell? at hc
                split at hc
                · simp at hc
                · cases hc
          have c1 := hown.cells hr a.off _ (List.getElem?_eq_getElem hlt)
          rw [ea, ← hsp, hc] at c1
          injection c1 with c1
          have c2 := r2.cells (k1.trans hr) a.off u (by rw [List.getElem?_append_left hlt, List.getElem?_eq_getElem hlt, c1])
          rwa [ea, ← hsp] at c2
        · rw [World.cell?_of_block (w := w) (k2.block a.block hbl (fun e => hr e.symm))]; exact hc
      · rw [World.cell?_of_block (w := w) (k2.block a.block hbl (by simp))]; exact hc
    · show lim b ≤ (if v'.ownBlock = some b then m ((xs ++ ys).length * t.size) else lim b)
      split
      · rename_i hb'
        rcases r3 with ⟨k1, _⟩ | ⟨k1, _⟩
        · rw [hlim b (b1.trans (k1.symm.trans hb')), List.length_append]
          exact hm2 _ _ (Nat.mul_le_mul_right _ (by omega))
        · rw [k1] at hb'
          injection hb' with hb'
          omega
      · exact Nat.le_refl _
  refine ⟨v', w', fun b => if v'.ownBlock = some b then m ((xs ++ ys).length * t.size) else lim b, r1, hk, ?_, ?_, ?_, ?_, ?_⟩
  · refine ⟨vs ++ news, by rw [List.length_append]; exact r2, hpos, fun i hi => ?_⟩
    rcases Nat.lt_or_ge i xs.length with hlt | hge
    · have hin : i * t.size + t.size ≤ vs.length := by
        rw [hvl, ← Nat.succ_mul]; exact Nat.mul_le_mul_right _ hlt
      have : ((vs ++ news).drop (i * t.size)).take t.size = (vs.drop (i * t.size)).take t.size := by
        rw [List.drop_append_of_le_length (by omega), List.take_append_of_le_length (by rw [List.length_drop]; omega)]
      rw [this]
      have hg : (xs ++ ys)[i] = xs[i] := List.getElem_append_left hlt
      rw [hg]
      exact (hrd i hlt).keeps hk
    · have hi' : i - xs.length < ys.length := by rw [List.length_append] at hi; omega
      have hs : i * t.size = xs.length * t.size + (i - xs.length) * t.size := by rw [← Nat.add_mul]; congr 1; omega
      have : ((vs ++ news).drop (i * t.size)).take t.size = (news.drop ((i - xs.length) * t.size)).take t.size := by
        rw [List.drop_append, List.drop_of_length_le (by omega), List.nil_append]
        congr 2
        omega
      rw [this]
      have hg : (xs ++ ys)[i] = ys[i - xs.length] := List.getElem_append_right hge
      rw [hg]
      exact (n4 _ hi' hi').keeps hk
  · intro g hg
    rw [b2] at hg
    show (if v'.ownBlock = some g then _ else _) = _
    rw [if_pos hg]
  · have f : ∀ row : Option Nat, w.grownBy w' row → (∀ g, row = some g → B ≤ g) → Below B w w' := fun row k hr => (Below.refl B w).grown k hB hr
    rcases r3 with ⟨k1, k2⟩ | ⟨_, k2⟩
    · exact f _ k2 fun g hg => (hown.lt g hg).1
    · exact f _ k2 fun g hg => by cases hg
  · intro g hg hne
    have h1 : w'.heap[g]? = w.heap[g]? := by
      rcases r3 with ⟨k1, k2⟩ | ⟨_, k2⟩
      · exact k2.block g hg (fun e => hne (b1.trans e.symm))
      · exact k2.block g hg (by simp)
    refine ⟨h1, ?_⟩
    show (if v'.ownBlock = some g then _ else _) = _
    rw [if_neg]
    intro hv
    rcases r3 with ⟨k1, _⟩ | ⟨k1, _⟩
    · exact hne (b1.trans (k1.symm.trans hv))
    · rw [k1] at hv; injection hv with hv; omega
  · rw [b1, b2]
    rcases r3 with ⟨k1, _⟩ | ⟨k1, _⟩
    · exact .inl k1
    · exact .inr k1

theorem app_step {w : World} {lim : Nat → Nat} {B : Nat} {e T ty : TypeId} {t : Ty} (hT : TyOK P (.list t) T) (he : ElOK P T e) {xs ys : List t.den} {root x : Value} (hrow : RowOK w lim B e t xs root)
    (hlim : ∀ g, blk root = some g → lim g = xs.length * t.size) (hx : RdV w lim (.list t) x ys) (hb : xs.length + ys.length ≤ 274877906944) (hB : B ≤ w.heap.size) :
    ∃ v' w' lim', (Builtin.append_ #[T, T] ty #[root, x]).run P w = .ok v' w' ∧ Keeps w lim w' lim' ∧ RowOK w' lim' B e t (xs ++ ys) v' ∧ (∀ g, blk v' = some g → lim' g = (xs ++ ys).length * t.size) ∧
      Below B w w' ∧ (∀ g, g < w.heap.size → blk root ≠ some g → w'.heap[g]? = w.heap[g]? ∧ lim' g = lim g) ∧ (blk v' = blk root ∨ blk v' = some w.heap.size) :=
  app_stepM id (fun n => Nat.le_refl n) (fun _ _ h => h) hT he hrow hlim hx hb hB

include hd

theorem op_app {T e : TypeId} {t : Ty} {s x : Operand} {id0 id : Nat} {xs : List t.den} (ho : o.op = .call { callee := .builtin .append, args := #[s, x], argTypes := #[T, T] }) (hT : TyOK P (.list t) T) (he : ElOK P T e)
    (hc : σ.uc s) (hs : σ.un s = .own id0) (hr : σ.objs id0 = .row e t xs) (hx : σ.tc (.list t) x) (hu : σ.objs id = .unborn) (hb : xs.length + (σ.tv (.list t) x).length ≤ 274877906944) :
    OpOK P cx σ o ⟨.own id, [(id0, .dead), (id, .row e t (xs ++ σ.tv (.list t) x))]⟩ := by
  intro a w K Q hsat hK
  obtain ⟨lim, G, hh, hf⟩ := hsat
  have h1 := un_ok hf s hc
  rw [hs] at h1
  simp only [AVok, hr] at h1
  have h1 := h1.2 rfl
  have h2 := tc_ok hh hf hx
  have h3 := hh.obj id0
  rw [hr] at h3
  simp only [ObjOK] at h3
  obtain ⟨v', w', lim', k1, k2, k3, k4, k5, k6, k7⟩ := app_step (ty := o.type) hT he h3.1 h3.2 h2 hb (Nat.zero_le _)
  have hrun : (execOp a.eval o).run P w = .ok (.value v') w' := by
    simp only [execOp, ho, resolve, invoke, builtin, Sem.run_bind, Sem.run_pure, Result.andThen_ok, List.map_toArray, List.map_cons, List.map_nil, h1, k1]
  unfold Oper.wp
  rw [hrun]
  refine hK _ _ ?_
  have hne : id ≠ id0 := by rintro rfl; rw [hr] at hu; cases hu
  have hkill := hh.kill id0
  have hu' : (upd σ.objs id0 .dead) id = .unborn := by rw [upd_ne _ _ _ _ hne]; exact hu
  have hlive0 : (σ.objs id0).live = true := by rw [hr]; rfl
  have hnot : ∀ b, b < cx.B → ¬ cx.L b → blk (G id0) ≠ some b := fun b hlt hL hg => by
    rcases hh.mine id0 b hlive0 (by rw [hr]; exact hg) with h | h
    · omega
    · exact hL h
  have hbl : BelowL cx.L cx.B w w' := ⟨k5.os, k5.tape, k5.output, k5.size, fun b hlt hL => (k6 b (Nat.lt_of_lt_of_le hlt hh.B_le) (hnot b hlt hL)).1⟩
  have hold : ∀ i g, ((upd σ.objs id0 .dead) i).live = true → Blk ((upd σ.objs id0 .dead) i) (G i) g → w'.heap[g]? = w.heap[g]? ∧ lim' g = lim g := by
    intro i g hl hg
    have hi : i ≠ id0 := by rintro rfl; rw [upd_same] at hl; cases hl
    rw [upd_ne _ _ _ _ hi] at hl hg
    refine k6 g ((hh.obj i).block_ge hl g hg).2 fun hg0 => hh.sep i id0 g hi hl hlive0 hg (by rw [hr]; exact hg0)
  have hnew := hkill.new hu' (r := ⟨v', []⟩) (o := .row e t (xs ++ σ.tv (.list t) x)) (hh.below.trans hbl) k2 hold
    (fun b hlt hL => (k6 b (Nat.lt_of_lt_of_le hlt hh.B_le) (hnot b hlt hL)).2)
    (fun i g hl hg hv => by
      have hi : i ≠ id0 := by rintro rfl; rw [upd_same] at hl; cases hl
      rw [upd_ne _ _ _ _ hi] at hl hg
      have hv : blk v' = some g := hv
      have hlt := ((hh.obj i).block_ge hl g hg).2
      rcases k7 with k7 | k7
      · rw [k7] at hv; exact hh.sep i id0 g hi hl hlive0 hg (by rw [hr]; exact hv)
      · rw [k7] at hv; injection hv with hv; omega)
    (fun g hg => by
      have hg : blk v' = some g := hg
      rcases k7 with k7 | k7
      · rw [k7] at hg; exact hh.mine id0 g hlive0 (by rw [hr]; exact hg)
      · rw [k7] at hg; injection hg with hg; exact .inl (by have := hh.B_le; omega))
    (by simp only [ObjOK]; exact ⟨k3, k4⟩)
  have hfr := (hf.keeps (Keeps.refl w lim) (Ext.kill id0)).keeps k2 (Ext.new hu' ⟨v', []⟩ (.row e t (xs ++ σ.tv (.list t) x)))
  have e : σ.app o.dst ⟨.own id, [(id0, .dead), (id, .row e t (xs ++ σ.tv (.list t) x))]⟩ = ({ tmps := σ.tmps, objs := upd (upd σ.objs id0 .dead) id (.row e t (xs ++ σ.tv (.list t) x)) } : St).put o.dst (.own id) := by
    unfold St.app St.put
    cases o.dst <;> rfl
  rw [e]
  refine ⟨_, _, ?_, hfr.put hd (v := v') (by simp only [AVok, upd_same]; exact ⟨rfl, fun _ => trivial⟩)⟩
  rw [put_objs]
  exact hnew

theorem op_app_arr {T e : TypeId} {t : Ty} {s x : Operand} {id0 id : Nat} {xs : List t.den} (ho : o.op = .call { callee := .builtin .append, args := #[s, x], argTypes := #[T, T] }) (hT : TyOK P (.list t) T) (he : ElOK P T e)
    (hc : σ.uc s) (hs : σ.un s = .own id0) (hr : σ.objs id0 = .arr e t xs) (hx : σ.tc (.list t) x) (hu : σ.objs id = .unborn) (hb : xs.length + (σ.tv (.list t) x).length ≤ 274877906944) :
    OpOK P cx σ o ⟨.own id, [(id0, .dead), (id, .arr e t (xs ++ σ.tv (.list t) x))]⟩ := by
  intro a w K Q hsat hK
  obtain ⟨lim, G, hh, hf⟩ := hsat
  have h1 := un_ok hf s hc
  rw [hs] at h1
  simp only [AVok, hr] at h1
  have h1 := h1.2 rfl
  have h2 := tc_ok hh hf hx
  have h3 := hh.obj id0
  rw [hr] at h3
  simp only [ObjOK] at h3
  obtain ⟨v', w', lim', k1, k2, k3, k4, k5, k6, k7⟩ := app_stepM (fun _ => 0) (fun _ => Nat.zero_le _) (fun _ _ _ => Nat.le_refl _) (ty := o.type) hT he h3.1 h3.2 h2 hb (Nat.zero_le _)
  have hrun : (execOp a.eval o).run P w = .ok (.value v') w' := by
    simp only [execOp, ho, resolve, invoke, builtin, Sem.run_bind, Sem.run_pure, Result.andThen_ok, List.map_toArray, List.map_cons, List.map_nil, h1, k1]
  unfold Oper.wp
  rw [hrun]
  refine hK _ _ ?_
  have hne : id ≠ id0 := by rintro rfl; rw [hr] at hu; cases hu
  have hkill := hh.kill id0
  have hu' : (upd σ.objs id0 .dead) id = .unborn := by rw [upd_ne _ _ _ _ hne]; exact hu
  have hlive0 : (σ.objs id0).live = true := by rw [hr]; rfl
  have hnot : ∀ b, b < cx.B → ¬ cx.L b → blk (G id0) ≠ some b := fun b hlt hL hg => by
    rcases hh.mine id0 b hlive0 (by rw [hr]; exact hg) with h | h
    · omega
    · exact hL h
  have hbl : BelowL cx.L cx.B w w' := ⟨k5.os, k5.tape, k5.output, k5.size, fun b hlt hL => (k6 b (Nat.lt_of_lt_of_le hlt hh.B_le) (hnot b hlt hL)).1⟩
  have hold : ∀ i g, ((upd σ.objs id0 .dead) i).live = true → Blk ((upd σ.objs id0 .dead) i) (G i) g → w'.heap[g]? = w.heap[g]? ∧ lim' g = lim g := by
    intro i g hl hg
    have hi : i ≠ id0 := by rintro rfl; rw [upd_same] at hl; cases hl
    rw [upd_ne _ _ _ _ hi] at hl hg
    refine k6 g ((hh.obj i).block_ge hl g hg).2 fun hg0 => hh.sep i id0 g hi hl hlive0 hg (by rw [hr]; exact hg0)
  have hnew := hkill.new hu' (r := ⟨v', []⟩) (o := .arr e t (xs ++ σ.tv (.list t) x)) (hh.below.trans hbl) k2 hold
    (fun b hlt hL => (k6 b (Nat.lt_of_lt_of_le hlt hh.B_le) (hnot b hlt hL)).2)
    (fun i g hl hg hv => by
      have hi : i ≠ id0 := by rintro rfl; rw [upd_same] at hl; cases hl
      rw [upd_ne _ _ _ _ hi] at hl hg
      have hv : blk v' = some g := hv
      have hlt := ((hh.obj i).block_ge hl g hg).2
      rcases k7 with k7 | k7
      · rw [k7] at hv; exact hh.sep i id0 g hi hl hlive0 hg (by rw [hr]; exact hv)
      · rw [k7] at hv; injection hv with hv; omega)
    (fun g hg => by
      have hg : blk v' = some g := hg
      rcases k7 with k7 | k7
      · rw [k7] at hg; exact hh.mine id0 g hlive0 (by rw [hr]; exact hg)
      · rw [k7] at hg; injection hg with hg; exact .inl (by have := hh.B_le; omega))
    (by simp only [ObjOK]; exact ⟨k3, k4⟩)
  have hfr := (hf.keeps (Keeps.refl w lim) (Ext.kill id0)).keeps k2 (Ext.new hu' ⟨v', []⟩ (.arr e t (xs ++ σ.tv (.list t) x)))
  have e : σ.app o.dst ⟨.own id, [(id0, .dead), (id, .arr e t (xs ++ σ.tv (.list t) x))]⟩ = ({ tmps := σ.tmps, objs := upd (upd σ.objs id0 .dead) id (.arr e t (xs ++ σ.tv (.list t) x)) } : St).put o.dst (.own id) := by
    unfold St.app St.put
    cases o.dst <;> rfl
  rw [e]
  refine ⟨_, _, ?_, hfr.put hd (v := v') (by simp only [AVok, upd_same]; exact ⟨rfl, fun _ => trivial⟩)⟩
  rw [put_objs]
  exact hnew

theorem op_app_nil {T e : TypeId} {t : Ty} {s x : Operand} {id : Nat} (ho : o.op = .call { callee := .builtin .append, args := #[s, x], argTypes := #[T, T] }) (hT : TyOK P (.list t) T) (he : ElOK P T e)
    (hc : σ.uc s) (hs : σ.un s = .nils) (hx : σ.tc (.list t) x) (hu : σ.objs id = .unborn) (hb : (σ.tv (.list t) x).length ≤ 274877906944) :
    OpOK P cx σ o ⟨.own id, [(id, .row e t (σ.tv (.list t) x))]⟩ := by
  intro a w K Q hsat hK
  obtain ⟨lim, G, hh, hf⟩ := hsat
  have h1 := un_ok hf s hc
  rw [hs] at h1
  simp only [AVok] at h1
  have h2 := tc_ok hh hf hx
  obtain ⟨he2, hpos⟩ := hT.el he
  have hrow0 : RowOK w lim 0 e t [] (.slice none 0 0) := ⟨[], World.ownsRow_nil _ _ _ _, hpos, fun i h => absurd h (by simp)⟩
  obtain ⟨v', w', lim', k1, k2, k3, k4, k5, k6, k7⟩ := app_step (ty := o.type) hT he hrow0 (fun g hg => by cases hg) h2 (by simpa using hb) (Nat.zero_le _)
  simp only [List.nil_append] at k3 k4
  have hrun : (execOp a.eval o).run P w = .ok (.value v') w' := by
    simp only [execOp, ho, resolve, invoke, builtin, Sem.run_bind, Sem.run_pure, Result.andThen_ok, List.map_toArray, List.map_cons, List.map_nil, h1, k1]
  unfold Oper.wp
  rw [hrun]
  refine hK _ _ ?_
  have hold : ∀ i g, (σ.objs i).live = true → Blk (σ.objs i) (G i) g → w'.heap[g]? = w.heap[g]? ∧ lim' g = lim g := fun i g hl hg =>
    k6 g ((hh.obj i).block_ge hl g hg).2 fun hg0 => by cases hg0
  have hbl : BelowL cx.L cx.B w w' := ⟨k5.os, k5.tape, k5.output, k5.size, fun b hlt _ => (k6 b (Nat.lt_of_lt_of_le hlt hh.B_le) fun hg0 => by cases hg0).1⟩
  have hnew := hh.new hu (r := ⟨v', []⟩) (o := .row e t (σ.tv (.list t) x)) (hh.below.trans hbl) k2 hold (fun b hlt _ => (k6 b (Nat.lt_of_lt_of_le hlt hh.B_le) fun hg0 => by cases hg0).2)
    (fun i g hl hg hv => by
      have hv : blk v' = some g := hv
      have hlt := ((hh.obj i).block_ge hl g hg).2
      rcases k7 with k7 | k7
      · rw [k7] at hv; cases hv
      · rw [k7] at hv; injection hv with hv; omega)
    (fun g hg => by
      have hg : blk v' = some g := hg
      rcases k7 with k7 | k7
      · rw [k7] at hg; cases hg
      · rw [k7] at hg; injection hg with hg; exact .inl (by have := hh.B_le; omega))
    (by simp only [ObjOK]; exact ⟨k3, k4⟩)
  have hfr := hf.keeps k2 (Ext.new hu ⟨v', []⟩ (.row e t (σ.tv (.list t) x)))
  have e : σ.app o.dst ⟨.own id, [(id, .row e t (σ.tv (.list t) x))]⟩ = ({ tmps := σ.tmps, objs := upd σ.objs id (.row e t (σ.tv (.list t) x)) } : St).put o.dst (.own id) := by
    unfold St.app St.put
    cases o.dst <;> rfl
  rw [e]
  refine ⟨_, _, ?_, hfr.put hd (v := v') (by simp only [AVok, upd_same]; exact ⟨rfl, fun _ => trivial⟩)⟩
  rw [put_objs]
  exact hnew

end
end Go.AL
/- What a function answers, and calls. A general part, over any program. -/
set_option linter.unusedSimpArgs false
set_option linter.unusedVariables false
namespace Go.AL
open Go.RowKit

structure TV where
  t : Ty
  x : t.den

/-- What a call answers: something that reads, a new row of its own, structs and tuples of these. -/
inductive RV
  | rd (t : Ty) (x : t.den)
  | own (e : TypeId) (t : Ty) (xs : List t.den)
  | fresh (e : TypeId) (t : Ty) (xs : List t.den)
  | tl (e : TypeId) (t : Ty) (xs : List t.den)
  | deep (te : Ty → TypeId) (t : Ty) (xs : List t.den)
  | agg (rs : List RV)
  | tup (rs : List RV)
  deriving Inhabited

section
variable (w : World) (lim : Nat → Nat) (base : Nat)
mutual
def RVok : RV → Value → List Nat → Prop
  | .rd t x, v, fp => RdV w lim t v x ∧ fp = []
  | .own e t xs, v, fp => RowOK w lim base e t xs v ∧ (∀ g, blk v = some g → lim g = xs.length * t.size) ∧ fp = (blk v).toList
  | .fresh e t xs, v, fp => RowOK w lim base e t xs v ∧ (∀ g, blk v = some g → lim g = 0) ∧ fp = (blk v).toList
  | .tl e t xs, v, fp => TailOK w lim base e t xs v ∧ fp = (blk v).toList
  | .deep te t xs, v, fp => ∃ J, fp = (blk v).toList ++ J ∧ DeepOK w lim te t xs ⟨v, J⟩ ∧ ∀ g, g ∈ fp → base ≤ g
  | .agg rs, v, fp => ∃ vs : List Value, v = .agg vs.toArray ∧ RVsOk rs vs fp
  | .tup rs, v, fp => ∃ vs : List Value, v = .tuple vs.toArray ∧ RVsOk rs vs fp
def RVsOk : List RV → List Value → List Nat → Prop
  | [], vs, fp => vs = [] ∧ fp = []
  | r :: rs, vs, fp => ∃ v vr f1 f2, vs = v :: vr ∧ fp = f1 ++ f2 ∧ RVok r v f1 ∧ RVsOk rs vr f2
end
def ArgsOK : List TV → List Value → Prop
  | [], vs => vs = []
  | a :: as, vs => ∃ v r, vs = v :: r ∧ RdV w lim a.t v a.x ∧ ArgsOK as r
end

/-- The function f, called with values that read as args in whatever world, answers rv and turns nothing that was there. -/
def FunOK (P : Program) (f : FuncId) (args : List TV) (rv : RV) : Prop :=
  (∃ fn, P.funcs[f]? = some fn ∧ (fn.name == "runtime.NumGoroutine") = false ∧ fn.body.isNone = false) ∧
  ∀ (w : World) (lim : Nat → Nat) (vs : List Value), ArgsOK w lim args vs → Calls P f vs.toArray w fun e w' =>
    ∃ v lim' fp, e = .returned v ∧ Below w.heap.size w w' ∧ (∀ b, b < w.heap.size → lim' b = lim b) ∧ RVok w' lim' w.heap.size rv v fp ∧ fp.Nodup

mutual
def recvA (id : Nat) : RV → AV
  | .rd t x => .rd t x
  | .own _ _ _ => .own id
  | .fresh _ _ _ => .own id
  | .tl _ _ _ => .own id
  | .deep _ _ _ => .own id
  | .agg rs => .agg (recvAs id rs)
  | .tup rs => .tup (recvAs id rs)
def recvAs (id : Nat) : List RV → List AV
  | [] => []
  | r :: rs => recvA id r :: recvAs (id + rvN r) rs
def recvU (id : Nat) : RV → List (Nat × AObj)
  | .rd _ _ => []
  | .own e t xs => [(id, .row e t xs)]
  | .fresh e t xs => [(id, .arr e t xs)]
  | .tl e t xs => [(id, .tl e t xs)]
  | .deep te t xs => [(id, .deep te t xs)]
  | .agg rs => recvUs id rs
  | .tup rs => recvUs id rs
def recvUs (id : Nat) : List RV → List (Nat × AObj)
  | [] => []
  | r :: rs => recvU id r ++ recvUs (id + rvN r) rs
def rvN : RV → Nat
  | .rd _ _ => 0
  | .own _ _ _ => 1
  | .fresh _ _ _ => 1
  | .tl _ _ _ => 1
  | .deep _ _ _ => 1
  | .agg rs => rvNs rs
  | .tup rs => rvNs rs
def rvNs : List RV → Nat
  | [] => 0
  | r :: rs => rvN r + rvNs rs
end

theorem updAll_append (f : Nat → AObj) : ∀ a b : List (Nat × AObj), updAll f (a ++ b) = updAll (updAll f a) b
  | [], _ => rfl
  | u :: a, b => updAll_append (upd f u.1 u.2) a b

mutual
theorem recvU_out (id : Nat) : ∀ (rv : RV) (f : Nat → AObj) (j : Nat), j < id ∨ id + rvN rv ≤ j → updAll f (recvU id rv) j = f j
  | .rd _ _, f, j, _ => by simp only [recvU, updAll]
  | .own e t xs, f, j, h => by
    simp only [recvU, updAll, rvN] at h ⊢
    exact upd_ne _ _ _ _ (by omega)
  | .fresh e t xs, f, j, h => by
    simp only [recvU, updAll, rvN] at h ⊢
    exact upd_ne _ _ _ _ (by omega)
  | .tl e t xs, f, j, h => by
    simp only [recvU, updAll, rvN] at h ⊢
    exact upd_ne _ _ _ _ (by omega)
  | .deep te t xs, f, j, h => by
    simp only [recvU, updAll, rvN] at h ⊢
    exact upd_ne _ _ _ _ (by omega)
  | .agg rs, f, j, h => by simp only [recvU, rvN] at h ⊢; exact recvUs_out id rs f j h
  | .tup rs, f, j, h => by simp only [recvU, rvN] at h ⊢; exact recvUs_out id rs f j h
theorem recvUs_out (id : Nat) : ∀ (rs : List RV) (f : Nat → AObj) (j : Nat), j < id ∨ id + rvNs rs ≤ j → updAll f (recvUs id rs) j = f j
  | [], f, j, _ => by simp only [recvUs, updAll]
  | r :: rs, f, j, h => by
    simp only [recvUs, rvNs, updAll_append] at h ⊢
    rw [recvUs_out (id + rvN r) rs _ j (by omega), recvU_out id r f j (by omega)]
end

theorem Ext.trans {G G' G'' : Nat → Rt} {o o' o'' : Nat → AObj} (h : Ext G o G' o') (k : Ext G' o' G'' o'') : Ext G o G'' o'' := by
  intro i hb
  obtain ⟨h1, h2⟩ := h i hb
  obtain ⟨k1, k2⟩ := k i h1
  exact ⟨k1, fun hl => ⟨(h2 (k2 hl).1).1, (k2 hl).2.trans (h2 (k2 hl).1).2⟩⟩

section
variable {cx : Cx} {w : World} {lim : Nat → Nat} {base : Nat}

theorem RowOK.lower {B : Nat} (hB : B ≤ base) {e : TypeId} {t : Ty} {xs : List t.den} {v : Value} (h : RowOK w lim base e t xs v) : RowOK w lim B e t xs v := by
  obtain ⟨vs, ⟨h1, h2⟩, h3⟩ := h
  refine ⟨vs, ⟨h1, ?_⟩, h3⟩
  rcases h2 with h2 | ⟨g, cap, cur, a, b, c⟩
  · exact .inl h2
  · exact .inr ⟨g, cap, cur, a, by omega, c⟩

theorem TailOK.lower {B : Nat} (hB : B ≤ base) {e : TypeId} {t : Ty} {xs : List t.den} {v : Value} (h : TailOK w lim base e t xs v) : TailOK w lim B e t xs v := by
  obtain ⟨h0, h | ⟨g, off, cap, cur, h1, h2, h3⟩⟩ := h
  · exact ⟨h0, .inl h⟩
  · exact ⟨h0, .inr ⟨g, off, cap, cur, h1, Nat.le_trans hB h2, h3⟩⟩
theorem TailOK.blk_ge {e : TypeId} {t : Ty} {xs : List t.den} {v : Value} (h : TailOK w lim base e t xs v) : ∀ g, blk v = some g → base ≤ g := by
  intro g hg
  obtain ⟨h0, h | ⟨g', off, cap, cur, h1, h2, h3⟩⟩ := h
  · rw [h.1] at hg; cases hg
  · rw [h1] at hg
    injection hg with hg
    subst hg
    exact h2
theorem TailOK.raise {e : TypeId} {t : Ty} {xs : List t.den} {v : Value} {B : Nat} (h : TailOK w lim base e t xs v) (hg : ∀ g, blk v = some g → B ≤ g) : TailOK w lim B e t xs v := by
  obtain ⟨h0, h | ⟨g, off, cap, cur, h1, h2, h3⟩⟩ := h
  · exact ⟨h0, .inl h⟩
  · exact ⟨h0, .inr ⟨g, off, cap, cur, h1, hg g (by rw [h1]; rfl), h3⟩⟩
/-- A row is a tail of itself. -/
theorem RowOK.tail {B : Nat} {e : TypeId} {t : Ty} {xs : List t.den} {v : Value} (h : RowOK w lim B e t xs v) (hl : ∀ g, blk v = some g → lim g = xs.length * t.size) : TailOK w lim B e t xs v := by
  obtain ⟨vs, ⟨h1, h2⟩, h3, h4⟩ := h
  refine ⟨h3, ?_⟩
  rcases h2 with ⟨h2, h0⟩ | ⟨g, cap, cur, hr, hb, hh, hnc, hcm, hcs, htk⟩
  · exact .inl ⟨h2, h0⟩
  · refine .inr ⟨g, 0, cap, cur, hr, hb, hh, hnc, hcm, by omega, fun _ => by rw [hl g (by rw [hr]; rfl)]; omega, fun i hi => ?_⟩
    have hin : i * t.size + t.size ≤ xs.length * t.size := by
      rw [← Nat.succ_mul]; exact Nat.mul_le_mul_right _ hi
    have := h4 i hi
    rw [← htk, List.drop_take, List.take_take, Nat.min_eq_left (by omega)] at this
    rw [Nat.zero_add]
    exact this

theorem RowOK.blk_ge {e : TypeId} {t : Ty} {xs : List t.den} {v : Value} (h : RowOK w lim base e t xs v) : ∀ g, blk v = some g → base ≤ g := by
  intro g hg
  obtain ⟨vs, hown, _⟩ := h
  rw [own_blk hown] at hg
  exact (hown.lt g hg).1

theorem RowOK.raise {e : TypeId} {t : Ty} {xs : List t.den} {v : Value} {B : Nat} (h : RowOK w lim base e t xs v) (hg : ∀ g, blk v = some g → B ≤ g) : RowOK w lim B e t xs v := by
  obtain ⟨vs, ⟨h1, h2⟩, h3⟩ := h
  refine ⟨vs, ⟨h1, ?_⟩, h3⟩
  rcases h2 with h2 | ⟨g, cap, cur, a, b, c⟩
  · exact .inl h2
  · exact .inr ⟨g, cap, cur, a, hg g (by rw [a]; rfl), c⟩

mutual
theorem recv_ok (hB : cx.B ≤ base) : ∀ (rv : RV) (v : Value) (fp : List Nat) (objs : Nat → AObj) (G : Nat → Rt) (id : Nat), Hp cx objs w lim G → RVok w lim base rv v fp → fp.Nodup →
    (∀ i g, (objs i).live = true → Blk (objs i) (G i) g → g ∉ fp) → (∀ j, id ≤ j → j < id + rvN rv → objs j = .unborn) →
    ∃ G', Hp cx (updAll objs (recvU id rv)) w lim G' ∧ Ext G objs G' (updAll objs (recvU id rv)) ∧ AVok w lim G' (updAll objs (recvU id rv)) (recvA id rv) v ∧
      (∀ i g, ((updAll objs (recvU id rv)) i).live = true → Blk ((updAll objs (recvU id rv)) i) (G' i) g → ((objs i).live = true ∧ Blk (objs i) (G i) g) ∨ g ∈ fp)
  | .rd t x, v, fp, objs, G, id, hh, hr, _, _, _ => by
    simp only [RVok] at hr
    simp only [recvU, updAll, recvA, AVok]
    exact ⟨G, hh, Ext.refl _ _, hr.1, fun i g h1 h2 => .inl ⟨h1, h2⟩⟩
  | .own e t xs, v, fp, objs, G, id, hh, hr, hnd, hsep, hub => by
    simp only [RVok] at hr
    obtain ⟨r1, r2, r3⟩ := hr
    have hu := hub id (Nat.le_refl _) (by simp [rvN])
    simp only [recvU, updAll, recvA]
    refine ⟨upd G id ⟨v, []⟩, hh.new hu hh.below (Keeps.refl w lim) (fun _ _ _ _ => ⟨rfl, rfl⟩) (fun _ _ _ => rfl) (fun i g hl hg hv => ?_) (fun g hg => .inl (Nat.le_trans hB (r1.blk_ge g hg))) (by simp only [ObjOK]; exact ⟨RowOK.lower (Nat.zero_le _) r1, r2⟩), Ext.new hu _ _, ?_, fun i g hl hg => ?_⟩
    · refine hsep i g hl hg ?_
      have hv : blk v = some g := hv
      rw [r3, hv]; simp
    · simp only [AVok, upd_same]
      exact ⟨rfl, fun _ => trivial⟩
    · by_cases e : i = id
      · subst e
        rw [upd_same, upd_same] at hg
        have hg : blk v = some g := hg
        right
        rw [r3, hg]; simp
      · rw [upd_ne _ _ _ _ e] at hl
        rw [upd_ne _ _ _ _ e, upd_ne _ _ _ _ e] at hg
        exact .inl ⟨hl, hg⟩
  | .fresh e t xs, v, fp, objs, G, id, hh, hr, hnd, hsep, hub => by
    simp only [RVok] at hr
    obtain ⟨r1, r2, r3⟩ := hr
    have hu := hub id (Nat.le_refl _) (by simp [rvN])
    simp only [recvU, updAll, recvA]
    refine ⟨upd G id ⟨v, []⟩, hh.new hu hh.below (Keeps.refl w lim) (fun _ _ _ _ => ⟨rfl, rfl⟩) (fun _ _ _ => rfl) (fun i g hl hg hv => ?_) (fun g hg => .inl (Nat.le_trans hB (r1.blk_ge g hg))) (by simp only [ObjOK]; exact ⟨RowOK.lower (Nat.zero_le _) r1, r2⟩), Ext.new hu _ _, ?_, fun i g hl hg => ?_⟩
    · refine hsep i g hl hg ?_
      have hv : blk v = some g := hv
      rw [r3, hv]; simp
    · simp only [AVok, upd_same]
      exact ⟨rfl, fun _ => trivial⟩
    · by_cases e : i = id
      · subst e
        rw [upd_same, upd_same] at hg
        have hg : blk v = some g := hg
        right
        rw [r3, hg]; simp
      · rw [upd_ne _ _ _ _ e] at hl
        rw [upd_ne _ _ _ _ e, upd_ne _ _ _ _ e] at hg
        exact .inl ⟨hl, hg⟩
  | .tl e t xs, v, fp, objs, G, id, hh, hr, hnd, hsep, hub => by
    simp only [RVok] at hr
    obtain ⟨r1, r3⟩ := hr
    have hu := hub id (Nat.le_refl _) (by simp [rvN])
    simp only [recvU, updAll, recvA]
    refine ⟨upd G id ⟨v, []⟩, hh.new hu hh.below (Keeps.refl w lim) (fun _ _ _ _ => ⟨rfl, rfl⟩) (fun _ _ _ => rfl) (fun i g hl hg hv => ?_) (fun g hg => .inl (Nat.le_trans hB (r1.blk_ge g hg))) (by simp only [ObjOK]; exact TailOK.lower (Nat.zero_le _) r1), Ext.new hu _ _, ?_, fun i g hl hg => ?_⟩
    · refine hsep i g hl hg ?_
      have hv : blk v = some g := hv
      rw [r3, hv]; simp
    · simp only [AVok, upd_same]
      exact ⟨rfl, fun _ => trivial⟩
    · by_cases e : i = id
      · subst e
        rw [upd_same, upd_same] at hg
        have hg : blk v = some g := hg
        right
        rw [r3, hg]; simp
      · rw [upd_ne _ _ _ _ e] at hl
        rw [upd_ne _ _ _ _ e, upd_ne _ _ _ _ e] at hg
        exact .inl ⟨hl, hg⟩
  | .deep te t xs, v, fp, objs, G, id, hh, hr, hnd, hsep, hub => by
    simp only [RVok] at hr
    obtain ⟨J, r3, r1, r2⟩ := hr
    have hu := hub id (Nat.le_refl _) (by simp [rvN])
    simp only [recvU, updAll, recvA]
    refine ⟨upd G id ⟨v, J⟩, hh.new hu hh.below (Keeps.refl w lim) (fun _ _ _ _ => ⟨rfl, rfl⟩) (fun _ _ _ => rfl) (fun i g hl hg hv => ?_) (fun g hg => .inl (Nat.le_trans hB (r2 g (by rw [r3]; exact hg)))) (by simp only [ObjOK]; exact ⟨r1, fun _ _ => Nat.zero_le _⟩), Ext.new hu _ _, ?_, fun i g hl hg => ?_⟩
    · refine hsep i g hl hg ?_
      rw [r3]; exact hv
    · simp only [AVok, upd_same]
      exact ⟨rfl, fun _ => trivial⟩
    · by_cases e : i = id
      · subst e
        rw [upd_same, upd_same] at hg
        right
        rw [r3]; exact hg
      · rw [upd_ne _ _ _ _ e] at hl
        rw [upd_ne _ _ _ _ e, upd_ne _ _ _ _ e] at hg
        exact .inl ⟨hl, hg⟩
  | .agg rs, v, fp, objs, G, id, hh, hr, hnd, hsep, hub => by
    simp only [RVok] at hr
    obtain ⟨vs, h1, h2⟩ := hr
    obtain ⟨G', a, b, c, d⟩ := recvs_ok hB rs vs fp objs G id hh h2 hnd hsep (by simpa only [rvN] using hub)
    simp only [recvU, recvA, AVok]
    exact ⟨G', a, b, ⟨vs, h1, c⟩, d⟩
  | .tup rs, v, fp, objs, G, id, hh, hr, hnd, hsep, hub => by
    simp only [RVok] at hr
    obtain ⟨vs, h1, h2⟩ := hr
    obtain ⟨G', a, b, c, d⟩ := recvs_ok hB rs vs fp objs G id hh h2 hnd hsep (by simpa only [rvN] using hub)
    simp only [recvU, recvA, AVok]
    exact ⟨G', a, b, ⟨vs, h1, c⟩, d⟩
theorem recvs_ok (hB : cx.B ≤ base) : ∀ (rs : List RV) (vs : List Value) (fp : List Nat) (objs : Nat → AObj) (G : Nat → Rt) (id : Nat), Hp cx objs w lim G → RVsOk w lim base rs vs fp → fp.Nodup →
    (∀ i g, (objs i).live = true → Blk (objs i) (G i) g → g ∉ fp) → (∀ j, id ≤ j → j < id + rvNs rs → objs j = .unborn) →
    ∃ G', Hp cx (updAll objs (recvUs id rs)) w lim G' ∧ Ext G objs G' (updAll objs (recvUs id rs)) ∧ AVsOk w lim G' (updAll objs (recvUs id rs)) (recvAs id rs) vs ∧
      (∀ i g, ((updAll objs (recvUs id rs)) i).live = true → Blk ((updAll objs (recvUs id rs)) i) (G' i) g → ((objs i).live = true ∧ Blk (objs i) (G i) g) ∨ g ∈ fp)
  | [], vs, fp, objs, G, id, hh, hr, _, _, _ => by
    simp only [RVsOk] at hr
    simp only [recvUs, updAll, recvAs, AVsOk]
    exact ⟨G, hh, Ext.refl _ _, hr.1, fun i g h1 h2 => .inl ⟨h1, h2⟩⟩
  | r :: rs, vs, fp, objs, G, id, hh, hr, hnd, hsep, hub => by
    simp only [RVsOk] at hr
    obtain ⟨v, vr, f1, f2, e1, e2, h1, h2⟩ := hr
    subst e1
    subst e2
    rw [List.nodup_append] at hnd
    obtain ⟨n1, n2, n3⟩ := hnd
    simp only [rvNs] at hub
    obtain ⟨G1, a1, b1, c1, d1⟩ := recv_ok hB r v f1 objs G id hh h1 n1 (fun i g hl hg hin => hsep i g hl hg (List.mem_append_left _ hin)) (fun j j1 j2 => hub j j1 (by omega))
    obtain ⟨G2, a2, b2, c2, d2⟩ := recvs_ok hB rs vr f2 (updAll objs (recvU id r)) G1 (id + rvN r) a1 h2 n2
      (fun i g hl hg hin => by
        rcases d1 i g hl hg with ⟨l1, l2⟩ | l
        · exact hsep i g l1 l2 (List.mem_append_right _ hin)
        · exact n3 g l g hin rfl)
      (fun j j1 j2 => by rw [recvU_out id r objs j (by omega)]; exact hub j (by omega) (by omega))
    simp only [recvUs, updAll_append, recvAs, AVsOk]
    refine ⟨G2, a2, b1.trans b2, ⟨v, vr, rfl, AVok.keeps (Keeps.refl w lim) b2 _ _ c1, c2⟩, fun i g hl hg => ?_⟩
    rcases d2 i g hl hg with ⟨l1, l2⟩ | l
    · rcases d1 i g l1 l2 with l | l
      · exact .inl l
      · exact .inr (List.mem_append_left _ l)
    · exact .inr (List.mem_append_right _ l)
end
end

section
variable {w : World} {lim : Nat → Nat} {base : Nat}
mutual
theorem rv_ge : ∀ (rv : RV) (v : Value) (fp : List Nat), RVok w lim base rv v fp → ∀ g ∈ fp, base ≤ g
  | .rd t x, v, fp, h, g, hg => by simp only [RVok] at h; rw [h.2] at hg; cases hg
  | .own e t xs, v, fp, h, g, hg => by
    simp only [RVok] at h
    obtain ⟨⟨vs, hown, _⟩, _, h3⟩ := h
    rw [h3, own_blk hown] at hg
    cases hob : v.ownBlock with
    | none => rw [hob] at hg; cases hg
    | some g' =>
      rw [hob] at hg
      have : g = g' := by simpa using hg
      subst this
      exact (hown.lt g hob).1
  | .fresh e t xs, v, fp, h, g, hg => by
    simp only [RVok] at h
    obtain ⟨h1, _, h3⟩ := h
    rw [h3] at hg
    exact h1.blk_ge g (by simpa using hg)
  | .tl e t xs, v, fp, h, g, hg => by
    simp only [RVok] at h
    obtain ⟨h1, h3⟩ := h
    rw [h3] at hg
    exact h1.blk_ge g (by simpa using hg)
  | .deep te t xs, v, fp, h, g, hg => by
    simp only [RVok] at h
    obtain ⟨J, _, _, h3⟩ := h
    exact h3 g hg
  | .agg rs, v, fp, h, g, hg => by simp only [RVok] at h; obtain ⟨vs, _, h⟩ := h; exact rvs_ge rs vs fp h g hg
  | .tup rs, v, fp, h, g, hg => by simp only [RVok] at h; obtain ⟨vs, _, h⟩ := h; exact rvs_ge rs vs fp h g hg
theorem rvs_ge : ∀ (rs : List RV) (vs : List Value) (fp : List Nat), RVsOk w lim base rs vs fp → ∀ g ∈ fp, base ≤ g
  | [], vs, fp, h, g, hg => by simp only [RVsOk] at h; rw [h.2] at hg; cases hg
  | r :: rs, vs, fp, h, g, hg => by
    simp only [RVsOk] at h
    obtain ⟨v, vr, f1, f2, _, e2, h1, h2⟩ := h
    subst e2
    rcases List.mem_append.1 hg with hg | hg
    · exact rv_ge r v f1 h1 g hg
    · exact rvs_ge rs vr f2 h2 g hg
end
end

section
variable {P : Program} {cx : Cx} {σ : St} {o : Oper} (hd : ∀ k, o.dst = some k → k < cx.N)

/-- The arguments of a call, read at their types. -/
def argD (σ : St) (tb : Tb) : List (Operand × TypeId) → List TV
  | [] => []
  | p :: r => ⟨tb.ty p.2, σ.tv (tb.ty p.2) p.1⟩ :: argD σ tb r

def argC (σ : St) (tb : Tb) : List (Operand × TypeId) → Prop
  | [] => True
  | p :: r => σ.tc (tb.ty p.2) p.1 ∧ argC σ tb r

theorem arg_ok {a : Act} {w : World} {lim : Nat → Nat} {G : Nat → Rt} (hh : Hp cx σ.objs w lim G) (hf : Fr cx σ a w lim G) (tb : Tb) : ∀ (l : List (Operand × TypeId)), argC σ tb l → ArgsOK w lim (argD σ tb l) (l.map fun p => a.eval p.1)
  | [], _ => by simp only [ArgsOK, argD, List.map_nil]
  | p :: r, h => by
    simp only [ArgsOK, argD, List.map_cons]
    exact ⟨_, _, rfl, tc_ok hh hf h.1, arg_ok hh hf tb r h.2⟩

theorem map_zip {α β γ : Type} (f : α → γ) : ∀ (as : List α) (ts : List β), as.length = ts.length → (as.zip ts).map (fun p => f p.1) = as.map f
  | [], _, _ => by simp
  | a :: as, [], h => by simp at h
  | a :: as, t :: ts, h => by simp [map_zip f as ts (by simpa using h)]

include hd

theorem op_call {f : FuncId} {as : List Operand} {ts : List TypeId} {tb : Tb} {rv : RV} {id : Nat} (ho : o.op = .call { callee := .value (.func f), args := as.toArray, argTypes := ts.toArray }) (hl : as.length = ts.length)
    (hc : argC σ tb (as.zip ts)) (hfun : FunOK P f (argD σ tb (as.zip ts)) rv) (hub : ∀ j, id ≤ j → j < id + rvN rv → σ.objs j = .unborn) :
    OpOK P cx σ o ⟨recvA id rv, recvU id rv⟩ := by
  intro a w K Q hsat hK
  obtain ⟨lim, G, hh, hf⟩ := hsat
  obtain ⟨⟨fn, hfn, hnm, hbd⟩, hcall⟩ := hfun
  have hargs := arg_ok hh hf tb _ hc
  have e1 : (as.zip ts).map (fun p => a.eval p.1) = as.map a.eval := map_zip a.eval as ts hl
  rw [e1] at hargs
  have hcalls := hcall w lim _ hargs
  have hrun : (execOp a.eval o).run P w = .ok (.enter f (as.map a.eval).toArray) w := by
    have hnm' : ¬ fn.name = "runtime.NumGoroutine" := by simpa using hnm
    have hbd' : ¬ fn.body = none := by intro h; rw [h] at hbd; cases hbd
    simp [execOp, ho, resolve, invoke, callFunc, Act.eval, Deferred.ofValue, hfn, hnm', hbd']
  unfold Oper.wp
  rw [hrun]
  simp only [Oper.upon]
  refine hcalls.mono fun e w' hpost => ?_
  obtain ⟨v, lim', fp, he, hb, hl', hrv, hnd⟩ := hpost
  subst he
  refine hK _ _ ?_
  obtain ⟨hh', hk⟩ := hh.world hb hl'
  have hf' := hf.keeps hk (Ext.refl G σ.objs)
  have hsep : ∀ i g, (σ.objs i).live = true → Blk (σ.objs i) (G i) g → g ∉ fp := by
    intro i g hlv hg hin
    have h1 := ((hh.obj i).block_ge hlv g hg).2
    have h2 : w.heap.size ≤ g := by
      exact rv_ge rv v fp hrv g hin
    omega
  obtain ⟨G', a1, a2, a3, _⟩ := recv_ok (cx := cx) hh.B_le rv v fp σ.objs G id hh' hrv hnd hsep hub
  have e : σ.app o.dst ⟨recvA id rv, recvU id rv⟩ = ({ tmps := σ.tmps, objs := updAll σ.objs (recvU id rv) } : St).put o.dst (recvA id rv) := by
    unfold St.app St.put
    cases o.dst <;> rfl
  rw [e]
  refine ⟨lim', G', ?_, (hf'.keeps (Keeps.refl w' lim') a2).put hd a3⟩
  rw [put_objs]
  exact a1

end
end Go.AL
/- New arrays of the call's own: made, written element by element, settled at last. A general part, over any program. -/
set_option linter.unusedSimpArgs false
set_option linter.unusedVariables false
namespace Go.AL
open Go.RowKit

theorem seg_set {α : Type} (cur cs : List α) (s i j n : Nat) (hcs : cs.length = s) (hi : i < n) (hj : j < n) (hlen : n * s ≤ cur.length) :
    (((cur.take (i * s) ++ cs ++ cur.drop (i * s + s)).take (n * s)).drop (j * s)).take s = if j = i then cs else ((cur.take (n * s)).drop (j * s)).take s := by
  have h1 : (i + 1) * s ≤ n * s := Nat.mul_le_mul_right _ hi
  have h2 : (j + 1) * s ≤ n * s := Nat.mul_le_mul_right _ hj
  rw [Nat.succ_mul] at h1 h2
  have ht : (cur.take (i * s)).length = i * s := by rw [List.length_take]; omega
  apply List.ext_getElem?
  intro k
  rw [List.getElem?_take, List.getElem?_drop, List.getElem?_take]
  rcases Nat.lt_or_ge k s with hk | hk
  · rw [if_pos hk, if_pos (show j * s + k < n * s by omega), List.append_assoc]
    rcases Nat.lt_trichotomy j i with hlt | heq | hgt
    · have h3 : (j + 1) * s ≤ i * s := Nat.mul_le_mul_right _ hlt
      rw [Nat.succ_mul] at h3
      rw [if_neg (show ¬ j = i by omega), List.getElem?_append_left (by omega), List.getElem?_take, if_pos (show j * s + k < i * s by omega), List.getElem?_take, if_pos hk, List.getElem?_drop, List.getElem?_take, if_pos (show j * s + k < n * s by omega)]
    · subst heq
      rw [if_pos rfl, List.getElem?_append_right (by omega), List.getElem?_append_left (by omega), ht, show j * s + k - j * s = k by omega]
    · have h3 : (i + 1) * s ≤ j * s := Nat.mul_le_mul_right _ hgt
      rw [Nat.succ_mul] at h3
      rw [if_neg (show ¬ j = i by omega), List.getElem?_append_right (by omega), List.getElem?_append_right (by omega), List.getElem?_drop, List.getElem?_take, if_pos hk, List.getElem?_drop, List.getElem?_take, if_pos (show j * s + k < n * s by omega), ht, hcs]
      congr 1
      omega
  · rw [if_neg (by omega)]
    split
    · rw [List.getElem?_eq_none (by omega)]
    · rw [List.getElem?_take, if_neg (by omega)]

section
variable {P : Program} {cx : Cx} {σ : St} {o : Oper} (hd : ∀ k, o.dst = some k → k < cx.N)
include hd

theorem op_make {T e : TypeId} {l c : Operand} {t : Ty} {id n : Nat} (ho : o.op = .makeSlice T l c) (hT : TyOK P (.list t) T) (he : ElOK P T e) (hl : σ.tc (.int .i64) l) (hc : σ.tc (.int .i64) c)
    (h1 : σ.ti .i64 l = n) (h2 : σ.ti .i64 c = n) (hn : n ≤ 274877906944) (hu : σ.objs id = .unborn) :
    OpOK P cx σ o ⟨.own id, [(id, .arr e t (List.replicate n t.dflt))]⟩ :=
  OpOK.of_alloc hd hu fun a w lim G hh hf => by
    obtain ⟨he2, hpos⟩ := hT.el he
    obtain ⟨inf, i1, i2, i3, i4⟩ := he2.inf
    have l1 := (tc_int hh hf hl).1
    have c1 := (tc_int hh hf hc).1
    rw [h1] at l1
    rw [h2] at c1
    have hb : (inf.bytes : Int) * (n : Int) ≤ 281474976710656 := by
      have : inf.bytes * n ≤ 256 * 274877906944 := Nat.mul_le_mul i4 hn
      have h3 : ((inf.bytes * n : Nat) : Int) ≤ 281474976710656 := by omega
      rwa [Int.natCast_mul] at h3
    have hr := run_make (P := P) w T e inf _ he i1 i3 .i64 .i64 n n (by omega) (Int.le_refl _) hb (by omega)
    simp only [Int.toNat_natCast] at hr
    rw [i2] at hr
    have hz : (mkV t t.zcells).cells.toList = t.zcells := mkV_cells (zcells_len t) (zcells_rd w lim t).one
    have hzs : (mkV t t.zcells).cells.size = t.size := by rw [← Array.length_toList, hz, zcells_len]
    refine ⟨madeCells (mkV t t.zcells).cells (n * t.size), e, 0, .slice (some ⟨w.heap.size, 0, none⟩) n n, .slice (some ⟨w.heap.size, 0, none⟩) n n, ?_, rfl, ?_, ?_⟩
    rotate_left
    · simp only [ObjOK]
      refine ⟨⟨(madeCells (mkV t t.zcells).cells (n * t.size)).toList, ⟨by simp [size_madeCells], .inr ⟨w.heap.size, n, _, by simp, Nat.zero_le _, heap_alloc_new w _, by simp, by simp only [maxLen]; omega, size_madeCells _ _, ?_⟩⟩, hpos, fun i hi => ?_⟩, fun g hg => ?_⟩
      · rw [List.length_replicate, List.take_of_length_le (by simp [size_madeCells])]
      · have hin : i < n := by simpa using hi
        have h3 : (i + 1) * t.size ≤ n * t.size := Nat.mul_le_mul_right _ hin
        rw [Nat.succ_mul] at h3
        have : ((madeCells (mkV t t.zcells).cells (n * t.size)).toList.drop (i * t.size)).take t.size = t.zcells := by
          apply List.ext_getElem?
          intro k
          rw [List.getElem?_take, List.getElem?_drop]
          rcases Nat.lt_or_ge k t.size with hk | hk
          · rw [if_pos hk]
            have hk2 : k < t.zcells.length := by rw [zcells_len]; exact hk
            have hlt : i * t.size + k < (madeCells (mkV t t.zcells).cells (n * t.size)).size := by rw [size_madeCells]; omega
            have e2 : (mkV t t.zcells).cells.toList[k]? = t.zcells[k]? := by rw [hz]
            rw [← e2, Array.getElem?_toList, Array.getElem?_toList, Array.getElem?_eq_getElem hlt, Array.getElem?_eq_getElem (by rw [hzs]; exact hk)]
            simp only [madeCells, Array.getElem_map, Array.getElem_range, hzs]
            rw [Nat.mul_comm, Nat.mul_add_mod, Nat.mod_eq_of_lt hk, getElem!_pos _ k (by rw [hzs]; exact hk)]
          · rw [if_neg (by omega), List.getElem?_eq_none (by rw [zcells_len]; omega)]
        rw [this]
        simp only [List.getElem_replicate]
        exact zcells_rd _ _ t
      · injection hg with hg
        subst hg
        exact upd_same _ _ _
    · simp only [AVok, upd_same]
      exact ⟨rfl, fun _ => trivial⟩
    · simp [execOp, ho, l1, c1, hr]

theorem op_ia_arr {T e : TypeId} {x ix : Operand} {t : Ty} {id : Nat} {xs : List t.den} (ho : o.op = .indexAddr T x ix) (hcx : σ.uc x) (hx : σ.un x = .own id) (hb : σ.objs id = .arr e t xs) (hi : σ.tc (.int .i64) ix) (hT : TyOK P (.list t) T)
    (h0 : 0 ≤ σ.ti .i64 ix) (h1 : σ.ti .i64 ix < (xs.length : Int)) :
    OpOK P cx σ o ⟨.ep id t.size (σ.ti .i64 ix).toNat, []⟩ :=
  OpOK.of_value hd fun a w lim G hh hf => by
    have h := un_ok hf x hcx
    have hob := hh.obj id
    rw [hx] at h
    rw [hb] at hob
    simp only [AVok, hb] at h
    simp only [ObjOK] at hob
    obtain ⟨⟨vs, ⟨_, hown⟩, hpos, _⟩, _⟩ := hob
    obtain ⟨i1, _⟩ := (tc_int hh hf hi)
    generalize hn : σ.ti .i64 ix = n at *
    simp only [TyOK] at hT
    obtain ⟨e', u1, u2, _⟩ := hT
    rcases hown with ⟨_, hz⟩ | ⟨g, cap, cur, hr, hB, hheap, hle, hcap, hsz, htk⟩
    · exfalso; omega
    · have e1 : a.eval x = .slice (some ⟨g, 0, none⟩) xs.length cap := by rw [h.2 rfl, hr]
      refine ⟨.pointer (some ⟨g, n.toNat * t.size, none⟩), ?_, ?_⟩
      · simp [execOp, ho, e1, i1, Instr.indexAt, asIntOf, run_underlying u1, h0, h1, run_sizeOf' u2, Addr.add]
        exact fun h => h.symm
      · simp only [AVok, hb]
        exact ⟨rfl, fun _ => ⟨g, by rw [hr]; rfl, rfl⟩⟩

theorem op_load_arr {T e : TypeId} {x : Operand} {t : Ty} {id i : Nat} {xs : List t.den} (ho : o.op = .load T x) (hcx : σ.uc x) (hx : σ.un x = .ep id t.size i) (hb : σ.objs id = .arr e t xs) (hi : i < xs.length) (hT : TyOK P t T) :
    OpOK P cx σ o ⟨.rd t (xs.getD i t.dflt), []⟩ :=
  OpOK.of_value hd fun a w lim G hh hf => by
    have h := un_ok hf x hcx
    have hob := hh.obj id
    rw [hx] at h
    rw [hb] at hob
    simp only [AVok, hb] at h
    simp only [ObjOK] at hob
    obtain ⟨⟨vs, ⟨hvl, hown⟩, hpos, hrd⟩, hlim⟩ := hob
    rcases hown with ⟨_, hz⟩ | ⟨g, cap, cur, hr, hB, hheap, hle, hcap, hsz, htk⟩
    · exfalso; omega
    · obtain ⟨g', hg', hp⟩ := h.2 rfl
      have : g' = g := by rw [hr] at hg'; injection hg' with hg'; exact hg'.symm
      subst this
      have hrow := hrd i hi
      have h3 : (i + 1) * t.size ≤ xs.length * t.size := Nat.mul_le_mul_right _ hi
      rw [Nat.succ_mul] at h3
      have hcell : ∀ j u, ((vs.drop (i * t.size)).take t.size)[j]? = some u → w.cell? ((⟨g', i * t.size, none⟩ : Addr).add j) = some u := by
        intro j u hu
        have hj : j < t.size := by
          rcases Nat.lt_or_ge j t.size with hj | hj
          · exact hj
          · rw [List.getElem?_take, if_neg (by omega)] at hu; cases hu
        rw [List.getElem?_take, if_pos hj, List.getElem?_drop] at hu
        have ea : (⟨g', i * t.size, none⟩ : Addr).add j = ⟨g', i * t.size + j, none⟩ := by
          unfold Addr.add; split
          · rename_i h0; rw [h0]; rfl
          · rfl
        rw [ea, cell_of_row w g' _ cur e (0, 0) hheap]
        rw [← htk, List.getElem?_take] at hu
        split at hu
        · simpa using hu
        · cases hu
      refine ⟨mkV t ((vs.drop (i * t.size)).take t.size), ?_, ?_⟩
      · simp [execOp, ho, hp, run_load_at hT w ⟨g', i * t.size, none⟩ _ hrow.length hcell]
      · have : xs.getD i t.dflt = xs[i] := by simp [List.getD_eq_getElem?_getD, List.getElem?_eq_getElem hi]
        rw [this]
        simp only [AVok]
        exact ⟨_, hrow, rfl⟩

omit hd in
theorem op_store_arr {T e : TypeId} {x y : Operand} {t : Ty} {id i : Nat} {xs : List t.den} (ho : o.op = .store T x y) (hdst : o.dst = none) (hcx : σ.uc x) (hx : σ.un x = .ep id t.size i) (hb : σ.objs id = .arr e t xs) (hi : i < xs.length) (hT : TyOK P t T) (hy : σ.tc t y) :
    OpOK P cx σ o ⟨.any, [(id, .arr e t (xs.set i (σ.tv t y)))]⟩ := by
  intro a w K Q hs hK
  obtain ⟨lim, G, hh, hf⟩ := hs
  have h := un_ok hf x hcx
  have hob := hh.obj id
  rw [hx] at h
  rw [hb] at hob
  simp only [AVok, hb] at h
  simp only [ObjOK] at hob
  obtain ⟨⟨vs, ⟨hvl, hown⟩, hpos, hrd⟩, hlim⟩ := hob
  obtain ⟨cs, q1, q2⟩ := tc_ok hh hf hy
  have hcl : cs.length = t.size := q1.length
  have hcc : (a.eval y).cells.toList = cs := by rw [q2]; exact mkV_cells hcl q1.one
  rcases hown with ⟨_, hz⟩ | ⟨g, cap, cur, hr, hB, hheap, hle, hcap, hsz, htk⟩
  · exfalso; omega
  · obtain ⟨g', hg', hp⟩ := h.2 rfl
    have : g' = g := by rw [hr] at hg'; injection hg' with hg'; exact hg'.symm
    subst this
    have hn : xs.length * t.size ≤ cur.size := by rw [hsz]; exact Nat.mul_le_mul_right _ hle
    have h3 : (i + 1) * t.size ≤ xs.length * t.size := Nat.mul_le_mul_right _ hi
    rw [Nat.succ_mul] at h3
    have hst := run_storeCells_at P g' (i * t.size) e cs 0 cur w hheap (by omega) q1.one
    simp only [Nat.add_zero] at hst
    rw [hcl] at hst
    have hsc : (a.eval y).cells.size = t.size := by rw [← Array.length_toList, hcc, hcl]
    have hrun : (execOp a.eval o).run P w = .ok .skip (w.setRow g' (cur.toList.take (i * t.size) ++ cs ++ cur.toList.drop (i * t.size + t.size)).toArray) := by
      simp [execOp, ho, hp, Instr.storeAt, Instr.sureAddr, storeVar, run_sizeOf' hT, hsc, hcc, hst]
    unfold Oper.wp
    rw [hrun]
    refine hK _ _ ?_
    rw [hdst]
    have hl0 : lim g' = 0 := hlim g' (by rw [hr]; rfl)
    have hk : Keeps w lim (w.setRow g' (cur.toList.take (i * t.size) ++ cs ++ cur.toList.drop (i * t.size + t.size)).toArray) lim := by
      refine ⟨fun ad u hcell hlt => ?_, fun _ _ => Nat.le_refl _⟩
      have hne : ad.block ≠ g' := by rintro e; rw [e, hl0] at hlt; omega
      rw [World.cell?_of_block (w := w) (setRow_other w g' ad.block _ hne)]
      exact hcell
    have hmine := hh.mine id g' (by rw [hb]; rfl) (by rw [hb]; simp only [Blk]; rw [hr]; rfl)
    have hbw : BelowL cx.L cx.B cx.w0 (w.setRow g' (cur.toList.take (i * t.size) ++ cs ++ cur.toList.drop (i * t.size + t.size)).toArray) :=
      hh.below.trans ⟨rfl, rfl, rfl, by simp, fun k hk hL => setRow_other w g' k _ (by rintro rfl; exact hmine.elim (fun h => by omega) hL)⟩
    have hlive : (σ.objs id).live = true := by rw [hb]; rfl
    have hset := hh.set (id := id) (o := .arr e t (xs.set i (σ.tv t y))) hlive hbw hk
      (fun j g2 hj hl hg => by
        have : g2 ≠ g' := by rintro rfl; exact hh.sep j id g2 hj hl hlive hg (by rw [hb]; simp only [Blk]; rw [hr]; rfl)
        exact ⟨setRow_other w g' g2 _ this, rfl⟩) (fun _ _ _ => rfl)
      (by
        simp only [ObjOK]
        have hcl2 : (cur.toList.take (i * t.size) ++ cs ++ cur.toList.drop (i * t.size + t.size)).length = cap * t.size := by
          have : cur.toList.length = cap * t.size := by rw [Array.length_toList]; exact hsz
          simp only [List.length_append, List.length_take, List.length_drop, this, hcl]
          rw [← this, Array.length_toList]
          omega
        refine ⟨⟨(cur.toList.take (i * t.size) ++ cs ++ cur.toList.drop (i * t.size + t.size)).take (xs.length * t.size), ⟨?_, .inr ⟨g', cap, _, ?_, hB, setRow_heap w g' cur _ e _ hheap, ?_, hcap, ?_, ?_⟩⟩, hpos, fun j hj => ?_⟩, fun g2 hg2 => ?_⟩
        · rw [List.length_take, hcl2, List.length_set, ← hsz]; omega
        · rw [hr, List.length_set]
        · rw [List.length_set]; exact hle
        · rw [List.size_toArray]; exact hcl2
        · rw [List.length_set]
        · have hj' : j < xs.length := by simpa using hj
          rw [seg_set cur.toList cs t.size i j xs.length hcl hi hj' (by rw [Array.length_toList]; exact hn)]
          rw [List.getElem_set]
          by_cases hji : i = j
          · rw [if_pos hji.symm, if_pos hji]
            exact q1.keeps hk
          · rw [if_neg (fun h => hji h.symm), if_neg hji, htk]
            exact (hrd j hj').keeps hk
        · exact hlim g2 hg2)
      rfl (fun g hg => by rw [hb]; exact hg) (fun h => by cases h)
    exact ⟨lim, G, hset.1, hf.keeps hk hset.2⟩
end

/-! ### Parts of an element; how long an array is -/

def setF : (t : Ty) → t.den → (i : Nat) → (fldT t i).den → t.den
  | .cons _ _, x, 0, y => (y, x.2)
  | .cons _ t, x, i + 1, y => (x.1, setF t x.2 i y)
  | .int _, x, _, _ => x
  | .bool, x, _, _ => x
  | .str, x, _, _ => x
  | .list _, x, _, _ => x
  | .nil, x, _, _ => x

theorem Rd_setF {P : Program} {w : World} {lim : Nat → Nat} : ∀ {t : Ty} {cs : List Value} {x : t.den} {i o : Nat} {fs : List Field} {c : Value} {y : (fldT t i).den}, FsOK P t fs o → i < t.nf → Rd w lim t cs x → Rd w lim (fldT t i) [c] y → Rd w lim t (cs.set i c) (setF t x i y) := by
  intro t
  induction t with
  | cons h t _ ih =>
    intro cs x i o fs c y hf hi hr hy
    simp only [FsOK] at hf
    obtain ⟨f, r, e, h1, h2, h3, h4⟩ := hf
    obtain ⟨c1, c2, e2, r1, r2⟩ := hr
    have hl := r1.length
    rw [(flat1_size h2).1] at hl
    match c1, hl with
    | [c0], _ =>
      subst e2
      cases i with
      | zero => exact ⟨[c], c2, rfl, hy, r2⟩
      | succ i => exact ⟨[c0], c2.set i c, rfl, r1, ih h4 (by simpa [Ty.nf] using hi) r2 hy⟩
  | _ => intro cs x i o fs c y _ hi; exact absurd hi (by simp [Ty.nf])

theorem fs_nf {P : Program} {t : Ty} : ∀ {fs : List Field} {o : Nat}, FsOK P t fs o → t.size = t.nf := by
  induction t with
  | cons h t _ ih =>
    intro fs o hf
    simp only [FsOK] at hf
    obtain ⟨f, r, e, h1, h2, h3, h4⟩ := hf
    simp only [Ty.size, Ty.nf, (flat1_size h2).1, ih h4]
    omega
  | nil => intro fs o _; rfl
  | _ => intro fs o hf; simp only [FsOK] at hf

section
variable {P : Program} {cx : Cx} {σ : St} {o : Oper} (hd : ∀ k, o.dst = some k → k < cx.N)
include hd

theorem op_fa_ep {T : TypeId} {x : Operand} {i k id sz : Nat} {t : Ty} (ho : o.op = .fieldAddr T x i) (hc : σ.uc x) (hx : σ.un x = .ep id sz k) (hl : (σ.objs id).live = true) (hT : TyOK P t T) (hi : i < t.nf) :
    OpOK P cx σ o ⟨.ef id sz k i, []⟩ :=
  OpOK.of_value hd fun a w lim G hh hf => by
    have h := un_ok hf x hc
    rw [hx] at h
    simp only [AVok] at h
    obtain ⟨hb, h⟩ := h
    obtain ⟨g, h1, h2⟩ := h hl
    have e : (⟨g, k * sz, none⟩ : Addr).add i = ⟨g, k * sz + i, none⟩ := by unfold Addr.add; split <;> simp_all
    refine ⟨.pointer (some ⟨g, k * sz + i, none⟩), by simp [execOp, ho, h2, run_fieldAt hT hi w, e], ?_⟩
    simp only [AVok]
    exact ⟨hb, fun _ => ⟨g, h1, rfl⟩⟩

theorem op_len_arr {x : Operand} {T e : TypeId} {t : Ty} {id : Nat} {xs : List t.den} (ho : o.op = .call { callee := .builtin .len, args := #[x], argTypes := #[T] }) (hT : TyOK P (.list t) T) (hc : σ.uc x) (hx : σ.un x = .own id) (hb : σ.objs id = .arr e t xs) :
    OpOK P cx σ o ⟨.rd (.int .i64) (xs.length : Int), []⟩ :=
  OpOK.of_value hd fun a w lim G hh hf => by
    have h := un_ok hf x hc
    have hob := hh.obj id
    rw [hx] at h
    rw [hb] at hob
    simp only [AVok, hb] at h
    simp only [ObjOK] at hob
    obtain ⟨⟨vs, ⟨_, hown⟩, hpos, _⟩, _⟩ := hob
    simp only [TyOK] at hT
    obtain ⟨e', hT, _⟩ := hT
    have fin : ∀ A cap, a.eval x = .slice A xs.length cap → xs.length ≤ maxLen → ∃ v, (execOp a.eval o).run P w = .ok (.value v) w ∧ AVok w lim G σ.objs (.rd (.int .i64) (xs.length : Int)) v := by
      intro A cap h1 h3
      refine ⟨goInt (xs.length : Int), ?_, ?_⟩
      · simp [execOp, ho, h1, resolve, invoke, builtin, Builtin.len_, run_underlying hT]
      · simp only [AVok]
        refine RdV.mk_int ?_
        simp [IntKind.min, IntKind.max, IntKind.signed, IntKind.bits]
        simp [maxLen] at h3
        omega
    rcases hown with ⟨hr, hz⟩ | ⟨g, cap, cur, hr, hB, hheap, hle, hcap, hsz, htk⟩
    · exact fin none 0 (by rw [h.2 rfl, hr, hz]) (by omega)
    · exact fin _ cap (by rw [h.2 rfl, hr]) (by omega)

omit hd in
theorem op_store_ef {T e : TypeId} {x y : Operand} {t : Ty} {id i f : Nat} {xs : List t.den} {Te : TypeId} (ho : o.op = .store T x y) (hdst : o.dst = none) (hcx : σ.uc x) (hx : σ.un x = .ef id t.size i f) (hb : σ.objs id = .arr e t xs) (hi : i < xs.length)
    (hTe : TyOK P t Te) (hf' : f < t.nf) (hT : TyOK P (fldT t f) T) (hy : σ.tc (fldT t f) y) :
    OpOK P cx σ o ⟨.any, [(id, .arr e t (xs.set i (setF t (xs.getD i t.dflt) f (σ.tv (fldT t f) y))))]⟩ := by
  intro a w K Q hs hK
  obtain ⟨lim, G, hh, hf⟩ := hs
  have h := un_ok hf x hcx
  have hob := hh.obj id
  rw [hx] at h
  rw [hb] at hob
  simp only [AVok, hb] at h
  simp only [ObjOK] at hob
  obtain ⟨⟨vs, ⟨hvl, hown⟩, hpos, hrd⟩, hlim⟩ := hob
  obtain ⟨fs, hfs1, hfs⟩ := hTe.fs hf'
  obtain ⟨fd, _, _, _, hfl⟩ := fs_at hfs hf'
  obtain ⟨cs, q1, q2⟩ := tc_ok hh hf hy
  have hcl : cs.length = 1 := q1.length.trans (flat1_size hfl).1
  match cs, hcl with
  | [c], _ =>
  have hcc : (a.eval y).cells.toList = [c] := by rw [q2]; exact mkV_cells q1.length q1.one
  have hnf := fs_nf hfs
  rcases hown with ⟨_, hz⟩ | ⟨g, cap, cur, hr, hB, hheap, hle, hcap, hsz, htk⟩
  · exfalso; omega
  · obtain ⟨g', hg', hp⟩ := h.2 rfl
    have : g' = g := by rw [hr] at hg'; injection hg' with hg'; exact hg'.symm
    subst this
    have hn : xs.length * t.size ≤ cur.size := by rw [hsz]; exact Nat.mul_le_mul_right _ hle
    have h3 : (i + 1) * t.size ≤ xs.length * t.size := Nat.mul_le_mul_right _ hi
    rw [Nat.succ_mul] at h3
    have hst := run_storeCells_at P g' (i * t.size + f) e [c] 0 cur w hheap (by simp; omega) q1.one
    simp only [Nat.add_zero, List.length_singleton] at hst
    have hsc : (a.eval y).cells.size = 1 := by rw [← Array.length_toList, hcc]; rfl
    let cur' := cur.toList.take (i * t.size + f) ++ [c] ++ cur.toList.drop (i * t.size + f + 1)
    have hrun : (execOp a.eval o).run P w = .ok .skip (w.setRow g' cur'.toArray) := by
      simp [execOp, ho, hp, Instr.storeAt, Instr.sureAddr, storeVar, run_sizeOf' hT, (flat1_size hfl).1, hsc, hcc, hst, cur']
    unfold Oper.wp
    rw [hrun]
    refine hK _ _ ?_
    rw [hdst]
    have hl0 : lim g' = 0 := hlim g' (by rw [hr]; rfl)
    have hk : Keeps w lim (w.setRow g' cur'.toArray) lim := by
      refine ⟨fun ad u hcell hlt => ?_, fun _ _ => Nat.le_refl _⟩
      have hne : ad.block ≠ g' := by rintro e; rw [e, hl0] at hlt; omega
      rw [World.cell?_of_block (w := w) (setRow_other w g' ad.block _ hne)]
      exact hcell
    have hmine := hh.mine id g' (by rw [hb]; rfl) (by rw [hb]; simp only [Blk]; rw [hr]; rfl)
    have hbw : BelowL cx.L cx.B cx.w0 (w.setRow g' cur'.toArray) :=
      hh.below.trans ⟨rfl, rfl, rfl, by simp, fun k hk hL => setRow_other w g' k _ (by rintro rfl; exact hmine.elim (fun h => by omega) hL)⟩
    have hlive : (σ.objs id).live = true := by rw [hb]; rfl
    -- the element's cells, turned in one place
    have hcurl : cur.toList.length = cur.size := Array.length_toList
    have hel : ∀ (hj : i < xs.length), Rd w lim t ((vs.drop (i * t.size)).take t.size) xs[i] := fun hj => hrd i hj
    have hev := hel hi
    have hset0 := Rd_setF hfs hf' hev q1
    have hcs2 : cur' = cur.toList.take (i * t.size) ++ ((vs.drop (i * t.size)).take t.size).set f c ++ cur.toList.drop (i * t.size + t.size) := by
      have hseg : (vs.drop (i * t.size)).take t.size = (cur.toList.drop (i * t.size)).take t.size := by
        rw [← htk, List.drop_take, List.take_take]
        congr 1
        omega
      rw [hseg]
      apply List.ext_getElem?
      intro m
      have hft : f < t.size := by omega
      have l1 : (cur.toList.take (i * t.size + f)).length = i * t.size + f := by rw [List.length_take]; omega
      have l2 : (cur.toList.take (i * t.size)).length = i * t.size := by rw [List.length_take]; omega
      have l3 : (((cur.toList.drop (i * t.size)).take t.size).set f c).length = t.size := by rw [List.length_set, List.length_take, List.length_drop]; omega
      simp only [cur', List.append_assoc]
      rcases Nat.lt_or_ge m (i * t.size) with hm | hm
      · rw [List.getElem?_append_left (by omega), List.getElem?_append_left (by omega), List.getElem?_take, List.getElem?_take, if_pos (by omega), if_pos hm]
      · rw [List.getElem?_append_right (l₁ := cur.toList.take (i * t.size)) (by omega), l2]
        rcases Nat.lt_or_ge m (i * t.size + t.size) with hm2 | hm2
        · rw [List.getElem?_append_left (l₁ := ((cur.toList.drop (i * t.size)).take t.size).set f c) (by omega)]
          rcases Nat.lt_trichotomy m (i * t.size + f) with hm3 | hm3 | hm3
          · rw [List.getElem?_append_left (by omega), List.getElem?_take, if_pos hm3, List.getElem?_set_ne (by omega), List.getElem?_take, if_pos (by omega), List.getElem?_drop]
            congr 1; omega
          · rw [List.getElem?_append_right (by omega), l1, hm3, Nat.sub_self, Nat.add_sub_cancel_left, List.getElem?_set_self (by rw [List.length_take, List.length_drop]; omega)]
            rfl
          · rw [List.getElem?_append_right (by omega), l1, List.getElem?_append_right (by simp; omega), List.getElem?_drop, List.getElem?_set_ne (by omega), List.getElem?_take, if_pos (by omega), List.getElem?_drop]
            congr 1; simp; omega
        · rw [List.getElem?_append_right (by omega), l1, List.getElem?_append_right (by simp; omega), List.getElem?_drop, List.getElem?_append_right (by omega), l3, List.getElem?_drop]
          congr 1; simp; omega
    have hsl : (((vs.drop (i * t.size)).take t.size).set f c).length = t.size := by
      rw [List.length_set]; exact hev.length
    have hset := hh.set (id := id) (o := .arr e t (xs.set i (setF t (xs.getD i t.dflt) f (σ.tv (fldT t f) y)))) hlive hbw hk
      (fun j g2 hj hl hg => by
        have : g2 ≠ g' := by rintro rfl; exact hh.sep j id g2 hj hl hlive hg (by rw [hb]; simp only [Blk]; rw [hr]; rfl)
        exact ⟨setRow_other w g' g2 _ this, rfl⟩) (fun _ _ _ => rfl)
      (by
        simp only [ObjOK]
        have hcl2 : cur'.length = cap * t.size := by
          have : cur.toList.length = cap * t.size := by rw [Array.length_toList]; exact hsz
          simp only [cur', List.length_append, List.length_take, List.length_drop, this, List.length_singleton]
          rw [← this, Array.length_toList]
          omega
        refine ⟨⟨cur'.take (xs.length * t.size), ⟨?_, .inr ⟨g', cap, _, ?_, hB, setRow_heap w g' cur _ e _ hheap, ?_, hcap, ?_, ?_⟩⟩, hpos, fun j hj => ?_⟩, fun g2 hg2 => ?_⟩
        · rw [List.length_take, hcl2, List.length_set, ← hsz]; omega
        · rw [hr, List.length_set]
        · rw [List.length_set]; exact hle
        · rw [List.size_toArray]; exact hcl2
        · rw [List.length_set]
        · have hj' : j < xs.length := by simpa using hj
          have hsg := seg_set cur.toList _ t.size i j xs.length hsl hi hj' (by rw [Array.length_toList]; exact hn)
          rw [← hcs2] at hsg
          rw [hsg]
          rw [List.getElem_set]
          by_cases hji : i = j
          · rw [if_pos hji.symm, if_pos hji]
            have : xs.getD i t.dflt = xs[i] := by simp [List.getD_eq_getElem?_getD, List.getElem?_eq_getElem hi]
            rw [this]
            exact hset0.keeps hk
          · rw [if_neg (fun h => hji h.symm), if_neg hji, htk]
            exact (hrd j hj').keeps hk
        · exact hlim g2 hg2)
      rfl (fun g hg => by rw [hb]; exact hg) (fun h => by cases h)
    exact ⟨lim, G, hset.1, hf.keeps hk hset.2⟩
end

/-! ### Settling -/

def AObj.settle : AObj → AObj
  | .arr e t xs => .row e t xs
  | .deep te t xs => .row (te t) t xs
  | .bld te t xs => .row (te t) t xs
  | .sd te t xs => .row (te t) t xs
  | o => o

theorem settle_live (o : AObj) : o.settle.live = o.live := by cases o <;> rfl
theorem settle_born (o : AObj) : o.settle.born = o.born := by cases o <;> rfl

def St.settle (σ : St) : St := ⟨σ.tmps, fun i => (σ.objs i).settle⟩
def St.settleP (p : Nat → Bool) (σ : St) : St := ⟨σ.tmps, fun i => bif p i then (σ.objs i).settle else σ.objs i⟩

/-- How far a block is to be settled. -/
def SN (w : World) : AObj → Rt → Nat → Nat → Prop
  | .arr _ t xs, r, b, n => blk r.v = some b ∧ n = xs.length * t.size
  | .deep _ t xs, r, b, n => (blk r.v = some b ∧ n = xs.length * t.size) ∨ (b ∈ r.fp ∧ n = bsz w b)
  | .bld _ t xs, r, b, n => (blk r.v = some b ∧ n = xs.length * t.size) ∨ (b ∈ r.fp ∧ n = bsz w b)
  | _, _, _, _ => False

section
variable {w : World} {lim lim' : Nat → Nat} {G : Nat → Rt} {objs : Nat → AObj} {o : AObj} {r : Rt} {b n m : Nat}
theorem SN_blk (h : SN w o r b n) : o.live = true ∧ Blk o r b := by
  cases o <;> simp only [SN] at h <;> first | exact h.elim | skip
  · exact ⟨rfl, h.1⟩
  all_goals
    refine ⟨rfl, ?_⟩
    simp only [Blk]
    rcases h with h | h
    · rw [h.1]; simp
    · exact List.mem_append_right _ h.1
theorem SN_uniq (ho : ObjOK w lim G objs 0 r o) (h : SN w o r b n) (k : SN w o r b m) : n = m := by
  cases o <;> simp only [SN] at h k <;> first | exact h.elim | skip
  · rw [h.2, k.2]
  all_goals
    simp only [ObjOK] at ho
    have hnd := ho.1.2.1
    rw [List.nodup_append] at hnd
    rcases h with h | h <;> rcases k with k | k
    · rw [h.2, k.2]
    · exact absurd rfl (hnd.2.2 b (by rw [h.1]; simp) b k.1)
    · exact absurd rfl (hnd.2.2 b (by rw [k.1]; simp) b h.1)
    · rw [h.2, k.2]
theorem SN_lim (ho : ObjOK w lim G objs 0 r o) (h : SN w o r b n) : lim b = 0 := by
  have hb := (SN_blk h).2
  cases o <;> simp only [SN] at h <;> first | exact h.elim | skip
  · simp only [ObjOK] at ho; exact ho.2 b h.1
  all_goals (simp only [ObjOK] at ho; exact ho.1.2.2 b hb)
theorem settle_ok (hk : Keeps w lim w lim') (ho : ObjOK w lim G objs 0 r o) (hs : ∀ b n, SN w o r b n → lim' b = n) (hx : (∀ b n, ¬ SN w o r b n) → ObjOK w lim' G objs 0 r o) : ObjOK w lim' G objs 0 r o.settle := by
  cases o with
  | arr e t xs =>
    simp only [ObjOK] at ho
    simp only [AObj.settle, ObjOK]
    exact ⟨ho.1.keeps hk fun _ _ => rfl, fun g hg => hs g _ ⟨hg, rfl⟩⟩
  | deep te t xs =>
    simp only [ObjOK] at ho
    simp only [AObj.settle, ObjOK]
    refine ⟨?_, fun g hg => hs g _ (.inl ⟨hg, rfl⟩)⟩
    obtain ⟨⟨⟨root, vs, Fs, e1, h1, h2, h3, e2, h4⟩, _, _⟩, _⟩ := ho
    injection e1 with e1
    subst e1
    have e2 := List.append_cancel_left e2
    refine ⟨vs, h1, h2, fun i hi => (h4 i hi).rd fun g hg => ?_⟩
    rw [hs g _ (.inr ⟨by rw [e2]; exact mem_flat hg, rfl⟩)]
    exact Nat.le_refl _
  | bld te t xs =>
    simp only [ObjOK] at ho
    simp only [AObj.settle, ObjOK]
    refine ⟨?_, fun g hg => hs g _ (.inl ⟨hg, rfl⟩)⟩
    obtain ⟨⟨⟨root, vs, Fs, e1, h1, h2, h3, e2, h4⟩, _, _⟩, _⟩ := ho
    injection e1 with e1
    subst e1
    have e2 := List.append_cancel_left e2
    refine ⟨vs, h1, h2, fun i hi => (h4 i hi).rd fun g hg => ?_⟩
    rw [hs g _ (.inr ⟨by rw [e2]; exact mem_flat hg, rfl⟩)]
    exact Nat.le_refl _
  | unborn => exact hx fun _ _ h => h
  | dead => exact hx fun _ _ h => h
  | box T cs => exact hx fun _ _ h => h
  | row e t xs => exact hx fun _ _ h => h
  | tl e t xs => exact hx fun _ _ h => h
  | held te t xs i f k => exact hx fun _ _ h => h
  | name d => exact hx fun _ _ h => h
  | sd te t xs =>
    have h := hx fun _ _ h => h
    simp only [ObjOK] at h
    simp only [AObj.settle, ObjOK]
    exact ⟨h.1.row, h.1.2.2.1⟩
theorem settle_Blk {g : Nat} (h : Blk o.settle r g) : Blk o r g := by
  cases o <;> first | exact h | skip
  all_goals
    simp only [AObj.settle, Blk] at h ⊢
    rw [h]; simp
end

/-- What was made may be settled: nobody writes it any more. -/
theorem sat_settleP (p : Nat → Bool) {cx : Cx} {σ : St} {a : Act} {w : World} (h : Sat cx σ a w) : Sat cx (σ.settleP p) a w := by
  classical
  obtain ⟨lim, G, hh, hf⟩ := h
  let Pr : Nat → Nat → Prop := fun b n => ∃ i, p i = true ∧ SN w (σ.objs i) (G i) b n
  let lim' : Nat → Nat := fun b => if h : ∃ n, Pr b n then h.choose else lim b
  have hin : ∀ b n, Pr b n → lim' b = n := by
    intro b n hp
    have hex : ∃ n, Pr b n := ⟨n, hp⟩
    show (if h : ∃ n, Pr b n then h.choose else lim b) = n
    rw [dif_pos hex]
    obtain ⟨i, _, h1⟩ := hex.choose_spec
    obtain ⟨j, _, k1⟩ := hp
    by_cases hij : i = j
    · subst hij
      exact SN_uniq (hh.obj i) h1 k1
    · exact absurd (SN_blk k1).2 (hh.sep i j b hij (SN_blk h1).1 (SN_blk k1).1 (SN_blk h1).2)
  have hout : ∀ b, (¬ ∃ n, Pr b n) → lim' b = lim b := by
    intro b hp
    show (if h : ∃ n, Pr b n then h.choose else lim b) = _
    rw [dif_neg hp]
  have other : ∀ i g, (σ.objs i).live = true → (p i = true → ∀ n, ¬ SN w (σ.objs i) (G i) g n) → Blk (σ.objs i) (G i) g → lim' g = lim g := by
    intro i g hl hna hg
    apply hout
    rintro ⟨n, j, hp, h1⟩
    by_cases hij : i = j
    · subst hij; exact hna hp n h1
    · exact hh.sep i j g hij hl (SN_blk h1).1 hg (SN_blk h1).2
  have hk : Keeps w lim w lim' := by
    refine ⟨fun _ _ hc _ => hc, fun b _ => ?_⟩
    by_cases hp : ∃ n, Pr b n
    · obtain ⟨n, i, _, h1⟩ := hp
      rw [SN_lim (hh.obj i) h1]
      exact Nat.zero_le _
    · rw [hout b hp]; exact Nat.le_refl _
  have sl : ∀ i, ((σ.settleP p).objs i).live = (σ.objs i).live := by
    intro i
    show (bif p i then (σ.objs i).settle else σ.objs i).live = _
    cases p i
    · rfl
    · exact settle_live _
  have sb : ∀ i, ((σ.settleP p).objs i).born = (σ.objs i).born := by
    intro i
    show (bif p i then (σ.objs i).settle else σ.objs i).born = _
    cases p i
    · rfl
    · exact settle_born _
  have sk : ∀ i g, Blk ((σ.settleP p).objs i) (G i) g → Blk (σ.objs i) (G i) g := by
    intro i g hg
    have hg : Blk (bif p i then (σ.objs i).settle else σ.objs i) (G i) g := hg
    revert hg
    cases p i
    · exact fun h => h
    · exact settle_Blk
  have he : Ext G σ.objs G (σ.settleP p).objs := by
    intro i hb
    exact ⟨by rw [sb]; exact hb, fun hl => ⟨by rw [← sl]; exact hl, rfl⟩⟩
  refine ⟨lim', G, ⟨hh.start, hh.below, fun b hb hL => ?_, fun i => ?_, fun i j g hij hi hj hg hg' => ?_, fun i g hi hg => hh.mine i g (by rw [← sl]; exact hi) (sk i g hg), fun j r hr => ⟨(he j (hh.lent j r hr).1).1, (hh.lent j r hr).2⟩, fun j r hr => by
    have := hh.nob j r hr
    show (bif p j then (σ.objs j).settle else σ.objs j).isBld = false
    cases p j
    · exact this
    · revert this; cases σ.objs j <;> first | exact fun h => h | exact fun _ => rfl⟩, hf.keeps hk he⟩
  · rw [hout b]
    · exact hh.lim0 b hb hL
    · rintro ⟨n, i, _, h1⟩
      rcases hh.mine i b (SN_blk h1).1 (SN_blk h1).2 with h | h
      · omega
      · exact hL h
  · have ho := hh.obj i
    have same : (p i = true → ∀ g n, ¬ SN w (σ.objs i) (G i) g n) → ObjOK w lim' G (σ.settleP p).objs 0 (G i) (σ.objs i) := by
      intro hna
      cases hl : (σ.objs i).live with
      | true => exact ho.keeps hk he fun g hg => ⟨rfl, other i g hl (fun hp => hna hp g) hg⟩
      | false => cases hoi : σ.objs i <;> rw [hoi] at hl <;> first | (simp only [ObjOK]; done) | cases hl
    show ObjOK w lim' G (σ.settleP p).objs 0 (G i) (bif p i then (σ.objs i).settle else σ.objs i)
    cases hp : p i with
    | false => exact same fun h => by rw [hp] at h; cases h
    | true =>
      simp only [cond_true]
      have e : ObjOK w lim G (σ.settleP p).objs 0 (G i) (σ.objs i) := ho.keeps (Keeps.refl w lim) he fun _ _ => ⟨rfl, rfl⟩
      exact settle_ok hk e (fun b n h => hin b n ⟨i, hp, h⟩) fun h => same fun _ => h
  · exact hh.sep i j g hij (by rw [← sl]; exact hi) (by rw [← sl]; exact hj) (sk i g hg) (sk j g hg')

theorem sat_settle {cx : Cx} {σ : St} {a : Act} {w : World} (h : Sat cx σ a w) : Sat cx σ.settle a w := sat_settleP (fun _ => true) h

end Go.AL
