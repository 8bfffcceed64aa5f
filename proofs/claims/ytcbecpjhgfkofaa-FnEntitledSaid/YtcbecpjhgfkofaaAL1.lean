/- Typed readings of values in a world: a general part, over any program. It proves nothing of a statement by itself. -/
import Derived.Below
import Derived.Maps.AppendAt
import Derived.Deep.AppendLies
import Derived.Deep.Draws
import Derived.Laws.OwnMore
import Derived.Laws.MakeOwn
import Derived.Laws.NewBlocks
import Derived.Laws.Rows
import Derived.Still
import Derived.Tactics
set_option linter.unusedSimpArgs false
set_option linter.unusedVariables false
namespace Go.AL
open Go.RowKit

/-- The types that occur: a struct is a chain of cons, ended by nil. -/
inductive Ty
  | int (k : IntKind) | bool | str | list (t : Ty) | nil | cons (h t : Ty)
  deriving DecidableEq, Inhabited

@[reducible] def Ty.den : Ty → Type
  | .int _ => Int
  | .bool => Bool
  | .str => ByteArray
  | .list t => List t.den
  | .nil => Unit
  | .cons h t => h.den × t.den

def Ty.size : Ty → Nat
  | .int _ => 1
  | .bool => 1
  | .str => 1
  | .list _ => 1
  | .nil => 0
  | .cons h t => h.size + t.size

def Ty.isAgg : Ty → Bool
  | .nil => true
  | .cons _ _ => true
  | _ => false

/-- The cells ds lie at a, within the settled cells. -/
def At (w : World) (lim : Nat → Nat) (a : Addr) (ds : List Value) : Prop :=
  ∀ j u, ds[j]? = some u → w.cell? (a.add j) = some u ∧ (a.add j).off < lim a.block

def Rd (w : World) (lim : Nat → Nat) : (t : Ty) → List Value → t.den → Prop
  | .int k, cs, n => cs = [.int k n] ∧ k.min ≤ n ∧ n ≤ k.max
  | .bool, cs, b => cs = [.bool b]
  | .str, cs, s => cs = [.string s] ∧ s.size ≤ maxLen
  | .list t, cs, xs => ∃ A cap, cs = [.slice A xs.length cap] ∧ xs.length ≤ cap ∧ cap ≤ maxLen ∧
      ∀ i (h : i < xs.length), ∃ a ds, A = some a ∧ At w lim (a.add (i * t.size)) ds ∧ ds.length = t.size ∧ Rd w lim t ds xs[i]
  | .nil, cs, _ => cs = []
  | .cons h t, cs, x => ∃ c1 c2, cs = c1 ++ c2 ∧ Rd w lim h c1 x.1 ∧ Rd w lim t c2 x.2

def mkV (t : Ty) (cs : List Value) : Value := if t.isAgg then .agg cs.toArray else cs.headD undef

def RdV (w : World) (lim : Nat → Nat) (t : Ty) (v : Value) (x : t.den) : Prop := ∃ cs, Rd w lim t cs x ∧ v = mkV t cs

/-- What is settled stays. -/
structure Keeps (w : World) (lim : Nat → Nat) (w' : World) (lim' : Nat → Nat) : Prop where
  cell : ∀ a u, w.cell? a = some u → a.off < lim a.block → w'.cell? a = some u
  lim : ∀ b, b < w.heap.size → lim b ≤ lim' b

theorem Keeps.refl (w : World) (lim : Nat → Nat) : Keeps w lim w lim := ⟨fun _ _ h _ => h, fun _ _ => Nat.le_refl _⟩

theorem block_add (a : Addr) (n : Nat) : (a.add n).block = a.block := by unfold Addr.add; split <;> rfl
theorem add_add' (a : Addr) (i j : Nat) : (a.add i).add j = a.add (i + j) := by
  unfold Addr.add
  by_cases hi : i = 0 <;> by_cases hj : j = 0 <;> simp [hi, hj, Nat.add_assoc]

theorem At.keeps {w w' : World} {lim lim' : Nat → Nat} {a : Addr} {ds : List Value} (h : At w lim a ds) (hk : Keeps w lim w' lim') : At w' lim' a ds := by
  intro j u hu
  obtain ⟨h1, h2⟩ := h j u hu
  have hb := World.block_lt_of_cell? _ _ h1
  rw [block_add] at hb
  exact ⟨hk.cell _ _ h1 (by rw [block_add]; exact h2), Nat.lt_of_lt_of_le h2 (hk.lim _ hb)⟩

theorem Rd.keeps {w w' : World} {lim lim' : Nat → Nat} (hk : Keeps w lim w' lim') : ∀ {t : Ty} {cs : List Value} {x : t.den}, Rd w lim t cs x → Rd w' lim' t cs x
  | .int _, _, _, h => h
  | .bool, _, _, h => h
  | .str, _, _, h => h
  | .nil, _, _, h => h
  | .cons h t, _, _, hh => by
    obtain ⟨c1, c2, e, h1, h2⟩ := hh
    exact ⟨c1, c2, e, h1.keeps hk, h2.keeps hk⟩
  | .list t, _, _, hh => by
    obtain ⟨A, cap, e, h1, h2, h3⟩ := hh
    refine ⟨A, cap, e, h1, h2, fun i hi => ?_⟩
    obtain ⟨a, ds, ea, hat, hl, hr⟩ := h3 i hi
    exact ⟨a, ds, ea, hat.keeps hk, hl, hr.keeps hk⟩

theorem RdV.keeps {w w' : World} {lim lim' : Nat → Nat} (hk : Keeps w lim w' lim') {t : Ty} {v : Value} {x : t.den} (h : RdV w lim t v x) : RdV w' lim' t v x := by
  obtain ⟨cs, h1, h2⟩ := h
  exact ⟨cs, h1.keeps hk, h2⟩

theorem Rd.length {w : World} {lim : Nat → Nat} : ∀ {t : Ty} {cs : List Value} {x : t.den}, Rd w lim t cs x → cs.length = t.size
  | .int _, _, _, h => by rw [h.1]; rfl
  | .bool, _, _, h => by rw [h]; rfl
  | .str, _, _, h => by rw [h.1]; rfl
  | .nil, _, _, h => by rw [h]; rfl
  | .cons _ _, _, _, hh => by
    obtain ⟨c1, c2, e, h1, h2⟩ := hh
    rw [e, List.length_append, h1.length, h2.length]; rfl
  | .list _, _, _, hh => by
    obtain ⟨_, _, e, _⟩ := hh
    rw [e]; rfl

theorem Rd.one {w : World} {lim : Nat → Nat} : ∀ {t : Ty} {cs : List Value} {x : t.den}, Rd w lim t cs x → ∀ u ∈ cs, u.oneCell' = true
  | .int _, _, _, h => by rw [h.1]; simp [Value.oneCell']
  | .bool, _, _, h => by rw [h]; simp [Value.oneCell']
  | .str, _, _, h => by rw [h.1]; simp [Value.oneCell']
  | .nil, _, _, h => by rw [h]; simp
  | .cons _ _, _, _, hh => by
    obtain ⟨c1, c2, e, h1, h2⟩ := hh
    rw [e]
    intro u hu
    rcases List.mem_append.1 hu with hu | hu
    · exact h1.one u hu
    · exact h2.one u hu
  | .list _, _, _, hh => by
    obtain ⟨_, _, e, _⟩ := hh
    rw [e]; simp [Value.oneCell']

theorem mkV_cells {t : Ty} {cs : List Value} (hl : cs.length = t.size) (h1 : ∀ u ∈ cs, u.oneCell' = true) : (mkV t cs).cells.toList = cs := by
  unfold mkV
  cases t with
  | nil => simp [Ty.isAgg, Value.cells]
  | cons => simp [Ty.isAgg, Value.cells]
  | _ =>
    match cs, hl with
    | [c], _ =>
      have := h1 c (by simp)
      cases c <;> simp_all [Ty.isAgg, Value.cells, Value.oneCell']

theorem RdV.cells {w : World} {lim : Nat → Nat} {t : Ty} {v : Value} {x : t.den} (h : RdV w lim t v x) : Rd w lim t v.cells.toList x ∧ v = mkV t v.cells.toList := by
  obtain ⟨cs, h1, h2⟩ := h
  have := mkV_cells h1.length h1.one
  rw [h2, this]
  exact ⟨h1, rfl⟩

end Go.AL
