/- Literal slices, append, calls, each with its soundness. A general part, over any program. -/
import Derived.Test.YtcbecpjhgfkofaaAL9
set_option linter.unusedSimpArgs false
set_option linter.unusedVariables false
namespace Go.AL
open Go.RowKit

/-- The element type's number of a slice type. -/
def ElOK (P : Program) (T e : TypeId) : Prop := P.underlying T = some (.slice e)

section
variable {P : Program} {cx : Cx} {σ : St} {o : Oper} (hd : ∀ k, o.dst = some k → k < cx.N)

theorem TyOK.el {t : Ty} {T e : TypeId} (h : TyOK P (.list t) T) (he : ElOK P T e) : TyOK P t e ∧ 0 < t.size := by
  simp only [TyOK] at h
  obtain ⟨e', h1, h2, _, h3⟩ := h
  unfold ElOK at he
  rw [h1] at he
  injection he with he
  injection he with he
  subst he
  exact ⟨h2, h3⟩

include hd

theorem op_lit {T e : TypeId} {n : Nat} {ps : List (Nat × Operand)} {t : Ty} {id : Nat} (ho : o.op = .buildSlice T n ps.toArray) (hT : TyOK P (.list t) T) (he : ElOK P T e) (hc : litC σ t 0 ps) (hn : ps.length = n) (hs : n * t.size ≤ 16777216) (hu : σ.objs id = .unborn) :
    OpOK P cx σ o ⟨.own id, [(id, .row e t (litD σ t ps))]⟩ :=
  OpOK.of_alloc hd hu fun a w lim G hh hf => by
    obtain ⟨he2, hpos⟩ := hT.el he
    unfold ElOK at he
    subst hn
    have hzc := mkV_cells (zcells_len t) (zcells_rd w lim t).one
    have hcsz : ∀ (f : Nat → Value), ((Array.range (ps.length * t.size)).map f).size = ps.length * t.size := by intro f; simp
    obtain ⟨vs, e1, e2, e3, e4⟩ := lit_fill hh hf t ps 0 ((Array.range (ps.length * t.size)).map fun j => ((mkV t t.zcells).cells)[j % (mkV t t.zcells).cells.size]!) hc (by rw [hcsz]; omega)
    have e5 : Instr.fill (fun i => some (i * t.size, t.size)) ((Array.range (ps.length * t.size)).map fun j => ((mkV t t.zcells).cells)[j % (mkV t t.zcells).cells.size]!) (ps.map fun p => (p.1, a.eval p.2)) = some vs.toArray := by
      rw [e4, List.drop_of_length_le (by rw [Array.length_toList, hcsz]; omega)]
      simp
    have e6 : Instr.fill (fun i => some (i * t.size, t.size)) (#[] : Array Value) ([] : List (Nat × Value)) = some #[] := rfl
    refine ⟨vs.toArray, e, ps.length * t.size, .slice (some ⟨w.heap.size, 0, none⟩) ps.length ps.length, .slice (some ⟨w.heap.size, 0, none⟩) ps.length ps.length, ?_, rfl, ?_, ?_⟩
    · by_cases h0 : ps.length * t.size = 0
      · have hp : ps = [] := by
          cases ps with
          | nil => rfl
          | cons p r => exfalso; rw [List.length_cons, Nat.succ_mul] at h0; omega
        subst hp
        have hv : vs = [] := List.eq_nil_of_length_eq_zero (by simpa using e1)
        subst hv
        simp [execOp, ho, Instr.buildSlice, run_underlying he, run_sizeOf' he2, newRow, Instr.fill, Array.range_zero']
      · have h1 : ¬ (16777216 < ps.length * t.size) := by omega
        simp [execOp, ho, Instr.buildSlice, run_underlying he, run_sizeOf' he2, run_zero' he2, newRow, h0, h1]
        have e7 : Instr.fill (fun i => some (i * t.size, t.size)) ((Array.range (ps.length * t.size)).map fun j => ((mkV t t.zcells).cells)[j % (mkV t t.zcells).cells.size]!) (ps.map ((fun x => (x.1, a.eval x.2)))) = some vs.toArray := e5
        first
          | (rw [e7]; simp)
          | (simp only [e7]; simp)
    · simp only [ObjOK]
      have hl := litD_length (σ := σ) t ps
      refine ⟨⟨vs, ⟨by rw [hl]; exact e1, .inr ⟨w.heap.size, ps.length, vs.toArray, by rw [hl], Nat.zero_le _, heap_alloc_new w _, by rw [hl]; omega, ?_, by simpa using e1, by rw [hl, ← e1]; simp⟩⟩, hpos, fun i hi => (e3 i hi).keeps (keeps_alloc _ _)⟩, fun g hg => ?_⟩
      · simp only [maxLen]
        have : ps.length ≤ ps.length * t.size := Nat.le_mul_of_pos_right _ hpos
        omega
      · injection hg with hg
        subst hg
        rw [upd_same, hl]
    · simp only [AVok, upd_same]
      exact ⟨rfl, fun _ => trivial⟩

end

/-! ### append -/

section
variable {P : Program}

/-- An append to a row of the call's own: either the row has grown where it lies, or a new row was laid and all old blocks are as they were. -/
theorem run_app (w : World) (B : Nat) (T ty e : TypeId) (t : Ty) (hT : TyOK P (.list t) T) (he : ElOK P T e) (v : Value) (n : Nat) (xs : List Value) (hown : w.ownsRow B e t.size v n xs)
    (A : Option Addr) (m c : Nat) (news : List Value) (hl : news.length = m * t.size) (hA : A = none → m = 0) (hnews : ∀ a, A = some a → ∀ j u, news[j]? = some u → w.cell? (a.add j) = some u) (h1 : ∀ u ∈ news, u.oneCell' = true)
    (hb : n + m ≤ 274877906944) (hbase : B ≤ w.heap.size) :
    ∃ v' w', (Builtin.append_ #[T, T] ty #[v, .slice A m c]).run P w = .ok v' w' ∧ w'.ownsRow B e t.size v' (n + m) (xs ++ news) ∧
      ((v'.ownBlock = v.ownBlock ∧ w.grownBy w' v.ownBlock) ∨ (v'.ownBlock = some w.heap.size ∧ w.grownBy w' none)) := by
  obtain ⟨he2, hpos⟩ := hT.el he
  unfold ElOK at he
  obtain ⟨i, i1, i2, i3, i4⟩ := he2.inf
  have hzc := mkV_cells (zcells_len t) (zcells_rd w (fun _ => 0) t).one
  have hzs : (mkV t t.zcells).cells.size = t.size := by
    have := congrArg List.length hzc
    rw [zcells_len] at this
    simpa using this
  have hlen : (xs ++ news).length = (n + m) * t.size := by rw [List.length_append, hown.1, hl, Nat.add_mul]
  have hby : (n + m) * i.bytes ≤ 140737488355328 := by
    have := Nat.mul_le_mul hb i4
    omega
  have stay : w.ownsRow B e t.size v (n + 0) (xs ++ []) := by simpa using hown
  have fresh : ∀ old, old < n + m → (w.drew.alloc (.cells (xs.toArray ++ news.toArray ++ Builtin.zeroCells (mkV t t.zcells).cells (grownCap w (n + m) old e - (n + m))) e)).ownsRow B e t.size
      (.slice (some ⟨w.heap.size, 0, none⟩) (n + m) (grownCap w (n + m) old e)) (n + m) (xs ++ news) := by
    intro old ho
    have hge := grownCap_ge w (n + m) old e
    have hcm : grownCap w (n + m) old e ≤ maxLen := grownCap_le_maxLen w (n + m) old e (by simp only [maxLen]; omega)
    refine ⟨hlen, .inr ⟨w.heap.size, _, _, rfl, hbase, heap_alloc_new w.drew _, hge, hcm, ?_, ?_⟩⟩
    · have e1 : (xs.toArray ++ news.toArray ++ Builtin.zeroCells (mkV t t.zcells).cells (grownCap w (n + m) old e - (n + m))).size = (n + m) * t.size + (grownCap w (n + m) old e - (n + m)) * t.size := by
        rw [Array.size_append, size_zeroCells, hzs, Array.size_append, List.size_toArray, List.size_toArray, ← hlen, List.length_append]
      rw [e1, ← Nat.add_mul]
      congr 1
      omega
    · rw [Array.toList_append, Array.toList_append]
      rw [← hlen]
      exact List.take_left
  rcases hown.2 with ⟨hv, h0⟩ | ⟨g, cap, cur, hv, hbg, hg, hnc, hcm, hcs, htk⟩
  · subst hv
    subst h0
    have hx : xs = [] := List.eq_nil_of_length_eq_zero (by simpa using hown.1)
    subst hx
    by_cases hm : m = 0
    · subst hm
      have hn : news = [] := List.eq_nil_of_length_eq_zero (by simpa using hl)
      subst hn
      refine ⟨.slice none 0 0, w, ?_, by simpa using stay, .inl ⟨rfl, rfl, rfl, rfl, Nat.le_refl _, fun _ _ _ => rfl⟩⟩
      cases A <;> simp [Builtin.append_, run_underlying he, sizeOf, typeInfo, i1, Builtin.lenOf, Builtin.firstCells, loadCells, loadCellsFrom]
    · cases A with
      | none => exact absurd (hA rfl) hm
      | some a =>
        have hr := run_append_nil (P := P) w T ty e i _ he i1 i3 a m c news (by rw [i2]; exact hl) (hnews a rfl) (by omega) (by omega) (by simp only [Nat.zero_add] at hby; omega)
        have hf := fresh 0 (by omega)
        simp only [Nat.zero_add, List.nil_append, Array.empty_append] at hf ⊢
        exact ⟨_, _, hr, hf, .inr ⟨rfl, rfl, rfl, rfl, by simp, fun k hk _ => heap_alloc_old w.drew _ k hk⟩⟩
  · subst hv
    by_cases hm : m = 0
    · subst hm
      have hn : news = [] := List.eq_nil_of_length_eq_zero (by simpa using hl)
      subst hn
      refine ⟨.slice (some ⟨g, 0, none⟩) n cap, w, ?_, by simpa using stay, .inl ⟨rfl, rfl, rfl, rfl, Nat.le_refl _, fun _ _ _ => rfl⟩⟩
      cases A <;> simp [Builtin.append_, run_underlying he, sizeOf, typeInfo, i1, Builtin.lenOf, Builtin.firstCells, loadCells, loadCellsFrom, hnc, storeCells]
    · cases A with
      | none => exact absurd (hA rfl) hm
      | some a =>
        by_cases hroom : n + m ≤ cap
        · have hfit : n * i.size + news.length ≤ cur.size := by rw [i2, hl, hcs, ← Nat.add_mul]; exact Nat.mul_le_mul_right _ hroom
          have hr := run_append_room (P := P) w T ty e i he i1 g n cap cur hg a m c news (by rw [i2]; exact hl) (hnews a rfl) h1 hroom hfit
          refine ⟨_, _, hr, ⟨hlen, .inr ⟨g, cap, _, rfl, hbg, setRow_heap w g cur _ e _ hg, hroom, hcm, ?_, ?_⟩⟩, .inl ⟨rfl, rfl, rfl, rfl, by simp, fun k _ hk => setRow_other w g k _ (fun e => hk (by simp [Value.ownBlock, e]))⟩⟩
          · rw [i2] at hfit ⊢
            simp only [List.size_toArray, List.length_append, List.length_take, List.length_drop, Array.length_toList]
            omega
          · rw [i2, htk, ← hlen]
            exact List.take_left
        · have hr := run_append_grow (P := P) w T ty e i _ he i1 i3 ⟨g, 0, none⟩ n cap xs (by rw [i2]; exact hown.1) (hown.cells (g := g) rfl) a m c news (by rw [i2]; exact hl) (hnews a rfl) (by omega) (by omega) (growslice_fits (by omega) hby)
          exact ⟨_, _, hr, fresh cap (by omega), .inr ⟨rfl, rfl, rfl, rfl, by simp, fun k hk _ => heap_alloc_old w.drew _ k hk⟩⟩
end

end Go.AL
