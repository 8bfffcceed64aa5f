/- Slices cut, composites, rows made and grown, each with its soundness. A general part, over any program. -/
import Derived.Test.YtcbecpjhgfkofaaAL8
set_option linter.unusedSimpArgs false
set_option linter.unusedVariables false
namespace Go.AL
open Go.RowKit

theorem foldl_seg : ∀ (l : List Value) (k off : Nat) (cells : Array Value), off + k + l.length ≤ cells.size →
    ((l.zipIdx k).foldl (fun cs (p : Value × Nat) => cs.setIfInBounds (off + p.2) p.1) cells).toList = cells.toList.take (off + k) ++ l ++ cells.toList.drop (off + k + l.length)
  | [], k, off, cells, _ => by simp
  | v :: l, k, off, cells, h => by
    have hl : off + k + 1 + l.length ≤ cells.size := by simp at h; omega
    have ih := foldl_seg l (k + 1) off (cells.setIfInBounds (off + k) v) (by simp; omega)
    simp only [List.zipIdx_cons, List.foldl_cons]
    rw [ih]
    have e := list_seg_step cells.toList (off + k) v l (by simp; omega)
    simp only [Array.toList_setIfInBounds]
    have : off + (k + 1) = off + k + 1 := by omega
    rw [this]
    rw [e]
    simp [Nat.add_assoc, Nat.add_comm 1]

section
variable {P : Program} {cx : Cx} {σ : St} {o : Oper} (hd : ∀ k, o.dst = some k → k < cx.N)
include hd

theorem op_slice {T : TypeId} {x : Operand} {lo hi : Option Operand} {t : Ty} (l h : Nat) (ho : o.op = .slice T x lo hi none) (hx : σ.tc (.list t) x) (hT : TyOK P (.list t) T)
    (hlo : match lo with | some y => σ.tc (.int .i64) y ∧ σ.ti .i64 y = (l : Int) | none => l = 0)
    (hhi : match hi with | some y => σ.tc (.int .i64) y ∧ σ.ti .i64 y = (h : Int) | none => h = (σ.tv (.list t) x).length)
    (h1 : l ≤ h) (h2 : h ≤ (σ.tv (.list t) x).length) :
    OpOK P cx σ o ⟨.rd (.list t) (((σ.tv (.list t) x).take h).drop l), []⟩ :=
  OpOK.of_value hd fun a w lim G hh hf => by
    obtain ⟨A, cap, e1, e2, e3, e4⟩ := (tc_ok hh hf hx).list
    have hlo' : lo = none ∧ l = 0 ∨ ∃ y, lo = some y ∧ a.eval y = .int .i64 (l : Int) := by
      cases lo with
      | none => exact .inl ⟨rfl, hlo⟩
      | some y => exact .inr ⟨y, rfl, by rw [← hlo.2]; exact (tc_int hh hf hlo.1).1⟩
    have hhi' : hi = none ∧ h = (σ.tv (.list t) x).length ∨ ∃ y, hi = some y ∧ a.eval y = .int .i64 (h : Int) := by
      cases hi with
      | none => exact .inl ⟨rfl, hhi⟩
      | some y => exact .inr ⟨y, rfl, by rw [← hhi.2]; exact (tc_int hh hf hhi.1).1⟩
    generalize σ.tv (.list t) x = xs at *
    simp only [TyOK] at hT
    obtain ⟨e, u1, u2, _⟩ := hT
    refine ⟨.slice (if cap = l then A else A.map (·.add (l * t.size))) (h - l) (cap - l), ?_, ?_⟩
    · have c1 : (h : Int) ≤ (cap : Int) := by have := e2; omega
      have c2 : (l : Int) ≤ (h : Int) := by omega
      have c3 : h ≤ cap := by omega
      have n0 : ∀ m : Nat, (0 : Int) ≤ (m : Int) := fun m => by omega
      rcases hlo' with ⟨rfl, rfl⟩ | ⟨y, rfl, hy⟩ <;> rcases hhi' with ⟨rfl, rfl⟩ | ⟨z, rfl, hz⟩ <;>
        simp [execOp, ho, e1, Instr.sliceAt, run_underlying u1, Instr.slice, Instr.sliceBounds, Instr.sliceBound, asIntOf, run_sizeOf' u2, *] <;> rfl
    · simp only [AVok]
      have hlen : ((xs.take h).drop l).length = h - l := by rw [List.length_drop, List.length_take, Nat.min_eq_left h2]
      refine ⟨[.slice (if cap = l then A else A.map (·.add (l * t.size))) (h - l) (cap - l)], ⟨if cap = l then A else A.map (·.add (l * t.size)), cap - l, by rw [hlen], by rw [hlen]; omega, by omega, fun i hi => ?_⟩, by simp [mkV, Ty.isAgg]⟩
      have hi' : l + i < h := by simp only [List.length_drop, List.length_take, Nat.min_eq_left h2] at hi; omega
      obtain ⟨ad, ds, a1, a2, a3, a4⟩ := e4 (l + i) (by omega)
      refine ⟨ad.add (l * t.size), ds, by rw [if_neg (by omega), a1]; rfl, ?_, a3, ?_⟩
      · rw [add_add', ← Nat.add_mul]; exact a2
      · simpa using a4

/-! ### Composites -/

omit hd in
theorem AVsOk.set {w : World} {lim : Nat → Nat} {G : Nat → Value} {objs : Nat → AObj} {cs : List AV} {vs : List Value} (h : AVsOk w lim G objs cs vs) (i : Nat) {av : AV} {v : Value} (hv : AVok w lim G objs av v) :
    AVsOk w lim G objs (cs.set i av) (vs.set i v) := by
  have hl := h.length
  refine AVsOk.mk (by simp [hl]) fun j hj => ?_
  have hj' : j < cs.length := by simpa using hj
  by_cases e : i = j
  · subst e
    have hj2 : i < vs.length := by omega
    simp only [List.getD_eq_getElem?_getD, List.getElem?_set_self hj', List.getElem?_set_self hj2, Option.getD_some]
    exact hv
  · simp only [List.getD_eq_getElem?_getD, List.getElem?_set_ne e]
    have := h.get j hj'
    simpa only [List.getD_eq_getElem?_getD] using this

def setAll (σ : St) : List (Nat × Operand) → List AV → List AV
  | [], cs => cs
  | p :: r, cs => setAll σ r (cs.set p.1 (σ.un p.2))

def setAllC (σ : St) (n : Nat) : List (Nat × Operand) → Prop
  | [] => True
  | p :: r => p.1 < n ∧ σ.uc p.2 ∧ oneC σ.objs (σ.un p.2) ∧ setAllC σ n r

omit hd in
theorem fill_one {a : Act} {w : World} {lim : Nat → Nat} {G : Nat → Value} (hh : Hp cx σ.objs w lim G) (hf : Fr cx σ a w lim G) (place : Nat → Option (Nat × Nat)) (n : Nat) (hp : ∀ i, i < n → place i = some (i, 1)) :
    ∀ (ps : List (Nat × Operand)) (cs : List AV) (arr : Array Value), setAllC σ n ps → arr.size = n → AVsOk w lim G σ.objs cs arr.toList →
      ∃ arr', Instr.fill place arr (ps.map fun p => (p.1, a.eval p.2)) = some arr' ∧ AVsOk w lim G σ.objs (setAll σ ps cs) arr'.toList
  | [], cs, arr, _, _, h => ⟨arr, rfl, h⟩
  | p :: ps, cs, arr, hc, hn, h => by
    obtain ⟨c1, c2, c3, c4⟩ := hc
    have h1 := un_ok hf p.2 c2
    have h2 := oneC_ok hh.obj c3 h1
    have hcell : (a.eval p.2).cells = #[a.eval p.2] := by cases hv : a.eval p.2 <;> simp_all [Value.cells, Value.oneCell']
    have hs := h.set p.1 h1
    obtain ⟨arr', e1, e2⟩ := fill_one hh hf place n hp ps (cs.set p.1 (σ.un p.2)) (arr.setIfInBounds p.1 (a.eval p.2)) c4 (by simpa using hn) (by simpa using hs)
    refine ⟨arr', ?_, e2⟩
    simp only [List.map_cons, Instr.fill, hp p.1 c1, hcell]
    have : ¬ (p.1 + 1 > arr.size) := by omega
    simp [this, e1]

omit hd in
theorem fs_places : ∀ {t : Ty} {fs : List Field} {o : Nat}, FsOK P t fs o → fs.mapM (fun f => (P.info? f.type).map fun i => (f.offset, i.size)) = some ((List.range' o t.nf).map fun i => (i, 1)) := by
  intro t
  induction t with
  | nil => intro fs o h; simp only [FsOK] at h; subst h; rfl
  | cons h t _ ih =>
    intro fs o hf
    simp only [FsOK] at hf
    obtain ⟨f, r, e, h1, h2, h3, h4⟩ := hf
    subst e
    obtain ⟨i, i1, i2, _⟩ := h3.inf
    have := ih h4
    rw [(flat1_size h2).1] at i2
    simp [List.mapM_cons, i1, this, i2, h1, Ty.nf, List.range'_succ]
  | _ => intro fs o h; simp only [FsOK] at h

theorem op_build {T : TypeId} {h t : Ty} {ps : List (Nat × Operand)} (ho : o.op = .build T ps.toArray) (hT : TyOK P (.cons h t) T) (hz : (Ty.cons h t).size = (Ty.cons h t).nf) (hc : setAllC σ (Ty.cons h t).nf ps) :
    OpOK P cx σ o ⟨.agg (setAll σ ps (Ty.cons h t).zeros), []⟩ :=
  OpOK.of_value hd fun a w lim G hh hf => by
    have hzc := mkV_cells (zcells_len (.cons h t)) (zcells_rd w lim (.cons h t)).one
    obtain ⟨fs, u1, u2⟩ := hT.fs (i := 0) (by simp [Ty.nf])
    obtain ⟨it, i1, i2, i3, _⟩ := hT.inf
    have hp := fs_places u2
    have hplace : ∀ i, i < (Ty.cons h t).nf → (((List.range' 0 (Ty.cons h t).nf).map fun i => (i, 1)).toArray)[i]? = some (i, 1) := by
      intro i hi
      simp [List.getElem?_range', hi]
    have hsz : (mkV (.cons h t) (Ty.cons h t).zcells).cells.size = (Ty.cons h t).nf := by
      have := congrArg List.length hzc
      rw [zcells_len, hz] at this
      simpa using this
    obtain ⟨arr', e1, e2⟩ := fill_one hh hf _ _ hplace ps (Ty.cons h t).zeros (mkV (.cons h t) (Ty.cons h t).zcells).cells hc hsz (by rw [hzc]; exact zeros_ok _)
    have hb : P.built T (ps.map fun p => (p.1, a.eval p.2)) = some arr' := by
      unfold Program.built
      simp only [i1, u1, i3, hp]
      exact e1
    have hb' : P.built T ((ps.toArray.map fun x => match x with | (i, x) => (i, a.eval x)).toList) = some arr' := by
      simpa using hb
    refine ⟨.agg arr', ?_, ?_⟩
    · simp only [execOp, ho, Sem.run_bind, run_build w T _ arr' hb']; rfl
    · simp only [AVok]
      exact ⟨arr'.toList, by simp, e2⟩

/-! ### Rows -/

/-- The elements of a literal: all of one type. -/
def litD (σ : St) (t : Ty) : List (Nat × Operand) → List t.den
  | [] => []
  | p :: r => σ.tv t p.2 :: litD σ t r

def litC (σ : St) (t : Ty) : Nat → List (Nat × Operand) → Prop
  | _, [] => True
  | k, p :: r => p.1 = k ∧ σ.tc t p.2 ∧ litC σ t (k + 1) r

omit hd in
theorem litD_length (t : Ty) : ∀ ps : List (Nat × Operand), (litD σ t ps).length = ps.length
  | [] => rfl
  | _ :: r => by simp [litD, litD_length t r]

omit hd in
theorem lit_fill {a : Act} {w : World} {lim : Nat → Nat} {G : Nat → Value} (hh : Hp cx σ.objs w lim G) (hf : Fr cx σ a w lim G) (t : Ty) :
    ∀ (ps : List (Nat × Operand)) (k : Nat) (cells : Array Value), litC σ t k ps → k * t.size + ps.length * t.size ≤ cells.size →
      ∃ vs : List Value, vs.length = ps.length * t.size ∧ (∀ u ∈ vs, u.oneCell' = true) ∧
        (∀ i (h : i < (litD σ t ps).length), Rd w lim t ((vs.drop (i * t.size)).take t.size) (litD σ t ps)[i]) ∧
        Instr.fill (fun i => some (i * t.size, t.size)) cells (ps.map fun p => (p.1, a.eval p.2)) = some (cells.toList.take (k * t.size) ++ vs ++ cells.toList.drop (k * t.size + ps.length * t.size)).toArray
  | [], k, cells, _, _ => ⟨[], by simp, by simp, fun i h => absurd h (by simp [litD]), by simp [Instr.fill]⟩
  | p :: ps, k, cells, hc, hl => by
    obtain ⟨c1, c2, c3⟩ := hc
    have h1 := tc_ok hh hf c2
    have h2 := h1.cells.1
    have hn := h2.length
    have hs : (a.eval p.2).cells.size = t.size := by simpa using hn
    have hl' : k * t.size + t.size + ps.length * t.size ≤ cells.size := by simp only [List.length_cons, Nat.succ_mul] at hl; omega
    have seg := foldl_seg (a.eval p.2).cells.toList 0 (k * t.size) cells (by rw [hn]; omega)
    simp only [Nat.add_zero] at seg
    rw [hn] at seg
    obtain ⟨vs, e1, e2, e3, e4⟩ := lit_fill hh hf t ps (k + 1) (((a.eval p.2).cells.zipIdx).foldl (fun cs (p : Value × Nat) => cs.setIfInBounds (k * t.size + p.2) p.1) cells) c3 (by
      have : (((a.eval p.2).cells.zipIdx).foldl (fun cs (p : Value × Nat) => cs.setIfInBounds (k * t.size + p.2) p.1) cells).size = cells.size := by
        have := congrArg List.length seg
        rw [← Array.foldl_toList, Array.toList_zipIdx]
        simp only [Array.length_toList, List.length_append, List.length_take, List.length_drop, hs] at this
        rw [this]
        omega
      rw [this, Nat.succ_mul]
      omega)
    refine ⟨(a.eval p.2).cells.toList ++ vs, by rw [List.length_append, hn, e1, List.length_cons, Nat.succ_mul]; omega, ?_, ?_, ?_⟩
    · intro u hu
      rcases List.mem_append.1 hu with hu | hu
      · exact h2.one u hu
      · exact e2 u hu
    · intro i hi
      cases i with
      | zero =>
        simp only [Nat.zero_mul, List.drop_zero, litD, List.getElem_cons_zero]
        rw [List.take_append_of_le_length (by omega), List.take_of_length_le (by omega)]
        exact h2
      | succ i =>
        have hi' : i < (litD σ t ps).length := by simpa [litD] using hi
        simp only [litD, List.getElem_cons_succ]
        have : ((a.eval p.2).cells.toList ++ vs).drop ((i + 1) * t.size) = vs.drop (i * t.size) := by
          have h1 : (i + 1) * t.size = i * t.size + t.size := Nat.succ_mul _ _
          rw [List.drop_append, List.drop_of_length_le (by omega), List.nil_append, hn]
          congr 1
          omega
        rw [this]
        exact e3 i hi'
    · simp only [List.map_cons, Instr.fill, c1, hs]
      rw [if_neg (by simp; omega)]
      rw [e4]
      congr 1
      have sl : (((a.eval p.2).cells.zipIdx).foldl (fun cs (p : Value × Nat) => cs.setIfInBounds (k * t.size + p.2) p.1) cells).toList = cells.toList.take (k * t.size) ++ (a.eval p.2).cells.toList ++ cells.toList.drop (k * t.size + t.size) := by
        rw [← Array.foldl_toList, Array.toList_zipIdx]
        exact seg
      rw [sl]
      have l1 : (cells.toList.take (k * t.size)).length = k * t.size := by rw [List.length_take]; simp; omega
      apply congrArg List.toArray
      rw [Nat.succ_mul]
      have t1 : (cells.toList.take (k * t.size) ++ (a.eval p.2).cells.toList ++ cells.toList.drop (k * t.size + t.size)).take (k * t.size + t.size) = cells.toList.take (k * t.size) ++ (a.eval p.2).cells.toList := by
        rw [List.take_append_of_le_length (by simp only [List.length_append, l1, hn]; omega), List.take_of_length_le (by simp only [List.length_append, l1, hn]; omega)]
      have t2 : (cells.toList.take (k * t.size) ++ (a.eval p.2).cells.toList ++ cells.toList.drop (k * t.size + t.size)).drop (k * t.size + t.size + ps.length * t.size) = cells.toList.drop (k * t.size + (ps.length + 1) * t.size) := by
        have h1 : (ps.length + 1) * t.size = ps.length * t.size + t.size := Nat.succ_mul _ _
        have l2 : (cells.toList.take (k * t.size) ++ (a.eval p.2).cells.toList).length = k * t.size + t.size := by simp only [List.length_append, l1, hn]
        rw [List.drop_append, List.drop_of_length_le (by rw [l2]; omega), List.nil_append, l2, List.drop_drop]
        congr 1
        omega
      rw [t1, t2]
      simp [List.append_assoc]

end
end Go.AL
