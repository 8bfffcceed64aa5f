/- New arrays of the call's own: made, written element by element, settled at last. A general part, over any program. -/
import Derived.Test.YtcbecpjhgfkofaaAL12
set_option linter.unusedSimpArgs false
set_option linter.unusedVariables false
namespace Go.AL
open Go.RowKit

theorem seg_set {α : Type} (cur cs : List α) (s i j n : Nat) (hcs : cs.length = s) (hi : i < n) (hj : j < n) (hlen : n * s ≤ cur.length) :
    (((cur.take (i * s) ++ cs ++ cur.drop (i * s + s)).take (n * s)).drop (j * s)).take s = if j = i then cs else ((cur.take (n * s)).drop (j * s)).take s := by
  have h1 : (i + 1) * s ≤ n * s := Nat.mul_le_mul_right _ hi
  have h2 : (j + 1) * s ≤ n * s := Nat.mul_le_mul_right _ hj
  rw [Nat.succ_mul] at h1 h2
  have ht : (cur.take (i * s)).length = i * s := by rw [List.length_take]; omega
  apply List.ext_getElem?
  intro k
  rw [List.getElem?_take, List.getElem?_drop, List.getElem?_take]
  rcases Nat.lt_or_ge k s with hk | hk
  · rw [if_pos hk, if_pos (show j * s + k < n * s by omega), List.append_assoc]
    rcases Nat.lt_trichotomy j i with hlt | heq | hgt
    · have h3 : (j + 1) * s ≤ i * s := Nat.mul_le_mul_right _ hlt
      rw [Nat.succ_mul] at h3
      rw [if_neg (show ¬ j = i by omega), List.getElem?_append_left (by omega), List.getElem?_take, if_pos (show j * s + k < i * s by omega), List.getElem?_take, if_pos hk, List.getElem?_drop, List.getElem?_take, if_pos (show j * s + k < n * s by omega)]
    · subst heq
      rw [if_pos rfl, List.getElem?_append_right (by omega), List.getElem?_append_left (by omega), ht, show j * s + k - j * s = k by omega]
    · have h3 : (i + 1) * s ≤ j * s := Nat.mul_le_mul_right _ hgt
      rw [Nat.succ_mul] at h3
      rw [if_neg (show ¬ j = i by omega), List.getElem?_append_right (by omega), List.getElem?_append_right (by omega), List.getElem?_drop, List.getElem?_take, if_pos hk, List.getElem?_drop, List.getElem?_take, if_pos (show j * s + k < n * s by omega), ht, hcs]
      congr 1
      omega
  · rw [if_neg (by omega)]
    split
    · rw [List.getElem?_eq_none (by omega)]
    · rw [List.getElem?_take, if_neg (by omega)]

section
variable {P : Program} {cx : Cx} {σ : St} {o : Oper} (hd : ∀ k, o.dst = some k → k < cx.N)
include hd

theorem op_make {T e : TypeId} {l c : Operand} {t : Ty} {id n : Nat} (ho : o.op = .makeSlice T l c) (hT : TyOK P (.list t) T) (he : ElOK P T e) (hl : σ.tc (.int .i64) l) (hc : σ.tc (.int .i64) c)
    (h1 : σ.ti .i64 l = n) (h2 : σ.ti .i64 c = n) (hn : n ≤ 274877906944) (hu : σ.objs id = .unborn) :
    OpOK P cx σ o ⟨.own id, [(id, .arr e t (List.replicate n t.dflt))]⟩ :=
  OpOK.of_alloc hd hu fun a w lim G hh hf => by
    obtain ⟨he2, hpos⟩ := hT.el he
    obtain ⟨inf, i1, i2, i3, i4⟩ := he2.inf
    have l1 := (tc_int hh hf hl).1
    have c1 := (tc_int hh hf hc).1
    rw [h1] at l1
    rw [h2] at c1
    have hb : (inf.bytes : Int) * (n : Int) ≤ 281474976710656 := by
      have : inf.bytes * n ≤ 256 * 274877906944 := Nat.mul_le_mul i4 hn
      have h3 : ((inf.bytes * n : Nat) : Int) ≤ 281474976710656 := by omega
      rwa [Int.natCast_mul] at h3
    have hr := run_make (P := P) w T e inf _ he i1 i3 .i64 .i64 n n (by omega) (Int.le_refl _) hb (by omega)
    simp only [Int.toNat_natCast] at hr
    rw [i2] at hr
    have hz : (mkV t t.zcells).cells.toList = t.zcells := mkV_cells (zcells_len t) (zcells_rd w lim t).one
    have hzs : (mkV t t.zcells).cells.size = t.size := by rw [← Array.length_toList, hz, zcells_len]
    refine ⟨madeCells (mkV t t.zcells).cells (n * t.size), e, 0, .slice (some ⟨w.heap.size, 0, none⟩) n n, .slice (some ⟨w.heap.size, 0, none⟩) n n, ?_, rfl, ?_, ?_⟩
    rotate_left
    · simp only [ObjOK]
      refine ⟨⟨(madeCells (mkV t t.zcells).cells (n * t.size)).toList, ⟨by simp [size_madeCells], .inr ⟨w.heap.size, n, _, by simp, Nat.zero_le _, heap_alloc_new w _, by simp, by simp only [maxLen]; omega, size_madeCells _ _, ?_⟩⟩, hpos, fun i hi => ?_⟩, fun g hg => ?_⟩
      · rw [List.length_replicate, List.take_of_length_le (by simp [size_madeCells])]
      · have hin : i < n := by simpa using hi
        have h3 : (i + 1) * t.size ≤ n * t.size := Nat.mul_le_mul_right _ hin
        rw [Nat.succ_mul] at h3
        have : ((madeCells (mkV t t.zcells).cells (n * t.size)).toList.drop (i * t.size)).take t.size = t.zcells := by
          apply List.ext_getElem?
          intro k
          rw [List.getElem?_take, List.getElem?_drop]
          rcases Nat.lt_or_ge k t.size with hk | hk
          · rw [if_pos hk]
            have hk2 : k < t.zcells.length := by rw [zcells_len]; exact hk
            have hlt : i * t.size + k < (madeCells (mkV t t.zcells).cells (n * t.size)).size := by rw [size_madeCells]; omega
            have e2 : (mkV t t.zcells).cells.toList[k]? = t.zcells[k]? := by rw [hz]
            rw [← e2, Array.getElem?_toList, Array.getElem?_toList, Array.getElem?_eq_getElem hlt, Array.getElem?_eq_getElem (by rw [hzs]; exact hk)]
            simp only [madeCells, Array.getElem_map, Array.getElem_range, hzs]
            rw [Nat.mul_comm, Nat.mul_add_mod, Nat.mod_eq_of_lt hk, getElem!_pos _ k (by rw [hzs]; exact hk)]
          · rw [if_neg (by omega), List.getElem?_eq_none (by rw [zcells_len]; omega)]
        rw [this]
        simp only [List.getElem_replicate]
        exact zcells_rd _ _ t
      · injection hg with hg
        subst hg
        exact upd_same _ _ _
    · simp only [AVok, upd_same]
      exact ⟨rfl, fun _ => trivial⟩
    · simp [execOp, ho, l1, c1, hr]

theorem op_ia_arr {T e : TypeId} {x ix : Operand} {t : Ty} {id : Nat} {xs : List t.den} (ho : o.op = .indexAddr T x ix) (hcx : σ.uc x) (hx : σ.un x = .own id) (hb : σ.objs id = .arr e t xs) (hi : σ.tc (.int .i64) ix) (hT : TyOK P (.list t) T)
    (h0 : 0 ≤ σ.ti .i64 ix) (h1 : σ.ti .i64 ix < (xs.length : Int)) :
    OpOK P cx σ o ⟨.ep id t.size (σ.ti .i64 ix).toNat, []⟩ :=
  OpOK.of_value hd fun a w lim G hh hf => by
    have h := un_ok hf x hcx
    have hob := hh.obj id
    rw [hx] at h
    rw [hb] at hob
    simp only [AVok, hb] at h
    simp only [ObjOK] at hob
    obtain ⟨⟨vs, ⟨_, hown⟩, hpos, _⟩, _⟩ := hob
    obtain ⟨i1, _⟩ := (tc_int hh hf hi)
    generalize hn : σ.ti .i64 ix = n at *
    simp only [TyOK] at hT
    obtain ⟨e', u1, u2, _⟩ := hT
    rcases hown with ⟨_, hz⟩ | ⟨g, cap, cur, hr, hB, hheap, hle, hcap, hsz, htk⟩
    · exfalso; omega
    · have e1 : a.eval x = .slice (some ⟨g, 0, none⟩) xs.length cap := by rw [h.2 rfl, hr]
      refine ⟨.pointer (some ⟨g, n.toNat * t.size, none⟩), ?_, ?_⟩
      · simp [execOp, ho, e1, i1, Instr.indexAt, asIntOf, run_underlying u1, h0, h1, run_sizeOf' u2, Addr.add]
        exact fun h => h.symm
      · simp only [AVok, hb]
        exact ⟨rfl, fun _ => ⟨g, by rw [hr]; rfl, rfl⟩⟩

omit hd in
theorem op_store_arr {T e : TypeId} {x y : Operand} {t : Ty} {id i : Nat} {xs : List t.den} (ho : o.op = .store T x y) (hdst : o.dst = none) (hcx : σ.uc x) (hx : σ.un x = .ep id t.size i) (hb : σ.objs id = .arr e t xs) (hi : i < xs.length) (hT : TyOK P t T) (hy : σ.tc t y) :
    OpOK P cx σ o ⟨.any, [(id, .arr e t (xs.set i (σ.tv t y)))]⟩ := by
  intro a w K Q hs hK
  obtain ⟨lim, G, hh, hf⟩ := hs
  have h := un_ok hf x hcx
  have hob := hh.obj id
  rw [hx] at h
  rw [hb] at hob
  simp only [AVok, hb] at h
  simp only [ObjOK] at hob
  obtain ⟨⟨vs, ⟨hvl, hown⟩, hpos, hrd⟩, hlim⟩ := hob
  obtain ⟨cs, q1, q2⟩ := tc_ok hh hf hy
  have hcl : cs.length = t.size := q1.length
  have hcc : (a.eval y).cells.toList = cs := by rw [q2]; exact mkV_cells hcl q1.one
  rcases hown with ⟨_, hz⟩ | ⟨g, cap, cur, hr, hB, hheap, hle, hcap, hsz, htk⟩
  · exfalso; omega
  · obtain ⟨g', hg', hp⟩ := h.2 rfl
    have : g' = g := by rw [hr] at hg'; injection hg' with hg'; exact hg'.symm
    subst this
    have hn : xs.length * t.size ≤ cur.size := by rw [hsz]; exact Nat.mul_le_mul_right _ hle
    have h3 : (i + 1) * t.size ≤ xs.length * t.size := Nat.mul_le_mul_right _ hi
    rw [Nat.succ_mul] at h3
    have hst := run_storeCells_at P g' (i * t.size) e cs 0 cur w hheap (by omega) q1.one
    simp only [Nat.add_zero] at hst
    rw [hcl] at hst
    have hsc : (a.eval y).cells.size = t.size := by rw [← Array.length_toList, hcc, hcl]
    have hrun : (execOp a.eval o).run P w = .ok .skip (w.setRow g' (cur.toList.take (i * t.size) ++ cs ++ cur.toList.drop (i * t.size + t.size)).toArray) := by
      simp [execOp, ho, hp, Instr.storeAt, Instr.sureAddr, storeVar, run_sizeOf' hT, hsc, hcc, hst]
    unfold Oper.wp
    rw [hrun]
    refine hK _ _ ?_
    rw [hdst]
    have hl0 : lim g' = 0 := hlim g' (by rw [hr]; rfl)
    have hk : Keeps w lim (w.setRow g' (cur.toList.take (i * t.size) ++ cs ++ cur.toList.drop (i * t.size + t.size)).toArray) lim := by
      refine ⟨fun ad u hcell hlt => ?_, fun _ _ => Nat.le_refl _⟩
      have hne : ad.block ≠ g' := by rintro e; rw [e, hl0] at hlt; omega
      rw [World.cell?_of_block (w := w) (setRow_other w g' ad.block _ hne)]
      exact hcell
    have hmine := hh.mine id g' (by rw [hb]; rfl) (by rw [hr]; rfl)
    have hbw : BelowL cx.L cx.B cx.w0 (w.setRow g' (cur.toList.take (i * t.size) ++ cs ++ cur.toList.drop (i * t.size + t.size)).toArray) :=
      hh.below.trans ⟨rfl, rfl, rfl, by simp, fun k hk hL => setRow_other w g' k _ (by rintro rfl; exact hmine.elim (fun h => by omega) hL)⟩
    have hlive : (σ.objs id).live = true := by rw [hb]; rfl
    have hset := hh.set (id := id) (o := .arr e t (xs.set i (σ.tv t y))) hlive hbw hk
      (fun j g2 hj hl hg => by
        have : g2 ≠ g' := by rintro rfl; exact hh.sep j id g2 hj hl hlive hg (by rw [hr]; rfl)
        exact ⟨setRow_other w g' g2 _ this, rfl⟩) (fun _ _ _ => rfl)
      (by
        simp only [ObjOK]
        have hcl2 : (cur.toList.take (i * t.size) ++ cs ++ cur.toList.drop (i * t.size + t.size)).length = cap * t.size := by
          have : cur.toList.length = cap * t.size := by rw [Array.length_toList]; exact hsz
          simp only [List.length_append, List.length_take, List.length_drop, this, hcl]
          rw [← this, Array.length_toList]
          omega
        refine ⟨⟨(cur.toList.take (i * t.size) ++ cs ++ cur.toList.drop (i * t.size + t.size)).take (xs.length * t.size), ⟨?_, .inr ⟨g', cap, _, ?_, hB, setRow_heap w g' cur _ e _ hheap, ?_, hcap, ?_, ?_⟩⟩, hpos, fun j hj => ?_⟩, fun g2 hg2 => ?_⟩
        · rw [List.length_take, hcl2, List.length_set, ← hsz]; omega
        · rw [hr, List.length_set]
        · rw [List.length_set]; exact hle
        · rw [List.size_toArray]; exact hcl2
        · rw [List.length_set]
        · have hj' : j < xs.length := by simpa using hj
          rw [seg_set cur.toList cs t.size i j xs.length hcl hi hj' (by rw [Array.length_toList]; exact hn)]
          rw [List.getElem_set]
          by_cases hji : i = j
          · rw [if_pos hji.symm, if_pos hji]
            exact q1.keeps hk
          · rw [if_neg (fun h => hji h.symm), if_neg hji, htk]
            exact (hrd j hj').keeps hk
        · exact hlim g2 hg2)
      rfl
    exact ⟨lim, G, hset.1, hf.keeps hk hset.2⟩
end

/-! ### Parts of an element; how long an array is -/

def setF : (t : Ty) → t.den → (i : Nat) → (fldT t i).den → t.den
  | .cons _ _, x, 0, y => (y, x.2)
  | .cons _ t, x, i + 1, y => (x.1, setF t x.2 i y)
  | .int _, x, _, _ => x
  | .bool, x, _, _ => x
  | .str, x, _, _ => x
  | .list _, x, _, _ => x
  | .nil, x, _, _ => x

theorem Rd_setF {P : Program} {w : World} {lim : Nat → Nat} : ∀ {t : Ty} {cs : List Value} {x : t.den} {i o : Nat} {fs : List Field} {c : Value} {y : (fldT t i).den}, FsOK P t fs o → i < t.nf → Rd w lim t cs x → Rd w lim (fldT t i) [c] y → Rd w lim t (cs.set i c) (setF t x i y) := by
  intro t
  induction t with
  | cons h t _ ih =>
    intro cs x i o fs c y hf hi hr hy
    simp only [FsOK] at hf
    obtain ⟨f, r, e, h1, h2, h3, h4⟩ := hf
    obtain ⟨c1, c2, e2, r1, r2⟩ := hr
    have hl := r1.length
    rw [(flat1_size h2).1] at hl
    match c1, hl with
    | [c0], _ =>
      subst e2
      cases i with
      | zero => exact ⟨[c], c2, rfl, hy, r2⟩
      | succ i => exact ⟨[c0], c2.set i c, rfl, r1, ih h4 (by simpa [Ty.nf] using hi) r2 hy⟩
  | _ => intro cs x i o fs c y _ hi; exact absurd hi (by simp [Ty.nf])

theorem fs_nf {P : Program} {t : Ty} : ∀ {fs : List Field} {o : Nat}, FsOK P t fs o → t.size = t.nf := by
  induction t with
  | cons h t _ ih =>
    intro fs o hf
    simp only [FsOK] at hf
    obtain ⟨f, r, e, h1, h2, h3, h4⟩ := hf
    simp only [Ty.size, Ty.nf, (flat1_size h2).1, ih h4]
    omega
  | nil => intro fs o _; rfl
  | _ => intro fs o hf; simp only [FsOK] at hf

section
variable {P : Program} {cx : Cx} {σ : St} {o : Oper} (hd : ∀ k, o.dst = some k → k < cx.N)
include hd

theorem op_fa_ep {T : TypeId} {x : Operand} {i k id sz : Nat} {t : Ty} (ho : o.op = .fieldAddr T x i) (hc : σ.uc x) (hx : σ.un x = .ep id sz k) (hl : (σ.objs id).live = true) (hT : TyOK P t T) (hi : i < t.nf) :
    OpOK P cx σ o ⟨.ef id sz k i, []⟩ :=
  OpOK.of_value hd fun a w lim G hh hf => by
    have h := un_ok hf x hc
    rw [hx] at h
    simp only [AVok] at h
    obtain ⟨hb, h⟩ := h
    obtain ⟨g, h1, h2⟩ := h hl
    have e : (⟨g, k * sz, none⟩ : Addr).add i = ⟨g, k * sz + i, none⟩ := by unfold Addr.add; split <;> simp_all
    refine ⟨.pointer (some ⟨g, k * sz + i, none⟩), by simp [execOp, ho, h2, run_fieldAt hT hi w, e], ?_⟩
    simp only [AVok]
    exact ⟨hb, fun _ => ⟨g, h1, rfl⟩⟩

theorem op_len_arr {x : Operand} {T e : TypeId} {t : Ty} {id : Nat} {xs : List t.den} (ho : o.op = .call { callee := .builtin .len, args := #[x], argTypes := #[T] }) (hT : TyOK P (.list t) T) (hc : σ.uc x) (hx : σ.un x = .own id) (hb : σ.objs id = .arr e t xs) :
    OpOK P cx σ o ⟨.rd (.int .i64) (xs.length : Int), []⟩ :=
  OpOK.of_value hd fun a w lim G hh hf => by
    have h := un_ok hf x hc
    have hob := hh.obj id
    rw [hx] at h
    rw [hb] at hob
    simp only [AVok, hb] at h
    simp only [ObjOK] at hob
    obtain ⟨⟨vs, ⟨_, hown⟩, hpos, _⟩, _⟩ := hob
    simp only [TyOK] at hT
    obtain ⟨e', hT, _⟩ := hT
    have fin : ∀ A cap, a.eval x = .slice A xs.length cap → xs.length ≤ maxLen → ∃ v, (execOp a.eval o).run P w = .ok (.value v) w ∧ AVok w lim G σ.objs (.rd (.int .i64) (xs.length : Int)) v := by
      intro A cap h1 h3
      refine ⟨goInt (xs.length : Int), ?_, ?_⟩
      · simp [execOp, ho, h1, resolve, invoke, builtin, Builtin.len_, run_underlying hT]
      · simp only [AVok]
        refine RdV.mk_int ?_
        simp [IntKind.min, IntKind.max, IntKind.signed, IntKind.bits]
        simp [maxLen] at h3
        omega
    rcases hown with ⟨hr, hz⟩ | ⟨g, cap, cur, hr, hB, hheap, hle, hcap, hsz, htk⟩
    · exact fin none 0 (by rw [h.2 rfl, hr, hz]) (by omega)
    · exact fin _ cap (by rw [h.2 rfl, hr]) (by omega)

omit hd in
theorem op_store_ef {T e : TypeId} {x y : Operand} {t : Ty} {id i f : Nat} {xs : List t.den} {Te : TypeId} (ho : o.op = .store T x y) (hdst : o.dst = none) (hcx : σ.uc x) (hx : σ.un x = .ef id t.size i f) (hb : σ.objs id = .arr e t xs) (hi : i < xs.length)
    (hTe : TyOK P t Te) (hf' : f < t.nf) (hT : TyOK P (fldT t f) T) (hy : σ.tc (fldT t f) y) :
    OpOK P cx σ o ⟨.any, [(id, .arr e t (xs.set i (setF t (xs.getD i t.dflt) f (σ.tv (fldT t f) y))))]⟩ := by
  intro a w K Q hs hK
  obtain ⟨lim, G, hh, hf⟩ := hs
  have h := un_ok hf x hcx
  have hob := hh.obj id
  rw [hx] at h
  rw [hb] at hob
  simp only [AVok, hb] at h
  simp only [ObjOK] at hob
  obtain ⟨⟨vs, ⟨hvl, hown⟩, hpos, hrd⟩, hlim⟩ := hob
  obtain ⟨fs, hfs1, hfs⟩ := hTe.fs hf'
  obtain ⟨fd, _, _, _, hfl⟩ := fs_at hfs hf'
  obtain ⟨cs, q1, q2⟩ := tc_ok hh hf hy
  have hcl : cs.length = 1 := q1.length.trans (flat1_size hfl).1
  match cs, hcl with
  | [c], _ =>
  have hcc : (a.eval y).cells.toList = [c] := by rw [q2]; exact mkV_cells q1.length q1.one
  have hnf := fs_nf hfs
  rcases hown with ⟨_, hz⟩ | ⟨g, cap, cur, hr, hB, hheap, hle, hcap, hsz, htk⟩
  · exfalso; omega
  · obtain ⟨g', hg', hp⟩ := h.2 rfl
    have : g' = g := by rw [hr] at hg'; injection hg' with hg'; exact hg'.symm
    subst this
    have hn : xs.length * t.size ≤ cur.size := by rw [hsz]; exact Nat.mul_le_mul_right _ hle
    have h3 : (i + 1) * t.size ≤ xs.length * t.size := Nat.mul_le_mul_right _ hi
    rw [Nat.succ_mul] at h3
    have hst := run_storeCells_at P g' (i * t.size + f) e [c] 0 cur w hheap (by simp; omega) q1.one
    simp only [Nat.add_zero, List.length_singleton] at hst
    have hsc : (a.eval y).cells.size = 1 := by rw [← Array.length_toList, hcc]; rfl
    let cur' := cur.toList.take (i * t.size + f) ++ [c] ++ cur.toList.drop (i * t.size + f + 1)
    have hrun : (execOp a.eval o).run P w = .ok .skip (w.setRow g' cur'.toArray) := by
      simp [execOp, ho, hp, Instr.storeAt, Instr.sureAddr, storeVar, run_sizeOf' hT, (flat1_size hfl).1, hsc, hcc, hst, cur']
    unfold Oper.wp
    rw [hrun]
    refine hK _ _ ?_
    rw [hdst]
    have hl0 : lim g' = 0 := hlim g' (by rw [hr]; rfl)
    have hk : Keeps w lim (w.setRow g' cur'.toArray) lim := by
      refine ⟨fun ad u hcell hlt => ?_, fun _ _ => Nat.le_refl _⟩
      have hne : ad.block ≠ g' := by rintro e; rw [e, hl0] at hlt; omega
      rw [World.cell?_of_block (w := w) (setRow_other w g' ad.block _ hne)]
      exact hcell
    have hmine := hh.mine id g' (by rw [hb]; rfl) (by rw [hr]; rfl)
    have hbw : BelowL cx.L cx.B cx.w0 (w.setRow g' cur'.toArray) :=
      hh.below.trans ⟨rfl, rfl, rfl, by simp, fun k hk hL => setRow_other w g' k _ (by rintro rfl; exact hmine.elim (fun h => by omega) hL)⟩
    have hlive : (σ.objs id).live = true := by rw [hb]; rfl
    -- the element's cells, turned in one place
    have hcurl : cur.toList.length = cur.size := Array.length_toList
    have hel : ∀ (hj : i < xs.length), Rd w lim t ((vs.drop (i * t.size)).take t.size) xs[i] := fun hj => hrd i hj
    have hev := hel hi
    have hset0 := Rd_setF hfs hf' hev q1
    have hcs2 : cur' = cur.toList.take (i * t.size) ++ ((vs.drop (i * t.size)).take t.size).set f c ++ cur.toList.drop (i * t.size + t.size) := by
      have hseg : (vs.drop (i * t.size)).take t.size = (cur.toList.drop (i * t.size)).take t.size := by
        rw [← htk, List.drop_take, List.take_take]
        congr 1
        omega
      rw [hseg]
      apply List.ext_getElem?
      intro m
      have hft : f < t.size := by omega
      have l1 : (cur.toList.take (i * t.size + f)).length = i * t.size + f := by rw [List.length_take]; omega
      have l2 : (cur.toList.take (i * t.size)).length = i * t.size := by rw [List.length_take]; omega
      have l3 : (((cur.toList.drop (i * t.size)).take t.size).set f c).length = t.size := by rw [List.length_set, List.length_take, List.length_drop]; omega
      simp only [cur', List.append_assoc]
      rcases Nat.lt_or_ge m (i * t.size) with hm | hm
      · rw [List.getElem?_append_left (by omega), List.getElem?_append_left (by omega), List.getElem?_take, List.getElem?_take, if_pos (by omega), if_pos hm]
      · rw [List.getElem?_append_right (l₁ := cur.toList.take (i * t.size)) (by omega), l2]
        rcases Nat.lt_or_ge m (i * t.size + t.size) with hm2 | hm2
        · rw [List.getElem?_append_left (l₁ := ((cur.toList.drop (i * t.size)).take t.size).set f c) (by omega)]
          rcases Nat.lt_trichotomy m (i * t.size + f) with hm3 | hm3 | hm3
          · rw [List.getElem?_append_left (by omega), List.getElem?_take, if_pos hm3, List.getElem?_set_ne (by omega), List.getElem?_take, if_pos (by omega), List.getElem?_drop]
            congr 1; omega
          · rw [List.getElem?_append_right (by omega), l1, hm3, Nat.sub_self, Nat.add_sub_cancel_left, List.getElem?_set_self (by rw [List.length_take, List.length_drop]; omega)]
            rfl
          · rw [List.getElem?_append_right (by omega), l1, List.getElem?_append_right (by simp; omega), List.getElem?_drop, List.getElem?_set_ne (by omega), List.getElem?_take, if_pos (by omega), List.getElem?_drop]
            congr 1; simp; omega
        · rw [List.getElem?_append_right (by omega), l1, List.getElem?_append_right (by simp; omega), List.getElem?_drop, List.getElem?_append_right (by omega), l3, List.getElem?_drop]
          congr 1; simp; omega
    have hsl : (((vs.drop (i * t.size)).take t.size).set f c).length = t.size := by
      rw [List.length_set]; exact hev.length
    have hset := hh.set (id := id) (o := .arr e t (xs.set i (setF t (xs.getD i t.dflt) f (σ.tv (fldT t f) y)))) hlive hbw hk
      (fun j g2 hj hl hg => by
        have : g2 ≠ g' := by rintro rfl; exact hh.sep j id g2 hj hl hlive hg (by rw [hr]; rfl)
        exact ⟨setRow_other w g' g2 _ this, rfl⟩) (fun _ _ _ => rfl)
      (by
        simp only [ObjOK]
        have hcl2 : cur'.length = cap * t.size := by
          have : cur.toList.length = cap * t.size := by rw [Array.length_toList]; exact hsz
          simp only [cur', List.length_append, List.length_take, List.length_drop, this, List.length_singleton]
          rw [← this, Array.length_toList]
          omega
        refine ⟨⟨cur'.take (xs.length * t.size), ⟨?_, .inr ⟨g', cap, _, ?_, hB, setRow_heap w g' cur _ e _ hheap, ?_, hcap, ?_, ?_⟩⟩, hpos, fun j hj => ?_⟩, fun g2 hg2 => ?_⟩
        · rw [List.length_take, hcl2, List.length_set, ← hsz]; omega
        · rw [hr, List.length_set]
        · rw [List.length_set]; exact hle
        · rw [List.size_toArray]; exact hcl2
        · rw [List.length_set]
        · have hj' : j < xs.length := by simpa using hj
          have hsg := seg_set cur.toList _ t.size i j xs.length hsl hi hj' (by rw [Array.length_toList]; exact hn)
          rw [← hcs2] at hsg
          rw [hsg]
          rw [List.getElem_set]
          by_cases hji : i = j
          · rw [if_pos hji.symm, if_pos hji]
            have : xs.getD i t.dflt = xs[i] := by simp [List.getD_eq_getElem?_getD, List.getElem?_eq_getElem hi]
            rw [this]
            exact hset0.keeps hk
          · rw [if_neg (fun h => hji h.symm), if_neg hji, htk]
            exact (hrd j hj').keeps hk
        · exact hlim g2 hg2)
      rfl
    exact ⟨lim, G, hset.1, hf.keeps hk hset.2⟩
end

/-! ### Settling -/

def AObj.settle : AObj → AObj
  | .arr e t xs => .row e t xs
  | o => o

theorem settle_live (o : AObj) : o.settle.live = o.live := by cases o <;> rfl
theorem settle_born (o : AObj) : o.settle.born = o.born := by cases o <;> rfl

def St.settle (σ : St) : St := ⟨σ.tmps, fun i => (σ.objs i).settle⟩

/-- What was made may be settled: nobody writes it any more. -/
theorem sat_settle {cx : Cx} {σ : St} {a : Act} {w : World} (h : Sat cx σ a w) : Sat cx σ.settle a w := by
  classical
  obtain ⟨lim, G, hh, hf⟩ := h
  let Pr : Nat → Nat → Prop := fun b n => ∃ i e t, ∃ xs : List (Ty.den t), σ.objs i = .arr e t xs ∧ blk (G i) = some b ∧ n = xs.length * t.size
  let lim' : Nat → Nat := fun b => if h : ∃ n, Pr b n then h.choose else lim b
  have hin : ∀ b n, Pr b n → lim' b = n := by
    intro b n hp
    have hex : ∃ n, Pr b n := ⟨n, hp⟩
    show (if h : ∃ n, Pr b n then h.choose else lim b) = n
    rw [dif_pos hex]
    obtain ⟨i, e, t, xs, h1, h2, h3⟩ := hex.choose_spec
    obtain ⟨j, e', t', xs', k1, k2, k3⟩ := hp
    by_cases hij : i = j
    · subst hij
      rw [h1] at k1
      injection k1 with _ k5 k6
      subst k5
      have k6 := eq_of_heq k6
      subst k6
      rw [h3, k3]
    · exact absurd k2 (hh.sep i j b hij (by rw [h1]; rfl) (by rw [k1]; rfl) h2)
  have hout : ∀ b, (¬ ∃ n, Pr b n) → lim' b = lim b := by
    intro b hp
    show (if h : ∃ n, Pr b n then h.choose else lim b) = _
    rw [dif_neg hp]
  have other : ∀ i g, (σ.objs i).live = true → (∀ e t, ∀ xs : List (Ty.den t), σ.objs i ≠ .arr e t xs) → blk (G i) = some g → lim' g = lim g := by
    intro i g hl hna hg
    apply hout
    rintro ⟨n, j, e, t, xs, h1, h2, _⟩
    by_cases hij : i = j
    · subst hij; exact hna e t xs h1
    · exact hh.sep i j g hij hl (by rw [h1]; rfl) hg h2
  have hk : Keeps w lim w lim' := by
    refine ⟨fun _ _ hc _ => hc, fun b _ => ?_⟩
    by_cases hp : ∃ n, Pr b n
    · obtain ⟨n, hp⟩ := hp
      obtain ⟨i, e, t, xs, h1, h2, _⟩ := hp
      have := hh.obj i
      rw [h1] at this
      simp only [ObjOK] at this
      rw [this.2 b h2]
      exact Nat.zero_le _
    · rw [hout b hp]; exact Nat.le_refl _
  have he : Ext G σ.objs G σ.settle.objs := by
    intro i hb
    refine ⟨by rw [← hb]; exact settle_born _, fun hl => ⟨by rw [← hl]; exact (settle_live _).symm, rfl⟩⟩
  refine ⟨lim', G, ⟨hh.start, hh.below, fun b hb hL => ?_, fun i => ?_, fun i j g hij hi hj hg => ?_, fun i g hi hg => hh.mine i g (by rw [← settle_live (σ.objs i)]; exact hi) hg, fun j r hr => ⟨(he j (hh.lent j r hr).1).1, (hh.lent j r hr).2⟩⟩, hf.keeps hk he⟩
  · rw [hout b]
    · exact hh.lim0 b hb hL
    · rintro ⟨n, i, e, t, xs, h1, h2, _⟩
      rcases hh.mine i b (by rw [h1]; rfl) h2 with h | h
      · omega
      · exact hL h
  · have ho := hh.obj i
    show ObjOK w lim' G σ.settle.objs 0 (G i) (σ.objs i).settle
    cases hoi : σ.objs i with
    | arr e t xs =>
      rw [hoi] at ho
      simp only [ObjOK] at ho
      simp only [AObj.settle, ObjOK]
      exact ⟨ho.1.keeps hk fun _ _ => rfl, fun g hg => hin g _ ⟨i, e, t, xs, hoi, hg, rfl⟩⟩
    | unborn => simp only [AObj.settle, ObjOK]
    | dead => simp only [AObj.settle, ObjOK]
    | box T cs =>
      rw [hoi] at ho
      exact ho.keeps hk he fun g hg => ⟨rfl, other i g (by rw [hoi]; rfl) (fun _ _ _ h => by rw [hoi] at h; cases h) hg⟩
    | row e t xs =>
      rw [hoi] at ho
      exact ho.keeps hk he fun g hg => ⟨rfl, other i g (by rw [hoi]; rfl) (fun _ _ _ h => by rw [hoi] at h; cases h) hg⟩
  · have e1 := settle_live (σ.objs i)
    have e2 := settle_live (σ.objs j)
    exact hh.sep i j g hij (by rw [← e1]; exact hi) (by rw [← e2]; exact hj) hg

end Go.AL
