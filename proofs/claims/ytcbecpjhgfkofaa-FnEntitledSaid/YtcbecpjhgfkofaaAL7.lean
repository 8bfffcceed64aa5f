/- Operations on memory, each with its soundness. A general part, over any program. -/
import Derived.Test.YtcbecpjhgfkofaaAL6
set_option linter.unusedSimpArgs false
set_option linter.unusedVariables false
namespace Go.AL
open Go.RowKit

section
variable {P : Program} {cx : Cx} {σ : St} {o : Oper} (hd : ∀ k, o.dst = some k → k < cx.N)

theorem Hp.B_le {objs : Nat → AObj} {w : World} {lim : Nat → Nat} {G : Nat → Value} (h : Hp cx objs w lim G) : cx.B ≤ w.heap.size := by rw [h.start]; exact h.below.size

include hd

/-- A new object behind an allocation. -/
theorem OpOK.of_alloc {id : Nat} {ob : AObj} {av : AV} (hu : σ.objs id = .unborn)
    (h : ∀ a w lim G, Hp cx σ.objs w lim G → Fr cx σ a w lim G → ∃ (cells : Array Value) (T : TypeId) (n : Nat) (v r : Value), (execOp a.eval o).run P w = .ok (.value v) (w.alloc (.cells cells T)) ∧ blk r = some w.heap.size ∧
      ObjOK (w.alloc (.cells cells T)) (upd lim w.heap.size n) (upd G id r) (upd σ.objs id ob) 0 r ob ∧ AVok (w.alloc (.cells cells T)) (upd lim w.heap.size n) (upd G id r) (upd σ.objs id ob) av v) :
    OpOK P cx σ o ⟨av, [(id, ob)]⟩ := by
  intro a w K Q hs hK
  obtain ⟨lim, G, hh, hf⟩ := hs
  obtain ⟨cells, T, n, v, r, h1, h2, h3, h4⟩ := h a w lim G hh hf
  unfold Oper.wp
  rw [h1]
  refine hK _ _ ?_
  have e : σ.app o.dst ⟨av, [(id, ob)]⟩ = ({ σ with objs := upd σ.objs id ob } : St).put o.dst av := by
    unfold St.app St.put
    cases o.dst <;> rfl
  rw [e]
  have f := hf.keeps (keeps_alloc (w := w) (lim := lim) (.cells cells T) n) (Ext.new hu r ob)
  refine ⟨_, _, ?_, f.put hd h4⟩
  rw [put_objs]
  exact hh.alloc hu _ n h2 h3

theorem op_box {T : TypeId} {x : Operand} {id : Nat} {t : Ty} (ho : o.op = .box T x) (hc : σ.uc x) (hx : cellsC σ.objs t (σ.un x)) (hu : σ.objs id = .unborn) :
    OpOK P cx σ o ⟨.bp id 0, [(id, .box T (cellsAV (σ.un x)))]⟩ :=
  OpOK.of_alloc hd hu fun a w lim G hh hf => by
    obtain ⟨h1, h2, h3⟩ := cellsC_ok hh.obj hx (un_ok hf x hc)
    refine ⟨(a.eval x).cells, T, 0, .pointer (some ⟨w.heap.size, 0, none⟩), .pointer (some ⟨w.heap.size, 0, none⟩), ?_, rfl, ?_, ?_⟩
    · simp [execOp, ho, Instr.box, newVar, newRow]
    · simp only [ObjOK]
      exact ⟨_, _, rfl, Nat.zero_le _, heap_alloc_new w _, upd_same _ _ _, AVsOk.keeps (keeps_alloc _ _) (Ext.new hu _ _) _ _ h1⟩
    · simp only [AVok, upd_same]
      exact ⟨rfl, fun _ => ⟨_, rfl, rfl⟩⟩

theorem op_alloc {T : TypeId} {id : Nat} {t : Ty} (ho : o.op = .alloc T) (hT : TyOK P t T) (hu : σ.objs id = .unborn) :
    OpOK P cx σ o ⟨.bp id 0, [(id, .box T t.zeros)]⟩ :=
  OpOK.of_alloc hd hu fun a w lim G hh hf => by
    have hz := mkV_cells (zcells_len t) (zcells_rd w lim t).one
    refine ⟨(mkV t t.zcells).cells, T, 0, .pointer (some ⟨w.heap.size, 0, none⟩), .pointer (some ⟨w.heap.size, 0, none⟩), ?_, rfl, ?_, ?_⟩
    · simp [execOp, ho, Instr.alloc, run_zero' hT, newVar, newRow]
    · simp only [ObjOK]
      refine ⟨_, _, rfl, Nat.zero_le _, heap_alloc_new w _, upd_same _ _ _, ?_⟩
      rw [hz]
      exact zeros_ok t
    · simp only [AVok, upd_same]
      exact ⟨rfl, fun _ => ⟨_, rfl, rfl⟩⟩

theorem op_load_ptr {T : TypeId} {x : Operand} {t : Ty} {y : t.den} (ho : o.op = .load T x) (hc : σ.uc x) (hx : σ.un x = .ptr t y) (hT : TyOK P t T) : OpOK P cx σ o ⟨.rd t y, []⟩ :=
  OpOK.of_value hd fun a w lim G hh hf => by
    have h := un_ok hf x hc
    rw [hx] at h
    simp only [AVok] at h
    obtain ⟨ad, cs, h1, h2, h3⟩ := h
    refine ⟨mkV t cs, ?_, ?_⟩
    · simp [execOp, ho, h1, run_load_at hT w ad cs h3.length fun j u hu => (h2 j u hu).1]
    · simp only [AVok]
      exact ⟨cs, h3, rfl⟩

/-- What a load out of a box gives. -/
def boxLoad (t : Ty) (cs : List AV) (off : Nat) : AV := bif t.isAgg then .agg ((cs.drop off).take t.size) else cs.getD off .any

omit hd in
theorem boxAt {w : World} {lim : Nat → Nat} {G : Nat → Value} {objs : Nat → AObj} {id off : Nat} {T' : TypeId} {cs : List AV} {v : Value} (hh : Hp cx objs w lim G) (hb : objs id = .box T' cs) (hv : AVok w lim G objs (.bp id off) v) :
    ∃ g arr, G id = .pointer (some ⟨g, 0, none⟩) ∧ v = .pointer (some ⟨g, off, none⟩) ∧ (cx.B ≤ g ∨ cx.L g) ∧ w.heap[g]? = some (.cells arr T' (0, 0)) ∧ lim g = 0 ∧ AVsOk w lim G objs cs arr.toList := by
  simp only [AVok] at hv
  have h := hh.obj id
  rw [hb] at h hv
  simp only [ObjOK] at h
  obtain ⟨g, arr, h1, h2, h3, h4, h5⟩ := h
  obtain ⟨g', hg, hv'⟩ := hv.2 rfl
  have hm := hh.mine id g' (by rw [hb]; rfl) hg
  rw [h1] at hg
  injection hg with hg
  subst hg
  exact ⟨_, arr, h1, hv', hm, h3, h4, h5⟩

omit hd in
theorem AVsOk.cut {w : World} {lim : Nat → Nat} {G : Nat → Value} {objs : Nat → AObj} : ∀ (off n : Nat) {cs : List AV} {vs : List Value}, AVsOk w lim G objs cs vs → AVsOk w lim G objs ((cs.drop off).take n) ((vs.drop off).take n) := by
  intro off n cs vs h
  have hl := h.length
  refine AVsOk.mk (by simp [hl]) fun i hi => ?_
  have hi' : i < n ∧ off + i < cs.length := by simp at hi; omega
  have e1 : ((cs.drop off).take n).getD i .any = cs.getD (off + i) .any := by simp [List.getD_eq_getElem?_getD, List.getElem?_take, hi'.1]
  have e2 : ((vs.drop off).take n).getD i undef = vs.getD (off + i) undef := by simp [List.getD_eq_getElem?_getD, List.getElem?_take, hi'.1]
  rw [e1, e2]
  exact h.get _ hi'.2

theorem op_load_box {T : TypeId} {x : Operand} {t : Ty} {id off : Nat} {T' : TypeId} {cs : List AV} (ho : o.op = .load T x) (hc : σ.uc x) (hx : σ.un x = .bp id off) (hb : σ.objs id = .box T' cs) (hT : TyOK P t T) (hin : off + t.size ≤ cs.length) :
    OpOK P cx σ o ⟨boxLoad t cs off, []⟩ :=
  OpOK.of_value hd fun a w lim G hh hf => by
    have h := un_ok hf x hc
    rw [hx] at h
    obtain ⟨g, arr, h1, h2, h3, h4, h5, h6⟩ := boxAt hh hb h
    have hl := h6.length
    have hcells : ∀ j u, ((arr.toList.drop off).take t.size)[j]? = some u → w.cell? ((⟨g, off, none⟩ : Addr).add j) = some u := by
      intro j u hu
      have e : (⟨g, off, none⟩ : Addr).add j = ⟨g, off + j, none⟩ := by unfold Addr.add; split <;> simp_all
      rw [e, cell_of_row w g _ arr T' (0, 0) h4]
      rw [List.getElem?_take] at hu
      split at hu
      · simpa using hu
      · cases hu
    have hlen : ((arr.toList.drop off).take t.size).length = t.size := by rw [List.length_take, List.length_drop, hl]; omega
    refine ⟨mkV t ((arr.toList.drop off).take t.size), ?_, ?_⟩
    · simp [execOp, ho, h2, run_load_at hT w _ _ hlen hcells]
    · unfold boxLoad mkV
      cases hg : t.isAgg with
      | true =>
        simp only [cond_true, AVok, if_true]
        exact ⟨_, rfl, h6.cut off t.size⟩
      | false =>
        have hs : t.size = 1 := by cases t <;> simp_all [Ty.isAgg, Ty.size]
        have hlt : off < cs.length := by omega
        have hla : off < arr.toList.length := by omega
        simp only [cond_false, Bool.false_eq_true, if_false]
        have e : ((arr.toList.drop off).take t.size).headD undef = arr.toList.getD off undef := by
          rw [hs, List.drop_eq_getElem_cons hla]
          simp [List.getD_eq_getElem?_getD, List.getElem?_eq_getElem hla]
        rw [e]
        exact h6.get off hlt

omit hd in
theorem op_store_box {T : TypeId} {x y : Operand} {t : Ty} {id off : Nat} {T' : TypeId} {cs : List AV} (ho : o.op = .store T x y) (hdst : o.dst = none) (hc : σ.uc x) (hx : σ.un x = .bp id off) (hb : σ.objs id = .box T' cs) (hT : TyOK P t T) (hin : off + t.size ≤ cs.length)
    (hcy : σ.uc y) (hy : cellsC σ.objs t (σ.un y)) :
    OpOK P cx σ o ⟨.any, [(id, .box T' (cs.take off ++ cellsAV (σ.un y) ++ cs.drop (off + t.size)))]⟩ := by
  intro a w K Q hs hK
  obtain ⟨lim, G, hh, hf⟩ := hs
  have h := un_ok hf x hc
  rw [hx] at h
  obtain ⟨g, arr, h1, h2, h3, h4, h5, h6⟩ := boxAt hh hb h
  obtain ⟨b1, b2, b3⟩ := cellsC_ok hh.obj hy (un_ok hf y hcy)
  have hl := h6.length
  have hlen : off + (a.eval y).cells.toList.length ≤ arr.size := by rw [b2]; simp at hl; omega
  have hst := run_storeCells_at P g off T' (a.eval y).cells.toList 0 arr w h4 (by simpa using hlen) b3
  have hsz : (a.eval y).cells.size = t.size := by simpa using b2
  have hrun : (execOp a.eval o).run P w = .ok .skip (w.setRow g (arr.toList.take off ++ (a.eval y).cells.toList ++ arr.toList.drop (off + t.size)).toArray) := by
    simp only [Nat.add_zero] at hst
    rw [b2] at hst
    simp [execOp, ho, h2, Instr.storeAt, Instr.sureAddr, storeVar, run_sizeOf' hT, hsz, hst]
  unfold Oper.wp
  rw [hrun]
  refine hK _ _ ?_
  rw [hdst]
  have hk : Keeps w lim (w.setRow g (arr.toList.take off ++ (a.eval y).cells.toList ++ arr.toList.drop (off + t.size)).toArray) lim := by
    refine ⟨fun ad u hcell hlt => ?_, fun _ _ => Nat.le_refl _⟩
    have hne : ad.block ≠ g := by rintro e; rw [e, h5] at hlt; omega
    rw [World.cell?_of_block (w := w) (setRow_other w g ad.block _ hne)]
    exact hcell
  have hbw : BelowL cx.L cx.B cx.w0 (w.setRow g (arr.toList.take off ++ (a.eval y).cells.toList ++ arr.toList.drop (off + t.size)).toArray) :=
    hh.below.trans ⟨rfl, rfl, rfl, by simp, fun k hk hL => setRow_other w g k _ (by rintro rfl; exact h3.elim (fun h => by omega) hL)⟩
  have hlive : (σ.objs id).live = true := by rw [hb]; rfl
  have hset := hh.set (id := id) (o := .box T' (cs.take off ++ cellsAV (σ.un y) ++ cs.drop (off + t.size))) hlive hbw hk
    (fun i g' hi hl hg => by
      have : g' ≠ g := by rintro rfl; exact hh.sep i id g' hi hl hlive hg (by rw [h1]; rfl)
      exact ⟨setRow_other w g g' _ this, rfl⟩) (fun _ _ _ => rfl)
    (by
      have he : Ext G σ.objs G (upd σ.objs id (.box T' (cs.take off ++ cellsAV (σ.un y) ++ cs.drop (off + t.size)))) := by
        intro i hbn
        by_cases e : i = id
        · subst e; rw [upd_same]; exact ⟨rfl, fun _ => ⟨hlive, rfl⟩⟩
        · rw [upd_ne _ _ _ _ e]; exact ⟨hbn, fun h => ⟨h, rfl⟩⟩
      simp only [ObjOK]
      refine ⟨g, _, h1, Nat.zero_le _, setRow_heap w g arr _ T' _ h4, h5, ?_⟩
      have k1 := AVsOk.keeps hk he _ _ h6
      have k2 := AVsOk.keeps hk he _ _ b1
      have l2 := b1.length
      refine AVsOk.mk (by simp at hl b2 l2 ⊢; omega) fun i hi => ?_
      have ll : (cellsAV (σ.un y)).length = t.size := by rw [← l2, b2]
      have ta : (arr.toList.take off).length = off := by rw [List.length_take, hl]; omega
      have tc : (cs.take off).length = off := by rw [List.length_take]; omega
      rcases Nat.lt_or_ge i off with hio | hio
      · have e1 : (cs.take off ++ cellsAV (σ.un y) ++ cs.drop (off + t.size)).getD i .any = cs.getD i .any := by
          rw [List.append_assoc]; simp only [List.getD_eq_getElem?_getD, List.getElem?_append, tc, if_pos hio, List.getElem?_take]
        have e2 : (arr.toList.take off ++ (a.eval y).cells.toList ++ arr.toList.drop (off + t.size)).getD i undef = arr.toList.getD i undef := by
          rw [List.append_assoc]; simp only [List.getD_eq_getElem?_getD, List.getElem?_append, ta, if_pos hio, List.getElem?_take]
        rw [e1, List.toList_toArray, e2]
        exact k1.get i (by omega)
      · rcases Nat.lt_or_ge i (off + t.size) with hin' | hin'
        · have e1 : (cs.take off ++ cellsAV (σ.un y) ++ cs.drop (off + t.size)).getD i .any = (cellsAV (σ.un y)).getD (i - off) .any := by
            rw [List.append_assoc]; simp only [List.getD_eq_getElem?_getD, List.getElem?_append, tc, if_neg (Nat.not_lt.2 hio), ll, if_pos (show i - off < t.size by omega)]
          have e2 : (arr.toList.take off ++ (a.eval y).cells.toList ++ arr.toList.drop (off + t.size)).getD i undef = (a.eval y).cells.toList.getD (i - off) undef := by
            rw [List.append_assoc]; simp only [List.getD_eq_getElem?_getD, List.getElem?_append, ta, if_neg (Nat.not_lt.2 hio), b2, if_pos (show i - off < t.size by omega)]
          rw [e1, List.toList_toArray, e2]
          exact k2.get (i - off) (by omega)
        · have e1 : (cs.take off ++ cellsAV (σ.un y) ++ cs.drop (off + t.size)).getD i .any = cs.getD i .any := by
            rw [List.append_assoc]; simp only [List.getD_eq_getElem?_getD, List.getElem?_append, tc, if_neg (Nat.not_lt.2 hio), ll, if_neg (show ¬ i - off < t.size by omega), List.getElem?_drop]
            rw [show off + t.size + (i - off - t.size) = i by omega]
          have e2 : (arr.toList.take off ++ (a.eval y).cells.toList ++ arr.toList.drop (off + t.size)).getD i undef = arr.toList.getD i undef := by
            rw [List.append_assoc]; simp only [List.getD_eq_getElem?_getD, List.getElem?_append, ta, if_neg (Nat.not_lt.2 hio), b2, if_neg (show ¬ i - off < t.size by omega), List.getElem?_drop]
            rw [show off + t.size + (i - off - t.size) = i by omega]
          rw [e1, List.toList_toArray, e2]
          exact k1.get i (by simp at hi; omega))
    rfl
  exact ⟨lim, G, hset.1, hf.keeps hk hset.2⟩

end
end Go.AL
