/- Tails: a slice's rest taken from a row of the call's own, and an append to it. A general part, over any program. -/
import Derived.Test.YtfkdkblbhilghaaB3
import Derived.ArgAppend
set_option linter.unusedSimpArgs false
set_option linter.unusedVariables false
namespace Go.AL
open Go.RowKit

theorem setCell_heap {w : World} {g o : Nat} {v : Value} {cur : Array Value} {e : TypeId} {fr : Nat × Nat} (h : w.heap[g]? = some (.cells cur e fr)) :
    ∃ cur', (w.setCell ⟨g, o, none⟩ v).heap[g]? = some (.cells cur' e fr) ∧ cur'.size = cur.size := by
  refine ⟨cur.setIfInBounds o v, ?_, by simp⟩
  have hlt := (Array.getElem?_eq_some_iff.1 h).1
  have h2 := (Array.getElem?_eq_some_iff.1 h).2
  simp [World.setCell, h, h2, hlt, Array.getElem?_modify]
  rw [Array.getElem_modify_self, h2]

theorem setCells_heap {g : Nat} {e : TypeId} {fr : Nat × Nat} : ∀ (vs : List Value) (o : Nat) {w : World} {cur : Array Value}, w.heap[g]? = some (.cells cur e fr) →
    ∃ cur', (w.setCells g o vs).heap[g]? = some (.cells cur' e fr) ∧ cur'.size = cur.size
  | [], o, w, cur, h => ⟨cur, h, rfl⟩
  | v :: r, o, w, cur, h => by
    obtain ⟨c1, h1, h2⟩ := setCell_heap (o := o) (v := v) h
    obtain ⟨c2, h3, h4⟩ := setCells_heap r (o + 1) h1
    exact ⟨c2, h3, h4.trans h2⟩

theorem setCells_size (b : Nat) : ∀ (vs : List Value) (o : Nat) (w : World), (w.setCells b o vs).heap.size = w.heap.size
  | [], _, _ => rfl
  | v :: r, o, w => by
    rw [World.setCells, setCells_size b r]
    simp [World.setCell]

theorem setCells_other (b : Nat) : ∀ (vs : List Value) (o : Nat) (w : World) (k : Nat), k ≠ b → (w.setCells b o vs).heap[k]? = w.heap[k]?
  | [], _, _, _, _ => rfl
  | v :: r, o, w, k, hk => by
    rw [World.setCells, setCells_other b r _ _ k hk]
    simp [World.setCell, Array.getElem?_modify, Ne.symm hk]

theorem setCells_rest (b : Nat) : ∀ (vs : List Value) (o : Nat) (w : World), (w.setCells b o vs).os = w.os ∧ (w.setCells b o vs).tape = w.tape ∧ (w.setCells b o vs).output = w.output
  | [], _, _ => ⟨rfl, rfl, rfl⟩
  | v :: r, o, w => by
    obtain ⟨h1, h2, h3⟩ := setCells_rest b r (o + 1) (w.setCell ⟨b, o, none⟩ v)
    exact ⟨h1, h2, h3⟩

theorem cell_at {w : World} {g k : Nat} {cur : Array Value} {e : TypeId} {fr : Nat × Nat} (h : w.heap[g]? = some (.cells cur e fr)) : w.cell? ⟨g, k, none⟩ = cur.toList[k]? := by
  unfold World.cell?
  simp [h]

theorem app_tl {P : Program} {w : World} {lim : Nat → Nat} {B : Nat} {e T ty : TypeId} {t : Ty} (hT : TyOK P (.list t) T) (he : ElOK P T e) {xs ys : List t.den} {root x : Value} (hrow : TailOK w lim B e t xs root)
    (hx : RdV w lim (.list t) x ys) (hb : xs.length + ys.length ≤ 274877906944) (hB : B ≤ w.heap.size) :
    ∃ v' w' lim', (Builtin.append_ #[T, T] ty #[root, x]).run P w = .ok v' w' ∧ Keeps w lim w' lim' ∧ TailOK w' lim' B e t (xs ++ ys) v' ∧
      Below B w w' ∧ (∀ g, g < w.heap.size → blk root ≠ some g → w'.heap[g]? = w.heap[g]? ∧ lim' g = lim g) ∧ (blk v' = blk root ∨ ∀ g', blk v' = some g' → w.heap.size ≤ g') := by
  obtain ⟨hpos, ⟨hr, h0⟩ | ⟨g, off, cap, cur, hr, hbg, hh, hnc, hcm, hcs, hlim, hrd⟩⟩ := hrow
  · have hx0 : xs = [] := List.eq_nil_of_length_eq_zero h0
    subst hx0
    subst hr
    have hrow0 : RowOK w lim B e t [] (.slice none 0 0) := ⟨[], World.ownsRow_nil _ _ _ _, hpos, fun i h => absurd h (by simp)⟩
    obtain ⟨v', w', lim', k1, k2, k3, k4, k5, k6, k7⟩ := app_step (ty := ty) hT he hrow0 (fun g hg => by cases hg) hx hb hB
    refine ⟨v', w', lim', k1, k2, k3.tail k4, k5, k6, k7.imp id fun h g' hg => ?_⟩
    rw [h] at hg
    injection hg with hg
    omega
  · subst hr
    have hcl : cur.toList.length = cur.size := Array.length_toList
    obtain ⟨A, cx, x1, x2, x3, x4⟩ := hx.list
    subst x1
    obtain ⟨news, n1, n2, n3, n4⟩ := list_cells x4 ys.length (Nat.le_refl _)
    obtain ⟨he2, _⟩ := hT.el he
    have he := he
    unfold ElOK at he
    obtain ⟨i, i1, i2, i3, i4⟩ := he2.inf
    have hcx : xs.length * t.size ≤ cap * t.size := Nat.mul_le_mul_right _ hnc
    by_cases hm : ys.length = 0
    · have hy : ys = [] := List.eq_nil_of_length_eq_zero hm
      subst hy
      refine ⟨.slice (some ⟨g, off, none⟩) xs.length cap, w, lim, ?_, Keeps.refl _ _, ⟨hpos, .inr ⟨g, off, cap, cur, by simp, hbg, hh, by simpa using hnc, hcm, hcs, by simpa using hlim, fun i hi => ?_⟩⟩, Below.refl _ _, fun _ _ _ => ⟨rfl, rfl⟩, .inl rfl⟩
      · cases A <;> simp [Builtin.append_, run_underlying he, sizeOf, typeInfo, i1, Builtin.lenOf, Builtin.firstCells, loadCells, loadCellsFrom, hnc, storeCells]
      · have := hrd i (by simpa using hi)
        simpa using this
    · cases A with
      | none => obtain ⟨_, _, ha, _⟩ := x4 0 (by omega); cases ha
      | some a =>
        by_cases hroom : xs.length + ys.length ≤ cap
        · have hrm : xs.length * t.size + ys.length * t.size ≤ cap * t.size := by rw [← Nat.add_mul]; exact Nat.mul_le_mul_right _ hroom
          have hthere : ∀ j, j < news.length → (w.cell? ⟨g, off + xs.length * t.size + j, none⟩).isSome = true := fun j hj => by
            rw [cell_at hh, List.getElem?_eq_getElem (by rw [hcl]; omega)]
            rfl
          have hrun := run_append_room_cells (P := P) w T ty e i he i1 g off xs.length cap a ys.length cx news (by rw [i2]; exact n1) (n2 a rfl) n3 hroom (by rw [i2]; exact hthere) (fun j hj => by simp [World.frozen?, hh])
          rw [i2] at hrun
          obtain ⟨cur', c1, c2⟩ := setCells_heap news (off + xs.length * t.size) hh
          have hold : ∀ k, k < off + xs.length * t.size → cur'.toList[k]? = cur.toList[k]? := fun k hk => by
            rw [← cell_at c1, ← cell_at hh]
            exact World.cell?_setCells_out g news _ w _ (fun _ _ => .inl hk)
          have hnew : ∀ k, k < news.length → cur'.toList[off + xs.length * t.size + k]? = news[k]? := fun k hk => by
            rw [← cell_at c1, World.cell?_setCells_in g news _ w hthere k hk, List.getElem?_eq_getElem hk]
          have hk : Keeps w lim (w.setCells g (off + xs.length * t.size) news) (upd lim g (off + (xs ++ ys).length * t.size)) := by
            refine ⟨fun ad u hc hlt => ?_, fun b hbl => ?_⟩
            · rw [World.cell?_setCells_out g news _ w ad (fun h1 h2 => .inl ?_)]
              · exact hc
              · rw [h1, hlim (by omega)] at hlt
                exact hlt
            · by_cases e1 : b = g
              · subst e1
                rw [upd_same, hlim (by omega), List.length_append, Nat.add_mul]
                omega
              · rw [upd_ne _ _ _ _ e1]; exact Nat.le_refl _
          refine ⟨_, _, _, hrun, hk, ⟨hpos, .inr ⟨g, off, cap, cur', by rw [List.length_append], hbg, c1, by rw [List.length_append]; exact hroom, hcm, by rw [c2]; exact hcs, fun _ => by rw [upd_same], fun k hk9 => ?_⟩⟩, ?_, fun b hbl hne => ?_, .inl rfl⟩
          · rcases Nat.lt_or_ge k xs.length with hlt | hge
            · have hin : k * t.size + t.size ≤ xs.length * t.size := by
                rw [← Nat.succ_mul]; exact Nat.mul_le_mul_right _ hlt
              have e1 : (cur'.toList.drop (off + k * t.size)).take t.size = (cur.toList.drop (off + k * t.size)).take t.size := by
                apply List.ext_getElem?
                intro j
                rw [List.getElem?_take, List.getElem?_take]
                split
                · rw [List.getElem?_drop, List.getElem?_drop]
                  exact hold _ (by omega)
                · rfl
              have hg : (xs ++ ys)[k] = xs[k] := List.getElem_append_left hlt
              rw [e1, hg]
              exact (hrd k hlt).keeps hk
            · have hi' : k - xs.length < ys.length := by rw [List.length_append] at hk9; omega
              have hs : k * t.size = xs.length * t.size + (k - xs.length) * t.size := by rw [← Nat.add_mul]; congr 1; omega
              have hin : (k - xs.length) * t.size + t.size ≤ ys.length * t.size := by
                rw [← Nat.succ_mul]; exact Nat.mul_le_mul_right _ hi'
              have e1 : (cur'.toList.drop (off + k * t.size)).take t.size = (news.drop ((k - xs.length) * t.size)).take t.size := by
                apply List.ext_getElem?
                intro j
                rw [List.getElem?_take, List.getElem?_take]
                split
                · rw [List.getElem?_drop, List.getElem?_drop, ← hnew _ (by omega)]
                  congr 1
                  omega
                · rfl
              have hg : (xs ++ ys)[k] = ys[k - xs.length] := List.getElem_append_right hge
              rw [e1, hg]
              exact (n4 _ hi' hi').keeps hk
          · obtain ⟨r1, r2, r3⟩ := setCells_rest g news (off + xs.length * t.size) w
            exact ⟨r1, r2, r3, by rw [setCells_size]; exact Nat.le_refl _, fun k hk => setCells_other g news _ w k (by omega)⟩
          · have hbg' : b ≠ g := fun h => hne (by rw [h]; rfl)
            exact ⟨setCells_other g news _ w b hbg', upd_ne _ _ _ _ hbg'⟩
        · have hzc := mkV_cells (zcells_len t) (zcells_rd w (fun _ => 0) t).one
          have hzs : (mkV t t.zcells).cells.size = t.size := by
            have := congrArg List.length hzc
            rw [zcells_len] at this
            simpa using this
          have hby : (xs.length + ys.length) * i.bytes ≤ 140737488355328 := by
            have := Nat.mul_le_mul hb i4
            omega
          have holds : ∀ j u, ((cur.toList.drop off).take (xs.length * t.size))[j]? = some u → w.cell? ((⟨g, off, none⟩ : Addr).add j) = some u := by
            intro j u hu
            have hj : j < xs.length * t.size := by
              rcases Nat.lt_or_ge j (xs.length * t.size) with hj | hj
              · exact hj
              · rw [List.getElem?_take, if_neg (by omega)] at hu; cases hu
            rw [List.getElem?_take, if_pos hj, List.getElem?_drop] at hu
            have ea : (⟨g, off, none⟩ : Addr).add j = ⟨g, off + j, none⟩ := by
              unfold Addr.add; split
              · rename_i h0; rw [h0]; rfl
              · rfl
            rw [ea, cell_at hh]
            exact hu
          have hlo : ((cur.toList.drop off).take (xs.length * t.size)).length = xs.length * t.size := by
            rw [List.length_take, List.length_drop, hcl]
            omega
          obtain ⟨v', w', r1, r2, r3⟩ := run_append_arg_grows (P := P) w T ty e i _ t.size i.bytes he i1 i3 i2 rfl hzs hpos ⟨g, off, none⟩ xs.length cap _ hlo holds a ys.length cx news n1 (n2 a rfl) (by omega) (by simp only [maxLen]; omega) hby
          have b2 := own_blk r2
          have hge : ∀ g', v'.ownBlock = some g' → w.heap.size ≤ g' := fun g' h => (r2.lt g' h).1
          have hk : Keeps w lim w' (fun b => if v'.ownBlock = some b then (xs ++ ys).length * t.size else lim b) := by
            refine ⟨fun ad u hc hlt => ?_, fun b hbl => ?_⟩
            · rw [World.cell?_of_block (w := w) (r3.block ad.block (World.block_lt_of_cell? _ _ hc) (by simp))]; exact hc
            · show lim b ≤ (if v'.ownBlock = some b then (xs ++ ys).length * t.size else lim b)
              split
              · rename_i h; have := hge b h; omega
              · exact Nat.le_refl _
          have hro : RowOK w' (fun b => if v'.ownBlock = some b then (xs ++ ys).length * t.size else lim b) B e t (xs ++ ys) v' := by
            refine RowOK.lower hB ⟨_, by rw [List.length_append]; exact r2, hpos, fun k hk9 => ?_⟩
            rcases Nat.lt_or_ge k xs.length with hlt | hge
            · have hin : k * t.size + t.size ≤ xs.length * t.size := by
                rw [← Nat.succ_mul]; exact Nat.mul_le_mul_right _ hlt
              have e1 : ((((cur.toList.drop off).take (xs.length * t.size)) ++ news).drop (k * t.size)).take t.size = (cur.toList.drop (off + k * t.size)).take t.size := by
                rw [List.drop_append_of_le_length (by omega), List.take_append_of_le_length (by rw [List.length_drop]; omega), List.drop_take, List.take_take, Nat.min_eq_left (by omega), List.drop_drop]
              have hg : (xs ++ ys)[k] = xs[k] := List.getElem_append_left hlt
              rw [e1, hg]
              exact (hrd k hlt).keeps hk
            · have hi' : k - xs.length < ys.length := by rw [List.length_append] at hk9; omega
              have hs : k * t.size = xs.length * t.size + (k - xs.length) * t.size := by rw [← Nat.add_mul]; congr 1; omega
              have e1 : ((((cur.toList.drop off).take (xs.length * t.size)) ++ news).drop (k * t.size)).take t.size = (news.drop ((k - xs.length) * t.size)).take t.size := by
                rw [List.drop_append, List.drop_of_length_le (by omega), List.nil_append]
                congr 2
                omega
              have hg : (xs ++ ys)[k] = ys[k - xs.length] := List.getElem_append_right hge
              rw [e1, hg]
              exact (n4 _ hi' hi').keeps hk
          refine ⟨v', w', _, r1, hk, hro.tail (fun g' hg => by
            rw [b2] at hg
            show (if v'.ownBlock = some g' then _ else _) = _
            rw [if_pos hg]), (Below.refl B w).grown r3 hB (fun g' hg => by cases hg), fun b hbl hne => ⟨r3.block b hbl (by simp), ?_⟩, ?_⟩
          · show (if v'.ownBlock = some b then _ else _) = _
            rw [if_neg]
            intro h
            have := hge b h
            omega
          · right
            rw [b2]
            exact hge

section
variable {P : Program} {cx : Cx} {σ : St} {o : Oper} (hd : ∀ k, o.dst = some k → k < cx.N)
include hd

theorem op_app_tl {T e : TypeId} {t : Ty} {s x : Operand} {id0 id : Nat} {xs : List t.den} (ho : o.op = .call { callee := .builtin .append, args := #[s, x], argTypes := #[T, T] }) (hT : TyOK P (.list t) T) (he : ElOK P T e)
    (hc : σ.uc s) (hs : σ.un s = .own id0) (hr : σ.objs id0 = .tl e t xs) (hx : σ.tc (.list t) x) (hu : σ.objs id = .unborn) (hb : xs.length + (σ.tv (.list t) x).length ≤ 274877906944) :
    OpOK P cx σ o ⟨.own id, [(id0, .dead), (id, .tl e t (xs ++ σ.tv (.list t) x))]⟩ := by
  intro a w K Q hsat hK
  obtain ⟨lim, G, hh, hf⟩ := hsat
  have h1 := un_ok hf s hc
  rw [hs] at h1
  simp only [AVok, hr] at h1
  have h1 := h1.2 rfl
  have h2 := tc_ok hh hf hx
  have h3 := hh.obj id0
  rw [hr] at h3
  simp only [ObjOK] at h3
  obtain ⟨v', w', lim', k1, k2, k3, k5, k6, k7⟩ := app_tl (ty := o.type) hT he h3 h2 hb (Nat.zero_le _)
  have hrun : (execOp a.eval o).run P w = .ok (.value v') w' := by
    simp only [execOp, ho, resolve, invoke, builtin, Sem.run_bind, Sem.run_pure, Result.andThen_ok, List.map_toArray, List.map_cons, List.map_nil, h1, k1]
  unfold Oper.wp
  rw [hrun]
  refine hK _ _ ?_
  have hne : id ≠ id0 := by rintro rfl; rw [hr] at hu; cases hu
  have hkill := hh.kill id0
  have hu' : (upd σ.objs id0 .dead) id = .unborn := by rw [upd_ne _ _ _ _ hne]; exact hu
  have hlive0 : (σ.objs id0).live = true := by rw [hr]; rfl
  have hnot : ∀ b, b < cx.B → ¬ cx.L b → blk (G id0) ≠ some b := fun b hlt hL hg => by
    rcases hh.mine id0 b hlive0 (by rw [hr]; exact hg) with h | h
    · omega
    · exact hL h
  have hbl : BelowL cx.L cx.B w w' := ⟨k5.os, k5.tape, k5.output, k5.size, fun b hlt hL => (k6 b (Nat.lt_of_lt_of_le hlt hh.B_le) (hnot b hlt hL)).1⟩
  have hold : ∀ i g, ((upd σ.objs id0 .dead) i).live = true → Blk ((upd σ.objs id0 .dead) i) (G i) g → w'.heap[g]? = w.heap[g]? ∧ lim' g = lim g := by
    intro i g hl hg
    have hi : i ≠ id0 := by rintro rfl; rw [upd_same] at hl; cases hl
    rw [upd_ne _ _ _ _ hi] at hl hg
    refine k6 g ((hh.obj i).block_ge hl g hg).2 fun hg0 => hh.sep i id0 g hi hl hlive0 hg (by rw [hr]; exact hg0)
  have hnew := hkill.new hu' (r := ⟨v', []⟩) (o := .tl e t (xs ++ σ.tv (.list t) x)) (hh.below.trans hbl) k2 hold
    (fun b hlt hL => (k6 b (Nat.lt_of_lt_of_le hlt hh.B_le) (hnot b hlt hL)).2)
    (fun i g hl hg hv => by
      have hi : i ≠ id0 := by rintro rfl; rw [upd_same] at hl; cases hl
      rw [upd_ne _ _ _ _ hi] at hl hg
      have hv : blk v' = some g := hv
      have hlt := ((hh.obj i).block_ge hl g hg).2
      rcases k7 with k7 | k7
      · rw [k7] at hv; exact hh.sep i id0 g hi hl hlive0 hg (by rw [hr]; exact hv)
      · have := k7 g hv; omega)
    (fun g hg => by
      have hg : blk v' = some g := hg
      rcases k7 with k7 | k7
      · rw [k7] at hg; exact hh.mine id0 g hlive0 (by rw [hr]; exact hg)
      · exact .inl (by have := hh.B_le; have := k7 g hg; omega))
    (by simp only [ObjOK]; exact k3)
  have hfr := (hf.keeps (Keeps.refl w lim) (Ext.kill id0)).keeps k2 (Ext.new hu' ⟨v', []⟩ (.tl e t (xs ++ σ.tv (.list t) x)))
  have e : σ.app o.dst ⟨.own id, [(id0, .dead), (id, .tl e t (xs ++ σ.tv (.list t) x))]⟩ = ({ tmps := σ.tmps, objs := upd (upd σ.objs id0 .dead) id (.tl e t (xs ++ σ.tv (.list t) x)) } : St).put o.dst (.own id) := by
    unfold St.app St.put
    cases o.dst <;> rfl
  rw [e]
  refine ⟨_, _, ?_, hfr.put hd (v := v') (by simp only [AVok, upd_same]; exact ⟨rfl, fun _ => trivial⟩)⟩
  rw [put_objs]
  exact hnew

/-- The rest of a row of the call's own, from l on: the row itself is given up. -/
theorem op_slice_tl {T e : TypeId} {x y : Operand} {t : Ty} {id0 id : Nat} {xs : List t.den} (l : Nat) (ho : o.op = .slice T x (some y) none none) (hT : TyOK P (.list t) T) (hc : σ.uc x) (hs : σ.un x = .own id0) (hr : σ.objs id0 = .row e t xs)
    (hy : σ.tc (.int .i64) y) (hyl : σ.ti .i64 y = (l : Int)) (hl : l ≤ xs.length) (hu : σ.objs id = .unborn) :
    OpOK P cx σ o ⟨.own id, [(id0, .dead), (id, .tl e t (xs.drop l))]⟩ := by
  intro a w K Q hsat hK
  obtain ⟨lim, G, hh, hf⟩ := hsat
  have h1 := un_ok hf x hc
  rw [hs] at h1
  simp only [AVok, hr] at h1
  have h1 := h1.2 rfl
  have h3 := hh.obj id0
  rw [hr] at h3
  simp only [ObjOK] at h3
  obtain ⟨⟨vs, hown, hpos, hrd⟩, hlim⟩ := h3
  have hTy := hT
  simp only [TyOK] at hT
  obtain ⟨e', u1, u2, _⟩ := hT
  have hyv : a.eval y = .int .i64 (l : Int) := by rw [← hyl]; exact (tc_int hh hf hy).1
  have key : ∃ v', (execOp a.eval o).run P w = .ok (.value v') w ∧ TailOK w lim 0 e t (xs.drop l) v' ∧ blk v' = blk (G id0) := by
    rcases hown.2 with ⟨hv, h0⟩ | ⟨g, cap, cur, hv, hbg, hg, hnc, hcm, hcs, htk⟩
    · have hl0 : l = 0 := by omega
      subst hl0
      refine ⟨.slice none 0 0, ?_, ⟨hpos, .inl ⟨rfl, by simpa using h0⟩⟩, by rw [hv]⟩
      simp [execOp, ho, h1, hv, hyv, Instr.sliceAt, run_underlying u1, Instr.slice, Instr.sliceBounds, Instr.sliceBound, asIntOf, run_sizeOf' u2]
      try rfl
    · have c3 : l ≤ cap := by omega
      have n0 : ∀ m : Nat, (0 : Int) ≤ (m : Int) := fun m => by omega
      have hlx : xs.length * t.size ≤ cap * t.size := Nat.mul_le_mul_right _ hnc
      have hll : l * t.size ≤ xs.length * t.size := Nat.mul_le_mul_right _ hl
      have hg0 := hlim g (by rw [hv]; rfl)
      refine ⟨.slice (if cap = l then some ⟨g, 0, none⟩ else (some (⟨g, 0, none⟩ : Addr)).map (·.add (l * t.size))) (xs.length - l) (cap - l), ?_, ?_, ?_⟩
      · have c1 : ((xs.length : Nat) : Int) ≤ (cap : Int) := by omega
        have c2 : (l : Int) ≤ (xs.length : Int) := by omega
        simp [execOp, ho, h1, hv, hyv, Instr.sliceAt, run_underlying u1, Instr.slice, Instr.sliceBounds, Instr.sliceBound, asIntOf, run_sizeOf' u2, *] <;> rfl
      · by_cases hcl : cap = l
        · refine ⟨hpos, .inr ⟨g, 0, cap - l, cur, by rw [if_pos hcl, List.length_drop], Nat.zero_le _, hg, by rw [List.length_drop]; omega, by omega, by rw [show cap - l = 0 by omega]; omega, fun h => absurd h (by omega), fun i hi => ?_⟩⟩
          rw [List.length_drop] at hi
          omega
        · have ea : (⟨g, 0, none⟩ : Addr).add (l * t.size) = ⟨g, l * t.size, none⟩ := by
            unfold Addr.add; split
            · rename_i h0; rw [h0]
            · simp
          have e1 : l * t.size + (cap - l) * t.size = cap * t.size := by rw [← Nat.add_mul]; congr 1; omega
          have e2 : l * t.size + (xs.length - l) * t.size = xs.length * t.size := by rw [← Nat.add_mul]; congr 1; omega
          refine ⟨hpos, .inr ⟨g, l * t.size, cap - l, cur, by rw [if_neg hcl, List.length_drop, Option.map_some, ea], Nat.zero_le _, hg, by rw [List.length_drop]; omega, by omega, by omega, fun _ => by rw [hg0, List.length_drop]; omega, fun i hi => ?_⟩⟩
          rw [List.length_drop] at hi
          have := hrd (l + i) (by omega)
          have hin : (l + i) * t.size + t.size ≤ xs.length * t.size := by
            rw [← Nat.succ_mul]; exact Nat.mul_le_mul_right _ (by omega)
          rw [← htk, List.drop_take, List.take_take, Nat.min_eq_left (by omega), Nat.add_mul] at this
          rw [List.getElem_drop]
          exact this
      · rw [hv]
        by_cases hcl : cap = l
        · rw [if_pos hcl]; rfl
        · rw [if_neg hcl]
          show some (Addr.add _ _).block = _
          rw [block_add]
          rfl
  obtain ⟨v', hrun, k3, k7⟩ := key
  unfold Oper.wp
  rw [hrun]
  refine hK _ _ ?_
  have hne : id ≠ id0 := by rintro rfl; rw [hr] at hu; cases hu
  have hkill := hh.kill id0
  have hu' : (upd σ.objs id0 .dead) id = .unborn := by rw [upd_ne _ _ _ _ hne]; exact hu
  have hlive0 : (σ.objs id0).live = true := by rw [hr]; rfl
  have hnew := hkill.new hu' (r := ⟨v', []⟩) (o := .tl e t (xs.drop l)) hh.below (Keeps.refl w lim) (fun _ _ _ _ => ⟨rfl, rfl⟩) (fun _ _ _ => rfl)
    (fun i g hl hg hv => by
      have hi : i ≠ id0 := by rintro rfl; rw [upd_same] at hl; cases hl
      rw [upd_ne _ _ _ _ hi] at hl hg
      have hv : blk v' = some g := hv
      rw [k7] at hv
      exact hh.sep i id0 g hi hl hlive0 hg (by rw [hr]; exact hv))
    (fun g hg => by
      have hg : blk v' = some g := hg
      rw [k7] at hg; exact hh.mine id0 g hlive0 (by rw [hr]; exact hg))
    (by simp only [ObjOK]; exact k3)
  have hfr := (hf.keeps (Keeps.refl w lim) (Ext.kill id0)).keeps (Keeps.refl w lim) (Ext.new hu' ⟨v', []⟩ (.tl e t (xs.drop l)))
  have e : σ.app o.dst ⟨.own id, [(id0, .dead), (id, .tl e t (xs.drop l))]⟩ = ({ tmps := σ.tmps, objs := upd (upd σ.objs id0 .dead) id (.tl e t (xs.drop l)) } : St).put o.dst (.own id) := by
    unfold St.app St.put
    cases o.dst <;> rfl
  rw [e]
  refine ⟨_, _, ?_, hfr.put hd (v := v') (by simp only [AVok, upd_same]; exact ⟨rfl, fun _ => trivial⟩)⟩
  rw [put_objs]
  exact hnew

end

end Go.AL
/- Rows that own the rows nested in them: made, filled, grown, written, lent in part. A general part, over any program. -/
set_option linter.unusedSimpArgs false
set_option linter.unusedVariables false
namespace Go.AL
open Go.RowKit

/-! ### Cells of an element -/

def setC : (t : Ty) → t.den → (i : Nat) → (fldT t i).den → t.den
  | .cons _ _, x, 0, y => (y, x.2)
  | .cons _ t, x, i + 1, y => (x.1, setC t x.2 i y)
  | .list _, _, _, y => y
  | .int _, x, _, _ => x
  | .bool, x, _, _ => x
  | .str, x, _, _ => x
  | .nil, x, _, _ => x

/-- f is the number of a cell of the type t: a field, or the whole of a slice. -/
def Cel (P : Program) (t : Ty) (f : Nat) : Prop := (f < t.nf ∧ ∃ T, TyOK P t T) ∨ ((∃ t', t = .list t') ∧ f = 0)

section
variable {P : Program} {w w' : World} {lim lim' : Nat → Nat} {te : Ty → TypeId}

theorem Tr_fs : ∀ {t : Ty} {cs : List Value} {x : t.den} {F : List Nat} {f o : Nat} {fs : List Field}, FsOK P t fs o → f < t.nf → Tr w te t cs x F →
    ∃ c F1 Fi F2, cs[f]? = some c ∧ F = F1 ++ Fi ++ F2 ∧ Tr w te (fldT t f) [c] (fldD t x f) Fi ∧
      ∀ (w' : World) (c' : Value) (y : (fldT t f).den) (Fi' : List Nat), (∀ g, g ∈ F1 ++ F2 → w'.heap[g]? = w.heap[g]?) → Tr w' te (fldT t f) [c'] y Fi' → Tr w' te t (cs.set f c') (setC t x f y) (F1 ++ Fi' ++ F2) := by
  intro t
  induction t with
  | cons h t _ ih =>
    intro cs x F f o fs hf hi hr
    simp only [FsOK] at hf
    obtain ⟨fd, r, e, h1, h2, h3, h4⟩ := hf
    obtain ⟨c1, c2, F1, F2, e1, e2, r1, r2⟩ := hr
    have hl := r1.length
    rw [(flat1_size h2).1] at hl
    match c1, hl with
    | [c], _ =>
      subst e1
      subst e2
      cases f with
      | zero =>
        refine ⟨c, [], F1, F2, rfl, by simp, r1, fun w' c' y Fi' hg hy => ?_⟩
        exact ⟨[c'], c2, Fi', F2, rfl, by simp, hy, r2.keeps fun g k => hg g (by simpa using k)⟩
      | succ f =>
        obtain ⟨c', A, Fi, B, k1, k2, k3, k4⟩ := ih h4 (by simpa [Ty.nf] using hi) r2
        refine ⟨c', F1 ++ A, Fi, B, by simpa using k1, by rw [k2]; simp [List.append_assoc], k3, fun w' c'' y Fi' hg hy => ?_⟩
        refine ⟨[c], c2.set f c'', F1, A ++ Fi' ++ B, rfl, by simp [List.append_assoc], r1.keeps fun g k => hg g (by simp [k]), k4 w' c'' y Fi' (fun g k => hg g ?_) hy⟩
        rcases List.mem_append.1 k with k | k <;> simp [k]
  | _ => intro cs x F f o fs _ hi; exact absurd hi (by simp [Ty.nf])

theorem Tr_cel {t : Ty} {cs : List Value} {x : t.den} {F : List Nat} {f : Nat} (hc : Cel P t f) (h : Tr w te t cs x F) :
    ∃ c F1 Fi F2, cs[f]? = some c ∧ F = F1 ++ Fi ++ F2 ∧ Tr w te (fldT t f) [c] (fldD t x f) Fi ∧
      ∀ (w' : World) (c' : Value) (y : (fldT t f).den) (Fi' : List Nat), (∀ g, g ∈ F1 ++ F2 → w'.heap[g]? = w.heap[g]?) → Tr w' te (fldT t f) [c'] y Fi' → Tr w' te t (cs.set f c') (setC t x f y) (F1 ++ Fi' ++ F2) := by
  rcases hc with ⟨hf, T, hT⟩ | ⟨⟨t', rfl⟩, rfl⟩
  · obtain ⟨fs, _, hfs⟩ := hT.fs hf
    exact Tr_fs hfs hf h
  · have hl := h.length
    match cs, hl with
    | [c], _ => exact ⟨c, [], F, [], rfl, by simp, h, fun w' c' y Fi' _ hy => by
      rw [List.append_nil, List.nil_append]; exact hy⟩

/-- The same, by reckoning. -/
def celC (P : Program) (te : Ty → TypeId) (t : Ty) (f : Nat) : Prop := match t with
  | .list _ => f = 0
  | .cons _ _ => f < t.nf ∧ TyOK P t (te t)
  | _ => False
theorem celC_spec {t : Ty} {f : Nat} (h : celC P te t f) : Cel P t f := by
  cases t <;> simp only [celC] at h
  · exact .inr ⟨⟨_, rfl⟩, h⟩
  · exact .inl ⟨h.1, _, h.2⟩

theorem Cel.flat {t : Ty} {f : Nat} (hc : Cel P t f) : (fldT t f).flat1 = true ∧ f < t.size := by
  rcases hc with ⟨hf, T, hT⟩ | ⟨⟨t', rfl⟩, rfl⟩
  · obtain ⟨fs, _, hfs⟩ := hT.fs hf
    obtain ⟨_, _, _, _, h⟩ := fs_at hfs hf
    exact ⟨h, by rw [fs_nf hfs]; exact hf⟩
  · exact ⟨rfl, by simp [Ty.size]⟩

theorem Tr.noL : ∀ {t : Ty} {cs : List Value} {x : t.den}, t.noL = true → Rd w lim t cs x → Tr w' te t cs x []
  | .int _, _, _, _, h => ⟨h, rfl⟩
  | .bool, _, _, _, h => ⟨h, rfl⟩
  | .str, _, _, _, h => ⟨h, rfl⟩
  | .nil, _, _, _, h => ⟨h, rfl⟩
  | .list _, _, _, hn, _ => by cases hn
  | .cons h t, _, _, hn, hr => by
    simp only [Ty.noL, Bool.and_eq_true] at hn
    obtain ⟨c1, c2, e, h1, h2⟩ := hr
    exact ⟨c1, c2, [], [], e, rfl, Tr.noL hn.1 h1, Tr.noL hn.2 h2⟩

theorem Tr.noL_nil : ∀ {t : Ty} {cs : List Value} {x : t.den} {F : List Nat}, t.noL = true → Tr w te t cs x F → F = [] ∧ Rd w' lim t cs x
  | .int _, _, _, _, _, h => ⟨h.2, h.1⟩
  | .bool, _, _, _, _, h => ⟨h.2, h.1⟩
  | .str, _, _, _, _, h => ⟨h.2, h.1⟩
  | .nil, _, _, _, _, h => ⟨h.2, h.1⟩
  | .list _, _, _, _, hn, _ => by cases hn
  | .cons h t, _, _, _, hn, hr => by
    simp only [Ty.noL, Bool.and_eq_true] at hn
    obtain ⟨c1, c2, F1, F2, e, e2, h1, h2⟩ := hr
    obtain ⟨a1, a2⟩ := Tr.noL_nil hn.1 h1
    obtain ⟨b1, b2⟩ := Tr.noL_nil hn.2 h2
    subst a1; subst b1
    exact ⟨e2, c1, c2, e, a2, b2⟩

theorem zcells_tr (hp : ∀ t : Ty, True) : ∀ {t : Ty} {fs : List Field} {o : Nat}, FsOK P t fs o → Tr w te t t.zcells t.dflt []
  | .nil, _, _, _ => ⟨rfl, rfl⟩
  | .cons h t, fs, o, hf => by
    simp only [FsOK] at hf
    obtain ⟨f, r, e, h1, h2, h3, h4⟩ := hf
    refine ⟨h.zcells, t.zcells, [], [], rfl, rfl, ?_, zcells_tr hp h4⟩
    cases h with
    | int k => exact Tr.noL (lim := fun _ => 0) (w := w) rfl (zcells_rd w _ _)
    | bool => exact Tr.noL (lim := fun _ => 0) (w := w) rfl (zcells_rd w _ _)
    | str => exact Tr.noL (lim := fun _ => 0) (w := w) rfl (zcells_rd w _ _)
    | list t' =>
      simp only [TyOK] at h3
      obtain ⟨e', _, _, _, hpos⟩ := h3
      exact ⟨_, [], [], rfl, World.ownsRow_nil _ _ _ _, hpos, rfl, rfl, fun i hi => absurd hi (by simp [Ty.dflt])⟩
    | nil => cases h2
    | cons _ _ => cases h2
  | .int _, _, _, hf => by simp only [FsOK] at hf
  | .bool, _, _, hf => by simp only [FsOK] at hf
  | .str, _, _, hf => by simp only [FsOK] at hf
  | .list _, _, _, hf => by simp only [FsOK] at hf

theorem zero_tr {t : Ty} {T : TypeId} (h : TyOK P t T) : Tr w te t t.zcells t.dflt [] := by
  cases t with
  | int k => exact Tr.noL (lim := fun _ => 0) (w := w) rfl (zcells_rd w _ _)
  | bool => exact Tr.noL (lim := fun _ => 0) (w := w) rfl (zcells_rd w _ _)
  | str => exact Tr.noL (lim := fun _ => 0) (w := w) rfl (zcells_rd w _ _)
  | list t' =>
    simp only [TyOK] at h
    obtain ⟨e', _, _, _, hpos⟩ := h
    exact ⟨_, [], [], rfl, World.ownsRow_nil _ _ _ _, hpos, rfl, rfl, fun i hi => absurd hi (by simp [Ty.dflt])⟩
  | nil => exact ⟨rfl, rfl⟩
  | cons a b =>
    simp only [TyOK] at h
    obtain ⟨fs, _, hfs, _⟩ := h
    exact zcells_tr (fun _ => trivial) hfs

/-! ### Rows of elements -/

theorem flatten_at {Fs : List (List Nat)} {i : Nat} (h : i < Fs.length) : Fs.flatten = (Fs.take i).flatten ++ Fs.getD i [] ++ (Fs.drop (i + 1)).flatten := by
  have e : Fs.getD i [] = Fs[i] := by simp [List.getD_eq_getElem?_getD, List.getElem?_eq_getElem h]
  have h2 := congrArg List.flatten (List.take_append_drop i Fs)
  rw [List.drop_eq_getElem_cons h, List.flatten_append, List.flatten_cons] at h2
  rw [e, ← h2, List.append_assoc]

theorem flatten_set {Fs : List (List Nat)} {i : Nat} (h : i < Fs.length) (F : List Nat) : (Fs.set i F).flatten = (Fs.take i).flatten ++ F ++ (Fs.drop (i + 1)).flatten := by
  rw [List.set_eq_take_append_cons_drop, if_pos h]
  simp [List.append_assoc]

theorem getD_set {Fs : List (List Nat)} {i j : Nat} (h : i < Fs.length) (F : List Nat) : (Fs.set i F).getD j [] = if j = i then F else Fs.getD j [] := by
  simp only [List.getD_eq_getElem?_getD]
  by_cases e : j = i
  · subst e; rw [List.getElem?_set_self h, if_pos rfl]; rfl
  · rw [List.getElem?_set_ne (by omega), if_neg e]

theorem mem_take {Fs : List (List Nat)} {i j g : Nat} (hj : j < i) (h : g ∈ Fs.getD j []) : g ∈ (Fs.take i).flatten := by
  apply mem_flat (i := j)
  rw [List.getD_eq_getElem?_getD] at h ⊢
  rw [List.getElem?_take, if_pos hj]
  exact h
theorem mem_drop {Fs : List (List Nat)} {i j g : Nat} (hj : i < j) (h : g ∈ Fs.getD j []) : g ∈ (Fs.drop (i + 1)).flatten := by
  apply mem_flat (i := j - (i + 1))
  rw [List.getD_eq_getElem?_getD] at h ⊢
  rw [List.getElem?_drop, show i + 1 + (j - (i + 1)) = j by omega]
  exact h

/-- An element of an owned row taken out, and another put in its place. -/
theorem deep_store {t : Ty} {xs : List t.den} {r : Rt} (h : DeepOK w lim te t xs r) {i : Nat} (hi : i < xs.length) :
    ∃ g cap cur, r.v = .slice (some ⟨g, 0, none⟩) xs.length cap ∧ w.heap[g]? = some (.cells cur (te t) (0, 0)) ∧ i * t.size + t.size ≤ cur.size ∧ lim g = 0 ∧
      ∃ A Fi B, r.fp = A ++ Fi ++ B ∧ Tr w te t ((cur.toList.drop (i * t.size)).take t.size) xs[i] Fi ∧
        ∀ (w' : World) (lim' : Nat → Nat) (cs : List Value) (x : t.den) (Fi' : List Nat), w'.heap[g]? = some (.cells (cur.toList.take (i * t.size) ++ cs ++ cur.toList.drop (i * t.size + t.size)).toArray (te t) (0, 0)) →
          (∀ g', g' ∈ A ++ B → w'.heap[g']? = w.heap[g']?) → Tr w' te t cs x Fi' → ((blk r.v).toList ++ (A ++ Fi' ++ B)).Nodup → (∀ g', g' ∈ (blk r.v).toList ++ (A ++ Fi' ++ B) → lim' g' = 0) →
          DeepOK w' lim' te t (xs.set i x) ⟨r.v, A ++ Fi' ++ B⟩ := by
  obtain ⟨⟨root, vs, Fs, e1, ⟨hvl, hown⟩, hpos, h3, e2, h4⟩, hnd, hlim⟩ := h
  injection e1 with e1
  subst e1
  have e2 := List.append_cancel_left e2
  have hFi : i < Fs.length := by omega
  rcases hown with ⟨_, hz⟩ | ⟨g, cap, cur, hr, hB, hheap, hle, hcap, hsz, htk⟩
  · exfalso; omega
  · have hn : xs.length * t.size ≤ cur.size := by rw [hsz]; exact Nat.mul_le_mul_right _ hle
    have h5 : (i + 1) * t.size ≤ xs.length * t.size := Nat.mul_le_mul_right _ hi
    rw [Nat.succ_mul] at h5
    have hcl : cur.toList.length = cur.size := Array.length_toList
    have hel : ∀ j, j < xs.length → (vs.drop (j * t.size)).take t.size = (cur.toList.drop (j * t.size)).take t.size := by
      intro j hj
      have h6 : (j + 1) * t.size ≤ xs.length * t.size := Nat.mul_le_mul_right _ hj
      rw [Nat.succ_mul] at h6
      rw [← htk, List.drop_take, List.take_take]
      congr 1
      omega
    refine ⟨g, cap, cur, hr, hheap, by omega, hlim g (by rw [hr]; simp [blk]), (Fs.take i).flatten, Fs.getD i [], (Fs.drop (i + 1)).flatten, by rw [e2]; exact flatten_at hFi, by rw [← hel i hi]; exact h4 i hi, fun w' lim' cs x Fi' hg' hk ht hnd' hlim' => ?_⟩
    have hcs : cs.length = t.size := ht.length
    have hcl2 : (cur.toList.take (i * t.size) ++ cs ++ cur.toList.drop (i * t.size + t.size)).length = cap * t.size := by
      simp only [List.length_append, List.length_take, List.length_drop, hcs, hcl]
      rw [hsz] at *
      omega
    refine ⟨⟨r.v, (cur.toList.take (i * t.size) ++ cs ++ cur.toList.drop (i * t.size + t.size)).take (xs.length * t.size), Fs.set i Fi', rfl, ⟨?_, .inr ⟨g, cap, _, ?_, hB, hg', ?_, hcap, ?_, ?_⟩⟩, hpos, by simp [h3], by rw [flatten_set hFi], fun j hj => ?_⟩, hnd', hlim'⟩
    · rw [List.length_take, hcl2, List.length_set, ← hsz]; omega
    · rw [hr, List.length_set]
    · rw [List.length_set]; exact hle
    · rw [List.size_toArray]; exact hcl2
    · rw [List.length_set]
    · have hj' : j < xs.length := by simpa using hj
      rw [seg_set cur.toList cs t.size i j xs.length hcs hi hj' (by rw [hcl]; exact hn), getD_set hFi, List.getElem_set]
      by_cases hji : i = j
      · subst hji
        rw [if_pos rfl, if_pos rfl, if_pos rfl]
        exact ht
      · rw [if_neg (fun h => hji h.symm), if_neg hji, if_neg (fun h => hji h.symm), htk]
        refine (h4 j hj').keeps fun g' hg2 => hk g' ?_
        rcases Nat.lt_or_gt_of_ne hji with hlt | hgt
        · exact List.mem_append_right _ (mem_drop hlt hg2)
        · exact List.mem_append_left _ (mem_take hgt hg2)

theorem seg_ef {cur : List Value} {a sz f : Nat} (hft : f < sz) (h : a + sz ≤ cur.length) (c : Value) :
    cur.take (a + f) ++ [c] ++ cur.drop (a + f + 1) = cur.take a ++ ((cur.drop a).take sz).set f c ++ cur.drop (a + sz) := by
  apply List.ext_getElem?
  intro m
  have l1 : (cur.take (a + f)).length = a + f := by rw [List.length_take]; omega
  have l2 : (cur.take a).length = a := by rw [List.length_take]; omega
  have l3 : (((cur.drop a).take sz).set f c).length = sz := by rw [List.length_set, List.length_take, List.length_drop]; omega
  simp only [List.append_assoc]
  rcases Nat.lt_or_ge m a with hm | hm
  · rw [List.getElem?_append_left (by omega), List.getElem?_append_left (by omega), List.getElem?_take, List.getElem?_take, if_pos (by omega), if_pos hm]
  · rw [List.getElem?_append_right (l₁ := cur.take a) (by omega), l2]
    rcases Nat.lt_or_ge m (a + sz) with hm2 | hm2
    · rw [List.getElem?_append_left (l₁ := ((cur.drop a).take sz).set f c) (by omega)]
      rcases Nat.lt_trichotomy m (a + f) with hm3 | hm3 | hm3
      · rw [List.getElem?_append_left (by omega), List.getElem?_take, if_pos hm3, List.getElem?_set_ne (by omega), List.getElem?_take, if_pos (by omega), List.getElem?_drop]
        congr 1; omega
      · rw [List.getElem?_append_right (by omega), l1, hm3, Nat.sub_self, Nat.add_sub_cancel_left, List.getElem?_set_self (by rw [List.length_take, List.length_drop]; omega)]
        rfl
      · rw [List.getElem?_append_right (by omega), l1, List.getElem?_append_right (by simp; omega), List.getElem?_drop, List.getElem?_set_ne (by omega), List.getElem?_take, if_pos (by omega), List.getElem?_drop]
        congr 1; simp; omega
    · rw [List.getElem?_append_right (by omega), l1, List.getElem?_append_right (by simp; omega), List.getElem?_drop, List.getElem?_append_right (by omega), l3, List.getElem?_drop]
      congr 1; simp; omega
end

/-! ### Writes, lengths, addresses -/
section
variable {P : Program} {cx : Cx} {σ : St} {o : Oper} (hd : ∀ k, o.dst = some k → k < cx.N)
include hd

theorem op_ia_deep {T : TypeId} {x ix : Operand} {t : Ty} {te : Ty → TypeId} {id : Nat} {xs : List t.den} (ho : o.op = .indexAddr T x ix) (hcx : σ.uc x) (hx : σ.un x = .own id) (hb : σ.objs id = .deep te t xs ∨ σ.objs id = .bld te t xs) (hi : σ.tc (.int .i64) ix) (hT : TyOK P (.list t) T)
    (h0 : 0 ≤ σ.ti .i64 ix) (h1 : σ.ti .i64 ix < (xs.length : Int)) :
    OpOK P cx σ o ⟨.ep id t.size (σ.ti .i64 ix).toNat, []⟩ :=
  OpOK.of_value hd fun a w lim G hh hf => by
    have h := un_ok hf x hcx
    have hob := hh.obj id
    rw [hx] at h
    have hob : DeepOK w lim te t xs (G id) := by rcases hb with hb | hb <;> (rw [hb] at hob; simp only [ObjOK] at hob; exact hob.1)
    have hlv : (σ.objs id).born = true ∧ (σ.objs id).live = true := by rcases hb with hb | hb <;> rw [hb] <;> exact ⟨rfl, rfl⟩
    simp only [AVok] at h
    obtain ⟨i1, _⟩ := (tc_int hh hf hi)
    generalize hn : σ.ti .i64 ix = n at *
    obtain ⟨g, cap, cur, hr, _⟩ := deep_store hob (i := (n : Int).toNat) (by have h0' : (0 : Int) ≤ n := h0; have h1' : (n : Int) < xs.length := h1; omega)
    simp only [TyOK] at hT
    obtain ⟨e', u1, u2, _⟩ := hT
    have e1 : a.eval x = .slice (some ⟨g, 0, none⟩) xs.length cap := by rw [h.2 hlv.2, hr]
    refine ⟨.pointer (some ⟨g, n.toNat * t.size, none⟩), ?_, ?_⟩
    · simp [execOp, ho, e1, i1, Instr.indexAt, asIntOf, run_underlying u1, h0, h1, run_sizeOf' u2, Addr.add]
      exact fun h => h.symm
    · simp only [AVok]
      exact ⟨hlv.1, fun _ => ⟨g, by rw [hr]; rfl, rfl⟩⟩

theorem op_len_deep {x : Operand} {T : TypeId} {t : Ty} {te : Ty → TypeId} {id : Nat} {xs : List t.den} (ho : o.op = .call { callee := .builtin .len, args := #[x], argTypes := #[T] }) (hT : TyOK P (.list t) T) (hc : σ.uc x) (hx : σ.un x = .own id) (hb : σ.objs id = .deep te t xs ∨ σ.objs id = .bld te t xs) :
    OpOK P cx σ o ⟨.rd (.int .i64) (xs.length : Int), []⟩ :=
  OpOK.of_value hd fun a w lim G hh hf => by
    have h := un_ok hf x hc
    have hob := hh.obj id
    rw [hx] at h
    have hob : DeepOK w lim te t xs (G id) := by rcases hb with hb | hb <;> (rw [hb] at hob; simp only [ObjOK] at hob; exact hob.1)
    have hlv : (σ.objs id).live = true := by rcases hb with hb | hb <;> rw [hb] <;> rfl
    simp only [AVok] at h
    obtain ⟨⟨root, vs, Fs, e1, ⟨_, hown⟩, _⟩, _⟩ := hob
    injection e1 with e1
    subst e1
    simp only [TyOK] at hT
    obtain ⟨e', hT, _⟩ := hT
    have fin : ∀ A cap, a.eval x = .slice A xs.length cap → xs.length ≤ maxLen → ∃ v, (execOp a.eval o).run P w = .ok (.value v) w ∧ AVok w lim G σ.objs (.rd (.int .i64) (xs.length : Int)) v := by
      intro A cap h1 h3
      refine ⟨goInt (xs.length : Int), ?_, ?_⟩
      · simp [execOp, ho, h1, resolve, invoke, builtin, Builtin.len_, run_underlying hT]
      · simp only [AVok]
        refine RdV.mk_int ?_
        simp [IntKind.min, IntKind.max, IntKind.signed, IntKind.bits]
        simp [maxLen] at h3
        omega
    rcases hown with ⟨hr, hz⟩ | ⟨g, cap, cur, hr, hB, hheap, hle, hcap, hsz, htk⟩
    · exact fin none 0 (by rw [h.2 hlv, hr, hz]) (by omega)
    · exact fin _ cap (by rw [h.2 hlv, hr]) (by omega)

omit hd in
/-- A store of a flat field. -/
theorem op_store_efd {x y : Operand} {T : TypeId} {t : Ty} {te : Ty → TypeId} {id i f : Nat} {xs : List t.den} (ho : o.op = .store T x y) (hdst : o.dst = none) (hcx : σ.uc x) (hx : σ.un x = .ef id t.size i f) (hb : σ.objs id = .deep te t xs) (hi : i < xs.length)
    (hc : Cel P t f) (hT : TyOK P (fldT t f) T) (hn : (fldT t f).noL = true) (hy : σ.tc (fldT t f) y) :
    OpOK P cx σ o ⟨.any, [(id, .deep te t (xs.set i (setC t (xs.getD i t.dflt) f (σ.tv (fldT t f) y))))]⟩ := by
  intro a w K Q hs hK
  obtain ⟨lim, G, hh, hf⟩ := hs
  have h := un_ok hf x hcx
  have hob := hh.obj id
  rw [hx] at h
  rw [hb] at hob
  simp only [AVok, hb] at h
  simp only [ObjOK] at hob
  have hob := hob.1
  obtain ⟨hfl, hft⟩ := hc.flat
  obtain ⟨cs, q1, q2⟩ := tc_ok hh hf hy
  have hcl : cs.length = 1 := q1.length.trans (flat1_size hfl).1
  match cs, hcl with
  | [c], _ =>
  have hcc : (a.eval y).cells.toList = [c] := by rw [q2]; exact mkV_cells q1.length q1.one
  obtain ⟨g, cap, cur, hr, hheap, hle, hl0, A, Fi, B, hfp, htr, hput⟩ := deep_store hob hi
  obtain ⟨g', hg', hp⟩ := h.2 rfl
  have : g' = g := by rw [hr] at hg'; injection hg' with hg'; exact hg'.symm
  subst this
  have hst := run_storeCells_at P g' (i * t.size + f) (te t) [c] 0 cur w hheap (by simp; omega) q1.one
  simp only [Nat.add_zero, List.length_singleton] at hst
  rw [seg_ef hft (by rw [Array.length_toList]; exact hle)] at hst
  have hsc : (a.eval y).cells.size = 1 := by rw [← Array.length_toList, hcc]; rfl
  generalize hcur : (cur.toList.take (i * t.size) ++ ((cur.toList.drop (i * t.size)).take t.size).set f c ++ cur.toList.drop (i * t.size + t.size)).toArray = cur' at hst
  have hrun : (execOp a.eval o).run P w = .ok .skip (w.setRow g' cur') := by
    simp [execOp, ho, hp, Instr.storeAt, Instr.sureAddr, storeVar, run_sizeOf' hT, (flat1_size hfl).1, hsc, hcc, hst]
  unfold Oper.wp
  rw [hrun]
  refine hK _ _ ?_
  rw [hdst]
  have hk : Keeps w lim (w.setRow g' cur') lim := by
    refine ⟨fun ad u hcell hlt => ?_, fun _ _ => Nat.le_refl _⟩
    have hne : ad.block ≠ g' := by rintro e; rw [e, hl0] at hlt; omega
    rw [World.cell?_of_block (w := w) (setRow_other w g' ad.block _ hne)]
    exact hcell
  have hbr : Blk (σ.objs id) (G id) g' := by rw [hb]; simp only [Blk]; rw [hr]; simp [blk]
  have hmine := hh.mine id g' (by rw [hb]; rfl) hbr
  have hbw : BelowL cx.L cx.B cx.w0 (w.setRow g' cur') :=
    hh.below.trans ⟨rfl, rfl, rfl, by simp, fun k hk hL => setRow_other w g' k _ (by rintro rfl; exact hmine.elim (fun h => by omega) hL)⟩
  have hlive : (σ.objs id).live = true := by rw [hb]; rfl
  obtain ⟨c0, F1, F0, F2, k1, k2, k3, k4⟩ := Tr_cel hc htr
  have hF0 : F0 = [] := (Tr.noL_nil (w' := w) (lim := lim) hn k3).1
  have hne : ∀ g2, g2 ∈ (G id).fp → g2 ≠ g' := by
    rintro g2 hg2 rfl
    have hnd := hob.2.1
    rw [List.nodup_append] at hnd
    exact hnd.2.2 g2 (by rw [hr]; simp [blk]) g2 hg2 rfl
  have helem := k4 (w.setRow g' cur') c (σ.tv (fldT t f) y) [] (fun g2 hg2 => setRow_other w g' g2 _ (hne g2 (by rw [hfp, k2]; rcases List.mem_append.1 hg2 with h | h <;> simp [h]))) (Tr.noL hn q1)
  have e1 : F1 ++ [] ++ F2 = Fi := by rw [k2, hF0]
  have hdeep := hput (w.setRow g' cur') lim _ _ _ (by rw [hcur]; exact setRow_heap w g' cur _ (te t) _ hheap) (fun g2 hg2 => setRow_other w g' g2 _ (hne g2 (by rw [hfp]; rcases List.mem_append.1 hg2 with h | h <;> simp [h]))) helem
    (by rw [e1, ← hfp]; exact hob.2.1) (by rw [e1, ← hfp]; exact hob.2.2)
  rw [e1, ← hfp] at hdeep
  have hgd : xs.getD i t.dflt = xs[i] := by simp [List.getD_eq_getElem?_getD, List.getElem?_eq_getElem hi]
  rw [hgd]
  have hset := hh.set (id := id) (o := .deep te t (xs.set i (setC t xs[i] f (σ.tv (fldT t f) y)))) hlive hbw hk
    (fun j g2 hj hl hg => by
      have : g2 ≠ g' := by rintro rfl; exact hh.sep j id g2 hj hl hlive hg hbr
      exact ⟨setRow_other w g' g2 _ this, rfl⟩) (fun _ _ _ => rfl)
    (by simp only [ObjOK]; exact ⟨hdeep, fun _ _ => Nat.zero_le _⟩)
    rfl (fun g2 hg2 => by rw [hb]; exact hg2) (fun h => by cases h)
  exact ⟨lim, G, hset.1, hf.keeps hk hset.2⟩

/-- A nested row is named, so that it may be lent. -/
theorem op_load_held {x : Operand} {T : TypeId} {t t' : Ty} {te : Ty → TypeId} {id d i f : Nat} {xs : List t.den} (ho : o.op = .load T x) (hcx : σ.uc x) (hx : σ.un x = .ef d t.size i f ∨ (σ.un x = .ep d t.size i ∧ f = 0)) (hb : σ.objs d = .deep te t xs) (hi : i < xs.length)
    (hc : Cel P t f) (hl : fldT t f = .list t') (hT : TyOK P (.list t') T) (hu : σ.objs id = .unborn) :
    OpOK P cx σ o ⟨.own id, [(id, .name d), (d, .held te t xs i f id)]⟩ := by
  intro a w K Q hs hK
  obtain ⟨lim, G, hh, hf⟩ := hs
  have h := un_ok hf x hcx
  have hob := hh.obj d
  rw [hb] at hob
  simp only [ObjOK] at hob
  have hob := hob.1
  have hp : ∃ g, blk (G d).v = some g ∧ a.eval x = .pointer (some ⟨g, i * t.size + f, none⟩) := by
    rcases hx with hx | ⟨hx, rfl⟩
    · rw [hx] at h
      simp only [AVok, hb] at h
      exact h.2 rfl
    · rw [hx] at h
      simp only [AVok, hb] at h
      exact h.2 rfl
  obtain ⟨g, cap, cur, hr, hheap, hle, hl0, A, Fi, B, hfp, htr, hput⟩ := deep_store hob hi
  obtain ⟨g', hg', hp⟩ := hp
  have : g' = g := by rw [hr] at hg'; injection hg' with hg'; exact hg'.symm
  subst this
  obtain ⟨hfl, hft⟩ := hc.flat
  obtain ⟨c0, F1, F0, F2, k1, k2, k3, k4⟩ := Tr_cel hc htr
  rw [List.getElem?_take, if_pos hft, List.getElem?_drop] at k1
  have hcell : w.cell? ⟨g', i * t.size + f, none⟩ = some c0 := by rw [cell_of_row w g' _ cur (te t) (0, 0) hheap]; simpa using k1
  have hc1 : c0.oneCell' = true := k3.one _ (by simp)
  have hrun : (execOp a.eval o).run P w = .ok (.value c0) w := by
    have := run_load_at hT w ⟨g', i * t.size + f, none⟩ [c0] rfl (fun j u hu => by
      cases j with
      | zero =>
        have e : u = c0 := by simpa using hu.symm
        subst e
        have e0 : (⟨g', i * t.size + f, none⟩ : Addr).add 0 = ⟨g', i * t.size + f, none⟩ := by simp [Addr.add]
        rw [e0]; exact hcell
      | succ j => simp at hu)
    simp [execOp, ho, hp, this, mkV, Ty.isAgg]
  unfold Oper.wp
  rw [hrun]
  refine hK _ _ ?_
  have hne : d ≠ id := by rintro rfl; rw [hb] at hu; cases hu
  have hnew := hh.new hu (r := ⟨c0, []⟩) (o := .name d) hh.below (Keeps.refl w lim) (fun _ _ _ _ => ⟨rfl, rfl⟩) (fun _ _ _ => rfl) (fun i g hl hg hv => hv.elim) (fun g hg => hg.elim) (by simp only [ObjOK]; exact hc1)
  have hlv : ((upd σ.objs id (.name d)) d).live = true := by rw [upd_ne _ _ _ _ hne, hb]; rfl
  have hGd : (upd G id (⟨c0, []⟩ : Rt)) d = G d := upd_ne _ _ _ _ hne
  have hset := hnew.set (id := d) (o := .held te t xs i f id) hlv hh.below (Keeps.refl w lim) (fun _ _ _ _ _ => ⟨rfl, rfl⟩) (fun _ _ _ => rfl)
    (by
      rw [hGd]
      simp only [ObjOK]
      refine ⟨⟨hob, fun _ _ => Nat.zero_le _⟩, by rw [upd_ne _ _ _ _ (fun h => hne h.symm), upd_same]; rfl, fun _ => ⟨g', by rw [hr]; rfl, ?_⟩⟩
      rw [upd_same]; exact hcell) rfl (fun g2 hg2 => by rw [upd_ne _ _ _ _ hne, hb]; exact hg2) (fun h => by cases h)
  have hfr := (hf.keeps (Keeps.refl w lim) (Ext.new hu ⟨c0, []⟩ (.name d))).keeps (Keeps.refl w lim) hset.2
  have e : σ.app o.dst ⟨.own id, [(id, .name d), (d, .held te t xs i f id)]⟩ = ({ tmps := σ.tmps, objs := upd (upd σ.objs id (.name d)) d (.held te t xs i f id) } : St).put o.dst (.own id) := by
    unfold St.app St.put
    cases o.dst <;> rfl
  rw [e]
  refine ⟨_, _, ?_, hfr.put hd (v := c0) ?_⟩
  · rw [put_objs]; exact hset.1
  · simp only [AVok, upd_same]
    rw [upd_ne _ _ _ _ (fun h => hne h.symm), upd_same]
    exact ⟨rfl, fun _ => trivial⟩
end
end Go.AL
/- Rows that own the rows nested in them: made, filled, grown; a nested row is lent. A general part, over any program. -/
set_option linter.unusedSimpArgs false
set_option linter.unusedVariables false
namespace Go.AL
open Go.RowKit

/-! ### Many objects given up -/
def dkill (ks : List Nat) : List (Nat × AObj) := ks.map fun k => (k, .dead)

theorem dkill_at : ∀ (ks : List Nat) (objs : Nat → AObj) (i : Nat), updAll objs (dkill ks) i = if i ∈ ks then .dead else objs i
  | [], objs, i => by simp [dkill, updAll]
  | k :: ks, objs, i => by
    have h : updAll objs (dkill (k :: ks)) = updAll (upd objs k .dead) (dkill ks) := rfl
    rw [h, dkill_at ks]
    by_cases h1 : i ∈ ks
    · rw [if_pos h1, if_pos (List.mem_cons_of_mem _ h1)]
    · rw [if_neg h1]
      by_cases h2 : i = k
      · subst h2; rw [upd_same, if_pos List.mem_cons_self]
      · rw [upd_ne _ _ _ _ h2, if_neg (by simp [h1, h2])]

section
variable {cx : Cx} {objs : Nat → AObj} {w w' : World} {lim lim' : Nat → Nat} {G : Nat → Rt} {te : Ty → TypeId}

theorem Hp.killL : ∀ (ks : List Nat) {objs : Nat → AObj}, Hp cx objs w lim G → Hp cx (updAll objs (dkill ks)) w lim G ∧ Ext G objs G (updAll objs (dkill ks))
  | [], objs, h => ⟨h, Ext.refl _ _⟩
  | k :: ks, objs, h => by
    obtain ⟨h1, h2⟩ := Hp.killL ks (h.kill k)
    exact ⟨h1, (Ext.kill k).trans h2⟩

/-- An object under construction is turned; it may take up what nobody else has. -/
theorem Hp.turn (h : Hp cx objs w lim G) {id : Nat} {o : AObj} {r : Rt} (hlv : (objs id).live = true) (hbl : (objs id).isBld = true) (hr : r.v = (G id).v) (hb : BelowL cx.L cx.B cx.w0 w') (hk : Keeps w lim w' lim')
    (hold : ∀ i g, i ≠ id → (objs i).live = true → Blk (objs i) (G i) g → w'.heap[g]? = w.heap[g]? ∧ lim' g = lim g) (hlim : ∀ b, b < cx.B → ¬ cx.L b → lim' b = lim b)
    (hobj : ObjOK w' lim' (upd G id r) (upd objs id o) 0 r o) (hl : o.live = true)
    (hfp : ∀ g, Blk o r g → Blk (objs id) (G id) g ∨ ((∀ i, i ≠ id → (objs i).live = true → ¬ Blk (objs i) (G i) g) ∧ (cx.B ≤ g ∨ cx.L g))) :
    Hp cx (upd objs id o) w' lim' (upd G id r) ∧ Ext G objs (upd G id r) (upd objs id o) := by
  have hnr : ∀ q, cx.R id ≠ some q := fun q hq => by have := h.nob id q hq; rw [hbl] at this; cases this
  have he : Ext G objs (upd G id r) (upd objs id o) := by
    intro i hbn
    by_cases e : i = id
    · subst e; rw [upd_same, upd_same]; exact ⟨AObj.born_of_live hl, fun _ => ⟨hlv, hr⟩⟩
    · rw [upd_ne _ _ _ _ e, upd_ne _ _ _ _ e]; exact ⟨hbn, fun h => ⟨h, rfl⟩⟩
  refine ⟨⟨h.start, hb, fun b hlt hL => (hlim b hlt hL).trans (h.lim0 b hlt hL), fun i => ?_, fun i j g hij hi hj hg => ?_, fun i g hi hg => ?_, fun j q hq => ?_, fun j q hq => ?_⟩, he⟩
  · by_cases e : i = id
    · subst e; rw [upd_same, upd_same]; exact hobj
    · rw [upd_ne _ _ _ _ e, upd_ne _ _ _ _ e]
      cases hl : (objs i).live with
      | true => exact (h.obj i).keeps hk he fun g hg => hold i g e hl hg
      | false => cases ho : objs i <;> rw [ho] at hl <;> first | (simp only [ObjOK]; done) | cases hl
  · by_cases e : i = id
    · subst e
      have e2 : j ≠ i := fun k => hij k.symm
      rw [upd_same, upd_same] at hg
      rw [upd_ne _ _ _ _ e2] at hj
      rw [upd_ne _ _ _ _ e2, upd_ne _ _ _ _ e2]
      rcases hfp g hg with hg | ⟨hg, _⟩
      · exact h.sep i j g hij hlv hj hg
      · exact hg j e2 hj
    · rw [upd_ne _ _ _ _ e] at hi
      rw [upd_ne _ _ _ _ e, upd_ne _ _ _ _ e] at hg
      by_cases e2 : j = id
      · subst e2
        rw [upd_same, upd_same]
        intro hgj
        rcases hfp g hgj with hgj | ⟨hgj, _⟩
        · exact h.sep i j g hij hi hlv hg hgj
        · exact hgj i e hi hg
      · rw [upd_ne _ _ _ _ e2] at hj
        rw [upd_ne _ _ _ _ e2, upd_ne _ _ _ _ e2]
        exact h.sep i j g hij hi hj hg
  · by_cases e : i = id
    · subst e
      rw [upd_same, upd_same] at hg
      rcases hfp g hg with hg | ⟨_, hg⟩
      · exact h.mine i g hlv hg
      · exact hg
    · rw [upd_ne _ _ _ _ e] at hi
      rw [upd_ne _ _ _ _ e, upd_ne _ _ _ _ e] at hg
      exact h.mine i g hi hg
  · have e : j ≠ id := by rintro rfl; exact hnr q hq
    rw [upd_ne _ _ _ _ e, upd_ne _ _ _ _ e]
    exact h.lent j q hq
  · have e : j ≠ id := by rintro rfl; exact hnr q hq
    rw [upd_ne _ _ _ _ e]
    exact h.nob j q hq
end

/-! ### A value that bears rows of the call's own -/
def dvd (objs : Nat → AObj) : (t : Ty) → AV → t.den
  | .list t, .own k => match objs k with
    | .arr _ t' xs => castTo (.list t) (.list t') xs
    | .deep _ t' xs => castTo (.list t) (.list t') xs
    | _ => []
  | .list _, .nils => []
  | .cons h t, .agg (c :: cs) => (dvd objs h c, dvd objs t (.agg cs))
  | t, .rd t' x => castTo t t' x
  | t, _ => t.dflt

def dvc (objs : Nat → AObj) (te : Ty → TypeId) : Ty → AV → Prop
  | .list t, .own k => match objs k with
    | .arr e t' _ => t' = t ∧ e = te t ∧ t.noL = true
    | .deep te' t' _ => t' = t ∧ te' = te
    | _ => False
  | .list t, .nils => 0 < t.size
  | .cons h t, .agg (c :: cs) => h.flat1 = true ∧ dvc objs te h c ∧ dvc objs te t (.agg cs)
  | .nil, .agg [] => True
  | t, .rd t' _ => t' = t ∧ t.noL = true
  | _, _ => False

mutual
def dids : AV → List Nat
  | .own k => [k]
  | .agg cs => didsL cs
  | _ => []
def didsL : List AV → List Nat
  | [] => []
  | c :: cs => dids c ++ didsL cs
end

theorem one_cells {v : Value} (h : v.oneCell' = true) : v.cells.toList = [v] := by cases v <;> simp_all [Value.cells, Value.oneCell']

theorem arr_tr {w : World} {lim : Nat → Nat} {te : Ty → TypeId} {t : Ty} {xs : List t.den} {v : Value} {B : Nat} (hn : t.noL = true) (h : RowOK w lim B (te t) t xs v) : Tr w te (.list t) [v] xs ((blk v).toList ++ []) := by
  obtain ⟨vs, hown, hpos, hrd⟩ := RowOK.lower (Nat.zero_le B) h
  refine ⟨v, vs, List.replicate xs.length [], rfl, hown, hpos, by simp, by simp, fun i hi => ?_⟩
  have : (List.replicate xs.length ([] : List Nat)).getD i [] = [] := by
    rw [List.getD_eq_getElem?_getD, List.getElem?_replicate]
    split <;> rfl
  rw [this]
  exact Tr.noL hn (hrd i hi)

theorem dv_ok {cx : Cx} {objs : Nat → AObj} {w : World} {lim : Nat → Nat} {G : Nat → Rt} {te : Ty → TypeId} (hh : Hp cx objs w lim G) : ∀ (t : Ty) (av : AV) (v : Value), (dids av).Nodup → dvc objs te t av → AVok w lim G objs av v →
    ∃ F, Tr w te t v.cells.toList (dvd objs t av) F ∧ F.Nodup ∧ (∀ g, g ∈ F → lim g = 0) ∧ (∀ g, g ∈ F → ∃ k, k ∈ dids av ∧ (objs k).live = true ∧ Blk (objs k) (G k) g) ∧ (t.flat1 = true → v.oneCell' = true) := by
  intro t
  have hrd : ∀ (t t' : Ty) (x : t'.den) (v : Value), t' = t → t.noL = true → AVok w lim G objs (.rd t' x) v →
      ∃ F, Tr w te t v.cells.toList (castTo t t' x) F ∧ F.Nodup ∧ (∀ g, g ∈ F → lim g = 0) ∧ (∀ g, g ∈ F → ∃ k, k ∈ dids (.rd t' x) ∧ (objs k).live = true ∧ Blk (objs k) (G k) g) ∧ (t.flat1 = true → v.oneCell' = true) := by
    intro t t' x v e hn hv
    subst e
    rw [castTo_self]
    simp only [AVok] at hv
    refine ⟨[], Tr.noL hn hv.cells.1, List.nodup_nil, fun g hg => (by cases hg), fun g hg => (by cases hg), fun hf => ?_⟩
    have h1 := Rd_of_V hf hv
    exact h1.one v (by simp)
  induction t with
  | int k => intro av v _ hc hv; cases av <;> simp only [dvc] at hc; exact hrd _ _ _ _ hc.1 hc.2 hv
  | bool => intro av v _ hc hv; cases av <;> simp only [dvc] at hc; exact hrd _ _ _ _ hc.1 hc.2 hv
  | str => intro av v _ hc hv; cases av <;> simp only [dvc] at hc; exact hrd _ _ _ _ hc.1 hc.2 hv
  | list t _ =>
    intro av v _ hc hv
    cases av with
    | rd t' x => simp only [dvc] at hc; exact absurd hc.2 (by simp [Ty.noL])
    | nils =>
      simp only [dvc] at hc
      simp only [AVok] at hv
      subst hv
      exact ⟨[], ⟨_, [], [], rfl, World.ownsRow_nil _ _ _ _, hc, rfl, rfl, fun i hi => absurd hi (by simp [dvd])⟩, List.nodup_nil, fun g hg => (by cases hg), fun g hg => (by cases hg), fun _ => rfl⟩
    | own k =>
      have ho := hh.obj k
      simp only [AVok] at hv
      simp only [dvc] at hc
      simp only [dvd]
      cases hob : objs k with
      | arr e t' xs =>
        rw [hob] at hc ho hv
        simp only at hc
        obtain ⟨h1, h2, h3⟩ := hc
        subst h1; subst h2
        simp only [castTo_self]
        simp only [ObjOK] at ho
        rw [hv.2 rfl]
        have h1 := ho.1
        have hone : (G k).v.oneCell' = true := by obtain ⟨vs, hown, _⟩ := h1; exact ownsRow_one hown
        refine ⟨(blk (G k).v).toList ++ [], ?_, by rw [List.append_nil]; cases blk (G k).v <;> simp, fun g hg => ho.2 g (by simpa using hg), fun g hg => ⟨k, by simp [dids], by rw [hob]; rfl, by rw [hob]; simpa [Blk] using hg⟩, fun _ => hone⟩
        rw [one_cells hone]
        exact arr_tr h3 h1
      | deep te' t' xs =>
        rw [hob] at hc ho hv
        simp only at hc
        obtain ⟨h1, h2⟩ := hc
        subst h1; subst h2
        simp only [castTo_self]
        simp only [ObjOK] at ho
        rw [hv.2 rfl]
        have hone : (G k).v.oneCell' = true := ho.1.1.one _ (by simp)
        refine ⟨_, ?_, ho.1.2.1, ho.1.2.2, fun g hg => ⟨k, by simp [dids], by rw [hob]; rfl, by rw [hob]; exact hg⟩, fun _ => hone⟩
        rw [one_cells hone]
        exact ho.1.1
      | _ => rw [hob] at hc; exact hc.elim
    | _ => simp only [dvc] at hc
  | nil =>
    intro av v _ hc hv
    cases av with
    | rd t' x => simp only [dvc] at hc; exact hrd _ _ _ _ hc.1 hc.2 hv
    | agg cs =>
      cases cs with
      | nil =>
        simp only [AVok, AVsOk] at hv
        obtain ⟨arr, h1, h2⟩ := hv
        subst h2
        rw [h1]
        exact ⟨[], ⟨rfl, rfl⟩, List.nodup_nil, fun g hg => (by cases hg), fun g hg => (by cases hg), fun h => (by cases h)⟩
      | cons c cs => simp only [dvc] at hc
    | _ => simp only [dvc] at hc
  | cons h t ih1 ih2 =>
    intro av v hnd hc hv
    cases av with
    | rd t' x => simp only [dvc] at hc; exact hrd _ _ _ _ hc.1 hc.2 hv
    | agg cs =>
      cases cs with
      | nil => simp only [dvc] at hc
      | cons c cs =>
        simp only [dvc] at hc
        obtain ⟨hf, hc1, hc2⟩ := hc
        simp only [AVok, AVsOk] at hv
        obtain ⟨arr, h1, v0, r, h2, h3, h4⟩ := hv
        subst h2
        simp only [dids, didsL] at hnd
        rw [List.nodup_append] at hnd
        obtain ⟨n1, n2, n3⟩ := hnd
        obtain ⟨F1, a1, a2, a3, a4, a5⟩ := ih1 c v0 n1 hc1 h3
        obtain ⟨F2, b1, b2, b3, b4, _⟩ := ih2 (.agg cs) (.agg r.toArray) (by simpa only [dids] using n2) hc2 (by simp only [AVok]; exact ⟨r, rfl, h4⟩)
        have hone := a5 hf
        rw [one_cells hone] at a1
        refine ⟨F1 ++ F2, ?_, ?_, ?_, ?_, fun h => by cases h⟩
        · rw [h1]
          refine ⟨[v0], r, F1, F2, by simp [Value.cells], rfl, ?_, ?_⟩
          · simp only [dvd]; exact a1
          · simp only [dvd]; simpa [Value.cells] using b1
        · rw [List.nodup_append]
          refine ⟨a2, b2, fun x hx y hy hxy => ?_⟩
          subst hxy
          obtain ⟨k1, p1, p2, p3⟩ := a4 x hx
          obtain ⟨k2, q1, q2, q3⟩ := b4 x hy
          simp only [dids] at q1
          exact hh.sep k1 k2 x (n3 k1 p1 k2 q1) p2 q2 p3 q3
        · intro g hg
          rcases List.mem_append.1 hg with hg | hg
          · exact a3 g hg
          · exact b3 g hg
        · intro g hg
          simp only [dids, didsL]
          rcases List.mem_append.1 hg with hg | hg
          · obtain ⟨k, p1, p2⟩ := a4 g hg
            exact ⟨k, List.mem_append_left _ p1, p2⟩
          · obtain ⟨k, p1, p2⟩ := b4 g hg
            simp only [dids] at p1
            exact ⟨k, List.mem_append_right _ p1, p2⟩
    | _ => simp only [dvc] at hc

theorem dvc_kind {objs : Nat → AObj} {te : Ty → TypeId} : ∀ (t : Ty) (av : AV), dvc objs te t av → ∀ k, k ∈ dids av → (objs k).live = true ∧ (objs k).isBld = false := by
  intro t
  induction t with
  | list t _ =>
    intro av hc k hk
    cases av with
    | own j =>
      have : k = j := by simpa [dids] using hk
      subst this
      simp only [dvc] at hc
      cases hob : objs k <;> rw [hob] at hc <;> first | exact hc.elim | exact ⟨rfl, rfl⟩
    | nils => simp [dids] at hk
    | rd _ _ => simp [dids] at hk
    | _ => simp only [dvc] at hc
  | cons h t ih1 ih2 =>
    intro av hc k hk
    cases av with
    | rd _ _ => simp [dids] at hk
    | agg cs =>
      cases cs with
      | nil => simp only [dvc] at hc
      | cons c cs =>
        simp only [dvc] at hc
        simp only [dids, didsL, List.mem_append] at hk
        rcases hk with hk | hk
        · exact ih1 c hc.2.1 k hk
        · exact ih2 (.agg cs) hc.2.2 k (by simpa only [dids] using hk)
    | _ => simp only [dvc] at hc
  | nil =>
    intro av hc k hk
    cases av with
    | rd _ _ => simp [dids] at hk
    | agg cs => cases cs with
      | nil => simp [dids, didsL] at hk
      | cons _ _ => simp only [dvc] at hc
    | _ => simp only [dvc] at hc
  | _ =>
    intro av hc k hk
    cases av with
    | rd _ _ => simp [dids] at hk
    | _ => simp only [dvc] at hc

section
variable {P : Program} {cx : Cx} {σ : St} {o : Oper} (hd : ∀ k, o.dst = some k → k < cx.N)

/-- A whole element goes into a row under construction, with the rows that it bears. -/
theorem op_store_bld {x y : Operand} {T : TypeId} {t : Ty} {te : Ty → TypeId} {id i : Nat} {xs : List t.den} (ho : o.op = .store T x y) (hdst : o.dst = none) (hcx : σ.uc x) (hx : σ.un x = .ep id t.size i) (hb : σ.objs id = .bld te t xs) (hi : i < xs.length)
    (hT : TyOK P t T) (hcy : σ.uc y) (hnd : (dids (σ.un y)).Nodup) (hy : dvc σ.objs te t (σ.un y)) (hid : id ∉ dids (σ.un y)) :
    OpOK P cx σ o ⟨.any, dkill (dids (σ.un y)) ++ [(id, .bld te t (xs.set i (dvd σ.objs t (σ.un y))))]⟩ := by
  intro a w K Q hs hK
  obtain ⟨lim, G, hh, hf⟩ := hs
  have h := un_ok hf x hcx
  have hob := hh.obj id
  rw [hx] at h
  rw [hb] at hob
  simp only [AVok, hb] at h
  simp only [ObjOK] at hob
  have hob := hob.1
  obtain ⟨F, t1, t2, t3, t4, _⟩ := dv_ok hh t _ _ hnd hy (un_ok hf y hcy)
  obtain ⟨g, cap, cur, hr, hheap, hle, hl0, A, Fi, B, hfp, htr, hput⟩ := deep_store hob hi
  obtain ⟨g', hg', hp⟩ := h.2 rfl
  have : g' = g := by rw [hr] at hg'; injection hg' with hg'; exact hg'.symm
  subst this
  have hcl := t1.length
  have hst := run_storeCells_at P g' (i * t.size) (te t) (a.eval y).cells.toList 0 cur w hheap (by omega) t1.one
  simp only [Nat.add_zero] at hst
  rw [hcl] at hst
  have hsc : (a.eval y).cells.size = t.size := by rw [← Array.length_toList, hcl]
  generalize hcur : (cur.toList.take (i * t.size) ++ (a.eval y).cells.toList ++ cur.toList.drop (i * t.size + t.size)).toArray = cur' at hst
  have hrun : (execOp a.eval o).run P w = .ok .skip (w.setRow g' cur') := by
    simp [execOp, ho, hp, Instr.storeAt, Instr.sureAddr, storeVar, run_sizeOf' hT, hsc, hst]
  unfold Oper.wp
  rw [hrun]
  refine hK _ _ ?_
  rw [hdst]
  have hlive : (σ.objs id).live = true := by rw [hb]; rfl
  have hbr : Blk (σ.objs id) (G id) g' := by rw [hb]; simp only [Blk]; rw [hr]; simp [blk]
  obtain ⟨hh1, he1⟩ := hh.killL (dids (σ.un y))
  have hat := dkill_at (dids (σ.un y)) σ.objs
  have hobid : updAll σ.objs (dkill (dids (σ.un y))) id = .bld te t xs := by rw [hat, if_neg hid]; exact hb
  have hk : Keeps w lim (w.setRow g' cur') lim := by
    refine ⟨fun ad u hcell hlt => ?_, fun _ _ => Nat.le_refl _⟩
    have hne : ad.block ≠ g' := by rintro e; rw [e, hl0] at hlt; omega
    rw [World.cell?_of_block (w := w) (setRow_other w g' ad.block _ hne)]
    exact hcell
  have hmine := hh.mine id g' hlive hbr
  have hbw : BelowL cx.L cx.B cx.w0 (w.setRow g' cur') :=
    hh.below.trans ⟨rfl, rfl, rfl, by simp, fun k hk hL => setRow_other w g' k _ (by rintro rfl; exact hmine.elim (fun h => by omega) hL)⟩
  have hne : ∀ g2, g2 ∈ (G id).fp → g2 ≠ g' := by
    rintro g2 hg2 rfl
    have hnd := hob.2.1
    rw [List.nodup_append] at hnd
    exact hnd.2.2 g2 (by rw [hr]; simp [blk]) g2 hg2 rfl
  have hFd : ∀ g2, g2 ∈ F → ¬ Blk (σ.objs id) (G id) g2 := by
    intro g2 hg2 hbk
    obtain ⟨k, k1, k2, k3⟩ := t4 g2 hg2
    exact hh.sep k id g2 (by rintro rfl; exact hid k1) k2 hlive k3 hbk
  have hFd2 : ∀ g2, g2 ∈ F → g2 ≠ g' := by rintro g2 hg2 rfl; exact hFd _ hg2 hbr
  have hnd1 := hob.2.1
  rw [hfp] at hnd1
  have hFB : ∀ g2, g2 ∈ F → g2 ∉ (blk (G id).v).toList ++ (A ++ Fi ++ B) := by
    intro g2 hg2 hin
    refine hFd g2 hg2 ?_
    rw [hb]; simp only [Blk]; rw [hfp]; exact hin
  have hdeep := hput (w.setRow g' cur') lim _ _ F (by rw [hcur]; exact setRow_heap w g' cur _ (te t) _ hheap) (fun g2 hg2 => setRow_other w g' g2 _ (hne g2 (by rw [hfp]; rcases List.mem_append.1 hg2 with h | h <;> simp [h])))
    (t1.keeps fun g2 hg2 => setRow_other w g' g2 _ (hFd2 g2 hg2))
    (by
      simp only [List.nodup_append, List.mem_append] at hnd1 hFB ⊢
      obtain ⟨p1, ⟨⟨p2, p3, p4⟩, p5, p6⟩, p7⟩ := hnd1
      refine ⟨p1, ⟨⟨p2, t2, fun x hx y hy e => hFB y hy (.inr (.inl (.inl (e ▸ hx))))⟩, p5, fun x hx y hy e => ?_⟩, fun x hx y hy e => ?_⟩
      · rcases hx with hx | hx
        · exact p6 x (.inl hx) y hy e
        · exact hFB x hx (.inr (.inr (e ▸ hy)))
      · rcases hy with (hy | hy) | hy
        · exact p7 x hx y (.inl (.inl hy)) e
        · exact hFB y hy (.inl (e ▸ hx))
        · exact p7 x hx y (.inr hy) e)
    (by
      intro g2 hg2
      have h9 := hob.2.2
      rw [hfp] at h9
      simp only [List.mem_append] at hg2 h9
      rcases hg2 with hg2 | (hg2 | hg2) | hg2
      · exact h9 g2 (.inl hg2)
      · exact h9 g2 (.inr (.inl (.inl hg2)))
      · exact t3 g2 hg2
      · exact h9 g2 (.inr (.inr hg2)))
  obtain ⟨hset, hext⟩ := hh1.turn (id := id) (o := .bld te t (xs.set i (dvd σ.objs t (σ.un y)))) (r := ⟨(G id).v, A ++ F ++ B⟩) (by rw [hobid]; rfl) (by rw [hobid]; rfl) rfl hbw hk
    (fun j g2 hj hl hg => by
      have hjk : j ∉ dids (σ.un y) := by intro hm; rw [hat, if_pos hm] at hl; cases hl
      rw [hat, if_neg hjk] at hl hg
      have : g2 ≠ g' := by rintro rfl; exact hh.sep j id g2 hj hl hlive hg hbr
      exact ⟨setRow_other w g' g2 _ this, rfl⟩) (fun _ _ _ => rfl)
    (by simp only [ObjOK]; exact ⟨hdeep, fun _ _ => Nat.zero_le _⟩) rfl
    (fun g2 hg2 => by
      simp only [Blk, List.mem_append] at hg2
      by_cases hF : g2 ∈ F
      · obtain ⟨k, k1, k2, k3⟩ := t4 g2 hF
        refine .inr ⟨fun j hj hl hbk => ?_, hh.mine k g2 k2 k3⟩
        have hjk : j ∉ dids (σ.un y) := by intro hm; rw [hat, if_pos hm] at hl; cases hl
        rw [hat, if_neg hjk] at hl hbk
        exact hh.sep k j g2 (by rintro rfl; exact hjk k1) k2 hl k3 hbk
      · left
        rw [hobid]
        simp only [Blk, hfp, List.mem_append]
        rcases hg2 with hg2 | (hg2 | hg2) | hg2
        · exact .inl hg2
        · exact .inr (.inl (.inl hg2))
        · exact absurd hg2 hF
        · exact .inr (.inr hg2))
  have hfr := (hf.keeps (Keeps.refl w lim) he1).keeps hk hext
  have e : σ.app none ⟨.any, dkill (dids (σ.un y)) ++ [(id, .bld te t (xs.set i (dvd σ.objs t (σ.un y))))]⟩ = { σ with objs := upd (updAll σ.objs (dkill (dids (σ.un y)))) id (.bld te t (xs.set i (dvd σ.objs t (σ.un y)))) } := by
    unfold St.app St.put
    simp only [updAll_append, updAll]
  rw [e]
  exact ⟨lim, _, hset, hfr⟩

include hd

theorem op_make_bld {T : TypeId} {l c : Operand} {t : Ty} {te : Ty → TypeId} {id n : Nat} (ho : o.op = .makeSlice T l c) (hT : TyOK P (.list t) T) (he : ElOK P T (te t)) (hl : σ.tc (.int .i64) l) (hc : σ.tc (.int .i64) c)
    (h1 : σ.ti .i64 l = n) (h2 : σ.ti .i64 c = n) (hn : n ≤ 274877906944) (hu : σ.objs id = .unborn) :
    OpOK P cx σ o ⟨.own id, [(id, .bld te t (List.replicate n t.dflt))]⟩ :=
  OpOK.of_alloc hd hu fun a w lim G hh hf => by
    obtain ⟨he2, hpos⟩ := hT.el he
    obtain ⟨inf, i1, i2, i3, i4⟩ := he2.inf
    have l1 := (tc_int hh hf hl).1
    have c1 := (tc_int hh hf hc).1
    rw [h1] at l1
    rw [h2] at c1
    have hb : (inf.bytes : Int) * (n : Int) ≤ 281474976710656 := by
      have : inf.bytes * n ≤ 256 * 274877906944 := Nat.mul_le_mul i4 hn
      have h3 : ((inf.bytes * n : Nat) : Int) ≤ 281474976710656 := by omega
      rwa [Int.natCast_mul] at h3
    have hr := run_make (P := P) w T (te t) inf _ he i1 i3 .i64 .i64 n n (by omega) (Int.le_refl _) hb (by omega)
    simp only [Int.toNat_natCast] at hr
    rw [i2] at hr
    have hz : (mkV t t.zcells).cells.toList = t.zcells := mkV_cells (zcells_len t) (zcells_rd w lim t).one
    have hzs : (mkV t t.zcells).cells.size = t.size := by rw [← Array.length_toList, hz, zcells_len]
    refine ⟨madeCells (mkV t t.zcells).cells (n * t.size), te t, 0, .slice (some ⟨w.heap.size, 0, none⟩) n n, .slice (some ⟨w.heap.size, 0, none⟩) n n, ?_, rfl, ?_, ?_⟩
    rotate_left
    · simp only [ObjOK]
      refine ⟨⟨⟨_, (madeCells (mkV t t.zcells).cells (n * t.size)).toList, List.replicate n [], rfl, ⟨by simp [size_madeCells], .inr ⟨w.heap.size, n, _, by simp, Nat.zero_le _, heap_alloc_new w _, by simp, by simp only [maxLen]; omega, size_madeCells _ _, ?_⟩⟩, hpos, by simp, by simp, fun i hi => ?_⟩, by simp [blk], fun g hg => ?_⟩, fun _ _ => Nat.zero_le _⟩
      · rw [List.length_replicate, List.take_of_length_le (by simp [size_madeCells])]
      · have hin : i < n := by simpa using hi
        have h3 : (i + 1) * t.size ≤ n * t.size := Nat.mul_le_mul_right _ hin
        rw [Nat.succ_mul] at h3
        have : ((madeCells (mkV t t.zcells).cells (n * t.size)).toList.drop (i * t.size)).take t.size = t.zcells := by
          apply List.ext_getElem?
          intro k
          rw [List.getElem?_take, List.getElem?_drop]
          rcases Nat.lt_or_ge k t.size with hk | hk
          · rw [if_pos hk]
            have hk2 : k < t.zcells.length := by rw [zcells_len]; exact hk
            have hlt : i * t.size + k < (madeCells (mkV t t.zcells).cells (n * t.size)).size := by rw [size_madeCells]; omega
            have e2 : (mkV t t.zcells).cells.toList[k]? = t.zcells[k]? := by rw [hz]
            rw [← e2, Array.getElem?_toList, Array.getElem?_toList, Array.getElem?_eq_getElem hlt, Array.getElem?_eq_getElem (by rw [hzs]; exact hk)]
            simp only [madeCells, Array.getElem_map, Array.getElem_range, hzs]
            rw [Nat.mul_comm, Nat.mul_add_mod, Nat.mod_eq_of_lt hk, getElem!_pos _ k (by rw [hzs]; exact hk)]
          · rw [if_neg (by omega), List.getElem?_eq_none (by rw [zcells_len]; omega)]
        rw [this]
        have e3 : (List.replicate n ([] : List Nat)).getD i [] = [] := by
          rw [List.getD_eq_getElem?_getD, List.getElem?_replicate]
          split <;> rfl
        rw [e3]
        simp only [List.getElem_replicate]
        exact zero_tr he2
      · have : g = w.heap.size := by simpa [blk] using hg
        subst this
        exact upd_same _ _ _
    · simp only [AVok, upd_same]
      exact ⟨rfl, fun _ => trivial⟩
    · simp [execOp, ho, l1, c1, hr]

omit hd in
/-- What comes in the place of many that are given up. -/
theorem Sat_new {w w' : World} {lim lim' : Nat → Nat} {G : Nat → Rt} {a : Act} (hh : Hp cx σ.objs w lim G) (hf : Fr cx σ a w lim G) {ks : List Nat} {id : Nat} {ob : AObj} {r : Rt} (hd : ∀ k, o.dst = some k → k < cx.N) (hu : σ.objs id = .unborn)
    (hlive : ∀ k, k ∈ ks → (σ.objs k).live = true) (hb : BelowL cx.L cx.B cx.w0 w') (hk : Keeps w lim w' lim')
    (hold : ∀ i g, i ∉ ks → (σ.objs i).live = true → Blk (σ.objs i) (G i) g → w'.heap[g]? = w.heap[g]? ∧ lim' g = lim g) (hlim : ∀ b, b < cx.B → ¬ cx.L b → lim' b = lim b)
    (hfp : ∀ g, Blk ob r g → w.heap.size ≤ g ∨ ∃ k, k ∈ ks ∧ Blk (σ.objs k) (G k) g) (hobj : ∀ G' objs', ObjOK w' lim' G' objs' 0 r ob) (hbn : ob.born = true) :
    Sat cx (σ.app o.dst ⟨.own id, dkill ks ++ [(id, ob)]⟩) (a.put o.dst r.v) w' := by
  obtain ⟨hh1, he1⟩ := hh.killL ks
  have hat := dkill_at ks σ.objs
  have hidk : id ∉ ks := fun hm => by have := hlive id hm; rw [hu] at this; cases this
  have hu' : updAll σ.objs (dkill ks) id = .unborn := by rw [hat, if_neg hidk]; exact hu
  have hnew := hh1.new hu' (r := r) (o := ob) hb hk
    (fun i g hl hg => by
      have hik : i ∉ ks := by intro hm; rw [hat, if_pos hm] at hl; cases hl
      rw [hat, if_neg hik] at hl hg
      exact hold i g hik hl hg) hlim
    (fun i g hl hg hv => by
      have hik : i ∉ ks := by intro hm; rw [hat, if_pos hm] at hl; cases hl
      rw [hat, if_neg hik] at hl hg
      rcases hfp g hv with h | ⟨k, k1, k2⟩
      · have := ((hh.obj i).block_ge hl g hg).2
        omega
      · exact hh.sep i k g (by rintro rfl; exact hik k1) hl (hlive k k1) hg k2)
    (fun g hg => by
      rcases hfp g hg with h | ⟨k, k1, k2⟩
      · exact .inl (Nat.le_trans hh.B_le h)
      · exact hh.mine k g (hlive k k1) k2) (hobj _ _)
  have hfr := (hf.keeps (Keeps.refl w lim) he1).keeps hk (Ext.new hu' r ob)
  have e : σ.app o.dst ⟨.own id, dkill ks ++ [(id, ob)]⟩ = ({ tmps := σ.tmps, objs := upd (updAll σ.objs (dkill ks)) id ob } : St).put o.dst (.own id) := by
    unfold St.app
    simp only [updAll_append, updAll]
    cases o.dst <;> rfl
  rw [e]
  refine ⟨_, _, ?_, hfr.put hd (v := r.v) ?_⟩
  · rw [put_objs]; exact hnew
  · simp only [AVok, upd_same]
    exact ⟨hbn, fun _ => trivial⟩

theorem op_lit_deep {T : TypeId} {x : Operand} {k0 : Nat} {t : Ty} {te : Ty → TypeId} {id : Nat} (ho : o.op = .buildSlice T 1 #[(k0, x)]) (hk0 : k0 = 0) (hT : TyOK P (.list t) T) (he : ElOK P T (te t)) (hs : t.size ≤ 16777216) (hu : σ.objs id = .unborn)
    (hcx : σ.uc x) (hnd : (dids (σ.un x)).Nodup) (hx : dvc σ.objs te t (σ.un x)) (hlv : ∀ k, k ∈ dids (σ.un x) → (σ.objs k).live = true) :
    OpOK P cx σ o ⟨.own id, dkill (dids (σ.un x)) ++ [(id, .deep te t [dvd σ.objs t (σ.un x)])]⟩ := by
  intro a w K Q hs' hK
  obtain ⟨lim, G, hh, hf⟩ := hs'
  subst hk0
  obtain ⟨he2, hpos⟩ := hT.el he
  obtain ⟨F, t1, t2, t3, t4, _⟩ := dv_ok hh t _ _ hnd hx (un_ok hf x hcx)
  have hcl := t1.length
  have hsz : (a.eval x).cells.size = t.size := by simpa using hcl
  have hfill : Instr.fill (fun i => some (i * t.size, t.size)) ((Array.range t.size).map fun j => ((mkV t t.zcells).cells)[j % (mkV t t.zcells).cells.size]!) [(0, a.eval x)] = some (a.eval x).cells := by
    have seg := foldl_seg (a.eval x).cells.toList 0 0 ((Array.range t.size).map fun j => ((mkV t t.zcells).cells)[j % (mkV t t.zcells).cells.size]!) (by simp; omega)
    simp only [Instr.fill, hsz]
    rw [if_neg (by simp)]
    congr 1
    simp only [Nat.zero_mul]
    rw [← Array.toList_inj, ← Array.foldl_toList, Array.toList_zipIdx]
    simp only [Nat.add_zero, List.take_zero, List.nil_append] at seg
    rw [seg, List.drop_of_length_le (by simp; omega), List.append_nil]
  unfold ElOK at he
  have h0 : ¬ t.size = 0 := by omega
  have h1 : ¬ 16777216 < t.size := by omega
  have hrun : (execOp a.eval o).run P w = .ok (.value (.slice (some ⟨w.heap.size, 0, none⟩) 1 1)) (w.alloc (.cells (a.eval x).cells (te t))) := by
    simp [execOp, ho, Instr.buildSlice, run_underlying he, run_sizeOf' he2, run_zero' he2, newRow, h0, h1]
    first
      | (rw [hfill]; simp)
      | (simp only [hfill]; simp)
  unfold Oper.wp
  rw [hrun]
  refine hK _ _ ?_
  have hal : ∀ g, g < w.heap.size → (w.alloc (.cells (a.eval x).cells (te t))).heap[g]? = w.heap[g]? := fun g hg => Below.heap_alloc w _ g hg
  refine Sat_new (o := o) hh hf (r := ⟨.slice (some ⟨w.heap.size, 0, none⟩) 1 1, F⟩) hd hu hlv (hh.below.trans (.of cx.L ((Below.refl cx.B w).alloc hh.B_le _))) (keeps_alloc _ 0) (fun i g _ hl hg => ?_) (fun b hb _ => upd_ne _ _ _ _ (by have := hh.B_le; omega)) (fun g hg => ?_) (fun G' objs' => ?_) rfl
  · have hlt := ((hh.obj i).block_ge hl g hg).2
    exact ⟨hal g hlt, upd_ne _ _ _ _ (Nat.ne_of_lt hlt)⟩
  · simp only [Blk, List.mem_append] at hg
    rcases hg with hg | hg
    · have : g = w.heap.size := by simpa [blk] using hg
      exact .inl (by omega)
    · obtain ⟨k, k1, _, k3⟩ := t4 g hg
      exact .inr ⟨k, k1, k3⟩
  · have hlt := t1.lt
    simp only [ObjOK]
    refine ⟨⟨⟨_, (a.eval x).cells.toList, [F], rfl, ⟨by simpa using hcl, .inr ⟨w.heap.size, 1, _, rfl, Nat.zero_le _, heap_alloc_new w _, Nat.le_refl _, by simp [maxLen], by simpa using hsz, ?_⟩⟩, hpos, rfl, by simp, fun i hi => ?_⟩, ?_, fun g hg => ?_⟩, fun _ _ => Nat.zero_le _⟩
    · rw [List.take_of_length_le (by simp; omega)]
    · have : i = 0 := by simpa using hi
      subst this
      simp only [Nat.zero_mul, List.drop_zero, List.getElem_cons_zero, List.getD_cons_zero]
      rw [List.take_of_length_le (by omega)]
      exact t1.keeps fun g hg => hal g (hlt g hg)
    · rw [List.nodup_append]
      refine ⟨by simp [blk], t2, fun x hx y hy hxy => ?_⟩
      have h3 : x = w.heap.size := by simpa [blk] using hx
      have := hlt y hy
      omega
    · rcases List.mem_append.1 hg with hg | hg
      · have : g = w.heap.size := by simpa [blk] using hg
        subst this
        exact upd_same _ _ _
      · rw [upd_ne _ _ _ _ (Nat.ne_of_lt (hlt g hg))]
        exact t3 g hg
end
end Go.AL
/- Rows that own the rows nested in them: grown; a nested row is lent. A general part, over any program. -/
set_option linter.unusedSimpArgs false
set_option linter.unusedVariables false
namespace Go.AL
open Go.RowKit

section
variable {P : Program} {te : Ty → TypeId}

theorem app_deep {w : World} {lim : Nat → Nat} {T ty : TypeId} {t : Ty} {xs ys : List t.den} {r1 r2 : Rt} (hT : TyOK P (.list t) T) (he : ElOK P T (te t)) (h1 : DeepOK w lim te t xs r1) (h2 : DeepOK w lim te t ys r2)
    (hdis : ∀ g, g ∈ (blk r1.v).toList ++ r1.fp → g ∉ (blk r2.v).toList ++ r2.fp) (hb : xs.length + ys.length ≤ 274877906944) :
    ∃ v' w' lim', (Builtin.append_ #[T, T] ty #[r1.v, r2.v]).run P w = .ok v' w' ∧ Keeps w lim w' lim' ∧ DeepOK w' lim' te t (xs ++ ys) ⟨v', r1.fp ++ r2.fp⟩ ∧ Below 0 w w' ∧
      (∀ g, g < w.heap.size → blk r1.v ≠ some g → w'.heap[g]? = w.heap[g]? ∧ lim' g = lim g) ∧ (blk v' = blk r1.v ∨ blk v' = some w.heap.size) := by
  obtain ⟨⟨root1, vs1, Fs1, a1, hown1, hpos, a3, a4, a5⟩, n1, l1⟩ := h1
  injection a1 with a1
  subst a1
  have a4 := List.append_cancel_left a4
  obtain ⟨⟨root2, vs2, Fs2, b1, hown2, _, b3, b4, b5⟩, n2, l2⟩ := h2
  injection b1 with b1
  subst b1
  have b4 := List.append_cancel_left b4
  have hone2 : ∀ u ∈ vs2, u.oneCell' = true := by
    intro u hu
    obtain ⟨j, hj, rfl⟩ := List.mem_iff_getElem.1 hu
    have hj2 : j < ys.length * t.size := by rw [← hown2.1]; exact hj
    have hq : j / t.size < ys.length := Nat.div_lt_of_lt_mul (by rw [Nat.mul_comm]; exact hj2)
    have h9 := (b5 (j / t.size) hq).one
    refine h9 _ ?_
    refine List.mem_of_getElem? (i := j % t.size) ?_
    rw [List.getElem?_take, if_pos (Nat.mod_lt _ hpos), List.getElem?_drop, Nat.mul_comm, Nat.div_add_mod, List.getElem?_eq_getElem hj]
  have hA : ∃ A c, r2.v = .slice A ys.length c ∧ (A = none → ys.length = 0) ∧ (∀ a, A = some a → ∀ j u, vs2[j]? = some u → w.cell? (a.add j) = some u) := by
    rcases hown2.2 with ⟨h2, h0⟩ | ⟨g, cap, cur, hr, _⟩
    · exact ⟨none, 0, by rw [h2, h0], fun _ => h0, fun a ha => (by cases ha)⟩
    · refine ⟨some ⟨g, 0, none⟩, cap, hr, fun h => (by cases h), fun a ha j u hu => ?_⟩
      injection ha with ha
      subst ha
      exact hown2.cells (g := g) (by rw [hr]; rfl) j u hu
  obtain ⟨A, c, hr2, hA1, hA2⟩ := hA
  obtain ⟨v', w', q1, q2, q3⟩ := run_app w 0 T ty (te t) t hT he r1.v xs.length vs1 hown1 A ys.length c vs2 hown2.1 hA1 hA2 hone2 hb (Nat.zero_le _)
  have e1 := own_blk hown1
  have e2 := own_blk q2
  have hl1 : vs1.length = xs.length * t.size := hown1.1
  have hsame : ∀ g, g < w.heap.size → blk r1.v ≠ some g → w'.heap[g]? = w.heap[g]? := by
    intro g hg hne
    rcases q3 with ⟨k1, k2⟩ | ⟨_, k2⟩
    · exact k2.block g hg (fun e => hne (e1.trans e.symm))
    · exact k2.block g hg (by simp)
  have hbl : blk v' = blk r1.v ∨ blk v' = some w.heap.size := by
    rw [e1, e2]
    rcases q3 with ⟨k1, _⟩ | ⟨k1, _⟩
    · exact .inl k1
    · exact .inr k1
  have hI1 : ∀ g, g ∈ r1.fp → g < w.heap.size ∧ blk r1.v ≠ some g := by
    intro g hg
    refine ⟨?_, fun h => ?_⟩
    · rw [a4] at hg
      obtain ⟨l, hl, hg⟩ := List.mem_flatten.1 hg
      obtain ⟨i, hi, rfl⟩ := List.mem_iff_getElem.1 hl
      exact (a5 i (by omega)).lt g (by rw [List.getD_eq_getElem?_getD, List.getElem?_eq_getElem hi]; exact hg)
    · rw [List.nodup_append] at n1
      exact n1.2.2 g (by rw [h]; simp) g hg rfl
  have hI2 : ∀ g, g ∈ r2.fp → g < w.heap.size ∧ blk r1.v ≠ some g := by
    intro g hg
    refine ⟨?_, fun h => hdis g (by rw [h]; simp) (List.mem_append_right _ hg)⟩
    rw [b4] at hg
    obtain ⟨l, hl, hg⟩ := List.mem_flatten.1 hg
    obtain ⟨i, hi, rfl⟩ := List.mem_iff_getElem.1 hl
    exact (b5 i (by omega)).lt g (by rw [List.getD_eq_getElem?_getD, List.getElem?_eq_getElem hi]; exact hg)
  have h0 : ∀ g, blk r1.v = some g → lim g = 0 := fun g hg => l1 g (by rw [hg]; simp)
  let lim' : Nat → Nat := fun b => if blk v' = some b then 0 else lim b
  refine ⟨v', w', lim', by rw [hr2]; exact q1, ?_, ?_, ?_, fun g hg hne => ⟨hsame g hg hne, ?_⟩, hbl⟩
  · refine ⟨fun ad u hc hlt => ?_, fun b hbl' => ?_⟩
    · have hne : blk r1.v ≠ some ad.block := fun h => by rw [h0 _ h] at hlt; omega
      rw [World.cell?_of_block (w := w) (hsame _ (World.block_lt_of_cell? _ _ hc) hne)]
      exact hc
    · show lim b ≤ (if blk v' = some b then 0 else lim b)
      split
      · rename_i hv
        rcases hbl with h | h
        · rw [h] at hv; rw [h0 _ hv]; exact Nat.le_refl _
        · rw [h] at hv; injection hv with hv; omega
      · exact Nat.le_refl _
  · refine ⟨⟨v', vs1 ++ vs2, Fs1 ++ Fs2, rfl, by rw [List.length_append]; exact q2, hpos, by simp [a3, b3], by simp only [a4, b4, List.flatten_append], fun i hi => ?_⟩, ?_, fun g hg => ?_⟩
    · rcases Nat.lt_or_ge i xs.length with hlt | hge
      · have hin : i * t.size + t.size ≤ vs1.length := by
          rw [hl1, ← Nat.succ_mul]; exact Nat.mul_le_mul_right _ hlt
        have : ((vs1 ++ vs2).drop (i * t.size)).take t.size = (vs1.drop (i * t.size)).take t.size := by
          rw [List.drop_append_of_le_length (by omega), List.take_append_of_le_length (by rw [List.length_drop]; omega)]
        rw [this]
        have hg : (xs ++ ys)[i] = xs[i] := List.getElem_append_left hlt
        have hF : (Fs1 ++ Fs2).getD i [] = Fs1.getD i [] := by
          simp only [List.getD_eq_getElem?_getD]; rw [List.getElem?_append_left (by omega)]
        rw [hg, hF]
        refine (a5 i hlt).keeps fun g hg => ?_
        have := hI1 g (by rw [a4]; exact mem_flat hg)
        exact hsame g this.1 this.2
      · have hi' : i - xs.length < ys.length := by rw [List.length_append] at hi; omega
        have hs : i * t.size = xs.length * t.size + (i - xs.length) * t.size := by rw [← Nat.add_mul]; congr 1; omega
        have : ((vs1 ++ vs2).drop (i * t.size)).take t.size = (vs2.drop ((i - xs.length) * t.size)).take t.size := by
          rw [List.drop_append, List.drop_of_length_le (by omega), List.nil_append]
          congr 2
          omega
        rw [this]
        have hg : (xs ++ ys)[i] = ys[i - xs.length] := List.getElem_append_right hge
        have hF : (Fs1 ++ Fs2).getD i [] = Fs2.getD (i - xs.length) [] := by
          simp only [List.getD_eq_getElem?_getD]; rw [List.getElem?_append_right (by omega), a3]
        rw [hg, hF]
        refine (b5 _ hi').keeps fun g hg => ?_
        have := hI2 g (by rw [b4]; exact mem_flat hg)
        exact hsame g this.1 this.2
    · rw [List.nodup_append] at n1 n2
      rw [List.nodup_append, List.nodup_append]
      refine ⟨by cases blk v' <;> simp, ⟨n1.2.1, n2.2.1, fun x hx y hy e => hdis x (List.mem_append_right _ hx) (List.mem_append_right _ (e ▸ hy))⟩, fun x hx y hy e => ?_⟩
      have hx : blk v' = some x := by simpa using hx
      subst e
      rcases hbl with h | h
      · rw [h] at hx
        rcases List.mem_append.1 hy with hy | hy
        · exact (hI1 _ hy).2 hx
        · exact (hI2 _ hy).2 hx
      · rw [h] at hx
        injection hx with hx
        rcases List.mem_append.1 hy with hy | hy
        · have := (hI1 _ hy).1; omega
        · have := (hI2 _ hy).1; omega
    · show (if blk v' = some g then 0 else lim g) = 0
      split
      · rfl
      · rename_i hne
        rcases List.mem_append.1 hg with hg | hg
        · exact absurd (by simpa using hg) hne
        · rcases List.mem_append.1 hg with hg | hg
          · exact l1 g (List.mem_append_right _ hg)
          · exact l2 g (List.mem_append_right _ hg)
  · rcases q3 with ⟨k1, k2⟩ | ⟨_, k2⟩
    · exact (Below.refl 0 w).grown k2 (Nat.zero_le _) fun g hg => Nat.zero_le _
    · exact (Below.refl 0 w).grown k2 (Nat.zero_le _) fun g hg => by cases hg
  · show (if blk v' = some g then 0 else lim g) = lim g
    rw [if_neg]
    intro hv
    rcases hbl with h | h
    · rw [h] at hv; exact hne hv
    · rw [h] at hv; injection hv with hv; omega
end

theorem app_sd {P : Program} {te : Ty → TypeId} {w : World} {lim : Nat → Nat} {T ty : TypeId} {t : Ty} {xs ys : List t.den} {r1 r2 : Rt} (hT : TyOK P (.list t) T) (he : ElOK P T (te t)) (h1 : SdOK w lim te t xs r1) (h2 : DeepOK w lim te t ys r2)
    (hdis : ∀ g, g ∈ (blk r1.v).toList ++ r1.fp → g ∉ (blk r2.v).toList ++ r2.fp) (hb : xs.length + ys.length ≤ 274877906944) :
    ∃ v' w' lim', (Builtin.append_ #[T, T] ty #[r1.v, r2.v]).run P w = .ok v' w' ∧ Keeps w lim w' lim' ∧ SdOK w' lim' te t (xs ++ ys) ⟨v', r1.fp ++ r2.fp⟩ ∧ Below 0 w w' ∧
      (∀ g, g < w.heap.size → blk r1.v ≠ some g → g ∉ (blk r2.v).toList ++ r2.fp → w'.heap[g]? = w.heap[g]? ∧ lim' g = lim g) ∧ (blk v' = blk r1.v ∨ blk v' = some w.heap.size) := by
  classical
  obtain ⟨v', w', l0, a1, _, a3, a4, a5, a6⟩ := app_deep (ty := ty) (lim := fun _ => 0) hT he ⟨h1.1, h1.2.1, fun _ _ => rfl⟩ ⟨h2.1, h2.2.1, fun _ _ => rfl⟩ hdis hb
  let lim1 : Nat → Nat := fun b => if b ∈ (blk r2.v).toList ++ r2.fp then bsz w b else lim b
  have hin : ∀ b, b ∈ (blk r2.v).toList ++ r2.fp → lim1 b = bsz w b := fun b h => if_pos h
  have hout : ∀ b, b ∉ (blk r2.v).toList ++ r2.fp → lim1 b = lim b := fun b h => if_neg h
  have hk : Keeps w lim w lim1 := by
    refine ⟨fun _ _ hc _ => hc, fun b _ => ?_⟩
    by_cases hp : b ∈ (blk r2.v).toList ++ r2.fp
    · rw [h2.2.2 b hp]; exact Nat.zero_le _
    · rw [hout b hp]; exact Nat.le_refl _
  have h1' : SdOK w lim1 te t xs r1 := h1.keeps fun g hg => ⟨rfl, hout g (hdis g hg)⟩
  have hx : RdV w lim1 (.list t) r2.v ys := ⟨[r2.v], h2.1.rd fun g hg => Nat.le_of_eq (hin g hg).symm, by simp [mkV, Ty.isAgg]⟩
  obtain ⟨v2, w2, l2, b1, b2, b3, b4, b5, b6, b7⟩ := app_step (ty := ty) hT he h1'.row h1'.2.2.1 hx hb (Nat.zero_le _)
  rw [a1] at b1
  injection b1 with b1 b1'
  subst b1; subst b1'
  have lt1 : ∀ g, g ∈ r1.fp → g < w.heap.size ∧ blk r1.v ≠ some g := fun g hg => ⟨h1.1.lt g (List.mem_append_right _ hg), fun h => by
    have hn := h1.2.1
    rw [List.nodup_append] at hn
    exact hn.2.2 g (by rw [h]; simp) g hg rfl⟩
  have lt2 : ∀ g, g ∈ (blk r2.v).toList ++ r2.fp → g < w.heap.size ∧ blk r1.v ≠ some g := fun g hg => ⟨h2.1.lt g hg, fun h => hdis g (by rw [h]; simp) hg⟩
  refine ⟨v', w', l2, a1, ⟨fun a u hc hlt => b2.cell a u hc (Nat.lt_of_lt_of_le hlt (hk.lim _ (World.block_lt_of_cell? _ _ hc))), fun b hb => Nat.le_trans (hk.lim b hb) (b2.lim b hb)⟩, ⟨a3.1, a3.2.1, b4, fun g hg => ?_⟩, b5, fun g hg hne hng => ?_, b7⟩
  · rcases List.mem_append.1 hg with hg | hg
    · obtain ⟨q1, q2⟩ := lt1 g hg
      rw [(b6 g q1 q2).2, bsz_keeps (b6 g q1 q2).1]
      exact h1'.2.2.2 g hg
    · have hg2 := List.mem_append_right (blk r2.v).toList hg
      obtain ⟨q1, q2⟩ := lt2 g hg2
      rw [(b6 g q1 q2).2, bsz_keeps (b6 g q1 q2).1]
      exact hin g hg2
  · obtain ⟨c1, c2⟩ := b6 g hg hne
    exact ⟨c1, by rw [c2]; exact hout g hng⟩

section
variable {P : Program} {cx : Cx} {σ : St} {o : Oper} (hd : ∀ k, o.dst = some k → k < cx.N)
include hd

theorem op_app_deep {T : TypeId} {t : Ty} {te : Ty → TypeId} {s x : Operand} {i j id : Nat} {xs ys : List t.den} (ho : o.op = .call { callee := .builtin .append, args := #[s, x], argTypes := #[T, T] }) (hT : TyOK P (.list t) T) (he : ElOK P T (te t))
    (hc : σ.uc s) (hs : σ.un s = .own i) (hi : σ.objs i = .deep te t xs) (hcx : σ.uc x) (hx : σ.un x = .own j) (hj : σ.objs j = .deep te t ys) (hij : i ≠ j) (hu : σ.objs id = .unborn) (hb : xs.length + ys.length ≤ 274877906944) :
    OpOK P cx σ o ⟨.own id, dkill [i, j] ++ [(id, .deep te t (xs ++ ys))]⟩ := by
  intro a w K Q hsat hK
  obtain ⟨lim, G, hh, hf⟩ := hsat
  have h1 := un_ok hf s hc
  rw [hs] at h1
  simp only [AVok, hi] at h1
  have h1 := h1.2 rfl
  have h2 := un_ok hf x hcx
  rw [hx] at h2
  simp only [AVok, hj] at h2
  have h2 := h2.2 rfl
  have o1 := hh.obj i
  rw [hi] at o1
  simp only [ObjOK] at o1
  have o2 := hh.obj j
  rw [hj] at o2
  simp only [ObjOK] at o2
  have li : (σ.objs i).live = true := by rw [hi]; rfl
  have lj : (σ.objs j).live = true := by rw [hj]; rfl
  have bi : ∀ g, g ∈ (blk (G i).v).toList ++ (G i).fp → Blk (σ.objs i) (G i) g := fun g hg => by rw [hi]; exact hg
  have bj : ∀ g, g ∈ (blk (G j).v).toList ++ (G j).fp → Blk (σ.objs j) (G j) g := fun g hg => by rw [hj]; exact hg
  obtain ⟨v', w', lim', k1, k2, k3, k5, k6, k7⟩ := app_deep (ty := o.type) hT he o1.1 o2.1 (fun g hg hg' => hh.sep i j g hij li lj (bi g hg) (bj g hg')) hb
  have hrun : (execOp a.eval o).run P w = .ok (.value v') w' := by
    simp only [execOp, ho, resolve, invoke, builtin, Sem.run_bind, Sem.run_pure, Result.andThen_ok, List.map_toArray, List.map_cons, List.map_nil, h1, h2, k1]
  unfold Oper.wp
  rw [hrun]
  refine hK _ _ ?_
  have hroot : ∀ g, blk (G i).v = some g → Blk (σ.objs i) (G i) g := fun g hg => bi g (by rw [hg]; simp)
  have hnot : ∀ b, b < cx.B → ¬ cx.L b → blk (G i).v ≠ some b := fun b hlt hL hg => by
    rcases hh.mine i b li (hroot b hg) with h | h
    · omega
    · exact hL h
  refine Sat_new (o := o) hh hf (r := ⟨v', (G i).fp ++ (G j).fp⟩) hd hu (fun k hk => ?_) (hh.below.trans ⟨k5.os, k5.tape, k5.output, k5.size, fun b hlt hL => (k6 b (Nat.lt_of_lt_of_le hlt hh.B_le) (hnot b hlt hL)).1⟩) k2 (fun l g hl hlv hg => ?_)
    (fun b hlt hL => (k6 b (Nat.lt_of_lt_of_le hlt hh.B_le) (hnot b hlt hL)).2) (fun g hg => ?_) (fun G' objs' => by simp only [ObjOK]; exact ⟨k3, fun _ _ => Nat.zero_le _⟩) rfl
  · rcases List.mem_cons.1 hk with rfl | hk
    · exact li
    · have : k = j := by simpa using hk
      subst this; exact lj
  · have hli : l ≠ i := by rintro rfl; exact hl (by simp)
    exact k6 g ((hh.obj l).block_ge hlv g hg).2 fun hg0 => hh.sep l i g hli hlv li hg (hroot g hg0)
  · simp only [Blk, List.mem_append] at hg
    rcases hg with hg | hg | hg
    · have hg : blk v' = some g := by simpa using hg
      rcases k7 with k7 | k7
      · rw [k7] at hg; exact .inr ⟨i, by simp, hroot g hg⟩
      · rw [k7] at hg; injection hg with hg; exact .inl (by omega)
    · exact .inr ⟨i, by simp, bi g (List.mem_append_right _ hg)⟩
    · exact .inr ⟨j, by simp, bj g (List.mem_append_right _ hg)⟩

theorem op_app_sd {T : TypeId} {t : Ty} {te : Ty → TypeId} {s x : Operand} {i j id : Nat} {xs ys : List t.den} (ho : o.op = .call { callee := .builtin .append, args := #[s, x], argTypes := #[T, T] }) (hT : TyOK P (.list t) T) (he : ElOK P T (te t))
    (hc : σ.uc s) (hs : σ.un s = .own i) (hi : σ.objs i = .sd te t xs) (hcx : σ.uc x) (hx : σ.un x = .own j) (hj : σ.objs j = .deep te t ys) (hij : i ≠ j) (hu : σ.objs id = .unborn) (hb : xs.length + ys.length ≤ 274877906944) :
    OpOK P cx σ o ⟨.own id, dkill [i, j] ++ [(id, .sd te t (xs ++ ys))]⟩ := by
  intro a w K Q hsat hK
  obtain ⟨lim, G, hh, hf⟩ := hsat
  have h1 := un_ok hf s hc
  rw [hs] at h1
  simp only [AVok, hi] at h1
  have h1 := h1.2 rfl
  have h2 := un_ok hf x hcx
  rw [hx] at h2
  simp only [AVok, hj] at h2
  have h2 := h2.2 rfl
  have o1 := hh.obj i
  rw [hi] at o1
  simp only [ObjOK] at o1
  have o2 := hh.obj j
  rw [hj] at o2
  simp only [ObjOK] at o2
  have li : (σ.objs i).live = true := by rw [hi]; rfl
  have lj : (σ.objs j).live = true := by rw [hj]; rfl
  have bi : ∀ g, g ∈ (blk (G i).v).toList ++ (G i).fp → Blk (σ.objs i) (G i) g := fun g hg => by rw [hi]; exact hg
  have bj : ∀ g, g ∈ (blk (G j).v).toList ++ (G j).fp → Blk (σ.objs j) (G j) g := fun g hg => by rw [hj]; exact hg
  obtain ⟨v', w', lim', k1, k2, k3, k5, k6, k7⟩ := app_sd (ty := o.type) hT he o1.1 o2.1 (fun g hg hg' => hh.sep i j g hij li lj (bi g hg) (bj g hg')) hb
  have hrun : (execOp a.eval o).run P w = .ok (.value v') w' := by
    simp only [execOp, ho, resolve, invoke, builtin, Sem.run_bind, Sem.run_pure, Result.andThen_ok, List.map_toArray, List.map_cons, List.map_nil, h1, h2, k1]
  unfold Oper.wp
  rw [hrun]
  refine hK _ _ ?_
  have hroot : ∀ g, blk (G i).v = some g → Blk (σ.objs i) (G i) g := fun g hg => bi g (by rw [hg]; simp)
  have hnot : ∀ b, b < cx.B → ¬ cx.L b → blk (G i).v ≠ some b := fun b hlt hL hg => by
    rcases hh.mine i b li (hroot b hg) with h | h
    · omega
    · exact hL h
  have hnot2 : ∀ b, b < cx.B → ¬ cx.L b → b ∉ (blk (G j).v).toList ++ (G j).fp := fun b hlt hL hg => by
    rcases hh.mine j b lj (bj b hg) with h | h
    · omega
    · exact hL h
  refine Sat_new (o := o) hh hf (r := ⟨v', (G i).fp ++ (G j).fp⟩) hd hu (fun k hk => ?_) (hh.below.trans ⟨k5.os, k5.tape, k5.output, k5.size, fun b hlt hL => (k6 b (Nat.lt_of_lt_of_le hlt hh.B_le) (hnot b hlt hL) (hnot2 b hlt hL)).1⟩) k2 (fun l g hl hlv hg => ?_)
    (fun b hlt hL => (k6 b (Nat.lt_of_lt_of_le hlt hh.B_le) (hnot b hlt hL) (hnot2 b hlt hL)).2) (fun g hg => ?_) (fun G' objs' => by simp only [ObjOK]; exact ⟨k3, fun _ _ => Nat.zero_le _⟩) rfl
  · rcases List.mem_cons.1 hk with rfl | hk
    · exact li
    · have : k = j := by simpa using hk
      subst this; exact lj
  · have hli : l ≠ i := by rintro rfl; exact hl (by simp)
    have hlj : l ≠ j := by rintro rfl; exact hl (by simp)
    exact k6 g ((hh.obj l).block_ge hlv g hg).2 (fun hg0 => hh.sep l i g hli hlv li hg (hroot g hg0)) (fun hg0 => hh.sep l j g hlj hlv lj hg (bj g hg0))
  · simp only [Blk, List.mem_append] at hg
    rcases hg with hg | hg | hg
    · have hg : blk v' = some g := by simpa using hg
      rcases k7 with k7 | k7
      · rw [k7] at hg; exact .inr ⟨i, by simp, hroot g hg⟩
      · rw [k7] at hg; injection hg with hg; exact .inl (by omega)
    · exact .inr ⟨i, by simp, bi g (List.mem_append_right _ hg)⟩
    · exact .inr ⟨j, by simp, bj g (List.mem_append_right _ hg)⟩

theorem op_app_nil_deep {T : TypeId} {t : Ty} {te : Ty → TypeId} {s x : Operand} {j id : Nat} {ys : List t.den} (ho : o.op = .call { callee := .builtin .append, args := #[s, x], argTypes := #[T, T] }) (hT : TyOK P (.list t) T) (he : ElOK P T (te t))
    (hc : σ.uc s) (hs : σ.un s = .nils) (hcx : σ.uc x) (hx : σ.un x = .own j) (hj : σ.objs j = .deep te t ys) (hu : σ.objs id = .unborn) (hb : ys.length ≤ 274877906944) :
    OpOK P cx σ o ⟨.own id, dkill [j] ++ [(id, .deep te t ys)]⟩ := by
  intro a w K Q hsat hK
  obtain ⟨lim, G, hh, hf⟩ := hsat
  have h1 := un_ok hf s hc
  rw [hs] at h1
  simp only [AVok] at h1
  have h2 := un_ok hf x hcx
  rw [hx] at h2
  simp only [AVok, hj] at h2
  have h2 := h2.2 rfl
  have o2 := hh.obj j
  rw [hj] at o2
  simp only [ObjOK] at o2
  have lj : (σ.objs j).live = true := by rw [hj]; rfl
  have bj : ∀ g, g ∈ (blk (G j).v).toList ++ (G j).fp → Blk (σ.objs j) (G j) g := fun g hg => by rw [hj]; exact hg
  obtain ⟨he2, hpos⟩ := hT.el he
  obtain ⟨v', w', lim', k1, k2, k3, k5, k6, k7⟩ := app_deep (xs := []) (r1 := ⟨.slice none 0 0, []⟩) (ty := o.type) hT he ⟨⟨_, [], [], rfl, World.ownsRow_nil _ _ _ _, hpos, rfl, rfl, fun i hi => absurd hi (by simp)⟩, by simp [blk], by simp [blk]⟩ o2.1 (fun g hg => by simp [blk] at hg) (by simpa using hb)
  rw [List.nil_append] at k3
  have hrun : (execOp a.eval o).run P w = .ok (.value v') w' := by
    simp only [execOp, ho, resolve, invoke, builtin, Sem.run_bind, Sem.run_pure, Result.andThen_ok, List.map_toArray, List.map_cons, List.map_nil, h1, h2, k1]
  unfold Oper.wp
  rw [hrun]
  refine hK _ _ ?_
  have hnn : ∀ g, blk (⟨.slice none 0 0, []⟩ : Rt).v ≠ some g := fun g hg => by cases hg
  refine Sat_new (o := o) hh hf (r := ⟨v', (G j).fp⟩) hd hu (fun k hk => ?_) (hh.below.trans ⟨k5.os, k5.tape, k5.output, k5.size, fun b hlt hL => (k6 b (Nat.lt_of_lt_of_le hlt hh.B_le) (hnn b)).1⟩) k2 (fun l g hl hlv hg => ?_)
    (fun b hlt hL => (k6 b (Nat.lt_of_lt_of_le hlt hh.B_le) (hnn b)).2) (fun g hg => ?_) (fun G' objs' => by simp only [ObjOK]; exact ⟨k3, fun _ _ => Nat.zero_le _⟩) rfl
  · have : k = j := by simpa using hk
    subst this; exact lj
  · exact k6 g ((hh.obj l).block_ge hlv g hg).2 (hnn g)
  · simp only [Blk, List.mem_append] at hg
    rcases hg with hg | hg
    · have hg : blk v' = some g := by simpa using hg
      rcases k7 with k7 | k7
      · rw [k7] at hg; cases hg
      · rw [k7] at hg; injection hg with hg; exact .inl (by omega)
    · exact .inr ⟨j, by simp, bj g (List.mem_append_right _ hg)⟩
end

/-! ### A nested row is lent -/
structure LV where
  t : Ty
  xs : List t.den

def lstAt : (t : Ty) → t.den → Nat → Option LV
  | .cons (.list t') _, x, 0 => some ⟨t', x.1⟩
  | .cons _ t, x, i + 1 => lstAt t x.2 i
  | .list t', x, _ => some ⟨t', x⟩
  | _, _, _ => none

def lstSet : (t : Ty) → t.den → Nat → LV → t.den
  | .cons (.list t') _, x, 0, l => (castTo (.list t') (.list l.t) l.xs, x.2)
  | .cons _ t, x, i + 1, l => (x.1, lstSet t x.2 i l)
  | .list t', _, _, l => castTo (.list t') (.list l.t) l.xs
  | _, x, _, _ => x

theorem lst_spec : ∀ (t : Ty) (x : t.den) (f : Nat) (l : LV), lstAt t x f = some l →
    fldT t f = .list l.t ∧ (∀ (w : World) (te : Ty → TypeId) (c : Value) (F : List Nat), Tr w te (fldT t f) [c] (fldD t x f) F → Tr w te (.list l.t) [c] l.xs F) ∧
      ∀ ys : List l.t.den, ∃ y : (fldT t f).den, setC t x f y = lstSet t x f ⟨l.t, ys⟩ ∧ ∀ (w : World) (te : Ty → TypeId) (c : Value) (F : List Nat), Tr w te (.list l.t) [c] ys F → Tr w te (fldT t f) [c] y F := by
  intro t
  induction t with
  | list t' _ =>
    intro x f l h
    have h : some (⟨t', x⟩ : LV) = some l := by cases f <;> simpa only [lstAt] using h
    injection h with h
    subst h
    refine ⟨rfl, fun w te c F h => h, fun ys => ⟨ys, ?_, fun w te c F h => h⟩⟩
    cases f <;> simp only [setC, lstSet] <;> exact (castTo_self (.list t') ys).symm
  | cons a b iha ihb =>
    intro x f l h
    cases f with
    | succ f =>
      have h : lstAt b x.2 f = some l := by cases a <;> simpa only [lstAt] using h
      obtain ⟨h1, h2, h3⟩ := ihb x.2 f l h
      refine ⟨h1, h2, fun ys => ?_⟩
      obtain ⟨y, k1, k2⟩ := h3 ys
      refine ⟨y, ?_, k2⟩
      cases a <;> simp only [setC, lstSet] <;> rw [k1]
    | zero =>
      cases a with
      | list t' =>
        simp only [lstAt] at h
        injection h with h
        subst h
        refine ⟨rfl, fun w te c F h => h, fun ys => ⟨ys, ?_, fun w te c F h => h⟩⟩
        simp only [setC, lstSet]
        have := castTo_self (.list t') ys
        rw [this]
      | _ => simp only [lstAt] at h; cases h
  | _ => intro x f l h; cases f <;> simp only [lstAt] at h <;> cases h

def subO (te : Ty → TypeId) (t : Ty) (xs : List t.den) : AObj := bif t.noL then .arr (te t) t xs else .deep te t xs

theorem subO_clo (te : Ty → TypeId) (t : Ty) (xs : List t.den) : (subO te t xs).clo = true := by unfold subO; cases t.noL <;> rfl
theorem subO_deep (te : Ty → TypeId) (t : Ty) (xs : List t.den) : (subO te t xs).isDeep = !t.noL := by unfold subO; cases t.noL <;> rfl

theorem sub_of_tr {w : World} {lim : Nat → Nat} {te : Ty → TypeId} {t : Ty} {xs : List t.den} {c : Value} {F : List Nat} (h : Tr w te (.list t) [c] xs F) (hn : F.Nodup) (hl : ∀ g, g ∈ F → lim g = 0) :
    ∃ J, F = (blk c).toList ++ J ∧ ObjOK w lim noG noO 0 ⟨c, J⟩ (subO te t xs) ∧ (t.noL = true → J = []) := by
  obtain ⟨root, vs, Fs, e1, hown, hpos, h3, e2, h4⟩ := h
  injection e1 with e1
  subst e1
  refine ⟨Fs.flatten, e2, ?_, fun hnl => ?_⟩
  · unfold subO
    cases hb : t.noL with
    | false =>
      simp only [cond_false, ObjOK]
      exact ⟨⟨⟨c, vs, Fs, rfl, hown, hpos, h3, rfl, h4⟩, by rw [← e2]; exact hn, by rw [← e2]; exact hl⟩, fun _ _ => Nat.zero_le _⟩
    | true =>
      simp only [cond_true, ObjOK]
      exact ⟨⟨vs, hown, hpos, fun i hi => (Tr.noL_nil hb (h4 i hi)).2⟩, fun g hg => hl g (by rw [e2, hg]; simp)⟩
  · rw [List.flatten_eq_nil_iff]
    intro l hl'
    obtain ⟨i, hi, rfl⟩ := List.mem_iff_getElem.1 hl'
    have := (Tr.noL_nil (w' := w) (lim := lim) hnl (h4 i (by omega))).1
    rwa [List.getD_eq_getElem?_getD, List.getElem?_eq_getElem hi] at this

theorem tr_of_sub {w : World} {lim : Nat → Nat} {te : Ty → TypeId} {t : Ty} {xs : List t.den} {c : Value} {J : List Nat} (h : ObjOK w lim noG noO 0 ⟨c, J⟩ (subO te t xs)) (hj : t.noL = true → J = []) :
    Tr w te (.list t) [c] xs ((blk c).toList ++ J) ∧ ∀ g, g ∈ (blk c).toList ++ J → lim g = 0 := by
  unfold subO at h
  cases hb : t.noL with
  | false =>
    rw [hb] at h
    simp only [cond_false, ObjOK] at h
    exact ⟨h.1.1, h.1.2.2⟩
  | true =>
    rw [hb] at h
    simp only [cond_true, ObjOK] at h
    have hJ := hj hb
    subst hJ
    exact ⟨arr_tr hb h.1, fun g hg => h.2 g (by simpa using hg)⟩

def callN (P : Program) (f : FuncId) (te : Ty → TypeId) (l : LV) (n : Int) (k : Int → List l.t.den → Prop) : Prop :=
  ∃ n' ys', MutOK P f [none, none] [.obj (subO te l.t l.xs), .rd ⟨.int .i64, n⟩] (.rd (.int .i64) n') [subO te l.t ys'] ∧ k n' ys'

/-- A call to which a named row is lent. -/
def innQ (P : Program) (σ : St) (dst : Option Nat) (f : FuncId) (as : List Operand) (K : St → Prop) : Prop :=
  match as with
  | [x, y] => σ.uc x ∧ σ.tc (.int .i64) y ∧ match σ.un x with
    | .own k => match σ.objs k with
      | .name d => match σ.objs d with
        | .held te t xs i fl k' => k' = k ∧ i < xs.length ∧ celC P te t fl ∧ match lstAt t (xs.getD i t.dflt) fl with
          | some l => callN P f te l (σ.ti .i64 y) fun n' ys' => K (σ.app dst ⟨.rd (.int .i64) n', [(d, .deep te t (xs.set i (lstSet t (xs.getD i t.dflt) fl ⟨l.t, ys'⟩))), (k, .dead)]⟩)
          | none => False
        | _ => False
      | _ => False
    | _ => False
  | _ => False

theorem innQ_sound {P : Program} {cx : Cx} {σ : St} {o : Oper} {f : FuncId} {as : List Operand} {ts : Array TypeId} {K : St → Prop} (hd : ∀ k, o.dst = some k → k < cx.N) (ho : o.op = .call { callee := .value (.func f), args := as.toArray, argTypes := ts })
    (h : innQ P σ o.dst f as K) {a : Act} {w : World} {Kw : Act → World → Prop} {Q : Exit → Act → World → Prop} (hs : Sat cx σ a w) (hK : ∀ σ' a' w', K σ' → Sat cx σ' a' w' → Kw a' w') : o.wp P a w Kw Q := by
  unfold innQ at h
  split at h
  case h_2 => exact h.elim
  rename_i x y
  obtain ⟨hcx, hy, h⟩ := h
  split at h
  case h_2 => exact h.elim
  rename_i k hx
  split at h
  case h_2 => exact h.elim
  rename_i d hk
  split at h
  case h_2 => exact h.elim
  rename_i te t xs i fl k' hdo
  obtain ⟨rfl, hi, hc, h⟩ := h
  have hc := celC_spec hc
  split at h
  case h_2 => exact h.elim
  rename_i l hl
  obtain ⟨n', ys', hfun, hKK⟩ := h
  obtain ⟨lim, G, hh, hf⟩ := hs
  have hv := un_ok hf x hcx
  rw [hx] at hv
  simp only [AVok, hk] at hv
  have hv := hv.2 rfl
  obtain ⟨hyv, hyr⟩ := tc_int hh hf hy
  have hob := hh.obj d
  rw [hdo] at hob
  simp only [ObjOK] at hob
  obtain ⟨⟨hob, _⟩, _, hcell⟩ := hob
  obtain ⟨g, hg, hcell⟩ := hcell (by rw [hk]; rfl)
  obtain ⟨g', cap, cur, hr, hheap, hle, hl0, A, Fi, B, hfp, htr, hput⟩ := deep_store hob hi
  have : g' = g := by rw [hr] at hg; injection hg
  subst this
  obtain ⟨hfl, hft⟩ := hc.flat
  obtain ⟨c0, F1, F0, F2, k1, k2, k3, k4⟩ := Tr_cel hc htr
  have k1' := k1
  rw [List.getElem?_take, if_pos hft, List.getElem?_drop] at k1
  have hc0 : (G k').v = c0 := by
    rw [cell_of_row w g' _ cur (te t) (0, 0) hheap] at hcell
    have k1 : cur[i * t.size + fl]? = some c0 := by simpa using k1
    rw [k1] at hcell
    injection hcell with hcell
    exact hcell.symm
  have hgd : xs.getD i t.dflt = xs[i] := by simp [List.getD_eq_getElem?_getD, List.getElem?_eq_getElem hi]
  rw [hgd] at hl hKK
  obtain ⟨s1, s2, s3⟩ := lst_spec t xs[i] fl l hl
  have htl := s2 w te c0 F0 k3
  have hnd := hob.2.1
  have hlm := hob.2.2
  rw [hfp, k2] at hnd hlm
  have hmem : ∀ q, q ∈ F0 → q ∈ (blk (G d).v).toList ++ (A ++ (F1 ++ F0 ++ F2) ++ B) := fun q hq => by simp [hq]
  have hF0n : F0.Nodup := by
    simp only [List.nodup_append] at hnd
    exact hnd.2.1.1.2.1.1.2.1
  obtain ⟨J, hJ, hsub, hJn⟩ := sub_of_tr htl hF0n fun q hq => hlm q (hmem q hq)
  have hbR : ∀ q, BlkR ⟨c0, J⟩ q ↔ q ∈ F0 := fun q => by unfold BlkR; rw [hJ]
  have hBo : ∀ q, BlkR ⟨c0, J⟩ q → Blk (subO te l.t l.xs) ⟨c0, J⟩ q := by
    intro q hq
    unfold BlkR at hq
    unfold subO
    cases hb : l.t.noL with
    | false => exact hq
    | true =>
      rw [hJn hb] at hq
      simpa [Blk] using hq
  have hcalls := hfun.2 w lim [⟨c0, J⟩, ⟨a.eval y, []⟩] (by
    simp only [MCells]
    refine ⟨_, _, rfl, ⟨subO_clo _ _ _, hsub, hBo⟩, _, _, rfl, ?_, rfl⟩
    simp only
    rw [hyv]
    exact RdV.mk_int hyr) (by
    intro p q r1 r2 gg hpq hp hq
    have h1 : p = 0 := by
      rcases p with _ | _ | p
      · rfl
      · simp [lentAt] at hp
      · simp [lentAt] at hp
    have h2 : q = 0 := by
      rcases q with _ | _ | q
      · rfl
      · simp [lentAt] at hq
      · simp [lentAt] at hq
    omega)
  have hpk : (pack [none, none] ([(⟨c0, J⟩ : Rt), ⟨a.eval y, []⟩].map (·.v))).toArray = ([x, y].map a.eval).toArray := by
    simp [pack, hv, hc0]
  rw [hpk] at hcalls
  have hrun : (execOp a.eval o).run P w = .ok (.enter f ([x, y].map a.eval).toArray) w := by
    obtain ⟨fn, hfn, hnm, hbd⟩ := hfun.1
    have hnm' : ¬ fn.name = "runtime.NumGoroutine" := by simpa using hnm
    have hbd' : ¬ fn.body = none := by intro h; rw [h] at hbd; cases hbd
    simp [execOp, ho, resolve, invoke, callFunc, Act.eval, Deferred.ofValue, hfn, hnm', hbd']
  unfold Oper.wp
  rw [hrun]
  simp only [Oper.upon]
  refine hcalls.mono fun e w' hpost => ?_
  obtain ⟨v, lim', fp, he, hb, hl', hrv, hnd', hout⟩ := hpost
  subst he
  refine hK _ _ _ hKK ?_
  simp only [RVok] at hrv
  have hlB : ∀ q, lentB [.obj (subO te l.t l.xs), .rd ⟨.int .i64, σ.ti .i64 y⟩] [⟨c0, J⟩, ⟨a.eval y, []⟩] q → q ∈ F0 := by
    rintro q ⟨p, r, h1, h2⟩
    rcases p with _ | _ | p
    · simp only [lentAt, Option.some.injEq] at h1
      subst h1
      exact (hbR q).1 h2
    · simp [lentAt] at h1
    · simp [lentAt] at h1
  simp only [OutsOK] at hout
  obtain ⟨o', r', ho', ⟨hdp, hoo⟩, _⟩ := hout
  injection ho' with ho' _
  subst ho'
  obtain ⟨tr', lm'⟩ := tr_of_sub hoo hJn
  rw [← hJ] at tr' lm'
  obtain ⟨yv, y1, y2⟩ := s3 ys'
  have hnotF : ∀ q, q ∈ (blk (G d).v).toList ++ (A ++ (F1 ++ F2) ++ B) → q ∉ F0 := by
    intro q hq hq0
    simp only [List.nodup_append, List.mem_append] at hnd hq
    obtain ⟨_, ⟨⟨_, ⟨⟨_, _, d1⟩, _, d2⟩, d3⟩, _, d4⟩, d5⟩ := hnd
    rcases hq with hq | (hq | hq | hq) | hq
    · exact d5 q hq q (.inl (.inr (.inl (.inr hq0)))) rfl
    · exact d3 q hq q (.inl (.inr hq0)) rfl
    · exact d1 q hq q hq0 rfl
    · exact d2 q (.inr hq0) q hq rfl
    · exact d4 q (.inr (.inl (.inr hq0))) q hq rfl
  have hltd : ∀ q, q ∈ (blk (G d).v).toList ++ (A ++ (F1 ++ F0 ++ F2) ++ B) → q < w.heap.size := by
    intro q hq
    refine hob.1.lt q ?_
    rw [hfp, k2]; exact hq
  have hkeepd : ∀ q, q ∈ (blk (G d).v).toList ++ (A ++ (F1 ++ F2) ++ B) → w'.heap[q]? = w.heap[q]? ∧ lim' q = lim q := by
    intro q hq
    have hlt : q < w.heap.size := hltd q (by simp only [List.mem_append] at hq ⊢; rcases hq with hq | (hq | hq | hq) | hq <;> simp [hq])
    have hn : ¬ lentB [.obj (subO te l.t l.xs), .rd ⟨.int .i64, σ.ti .i64 y⟩] [⟨c0, J⟩, ⟨a.eval y, []⟩] q := fun h => hnotF q hq (hlB q h)
    exact ⟨hb.block q hlt hn, hl' q hlt hn⟩
  have helem := k4 w' c0 yv F0 (fun q hq => (hkeepd q (by rcases List.mem_append.1 hq with h | h <;> simp [h])).1) (y2 w' te c0 F0 tr')
  have hset0 : ((cur.toList.drop (i * t.size)).take t.size).set fl c0 = (cur.toList.drop (i * t.size)).take t.size := by
    apply List.ext_getElem?
    intro m
    by_cases hm : m = fl
    · subst hm
      have hlt := (List.getElem?_eq_some_iff.1 k1').1
      rw [List.getElem?_set_self hlt, k1']
    · rw [List.getElem?_set_ne (fun h => hm h.symm)]
  rw [hset0] at helem
  have hcurl : cur.toList.length = cur.size := Array.length_toList
  have hcur : (cur.toList.take (i * t.size) ++ (cur.toList.drop (i * t.size)).take t.size ++ cur.toList.drop (i * t.size + t.size)).toArray = cur := by
    rw [← List.drop_drop, List.append_assoc, List.take_append_drop, List.take_append_drop]
  have hroot : g' ∈ (blk (G d).v).toList := by rw [hr]; simp [blk]
  have hdeep := hput w' lim' _ _ (F1 ++ F0 ++ F2) (by rw [hcur, (hkeepd g' (List.mem_append_left _ hroot)).1]; exact hheap) (fun q hq => (hkeepd q (by rcases List.mem_append.1 hq with h | h <;> simp [h])).1) helem hnd
    (fun q hq => by
      by_cases h0 : q ∈ F0
      · exact lm' q h0
      · have hq' : q ∈ (blk (G d).v).toList ++ (A ++ (F1 ++ F2) ++ B) := by
          simp only [List.mem_append] at hq ⊢
          rcases hq with hq | (hq | (hq | hq) | hq) | hq
          · exact .inl hq
          · exact .inr (.inl (.inl hq))
          · exact .inr (.inl (.inr (.inl hq)))
          · exact absurd hq h0
          · exact .inr (.inl (.inr (.inr hq)))
          · exact .inr (.inr hq)
        rw [(hkeepd q hq').2]
        exact hlm q hq)
  rw [← k2, ← hfp, y1] at hdeep
  have hdk : d ≠ k' := by rintro rfl; rw [hk] at hdo; cases hdo
  have hlv : (σ.objs d).live = true := by rw [hdo]; rfl
  have hBd : ∀ q, q ∈ F0 → Blk (σ.objs d) (G d) q := by
    intro q hq
    rw [hdo]
    simp only [Blk]
    rw [hfp, k2]
    exact hmem q hq
  obtain ⟨hh', hkp, he'⟩ := hh.worldM (objs1 := upd σ.objs d (.deep te t (xs.set i (lstSet t xs[i] fl ⟨l.t, ys'⟩)))) (L := lentB [.obj (subO te l.t l.xs), .rd ⟨.int .i64, σ.ti .i64 y⟩] [⟨c0, J⟩, ⟨a.eval y, []⟩]) hb hl' (ids := [d])
    (fun q hq => ⟨d, by simp, hBd q (hlB q hq), hlm q (hmem q (hlB q hq))⟩)
    (fun j hj => upd_ne _ _ _ _ (by simpa using hj))
    (fun j hj => by
      have : j = d := by simpa using hj
      subst this
      rw [upd_same]
      refine ⟨hlv, rfl, ?_, fun q hq => by rw [hdo]; exact hq⟩
      simp only [ObjOK]
      exact ⟨hdeep, fun _ _ => Nat.zero_le _⟩)
  have hkill := hh'.kill k'
  have hfr := (hf.keeps hkp he').keeps (Keeps.refl w' lim') (Ext.kill k')
  have e : σ.app o.dst ⟨.rd (.int .i64) n', [(d, .deep te t (xs.set i (lstSet t xs[i] fl ⟨l.t, ys'⟩))), (k', .dead)]⟩ = ({ tmps := σ.tmps, objs := upd (upd σ.objs d (.deep te t (xs.set i (lstSet t xs[i] fl ⟨l.t, ys'⟩)))) k' .dead } : St).put o.dst (.rd (.int .i64) n') := by
    unfold St.app
    cases o.dst <;> rfl
  rw [e]
  refine ⟨lim', G, ?_, hfr.put hd (v := v) ?_⟩
  · rw [put_objs]; exact hkill
  · simp only [AVok]
    exact hrv.1
end Go.AL
/- One operation reckoned: what it gives, what it asks, that this is sound, and on what it hangs. A general part, over any program. -/
set_option linter.unusedSimpArgs false
set_option linter.unusedVariables false
namespace Go.AL
open Go.RowKit

def slD (σ : St) (t : Ty) (x : Operand) (lo hi : Option Operand) : List t.den :=
  ((σ.tv (.list t) x).take (match hi with | some y => (σ.ti .i64 y).toNat | none => (σ.tv (.list t) x).length)).drop (match lo with | some y => (σ.ti .i64 y).toNat | none => 0)

def slC (σ : St) (t : Ty) (x : Operand) (lo hi : Option Operand) : Prop :=
  σ.tc (.list t) x ∧ (match lo with | some y => σ.tc (.int .i64) y ∧ 0 ≤ σ.ti .i64 y | none => True) ∧ (match hi with | some y => σ.tc (.int .i64) y ∧ 0 ≤ σ.ti .i64 y | none => True) ∧
  (match lo with | some y => σ.ti .i64 y | none => 0) ≤ (match hi with | some y => σ.ti .i64 y | none => ((σ.tv (.list t) x).length : Int)) ∧
  (match hi with | some y => σ.ti .i64 y | none => ((σ.tv (.list t) x).length : Int)) ≤ ((σ.tv (.list t) x).length : Int)

/-- The rest of a row of the call's own (no upper bound is named): the row is given up for it. -/
def slE (σ : St) (id : Nat) (t : Ty) (x : Operand) (lo hi : Option Operand) : Eff :=
  match lo, hi with
  | some y, none => match σ.un x with
    | .own i => match σ.objs i with
      | .row e _ _ => ⟨.own id, [(i, .dead), (id, .tl e t ((rowOf σ.objs i t).drop (σ.ti .i64 y).toNat))]⟩
      | _ => ⟨.rd (.list t) (slD σ t x lo hi), []⟩
    | _ => ⟨.rd (.list t) (slD σ t x lo hi), []⟩
  | _, _ => ⟨.rd (.list t) (slD σ t x lo hi), []⟩
def slP (σ : St) (id : Nat) (t : Ty) (x : Operand) (lo hi : Option Operand) : Prop :=
  match lo, hi with
  | some y, none => match σ.un x with
    | .own i => match σ.objs i with
      | .row _ t' _ => t' = t ∧ σ.uc x ∧ σ.objs id = .unborn ∧ σ.tc (.int .i64) y ∧ 0 ≤ σ.ti .i64 y ∧ σ.ti .i64 y ≤ ((rowOf σ.objs i t).length : Int)
      | _ => slC σ t x lo hi
    | _ => slC σ t x lo hi
  | _, _ => slC σ t x lo hi

def iaE (σ : St) (t : Ty) (x ix : Operand) : Eff :=
  match σ.un x with
  | .own i => match σ.objs i with
    | .arr _ t' _ => ⟨.ep i t'.size (σ.ti .i64 ix).toNat, []⟩
    | .deep _ t' _ => ⟨.ep i t'.size (σ.ti .i64 ix).toNat, []⟩
    | .bld _ t' _ => ⟨.ep i t'.size (σ.ti .i64 ix).toNat, []⟩
    | _ => ⟨.ptr t ((σ.tv (.list t) x).getD (σ.ti .i64 ix).toNat t.dflt), []⟩
  | _ => ⟨.ptr t ((σ.tv (.list t) x).getD (σ.ti .i64 ix).toNat t.dflt), []⟩

def iaC (σ : St) (t : Ty) (x ix : Operand) : Prop :=
  match σ.un x with
  | .own i => match σ.objs i with
    | .arr _ t' xs => t' = t ∧ σ.uc x ∧ σ.tc (.int .i64) ix ∧ 0 ≤ σ.ti .i64 ix ∧ σ.ti .i64 ix < (xs.length : Int)
    | .deep _ t' xs => t' = t ∧ σ.uc x ∧ σ.tc (.int .i64) ix ∧ 0 ≤ σ.ti .i64 ix ∧ σ.ti .i64 ix < (xs.length : Int)
    | .bld _ t' xs => t' = t ∧ σ.uc x ∧ σ.tc (.int .i64) ix ∧ 0 ≤ σ.ti .i64 ix ∧ σ.ti .i64 ix < (xs.length : Int)
    | _ => σ.tc (.list t) x ∧ σ.tc (.int .i64) ix ∧ 0 ≤ σ.ti .i64 ix ∧ σ.ti .i64 ix < ((σ.tv (.list t) x).length : Int)
  | _ => σ.tc (.list t) x ∧ σ.tc (.int .i64) ix ∧ 0 ≤ σ.ti .i64 ix ∧ σ.ti .i64 ix < ((σ.tv (.list t) x).length : Int)

def lnD (σ : St) (t : Ty) (x : Operand) : Nat :=
  match σ.un x with
  | .own i => match σ.objs i with
    | .arr _ _ xs => xs.length
    | .deep _ _ xs => xs.length
    | .bld _ _ xs => xs.length
    | _ => (σ.tv (.list t) x).length
  | _ => (σ.tv (.list t) x).length

def lnC (σ : St) (t : Ty) (x : Operand) : Prop :=
  match σ.un x with
  | .own i => match σ.objs i with
    | .arr _ t' _ => t' = t ∧ σ.uc x
    | .deep _ t' _ => t' = t ∧ σ.uc x
    | .bld _ t' _ => t' = t ∧ σ.uc x
    | _ => σ.tc (.list t) x
  | _ => σ.tc (.list t) x

/-- A literal of one element that bears rows of the call's own. -/
def dpL (σ : St) : List (Nat × Operand) → Bool
  | [p] => bif plV σ.objs (σ.un p.2) then false else true
  | _ => false
def dlE (σ : St) (tb : Tb) (id : Nat) (t : Ty) : List (Nat × Operand) → Eff
  | [p] => ⟨.own id, dkill (dids (σ.un p.2)) ++ [(id, .deep tb.te t [dvd σ.objs t (σ.un p.2)])]⟩
  | _ => ⟨.any, []⟩
def dlC (σ : St) (tb : Tb) (T : TypeId) (t : Ty) : List (Nat × Operand) → Prop
  | [p] => p.1 = 0 ∧ σ.uc p.2 ∧ (dids (σ.un p.2)).Nodup ∧ dvc σ.objs tb.te t (σ.un p.2) ∧ tb.el T = tb.te t ∧ t.size ≤ 16777216
  | _ => False
/-- An append of a row that owns its nested rows. -/
def dpX (objs : Nat → AObj) : AV → Bool
  | .own j => (objs j).isDeep
  | _ => false
def daE (σ : St) (tb : Tb) (id : Nat) (t : Ty) (s x : Operand) : Eff :=
  match σ.un x with
  | .own j => match σ.objs j with
    | .deep _ t' ys => match σ.un s with
      | .own i => match σ.objs i with
        | .deep _ t2 xs => ⟨.own id, dkill [i, j] ++ [(id, .deep tb.te t (castTo (.list t) (.list t2) xs ++ castTo (.list t) (.list t') ys))]⟩
        | .sd _ t2 xs => ⟨.own id, dkill [i, j] ++ [(id, .sd tb.te t (castTo (.list t) (.list t2) xs ++ castTo (.list t) (.list t') ys))]⟩
        | _ => ⟨.any, []⟩
      | .nils => ⟨.own id, dkill [j] ++ [(id, .deep tb.te t (castTo (.list t) (.list t') ys))]⟩
      | _ => ⟨.any, []⟩
    | _ => ⟨.any, []⟩
  | _ => ⟨.any, []⟩
def daC (σ : St) (tb : Tb) (T : TypeId) (t : Ty) (s x : Operand) : Prop :=
  σ.uc s ∧ σ.uc x ∧ tb.el T = tb.te t ∧ match σ.un x with
  | .own j => match σ.objs j with
    | .deep te t' ys => t' = t ∧ te = tb.te ∧ match σ.un s with
      | .own i => match σ.objs i with
        | .deep te2 t2 xs => t2 = t ∧ te2 = tb.te ∧ i ≠ j ∧ xs.length + ys.length ≤ 274877906944
        | .sd te2 t2 xs => t2 = t ∧ te2 = tb.te ∧ i ≠ j ∧ xs.length + ys.length ≤ 274877906944
        | _ => False
      | .nils => ys.length ≤ 274877906944
      | _ => False
    | _ => False
  | _ => False
def isLst (P : Program) (T : TypeId) : Ty → Prop
  | .list t => TyOK P (.list t) T
  | _ => False

/-- What an operation other than a call gives. 'id': the number for a new object. -/
noncomputable def peff (tb : Tb) (id : Nat) (σ : St) : Op → Eff
  | .move x => ⟨σ.ev x, []⟩
  | .nilCheck x => ⟨σ.un x, []⟩
  | .assign x => ⟨σ.ev x, []⟩
  | .pick c x y => ⟨.rd .bool (bif σ.tb c then σ.tb x else σ.tb y), []⟩
  | .box T x => ⟨.bp id 0, [(id, .box T (cellsAV (σ.un x)))]⟩
  | .alloc T => ⟨.bp id 0, [(id, .box T (tb.ty T).zeros)]⟩
  | .load T x => match σ.un x with
    | .ptr t y => ⟨.rd t y, []⟩
    | .bp i off => match σ.objs i with
      | .box _ cs => ⟨boxLoad (tb.ty T) cs off, []⟩
      | _ => ⟨.any, []⟩
    | .ep i _ k => match σ.objs i with
      | .arr _ t xs => ⟨.rd t (xs.getD k t.dflt), []⟩
      | .deep te t xs => ⟨.own id, [(id, .name i), (i, .held te t xs k 0 id)]⟩
      | _ => ⟨.any, []⟩
    | .ef i _ k f => match σ.objs i with
      | .deep te t xs => ⟨.own id, [(id, .name i), (i, .held te t xs k f id)]⟩
      | _ => ⟨.any, []⟩
    | _ => ⟨.any, []⟩
  | .store T x y => match σ.un x with
    | .bp i off => match σ.objs i with
      | .box T' cs => ⟨.any, [(i, .box T' (cs.take off ++ cellsAV (σ.un y) ++ cs.drop (off + (tb.ty T).size)))]⟩
      | _ => ⟨.any, []⟩
    | .ep i _ k => match σ.objs i with
      | .arr e t xs => ⟨.any, [(i, .arr e t (xs.set k (σ.tv t y)))]⟩
      | .bld te t xs => ⟨.any, dkill (dids (σ.un y)) ++ [(i, .bld te t (xs.set k (dvd σ.objs t (σ.un y))))]⟩
      | _ => ⟨.any, []⟩
    | .ef i _ k f => match σ.objs i with
      | .arr e t xs => ⟨.any, [(i, .arr e t (xs.set k (setF t (xs.getD k t.dflt) f (σ.tv (fldT t f) y))))]⟩
      | .deep te t xs => ⟨.any, [(i, .deep te t (xs.set k (setC t (xs.getD k t.dflt) f (σ.tv (fldT t f) y))))]⟩
      | _ => ⟨.any, []⟩
    | _ => ⟨.any, []⟩
  | .fieldAddr _ x i => match σ.un x with
    | .ptr t y => ⟨.ptr (fldT t i) (fldD t y i), []⟩
    | .bp j off => ⟨.bp j (off + i), []⟩
    | .ep j sz k => ⟨.ef j sz k i, []⟩
    | _ => ⟨.any, []⟩
  | .field _ x i => match σ.un x with
    | .rd t y => ⟨.rd (fldT t i) (fldD t y i), []⟩
    | .agg cs => ⟨cs.getD i .any, []⟩
    | _ => ⟨.any, []⟩
  | .extract x i => match σ.un x with
    | .tup cs => ⟨cs.getD i .any, []⟩
    | _ => ⟨.any, []⟩
  | .indexAddr T x ix => match tb.ty T with
    | .list t => iaE σ t x ix
    | _ => ⟨.any, []⟩
  | .index _ x ix => match σ.un x with
    | .agg cs => ⟨.rd (.int .i64) ((intsOf cs).getD (σ.ti .i64 ix).toNat 0), []⟩
    | _ => ⟨.rd (.int .u8) (((σ.ts x).data.toList.getD (σ.ti .i64 ix).toNat 0).toNat : Int), []⟩
  | .slice T x lo hi none => match tb.ty T with
    | .list t => slE σ id t x lo hi
    | _ => ⟨.any, []⟩
  | .build T ps => ⟨.agg (setAll σ ps.toList (tb.ty T).zeros), []⟩
  | .buildSlice T _ ps => match tb.ty T with
    | .list t => bif dpL σ ps.toList then dlE σ tb id t ps.toList else ⟨.own id, [(id, .row (tb.el T) t (litD σ t ps.toList))]⟩
    | _ => ⟨.any, []⟩
  | .makeSlice T l _ => match tb.ty T with
    | .list t => bif tb.dp then ⟨.own id, [(id, .bld tb.te t (List.replicate (σ.ti .i64 l).toNat t.dflt))]⟩ else ⟨.own id, [(id, .arr (tb.el T) t (List.replicate (σ.ti .i64 l).toNat t.dflt))]⟩
    | _ => ⟨.any, []⟩
  | .makeFunc (.func f) first caps => match first.toList, caps.toList with
    | [], [x] => ⟨.fn f [σ.un x], []⟩
    | _, _ => ⟨.any, []⟩
  | .binOp op T x y T' => match op, tb.ty T with
    | .shl, .int k => match tb.ty T' with
      | .int k' => ⟨bopI .shl k (σ.ti k x) (σ.ti k' y), []⟩
      | _ => ⟨.any, []⟩
    | .shr, .int k => match tb.ty T' with
      | .int k' => ⟨bopI .shr k (σ.ti k x) (σ.ti k' y), []⟩
      | _ => ⟨.any, []⟩
    | op, .int k => ⟨bopI op k (σ.ti k x) (σ.ti k y), []⟩
    | .eql, .bool => ⟨.rd .bool (σ.tb x == σ.tb y), []⟩
    | .neq, .bool => ⟨.rd .bool (σ.tb x != σ.tb y), []⟩
    | .add, .str => ⟨.rd .str (σ.ts x ++ σ.ts y), []⟩
    | .eql, .str => ⟨.rd .bool ((σ.ts x).toList == (σ.ts y).toList), []⟩
    | .neq, .str => ⟨.rd .bool (!((σ.ts x).toList == (σ.ts y).toList)), []⟩
    | .eql, .cons a b => ⟨.rd .bool (eqC (σ.tv (.cons a b) x) (σ.tv (.cons a b) y)), []⟩
    | .neq, .cons a b => ⟨.rd .bool (!eqC (σ.tv (.cons a b) x) (σ.tv (.cons a b) y)), []⟩
    | _, _ => ⟨.any, []⟩
  | .unOp _ _ x => ⟨.rd .bool (!σ.tb x), []⟩
  | .convert S T x => match tb.ty S, tb.ty T with
    | .int k, .int k' => ⟨.rd (.int k') (k'.wrap (σ.ti k x)), []⟩
    | .str, .list (.int .u8) => ⟨.rd (.list (.int .u8)) (byL (σ.ts x)), []⟩
    | .list (.int .u8), .str => ⟨.rd .str (byS (σ.tv (.list (.int .u8)) x)), []⟩
    | _, _ => ⟨.any, []⟩
  | .call { callee := .builtin .len, args := as, argTypes := ts } => match as.toList, ts.toList with
    | [x], [T] => match tb.ty T with
      | .list t => ⟨.rd (.int .i64) (lnD σ t x : Int), []⟩
      | _ => ⟨.rd (.int .i64) ((σ.ts x).size : Int), []⟩
    | _, _ => ⟨.any, []⟩
  | .call { callee := .builtin .min, args := as, argTypes := _ } => match as.toList with
    | [x, y] => ⟨.rd (.int .i64) (if σ.ti .i64 y < σ.ti .i64 x then σ.ti .i64 y else σ.ti .i64 x), []⟩
    | _ => ⟨.any, []⟩
  | .call { callee := .builtin .max, args := as, argTypes := _ } => match as.toList with
    | [x, y] => ⟨.rd (.int .i64) (if σ.ti .i64 y > σ.ti .i64 x then σ.ti .i64 y else σ.ti .i64 x), []⟩
    | _ => ⟨.any, []⟩
  | .call { callee := .builtin .append, args := as, argTypes := ts } => match as.toList, ts.toList with
    | [s, x], [T, _] => match tb.ty T with
      | .list t => bif dpX σ.objs (σ.un x) then daE σ tb id t s x else match σ.un s with
        | .own i => match σ.objs i with
          | .arr _ t' xs => ⟨.own id, [(i, .dead), (id, .arr (tb.el T) t (castTo (.list t) (.list t') xs ++ σ.tv (.list t) x))]⟩
          | .tl _ _ _ => ⟨.own id, [(i, .dead), (id, .tl (tb.el T) t (rowOf σ.objs i t ++ σ.tv (.list t) x))]⟩
          | _ => ⟨.own id, [(i, .dead), (id, .row (tb.el T) t (rowOf σ.objs i t ++ σ.tv (.list t) x))]⟩
        | .nils => ⟨.own id, [(id, .row (tb.el T) t (σ.tv (.list t) x))]⟩
        | _ => ⟨.any, []⟩
      | _ => ⟨.any, []⟩
    | _, _ => ⟨.any, []⟩
  | _ => ⟨.any, []⟩

/-- What an operation other than a call asks. -/
def pvc (P : Program) (tb : Tb) (id : Nat) (σ : St) (dst : Option Nat) : Op → Prop
  | .move _ => True
  | .assign _ => True
  | .nilCheck x => σ.uc x ∧ match σ.un x with
    | .ptr _ _ => True
    | .bp j _ => (σ.objs j).live = true
    | _ => False
  | .pick c x y => σ.tc .bool c ∧ (σ.tb c = true → σ.tc .bool x) ∧ (σ.tb c = false → σ.tc .bool y)
  | .box T x => σ.uc x ∧ cellsC σ.objs (tb.ty T) (σ.un x) ∧ σ.objs id = .unborn
  | .alloc T => TyOK P (tb.ty T) T ∧ σ.objs id = .unborn
  | .load T x => σ.uc x ∧ match σ.un x with
    | .ptr t _ => TyOK P t T
    | .bp i off => match σ.objs i with
      | .box _ cs => TyOK P (tb.ty T) T ∧ off + (tb.ty T).size ≤ cs.length
      | _ => False
    | .ep i sz k => match σ.objs i with
      | .arr _ t xs => sz = t.size ∧ k < xs.length ∧ TyOK P t T
      | .deep te t xs => sz = t.size ∧ k < xs.length ∧ celC P te t 0 ∧ isLst P T (fldT t 0) ∧ σ.objs id = .unborn
      | _ => False
    | .ef i sz k f => match σ.objs i with
      | .deep te t xs => sz = t.size ∧ k < xs.length ∧ celC P te t f ∧ isLst P T (fldT t f) ∧ σ.objs id = .unborn
      | _ => False
    | _ => False
  | .store T x y => dst = none ∧ σ.uc x ∧ match σ.un x with
    | .bp i off => match σ.objs i with
      | .box _ cs => TyOK P (tb.ty T) T ∧ off + (tb.ty T).size ≤ cs.length ∧ σ.uc y ∧ cellsC σ.objs (tb.ty T) (σ.un y)
      | _ => False
    | .ep i sz k => match σ.objs i with
      | .arr _ t xs => sz = t.size ∧ k < xs.length ∧ TyOK P t T ∧ σ.tc t y
      | .bld te t xs => sz = t.size ∧ k < xs.length ∧ TyOK P t T ∧ σ.uc y ∧ (dids (σ.un y)).Nodup ∧ dvc σ.objs te t (σ.un y)
      | _ => False
    | .ef i sz k f => match σ.objs i with
      | .arr e t xs => sz = t.size ∧ k < xs.length ∧ TyOK P t e ∧ f < t.nf ∧ TyOK P (fldT t f) T ∧ σ.tc (fldT t f) y
      | .deep te t xs => sz = t.size ∧ k < xs.length ∧ celC P te t f ∧ TyOK P (fldT t f) T ∧ (fldT t f).noL = true ∧ σ.tc (fldT t f) y
      | _ => False
    | _ => False
  | .fieldAddr T x i => σ.uc x ∧ TyOK P (tb.ty T) T ∧ i < (tb.ty T).nf ∧ match σ.un x with
    | .ptr t _ => t = tb.ty T
    | .bp j _ => (σ.objs j).live = true
    | .ep j _ _ => (σ.objs j).live = true
    | _ => False
  | .field T x i => σ.uc x ∧ TyOK P (tb.ty T) T ∧ i < (tb.ty T).nf ∧ match σ.un x with
    | .rd t _ => t = tb.ty T
    | .agg cs => i < cs.length
    | _ => False
  | .extract x i => σ.uc x ∧ match σ.un x with
    | .tup cs => i < cs.length
    | _ => False
  | .indexAddr T x ix => TyOK P (tb.ty T) T ∧ match tb.ty T with
    | .list t => iaC σ t x ix
    | _ => False
  | .index T x ix => match σ.un x with
    | .agg cs => σ.uc x ∧ ArrOK P cs.length T ∧ σ.tc (.int .i64) ix ∧ 0 ≤ σ.ti .i64 ix ∧ σ.ti .i64 ix < (cs.length : Int) ∧ intsC cs = true
    | _ => TyOK P .str T ∧ σ.tc .str x ∧ σ.tc (.int .i64) ix ∧ 0 ≤ σ.ti .i64 ix ∧ σ.ti .i64 ix < ((σ.ts x).size : Int)
  | .slice T x lo hi none => TyOK P (tb.ty T) T ∧ match tb.ty T with
    | .list t => slP σ id t x lo hi
    | _ => False
  | .build T ps => (TyOK P (tb.ty T) T ∨ (arrTy (tb.ty T).nf = tb.ty T ∧ ArrOK P (tb.ty T).nf T)) ∧ match tb.ty T with
    | .cons h t => (Ty.cons h t).size = (Ty.cons h t).nf ∧ setAllC σ (Ty.cons h t).nf ps.toList
    | _ => False
  | .buildSlice T n ps => TyOK P (tb.ty T) T ∧ ElOK P T (tb.el T) ∧ σ.objs id = .unborn ∧ ps.toList.length = n ∧ match tb.ty T with
    | .list t => bif dpL σ ps.toList then dlC σ tb T t ps.toList else litC σ t 0 ps.toList ∧ n * t.size ≤ 16777216
    | _ => False
  | .makeSlice T l c => TyOK P (tb.ty T) T ∧ ElOK P T (tb.el T) ∧ σ.objs id = .unborn ∧ σ.tc (.int .i64) l ∧ σ.tc (.int .i64) c ∧ σ.ti .i64 l = σ.ti .i64 c ∧ 0 ≤ σ.ti .i64 l ∧ σ.ti .i64 l ≤ 274877906944 ∧ match tb.ty T with
    | .list t => bif tb.dp then tb.el T = tb.te t else True
    | _ => False
  | .makeFunc (.func _) first caps => match first.toList, caps.toList with
    | [], [x] => σ.uc x
    | _, _ => False
  | .binOp op T x y T' => match op, tb.ty T with
    | .shl, .int k => match tb.ty T' with
      | .int k' => σ.tc (.int k) x ∧ σ.tc (.int k') y ∧ 0 ≤ σ.ti k' y
      | _ => False
    | .shr, .int k => match tb.ty T' with
      | .int k' => σ.tc (.int k) x ∧ σ.tc (.int k') y ∧ 0 ≤ σ.ti k' y
      | _ => False
    | op, .int k => σ.tc (.int k) x ∧ σ.tc (.int k) y ∧ bopC op (σ.ti k y)
    | .eql, .bool => TyOK P .bool T ∧ σ.tc .bool x ∧ σ.tc .bool y
    | .neq, .bool => TyOK P .bool T ∧ σ.tc .bool x ∧ σ.tc .bool y
    | .add, .str => σ.tc .str x ∧ σ.tc .str y ∧ (σ.ts x).size + (σ.ts y).size ≤ maxLen
    | .eql, .str => σ.tc .str x ∧ σ.tc .str y
    | .neq, .str => σ.tc .str x ∧ σ.tc .str y
    | .eql, .cons a b => TyOK P (.cons a b) T ∧ EqSt P T ∧ (Ty.cons a b).basic = true ∧ σ.tc (.cons a b) x ∧ σ.tc (.cons a b) y
    | .neq, .cons a b => TyOK P (.cons a b) T ∧ EqSt P T ∧ (Ty.cons a b).basic = true ∧ σ.tc (.cons a b) x ∧ σ.tc (.cons a b) y
    | _, _ => False
  | .unOp op _ x => op = .not ∧ σ.tc .bool x
  | .convert S T x => match tb.ty S, tb.ty T with
    | .int k, .int k' => TyOK P (.int k) S ∧ TyOK P (.int k') T ∧ σ.tc (.int k) x
    | .str, .list (.int .u8) => TyOK P .str S ∧ TyOK P (.list (.int .u8)) T ∧ σ.tc .str x
    | .list (.int .u8), .str => TyOK P (.list (.int .u8)) S ∧ TyOK P .str T ∧ σ.tc (.list (.int .u8)) x
    | _, _ => False
  | .call { callee := .builtin .len, args := as, argTypes := ts } => match as.toList, ts.toList with
    | [x], [T] => TyOK P (tb.ty T) T ∧ match tb.ty T with
      | .list t => lnC σ t x
      | .str => σ.tc .str x
      | _ => False
    | _, _ => False
  | .call { callee := .builtin .min, args := as, argTypes := _ } => match as.toList with
    | [x, y] => σ.tc (.int .i64) x ∧ σ.tc (.int .i64) y
    | _ => False
  | .call { callee := .builtin .max, args := as, argTypes := _ } => match as.toList with
    | [x, y] => σ.tc (.int .i64) x ∧ σ.tc (.int .i64) y
    | _ => False
  | .call { callee := .builtin .append, args := as, argTypes := ts } => match as.toList, ts.toList with
    | [s, x], [T, T2] => T2 = T ∧ TyOK P (tb.ty T) T ∧ ElOK P T (tb.el T) ∧ σ.objs id = .unborn ∧ match tb.ty T with
      | .list t => bif dpX σ.objs (σ.un x) then daC σ tb T t s x else σ.uc s ∧ σ.tc (.list t) x ∧ match σ.un s with
        | .own i => match σ.objs i with
          | .row e t' xs => e = tb.el T ∧ t' = t ∧ xs.length + (σ.tv (.list t) x).length ≤ 274877906944
          | .arr e t' xs => e = tb.el T ∧ t' = t ∧ xs.length + (σ.tv (.list t) x).length ≤ 274877906944
          | .tl e t' xs => e = tb.el T ∧ t' = t ∧ xs.length + (σ.tv (.list t) x).length ≤ 274877906944
          | _ => False
        | .nils => (σ.tv (.list t) x).length ≤ 274877906944
        | _ => False
      | _ => False
    | _, _ => False
  | _ => False

theorem arr1 {α : Type} {as : Array α} {l : List α} (h : as.toList = l) : as = l.toArray := by rw [← h]

section
variable {P : Program} {cx : Cx} {σ : St} {o : Oper} {tb : Tb} {id : Nat}

theorem op_makeFunc {f : FuncId} {x : Operand} (hd : ∀ k, o.dst = some k → k < cx.N) (ho : o.op = .makeFunc (.func f) #[] #[x]) (hc : σ.uc x) : OpOK P cx σ o ⟨.fn f [σ.un x], []⟩ :=
  OpOK.of_value hd fun a w lim G hh hf => by
    refine ⟨.func (.func f) #[] #[a.eval x], ?_, ?_⟩
    · simp [execOp, ho, Instr.makeFunc]
    · simp only [AVok, AVsOk]
      exact ⟨[a.eval x], rfl, _, _, rfl, un_ok hf x hc, rfl⟩

theorem op_nilCheck {x : Operand} (hd : ∀ k, o.dst = some k → k < cx.N) (ho : o.op = .nilCheck x) (hc : σ.uc x) (h : match σ.un x with
    | .ptr _ _ => True
    | .bp j _ => (σ.objs j).live = true
    | _ => False) : OpOK P cx σ o ⟨σ.un x, []⟩ :=
  OpOK.of_value hd fun a w lim G hh hf => by
    have hv := un_ok hf x hc
    have hp : ∃ ad, a.eval x = .pointer (some ad) := by
      cases hu : σ.un x <;> rw [hu] at h hv <;> simp only at h
      · simp only [AVok] at hv
        obtain ⟨ad, _, h1, _⟩ := hv
        exact ⟨ad, h1⟩
      · simp only [AVok] at hv
        obtain ⟨g, _, h1⟩ := hv.2 h
        exact ⟨_, h1⟩
    obtain ⟨ad, he⟩ := hp
    exact ⟨a.eval x, by simp [execOp, ho, he], hv⟩

theorem slice_old (hd : ∀ k, o.dst = some k → k < cx.N) {T : TypeId} {x : Operand} {lo hi : Option Operand} {t : Ty} (ho : o.op = .slice T x lo hi none) (h0 : TyOK P (.list t) T) (h1 : slC σ t x lo hi) : OpOK P cx σ o ⟨.rd (.list t) (slD σ t x lo hi), []⟩ := by
  simp only [slC] at h1
  obtain ⟨c0, c1, c2, c3, c4⟩ := h1
  simp only [slD]
  cases lo with
  | none => cases hi with
    | none => exact op_slice hd 0 _ ho c0 h0 rfl rfl (Nat.zero_le _) (Nat.le_refl _)
    | some y =>
      simp only at c2 c3 c4 ⊢
      exact op_slice hd 0 _ ho c0 h0 rfl ⟨c2.1, (Int.toNat_of_nonneg c2.2).symm⟩ (Nat.zero_le _) (by omega)
  | some z => cases hi with
    | none =>
      simp only at c1 c3 c4 ⊢
      exact op_slice hd _ _ ho c0 h0 ⟨c1.1, (Int.toNat_of_nonneg c1.2).symm⟩ rfl (by omega) (Nat.le_refl _)
    | some y =>
      simp only at c1 c2 c3 c4 ⊢
      exact op_slice hd _ _ ho c0 h0 ⟨c1.1, (Int.toNat_of_nonneg c1.2).symm⟩ ⟨c2.1, (Int.toNat_of_nonneg c2.2).symm⟩ (by omega) (by omega)

theorem slice_ok (hd : ∀ k, o.dst = some k → k < cx.N) {T : TypeId} {x : Operand} {lo hi : Option Operand} {t : Ty} (ho : o.op = .slice T x lo hi none) (h0 : TyOK P (.list t) T) (h1 : slP σ id t x lo hi) : OpOK P cx σ o (slE σ id t x lo hi) := by
  unfold slP at h1
  unfold slE
  cases lo with
  | none => cases hi <;> exact slice_old hd ho h0 h1
  | some y =>
    cases hi with
    | some z => exact slice_old hd ho h0 h1
    | none =>
      simp only at h1 ⊢
      cases hs : σ.un x with
      | own i =>
        rw [hs] at h1
        simp only at h1 ⊢
        cases hb : σ.objs i with
        | row e t' xs =>
          rw [hb] at h1
          simp only at h1 ⊢
          obtain ⟨q1, q2, q3, q4, q5, q6⟩ := h1
          subst q1
          have hr : rowOf σ.objs i t' = xs := by unfold rowOf; rw [hb]; exact castTo_self _ _
          rw [hr] at q6 ⊢
          exact op_slice_tl hd (σ.ti .i64 y).toNat ho h0 q2 hs hb q4 (Int.toNat_of_nonneg q5).symm (by omega) q3
        | _ => rw [hb] at h1; exact slice_old hd ho h0 h1
      | _ => rw [hs] at h1; exact slice_old hd ho h0 h1

theorem isLst_spec {T : TypeId} {t : Ty} (h : isLst P T t) : ∃ t', t = .list t' ∧ TyOK P (.list t') T := by
  cases t <;> first | exact h.elim | exact ⟨_, rfl, h⟩

theorem app_d_ok (hd : ∀ k, o.dst = some k → k < cx.N) {T : TypeId} {t : Ty} {s x : Operand} (ho : o.op = .call { callee := .builtin .append, args := #[s, x], argTypes := #[T, T] }) (hT : TyOK P (.list t) T) (he : ElOK P T (tb.el T)) (hu : σ.objs id = .unborn) (h : daC σ tb T t s x) :
    OpOK P cx σ o (daE σ tb id t s x) := by
  unfold daC at h
  obtain ⟨c1, c2, c3, h⟩ := h
  rw [c3] at he
  unfold daE
  cases hx : σ.un x with
  | own j =>
    rw [hx] at h
    simp only at h ⊢
    cases hj : σ.objs j with
    | deep te t' ys =>
      rw [hj] at h
      simp only at h ⊢
      obtain ⟨e1, e2, h⟩ := h
      subst e1; subst e2
      cases hs : σ.un s with
      | own i =>
        rw [hs] at h
        simp only at h ⊢
        cases hi : σ.objs i with
        | deep te2 t2 xs =>
          rw [hi] at h
          simp only at h ⊢
          obtain ⟨e1, e2, h3, h4⟩ := h
          subst e1; subst e2
          simp only [castTo_self]
          exact op_app_deep hd ho hT he c1 hs hi c2 hx hj h3 hu h4
        | sd te2 t2 xs =>
          rw [hi] at h
          simp only at h ⊢
          obtain ⟨e1, e2, h3, h4⟩ := h
          subst e1; subst e2
          simp only [castTo_self]
          exact op_app_sd hd ho hT he c1 hs hi c2 hx hj h3 hu h4
        | _ => rw [hi] at h; exact h.elim
      | nils =>
        rw [hs] at h
        simp only at h ⊢
        simp only [castTo_self]
        exact op_app_nil_deep hd ho hT he c1 hs c2 hx hj hu h
      | _ => rw [hs] at h; exact h.elim
    | _ => rw [hj] at h; exact h.elim
  | _ => rw [hx] at h; exact h.elim

theorem pure_sound (hd : ∀ k, o.dst = some k → k < cx.N) {op : Op} (ho : o.op = op) (h : pvc P tb id σ o.dst op) : OpOK P cx σ o (peff tb id σ op) := by
  cases op with
  | move x => exact op_move hd ho
  | nilCheck x => simp only [pvc] at h; exact op_nilCheck hd ho h.1 h.2
  | assign x => exact op_assign hd ho
  | pick c x y => exact op_pick hd ho h.1 h.2.1 h.2.2
  | box T x => exact op_box hd ho h.1 h.2.1 h.2.2
  | alloc T => exact op_alloc hd ho h.1 h.2
  | load T x =>
    simp only [pvc] at h
    obtain ⟨h1, h2⟩ := h
    simp only [peff]
    cases hx : σ.un x with
    | ptr t y => rw [hx] at h2; exact op_load_ptr hd ho h1 hx h2
    | bp i off =>
      rw [hx] at h2
      simp only at h2
      cases hb : σ.objs i with
      | box T' cs => rw [hb] at h2; simp only [hb]; exact op_load_box hd ho h1 hx hb h2.1 h2.2
      | _ => rw [hb] at h2; exact h2.elim
    | ep i sz k =>
      rw [hx] at h2
      simp only at h2
      cases hb : σ.objs i with
      | arr e t xs =>
        rw [hb] at h2
        simp only [hb]
        obtain ⟨k1, k2, k3⟩ := h2
        subst k1
        exact op_load_arr hd ho h1 hx hb k2 k3
      | deep te t xs =>
        rw [hb] at h2
        simp only [hb]
        obtain ⟨k1, k2, k3, k4, k5⟩ := h2
        subst k1
        have hi := isLst_spec k4
        obtain ⟨t', e1, e2⟩ := hi
        exact op_load_held hd ho h1 (.inr ⟨hx, rfl⟩) hb k2 (celC_spec k3) e1 e2 k5
      | _ => rw [hb] at h2; exact h2.elim
    | ef i sz k f =>
      rw [hx] at h2
      simp only at h2
      cases hb : σ.objs i with
      | deep te t xs =>
        rw [hb] at h2
        simp only [hb]
        obtain ⟨k1, k2, k3, k4, k5⟩ := h2
        subst k1
        obtain ⟨t', e1, e2⟩ := isLst_spec k4
        exact op_load_held hd ho h1 (.inl hx) hb k2 (celC_spec k3) e1 e2 k5
      | _ => rw [hb] at h2; exact h2.elim
    | _ => rw [hx] at h2; exact h2.elim
  | store T x y =>
    simp only [pvc] at h
    obtain ⟨h0, h1, h2⟩ := h
    simp only [peff]
    cases hx : σ.un x with
    | bp i off =>
      rw [hx] at h2
      simp only at h2
      cases hb : σ.objs i with
      | box T' cs => rw [hb] at h2; simp only [hb]; exact op_store_box ho h0 h1 hx hb h2.1 h2.2.1 h2.2.2.1 h2.2.2.2
      | _ => rw [hb] at h2; exact h2.elim
    | ep i sz k =>
      rw [hx] at h2
      simp only at h2
      cases hb : σ.objs i with
      | arr e t xs =>
        rw [hb] at h2
        simp only [hb]
        obtain ⟨k1, k2, k3, k4⟩ := h2
        subst k1
        exact op_store_arr ho h0 h1 hx hb k2 k3 k4
      | bld te t xs =>
        rw [hb] at h2
        simp only [hb]
        obtain ⟨k1, k2, k3, k4, k5, k6⟩ := h2
        subst k1
        exact op_store_bld ho h0 h1 hx hb k2 k3 k4 k5 k6 fun hm => by have := (dvc_kind t _ k6 i hm).2; rw [hb] at this; cases this
      | _ => rw [hb] at h2; exact h2.elim
    | ef i sz k f =>
      rw [hx] at h2
      simp only at h2
      cases hb : σ.objs i with
      | arr e t xs =>
        rw [hb] at h2
        simp only [hb]
        obtain ⟨k1, k2, k3, k4, k5, k6⟩ := h2
        subst k1
        exact op_store_ef ho h0 h1 hx hb k2 k3 k4 k5 k6
      | deep te t xs =>
        rw [hb] at h2
        simp only [hb]
        obtain ⟨k1, k2, k3, k4, k5, k6⟩ := h2
        subst k1
        exact op_store_efd ho h0 h1 hx hb k2 (celC_spec k3) k4 k5 k6
      | _ => rw [hb] at h2; exact h2.elim
    | _ => rw [hx] at h2; exact h2.elim
  | fieldAddr T x i =>
    simp only [pvc] at h
    obtain ⟨h0, h1, h2, h3⟩ := h
    simp only [peff]
    cases hx : σ.un x with
    | ptr t y => rw [hx] at h3; simp only at h3; subst h3; exact op_fa_ptr hd ho h0 hx h1 h2
    | bp j off => rw [hx] at h3; exact op_fa_box hd ho h0 hx h3 h1 h2
    | ep j sz k => rw [hx] at h3; exact op_fa_ep hd ho h0 hx h3 h1 h2
    | _ => rw [hx] at h3; exact h3.elim
  | field T x i =>
    simp only [pvc] at h
    obtain ⟨h0, h1, h2, h3⟩ := h
    simp only [peff]
    cases hx : σ.un x with
    | rd t y => rw [hx] at h3; simp only at h3; subst h3; exact op_field_rd hd ho h0 hx h1 h2
    | agg cs => rw [hx] at h3; exact op_field_agg hd ho h0 hx h1 h2 h3
    | _ => rw [hx] at h3; exact h3.elim
  | extract x i =>
    simp only [pvc] at h
    obtain ⟨h0, h3⟩ := h
    simp only [peff]
    cases hx : σ.un x with
    | tup cs => rw [hx] at h3; exact op_extract hd ho h0 hx h3
    | _ => rw [hx] at h3; exact h3.elim
  | indexAddr T x ix =>
    simp only [pvc] at h
    obtain ⟨h0, h1⟩ := h
    simp only [peff]
    cases ht : tb.ty T with
    | list t =>
      rw [ht] at h0 h1
      simp only [iaC] at h1
      simp only [iaE]
      cases hx : σ.un x with
      | own i =>
        rw [hx] at h1
        simp only at h1 ⊢
        cases hb : σ.objs i with
        | arr e t' xs =>
          rw [hb] at h1
          obtain ⟨k0, k1, k2, k3, k4⟩ := h1
          subst k0
          exact op_ia_arr hd ho k1 hx hb k2 h0 k3 k4
        | deep te t' xs =>
          rw [hb] at h1
          obtain ⟨k0, k1, k2, k3, k4⟩ := h1
          subst k0
          exact op_ia_deep hd ho k1 hx (.inl hb) k2 h0 k3 k4
        | bld te t' xs =>
          rw [hb] at h1
          obtain ⟨k0, k1, k2, k3, k4⟩ := h1
          subst k0
          exact op_ia_deep hd ho k1 hx (.inr hb) k2 h0 k3 k4
        | _ => rw [hb] at h1; exact op_ia hd ho h1.1 h1.2.1 h0 h1.2.2.1 h1.2.2.2
      | _ => rw [hx] at h1; exact op_ia hd ho h1.1 h1.2.1 h0 h1.2.2.1 h1.2.2.2
    | _ => rw [ht] at h1; exact h1.elim
  | index T x ix =>
    simp only [pvc] at h
    simp only [peff]
    cases hx : σ.un x with
    | agg cs => rw [hx] at h; exact op_index_arr hd ho h.1 hx h.2.1 h.2.2.1 h.2.2.2.1 h.2.2.2.2.1 h.2.2.2.2.2
    | _ => rw [hx] at h; exact op_index_str hd ho h.2.1 h.2.2.1 h.1 h.2.2.2.1 h.2.2.2.2
  | slice T x lo hi mx =>
    cases mx with
    | some _ => exact h.elim
    | none =>
      simp only [pvc] at h
      obtain ⟨h0, h1⟩ := h
      simp only [peff]
      cases ht : tb.ty T with
      | list t =>
        rw [ht] at h0 h1
        exact slice_ok hd ho h0 h1
      | _ => rw [ht] at h1; exact h1.elim
  | build T ps =>
    simp only [pvc] at h
    obtain ⟨h0, h1⟩ := h
    simp only [peff]
    cases ht : tb.ty T with
    | cons a b =>
      rw [ht] at h0 h1
      have ho' : o.op = .build T ps.toList.toArray := by rw [ho]
      rcases h0 with h0 | ⟨h2, h0⟩
      · exact op_build hd ho' h0 h1.1 h1.2
      · have := op_build_arr hd ho' h0 h1.2
        rw [h2] at this
        exact this
    | _ => rw [ht] at h1; exact h1.elim
  | buildSlice T n ps =>
    simp only [pvc] at h
    obtain ⟨h0, h1, h2, h3, h4⟩ := h
    simp only [peff]
    cases ht : tb.ty T with
    | list t =>
      rw [ht] at h0 h4
      have ho' : o.op = .buildSlice T n ps.toList.toArray := by rw [ho]
      cases hdp : dpL σ ps.toList with
      | false =>
        rw [hdp] at h4
        exact op_lit hd ho' h0 h1 h4.1 h3 h4.2 h2
      | true =>
        rw [hdp] at h4
        simp only [cond_true] at h4 ⊢
        cases hps : ps.toList with
        | nil => rw [hps] at h4; exact h4.elim
        | cons p r =>
          cases r with
          | cons _ _ => rw [hps] at h4; exact h4.elim
          | nil =>
            rw [hps] at h3 h4 ho'
            simp only [dlC] at h4
            obtain ⟨k1, k2, k3, k4, k5, k6⟩ := h4
            obtain ⟨k0, x⟩ := p
            simp only [dlE]
            rw [k5] at h1
            have h3 : 1 = n := h3
            subst h3
            exact op_lit_deep hd ho' k1 h0 h1 k6 h2 k2 k3 k4 fun k hk => (dvc_kind t _ k4 k hk).1
    | _ => rw [ht] at h4; exact h4.elim
  | makeSlice T l c =>
    simp only [pvc] at h
    obtain ⟨h0, h1, h2, h3, h4, h5, h6, h7, h8⟩ := h
    simp only [peff]
    cases ht : tb.ty T with
    | list t =>
      rw [ht] at h0 h8
      simp only at h8 ⊢
      cases hdp : tb.dp with
      | false => exact op_make hd ho h0 h1 h3 h4 (Int.toNat_of_nonneg h6).symm (h5 ▸ (Int.toNat_of_nonneg h6).symm) (by omega) h2
      | true =>
        rw [hdp] at h8
        simp only [cond_true] at h8 ⊢
        rw [h8] at h1
        exact op_make_bld hd ho h0 h1 h3 h4 (Int.toNat_of_nonneg h6).symm (h5 ▸ (Int.toNat_of_nonneg h6).symm) (by omega) h2
    | _ => rw [ht] at h8; exact h8.elim
  | binOp op T x y T' =>
    simp only [pvc] at h
    simp only [peff]
    cases ht : tb.ty T with
    | int k =>
      rw [ht] at h
      by_cases hs : op = .shl
      · subst hs
        simp only at h ⊢
        cases ht' : tb.ty T' with
        | int k' => rw [ht'] at h; exact op_shl hd ho h.1 h.2.1 h.2.2
        | _ => rw [ht'] at h; exact h.elim
      · by_cases hs2 : op = .shr
        · subst hs2
          simp only at h ⊢
          cases ht' : tb.ty T' with
          | int k' => rw [ht'] at h; exact op_shr hd ho h.1 h.2.1 h.2.2
          | _ => rw [ht'] at h; exact h.elim
        · cases op <;> first | exact absurd rfl hs | exact absurd rfl hs2 | exact op_bin_int hd ho h.1 h.2.1 h.2.2 hs hs2
    | bool =>
      rw [ht] at h
      cases op <;> simp only at h <;> first | exact h.elim | exact op_bin_bool hd ho h.1 h.2.1 h.2.2 (.inl rfl) | exact op_bin_bool hd ho h.1 h.2.1 h.2.2 (.inr rfl)
    | str =>
      rw [ht] at h
      cases op <;> simp only at h <;> first | exact h.elim | exact op_add_str hd ho h.1 h.2.1 h.2.2 | exact op_bin_str hd ho h.1 h.2 (.inl rfl) | exact op_bin_str hd ho h.1 h.2 (.inr rfl)
    | cons a b =>
      rw [ht] at h
      cases op <;> simp only at h <;> first | exact h.elim | exact op_bin_st hd ho h.1 h.2.1 h.2.2.1 h.2.2.2.1 h.2.2.2.2 _ (.inl ⟨rfl, rfl⟩) | exact op_bin_st hd ho h.1 h.2.1 h.2.2.1 h.2.2.2.1 h.2.2.2.2 _ (.inr ⟨rfl, rfl⟩)
    | _ => rw [ht] at h; cases op <;> exact h.elim
  | unOp op T x =>
    simp only [pvc] at h
    obtain ⟨h1, h2⟩ := h
    subst h1
    exact op_not hd ho h2
  | convert S T x =>
    simp only [pvc] at h
    simp only [peff]
    cases hs : tb.ty S with
    | int k =>
      cases ht : tb.ty T with
      | int k' => rw [hs, ht] at h; exact op_conv hd ho h.1 h.2.1 h.2.2
      | _ => rw [hs, ht] at h; exact h.elim
    | str =>
      cases ht : tb.ty T with
      | list t =>
        rw [hs, ht] at h
        cases t with
        | int k =>
          cases k with
          | u8 => exact op_s2b hd ho h.1 h.2.1 h.2.2
          | _ => exact h.elim
        | _ => exact h.elim
      | _ => rw [hs, ht] at h; exact h.elim
    | list t =>
      rw [hs] at h
      cases t with
      | int k =>
        cases k with
        | u8 =>
          cases ht : tb.ty T with
          | str => rw [ht] at h; exact op_b2s hd ho h.1 h.2.1 h.2.2
          | _ => rw [ht] at h; exact h.elim
        | _ => cases ht : tb.ty T <;> (rw [ht] at h; exact h.elim)
      | _ => cases ht : tb.ty T <;> (rw [ht] at h; exact h.elim)
    | _ => rw [hs] at h; simp only at h
  | call c =>
    obtain ⟨callee, as, ts⟩ := c
    cases callee with
    | builtin b =>
      cases b with
      | len =>
        simp only [pvc] at h
        simp only [peff]
        cases ha : as.toList with
        | nil => rw [ha] at h; exact h.elim
        | cons x r =>
          cases r with
          | cons _ _ => rw [ha] at h; exact h.elim
          | nil =>
            cases hts : ts.toList with
            | nil => rw [ha, hts] at h; exact h.elim
            | cons T r2 =>
              cases r2 with
              | cons _ _ => rw [ha, hts] at h; exact h.elim
              | nil =>
                rw [ha, hts] at h
                simp only at h ⊢
                rw [arr1 ha, arr1 hts] at ho
                cases ht : tb.ty T with
                | list t =>
                  rw [ht] at h
                  obtain ⟨h1, h2⟩ := h
                  simp only [lnC] at h2
                  simp only [lnD]
                  cases hx : σ.un x with
                  | own i =>
                    rw [hx] at h2
                    simp only at h2 ⊢
                    cases hb : σ.objs i with
                    | arr e t' xs =>
                      rw [hb] at h2
                      obtain ⟨k1, k2⟩ := h2
                      subst k1
                      exact op_len_arr hd ho h1 k2 hx hb
                    | deep te t' xs =>
                      rw [hb] at h2
                      obtain ⟨k1, k2⟩ := h2
                      subst k1
                      exact op_len_deep hd ho h1 k2 hx (.inl hb)
                    | bld te t' xs =>
                      rw [hb] at h2
                      obtain ⟨k1, k2⟩ := h2
                      subst k1
                      exact op_len_deep hd ho h1 k2 hx (.inr hb)
                    | _ => rw [hb] at h2; exact op_len hd ho h1 h2
                  | _ => rw [hx] at h2; exact op_len hd ho h1 h2
                | str => rw [ht] at h; exact op_len_str hd ho h.1 h.2
                | _ => rw [ht] at h; exact h.2.elim
      | min =>
        simp only [pvc] at h
        simp only [peff]
        cases ha : as.toList with
        | nil => rw [ha] at h; exact h.elim
        | cons x r =>
          cases r with
          | nil => rw [ha] at h; exact h.elim
          | cons y r2 =>
            cases r2 with
            | cons _ _ => rw [ha] at h; exact h.elim
            | nil => rw [ha] at h; rw [arr1 ha] at ho; exact op_min hd ho h.1 h.2
      | max =>
        simp only [pvc] at h
        simp only [peff]
        cases ha : as.toList with
        | nil => rw [ha] at h; exact h.elim
        | cons x r =>
          cases r with
          | nil => rw [ha] at h; exact h.elim
          | cons y r2 =>
            cases r2 with
            | cons _ _ => rw [ha] at h; exact h.elim
            | nil => rw [ha] at h; rw [arr1 ha] at ho; exact op_max hd ho h.1 h.2
      | append =>
        simp only [pvc] at h
        simp only [peff]
        cases ha : as.toList with
        | nil => rw [ha] at h; exact h.elim
        | cons s r =>
          cases r with
          | nil => rw [ha] at h; exact h.elim
          | cons x r2 =>
            cases r2 with
            | cons _ _ => rw [ha] at h; exact h.elim
            | nil =>
              cases hts : ts.toList with
              | nil => rw [ha, hts] at h; exact h.elim
              | cons T q =>
                cases q with
                | nil => rw [ha, hts] at h; exact h.elim
                | cons T2 q2 =>
                  cases q2 with
                  | cons _ _ => rw [ha, hts] at h; exact h.elim
                  | nil =>
                    rw [ha, hts] at h
                    simp only at h ⊢
                    rw [arr1 ha, arr1 hts] at ho
                    obtain ⟨e1, h1, h2, h3, h4⟩ := h
                    subst e1
                    cases ht : tb.ty T2 with
                    | list t =>
                      rw [ht] at h1 h4
                      simp only at h4 ⊢
                      cases hdp : dpX σ.objs (σ.un x) with
                      | true =>
                        rw [hdp] at h4
                        simp only [cond_true] at h4 ⊢
                        exact app_d_ok hd ho h1 h2 h3 h4
                      | false =>
                      rw [hdp] at h4
                      simp only [cond_false] at h4 ⊢
                      obtain ⟨k1, k2, k3⟩ := h4
                      cases hs : σ.un s with
                      | own i =>
                        rw [hs] at k3
                        simp only at k3 ⊢
                        cases hb : σ.objs i with
                        | row e t' xs =>
                          rw [hb] at k3
                          obtain ⟨q1, q2, q3⟩ := k3
                          subst q2
                          subst q1
                          have hr : rowOf σ.objs i t' = xs := by unfold rowOf; rw [hb]; exact castTo_self _ _
                          simp only
                          rw [hr]
                          exact op_app hd ho h1 h2 k1 hs hb k2 h3 q3
                        | arr e t' xs =>
                          rw [hb] at k3
                          obtain ⟨q1, q2, q3⟩ := k3
                          subst q2
                          subst q1
                          simp only [castTo_self]
                          exact op_app_arr hd ho h1 h2 k1 hs hb k2 h3 q3
                        | tl e t' xs =>
                          rw [hb] at k3
                          obtain ⟨q1, q2, q3⟩ := k3
                          subst q2
                          subst q1
                          have hr : rowOf σ.objs i t' = xs := by unfold rowOf; rw [hb]; exact castTo_self _ _
                          simp only
                          rw [hr]
                          exact op_app_tl hd ho h1 h2 k1 hs hb k2 h3 q3
                        | _ => rw [hb] at k3; exact k3.elim
                      | nils =>
                        rw [hs] at k3
                        exact op_app_nil hd ho h1 h2 k1 hs k2 h3 k3
                      | _ => rw [hs] at k3; exact k3.elim
                    | _ => rw [ht] at h4; exact h4.elim
      | _ => exact h.elim
    | _ => exact h.elim
  | makeFunc fn first caps =>
    cases fn with
    | func f =>
      simp only [pvc] at h
      simp only [peff]
      cases h1 : first.toList with
      | cons _ _ => rw [h1] at h; exact h.elim
      | nil =>
        cases h2 : caps.toList with
        | nil => rw [h1, h2] at h; exact h.elim
        | cons x r =>
          cases r with
          | cons _ _ => rw [h1, h2] at h; exact h.elim
          | nil =>
            rw [h1, h2] at h
            rw [arr1 h1, arr1 h2] at ho
            exact op_makeFunc hd ho h
    | _ => exact h.elim
  | _ => exact h.elim

end
end Go.AL
/- On what an operation's reckoning hangs: its operands, and the objects that they name. A general part, over any program. -/
set_option linter.unusedSimpArgs false
set_option linter.unusedVariables false
namespace Go.AL
open Go.RowKit

mutual
def AV.ids : AV → List Nat
  | .own id => [id]
  | .bp id _ => [id]
  | .ep id _ _ => [id]
  | .ef id _ _ _ => [id]
  | .agg cs => AV.idsL cs
  | .tup cs => AV.idsL cs
  | .gd _ a => a.ids
  | .fn _ cs => AV.idsL cs
  | _ => []
def AV.idsL : List AV → List Nat
  | [] => []
  | a :: r => a.ids ++ AV.idsL r
end

theorem ids_un : ∀ a : AV, a.un.ids = a.ids
  | .gd _ a => by simp only [AV.un, AV.ids]; exact ids_un a
  | .any | .rd _ _ | .ptr _ _ | .nils | .own _ | .bp _ _ | .ep _ _ _ | .ef _ _ _ _ | .agg _ | .tup _ | .fn _ _ => rfl

structure Agr (σ σ' : St) (L : List Operand) : Prop where
  ev : ∀ x, x ∈ L → σ.ev x = σ'.ev x
  ob : ∀ x, x ∈ L → ∀ j, j ∈ (σ.ev x).ids → σ.objs j = σ'.objs j

theorem tvd_congr {ob ob' : Nat → AObj} : ∀ (t : Ty) (av : AV), (∀ j, j ∈ av.ids → ob j = ob' j) → tvd ob t av = tvd ob' t av ∧ tvc ob t av = tvc ob' t av := by
  intro t
  induction t with
  | list t _ =>
    intro av h
    cases av <;> try exact ⟨rfl, rfl⟩
    rename_i id
    simp only [tvd, tvc]
    have := h id (by simp [AV.ids])
    simp only [rowOf, this]
    exact ⟨trivial, trivial⟩
  | cons h t ih1 ih2 =>
    intro av hj
    cases av <;> try exact ⟨rfl, rfl⟩
    rename_i cs
    cases cs with
    | nil => exact ⟨rfl, rfl⟩
    | cons c cs =>
      simp only [tvd, tvc]
      simp only [AV.ids, AV.idsL, List.mem_append] at hj
      have a1 := ih1 c fun j h => hj j (.inl h)
      have a2 := ih2 (.agg cs) fun j h => hj j (.inr (by simpa only [AV.ids] using h))
      exact ⟨by rw [a1.1, a2.1], by rw [a1.2, a2.2]⟩
  | nil =>
    intro av hj
    cases av <;> try exact ⟨rfl, rfl⟩
    rename_i cs
    cases cs <;> exact ⟨rfl, rfl⟩
  | _ => intro av hj; cases av <;> exact ⟨rfl, rfl⟩

section
variable {σ σ' : St} {L : List Operand} (h : Agr σ σ' L) {x : Operand} (hx : x ∈ L)
include h hx

theorem Agr.un : σ.un x = σ'.un x := by unfold St.un; rw [h.ev x hx]
theorem Agr.uc : σ.uc x = σ'.uc x := by unfold St.uc; rw [h.ev x hx]
theorem Agr.obu : ∀ j, j ∈ (σ.un x).ids → σ.objs j = σ'.objs j := fun j hj => h.ob x hx j (by unfold St.un at hj; rwa [ids_un] at hj)
theorem Agr.tv (t : Ty) : σ.tv t x = σ'.tv t x := by
  unfold St.tv
  rw [← h.un hx]
  exact (tvd_congr t _ (h.obu hx)).1
theorem Agr.tc (t : Ty) : σ.tc t x = σ'.tc t x := by
  unfold St.tc
  rw [← h.un hx, h.uc hx, (tvd_congr t _ (h.obu hx)).2]
theorem Agr.ti (k : IntKind) : σ.ti k x = σ'.ti k x := h.tv hx _
theorem Agr.tb : σ.tb x = σ'.tb x := h.tv hx _
theorem Agr.ts : σ.ts x = σ'.ts x := h.tv hx _

omit h hx in
theorem oneC_congr {ob ob' : Nat → AObj} (a : AV) (hj : ∀ j, j ∈ a.ids → ob j = ob' j) : oneC ob a = oneC ob' a := by
  cases a <;> simp only [oneC]
  rename_i id
  rw [hj id (by simp [AV.ids])]

omit h hx in
theorem onesC_congr {ob ob' : Nat → AObj} : ∀ (cs : List AV), (∀ j, j ∈ AV.idsL cs → ob j = ob' j) → onesC ob cs = onesC ob' cs
  | [], _ => rfl
  | c :: cs, hj => by
    simp only [AV.idsL, List.mem_append] at hj
    simp only [onesC]
    rw [oneC_congr c fun j h => hj j (.inl h), onesC_congr cs fun j h => hj j (.inr h)]

omit h hx in
theorem cellsC_congr {ob ob' : Nat → AObj} (t : Ty) (a : AV) (hj : ∀ j, j ∈ a.ids → ob j = ob' j) : cellsC ob t a = cellsC ob' t a := by
  cases a <;> simp only [cellsC]
  · rename_i id
    rw [hj id (by simp [AV.ids])]
  · rename_i cs
    rw [onesC_congr cs fun j h => hj j (by simpa only [AV.ids] using h)]

theorem Agr.cellsC (t : Ty) : AL.cellsC σ.objs t (σ.un x) = AL.cellsC σ'.objs t (σ'.un x) := by
  rw [← h.un hx]; exact cellsC_congr t _ (h.obu hx)
theorem Agr.oneC : AL.oneC σ.objs (σ.un x) = AL.oneC σ'.objs (σ'.un x) := by
  rw [← h.un hx]; exact oneC_congr _ (h.obu hx)
end

section
variable {σ σ' : St} {L : List Operand} (h : Agr σ σ' L)
include h

theorem Agr.setAll : ∀ (ps : List (Nat × Operand)) (cs : List AV), (∀ p, p ∈ ps → p.2 ∈ L) → AL.setAll σ ps cs = AL.setAll σ' ps cs
  | [], _, _ => rfl
  | p :: r, cs, hp => by
    simp only [AL.setAll]
    rw [h.un (hp p (by simp)), Agr.setAll r _ fun q hq => hp q (by simp [hq])]
theorem Agr.setAllC (n : Nat) : ∀ (ps : List (Nat × Operand)), (∀ p, p ∈ ps → p.2 ∈ L) → AL.setAllC σ n ps = AL.setAllC σ' n ps
  | [], _ => rfl
  | p :: r, hp => by
    simp only [AL.setAllC]
    rw [h.uc (hp p (by simp)), h.oneC (hp p (by simp)), Agr.setAllC n r fun q hq => hp q (by simp [hq])]
theorem Agr.litD (t : Ty) : ∀ (ps : List (Nat × Operand)), (∀ p, p ∈ ps → p.2 ∈ L) → AL.litD σ t ps = AL.litD σ' t ps
  | [], _ => rfl
  | p :: r, hp => by
    simp only [AL.litD]
    rw [h.tv (hp p (by simp)), Agr.litD t r fun q hq => hp q (by simp [hq])]
theorem Agr.litC (t : Ty) : ∀ (k : Nat) (ps : List (Nat × Operand)), (∀ p, p ∈ ps → p.2 ∈ L) → AL.litC σ t k ps = AL.litC σ' t k ps
  | _, [], _ => rfl
  | k, p :: r, hp => by
    simp only [AL.litC]
    rw [h.tc (hp p (by simp)), Agr.litC t (k + 1) r fun q hq => hp q (by simp [hq])]
theorem Agr.argD (tb : Tb) : ∀ (l : List (Operand × TypeId)), (∀ p, p ∈ l → p.1 ∈ L) → AL.argD σ tb l = AL.argD σ' tb l
  | [], _ => rfl
  | p :: r, hp => by
    simp only [AL.argD]
    rw [h.tv (hp p (by simp)), Agr.argD tb r fun q hq => hp q (by simp [hq])]
theorem Agr.argC (tb : Tb) : ∀ (l : List (Operand × TypeId)), (∀ p, p ∈ l → p.1 ∈ L) → AL.argC σ tb l = AL.argC σ' tb l
  | [], _ => rfl
  | p :: r, hp => by
    simp only [AL.argC]
    rw [h.tc (hp p (by simp)), Agr.argC tb r fun q hq => hp q (by simp [hq])]
end

theorem dv_congr {ob ob' : Nat → AObj} (te : Ty → TypeId) : ∀ (t : Ty) (av : AV), (∀ j, j ∈ av.ids → ob j = ob' j) → dvd ob t av = dvd ob' t av ∧ dvc ob te t av = dvc ob' te t av := by
  intro t
  induction t with
  | list t _ =>
    intro av h
    cases av <;> try exact ⟨rfl, rfl⟩
    rename_i id
    have := h id (by simp [AV.ids])
    simp only [dvd, dvc, this]
    exact ⟨trivial, trivial⟩
  | cons h t ih1 ih2 =>
    intro av hj
    cases av <;> try exact ⟨rfl, rfl⟩
    rename_i cs
    cases cs with
    | nil => exact ⟨rfl, rfl⟩
    | cons c cs =>
      simp only [dvd, dvc]
      simp only [AV.ids, AV.idsL, List.mem_append] at hj
      have a1 := ih1 c fun j h => hj j (.inl h)
      have a2 := ih2 (.agg cs) fun j h => hj j (.inr (by simpa only [AV.ids] using h))
      exact ⟨by rw [a1.1, a2.1], by rw [a1.2, a2.2]⟩
  | nil =>
    intro av hj
    cases av <;> try exact ⟨rfl, rfl⟩
    rename_i cs
    cases cs <;> exact ⟨rfl, rfl⟩
  | _ => intro av hj; cases av <;> exact ⟨rfl, rfl⟩

theorem plL_congr0 {ob ob' : Nat → AObj} : ∀ (cs : List AV), (∀ j, j ∈ AV.idsL cs → ob j = ob' j) → plL ob cs = plL ob' cs
  | [], _ => rfl
  | c :: cs, hj => by
    simp only [AV.idsL, List.mem_append] at hj
    simp only [plL]
    rw [plL_congr0 cs fun j k => hj j (.inr k)]
    congr 1
    cases c <;> simp only [plA]
    rw [hj _ (.inl (by simp [AV.ids]))]
theorem plV_congr {ob ob' : Nat → AObj} (a : AV) (hj : ∀ j, j ∈ a.ids → ob j = ob' j) : plV ob a = plV ob' a := by
  cases a with
  | agg cs => exact plL_congr0 cs fun j h => hj j (by simpa only [AV.ids] using h)
  | own i => simp only [plV, plA]; rw [hj i (by simp [AV.ids])]
  | _ => rfl
theorem dpX_congr {ob ob' : Nat → AObj} (a : AV) (hj : ∀ j, j ∈ a.ids → ob j = ob' j) : dpX ob a = dpX ob' a := by
  cases a with
  | own i => simp only [dpX]; rw [hj i (by simp [AV.ids])]
  | _ => rfl

section
variable {σ σ' : St} {L : List Operand} (h : Agr σ σ' L)
include h
theorem Agr.dl (tb : Tb) (id : Nat) (T : TypeId) (t : Ty) (ps : List (Nat × Operand)) (hp : ∀ p, p ∈ ps → p.2 ∈ L) : dpL σ ps = dpL σ' ps ∧ dlE σ tb id t ps = dlE σ' tb id t ps ∧ dlC σ tb T t ps = dlC σ' tb T t ps := by
  cases ps with
  | nil => exact ⟨rfl, rfl, rfl⟩
  | cons p r =>
    cases r with
    | cons _ _ => exact ⟨rfl, rfl, rfl⟩
    | nil =>
      have hx := hp p (by simp)
      have hob := h.obu hx
      have a1 := dv_congr tb.te t _ hob
      simp only [dpL, dlE, dlC, ← h.un hx, ← h.uc hx, a1.1, a1.2, plV_congr _ hob]
      exact ⟨trivial, trivial, trivial⟩
theorem Agr.da (tb : Tb) (id : Nat) (T : TypeId) (t : Ty) {s x : Operand} (hs : s ∈ L) (hx : x ∈ L) : dpX σ.objs (σ.un x) = dpX σ'.objs (σ'.un x) ∧ daE σ tb id t s x = daE σ' tb id t s x ∧ daC σ tb T t s x = daC σ' tb T t s x := by
  have ox := h.obu hx
  have os := h.obu hs
  refine ⟨by rw [← h.un hx]; exact dpX_congr _ ox, ?_, ?_⟩
  · simp only [daE, ← h.un hx, ← h.un hs]
    cases hu : σ.un x <;> try rfl
    rw [hu] at ox
    simp only [AV.ids, List.mem_singleton, forall_eq] at ox
    simp only [ox]
    cases hv : σ.un s <;> try rfl
    rw [hv] at os
    simp only [AV.ids, List.mem_singleton, forall_eq] at os
    simp only [os]
  · simp only [daC, ← h.un hx, ← h.un hs, h.uc hx, h.uc hs]
    cases hu : σ.un x <;> try rfl
    rw [hu] at ox
    simp only [AV.ids, List.mem_singleton, forall_eq] at ox
    simp only [ox]
    cases hv : σ.un s <;> try rfl
    rw [hv] at os
    simp only [AV.ids, List.mem_singleton, forall_eq] at os
    simp only [os]
end

theorem eff_congr {σ σ' : St} {tb : Tb} {P : Program} {id : Nat} {d : Option Nat} {op : Op} (h : Agr σ σ' op.operands.toList) (hid : σ.objs id = σ'.objs id) :
    peff tb id σ op = peff tb id σ' op ∧ pvc P tb id σ d op = pvc P tb id σ' d op := by
  cases op with
  | move x => simp only [peff, pvc]; rw [h.ev x (by simp [Op.operands])]; all_goals exact ⟨by first | rfl | trivial, by first | rfl | trivial⟩
  | assign x => simp only [peff, pvc]; rw [h.ev x (by simp [Op.operands])]; all_goals exact ⟨by first | rfl | trivial, by first | rfl | trivial⟩
  | pick c x y =>
    have hc : c ∈ (Op.pick c x y).operands.toList := by simp [Op.operands]
    have hx : x ∈ (Op.pick c x y).operands.toList := by simp [Op.operands]
    have hy : y ∈ (Op.pick c x y).operands.toList := by simp [Op.operands]
    simp only [peff, pvc]
    rw [h.tb hc, h.tb hx, h.tb hy, h.tc hc, h.tc hx, h.tc hy]
    all_goals exact ⟨by first | rfl | trivial, by first | rfl | trivial⟩
  | box T x =>
    have hx : x ∈ (Op.box T x).operands.toList := by simp [Op.operands]
    simp only [peff, pvc]
    rw [h.uc hx, h.cellsC hx, h.un hx, hid]
    all_goals exact ⟨by first | rfl | trivial, by first | rfl | trivial⟩
  | alloc T => simp only [peff, pvc]; rw [hid]; all_goals exact ⟨by first | rfl | trivial, by first | rfl | trivial⟩
  | load T x =>
    have hx : x ∈ (Op.load T x).operands.toList := by simp [Op.operands]
    have hob := h.obu hx
    simp only [peff, pvc]
    rw [h.uc hx, ← h.un hx, hid]
    cases hu : σ.un x <;> try exact ⟨rfl, rfl⟩
    all_goals rw [hu] at hob
    all_goals simp only [AV.ids, List.mem_singleton, forall_eq] at hob
    all_goals simp only [hob]
    all_goals exact ⟨by first | rfl | trivial, by first | rfl | trivial⟩
  | store T x y =>
    have hx : x ∈ (Op.store T x y).operands.toList := by simp [Op.operands]
    have hy : y ∈ (Op.store T x y).operands.toList := by simp [Op.operands]
    have hob := h.obu hx
    simp only [peff, pvc]
    have hdv := fun te t => dv_congr te t _ (h.obu hy)
    rw [h.un hy] at hdv
    have hdv1 := fun t => (hdv (fun _ => 0) t).1
    have hdv2 := fun te t => (hdv te t).2
    rw [h.uc hx, ← h.un hx, h.uc hy, h.cellsC hy, h.un hy]
    cases hu : σ.un x <;> try exact ⟨rfl, rfl⟩
    all_goals rw [hu] at hob
    all_goals simp only [AV.ids, List.mem_singleton, forall_eq] at hob
    all_goals simp only [hob, h.tv hy, h.tc hy, hdv1, hdv2]
    all_goals exact ⟨by first | rfl | trivial, by first | rfl | trivial⟩
  | makeFunc fn first caps =>
    cases fn with
    | func f =>
      simp only [peff, pvc]
      cases h1 : first.toList with
      | cons _ _ => exact ⟨rfl, rfl⟩
      | nil =>
        cases h2 : caps.toList with
        | nil => exact ⟨rfl, rfl⟩
        | cons x r =>
          cases r with
          | cons _ _ => exact ⟨rfl, rfl⟩
          | nil =>
            have hx : x ∈ (Op.makeFunc (.func f) first caps).operands.toList := by
              simp only [Op.operands, Array.toList_append, h1, h2]
              simp
            simp only
            rw [h.uc hx, h.un hx]
            exact ⟨rfl, rfl⟩
    | _ => exact ⟨rfl, rfl⟩
  | nilCheck x =>
    have hx : x ∈ (Op.nilCheck x).operands.toList := by simp [Op.operands]
    have hob := h.obu hx
    simp only [peff, pvc]
    rw [h.uc hx, ← h.un hx]
    cases hu : σ.un x <;> try exact ⟨rfl, rfl⟩
    all_goals rw [hu] at hob
    all_goals simp only [AV.ids, List.mem_singleton, forall_eq] at hob
    all_goals simp only [hob]
    all_goals exact ⟨by first | rfl | trivial, by first | rfl | trivial⟩
  | fieldAddr T x i =>
    have hx : x ∈ (Op.fieldAddr T x i).operands.toList := by simp [Op.operands]
    have hob := h.obu hx
    simp only [peff, pvc]
    rw [h.uc hx, ← h.un hx]
    cases hu : σ.un x <;> try exact ⟨rfl, rfl⟩
    all_goals rw [hu] at hob
    all_goals simp only [AV.ids, List.mem_singleton, forall_eq] at hob
    all_goals simp only [hob]
    all_goals exact ⟨by first | rfl | trivial, by first | rfl | trivial⟩
  | field T x i =>
    have hx : x ∈ (Op.field T x i).operands.toList := by simp [Op.operands]
    simp only [peff, pvc]
    rw [h.uc hx, ← h.un hx]
    all_goals exact ⟨by first | rfl | trivial, by first | rfl | trivial⟩
  | extract x i =>
    have hx : x ∈ (Op.extract x i).operands.toList := by simp [Op.operands]
    simp only [peff, pvc]
    rw [h.uc hx, ← h.un hx]
    all_goals exact ⟨by first | rfl | trivial, by first | rfl | trivial⟩
  | indexAddr T x ix =>
    have hx : x ∈ (Op.indexAddr T x ix).operands.toList := by simp [Op.operands]
    have hi : ix ∈ (Op.indexAddr T x ix).operands.toList := by simp [Op.operands]
    simp only [peff, pvc]
    cases tb.ty T <;> try exact ⟨rfl, rfl⟩
    simp only [iaE, iaC]
    have hob := h.obu hx
    rw [h.tv hx, h.ti hi, h.tc hx, h.tc hi, h.uc hx, ← h.un hx]
    cases hu : σ.un x <;> try exact ⟨rfl, rfl⟩
    rw [hu] at hob
    simp only [AV.ids, List.mem_singleton, forall_eq] at hob
    simp only [hob]
    all_goals exact ⟨by first | rfl | trivial, by first | rfl | trivial⟩
  | makeSlice T l c =>
    have hl : l ∈ (Op.makeSlice T l c).operands.toList := by simp [Op.operands]
    have hc : c ∈ (Op.makeSlice T l c).operands.toList := by simp [Op.operands]
    simp only [peff, pvc, h.ti hl, h.ti hc, h.tc hl, h.tc hc, hid]
    all_goals exact ⟨by first | rfl | trivial, by first | rfl | trivial⟩
  | index T x ix =>
    have hx : x ∈ (Op.index T x ix).operands.toList := by simp [Op.operands]
    have hi : ix ∈ (Op.index T x ix).operands.toList := by simp [Op.operands]
    simp only [peff, pvc]
    rw [h.ts hx, h.ti hi, h.tc hx, h.tc hi, h.uc hx, h.un hx]
    all_goals exact ⟨by first | rfl | trivial, by first | rfl | trivial⟩
  | slice T x lo hi mx =>
    cases mx with
    | some _ => exact ⟨rfl, rfl⟩
    | none =>
      have hx : x ∈ (Op.slice T x lo hi none).operands.toList := by simp [Op.operands]
      simp only [peff, pvc]
      cases tb.ty T <;> try exact ⟨rfl, rfl⟩
      have hlo : ∀ y, lo = some y → σ.ti .i64 y = σ'.ti .i64 y ∧ σ.tc (.int .i64) y = σ'.tc (.int .i64) y := by
        intro y e
        have hy : y ∈ (Op.slice T x lo hi none).operands.toList := by subst e; simp [Op.operands]
        exact ⟨h.ti hy _, h.tc hy _⟩
      have hhi : ∀ y, hi = some y → σ.ti .i64 y = σ'.ti .i64 y ∧ σ.tc (.int .i64) y = σ'.tc (.int .i64) y := by
        intro y e
        have hy : y ∈ (Op.slice T x lo hi none).operands.toList := by subst e; simp [Op.operands]
        exact ⟨h.ti hy _, h.tc hy _⟩
      have e1 : ∀ t, slD σ t x lo hi = slD σ' t x lo hi := by
        intro t
        simp only [slD]
        rw [h.tv hx]
        cases lo with
        | none => cases hi with
          | none => rfl
          | some y => simp only [(hhi y rfl).1]
        | some z => cases hi with
          | none => simp only [(hlo z rfl).1]
          | some y => simp only [(hhi y rfl).1, (hlo z rfl).1]
      have e2 : ∀ t, slC σ t x lo hi = slC σ' t x lo hi := by
        intro t
        simp only [slC]
        rw [h.tv hx, h.tc hx]
        cases lo with
        | none => cases hi with
          | none => rfl
          | some y => simp only [(hhi y rfl).1, (hhi y rfl).2]
        | some z => cases hi with
          | none => simp only [(hlo z rfl).1, (hlo z rfl).2]
          | some y => simp only [(hhi y rfl).1, (hhi y rfl).2, (hlo z rfl).1, (hlo z rfl).2]
      have hob := h.obu hx
      have hux := h.un hx
      simp only [slE, slP, e1, e2, ← hux, h.uc hx, hid]
      cases lo with
      | none => exact ⟨rfl, rfl⟩
      | some z => cases hi with
        | some y => exact ⟨rfl, rfl⟩
        | none =>
          simp only
          cases hu : σ.un x <;> try exact ⟨rfl, rfl⟩
          rw [hu] at hob
          simp only [AV.ids, List.mem_singleton, forall_eq] at hob
          simp only [rowOf, hob, (hlo z rfl).1, (hlo z rfl).2]
          rename_i j
          cases σ'.objs j <;> exact ⟨by first | rfl | trivial, by first | rfl | trivial⟩
  | build T ps =>
    have hp : ∀ p, p ∈ ps.toList → p.2 ∈ (Op.build T ps).operands.toList := fun p hp => by simp only [Op.operands, List.mem_map]; exact ⟨p, hp, rfl⟩
    simp only [peff, pvc]
    rw [h.setAll _ _ hp]
    cases tb.ty T <;> try exact ⟨rfl, rfl⟩
    simp only
    rw [h.setAllC _ _ hp]
    all_goals exact ⟨by first | rfl | trivial, by first | rfl | trivial⟩
  | buildSlice T n ps =>
    have hp : ∀ p, p ∈ ps.toList → p.2 ∈ (Op.buildSlice T n ps).operands.toList := fun p hp => by simp only [Op.operands, List.mem_map]; exact ⟨p, hp, rfl⟩
    simp only [peff, pvc]
    rw [hid]
    cases tb.ty T <;> try exact ⟨rfl, rfl⟩
    simp only
    have hdl := fun t => h.dl tb id T t _ hp
    have d1 := fun t => (hdl t).1
    have d2 := fun t => (hdl t).2.1
    have d3 := fun t => (hdl t).2.2
    rw [h.litD _ _ hp, h.litC _ _ _ hp, d1 .nil, d2, d3]
    all_goals exact ⟨by first | rfl | trivial, by first | rfl | trivial⟩
  | binOp op T x y T' =>
    have hx : x ∈ (Op.binOp op T x y T').operands.toList := by simp [Op.operands]
    have hy : y ∈ (Op.binOp op T x y T').operands.toList := by simp [Op.operands]
    simp only [peff, pvc, h.ti hx, h.ti hy, h.tb hx, h.tb hy, h.ts hx, h.ts hy, h.tc hx, h.tc hy, h.tv hx, h.tv hy]
    all_goals exact ⟨by first | rfl | trivial, by first | rfl | trivial⟩
  | unOp op T x =>
    have hx : x ∈ (Op.unOp op T x).operands.toList := by simp [Op.operands]
    simp only [peff, pvc, h.tb hx, h.tc hx]
    all_goals exact ⟨by first | rfl | trivial, by first | rfl | trivial⟩
  | convert S T x =>
    have hx : x ∈ (Op.convert S T x).operands.toList := by simp [Op.operands]
    simp only [peff, pvc, h.ti hx, h.tc hx, h.ts hx, h.tv hx]
    all_goals exact ⟨by first | rfl | trivial, by first | rfl | trivial⟩
  | call c =>
    obtain ⟨callee, as, ts⟩ := c
    cases callee with
    | builtin b =>
      have hm : ∀ x, x ∈ as.toList → x ∈ (Op.call { callee := .builtin b, args := as, argTypes := ts }).operands.toList := fun x hx => by simp [Op.operands, Call.operands]; simpa using hx
      have two : ∀ (l : List Operand) (q : List TypeId), as.toList = l → ts.toList = q → peff tb id σ (.call { callee := .builtin b, args := as, argTypes := ts }) = peff tb id σ' (.call { callee := .builtin b, args := as, argTypes := ts }) ∧
          pvc P tb id σ d (.call { callee := .builtin b, args := as, argTypes := ts }) = pvc P tb id σ' d (.call { callee := .builtin b, args := as, argTypes := ts }) := by
        intro l q hl hq
        have hm' : ∀ x, x ∈ l → x ∈ (Op.call { callee := .builtin b, args := as, argTypes := ts }).operands.toList := fun x hx => hm x (by rw [hl]; exact hx)
        cases b with
        | len =>
          simp only [peff, pvc, hl, hq]
          match l, q, hm' with
          | [x], [T], hm' =>
            have hx := hm' x (by simp)
            have hob := h.obu hx
            simp only [lnD, lnC, h.tv hx, h.ts hx, h.tc hx, h.uc hx, ← h.un hx]
            cases hu : σ.un x <;> try exact ⟨rfl, rfl⟩
            rw [hu] at hob
            simp only [AV.ids, List.mem_singleton, forall_eq] at hob
            simp only [hob]
            all_goals exact ⟨by first | rfl | trivial, by first | rfl | trivial⟩
          | [], _, _ => exact ⟨rfl, rfl⟩
          | _ :: _ :: _, _, _ => exact ⟨rfl, rfl⟩
          | [_], [], _ => exact ⟨rfl, rfl⟩
          | [_], _ :: _ :: _, _ => exact ⟨rfl, rfl⟩
        | min =>
          simp only [peff, pvc, hl]
          match l, hm' with
          | [x, y], hm' =>
            have hx := hm' x (by simp)
            have hy := hm' y (by simp)
            simp only [h.ti hx, h.ti hy, h.tc hx, h.tc hy]
            all_goals exact ⟨by first | rfl | trivial, by first | rfl | trivial⟩
          | [], _ => exact ⟨rfl, rfl⟩
          | [_], _ => exact ⟨rfl, rfl⟩
          | _ :: _ :: _ :: _, _ => exact ⟨rfl, rfl⟩
        | max =>
          simp only [peff, pvc, hl]
          match l, hm' with
          | [x, y], hm' =>
            have hx := hm' x (by simp)
            have hy := hm' y (by simp)
            simp only [h.ti hx, h.ti hy, h.tc hx, h.tc hy]
            all_goals exact ⟨by first | rfl | trivial, by first | rfl | trivial⟩
          | [], _ => exact ⟨rfl, rfl⟩
          | [_], _ => exact ⟨rfl, rfl⟩
          | _ :: _ :: _ :: _, _ => exact ⟨rfl, rfl⟩
        | append =>
          simp only [peff, pvc, hl, hq]
          rw [hid]
          match l, q, hm' with
          | [s, x], [T, T2], hm' =>
            have hs := hm' s (by simp)
            have hx := hm' x (by simp)
            have hob := h.obu hs
            have hda := fun t => h.da tb id T t hs hx
            have d1 := (hda .nil).1
            have d2 := fun t => (hda t).2.1
            have d3 := fun t => (hda t).2.2
            simp only [d1, d2, d3]
            cases dpX σ'.objs (σ'.un x) with
            | true => exact ⟨rfl, rfl⟩
            | false =>
            simp only [h.tv hx, h.tc hx, h.uc hs, ← h.un hs, cond_false]
            cases hu : σ.un s <;> try exact ⟨rfl, rfl⟩
            rw [hu] at hob
            simp only [AV.ids, List.mem_singleton, forall_eq] at hob
            simp only [rowOf, hob]
            all_goals exact ⟨by first | rfl | trivial, by first | rfl | trivial⟩
          | [], _, _ => exact ⟨rfl, rfl⟩
          | [_], _, _ => exact ⟨rfl, rfl⟩
          | _ :: _ :: _ :: _, _, _ => exact ⟨rfl, rfl⟩
          | [_, _], [], _ => exact ⟨rfl, rfl⟩
          | [_, _], [_], _ => exact ⟨rfl, rfl⟩
          | [_, _], _ :: _ :: _ :: _, _ => exact ⟨rfl, rfl⟩
        | _ => exact ⟨rfl, rfl⟩
      exact two _ _ rfl rfl
    | _ => exact ⟨rfl, rfl⟩
  | _ => exact ⟨rfl, rfl⟩

/-! ### Calls -/

theorem settle_un (σ : St) (x : Operand) : σ.settle.un x = σ.un x := rfl

theorem Agr.settle {σ σ' : St} {L : List Operand} (h : Agr σ σ' L) : Agr σ.settle σ'.settle L :=
  ⟨h.ev, fun x hx j hj => by show (σ.objs j).settle = (σ'.objs j).settle; rw [h.ob x hx j hj]⟩

theorem mCell_congr {ob ob' : Nat → AObj} (t : Ty) (av : AV) (hj : ∀ j, j ∈ av.ids → ob j = ob' j) : mCell ob t av = mCell ob' t av ∧ mCellC ob t av = mCellC ob' t av ∧ mIds1 ob av = mIds1 ob' av := by
  have h := tvd_congr t av hj
  cases av with
  | own i =>
    have e := hj i (by simp [AV.ids])
    refine ⟨?_, ?_, ?_⟩ <;> simp only [mCell, mCellC, mIds1, h.1, h.2, e]
  | bp i off =>
    have e := hj i (by simp [AV.ids])
    refine ⟨?_, ?_, ?_⟩ <;> simp only [mCell, mCellC, mIds1, e]
  | _ => refine ⟨?_, ?_, ?_⟩ <;> simp only [mCell, mCellC, mIds1, h.1, h.2]

theorem mAgg_congr {ob ob' : Nat → AObj} : ∀ (t : Ty) (cs : List AV), (∀ j, j ∈ AV.idsL cs → ob j = ob' j) → mAgg ob t cs = mAgg ob' t cs ∧ mAggC ob t cs = mAggC ob' t cs
  | .cons h t, c :: cs, hj => by
    simp only [AV.idsL, List.mem_append] at hj
    have a1 := mCell_congr h c fun j k => hj j (.inl k)
    have a2 := mAgg_congr t cs fun j k => hj j (.inr k)
    simp only [mAgg, mAggC]
    rw [a1.1, a1.2.1, a2.1, a2.2]
    exact ⟨rfl, rfl⟩
  | .cons _ _, [], _ => ⟨rfl, rfl⟩
  | .nil, [], _ => ⟨rfl, rfl⟩
  | .nil, _ :: _, _ => ⟨rfl, rfl⟩
  | .int _, _, _ => ⟨rfl, rfl⟩
  | .bool, _, _ => ⟨rfl, rfl⟩
  | .str, _, _ => ⟨rfl, rfl⟩
  | .list _, _, _ => ⟨rfl, rfl⟩

theorem mIdsL_congr {ob ob' : Nat → AObj} : ∀ (cs : List AV), (∀ j, j ∈ AV.idsL cs → ob j = ob' j) → mIdsL ob cs = mIdsL ob' cs
  | [], _ => rfl
  | c :: cs, hj => by
    simp only [AV.idsL, List.mem_append] at hj
    simp only [mIdsL]
    rw [(mCell_congr .nil c fun j k => hj j (.inl k)).2.2, mIdsL_congr cs fun j k => hj j (.inr k)]

theorem mOne_congr {ob ob' : Nat → AObj} (t : Ty) (av : AV) (hj : ∀ j, j ∈ av.ids → ob j = ob' j) : mOne ob t av = mOne ob' t av ∧ mOneC ob t av = mOneC ob' t av ∧ mOneI ob av = mOneI ob' av := by
  cases av with
  | agg cs =>
    have hj' : ∀ j, j ∈ AV.idsL cs → ob j = ob' j := fun j k => hj j (by simpa only [AV.ids] using k)
    have a1 := mAgg_congr t cs hj'
    exact ⟨a1.1, a1.2, mIdsL_congr cs hj'⟩
  | rd t' x => exact ⟨rfl, rfl, rfl⟩
  | _ =>
    have a1 := mCell_congr t _ hj
    simp only [mOne, mOneC, mOneI]
    rw [a1.1, a1.2.1, a1.2.2]
    exact ⟨rfl, rfl, rfl⟩

section
variable {σ σ' : St} {L : List Operand} (h : Agr σ σ' L)
include h

theorem Agr.mArg (tb : Tb) : ∀ (l : List (Operand × TypeId)), (∀ p, p ∈ l → p.1 ∈ L) → mArgS σ l = mArgS σ' l ∧ mArgD σ tb l = mArgD σ' tb l ∧ mArgC σ tb l = mArgC σ' tb l ∧ mArgI σ l = mArgI σ' l
  | [], _ => ⟨rfl, rfl, rfl, rfl⟩
  | p :: r, hp => by
    obtain ⟨a1, a2, a3, a4⟩ := Agr.mArg tb r fun q hq => hp q (by simp [hq])
    have hx := hp p (by simp)
    have hm := mOne_congr (tb.ty p.2) (σ.un p.1) (h.obu hx)
    simp only [mArgS, mArgD, mArgC, mArgI]
    rw [a1, a2, a3, a4, hm.1, hm.2.1, hm.2.2, h.un hx, h.uc hx]
    exact ⟨rfl, rfl, rfl, rfl⟩

omit h in
theorem plL_congr {ob ob' : Nat → AObj} : ∀ (cs : List AV), (∀ j, j ∈ AV.idsL cs → ob j = ob' j) → plL ob cs = plL ob' cs
  | [], _ => rfl
  | c :: cs, hj => by
    simp only [AV.idsL, List.mem_append] at hj
    simp only [plL]
    rw [plL_congr cs fun j k => hj j (.inr k)]
    congr 1
    cases c <;> simp only [plA]
    rw [hj _ (.inl (by simp [AV.ids]))]

theorem Agr.callR {P : Program} {tb : Tb} {id : Nat} {f : FuncId} {l : List (Operand × TypeId)} {e : Eff} (hp : ∀ p, p ∈ l → p.1 ∈ L) (hid : ∀ j, id ≤ j → j < id + 16 → σ.objs j = σ'.objs j) (hc : AL.callR P tb id σ f l e) : AL.callR P tb id σ' f l e := by
  obtain ⟨m1, m2, m3, m4⟩ := h.mArg tb l hp
  rcases hc with ⟨h1, rv, h2, h3, h4, h5⟩ | ⟨h1, rv, h0, h2, h3, h4, h5⟩ | ⟨⟨h1, h0⟩, rv, outs, h2, h6, h3, h4, h5⟩
  · exact .inl ⟨by rw [← h.argC tb l hp]; exact h1, rv, by rw [← h.argD tb l hp]; exact h2, h3, unb_congr (fun j j1 j2 => hid j j1 (by omega)) h4, h5⟩
  · exact .inr (.inl ⟨by rw [← h.settle.argC tb l hp]; exact h1, rv, h0, by rw [← h.settle.argD tb l hp]; exact h2, h3, unb_congr (fun j j1 j2 => hid j j1 (by omega)) h4, h5⟩)
  · exact .inr (.inr ⟨⟨by rw [← m3]; exact h1, by rw [← m4]; exact h0⟩, rv, outs, by rw [← m1, ← m2]; exact h2, by rw [← m4]; exact h6, h3, unb_congr (fun j j1 j2 => hid j j1 (by omega)) h4, by rw [← m4]; exact h5⟩)
end

end Go.AL
/- Steps of a region, with guards and calls; regions in the order of the text, and in whatever order. A general part, over any program. -/
set_option linter.unusedSimpArgs false
set_option linter.unusedVariables false
namespace Go.AL
open Go.RowKit

def gcond : AV → Bool → Option Bool
  | .rd .bool c, b => some (c == b)
  | .gd c1 a, b => (gcond a b).map (c1 && ·)
  | _, _ => none

mutual
/-- What a call answers, merely read. -/
def recvG : RV → AV
  | .rd t x => .rd t x
  | .own _ t xs => .rd (.list t) xs
  | .fresh _ _ _ => .any
  | .tl _ t xs => .rd (.list t) xs
  | .deep _ _ _ => .any
  | .agg rs => .agg (recvGs rs)
  | .tup rs => .tup (recvGs rs)
def recvGs : List RV → List AV
  | [] => []
  | r :: rs => recvG r :: recvGs rs
end

def callOf : Op → Option (FuncId × List Operand × List TypeId)
  | .call { callee := .value (.func f), args := as, argTypes := ts } => some (f, as.toList, ts.toList)
  | _ => none

/-- One step: the operation o in the state σ has the effect e. -/
def stepR (P : Program) (tb : Tb) (ops : Array Oper) (id : Nat) (σ : St) (o : Oper) (e : Eff) : Prop :=
  match o.guard with
  | none => match callOf o.op with
    | some c => c.2.1.length = c.2.2.length ∧ callR P tb id σ c.1 (c.2.1.zip c.2.2) e
    | none => pvc P tb id σ o.dst o.op ∧ e = peff tb id σ o.op
  | some g => ∃ d C, (ops[g.1]?).bind (·.dst) = some d ∧ gcond (σ.tmps d) g.2 = some C ∧ match callOf o.op with
    | some c => ((C = true → c.2.1.length = c.2.2.length ∧ argC σ tb (c.2.1.zip c.2.2)) ∧ ∃ rv, (C = true → FunOK P c.1 (argD σ tb (c.2.1.zip c.2.2)) rv) ∧ e = ⟨.gd C (recvG rv), []⟩) ∨
      ((C = true → c.2.1.length = c.2.2.length ∧ argC σ.settle tb (c.2.1.zip c.2.2)) ∧ ∃ rv, (C = true → FunOK P c.1 (argD σ.settle tb (c.2.1.zip c.2.2)) rv) ∧ rv.noL = true ∧ e = ⟨.gd C (recvG rv), []⟩)
    | none => (C = true → pvc P tb id σ o.dst o.op ∧ (peff tb id σ o.op).upds = []) ∧ e = ⟨.gd C (peff tb id σ o.op).av, []⟩

def StepOK (P : Program) (cx : Cx) (ops : Array Oper) (σ : St) (o : Oper) (e : Eff) : Prop :=
  ∀ (a : Act) (w : World) (K : Act → World → Prop) (Q : Exit → Act → World → Prop), Sat cx σ a w → (∀ a' w', Sat cx (σ.app o.dst e) a' w' → K a' w') →
    if Region.wanted o (yielded ops a.tmps) then o.wp P a w K Q else K (a.put o.dst undef) w

theorem callOf_spec {op : Op} {c : FuncId × List Operand × List TypeId} (h : callOf op = some c) : op = .call { callee := .value (.func c.1), args := c.2.1.toArray, argTypes := c.2.2.toArray } := by
  unfold callOf at h
  split at h
  · injection h with h; subst h; rfl
  · cases h

theorem gcond_spec {w : World} {lim : Nat → Nat} {G : Nat → Rt} {objs : Nat → AObj} {b C : Bool} {ops : Array Oper} {o : Oper} {g d : Nat} {tmps : Array Value} (hg : o.guard = some (g, b)) (hd : (ops[g]?).bind (·.dst) = some d) :
    ∀ {av : AV}, AVok w lim G objs av (tmps.getD d undef) → gcond av b = some C → Region.wanted o (yielded ops tmps) = C
  | .rd t x, h, hc => by
    cases t with
    | bool =>
      simp only [gcond] at hc
      injection hc with hc
      simp only [AVok] at h
      have hv := h.bool
      have hs : tmps[d]? = some (.bool x) := by
        rw [Array.getD_eq_getD_getElem?] at hv
        cases he : tmps[d]? with
        | none => rw [he] at hv; simp [undef] at hv
        | some v => rw [he] at hv; simpa using hv
      have hy : yielded ops tmps g = some x := by simp [yielded, hd, hs]
      simp only [Region.wanted, hg, hy]
      rw [← hc]
      cases x <;> cases b <;> rfl
    | _ => simp only [gcond] at hc; cases hc
  | .gd c1 a, h, hc => by
    simp only [gcond, Option.map_eq_some_iff] at hc
    obtain ⟨C', h1, h2⟩ := hc
    simp only [AVok] at h
    cases c1 with
    | true =>
      rw [gcond_spec hg hd (h.1 rfl) h1, ← h2]; rfl
    | false =>
      have hv := h.2 rfl
      have hy : yielded ops tmps g = none := by
        rw [Array.getD_eq_getD_getElem?] at hv
        simp only [yielded, hd, Option.bind_some]
        cases he : tmps[d]? with
        | none => rfl
        | some v => rw [he] at hv; simp at hv; rw [hv]; rfl
      simp only [Region.wanted, hg, hy]
      rw [← h2]; rfl
  | .any, _, hc | .ptr _ _, _, hc | .nils, _, hc | .own _, _, hc | .bp _ _, _, hc | .ep _ _ _, _, hc | .ef _ _ _ _, _, hc | .agg _, _, hc | .tup _, _, hc | .fn _ _, _, hc => by simp only [gcond] at hc; cases hc

section
variable {w : World} {lim : Nat → Nat} {base : Nat} {G : Nat → Rt} {objs : Nat → AObj}
mutual
theorem recvG_ok : ∀ (rv : RV) (v : Value) (fp : List Nat), RVok w lim base rv v fp → AVok w lim G objs (recvG rv) v
  | .rd t x, v, fp, h => by simp only [RVok] at h; simp only [recvG, AVok]; exact h.1
  | .own e t xs, v, fp, h => by simp only [RVok] at h; simp only [recvG, AVok]; exact ownsRow_rd h.1 h.2.1
  | .fresh e t xs, v, fp, h => by simp only [recvG, AVok]
  | .tl e t xs, v, fp, h => by simp only [RVok] at h; simp only [recvG, AVok]; exact h.1.rd
  | .deep te t xs, v, fp, h => by simp only [recvG, AVok]
  | .agg rs, v, fp, h => by
    simp only [RVok] at h
    obtain ⟨vs, h1, h2⟩ := h
    simp only [recvG, AVok]
    exact ⟨vs, h1, recvGs_ok rs vs fp h2⟩
  | .tup rs, v, fp, h => by
    simp only [RVok] at h
    obtain ⟨vs, h1, h2⟩ := h
    simp only [recvG, AVok]
    exact ⟨vs, h1, recvGs_ok rs vs fp h2⟩
theorem recvGs_ok : ∀ (rs : List RV) (vs : List Value) (fp : List Nat), RVsOk w lim base rs vs fp → AVsOk w lim G objs (recvGs rs) vs
  | [], vs, fp, h => by simp only [RVsOk] at h; simp only [recvGs, AVsOk]; exact h.1
  | r :: rs, vs, fp, h => by
    simp only [RVsOk] at h
    obtain ⟨v, vr, f1, f2, e1, _, h1, h2⟩ := h
    simp only [recvGs, AVsOk]
    exact ⟨v, vr, e1, recvG_ok r v f1 h1, recvGs_ok rs vr f2 h2⟩
end
end

section
variable {P : Program} {cx : Cx} {σ : St} {o : Oper} {tb : Tb} {id : Nat} {ops : Array Oper} {e : Eff}

theorem op_callG (hd : ∀ k, o.dst = some k → k < cx.N) {f : FuncId} {as : List Operand} {ts : List TypeId} {rv : RV} (ho : o.op = .call { callee := .value (.func f), args := as.toArray, argTypes := ts.toArray }) (hl : as.length = ts.length)
    (hc : argC σ tb (as.zip ts)) (hfun : FunOK P f (argD σ tb (as.zip ts)) rv) : OpOK P cx σ o ⟨recvG rv, []⟩ := by
  intro a w K Q hsat hK
  obtain ⟨lim, G, hh, hf⟩ := hsat
  obtain ⟨⟨fn, hfn, hnm, hbd⟩, hcall⟩ := hfun
  have hargs := arg_ok hh hf tb _ hc
  have e1 : (as.zip ts).map (fun p => a.eval p.1) = as.map a.eval := map_zip a.eval as ts hl
  rw [e1] at hargs
  have hcalls := hcall w lim _ hargs
  have hrun : (execOp a.eval o).run P w = .ok (.enter f (as.map a.eval).toArray) w := by
    have hnm' : ¬ fn.name = "runtime.NumGoroutine" := by simpa using hnm
    have hbd' : ¬ fn.body = none := by intro h; rw [h] at hbd; cases hbd
    simp [execOp, ho, resolve, invoke, callFunc, Act.eval, Deferred.ofValue, hfn, hnm', hbd']
  unfold Oper.wp
  rw [hrun]
  simp only [Oper.upon]
  refine hcalls.mono fun e w' hpost => ?_
  obtain ⟨v, lim', fp, he, hb, hl', hrv, hnd⟩ := hpost
  subst he
  refine hK _ _ ?_
  obtain ⟨hh', hk⟩ := hh.world hb hl'
  have hf' := hf.keeps hk (Ext.refl G σ.objs)
  rw [app_nil]
  exact ⟨lim', G, by rw [put_objs]; exact hh', hf'.put hd (recvG_ok rv v fp hrv)⟩

theorem OpOK.stepNone (h : OpOK P cx σ o e) (hg : o.guard = none) : StepOK P cx ops σ o e := by
  intro a w K Q hs hK
  rw [if_pos (by simp [Region.wanted, hg])]
  exact h a w K Q hs hK

theorem OpOK.stepGuard {g : Nat} {b C : Bool} {d : Nat} {av : AV} (hd : ∀ k, o.dst = some k → k < cx.N) (hg : o.guard = some (g, b)) (hgd : (ops[g]?).bind (·.dst) = some d) (hC : gcond (σ.tmps d) b = some C) (h : C = true → OpOK P cx σ o ⟨av, []⟩) :
    StepOK P cx ops σ o ⟨.gd C av, []⟩ := by
  intro a w K Q hs hK
  have hw : Region.wanted o (yielded ops a.tmps) = C := by
    obtain ⟨lim, G, hh, hf⟩ := hs
    exact gcond_spec hg hgd (hf.tmp d) hC
  rw [hw]
  cases C with
  | true =>
    rw [if_pos rfl]
    refine h rfl a w K Q hs fun a' w' hs' => hK a' w' ?_
    obtain ⟨lim, G, hh, hf⟩ := hs'
    rw [app_nil] at hh hf ⊢
    rw [put_objs] at hh
    refine ⟨lim, G, by rw [put_objs]; exact hh, hf.size, hf.defers, fun t => ?_, fun p hp => by have := hf.ext p hp; rw [put_objs] at this ⊢; exact this⟩
    have := hf.tmp t
    rw [put_objs] at this ⊢
    cases hdst : o.dst with
    | none => rw [hdst] at this; exact this
    | some k =>
      rw [hdst] at this
      simp only [St.put] at this ⊢
      by_cases ht : t = k
      · subst ht
        rw [upd_same] at this ⊢
        simp only [AVok]
        exact ⟨fun _ => this, fun h => by cases h⟩
      · rw [upd_ne _ _ _ _ ht] at this ⊢
        exact this
  | false =>
    rw [if_neg (by simp)]
    refine hK _ _ ?_
    obtain ⟨lim, G, hh, hf⟩ := hs
    rw [app_nil]
    exact ⟨lim, G, by rw [put_objs]; exact hh, hf.put hd (by simp only [AVok]; exact ⟨(fun h => by cases h), (fun _ => by first | rfl | trivial)⟩)⟩

theorem stepR_sound (hd : ∀ k, o.dst = some k → k < cx.N) (h : stepR P tb ops id σ o e) : StepOK P cx ops σ o e := by
  unfold stepR at h
  cases hg : o.guard with
  | none =>
    rw [hg] at h
    simp only at h
    cases hc : callOf o.op with
    | none =>
      rw [hc] at h
      obtain ⟨h1, h2⟩ := h
      subst h2
      exact (pure_sound hd rfl h1).stepNone hg
    | some c =>
      rw [hc] at h
      obtain ⟨h1, h2⟩ := h
      exact (callR_sound hd (callOf_spec hc) h1 h2).stepNone hg
  | some g =>
    rw [hg] at h
    obtain ⟨gi, b⟩ := g
    obtain ⟨d, C, h1, h2, h3⟩ := h
    cases hc : callOf o.op with
    | none =>
      rw [hc] at h3
      obtain ⟨k1, k2⟩ := h3
      subst k2
      refine OpOK.stepGuard hd hg h1 h2 fun hC => ?_
      have := pure_sound hd rfl (k1 hC).1
      have e2 : peff tb id σ o.op = ⟨(peff tb id σ o.op).av, []⟩ := by
        have hu := (k1 hC).2
        generalize peff tb id σ o.op = q at *
        cases q
        simp only at hu
        rw [hu]
      rwa [e2] at this
    | some c =>
      rw [hc] at h3
      rcases h3 with ⟨k1, rv, k2, k3⟩ | ⟨k1, rv, k2, k4, k3⟩
      · subst k3
        exact OpOK.stepGuard hd hg h1 h2 fun hC => op_callG hd (callOf_spec hc) (k1 hC).1 (k1 hC).2 (k2 hC)
      · subst k3
        exact OpOK.stepGuard hd hg h1 h2 fun hC => op_callB0 hd (callOf_spec hc) (k1 hC).1 (k1 hC).2 (k2 hC) k4 fun w lim base G v fp hr => recvG_ok rv v fp hr

/-- The text's order. -/
inductive Run (P : Program) (tb : Tb) (N : Nat) (ops : Array Oper) : List Oper → Nat → St → List Eff → St → Prop
  | nil (id : Nat) (σ : St) : Run P tb N ops [] id σ [] σ
  | cons {o : Oper} {r : List Oper} {id : Nat} {σ σ' : St} {e : Eff} {es : List Eff} (hd : ∀ k, o.dst = some k → k < N) (h : stepR P tb ops id σ o e) (hr : Run P tb N ops r (id + 16) (σ.app o.dst e) es σ') : Run P tb N ops (o :: r) id σ (e :: es) σ'

theorem Run.wp {l : List Oper} {es : List Eff} {σ' : St} (h : Run P tb cx.N ops l id σ es σ') : ∀ {a : Act} {w : World} {Q : Exit → Act → World → Prop}, Sat cx σ a w → (∀ a' w', Sat cx σ' a' w' → Q .normal a' w') → wpList P ops Q l a w := by
  induction h with
  | nil => intro a w Q hs hQ; exact hQ a w hs
  | cons hd h _ ih =>
    intro a w Q hs hQ
    refine wpList_step fun K hK => ?_
    exact stepR_sound hd h a w K Q hs fun a' w' hs' => hK a' w' (ih hs' hQ)

end
end Go.AL
/- A region that draws its order: the order of the text serves for all. A general part, over any program. -/
set_option linter.unusedSimpArgs false
set_option linter.unusedVariables false
namespace Go.AL
open Go.RowKit

theorem updAll_out : ∀ (l : List (Nat × AObj)) (f : Nat → AObj) (j : Nat), j ∉ l.map (·.1) → updAll f l j = f j
  | [], _, _, _ => rfl
  | u :: l, f, j, h => by
    simp only [List.map_cons, List.mem_cons, not_or] at h
    simp only [updAll]
    rw [updAll_out l _ j h.2, upd_ne _ _ _ _ h.1]

theorem updAll_in : ∀ (l : List (Nat × AObj)) (f g : Nat → AObj) (j : Nat), j ∈ l.map (·.1) → updAll f l j = updAll g l j
  | [], _, _, _, h => by cases h
  | u :: l, f, g, j, h => by
    simp only [updAll]
    by_cases hl : j ∈ l.map (·.1)
    · exact updAll_in l _ _ j hl
    · simp only [List.map_cons, List.mem_cons] at h
      rcases h with h | h
      · rw [updAll_out l _ j hl, updAll_out l _ j hl, h, upd_same, upd_same]
      · exact absurd h hl

theorem St.ext' {σ τ : St} (h1 : ∀ t, σ.tmps t = τ.tmps t) (h2 : ∀ j, σ.objs j = τ.objs j) : σ = τ := by
  cases σ; cases τ
  simp only [St.mk.injEq]
  exact ⟨funext h1, funext h2⟩

/-- A record: where the result goes, and the effect. -/
abbrev Rec := Option Nat × Eff

def St.rc (σ : St) (r : Rec) : St := σ.app r.1 r.2

theorem rec_tmps (σ : St) (r : Rec) (t : Nat) : (σ.rc r).tmps t = if r.1 = some t then r.2.av else σ.tmps t := by
  obtain ⟨d, e⟩ := r
  cases d with
  | none => simp [St.rc, St.app, St.put]
  | some d =>
    by_cases h : t = d
    · subst h; simp [St.rc, St.app, St.put, upd_same]
    · have h' : ¬ d = t := fun k => h k.symm
      simp [St.rc, St.app, St.put, upd_ne _ _ _ _ h, h']

theorem rec_objs (σ : St) (r : Rec) : (σ.rc r).objs = updAll σ.objs r.2.upds := by
  obtain ⟨d, e⟩ := r
  cases d <;> rfl

/-- The state behind those records whose numbers (from k on) are in S. -/
def mrg (S : Nat → Bool) : Nat → List Rec → St → St
  | _, [], σ => σ
  | k, r :: rs, σ => mrg S (k + 1) rs (bif S k then σ.rc r else σ)

theorem mrg_tmps {S S' : Nat → Bool} {t : Nat} : ∀ (rs : List Rec) (k : Nat) (σ σ' : St), (∀ j r, rs[j]? = some r → r.1 = some t → S (k + j) = S' (k + j)) → σ.tmps t = σ'.tmps t → (mrg S k rs σ).tmps t = (mrg S' k rs σ').tmps t
  | [], _, _, _, _, h => h
  | r :: rs, k, σ, σ', hS, h => by
    simp only [mrg]
    refine mrg_tmps rs (k + 1) _ _ (fun j r' hj hr => by have := hS (j + 1) r' (by simpa using hj) hr; rwa [show k + 1 + j = k + (j + 1) by omega]) ?_
    by_cases hr : r.1 = some t
    · have := hS 0 r rfl hr
      simp only [Nat.add_zero] at this
      rw [this]
      cases S' k with
      | true => simp only [cond_true]; rw [rec_tmps, rec_tmps, if_pos hr, if_pos hr]
      | false => exact h
    · have f : ∀ (b : Bool) (σ : St), (bif b then σ.rc r else σ).tmps t = σ.tmps t := by
        intro b σ
        cases b with
        | true => simp only [cond_true]; rw [rec_tmps, if_neg hr]
        | false => rfl
      rw [f, f, h]

theorem mrg_objs {S S' : Nat → Bool} {id : Nat} : ∀ (rs : List Rec) (k : Nat) (σ σ' : St), (∀ j r, rs[j]? = some r → id ∈ r.2.upds.map (·.1) → S (k + j) = S' (k + j)) → σ.objs id = σ'.objs id → (mrg S k rs σ).objs id = (mrg S' k rs σ').objs id
  | [], _, _, _, _, h => h
  | r :: rs, k, σ, σ', hS, h => by
    simp only [mrg]
    refine mrg_objs rs (k + 1) _ _ (fun j r' hj hr => by have := hS (j + 1) r' (by simpa using hj) hr; rwa [show k + 1 + j = k + (j + 1) by omega]) ?_
    by_cases hr : id ∈ r.2.upds.map (·.1)
    · have := hS 0 r rfl hr
      simp only [Nat.add_zero] at this
      rw [this]
      cases S' k with
      | true => simp only [cond_true]; rw [rec_objs, rec_objs]; exact updAll_in _ _ _ _ hr
      | false => exact h
    · have f : ∀ (b : Bool) (σ : St), (bif b then σ.rc r else σ).objs id = σ.objs id := by
        intro b σ
        cases b with
        | true => simp only [cond_true]; rw [rec_objs]; exact updAll_out _ _ _ hr
        | false => rfl
      rw [f, f, h]

/-- Two records that may be done in either order. -/
def Apart (r q : Rec) : Prop := (∀ t, r.1 = some t → q.1 ≠ some t) ∧ ∀ j, j ∈ r.2.upds.map (·.1) → j ∉ q.2.upds.map (·.1)

theorem rec_comm (σ : St) {r q : Rec} (h : Apart r q) : (σ.rc r).rc q = (σ.rc q).rc r := by
  refine St.ext' (fun t => ?_) fun j => ?_
  · rw [rec_tmps, rec_tmps, rec_tmps, rec_tmps]
    by_cases h1 : r.1 = some t
    · rw [if_neg (h.1 t h1), if_pos h1, if_pos h1]
    · rw [if_neg h1, if_neg h1]
  · rw [rec_objs, rec_objs, rec_objs, rec_objs]
    by_cases h1 : j ∈ r.2.upds.map (·.1)
    · rw [updAll_out q.2.upds _ j (h.2 j h1)]
      exact updAll_in _ _ _ _ h1
    · rw [updAll_out r.2.upds _ j h1]
      by_cases h2 : j ∈ q.2.upds.map (·.1)
      · exact updAll_in _ _ _ _ h2
      · rw [updAll_out q.2.upds _ j h2, updAll_out q.2.upds _ j h2, updAll_out r.2.upds _ j h1]

theorem mrg_rec (S : Nat → Bool) {q : Rec} : ∀ (rs : List Rec) (k : Nat) (σ : St), (∀ j r, rs[j]? = some r → S (k + j) = true → Apart q r) → mrg S k rs (σ.rc q) = (mrg S k rs σ).rc q
  | [], _, _, _ => rfl
  | r :: rs, k, σ, h => by
    simp only [mrg]
    have ih := mrg_rec S (q := q) rs (k + 1)
    cases hs : S k with
    | true =>
      simp only [cond_true]
      rw [rec_comm σ (h 0 r rfl (by simpa using hs))]
      exact ih _ fun j r' hj hS => h (j + 1) r' (by simpa using hj) (by rwa [show k + (j + 1) = k + 1 + j by omega])
    | false =>
      exact ih _ fun j r' hj hS => h (j + 1) r' (by simpa using hj) (by rwa [show k + (j + 1) = k + 1 + j by omega])

/-- One more record, wherever it stands. -/
theorem mrg_insert (S : Nat → Bool) {i : Nat} {q : Rec} : ∀ (rs : List Rec) (k : Nat) (σ : St), rs[i]? = some q → S (k + i) = false → (∀ j r, rs[j]? = some r → i < j → S (k + j) = true → Apart q r) →
    mrg (fun j => S j || j == k + i) k rs σ = (mrg S k rs σ).rc q := by
  induction i with
  | zero =>
    intro rs k σ hi hS h
    cases rs with
    | nil => cases hi
    | cons r rs =>
      have e : r = q := by simpa using hi
      subst e
      simp only [Nat.add_zero] at hS ⊢
      simp only [mrg, hS, Bool.false_or, beq_self_eq_true, cond_true, cond_false]
      have e2 : mrg (fun j => S j || j == k) (k + 1) rs (σ.rc r) = mrg S (k + 1) rs (σ.rc r) := by
        have gen : ∀ (rs : List Rec) (m : Nat) (σ : St), k < m → mrg (fun j => S j || j == k) m rs σ = mrg S m rs σ := by
          intro rs
          induction rs with
          | nil => intro m σ _; rfl
          | cons r rs ih =>
            intro m σ hm
            simp only [mrg]
            have : (m == k) = false := by simp; omega
            rw [this, Bool.or_false]
            exact ih (m + 1) _ (by omega)
        exact gen rs (k + 1) _ (by omega)
      rw [e2]
      exact mrg_rec S rs (k + 1) σ fun j r' hj hS' => h (j + 1) r' (by simpa using hj) (by omega) (by rwa [show k + (j + 1) = k + 1 + j by omega])
  | succ i ih =>
    intro rs k σ hi hS h
    cases rs with
    | nil => cases hi
    | cons r rs =>
      simp only [mrg]
      have hk : (k == k + (i + 1)) = false := by simp
      rw [hk, Bool.or_false]
      have e : k + (i + 1) = k + 1 + i := by omega
      rw [e] at hS ⊢
      exact ih rs (k + 1) _ (by simpa using hi) hS fun j r' hj hij hS' => h (j + 1) r' (by simpa using hj) (by omega) (by rwa [show k + (j + 1) = k + 1 + j by omega])

end Go.AL
/- A region that draws its order, walked once: the theorem. A general part, over any program. -/
set_option linter.unusedSimpArgs false
set_option linter.unusedVariables false
namespace Go.AL
open Go.RowKit

structure Info where
  o : Oper
  w : List Nat
  rid : List Nat
  id : Nat

/-- What only hands a value on looks at no object. -/
def isCopy : Op → Bool
  | .move _ => true
  | .assign _ => true
  | _ => false
def rids (σ : St) (o : Oper) : List Nat := bif isCopy o.op then [] else o.op.operands.toList.flatMap fun x => (σ.ev x).ids

inductive RunI (P : Program) (tb : Tb) (N : Nat) (ops : Array Oper) : List Oper → Nat → St → List Rec → List Info → St → Prop
  | nil (id : Nat) (σ : St) : RunI P tb N ops [] id σ [] [] σ
  | cons {o : Oper} {r : List Oper} {id : Nat} {σ σ' : St} {e : Eff} {rs : List Rec} {is : List Info} (hd : ∀ k, o.dst = some k → k < N) (h : stepR P tb ops id σ o e) (hr : RunI P tb N ops r (id + 16) (σ.app o.dst e) rs is σ') :
      RunI P tb N ops (o :: r) id σ ((o.dst, e) :: rs) (⟨o, e.upds.map (·.1), rids σ o, id⟩ :: is) σ'

theorem mrg_lt (k : Nat) : ∀ (rs : List Rec) (m : Nat) (σ : St), k ≤ m → mrg (fun j => decide (j < k)) m rs σ = σ
  | [], _, _, _ => rfl
  | r :: rs, m, σ, h => by
    simp only [mrg]
    rw [show decide (m < k) = false by simp; omega]
    exact mrg_lt k rs (m + 1) σ (by omega)

theorem RunI.at {P : Program} {tb : Tb} {N : Nat} {ops : Array Oper} {l : List Oper} {id : Nat} {σ σ' : St} {rs : List Rec} {is : List Info} (h : RunI P tb N ops l id σ rs is σ') :
    ∀ (k i : Nat) (o : Oper), l[i]? = some o → ∃ e, rs[i]? = some (o.dst, e) ∧ (∀ k, o.dst = some k → k < N) ∧
      is[i]? = some ⟨o, e.upds.map (·.1), rids (mrg (fun j => decide (j < k + i)) k rs σ) o, id + 16 * i⟩ ∧ stepR P tb ops (id + 16 * i) (mrg (fun j => decide (j < k + i)) k rs σ) o e := by
  induction h with
  | nil => intro k i o h; simp at h
  | @cons o r id σ σ' e rs is hd h hr ih =>
    intro k i o' ho
    cases i with
    | zero =>
      have eo : o = o' := by simpa using ho
      subst eo
      refine ⟨e, rfl, hd, ?_, ?_⟩
      · rw [mrg_lt (k + 0) _ k σ (by omega)]; rfl
      · rw [mrg_lt (k + 0) _ k σ (by omega)]; exact h
    | succ i =>
      obtain ⟨e', h1, h2, h3, h4⟩ := ih (k + 1) i o' (by simpa using ho)
      have em : mrg (fun j => decide (j < k + (i + 1))) k ((o.dst, e) :: rs) σ = mrg (fun j => decide (j < k + 1 + i)) (k + 1) rs (σ.app o.dst e) := by
        simp only [mrg]
        rw [show k + (i + 1) = k + 1 + i by omega, show decide (k < k + 1 + i) = true by simp; omega]
        rfl
      rw [em, show id + 16 * (i + 1) = id + 16 + 16 * i by omega]
      exact ⟨e', by simpa using h1, h2, by simpa using h3, h4⟩

theorem RunI.len {P : Program} {tb : Tb} {N : Nat} {ops : Array Oper} {l : List Oper} {id : Nat} {σ σ' : St} {rs : List Rec} {is : List Info} (h : RunI P tb N ops l id σ rs is σ') : rs.length = l.length ∧ is.length = l.length := by
  induction h with
  | nil => exact ⟨rfl, rfl⟩
  | cons _ _ _ ih => exact ⟨by simp [ih.1], by simp [ih.2]⟩

theorem RunI.last {P : Program} {tb : Tb} {N : Nat} {ops : Array Oper} {l : List Oper} {id : Nat} {σ σ' : St} {rs : List Rec} {is : List Info} (h : RunI P tb N ops l id σ rs is σ') (S : Nat → Bool) :
    ∀ k, (∀ j, k ≤ j → j < k + l.length → S j = true) → mrg S k rs σ = σ' := by
  induction h with
  | nil => intro k _; rfl
  | cons _ _ _ ih =>
    intro k hS
    simp only [mrg]
    rw [hS k (Nat.le_refl _) (by simp)]
    exact ih (k + 1) fun j h1 h2 => hS j (by omega) (by simp at h2 ⊢; omega)

/-! ### The look at a pair of operations -/

def waitsOn (o : Oper) (i : Nat) : Bool := o.after.any fun e => Region.binds .any e && e.on == i
/-- As 'waitsOn', or by way of operations between. -/
def waitsN (ops : Array Oper) : Nat → Oper → Nat → Bool
  | 0, o, i => waitsOn o i
  | n + 1, o, i => waitsOn o i || o.after.any fun e => Region.binds .any e && (match ops[e.on]? with | some o2 => waitsN ops n o2 i | none => false)
def waits2 (ops : Array Oper) (o : Oper) (i : Nat) : Bool := waitsN ops 6 o i
def waitsA (ops : Array Oper) (o : Oper) (i : Nat) : Bool := waitsOn o i || waits2 ops o i
def outside (id j : Nat) : Bool := decide (j < id) || decide (id + 16 ≤ j)
def chkPair (ops : Array Oper) (i : Nat) (x y : Info) : Bool :=
  waitsOn y.o i || (x.o.apart ops y.o && (x.w.all fun j => !(y.rid.contains j) && !(y.w.contains j) && outside y.id j) && y.w.all fun j => !(x.rid.contains j) && outside x.id j) || waits2 ops y.o i
def chkOne (ops : Array Oper) (i : Nat) (x : Info) : List Info → Bool
  | [] => true
  | y :: r => chkPair ops i x y && chkOne ops i x r
def chkBack (o : Oper) (i : Nat) : Bool := o.after.all fun e => !Region.binds .any e || decide (e.on < i)
def chkAll (ops : Array Oper) : Nat → List Info → Bool
  | _, [] => true
  | i, x :: r => chkOne ops i x r && chkBack x.o i && chkAll ops (i + 1) r

theorem chkOne_at {ops : Array Oper} {i : Nat} {x : Info} : ∀ {l : List Info}, chkOne ops i x l = true → ∀ (j : Nat) (y : Info), l[j]? = some y → chkPair ops i x y = true
  | [], _, j, y, h => by simp at h
  | z :: l, hc, j, y, h => by
    simp only [chkOne, Bool.and_eq_true] at hc
    cases j with
    | zero => have : z = y := by simpa using h
              subst this; exact hc.1
    | succ j => exact chkOne_at hc.2 j y (by simpa using h)

theorem chkAll_at {ops : Array Oper} : ∀ {l : List Info} {k : Nat}, chkAll ops k l = true → ∀ (i : Nat) (x : Info), l[i]? = some x → chkBack x.o (k + i) = true ∧ ∀ (j : Nat) (y : Info), i < j → l[j]? = some y → chkPair ops (k + i) x y = true
  | [], _, _, i, x, h => by simp at h
  | z :: l, k, hc, i, x, h => by
    simp only [chkAll, Bool.and_eq_true] at hc
    cases i with
    | zero =>
      have : z = x := by simpa using h
      subst this
      refine ⟨hc.1.2, fun j y hj hy => ?_⟩
      cases j with
      | zero => omega
      | succ j => exact chkOne_at hc.1.1 j y (by simpa using hy)
    | succ i =>
      obtain ⟨h1, h2⟩ := chkAll_at hc.2 i x (by simpa using h)
      rw [show k + 1 + i = k + (i + 1) by omega] at h1 h2
      refine ⟨h1, fun j y hj hy => ?_⟩
      cases j with
      | zero => omega
      | succ j => exact h2 j y (by omega) (by simpa using hy)

theorem chkBack_spec {o : Oper} {i : Nat} (h : chkBack o i = true) : ∀ e, e ∈ o.after → Region.binds .any e = true → e.on < i := by
  intro e he hb
  unfold chkBack at h
  rw [Array.all_eq_true_iff_forall_mem] at h
  have := h e he
  rw [hb] at this
  simpa using this

theorem waitsOn_spec {o : Oper} {i : Nat} (h : waitsOn o i = true) : ∃ e, e ∈ o.after ∧ Region.binds .any e = true ∧ e.on = i := by
  unfold waitsOn at h
  rw [Array.any_eq_true'] at h
  obtain ⟨e, he, h⟩ := h
  simp only [Bool.and_eq_true, beq_iff_eq] at h
  exact ⟨e, he, h.1, h.2⟩

theorem waitsN_listed {ops : Array Oper} {listed : Array Bool} {i : Nat} (hcl : ∀ j o, ops[j]? = some o → listed.getD j false = true → ∀ e, e ∈ o.after → Region.binds .any e = true → listed.getD e.on false = true) : ∀ (n : Nat) (o : Oper),
    (∀ e, e ∈ o.after → Region.binds .any e = true → listed.getD e.on false = true) → waitsN ops n o i = true → listed.getD i false = true
  | 0, o, hw, h => by
    obtain ⟨e, h1, h2, h3⟩ := waitsOn_spec h
    rw [← h3]
    exact hw e h1 h2
  | n + 1, o, hw, h => by
    rw [waitsN, Bool.or_eq_true] at h
    rcases h with h | h
    · obtain ⟨e, h1, h2, h3⟩ := waitsOn_spec h
      rw [← h3]
      exact hw e h1 h2
    · rw [Array.any_eq_true'] at h
      obtain ⟨e, he, h⟩ := h
      rw [Bool.and_eq_true] at h
      obtain ⟨hb, h⟩ := h
      cases ho : ops[e.on]? with
      | none => rw [ho] at h; cases h
      | some o2 =>
        rw [ho] at h
        exact waitsN_listed hcl n o2 (hcl e.on o2 ho (hw e he hb)) h
theorem waitsA_listed {ops : Array Oper} {listed : Array Bool} {o : Oper} {i : Nat} (hcl : ∀ j o, ops[j]? = some o → listed.getD j false = true → ∀ e, e ∈ o.after → Region.binds .any e = true → listed.getD e.on false = true)
    (hw : ∀ e, e ∈ o.after → Region.binds .any e = true → listed.getD e.on false = true) (h : waitsA ops o i = true) : listed.getD i false = true := by
  unfold waitsA at h
  rw [Bool.or_eq_true] at h
  rcases h with h | h
  · exact waitsN_listed hcl 0 o hw h
  · exact waitsN_listed hcl 6 o hw h

theorem apart_of_pair {ops : Array Oper} {i : Nat} {x y : Info} (h : chkPair ops i x y = true) (hn : waitsA ops y.o i = false) :
    x.o.apart ops y.o = true ∧ (∀ j, j ∈ x.w → j ∉ y.rid ∧ j ∉ y.w ∧ (j < y.id ∨ y.id + 16 ≤ j)) ∧ ∀ j, j ∈ y.w → j ∉ x.rid ∧ (j < x.id ∨ x.id + 16 ≤ j) := by
  unfold chkPair at h
  unfold waitsA at hn
  rw [Bool.or_eq_false_iff] at hn
  rw [hn.1, hn.2, Bool.false_or, Bool.or_false, Bool.and_eq_true, Bool.and_eq_true] at h
  obtain ⟨⟨h1, h2⟩, h3⟩ := h
  refine ⟨h1, fun j hj => ?_, fun j hj => ?_⟩
  · have := List.all_eq_true.1 h2 j hj
    simpa [outside, Bool.and_eq_true, and_assoc] using this
  · have := List.all_eq_true.1 h3 j hj
    simpa [outside, Bool.and_eq_true] using this

theorem countP_set {l : List Bool} : ∀ {i : Nat}, l[i]? = some false → (l.set i true).countP (! ·) + 1 = l.countP (! ·) := by
  induction l with
  | nil => intro i h; simp at h
  | cons b l ih =>
    intro i h
    cases i with
    | zero =>
      have : b = false := by simpa using h
      subst this
      simp
    | succ i =>
      have := ih (i := i) (by simpa using h)
      simp only [List.set_cons_succ, List.countP_cons]
      omega

def looks (ops : Array Oper) (o : Oper) : List Operand := o.op.operands.toList

section
variable {P : Program} {cx : Cx} {tb : Tb} {ops : Array Oper} {id : Nat} {σ σ' : St} {rs : List Rec} {is : List Info}

theorem stepR_congr {τ τ' : St} {o : Oper} {e : Eff} {id : Nat} (ha : Agr τ τ' o.op.operands.toList) (hid : ∀ j, id ≤ j → j < id + 16 → τ.objs j = τ'.objs j)
    (hg : ∀ d, d ∈ o.looksAt ops → τ.tmps d = τ'.tmps d) (h : stepR P tb ops id τ o e) : stepR P tb ops id τ' o e := by
  have hc := eff_congr (tb := tb) (P := P) (id := id) (d := o.dst) ha (hid id (Nat.le_refl _) (by omega))
  have inL : ∀ c, callOf o.op = some c → ∀ p, p ∈ c.2.1.zip c.2.2 → p.1 ∈ o.op.operands.toList := by
    intro c hc p hp
    have := (List.of_mem_zip hp).1
    rw [callOf_spec hc]
    simp [Op.operands, Call.operands]
    exact .inr this
  have args : ∀ c, callOf o.op = some c → argC τ tb (c.2.1.zip c.2.2) = argC τ' tb (c.2.1.zip c.2.2) ∧ argD τ tb (c.2.1.zip c.2.2) = argD τ' tb (c.2.1.zip c.2.2) := by
    intro c hc
    exact ⟨ha.argC tb _ (inL c hc), ha.argD tb _ (inL c hc)⟩
  unfold stepR at h ⊢
  cases hgd : o.guard with
  | none =>
    rw [hgd] at h
    simp only at h ⊢
    cases hcl : callOf o.op with
    | none =>
      rw [hcl] at h
      exact ⟨by rw [← hc.2]; exact h.1, by rw [← hc.1]; exact h.2⟩
    | some c =>
      rw [hcl] at h
      obtain ⟨h1, h2⟩ := h
      exact ⟨h1, ha.callR (inL c hcl) hid h2⟩
  | some g =>
    rw [hgd] at h
    obtain ⟨d, C, h1, h2, h3⟩ := h
    have hd : d ∈ o.looksAt ops := by
      unfold Oper.looksAt
      rw [hgd]
      obtain ⟨gi, gb⟩ := g
      simp only at h1 ⊢
      rw [h1]
      simp
    refine ⟨d, C, h1, by rw [← hg d hd]; exact h2, ?_⟩
    cases hcl : callOf o.op with
    | none =>
      rw [hcl] at h3
      exact ⟨fun hC => by rw [← hc.2, ← hc.1]; exact h3.1 hC, by rw [← hc.1]; exact h3.2⟩
    | some c =>
      rw [hcl] at h3
      obtain ⟨a1, a2⟩ := args c hcl
      rcases h3 with h3 | h3
      · exact .inl ⟨by rw [← a1]; exact h3.1, by rw [← a2]; exact h3.2⟩
      · exact .inr ⟨by rw [← ha.settle.argC tb _ (inL c hcl)]; exact h3.1, by rw [← ha.settle.argD tb _ (inL c hcl)]; exact h3.2⟩

theorem eff_copy {τ τ' : St} {id : Nat} {d : Option Nat} {op : Op} (hcp : isCopy op = true) (hev : ∀ x, x ∈ op.operands.toList → τ.ev x = τ'.ev x) :
    peff tb id τ op = peff tb id τ' op ∧ pvc P tb id τ d op = pvc P tb id τ' d op := by
  cases op with
  | move x =>
    have := hev x (by simp [Op.operands])
    simp only [peff, pvc, this]
    exact ⟨trivial, trivial⟩
  | assign x =>
    have := hev x (by simp [Op.operands])
    simp only [peff, pvc, this]
    exact ⟨trivial, trivial⟩
  | _ => cases hcp

theorem stepR_copy {τ τ' : St} {o : Oper} {e : Eff} {id : Nat} (hcp : isCopy o.op = true) (hev : ∀ x, x ∈ o.op.operands.toList → τ.ev x = τ'.ev x)
    (hg : ∀ d, d ∈ o.looksAt ops → τ.tmps d = τ'.tmps d) (h : stepR P tb ops id τ o e) : stepR P tb ops id τ' o e := by
  have hc := eff_copy (tb := tb) (P := P) (id := id) (d := o.dst) hcp hev
  have hcl : callOf o.op = none := by
    cases ho : o.op with
    | move _ => rfl
    | assign _ => rfl
    | _ => rw [ho] at hcp; cases hcp
  unfold stepR at h ⊢
  cases hgd : o.guard with
  | none =>
    rw [hgd] at h
    simp only at h ⊢
    rw [hcl] at h ⊢
    exact ⟨by rw [← hc.2]; exact h.1, by rw [← hc.1]; exact h.2⟩
  | some g =>
    rw [hgd] at h
    obtain ⟨d, C, h1, h2, h3⟩ := h
    have hd : d ∈ o.looksAt ops := by
      unfold Oper.looksAt
      rw [hgd]
      obtain ⟨gi, gb⟩ := g
      simp only at h1 ⊢
      rw [h1]
      simp
    refine ⟨d, C, h1, by rw [← hg d hd]; exact h2, ?_⟩
    rw [hcl] at h3 ⊢
    exact ⟨fun hC => by rw [← hc.2, ← hc.1]; exact h3.1 hC, by rw [← hc.1]; exact h3.2⟩

theorem draw_any (hR : RunI P tb cx.N ops ops.toList id σ rs is σ') (hchk : chkAll ops 0 is = true) {Q : Exit → Act → World → Prop} (hQ : ∀ a w, Sat cx σ' a w → Q .normal a w) :
    ∀ (fuel : Nat) (listed : Array Bool) (a : Act) (w : World), listed.toList.countP (! ·) ≤ fuel → listed.size = ops.size →
      (∀ j o, ops[j]? = some o → listed.getD j false = true → ∀ e, e ∈ o.after → Region.binds .any e = true → listed.getD e.on false = true) →
      Sat cx (mrg (fun j => listed.getD j false) 0 rs σ) a w → wpAny P .any ops Q fuel listed a w := by
  have hat := hR.at 0
  have hlen := hR.len
  -- where not all has come up, something may come up
  have hready : ∀ listed : Array Bool, listed.size = ops.size → Region.ready .any ops listed = [] → ∀ j, j < ops.size → listed.getD j false = true := by
    intro listed hsz hr
    intro j
    induction j using Nat.strongRecOn with
    | _ j ih =>
      intro hj
      cases hl : listed.getD j false with
      | true => rfl
      | false =>
        exfalso
        have ho : ops[j]? = some ops[j] := Array.getElem?_eq_getElem hj
        have hm : j ∈ Region.ready .any ops listed := by
          rw [mem_ready]
          refine ⟨?_, ops[j], ho, fun e he hb => ?_⟩
          · have : j < listed.size := by omega
            simp [this] at hl ⊢
            exact hl
          · obtain ⟨ef, _, _, hi, _⟩ := hat j ops[j] (by simp [hj])
            have := (chkAll_at hchk j _ hi).1
            rw [Nat.zero_add] at this
            have hlt := chkBack_spec this e he hb
            exact ih e.on hlt (by omega)
        rw [hr] at hm
        cases hm
  have hend : ∀ (listed : Array Bool) (a : Act) (w : World), listed.size = ops.size → Region.ready .any ops listed = [] → Sat cx (mrg (fun j => listed.getD j false) 0 rs σ) a w → Q .normal a w := by
    intro listed a w hsz hr hs
    refine hQ a w ?_
    have := hR.last (fun j => listed.getD j false) 0 fun j _ h2 => hready listed hsz hr j (by simpa using h2)
    rwa [this] at hs
  intro fuel
  induction fuel with
  | zero =>
    intro listed a w hc hsz hcl hs
    have hr : Region.ready .any ops listed = [] := by
      rw [List.eq_nil_iff_forall_not_mem]
      intro j hj
      obtain ⟨h1, o, ho, _⟩ := mem_ready.1 hj
      have hjl : j < listed.size := by rw [hsz]; exact (Array.getElem?_eq_some_iff.1 ho).1
      have hmem : listed[j] ∈ listed.toList := by simp
      have h0 : listed.toList.countP (! ·) = 0 := by omega
      rw [List.countP_eq_zero] at h0
      have := h0 _ hmem
      simp [hjl] at h1
      rw [h1] at this
      simp at this
    exact ⟨hr, hend listed a w hsz hr hs⟩
  | succ fuel ih =>
    intro listed a w hc hsz hcl hs
    refine ⟨fun hr => hend listed a w hsz hr hs, fun i hi => ?_⟩
    obtain ⟨h1, o, ho, hwait⟩ := mem_ready.1 hi
    have hiN : i < ops.size := (Array.getElem?_eq_some_iff.1 ho).1
    have hil : i < listed.size := by omega
    have hi0 : listed[i] = false := by simpa [hil] using h1
    have hiD : listed.getD i false = false := by simp [hil, hi0]
    obtain ⟨e, hrec, hd, hinfo, hstep⟩ := hat i o (by simpa using ho)
    simp only [Nat.zero_add] at hinfo hstep
    have hpairs := (chkAll_at hchk i _ hinfo).2
    -- every other operation against this one
    have key : ∀ (j : Nat) (oj : Oper), ops[j]? = some oj → j ≠ i → ∃ ej, rs[j]? = some (oj.dst, ej) ∧
        (decide (j < i) = listed.getD j false ∨ ((∀ t, oj.dst = some t → t ∉ o.looksAt ops) ∧ (∀ k, k ∈ ej.upds.map (·.1) → k ∉ rids (mrg (fun j => decide (j < i)) 0 rs σ) o ∧ (k < id + 16 * i ∨ id + 16 * i + 16 ≤ k)))) ∧
        (listed.getD j false = true → i < j → Apart (o.dst, e) (oj.dst, ej)) := by
      intro j oj hoj hji
      obtain ⟨ej, hrj, _, hij, _⟩ := hat j oj (by simpa using hoj)
      simp only [Nat.zero_add] at hij
      refine ⟨ej, hrj, ?_, ?_⟩
      · rcases Nat.lt_or_gt_of_ne hji with hlt | hgt
        · have hp := (chkAll_at hchk j _ hij).2 i _ hlt hinfo
          rw [Nat.zero_add] at hp
          cases hw : waitsA ops o j with
          | true =>
            left
            have := waitsA_listed hcl hwait hw
            rw [this]; simpa using hlt
          | false =>
            right
            obtain ⟨p1, p2, p3⟩ := apart_of_pair hp hw
            exact ⟨(Oper.apart_spec p1).1, fun k hk => ⟨(p2 k hk).1, (p2 k hk).2.2⟩⟩
        · have hp := hpairs j _ hgt hij
          rw [Nat.zero_add] at hp
          cases hw : waitsA ops oj i with
          | true =>
            left
            have hnl : listed.getD j false = false := by
              cases hl : listed.getD j false with
              | false => rfl
              | true =>
                have := waitsA_listed hcl (hcl j oj hoj hl) hw
                rw [hiD] at this
                cases this
            rw [hnl]; simp; omega
          | false =>
            right
            obtain ⟨p1, p2, p3⟩ := apart_of_pair hp hw
            exact ⟨(Oper.apart_spec p1).2.2, fun k hk => p3 k hk⟩
      · intro hl hgt
        have hp := hpairs j _ hgt hij
        rw [Nat.zero_add] at hp
        have hw : waitsA ops oj i = false := by
          cases hw : waitsA ops oj i with
          | false => rfl
          | true =>
            have := waitsA_listed hcl (hcl j oj hoj hl) hw
            rw [hiD] at this
            cases this
        obtain ⟨p1, p2, p3⟩ := apart_of_pair hp hw
        exact ⟨fun t ht => (Oper.apart_spec p1).2.1 t ht, fun k hk => (p2 k hk).2.1⟩
    have hopj : ∀ (j : Nat) (r : Rec), rs[j]? = some r → ∃ oj, ops[j]? = some oj := by
      intro j r hr
      have : j < rs.length := (List.getElem?_eq_some_iff.1 hr).1
      have hj : j < ops.size := by rw [hlen.1] at this; simpa using this
      exact ⟨_, Array.getElem?_eq_getElem hj⟩
    have agT : ∀ t, t ∈ o.looksAt ops → (mrg (fun j => decide (j < i)) 0 rs σ).tmps t = (mrg (fun j => listed.getD j false) 0 rs σ).tmps t := by
      intro t ht
      refine mrg_tmps rs 0 σ σ (fun j r hr hrt => ?_) rfl
      rw [Nat.zero_add]
      by_cases hji : j = i
      · subst hji; rw [hiD]; simp
      · obtain ⟨oj, hoj⟩ := hopj j r hr
        obtain ⟨ej, k1, k2, _⟩ := key j oj hoj hji
        rw [hr] at k1
        injection k1 with k1
        subst k1
        rcases k2 with k2 | ⟨k2, _⟩
        · exact k2
        · exact absurd ht (k2 t hrt)
    have agO : ∀ k, (k ∈ rids (mrg (fun j => decide (j < i)) 0 rs σ) o ∨ (id + 16 * i ≤ k ∧ k < id + 16 * i + 16)) → (mrg (fun j => decide (j < i)) 0 rs σ).objs k = (mrg (fun j => listed.getD j false) 0 rs σ).objs k := by
      intro k hk
      refine mrg_objs rs 0 σ σ (fun j r hr hrk => ?_) rfl
      rw [Nat.zero_add]
      by_cases hji : j = i
      · subst hji; rw [hiD]; simp
      · obtain ⟨oj, hoj⟩ := hopj j r hr
        obtain ⟨ej, k1, k2, _⟩ := key j oj hoj hji
        rw [hr] at k1
        injection k1 with k1
        subst k1
        rcases k2 with k2 | ⟨_, k2⟩
        · exact k2
        · obtain ⟨q1, q2⟩ := k2 k hrk
          rcases hk with hk | hk
          · exact absurd hk q1
          · omega
    have hlook : ∀ t, Operand.tmp t ∈ o.op.operands.toList → t ∈ o.looksAt ops := by
      intro t ht
      unfold Oper.looksAt
      rw [List.mem_append]
      left
      rw [List.mem_filterMap]
      exact ⟨_, ht, rfl⟩
    have hev : ∀ x, x ∈ o.op.operands.toList → (mrg (fun j => decide (j < i)) 0 rs σ).ev x = (mrg (fun j => listed.getD j false) 0 rs σ).ev x := by
      intro x hx
      cases x with
      | tmp t => exact agT t (hlook t hx)
      | _ => rfl
    have hstep' : stepR P tb ops (id + 16 * i) (mrg (fun j => listed.getD j false) 0 rs σ) o e := by
      cases hcp : isCopy o.op with
      | true => exact stepR_copy hcp hev agT hstep
      | false =>
        refine stepR_congr ⟨hev, fun x hx j hj => agO j (.inl ?_)⟩ (fun j j1 j2 => agO j (.inr ⟨j1, j2⟩)) agT hstep
        unfold rids
        rw [hcp, cond_false, List.mem_flatMap]
        exact ⟨x, hx, hj⟩
    have hok := stepR_sound (cx := cx) (ops := ops) hd hstep' a w (wpAny P .any ops Q fuel (listed.setIfInBounds i true)) Q hs fun a' w' hs' => by
      refine ih (listed.setIfInBounds i true) a' w' ?_ (by simpa using hsz) ?_ ?_
      · have := countP_set (l := listed.toList) (i := i) (by simp [hil, hi0])
        rw [Array.toList_setIfInBounds]
        omega
      · intro j oj hoj hl ed he1 he2
        by_cases hji : j = i
        · subst hji
          rw [ho] at hoj
          injection hoj with hoj
          subst hoj
          exact getD_set_true (hwait ed he1 he2)
        · rw [getD_set_ne false (Ne.symm hji)] at hl
          exact getD_set_true (hcl j oj hoj hl ed he1 he2)
      · have hins := mrg_insert (fun j => listed.getD j false) (i := i) (q := (o.dst, e)) rs 0 σ hrec (by rw [Nat.zero_add]; exact hiD) (fun j r hr hij hl => by
          rw [Nat.zero_add] at hl
          obtain ⟨oj, hoj⟩ := hopj j r hr
          obtain ⟨ej, k1, _, k3⟩ := key j oj hoj (by omega)
          rw [hr] at k1
          injection k1 with k1
          subst k1
          exact k3 hl hij)
        have hS : (fun j => (listed.setIfInBounds i true).getD j false) = fun j => (listed.getD j false || j == 0 + i) := by
          funext j
          by_cases hji : j = i
          · subst hji; simp [hil]
          · rw [getD_set_ne false (Ne.symm hji)]
            have : (j == 0 + i) = false := by simp; exact hji
            rw [this, Bool.or_false]
        rw [hS, hins]
        exact hs'
    unfold wpOp
    rw [ho]
    simp only
    split
    · rename_i hw
      rw [if_pos hw] at hok
      exact .inl hok
    · rename_i hw
      rw [if_neg hw] at hok
      exact hok
end

end Go.AL
