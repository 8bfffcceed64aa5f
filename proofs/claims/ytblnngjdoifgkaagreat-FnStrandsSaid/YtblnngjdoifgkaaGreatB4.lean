/- Tails: a slice's rest taken from a row of the call's own, and an append to it. A general part, over any program. -/
import Derived.Test.YtblnngjdoifgkaaGreatB3
import Derived.ArgAppend
set_option linter.unusedSimpArgs false
set_option linter.unusedVariables false
namespace Go.AL
open Go.RowKit

theorem setCell_heap {w : World} {g o : Nat} {v : Value} {cur : Array Value} {e : TypeId} {fr : Nat × Nat} (h : w.heap[g]? = some (.cells cur e fr)) :
    ∃ cur', (w.setCell ⟨g, o, none⟩ v).heap[g]? = some (.cells cur' e fr) ∧ cur'.size = cur.size := by
  refine ⟨cur.setIfInBounds o v, ?_, by simp⟩
  have hlt := (Array.getElem?_eq_some_iff.1 h).1
  have h2 := (Array.getElem?_eq_some_iff.1 h).2
  simp [World.setCell, h, h2, hlt, Array.getElem?_modify]
  rw [Array.getElem_modify_self, h2]

theorem setCells_heap {g : Nat} {e : TypeId} {fr : Nat × Nat} : ∀ (vs : List Value) (o : Nat) {w : World} {cur : Array Value}, w.heap[g]? = some (.cells cur e fr) →
    ∃ cur', (w.setCells g o vs).heap[g]? = some (.cells cur' e fr) ∧ cur'.size = cur.size
  | [], o, w, cur, h => ⟨cur, h, rfl⟩
  | v :: r, o, w, cur, h => by
    obtain ⟨c1, h1, h2⟩ := setCell_heap (o := o) (v := v) h
    obtain ⟨c2, h3, h4⟩ := setCells_heap r (o + 1) h1
    exact ⟨c2, h3, h4.trans h2⟩

theorem setCells_size (b : Nat) : ∀ (vs : List Value) (o : Nat) (w : World), (w.setCells b o vs).heap.size = w.heap.size
  | [], _, _ => rfl
  | v :: r, o, w => by
    rw [World.setCells, setCells_size b r]
    simp [World.setCell]

theorem setCells_other (b : Nat) : ∀ (vs : List Value) (o : Nat) (w : World) (k : Nat), k ≠ b → (w.setCells b o vs).heap[k]? = w.heap[k]?
  | [], _, _, _, _ => rfl
  | v :: r, o, w, k, hk => by
    rw [World.setCells, setCells_other b r _ _ k hk]
    simp [World.setCell, Array.getElem?_modify, Ne.symm hk]

theorem setCells_rest (b : Nat) : ∀ (vs : List Value) (o : Nat) (w : World), (w.setCells b o vs).os = w.os ∧ (w.setCells b o vs).tape = w.tape ∧ (w.setCells b o vs).output = w.output
  | [], _, _ => ⟨rfl, rfl, rfl⟩
  | v :: r, o, w => by
    obtain ⟨h1, h2, h3⟩ := setCells_rest b r (o + 1) (w.setCell ⟨b, o, none⟩ v)
    exact ⟨h1, h2, h3⟩

theorem cell_at {w : World} {g k : Nat} {cur : Array Value} {e : TypeId} {fr : Nat × Nat} (h : w.heap[g]? = some (.cells cur e fr)) : w.cell? ⟨g, k, none⟩ = cur.toList[k]? := by
  unfold World.cell?
  simp [h]

theorem app_tl {P : Program} {w : World} {lim : Nat → Nat} {B : Nat} {e T ty : TypeId} {t : Ty} (hT : TyOK P (.list t) T) (he : ElOK P T e) {xs ys : List t.den} {root x : Value} (hrow : TailOK w lim B e t xs root)
    (hx : RdV w lim (.list t) x ys) (hb : xs.length + ys.length ≤ 274877906944) (hB : B ≤ w.heap.size) :
    ∃ v' w' lim', (Builtin.append_ #[T, T] ty #[root, x]).run P w = .ok v' w' ∧ Keeps w lim w' lim' ∧ TailOK w' lim' B e t (xs ++ ys) v' ∧
      Below B w w' ∧ (∀ g, g < w.heap.size → blk root ≠ some g → w'.heap[g]? = w.heap[g]? ∧ lim' g = lim g) ∧ (blk v' = blk root ∨ ∀ g', blk v' = some g' → w.heap.size ≤ g') := by
  obtain ⟨hpos, ⟨hr, h0⟩ | ⟨g, off, cap, cur, hr, hbg, hh, hnc, hcm, hcs, hlim, hrd⟩⟩ := hrow
  · have hx0 : xs = [] := List.eq_nil_of_length_eq_zero h0
    subst hx0
    subst hr
    have hrow0 : RowOK w lim B e t [] (.slice none 0 0) := ⟨[], World.ownsRow_nil _ _ _ _, hpos, fun i h => absurd h (by simp)⟩
    obtain ⟨v', w', lim', k1, k2, k3, k4, k5, k6, k7⟩ := app_step (ty := ty) hT he hrow0 (fun g hg => by cases hg) hx hb hB
    refine ⟨v', w', lim', k1, k2, k3.tail k4, k5, k6, k7.imp id fun h g' hg => ?_⟩
    rw [h] at hg
    injection hg with hg
    omega
  · subst hr
    have hcl : cur.toList.length = cur.size := Array.length_toList
    obtain ⟨A, cx, x1, x2, x3, x4⟩ := hx.list
    subst x1
    obtain ⟨news, n1, n2, n3, n4⟩ := list_cells x4 ys.length (Nat.le_refl _)
    obtain ⟨he2, _⟩ := hT.el he
    have he := he
    unfold ElOK at he
    obtain ⟨i, i1, i2, i3, i4⟩ := he2.inf
    have hcx : xs.length * t.size ≤ cap * t.size := Nat.mul_le_mul_right _ hnc
    by_cases hm : ys.length = 0
    · have hy : ys = [] := List.eq_nil_of_length_eq_zero hm
      subst hy
      refine ⟨.slice (some ⟨g, off, none⟩) xs.length cap, w, lim, ?_, Keeps.refl _ _, ⟨hpos, .inr ⟨g, off, cap, cur, by simp, hbg, hh, by simpa using hnc, hcm, hcs, by simpa using hlim, fun i hi => ?_⟩⟩, Below.refl _ _, fun _ _ _ => ⟨rfl, rfl⟩, .inl rfl⟩
      · cases A <;> simp [Builtin.append_, run_underlying he, sizeOf, typeInfo, i1, Builtin.lenOf, Builtin.firstCells, loadCells, loadCellsFrom, hnc, storeCells]
      · have := hrd i (by simpa using hi)
        simpa using this
    · cases A with
      | none => obtain ⟨_, _, ha, _⟩ := x4 0 (by omega); cases ha
      | some a =>
        by_cases hroom : xs.length + ys.length ≤ cap
        · have hrm : xs.length * t.size + ys.length * t.size ≤ cap * t.size := by rw [← Nat.add_mul]; exact Nat.mul_le_mul_right _ hroom
          have hthere : ∀ j, j < news.length → (w.cell? ⟨g, off + xs.length * t.size + j, none⟩).isSome = true := fun j hj => by
            rw [cell_at hh, List.getElem?_eq_getElem (by rw [hcl]; omega)]
            rfl
          have hrun := run_append_room_cells (P := P) w T ty e i he i1 g off xs.length cap a ys.length cx news (by rw [i2]; exact n1) (n2 a rfl) n3 hroom (by rw [i2]; exact hthere) (fun j hj => by simp [World.frozen?, hh])
          rw [i2] at hrun
          obtain ⟨cur', c1, c2⟩ := setCells_heap news (off + xs.length * t.size) hh
          have hold : ∀ k, k < off + xs.length * t.size → cur'.toList[k]? = cur.toList[k]? := fun k hk => by
            rw [← cell_at c1, ← cell_at hh]
            exact World.cell?_setCells_out g news _ w _ (fun _ _ => .inl hk)
          have hnew : ∀ k, k < news.length → cur'.toList[off + xs.length * t.size + k]? = news[k]? := fun k hk => by
            rw [← cell_at c1, World.cell?_setCells_in g news _ w hthere k hk, List.getElem?_eq_getElem hk]
          have hk : Keeps w lim (w.setCells g (off + xs.length * t.size) news) (upd lim g (off + (xs ++ ys).length * t.size)) := by
            refine ⟨fun ad u hc hlt => ?_, fun b hbl => ?_⟩
            · rw [World.cell?_setCells_out g news _ w ad (fun h1 h2 => .inl ?_)]
              · exact hc
              · rw [h1, hlim (by omega)] at hlt
                exact hlt
            · by_cases e1 : b = g
              · subst e1
                rw [upd_same, hlim (by omega), List.length_append, Nat.add_mul]
                omega
              · rw [upd_ne _ _ _ _ e1]; exact Nat.le_refl _
          refine ⟨_, _, _, hrun, hk, ⟨hpos, .inr ⟨g, off, cap, cur', by rw [List.length_append], hbg, c1, by rw [List.length_append]; exact hroom, hcm, by rw [c2]; exact hcs, fun _ => by rw [upd_same], fun k hk9 => ?_⟩⟩, ?_, fun b hbl hne => ?_, .inl rfl⟩
          · rcases Nat.lt_or_ge k xs.length with hlt | hge
            · have hin : k * t.size + t.size ≤ xs.length * t.size := by
                rw [← Nat.succ_mul]; exact Nat.mul_le_mul_right _ hlt
              have e1 : (cur'.toList.drop (off + k * t.size)).take t.size = (cur.toList.drop (off + k * t.size)).take t.size := by
                apply List.ext_getElem?
                intro j
                rw [List.getElem?_take, List.getElem?_take]
                split
                · rw [List.getElem?_drop, List.getElem?_drop]
                  exact hold _ (by omega)
                · rfl
              have hg : (xs ++ ys)[k] = xs[k] := List.getElem_append_left hlt
              rw [e1, hg]
              exact (hrd k hlt).keeps hk
            · have hi' : k - xs.length < ys.length := by rw [List.length_append] at hk9; omega
              have hs : k * t.size = xs.length * t.size + (k - xs.length) * t.size := by rw [← Nat.add_mul]; congr 1; omega
              have hin : (k - xs.length) * t.size + t.size ≤ ys.length * t.size := by
                rw [← Nat.succ_mul]; exact Nat.mul_le_mul_right _ hi'
              have e1 : (cur'.toList.drop (off + k * t.size)).take t.size = (news.drop ((k - xs.length) * t.size)).take t.size := by
                apply List.ext_getElem?
                intro j
                rw [List.getElem?_take, List.getElem?_take]
                split
                · rw [List.getElem?_drop, List.getElem?_drop, ← hnew _ (by omega)]
                  congr 1
                  omega
                · rfl
              have hg : (xs ++ ys)[k] = ys[k - xs.length] := List.getElem_append_right hge
              rw [e1, hg]
              exact (n4 _ hi' hi').keeps hk
          · obtain ⟨r1, r2, r3⟩ := setCells_rest g news (off + xs.length * t.size) w
            exact ⟨r1, r2, r3, by rw [setCells_size]; exact Nat.le_refl _, fun k hk => setCells_other g news _ w k (by omega)⟩
          · have hbg' : b ≠ g := fun h => hne (by rw [h]; rfl)
            exact ⟨setCells_other g news _ w b hbg', upd_ne _ _ _ _ hbg'⟩
        · have hzc := mkV_cells (zcells_len t) (zcells_rd w (fun _ => 0) t).one
          have hzs : (mkV t t.zcells).cells.size = t.size := by
            have := congrArg List.length hzc
            rw [zcells_len] at this
            simpa using this
          have hby : (xs.length + ys.length) * i.bytes ≤ 140737488355328 := by
            have := Nat.mul_le_mul hb i4
            omega
          have holds : ∀ j u, ((cur.toList.drop off).take (xs.length * t.size))[j]? = some u → w.cell? ((⟨g, off, none⟩ : Addr).add j) = some u := by
            intro j u hu
            have hj : j < xs.length * t.size := by
              rcases Nat.lt_or_ge j (xs.length * t.size) with hj | hj
              · exact hj
              · rw [List.getElem?_take, if_neg (by omega)] at hu; cases hu
            rw [List.getElem?_take, if_pos hj, List.getElem?_drop] at hu
            have ea : (⟨g, off, none⟩ : Addr).add j = ⟨g, off + j, none⟩ := by
              unfold Addr.add; split
              · rename_i h0; rw [h0]; rfl
              · rfl
            rw [ea, cell_at hh]
            exact hu
          have hlo : ((cur.toList.drop off).take (xs.length * t.size)).length = xs.length * t.size := by
            rw [List.length_take, List.length_drop, hcl]
            omega
          obtain ⟨v', w', r1, r2, r3⟩ := run_append_arg_grows (P := P) w T ty e i _ t.size i.bytes he i1 i3 i2 rfl hzs hpos ⟨g, off, none⟩ xs.length cap _ hlo holds a ys.length cx news n1 (n2 a rfl) (by omega) (by simp only [maxLen]; omega) hby
          have b2 := own_blk r2
          have hge : ∀ g', v'.ownBlock = some g' → w.heap.size ≤ g' := fun g' h => (r2.lt g' h).1
          have hk : Keeps w lim w' (fun b => if v'.ownBlock = some b then (xs ++ ys).length * t.size else lim b) := by
            refine ⟨fun ad u hc hlt => ?_, fun b hbl => ?_⟩
            · rw [World.cell?_of_block (w := w) (r3.block ad.block (World.block_lt_of_cell? _ _ hc) (by simp))]; exact hc
            · show lim b ≤ (if v'.ownBlock = some b then (xs ++ ys).length * t.size else lim b)
              split
              · rename_i h; have := hge b h; omega
              · exact Nat.le_refl _
          have hro : RowOK w' (fun b => if v'.ownBlock = some b then (xs ++ ys).length * t.size else lim b) B e t (xs ++ ys) v' := by
            refine RowOK.lower hB ⟨_, by rw [List.length_append]; exact r2, hpos, fun k hk9 => ?_⟩
            rcases Nat.lt_or_ge k xs.length with hlt | hge
            · have hin : k * t.size + t.size ≤ xs.length * t.size := by
                rw [← Nat.succ_mul]; exact Nat.mul_le_mul_right _ hlt
              have e1 : ((((cur.toList.drop off).take (xs.length * t.size)) ++ news).drop (k * t.size)).take t.size = (cur.toList.drop (off + k * t.size)).take t.size := by
                rw [List.drop_append_of_le_length (by omega), List.take_append_of_le_length (by rw [List.length_drop]; omega), List.drop_take, List.take_take, Nat.min_eq_left (by omega), List.drop_drop]
              have hg : (xs ++ ys)[k] = xs[k] := List.getElem_append_left hlt
              rw [e1, hg]
              exact (hrd k hlt).keeps hk
            · have hi' : k - xs.length < ys.length := by rw [List.length_append] at hk9; omega
              have hs : k * t.size = xs.length * t.size + (k - xs.length) * t.size := by rw [← Nat.add_mul]; congr 1; omega
              have e1 : ((((cur.toList.drop off).take (xs.length * t.size)) ++ news).drop (k * t.size)).take t.size = (news.drop ((k - xs.length) * t.size)).take t.size := by
                rw [List.drop_append, List.drop_of_length_le (by omega), List.nil_append]
                congr 2
                omega
              have hg : (xs ++ ys)[k] = ys[k - xs.length] := List.getElem_append_right hge
              rw [e1, hg]
              exact (n4 _ hi' hi').keeps hk
          refine ⟨v', w', _, r1, hk, hro.tail (fun g' hg => by
            rw [b2] at hg
            show (if v'.ownBlock = some g' then _ else _) = _
            rw [if_pos hg]), (Below.refl B w).grown r3 hB (fun g' hg => by cases hg), fun b hbl hne => ⟨r3.block b hbl (by simp), ?_⟩, ?_⟩
          · show (if v'.ownBlock = some b then _ else _) = _
            rw [if_neg]
            intro h
            have := hge b h
            omega
          · right
            rw [b2]
            exact hge

section
variable {P : Program} {cx : Cx} {σ : St} {o : Oper} (hd : ∀ k, o.dst = some k → k < cx.N)
include hd

theorem op_app_tl {T e : TypeId} {t : Ty} {s x : Operand} {id0 id : Nat} {xs : List t.den} (ho : o.op = .call { callee := .builtin .append, args := #[s, x], argTypes := #[T, T] }) (hT : TyOK P (.list t) T) (he : ElOK P T e)
    (hc : σ.uc s) (hs : σ.un s = .own id0) (hr : σ.objs id0 = .tl e t xs) (hx : σ.tc (.list t) x) (hu : σ.objs id = .unborn) (hb : xs.length + (σ.tv (.list t) x).length ≤ 274877906944) :
    OpOK P cx σ o ⟨.own id, [(id0, .dead), (id, .tl e t (xs ++ σ.tv (.list t) x))]⟩ := by
  intro a w K Q hsat hK
  obtain ⟨lim, G, hh, hf⟩ := hsat
  have h1 := un_ok hf s hc
  rw [hs] at h1
  simp only [AVok, hr] at h1
  have h1 := h1.2 rfl
  have h2 := tc_ok hh hf hx
  have h3 := hh.obj id0
  rw [hr] at h3
  simp only [ObjOK] at h3
  obtain ⟨v', w', lim', k1, k2, k3, k5, k6, k7⟩ := app_tl (ty := o.type) hT he h3 h2 hb (Nat.zero_le _)
  have hrun : (execOp a.eval o).run P w = .ok (.value v') w' := by
    simp only [execOp, ho, resolve, invoke, builtin, Sem.run_bind, Sem.run_pure, Result.andThen_ok, List.map_toArray, List.map_cons, List.map_nil, h1, k1]
  unfold Oper.wp
  rw [hrun]
  refine hK _ _ ?_
  have hne : id ≠ id0 := by rintro rfl; rw [hr] at hu; cases hu
  have hkill := hh.kill id0
  have hu' : (upd σ.objs id0 .dead) id = .unborn := by rw [upd_ne _ _ _ _ hne]; exact hu
  have hlive0 : (σ.objs id0).live = true := by rw [hr]; rfl
  have hnot : ∀ b, b < cx.B → ¬ cx.L b → blk (G id0) ≠ some b := fun b hlt hL hg => by
    rcases hh.mine id0 b hlive0 hg with h | h
    · omega
    · exact hL h
  have hbl : BelowL cx.L cx.B w w' := ⟨k5.os, k5.tape, k5.output, k5.size, fun b hlt hL => (k6 b (Nat.lt_of_lt_of_le hlt hh.B_le) (hnot b hlt hL)).1⟩
  have hold : ∀ i g, ((upd σ.objs id0 .dead) i).live = true → blk (G i) = some g → w'.heap[g]? = w.heap[g]? ∧ lim' g = lim g := by
    intro i g hl hg
    have hi : i ≠ id0 := by rintro rfl; rw [upd_same] at hl; cases hl
    rw [upd_ne _ _ _ _ hi] at hl
    refine k6 g ((hh.obj i).block_ge hl g hg).2 fun hg0 => hh.sep i id0 g hi hl hlive0 hg hg0
  have hnew := hkill.new hu' (r := v') (o := .tl e t (xs ++ σ.tv (.list t) x)) (hh.below.trans hbl) k2 hold
    (fun b hlt hL => (k6 b (Nat.lt_of_lt_of_le hlt hh.B_le) (hnot b hlt hL)).2)
    (fun i g hl hg hv => by
      have hi : i ≠ id0 := by rintro rfl; rw [upd_same] at hl; cases hl
      rw [upd_ne _ _ _ _ hi] at hl
      have hlt := ((hh.obj i).block_ge hl g hg).2
      rcases k7 with k7 | k7
      · rw [k7] at hv; exact hh.sep i id0 g hi hl hlive0 hg hv
      · have := k7 g hv; omega)
    (fun g hg => by
      rcases k7 with k7 | k7
      · rw [k7] at hg; exact hh.mine id0 g hlive0 hg
      · exact .inl (by have := hh.B_le; have := k7 g hg; omega))
    (by simp only [ObjOK]; exact k3)
  have hfr := (hf.keeps (Keeps.refl w lim) (Ext.kill id0)).keeps k2 (Ext.new hu' v' (.tl e t (xs ++ σ.tv (.list t) x)))
  have e : σ.app o.dst ⟨.own id, [(id0, .dead), (id, .tl e t (xs ++ σ.tv (.list t) x))]⟩ = ({ tmps := σ.tmps, objs := upd (upd σ.objs id0 .dead) id (.tl e t (xs ++ σ.tv (.list t) x)) } : St).put o.dst (.own id) := by
    unfold St.app St.put
    cases o.dst <;> rfl
  rw [e]
  refine ⟨_, _, ?_, hfr.put hd (v := v') (by simp only [AVok, upd_same]; exact ⟨rfl, fun _ => trivial⟩)⟩
  rw [put_objs]
  exact hnew

/-- The rest of a row of the call's own, from l on: the row itself is given up. -/
theorem op_slice_tl {T e : TypeId} {x y : Operand} {t : Ty} {id0 id : Nat} {xs : List t.den} (l : Nat) (ho : o.op = .slice T x (some y) none none) (hT : TyOK P (.list t) T) (hc : σ.uc x) (hs : σ.un x = .own id0) (hr : σ.objs id0 = .row e t xs)
    (hy : σ.tc (.int .i64) y) (hyl : σ.ti .i64 y = (l : Int)) (hl : l ≤ xs.length) (hu : σ.objs id = .unborn) :
    OpOK P cx σ o ⟨.own id, [(id0, .dead), (id, .tl e t (xs.drop l))]⟩ := by
  intro a w K Q hsat hK
  obtain ⟨lim, G, hh, hf⟩ := hsat
  have h1 := un_ok hf x hc
  rw [hs] at h1
  simp only [AVok, hr] at h1
  have h1 := h1.2 rfl
  have h3 := hh.obj id0
  rw [hr] at h3
  simp only [ObjOK] at h3
  obtain ⟨⟨vs, hown, hpos, hrd⟩, hlim⟩ := h3
  have hTy := hT
  simp only [TyOK] at hT
  obtain ⟨e', u1, u2, _⟩ := hT
  have hyv : a.eval y = .int .i64 (l : Int) := by rw [← hyl]; exact (tc_int hh hf hy).1
  have key : ∃ v', (execOp a.eval o).run P w = .ok (.value v') w ∧ TailOK w lim 0 e t (xs.drop l) v' ∧ blk v' = blk (G id0) := by
    rcases hown.2 with ⟨hv, h0⟩ | ⟨g, cap, cur, hv, hbg, hg, hnc, hcm, hcs, htk⟩
    · have hl0 : l = 0 := by omega
      subst hl0
      refine ⟨.slice none 0 0, ?_, ⟨hpos, .inl ⟨rfl, by simpa using h0⟩⟩, by rw [hv]⟩
      simp [execOp, ho, h1, hv, hyv, Instr.sliceAt, run_underlying u1, Instr.slice, Instr.sliceBounds, Instr.sliceBound, asIntOf, run_sizeOf' u2]
      try rfl
    · have c3 : l ≤ cap := by omega
      have n0 : ∀ m : Nat, (0 : Int) ≤ (m : Int) := fun m => by omega
      have hlx : xs.length * t.size ≤ cap * t.size := Nat.mul_le_mul_right _ hnc
      have hll : l * t.size ≤ xs.length * t.size := Nat.mul_le_mul_right _ hl
      have hg0 := hlim g (by rw [hv]; rfl)
      refine ⟨.slice (if cap = l then some ⟨g, 0, none⟩ else (some (⟨g, 0, none⟩ : Addr)).map (·.add (l * t.size))) (xs.length - l) (cap - l), ?_, ?_, ?_⟩
      · have c1 : ((xs.length : Nat) : Int) ≤ (cap : Int) := by omega
        have c2 : (l : Int) ≤ (xs.length : Int) := by omega
        simp [execOp, ho, h1, hv, hyv, Instr.sliceAt, run_underlying u1, Instr.slice, Instr.sliceBounds, Instr.sliceBound, asIntOf, run_sizeOf' u2, *] <;> rfl
      · by_cases hcl : cap = l
        · refine ⟨hpos, .inr ⟨g, 0, cap - l, cur, by rw [if_pos hcl, List.length_drop], Nat.zero_le _, hg, by rw [List.length_drop]; omega, by omega, by rw [show cap - l = 0 by omega]; omega, fun h => absurd h (by omega), fun i hi => ?_⟩⟩
          rw [List.length_drop] at hi
          omega
        · have ea : (⟨g, 0, none⟩ : Addr).add (l * t.size) = ⟨g, l * t.size, none⟩ := by
            unfold Addr.add; split
            · rename_i h0; rw [h0]
            · simp
          have e1 : l * t.size + (cap - l) * t.size = cap * t.size := by rw [← Nat.add_mul]; congr 1; omega
          have e2 : l * t.size + (xs.length - l) * t.size = xs.length * t.size := by rw [← Nat.add_mul]; congr 1; omega
          refine ⟨hpos, .inr ⟨g, l * t.size, cap - l, cur, by rw [if_neg hcl, List.length_drop, Option.map_some, ea], Nat.zero_le _, hg, by rw [List.length_drop]; omega, by omega, by omega, fun _ => by rw [hg0, List.length_drop]; omega, fun i hi => ?_⟩⟩
          rw [List.length_drop] at hi
          have := hrd (l + i) (by omega)
          have hin : (l + i) * t.size + t.size ≤ xs.length * t.size := by
            rw [← Nat.succ_mul]; exact Nat.mul_le_mul_right _ (by omega)
          rw [← htk, List.drop_take, List.take_take, Nat.min_eq_left (by omega), Nat.add_mul] at this
          rw [List.getElem_drop]
          exact this
      · rw [hv]
        by_cases hcl : cap = l
        · rw [if_pos hcl]; rfl
        · rw [if_neg hcl]
          show some (Addr.add _ _).block = _
          rw [block_add]
          rfl
  obtain ⟨v', hrun, k3, k7⟩ := key
  unfold Oper.wp
  rw [hrun]
  refine hK _ _ ?_
  have hne : id ≠ id0 := by rintro rfl; rw [hr] at hu; cases hu
  have hkill := hh.kill id0
  have hu' : (upd σ.objs id0 .dead) id = .unborn := by rw [upd_ne _ _ _ _ hne]; exact hu
  have hlive0 : (σ.objs id0).live = true := by rw [hr]; rfl
  have hnew := hkill.new hu' (r := v') (o := .tl e t (xs.drop l)) hh.below (Keeps.refl w lim) (fun _ _ _ _ => ⟨rfl, rfl⟩) (fun _ _ _ => rfl)
    (fun i g hl hg hv => by
      have hi : i ≠ id0 := by rintro rfl; rw [upd_same] at hl; cases hl
      rw [upd_ne _ _ _ _ hi] at hl
      rw [k7] at hv
      exact hh.sep i id0 g hi hl hlive0 hg hv)
    (fun g hg => by rw [k7] at hg; exact hh.mine id0 g hlive0 hg)
    (by simp only [ObjOK]; exact k3)
  have hfr := (hf.keeps (Keeps.refl w lim) (Ext.kill id0)).keeps (Keeps.refl w lim) (Ext.new hu' v' (.tl e t (xs.drop l)))
  have e : σ.app o.dst ⟨.own id, [(id0, .dead), (id, .tl e t (xs.drop l))]⟩ = ({ tmps := σ.tmps, objs := upd (upd σ.objs id0 .dead) id (.tl e t (xs.drop l)) } : St).put o.dst (.own id) := by
    unfold St.app St.put
    cases o.dst <;> rfl
  rw [e]
  refine ⟨_, _, ?_, hfr.put hd (v := v') (by simp only [AVok, upd_same]; exact ⟨rfl, fun _ => trivial⟩)⟩
  rw [put_objs]
  exact hnew

end

end Go.AL
/- One operation reckoned: what it gives, what it asks, that this is sound, and on what it hangs. A general part, over any program. -/
set_option linter.unusedSimpArgs false
set_option linter.unusedVariables false
namespace Go.AL
open Go.RowKit

def slD (σ : St) (t : Ty) (x : Operand) (lo hi : Option Operand) : List t.den :=
  ((σ.tv (.list t) x).take (match hi with | some y => (σ.ti .i64 y).toNat | none => (σ.tv (.list t) x).length)).drop (match lo with | some y => (σ.ti .i64 y).toNat | none => 0)

def slC (σ : St) (t : Ty) (x : Operand) (lo hi : Option Operand) : Prop :=
  σ.tc (.list t) x ∧ (match lo with | some y => σ.tc (.int .i64) y ∧ 0 ≤ σ.ti .i64 y | none => True) ∧ (match hi with | some y => σ.tc (.int .i64) y ∧ 0 ≤ σ.ti .i64 y | none => True) ∧
  (match lo with | some y => σ.ti .i64 y | none => 0) ≤ (match hi with | some y => σ.ti .i64 y | none => ((σ.tv (.list t) x).length : Int)) ∧
  (match hi with | some y => σ.ti .i64 y | none => ((σ.tv (.list t) x).length : Int)) ≤ ((σ.tv (.list t) x).length : Int)

/-- The rest of a row of the call's own (no upper bound is named): the row is given up for it. -/
def slE (σ : St) (id : Nat) (t : Ty) (x : Operand) (lo hi : Option Operand) : Eff :=
  match lo, hi with
  | some y, none => match σ.un x with
    | .own i => match σ.objs i with
      | .row e _ _ => ⟨.own id, [(i, .dead), (id, .tl e t ((rowOf σ.objs i t).drop (σ.ti .i64 y).toNat))]⟩
      | _ => ⟨.rd (.list t) (slD σ t x lo hi), []⟩
    | _ => ⟨.rd (.list t) (slD σ t x lo hi), []⟩
  | _, _ => ⟨.rd (.list t) (slD σ t x lo hi), []⟩
def slP (σ : St) (id : Nat) (t : Ty) (x : Operand) (lo hi : Option Operand) : Prop :=
  match lo, hi with
  | some y, none => match σ.un x with
    | .own i => match σ.objs i with
      | .row _ t' _ => t' = t ∧ σ.uc x ∧ σ.objs id = .unborn ∧ σ.tc (.int .i64) y ∧ 0 ≤ σ.ti .i64 y ∧ σ.ti .i64 y ≤ ((rowOf σ.objs i t).length : Int)
      | _ => slC σ t x lo hi
    | _ => slC σ t x lo hi
  | _, _ => slC σ t x lo hi

def iaE (σ : St) (t : Ty) (x ix : Operand) : Eff :=
  match σ.un x with
  | .own i => match σ.objs i with
    | .arr _ t' _ => ⟨.ep i t'.size (σ.ti .i64 ix).toNat, []⟩
    | _ => ⟨.ptr t ((σ.tv (.list t) x).getD (σ.ti .i64 ix).toNat t.dflt), []⟩
  | _ => ⟨.ptr t ((σ.tv (.list t) x).getD (σ.ti .i64 ix).toNat t.dflt), []⟩

def iaC (σ : St) (t : Ty) (x ix : Operand) : Prop :=
  match σ.un x with
  | .own i => match σ.objs i with
    | .arr _ t' xs => t' = t ∧ σ.uc x ∧ σ.tc (.int .i64) ix ∧ 0 ≤ σ.ti .i64 ix ∧ σ.ti .i64 ix < (xs.length : Int)
    | _ => σ.tc (.list t) x ∧ σ.tc (.int .i64) ix ∧ 0 ≤ σ.ti .i64 ix ∧ σ.ti .i64 ix < ((σ.tv (.list t) x).length : Int)
  | _ => σ.tc (.list t) x ∧ σ.tc (.int .i64) ix ∧ 0 ≤ σ.ti .i64 ix ∧ σ.ti .i64 ix < ((σ.tv (.list t) x).length : Int)

def lnD (σ : St) (t : Ty) (x : Operand) : Nat :=
  match σ.un x with
  | .own i => match σ.objs i with
    | .arr _ _ xs => xs.length
    | _ => (σ.tv (.list t) x).length
  | _ => (σ.tv (.list t) x).length

def lnC (σ : St) (t : Ty) (x : Operand) : Prop :=
  match σ.un x with
  | .own i => match σ.objs i with
    | .arr _ t' _ => t' = t ∧ σ.uc x
    | _ => σ.tc (.list t) x
  | _ => σ.tc (.list t) x

/-- What an operation other than a call gives. 'id': the number for a new object. -/
noncomputable def peff (tb : Tb) (id : Nat) (σ : St) : Op → Eff
  | .move x => ⟨σ.ev x, []⟩
  | .nilCheck x => ⟨σ.un x, []⟩
  | .assign x => ⟨σ.ev x, []⟩
  | .pick c x y => ⟨.rd .bool (bif σ.tb c then σ.tb x else σ.tb y), []⟩
  | .box T x => ⟨.bp id 0, [(id, .box T (cellsAV (σ.un x)))]⟩
  | .alloc T => ⟨.bp id 0, [(id, .box T (tb.ty T).zeros)]⟩
  | .load T x => match σ.un x with
    | .ptr t y => ⟨.rd t y, []⟩
    | .bp i off => match σ.objs i with
      | .box _ cs => ⟨boxLoad (tb.ty T) cs off, []⟩
      | _ => ⟨.any, []⟩
    | .ep i _ k => match σ.objs i with
      | .arr _ t xs => ⟨.rd t (xs.getD k t.dflt), []⟩
      | _ => ⟨.any, []⟩
    | _ => ⟨.any, []⟩
  | .store T x y => match σ.un x with
    | .bp i off => match σ.objs i with
      | .box T' cs => ⟨.any, [(i, .box T' (cs.take off ++ cellsAV (σ.un y) ++ cs.drop (off + (tb.ty T).size)))]⟩
      | _ => ⟨.any, []⟩
    | .ep i _ k => match σ.objs i with
      | .arr e t xs => ⟨.any, [(i, .arr e t (xs.set k (σ.tv t y)))]⟩
      | _ => ⟨.any, []⟩
    | .ef i _ k f => match σ.objs i with
      | .arr e t xs => ⟨.any, [(i, .arr e t (xs.set k (setF t (xs.getD k t.dflt) f (σ.tv (fldT t f) y))))]⟩
      | _ => ⟨.any, []⟩
    | _ => ⟨.any, []⟩
  | .fieldAddr _ x i => match σ.un x with
    | .ptr t y => ⟨.ptr (fldT t i) (fldD t y i), []⟩
    | .bp j off => ⟨.bp j (off + i), []⟩
    | .ep j sz k => ⟨.ef j sz k i, []⟩
    | _ => ⟨.any, []⟩
  | .field _ x i => match σ.un x with
    | .rd t y => ⟨.rd (fldT t i) (fldD t y i), []⟩
    | .agg cs => ⟨cs.getD i .any, []⟩
    | _ => ⟨.any, []⟩
  | .extract x i => match σ.un x with
    | .tup cs => ⟨cs.getD i .any, []⟩
    | _ => ⟨.any, []⟩
  | .indexAddr T x ix => match tb.ty T with
    | .list t => iaE σ t x ix
    | _ => ⟨.any, []⟩
  | .index _ x ix => match σ.un x with
    | .agg cs => ⟨.rd (.int .i64) ((intsOf cs).getD (σ.ti .i64 ix).toNat 0), []⟩
    | _ => ⟨.rd (.int .u8) (((σ.ts x).data.toList.getD (σ.ti .i64 ix).toNat 0).toNat : Int), []⟩
  | .slice T x lo hi none => match tb.ty T with
    | .list t => slE σ id t x lo hi
    | _ => ⟨.any, []⟩
  | .build T ps => ⟨.agg (setAll σ ps.toList (tb.ty T).zeros), []⟩
  | .buildSlice T _ ps => match tb.ty T with
    | .list t => ⟨.own id, [(id, .row (tb.el T) t (litD σ t ps.toList))]⟩
    | _ => ⟨.any, []⟩
  | .makeSlice T l _ => match tb.ty T with
    | .list t => ⟨.own id, [(id, .arr (tb.el T) t (List.replicate (σ.ti .i64 l).toNat t.dflt))]⟩
    | _ => ⟨.any, []⟩
  | .makeFunc (.func f) first caps => match first.toList, caps.toList with
    | [], [x] => ⟨.fn f [σ.un x], []⟩
    | _, _ => ⟨.any, []⟩
  | .binOp op T x y T' => match op, tb.ty T with
    | .shl, .int k => match tb.ty T' with
      | .int k' => ⟨bopI .shl k (σ.ti k x) (σ.ti k' y), []⟩
      | _ => ⟨.any, []⟩
    | .shr, .int k => match tb.ty T' with
      | .int k' => ⟨bopI .shr k (σ.ti k x) (σ.ti k' y), []⟩
      | _ => ⟨.any, []⟩
    | op, .int k => ⟨bopI op k (σ.ti k x) (σ.ti k y), []⟩
    | .eql, .bool => ⟨.rd .bool (σ.tb x == σ.tb y), []⟩
    | .neq, .bool => ⟨.rd .bool (σ.tb x != σ.tb y), []⟩
    | .add, .str => ⟨.rd .str (σ.ts x ++ σ.ts y), []⟩
    | .eql, .str => ⟨.rd .bool ((σ.ts x).toList == (σ.ts y).toList), []⟩
    | .neq, .str => ⟨.rd .bool (!((σ.ts x).toList == (σ.ts y).toList)), []⟩
    | .eql, .cons a b => ⟨.rd .bool (eqC (σ.tv (.cons a b) x) (σ.tv (.cons a b) y)), []⟩
    | .neq, .cons a b => ⟨.rd .bool (!eqC (σ.tv (.cons a b) x) (σ.tv (.cons a b) y)), []⟩
    | _, _ => ⟨.any, []⟩
  | .unOp _ _ x => ⟨.rd .bool (!σ.tb x), []⟩
  | .convert S T x => match tb.ty S, tb.ty T with
    | .int k, .int k' => ⟨.rd (.int k') (k'.wrap (σ.ti k x)), []⟩
    | .str, .list (.int .u8) => ⟨.rd (.list (.int .u8)) (byL (σ.ts x)), []⟩
    | .list (.int .u8), .str => ⟨.rd .str (byS (σ.tv (.list (.int .u8)) x)), []⟩
    | _, _ => ⟨.any, []⟩
  | .call { callee := .builtin .len, args := as, argTypes := ts } => match as.toList, ts.toList with
    | [x], [T] => match tb.ty T with
      | .list t => ⟨.rd (.int .i64) (lnD σ t x : Int), []⟩
      | _ => ⟨.rd (.int .i64) ((σ.ts x).size : Int), []⟩
    | _, _ => ⟨.any, []⟩
  | .call { callee := .builtin .min, args := as, argTypes := _ } => match as.toList with
    | [x, y] => ⟨.rd (.int .i64) (if σ.ti .i64 y < σ.ti .i64 x then σ.ti .i64 y else σ.ti .i64 x), []⟩
    | _ => ⟨.any, []⟩
  | .call { callee := .builtin .max, args := as, argTypes := _ } => match as.toList with
    | [x, y] => ⟨.rd (.int .i64) (if σ.ti .i64 y > σ.ti .i64 x then σ.ti .i64 y else σ.ti .i64 x), []⟩
    | _ => ⟨.any, []⟩
  | .call { callee := .builtin .append, args := as, argTypes := ts } => match as.toList, ts.toList with
    | [s, x], [T, _] => match tb.ty T with
      | .list t => match σ.un s with
        | .own i => match σ.objs i with
          | .arr _ t' xs => ⟨.own id, [(i, .dead), (id, .arr (tb.el T) t (castTo (.list t) (.list t') xs ++ σ.tv (.list t) x))]⟩
          | .tl _ _ _ => ⟨.own id, [(i, .dead), (id, .tl (tb.el T) t (rowOf σ.objs i t ++ σ.tv (.list t) x))]⟩
          | _ => ⟨.own id, [(i, .dead), (id, .row (tb.el T) t (rowOf σ.objs i t ++ σ.tv (.list t) x))]⟩
        | .nils => ⟨.own id, [(id, .row (tb.el T) t (σ.tv (.list t) x))]⟩
        | _ => ⟨.any, []⟩
      | _ => ⟨.any, []⟩
    | _, _ => ⟨.any, []⟩
  | _ => ⟨.any, []⟩

/-- What an operation other than a call asks. -/
def pvc (P : Program) (tb : Tb) (id : Nat) (σ : St) (dst : Option Nat) : Op → Prop
  | .move _ => True
  | .assign _ => True
  | .nilCheck x => σ.uc x ∧ match σ.un x with
    | .ptr _ _ => True
    | .bp j _ => (σ.objs j).live = true
    | _ => False
  | .pick c x y => σ.tc .bool c ∧ (σ.tb c = true → σ.tc .bool x) ∧ (σ.tb c = false → σ.tc .bool y)
  | .box T x => σ.uc x ∧ cellsC σ.objs (tb.ty T) (σ.un x) ∧ σ.objs id = .unborn
  | .alloc T => TyOK P (tb.ty T) T ∧ σ.objs id = .unborn
  | .load T x => σ.uc x ∧ match σ.un x with
    | .ptr t _ => TyOK P t T
    | .bp i off => match σ.objs i with
      | .box _ cs => TyOK P (tb.ty T) T ∧ off + (tb.ty T).size ≤ cs.length
      | _ => False
    | .ep i sz k => match σ.objs i with
      | .arr _ t xs => sz = t.size ∧ k < xs.length ∧ TyOK P t T
      | _ => False
    | _ => False
  | .store T x y => dst = none ∧ σ.uc x ∧ match σ.un x with
    | .bp i off => match σ.objs i with
      | .box _ cs => TyOK P (tb.ty T) T ∧ off + (tb.ty T).size ≤ cs.length ∧ σ.uc y ∧ cellsC σ.objs (tb.ty T) (σ.un y)
      | _ => False
    | .ep i sz k => match σ.objs i with
      | .arr _ t xs => sz = t.size ∧ k < xs.length ∧ TyOK P t T ∧ σ.tc t y
      | _ => False
    | .ef i sz k f => match σ.objs i with
      | .arr e t xs => sz = t.size ∧ k < xs.length ∧ TyOK P t e ∧ f < t.nf ∧ TyOK P (fldT t f) T ∧ σ.tc (fldT t f) y
      | _ => False
    | _ => False
  | .fieldAddr T x i => σ.uc x ∧ TyOK P (tb.ty T) T ∧ i < (tb.ty T).nf ∧ match σ.un x with
    | .ptr t _ => t = tb.ty T
    | .bp j _ => (σ.objs j).live = true
    | .ep j _ _ => (σ.objs j).live = true
    | _ => False
  | .field T x i => σ.uc x ∧ TyOK P (tb.ty T) T ∧ i < (tb.ty T).nf ∧ match σ.un x with
    | .rd t _ => t = tb.ty T
    | .agg cs => i < cs.length
    | _ => False
  | .extract x i => σ.uc x ∧ match σ.un x with
    | .tup cs => i < cs.length
    | _ => False
  | .indexAddr T x ix => TyOK P (tb.ty T) T ∧ match tb.ty T with
    | .list t => iaC σ t x ix
    | _ => False
  | .index T x ix => match σ.un x with
    | .agg cs => σ.uc x ∧ ArrOK P cs.length T ∧ σ.tc (.int .i64) ix ∧ 0 ≤ σ.ti .i64 ix ∧ σ.ti .i64 ix < (cs.length : Int) ∧ intsC cs = true
    | _ => TyOK P .str T ∧ σ.tc .str x ∧ σ.tc (.int .i64) ix ∧ 0 ≤ σ.ti .i64 ix ∧ σ.ti .i64 ix < ((σ.ts x).size : Int)
  | .slice T x lo hi none => TyOK P (tb.ty T) T ∧ match tb.ty T with
    | .list t => slP σ id t x lo hi
    | _ => False
  | .build T ps => (TyOK P (tb.ty T) T ∨ (arrTy (tb.ty T).nf = tb.ty T ∧ ArrOK P (tb.ty T).nf T)) ∧ match tb.ty T with
    | .cons h t => (Ty.cons h t).size = (Ty.cons h t).nf ∧ setAllC σ (Ty.cons h t).nf ps.toList
    | _ => False
  | .buildSlice T n ps => TyOK P (tb.ty T) T ∧ ElOK P T (tb.el T) ∧ σ.objs id = .unborn ∧ ps.toList.length = n ∧ match tb.ty T with
    | .list t => litC σ t 0 ps.toList ∧ n * t.size ≤ 16777216
    | _ => False
  | .makeSlice T l c => TyOK P (tb.ty T) T ∧ ElOK P T (tb.el T) ∧ σ.objs id = .unborn ∧ σ.tc (.int .i64) l ∧ σ.tc (.int .i64) c ∧ σ.ti .i64 l = σ.ti .i64 c ∧ 0 ≤ σ.ti .i64 l ∧ σ.ti .i64 l ≤ 274877906944 ∧ match tb.ty T with
    | .list _ => True
    | _ => False
  | .makeFunc (.func _) first caps => match first.toList, caps.toList with
    | [], [x] => σ.uc x
    | _, _ => False
  | .binOp op T x y T' => match op, tb.ty T with
    | .shl, .int k => match tb.ty T' with
      | .int k' => σ.tc (.int k) x ∧ σ.tc (.int k') y ∧ 0 ≤ σ.ti k' y
      | _ => False
    | .shr, .int k => match tb.ty T' with
      | .int k' => σ.tc (.int k) x ∧ σ.tc (.int k') y ∧ 0 ≤ σ.ti k' y
      | _ => False
    | op, .int k => σ.tc (.int k) x ∧ σ.tc (.int k) y ∧ bopC op (σ.ti k y)
    | .eql, .bool => TyOK P .bool T ∧ σ.tc .bool x ∧ σ.tc .bool y
    | .neq, .bool => TyOK P .bool T ∧ σ.tc .bool x ∧ σ.tc .bool y
    | .add, .str => σ.tc .str x ∧ σ.tc .str y ∧ (σ.ts x).size + (σ.ts y).size ≤ maxLen
    | .eql, .str => σ.tc .str x ∧ σ.tc .str y
    | .neq, .str => σ.tc .str x ∧ σ.tc .str y
    | .eql, .cons a b => TyOK P (.cons a b) T ∧ EqSt P T ∧ (Ty.cons a b).basic = true ∧ σ.tc (.cons a b) x ∧ σ.tc (.cons a b) y
    | .neq, .cons a b => TyOK P (.cons a b) T ∧ EqSt P T ∧ (Ty.cons a b).basic = true ∧ σ.tc (.cons a b) x ∧ σ.tc (.cons a b) y
    | _, _ => False
  | .unOp op _ x => op = .not ∧ σ.tc .bool x
  | .convert S T x => match tb.ty S, tb.ty T with
    | .int k, .int k' => TyOK P (.int k) S ∧ TyOK P (.int k') T ∧ σ.tc (.int k) x
    | .str, .list (.int .u8) => TyOK P .str S ∧ TyOK P (.list (.int .u8)) T ∧ σ.tc .str x
    | .list (.int .u8), .str => TyOK P (.list (.int .u8)) S ∧ TyOK P .str T ∧ σ.tc (.list (.int .u8)) x
    | _, _ => False
  | .call { callee := .builtin .len, args := as, argTypes := ts } => match as.toList, ts.toList with
    | [x], [T] => TyOK P (tb.ty T) T ∧ match tb.ty T with
      | .list t => lnC σ t x
      | .str => σ.tc .str x
      | _ => False
    | _, _ => False
  | .call { callee := .builtin .min, args := as, argTypes := _ } => match as.toList with
    | [x, y] => σ.tc (.int .i64) x ∧ σ.tc (.int .i64) y
    | _ => False
  | .call { callee := .builtin .max, args := as, argTypes := _ } => match as.toList with
    | [x, y] => σ.tc (.int .i64) x ∧ σ.tc (.int .i64) y
    | _ => False
  | .call { callee := .builtin .append, args := as, argTypes := ts } => match as.toList, ts.toList with
    | [s, x], [T, T2] => T2 = T ∧ TyOK P (tb.ty T) T ∧ ElOK P T (tb.el T) ∧ σ.objs id = .unborn ∧ match tb.ty T with
      | .list t => σ.uc s ∧ σ.tc (.list t) x ∧ match σ.un s with
        | .own i => match σ.objs i with
          | .row e t' xs => e = tb.el T ∧ t' = t ∧ xs.length + (σ.tv (.list t) x).length ≤ 274877906944
          | .arr e t' xs => e = tb.el T ∧ t' = t ∧ xs.length + (σ.tv (.list t) x).length ≤ 274877906944
          | .tl e t' xs => e = tb.el T ∧ t' = t ∧ xs.length + (σ.tv (.list t) x).length ≤ 274877906944
          | _ => False
        | .nils => (σ.tv (.list t) x).length ≤ 274877906944
        | _ => False
      | _ => False
    | _, _ => False
  | _ => False

theorem arr1 {α : Type} {as : Array α} {l : List α} (h : as.toList = l) : as = l.toArray := by rw [← h]

section
variable {P : Program} {cx : Cx} {σ : St} {o : Oper} {tb : Tb} {id : Nat}

theorem op_makeFunc {f : FuncId} {x : Operand} (hd : ∀ k, o.dst = some k → k < cx.N) (ho : o.op = .makeFunc (.func f) #[] #[x]) (hc : σ.uc x) : OpOK P cx σ o ⟨.fn f [σ.un x], []⟩ :=
  OpOK.of_value hd fun a w lim G hh hf => by
    refine ⟨.func (.func f) #[] #[a.eval x], ?_, ?_⟩
    · simp [execOp, ho, Instr.makeFunc]
    · simp only [AVok, AVsOk]
      exact ⟨[a.eval x], rfl, _, _, rfl, un_ok hf x hc, rfl⟩

theorem op_nilCheck {x : Operand} (hd : ∀ k, o.dst = some k → k < cx.N) (ho : o.op = .nilCheck x) (hc : σ.uc x) (h : match σ.un x with
    | .ptr _ _ => True
    | .bp j _ => (σ.objs j).live = true
    | _ => False) : OpOK P cx σ o ⟨σ.un x, []⟩ :=
  OpOK.of_value hd fun a w lim G hh hf => by
    have hv := un_ok hf x hc
    have hp : ∃ ad, a.eval x = .pointer (some ad) := by
      cases hu : σ.un x <;> rw [hu] at h hv <;> simp only at h
      · simp only [AVok] at hv
        obtain ⟨ad, _, h1, _⟩ := hv
        exact ⟨ad, h1⟩
      · simp only [AVok] at hv
        obtain ⟨g, _, h1⟩ := hv.2 h
        exact ⟨_, h1⟩
    obtain ⟨ad, he⟩ := hp
    exact ⟨a.eval x, by simp [execOp, ho, he], hv⟩

theorem slice_old (hd : ∀ k, o.dst = some k → k < cx.N) {T : TypeId} {x : Operand} {lo hi : Option Operand} {t : Ty} (ho : o.op = .slice T x lo hi none) (h0 : TyOK P (.list t) T) (h1 : slC σ t x lo hi) : OpOK P cx σ o ⟨.rd (.list t) (slD σ t x lo hi), []⟩ := by
  simp only [slC] at h1
  obtain ⟨c0, c1, c2, c3, c4⟩ := h1
  simp only [slD]
  cases lo with
  | none => cases hi with
    | none => exact op_slice hd 0 _ ho c0 h0 rfl rfl (Nat.zero_le _) (Nat.le_refl _)
    | some y =>
      simp only at c2 c3 c4 ⊢
      exact op_slice hd 0 _ ho c0 h0 rfl ⟨c2.1, (Int.toNat_of_nonneg c2.2).symm⟩ (Nat.zero_le _) (by omega)
  | some z => cases hi with
    | none =>
      simp only at c1 c3 c4 ⊢
      exact op_slice hd _ _ ho c0 h0 ⟨c1.1, (Int.toNat_of_nonneg c1.2).symm⟩ rfl (by omega) (Nat.le_refl _)
    | some y =>
      simp only at c1 c2 c3 c4 ⊢
      exact op_slice hd _ _ ho c0 h0 ⟨c1.1, (Int.toNat_of_nonneg c1.2).symm⟩ ⟨c2.1, (Int.toNat_of_nonneg c2.2).symm⟩ (by omega) (by omega)

theorem slice_ok (hd : ∀ k, o.dst = some k → k < cx.N) {T : TypeId} {x : Operand} {lo hi : Option Operand} {t : Ty} (ho : o.op = .slice T x lo hi none) (h0 : TyOK P (.list t) T) (h1 : slP σ id t x lo hi) : OpOK P cx σ o (slE σ id t x lo hi) := by
  unfold slP at h1
  unfold slE
  cases lo with
  | none => cases hi <;> exact slice_old hd ho h0 h1
  | some y =>
    cases hi with
    | some z => exact slice_old hd ho h0 h1
    | none =>
      simp only at h1 ⊢
      cases hs : σ.un x with
      | own i =>
        rw [hs] at h1
        simp only at h1 ⊢
        cases hb : σ.objs i with
        | row e t' xs =>
          rw [hb] at h1
          simp only at h1 ⊢
          obtain ⟨q1, q2, q3, q4, q5, q6⟩ := h1
          subst q1
          have hr : rowOf σ.objs i t' = xs := by unfold rowOf; rw [hb]; exact castTo_self _ _
          rw [hr] at q6 ⊢
          exact op_slice_tl hd (σ.ti .i64 y).toNat ho h0 q2 hs hb q4 (Int.toNat_of_nonneg q5).symm (by omega) q3
        | _ => rw [hb] at h1; exact slice_old hd ho h0 h1
      | _ => rw [hs] at h1; exact slice_old hd ho h0 h1

theorem pure_sound (hd : ∀ k, o.dst = some k → k < cx.N) {op : Op} (ho : o.op = op) (h : pvc P tb id σ o.dst op) : OpOK P cx σ o (peff tb id σ op) := by
  cases op with
  | move x => exact op_move hd ho
  | nilCheck x => simp only [pvc] at h; exact op_nilCheck hd ho h.1 h.2
  | assign x => exact op_assign hd ho
  | pick c x y => exact op_pick hd ho h.1 h.2.1 h.2.2
  | box T x => exact op_box hd ho h.1 h.2.1 h.2.2
  | alloc T => exact op_alloc hd ho h.1 h.2
  | load T x =>
    simp only [pvc] at h
    obtain ⟨h1, h2⟩ := h
    simp only [peff]
    cases hx : σ.un x with
    | ptr t y => rw [hx] at h2; exact op_load_ptr hd ho h1 hx h2
    | bp i off =>
      rw [hx] at h2
      simp only at h2
      cases hb : σ.objs i with
      | box T' cs => rw [hb] at h2; simp only [hb]; exact op_load_box hd ho h1 hx hb h2.1 h2.2
      | _ => rw [hb] at h2; exact h2.elim
    | ep i sz k =>
      rw [hx] at h2
      simp only at h2
      cases hb : σ.objs i with
      | arr e t xs =>
        rw [hb] at h2
        simp only [hb]
        obtain ⟨k1, k2, k3⟩ := h2
        subst k1
        exact op_load_arr hd ho h1 hx hb k2 k3
      | _ => rw [hb] at h2; exact h2.elim
    | _ => rw [hx] at h2; exact h2.elim
  | store T x y =>
    simp only [pvc] at h
    obtain ⟨h0, h1, h2⟩ := h
    simp only [peff]
    cases hx : σ.un x with
    | bp i off =>
      rw [hx] at h2
      simp only at h2
      cases hb : σ.objs i with
      | box T' cs => rw [hb] at h2; simp only [hb]; exact op_store_box ho h0 h1 hx hb h2.1 h2.2.1 h2.2.2.1 h2.2.2.2
      | _ => rw [hb] at h2; exact h2.elim
    | ep i sz k =>
      rw [hx] at h2
      simp only at h2
      cases hb : σ.objs i with
      | arr e t xs =>
        rw [hb] at h2
        simp only [hb]
        obtain ⟨k1, k2, k3, k4⟩ := h2
        subst k1
        exact op_store_arr ho h0 h1 hx hb k2 k3 k4
      | _ => rw [hb] at h2; exact h2.elim
    | ef i sz k f =>
      rw [hx] at h2
      simp only at h2
      cases hb : σ.objs i with
      | arr e t xs =>
        rw [hb] at h2
        simp only [hb]
        obtain ⟨k1, k2, k3, k4, k5, k6⟩ := h2
        subst k1
        exact op_store_ef ho h0 h1 hx hb k2 k3 k4 k5 k6
      | _ => rw [hb] at h2; exact h2.elim
    | _ => rw [hx] at h2; exact h2.elim
  | fieldAddr T x i =>
    simp only [pvc] at h
    obtain ⟨h0, h1, h2, h3⟩ := h
    simp only [peff]
    cases hx : σ.un x with
    | ptr t y => rw [hx] at h3; simp only at h3; subst h3; exact op_fa_ptr hd ho h0 hx h1 h2
    | bp j off => rw [hx] at h3; exact op_fa_box hd ho h0 hx h3 h1 h2
    | ep j sz k => rw [hx] at h3; exact op_fa_ep hd ho h0 hx h3 h1 h2
    | _ => rw [hx] at h3; exact h3.elim
  | field T x i =>
    simp only [pvc] at h
    obtain ⟨h0, h1, h2, h3⟩ := h
    simp only [peff]
    cases hx : σ.un x with
    | rd t y => rw [hx] at h3; simp only at h3; subst h3; exact op_field_rd hd ho h0 hx h1 h2
    | agg cs => rw [hx] at h3; exact op_field_agg hd ho h0 hx h1 h2 h3
    | _ => rw [hx] at h3; exact h3.elim
  | extract x i =>
    simp only [pvc] at h
    obtain ⟨h0, h3⟩ := h
    simp only [peff]
    cases hx : σ.un x with
    | tup cs => rw [hx] at h3; exact op_extract hd ho h0 hx h3
    | _ => rw [hx] at h3; exact h3.elim
  | indexAddr T x ix =>
    simp only [pvc] at h
    obtain ⟨h0, h1⟩ := h
    simp only [peff]
    cases ht : tb.ty T with
    | list t =>
      rw [ht] at h0 h1
      simp only [iaC] at h1
      simp only [iaE]
      cases hx : σ.un x with
      | own i =>
        rw [hx] at h1
        simp only at h1 ⊢
        cases hb : σ.objs i with
        | arr e t' xs =>
          rw [hb] at h1
          obtain ⟨k0, k1, k2, k3, k4⟩ := h1
          subst k0
          exact op_ia_arr hd ho k1 hx hb k2 h0 k3 k4
        | _ => rw [hb] at h1; exact op_ia hd ho h1.1 h1.2.1 h0 h1.2.2.1 h1.2.2.2
      | _ => rw [hx] at h1; exact op_ia hd ho h1.1 h1.2.1 h0 h1.2.2.1 h1.2.2.2
    | _ => rw [ht] at h1; exact h1.elim
  | index T x ix =>
    simp only [pvc] at h
    simp only [peff]
    cases hx : σ.un x with
    | agg cs => rw [hx] at h; exact op_index_arr hd ho h.1 hx h.2.1 h.2.2.1 h.2.2.2.1 h.2.2.2.2.1 h.2.2.2.2.2
    | _ => rw [hx] at h; exact op_index_str hd ho h.2.1 h.2.2.1 h.1 h.2.2.2.1 h.2.2.2.2
  | slice T x lo hi mx =>
    cases mx with
    | some _ => exact h.elim
    | none =>
      simp only [pvc] at h
      obtain ⟨h0, h1⟩ := h
      simp only [peff]
      cases ht : tb.ty T with
      | list t =>
        rw [ht] at h0 h1
        exact slice_ok hd ho h0 h1
      | _ => rw [ht] at h1; exact h1.elim
  | build T ps =>
    simp only [pvc] at h
    obtain ⟨h0, h1⟩ := h
    simp only [peff]
    cases ht : tb.ty T with
    | cons a b =>
      rw [ht] at h0 h1
      have ho' : o.op = .build T ps.toList.toArray := by rw [ho]
      rcases h0 with h0 | ⟨h2, h0⟩
      · exact op_build hd ho' h0 h1.1 h1.2
      · have := op_build_arr hd ho' h0 h1.2
        rw [h2] at this
        exact this
    | _ => rw [ht] at h1; exact h1.elim
  | buildSlice T n ps =>
    simp only [pvc] at h
    obtain ⟨h0, h1, h2, h3, h4⟩ := h
    simp only [peff]
    cases ht : tb.ty T with
    | list t =>
      rw [ht] at h0 h4
      have ho' : o.op = .buildSlice T n ps.toList.toArray := by rw [ho]
      exact op_lit hd ho' h0 h1 h4.1 h3 h4.2 h2
    | _ => rw [ht] at h4; exact h4.elim
  | makeSlice T l c =>
    simp only [pvc] at h
    obtain ⟨h0, h1, h2, h3, h4, h5, h6, h7, h8⟩ := h
    simp only [peff]
    cases ht : tb.ty T with
    | list t =>
      rw [ht] at h0
      exact op_make hd ho h0 h1 h3 h4 (Int.toNat_of_nonneg h6).symm (h5 ▸ (Int.toNat_of_nonneg h6).symm) (by omega) h2
    | _ => rw [ht] at h8; exact h8.elim
  | binOp op T x y T' =>
    simp only [pvc] at h
    simp only [peff]
    cases ht : tb.ty T with
    | int k =>
      rw [ht] at h
      by_cases hs : op = .shl
      · subst hs
        simp only at h ⊢
        cases ht' : tb.ty T' with
        | int k' => rw [ht'] at h; exact op_shl hd ho h.1 h.2.1 h.2.2
        | _ => rw [ht'] at h; exact h.elim
      · by_cases hs2 : op = .shr
        · subst hs2
          simp only at h ⊢
          cases ht' : tb.ty T' with
          | int k' => rw [ht'] at h; exact op_shr hd ho h.1 h.2.1 h.2.2
          | _ => rw [ht'] at h; exact h.elim
        · cases op <;> first | exact absurd rfl hs | exact absurd rfl hs2 | exact op_bin_int hd ho h.1 h.2.1 h.2.2 hs hs2
    | bool =>
      rw [ht] at h
      cases op <;> simp only at h <;> first | exact h.elim | exact op_bin_bool hd ho h.1 h.2.1 h.2.2 (.inl rfl) | exact op_bin_bool hd ho h.1 h.2.1 h.2.2 (.inr rfl)
    | str =>
      rw [ht] at h
      cases op <;> simp only at h <;> first | exact h.elim | exact op_add_str hd ho h.1 h.2.1 h.2.2 | exact op_bin_str hd ho h.1 h.2 (.inl rfl) | exact op_bin_str hd ho h.1 h.2 (.inr rfl)
    | cons a b =>
      rw [ht] at h
      cases op <;> simp only at h <;> first | exact h.elim | exact op_bin_st hd ho h.1 h.2.1 h.2.2.1 h.2.2.2.1 h.2.2.2.2 _ (.inl ⟨rfl, rfl⟩) | exact op_bin_st hd ho h.1 h.2.1 h.2.2.1 h.2.2.2.1 h.2.2.2.2 _ (.inr ⟨rfl, rfl⟩)
    | _ => rw [ht] at h; cases op <;> exact h.elim
  | unOp op T x =>
    simp only [pvc] at h
    obtain ⟨h1, h2⟩ := h
    subst h1
    exact op_not hd ho h2
  | convert S T x =>
    simp only [pvc] at h
    simp only [peff]
    cases hs : tb.ty S with
    | int k =>
      cases ht : tb.ty T with
      | int k' => rw [hs, ht] at h; exact op_conv hd ho h.1 h.2.1 h.2.2
      | _ => rw [hs, ht] at h; exact h.elim
    | str =>
      cases ht : tb.ty T with
      | list t =>
        rw [hs, ht] at h
        cases t with
        | int k =>
          cases k with
          | u8 => exact op_s2b hd ho h.1 h.2.1 h.2.2
          | _ => exact h.elim
        | _ => exact h.elim
      | _ => rw [hs, ht] at h; exact h.elim
    | list t =>
      rw [hs] at h
      cases t with
      | int k =>
        cases k with
        | u8 =>
          cases ht : tb.ty T with
          | str => rw [ht] at h; exact op_b2s hd ho h.1 h.2.1 h.2.2
          | _ => rw [ht] at h; exact h.elim
        | _ => cases ht : tb.ty T <;> (rw [ht] at h; exact h.elim)
      | _ => cases ht : tb.ty T <;> (rw [ht] at h; exact h.elim)
    | _ => rw [hs] at h; simp only at h
  | call c =>
    obtain ⟨callee, as, ts⟩ := c
    cases callee with
    | builtin b =>
      cases b with
      | len =>
        simp only [pvc] at h
        simp only [peff]
        cases ha : as.toList with
        | nil => rw [ha] at h; exact h.elim
        | cons x r =>
          cases r with
          | cons _ _ => rw [ha] at h; exact h.elim
          | nil =>
            cases hts : ts.toList with
            | nil => rw [ha, hts] at h; exact h.elim
            | cons T r2 =>
              cases r2 with
              | cons _ _ => rw [ha, hts] at h; exact h.elim
              | nil =>
                rw [ha, hts] at h
                simp only at h ⊢
                rw [arr1 ha, arr1 hts] at ho
                cases ht : tb.ty T with
                | list t =>
                  rw [ht] at h
                  obtain ⟨h1, h2⟩ := h
                  simp only [lnC] at h2
                  simp only [lnD]
                  cases hx : σ.un x with
                  | own i =>
                    rw [hx] at h2
                    simp only at h2 ⊢
                    cases hb : σ.objs i with
                    | arr e t' xs =>
                      rw [hb] at h2
                      obtain ⟨k1, k2⟩ := h2
                      subst k1
                      exact op_len_arr hd ho h1 k2 hx hb
                    | _ => rw [hb] at h2; exact op_len hd ho h1 h2
                  | _ => rw [hx] at h2; exact op_len hd ho h1 h2
                | str => rw [ht] at h; exact op_len_str hd ho h.1 h.2
                | _ => rw [ht] at h; exact h.2.elim
      | min =>
        simp only [pvc] at h
        simp only [peff]
        cases ha : as.toList with
        | nil => rw [ha] at h; exact h.elim
        | cons x r =>
          cases r with
          | nil => rw [ha] at h; exact h.elim
          | cons y r2 =>
            cases r2 with
            | cons _ _ => rw [ha] at h; exact h.elim
            | nil => rw [ha] at h; rw [arr1 ha] at ho; exact op_min hd ho h.1 h.2
      | max =>
        simp only [pvc] at h
        simp only [peff]
        cases ha : as.toList with
        | nil => rw [ha] at h; exact h.elim
        | cons x r =>
          cases r with
          | nil => rw [ha] at h; exact h.elim
          | cons y r2 =>
            cases r2 with
            | cons _ _ => rw [ha] at h; exact h.elim
            | nil => rw [ha] at h; rw [arr1 ha] at ho; exact op_max hd ho h.1 h.2
      | append =>
        simp only [pvc] at h
        simp only [peff]
        cases ha : as.toList with
        | nil => rw [ha] at h; exact h.elim
        | cons s r =>
          cases r with
          | nil => rw [ha] at h; exact h.elim
          | cons x r2 =>
            cases r2 with
            | cons _ _ => rw [ha] at h; exact h.elim
            | nil =>
              cases hts : ts.toList with
              | nil => rw [ha, hts] at h; exact h.elim
              | cons T q =>
                cases q with
                | nil => rw [ha, hts] at h; exact h.elim
                | cons T2 q2 =>
                  cases q2 with
                  | cons _ _ => rw [ha, hts] at h; exact h.elim
                  | nil =>
                    rw [ha, hts] at h
                    simp only at h ⊢
                    rw [arr1 ha, arr1 hts] at ho
                    obtain ⟨e1, h1, h2, h3, h4⟩ := h
                    subst e1
                    cases ht : tb.ty T2 with
                    | list t =>
                      rw [ht] at h1 h4
                      simp only at h4 ⊢
                      obtain ⟨k1, k2, k3⟩ := h4
                      cases hs : σ.un s with
                      | own i =>
                        rw [hs] at k3
                        simp only at k3 ⊢
                        cases hb : σ.objs i with
                        | row e t' xs =>
                          rw [hb] at k3
                          obtain ⟨q1, q2, q3⟩ := k3
                          subst q2
                          subst q1
                          have hr : rowOf σ.objs i t' = xs := by unfold rowOf; rw [hb]; exact castTo_self _ _
                          simp only
                          rw [hr]
                          exact op_app hd ho h1 h2 k1 hs hb k2 h3 q3
                        | arr e t' xs =>
                          rw [hb] at k3
                          obtain ⟨q1, q2, q3⟩ := k3
                          subst q2
                          subst q1
                          simp only [castTo_self]
                          exact op_app_arr hd ho h1 h2 k1 hs hb k2 h3 q3
                        | tl e t' xs =>
                          rw [hb] at k3
                          obtain ⟨q1, q2, q3⟩ := k3
                          subst q2
                          subst q1
                          have hr : rowOf σ.objs i t' = xs := by unfold rowOf; rw [hb]; exact castTo_self _ _
                          simp only
                          rw [hr]
                          exact op_app_tl hd ho h1 h2 k1 hs hb k2 h3 q3
                        | _ => rw [hb] at k3; exact k3.elim
                      | nils =>
                        rw [hs] at k3
                        exact op_app_nil hd ho h1 h2 k1 hs k2 h3 k3
                      | _ => rw [hs] at k3; exact k3.elim
                    | _ => rw [ht] at h4; exact h4.elim
      | _ => exact h.elim
    | _ => exact h.elim
  | makeFunc fn first caps =>
    cases fn with
    | func f =>
      simp only [pvc] at h
      simp only [peff]
      cases h1 : first.toList with
      | cons _ _ => rw [h1] at h; exact h.elim
      | nil =>
        cases h2 : caps.toList with
        | nil => rw [h1, h2] at h; exact h.elim
        | cons x r =>
          cases r with
          | cons _ _ => rw [h1, h2] at h; exact h.elim
          | nil =>
            rw [h1, h2] at h
            rw [arr1 h1, arr1 h2] at ho
            exact op_makeFunc hd ho h
    | _ => exact h.elim
  | _ => exact h.elim

end
end Go.AL
/- On what an operation's reckoning hangs: its operands, and the objects that they name. A general part, over any program. -/
set_option linter.unusedSimpArgs false
set_option linter.unusedVariables false
namespace Go.AL
open Go.RowKit

mutual
def AV.ids : AV → List Nat
  | .own id => [id]
  | .bp id _ => [id]
  | .ep id _ _ => [id]
  | .ef id _ _ _ => [id]
  | .agg cs => AV.idsL cs
  | .tup cs => AV.idsL cs
  | .gd _ a => a.ids
  | .fn _ cs => AV.idsL cs
  | _ => []
def AV.idsL : List AV → List Nat
  | [] => []
  | a :: r => a.ids ++ AV.idsL r
end

theorem ids_un : ∀ a : AV, a.un.ids = a.ids
  | .gd _ a => by simp only [AV.un, AV.ids]; exact ids_un a
  | .any | .rd _ _ | .ptr _ _ | .nils | .own _ | .bp _ _ | .ep _ _ _ | .ef _ _ _ _ | .agg _ | .tup _ | .fn _ _ => rfl

structure Agr (σ σ' : St) (L : List Operand) : Prop where
  ev : ∀ x, x ∈ L → σ.ev x = σ'.ev x
  ob : ∀ x, x ∈ L → ∀ j, j ∈ (σ.ev x).ids → σ.objs j = σ'.objs j

theorem tvd_congr {ob ob' : Nat → AObj} : ∀ (t : Ty) (av : AV), (∀ j, j ∈ av.ids → ob j = ob' j) → tvd ob t av = tvd ob' t av ∧ tvc ob t av = tvc ob' t av := by
  intro t
  induction t with
  | list t _ =>
    intro av h
    cases av <;> try exact ⟨rfl, rfl⟩
    rename_i id
    simp only [tvd, tvc]
    have := h id (by simp [AV.ids])
    simp only [rowOf, this]
    exact ⟨trivial, trivial⟩
  | cons h t ih1 ih2 =>
    intro av hj
    cases av <;> try exact ⟨rfl, rfl⟩
    rename_i cs
    cases cs with
    | nil => exact ⟨rfl, rfl⟩
    | cons c cs =>
      simp only [tvd, tvc]
      simp only [AV.ids, AV.idsL, List.mem_append] at hj
      have a1 := ih1 c fun j h => hj j (.inl h)
      have a2 := ih2 (.agg cs) fun j h => hj j (.inr (by simpa only [AV.ids] using h))
      exact ⟨by rw [a1.1, a2.1], by rw [a1.2, a2.2]⟩
  | nil =>
    intro av hj
    cases av <;> try exact ⟨rfl, rfl⟩
    rename_i cs
    cases cs <;> exact ⟨rfl, rfl⟩
  | _ => intro av hj; cases av <;> exact ⟨rfl, rfl⟩

section
variable {σ σ' : St} {L : List Operand} (h : Agr σ σ' L) {x : Operand} (hx : x ∈ L)
include h hx

theorem Agr.un : σ.un x = σ'.un x := by unfold St.un; rw [h.ev x hx]
theorem Agr.uc : σ.uc x = σ'.uc x := by unfold St.uc; rw [h.ev x hx]
theorem Agr.obu : ∀ j, j ∈ (σ.un x).ids → σ.objs j = σ'.objs j := fun j hj => h.ob x hx j (by unfold St.un at hj; rwa [ids_un] at hj)
theorem Agr.tv (t : Ty) : σ.tv t x = σ'.tv t x := by
  unfold St.tv
  rw [← h.un hx]
  exact (tvd_congr t _ (h.obu hx)).1
theorem Agr.tc (t : Ty) : σ.tc t x = σ'.tc t x := by
  unfold St.tc
  rw [← h.un hx, h.uc hx, (tvd_congr t _ (h.obu hx)).2]
theorem Agr.ti (k : IntKind) : σ.ti k x = σ'.ti k x := h.tv hx _
theorem Agr.tb : σ.tb x = σ'.tb x := h.tv hx _
theorem Agr.ts : σ.ts x = σ'.ts x := h.tv hx _

omit h hx in
theorem oneC_congr {ob ob' : Nat → AObj} (a : AV) (hj : ∀ j, j ∈ a.ids → ob j = ob' j) : oneC ob a = oneC ob' a := by
  cases a <;> simp only [oneC]
  rename_i id
  rw [hj id (by simp [AV.ids])]

omit h hx in
theorem onesC_congr {ob ob' : Nat → AObj} : ∀ (cs : List AV), (∀ j, j ∈ AV.idsL cs → ob j = ob' j) → onesC ob cs = onesC ob' cs
  | [], _ => rfl
  | c :: cs, hj => by
    simp only [AV.idsL, List.mem_append] at hj
    simp only [onesC]
    rw [oneC_congr c fun j h => hj j (.inl h), onesC_congr cs fun j h => hj j (.inr h)]

omit h hx in
theorem cellsC_congr {ob ob' : Nat → AObj} (t : Ty) (a : AV) (hj : ∀ j, j ∈ a.ids → ob j = ob' j) : cellsC ob t a = cellsC ob' t a := by
  cases a <;> simp only [cellsC]
  · rename_i id
    rw [hj id (by simp [AV.ids])]
  · rename_i cs
    rw [onesC_congr cs fun j h => hj j (by simpa only [AV.ids] using h)]

theorem Agr.cellsC (t : Ty) : AL.cellsC σ.objs t (σ.un x) = AL.cellsC σ'.objs t (σ'.un x) := by
  rw [← h.un hx]; exact cellsC_congr t _ (h.obu hx)
theorem Agr.oneC : AL.oneC σ.objs (σ.un x) = AL.oneC σ'.objs (σ'.un x) := by
  rw [← h.un hx]; exact oneC_congr _ (h.obu hx)
end

section
variable {σ σ' : St} {L : List Operand} (h : Agr σ σ' L)
include h

theorem Agr.setAll : ∀ (ps : List (Nat × Operand)) (cs : List AV), (∀ p, p ∈ ps → p.2 ∈ L) → AL.setAll σ ps cs = AL.setAll σ' ps cs
  | [], _, _ => rfl
  | p :: r, cs, hp => by
    simp only [AL.setAll]
    rw [h.un (hp p (by simp)), Agr.setAll r _ fun q hq => hp q (by simp [hq])]
theorem Agr.setAllC (n : Nat) : ∀ (ps : List (Nat × Operand)), (∀ p, p ∈ ps → p.2 ∈ L) → AL.setAllC σ n ps = AL.setAllC σ' n ps
  | [], _ => rfl
  | p :: r, hp => by
    simp only [AL.setAllC]
    rw [h.uc (hp p (by simp)), h.oneC (hp p (by simp)), Agr.setAllC n r fun q hq => hp q (by simp [hq])]
theorem Agr.litD (t : Ty) : ∀ (ps : List (Nat × Operand)), (∀ p, p ∈ ps → p.2 ∈ L) → AL.litD σ t ps = AL.litD σ' t ps
  | [], _ => rfl
  | p :: r, hp => by
    simp only [AL.litD]
    rw [h.tv (hp p (by simp)), Agr.litD t r fun q hq => hp q (by simp [hq])]
theorem Agr.litC (t : Ty) : ∀ (k : Nat) (ps : List (Nat × Operand)), (∀ p, p ∈ ps → p.2 ∈ L) → AL.litC σ t k ps = AL.litC σ' t k ps
  | _, [], _ => rfl
  | k, p :: r, hp => by
    simp only [AL.litC]
    rw [h.tc (hp p (by simp)), Agr.litC t (k + 1) r fun q hq => hp q (by simp [hq])]
theorem Agr.argD (tb : Tb) : ∀ (l : List (Operand × TypeId)), (∀ p, p ∈ l → p.1 ∈ L) → AL.argD σ tb l = AL.argD σ' tb l
  | [], _ => rfl
  | p :: r, hp => by
    simp only [AL.argD]
    rw [h.tv (hp p (by simp)), Agr.argD tb r fun q hq => hp q (by simp [hq])]
theorem Agr.argC (tb : Tb) : ∀ (l : List (Operand × TypeId)), (∀ p, p ∈ l → p.1 ∈ L) → AL.argC σ tb l = AL.argC σ' tb l
  | [], _ => rfl
  | p :: r, hp => by
    simp only [AL.argC]
    rw [h.tc (hp p (by simp)), Agr.argC tb r fun q hq => hp q (by simp [hq])]
end

theorem eff_congr {σ σ' : St} {tb : Tb} {P : Program} {id : Nat} {d : Option Nat} {op : Op} (h : Agr σ σ' op.operands.toList) (hid : σ.objs id = σ'.objs id) :
    peff tb id σ op = peff tb id σ' op ∧ pvc P tb id σ d op = pvc P tb id σ' d op := by
  cases op with
  | move x => simp only [peff, pvc]; rw [h.ev x (by simp [Op.operands])]; all_goals exact ⟨by first | rfl | trivial, by first | rfl | trivial⟩
  | assign x => simp only [peff, pvc]; rw [h.ev x (by simp [Op.operands])]; all_goals exact ⟨by first | rfl | trivial, by first | rfl | trivial⟩
  | pick c x y =>
    have hc : c ∈ (Op.pick c x y).operands.toList := by simp [Op.operands]
    have hx : x ∈ (Op.pick c x y).operands.toList := by simp [Op.operands]
    have hy : y ∈ (Op.pick c x y).operands.toList := by simp [Op.operands]
    simp only [peff, pvc]
    rw [h.tb hc, h.tb hx, h.tb hy, h.tc hc, h.tc hx, h.tc hy]
    all_goals exact ⟨by first | rfl | trivial, by first | rfl | trivial⟩
  | box T x =>
    have hx : x ∈ (Op.box T x).operands.toList := by simp [Op.operands]
    simp only [peff, pvc]
    rw [h.uc hx, h.cellsC hx, h.un hx, hid]
    all_goals exact ⟨by first | rfl | trivial, by first | rfl | trivial⟩
  | alloc T => simp only [peff, pvc]; rw [hid]; all_goals exact ⟨by first | rfl | trivial, by first | rfl | trivial⟩
  | load T x =>
    have hx : x ∈ (Op.load T x).operands.toList := by simp [Op.operands]
    have hob := h.obu hx
    simp only [peff, pvc]
    rw [h.uc hx, ← h.un hx]
    cases hu : σ.un x <;> try exact ⟨rfl, rfl⟩
    all_goals rw [hu] at hob
    all_goals simp only [AV.ids, List.mem_singleton, forall_eq] at hob
    all_goals simp only [hob]
    all_goals exact ⟨by first | rfl | trivial, by first | rfl | trivial⟩
  | store T x y =>
    have hx : x ∈ (Op.store T x y).operands.toList := by simp [Op.operands]
    have hy : y ∈ (Op.store T x y).operands.toList := by simp [Op.operands]
    have hob := h.obu hx
    simp only [peff, pvc]
    rw [h.uc hx, ← h.un hx, h.uc hy, h.cellsC hy, h.un hy]
    cases hu : σ.un x <;> try exact ⟨rfl, rfl⟩
    all_goals rw [hu] at hob
    all_goals simp only [AV.ids, List.mem_singleton, forall_eq] at hob
    all_goals simp only [hob, h.tv hy, h.tc hy]
    all_goals exact ⟨by first | rfl | trivial, by first | rfl | trivial⟩
  | makeFunc fn first caps =>
    cases fn with
    | func f =>
      simp only [peff, pvc]
      cases h1 : first.toList with
      | cons _ _ => exact ⟨rfl, rfl⟩
      | nil =>
        cases h2 : caps.toList with
        | nil => exact ⟨rfl, rfl⟩
        | cons x r =>
          cases r with
          | cons _ _ => exact ⟨rfl, rfl⟩
          | nil =>
            have hx : x ∈ (Op.makeFunc (.func f) first caps).operands.toList := by
              simp only [Op.operands, Array.toList_append, h1, h2]
              simp
            simp only
            rw [h.uc hx, h.un hx]
            exact ⟨rfl, rfl⟩
    | _ => exact ⟨rfl, rfl⟩
  | nilCheck x =>
    have hx : x ∈ (Op.nilCheck x).operands.toList := by simp [Op.operands]
    have hob := h.obu hx
    simp only [peff, pvc]
    rw [h.uc hx, ← h.un hx]
    cases hu : σ.un x <;> try exact ⟨rfl, rfl⟩
    all_goals rw [hu] at hob
    all_goals simp only [AV.ids, List.mem_singleton, forall_eq] at hob
    all_goals simp only [hob]
    all_goals exact ⟨by first | rfl | trivial, by first | rfl | trivial⟩
  | fieldAddr T x i =>
    have hx : x ∈ (Op.fieldAddr T x i).operands.toList := by simp [Op.operands]
    have hob := h.obu hx
    simp only [peff, pvc]
    rw [h.uc hx, ← h.un hx]
    cases hu : σ.un x <;> try exact ⟨rfl, rfl⟩
    all_goals rw [hu] at hob
    all_goals simp only [AV.ids, List.mem_singleton, forall_eq] at hob
    all_goals simp only [hob]
    all_goals exact ⟨by first | rfl | trivial, by first | rfl | trivial⟩
  | field T x i =>
    have hx : x ∈ (Op.field T x i).operands.toList := by simp [Op.operands]
    simp only [peff, pvc]
    rw [h.uc hx, ← h.un hx]
    all_goals exact ⟨by first | rfl | trivial, by first | rfl | trivial⟩
  | extract x i =>
    have hx : x ∈ (Op.extract x i).operands.toList := by simp [Op.operands]
    simp only [peff, pvc]
    rw [h.uc hx, ← h.un hx]
    all_goals exact ⟨by first | rfl | trivial, by first | rfl | trivial⟩
  | indexAddr T x ix =>
    have hx : x ∈ (Op.indexAddr T x ix).operands.toList := by simp [Op.operands]
    have hi : ix ∈ (Op.indexAddr T x ix).operands.toList := by simp [Op.operands]
    simp only [peff, pvc]
    cases tb.ty T <;> try exact ⟨rfl, rfl⟩
    simp only [iaE, iaC]
    have hob := h.obu hx
    rw [h.tv hx, h.ti hi, h.tc hx, h.tc hi, h.uc hx, ← h.un hx]
    cases hu : σ.un x <;> try exact ⟨rfl, rfl⟩
    rw [hu] at hob
    simp only [AV.ids, List.mem_singleton, forall_eq] at hob
    simp only [hob]
    all_goals exact ⟨by first | rfl | trivial, by first | rfl | trivial⟩
  | makeSlice T l c =>
    have hl : l ∈ (Op.makeSlice T l c).operands.toList := by simp [Op.operands]
    have hc : c ∈ (Op.makeSlice T l c).operands.toList := by simp [Op.operands]
    simp only [peff, pvc, h.ti hl, h.ti hc, h.tc hl, h.tc hc, hid]
    all_goals exact ⟨by first | rfl | trivial, by first | rfl | trivial⟩
  | index T x ix =>
    have hx : x ∈ (Op.index T x ix).operands.toList := by simp [Op.operands]
    have hi : ix ∈ (Op.index T x ix).operands.toList := by simp [Op.operands]
    simp only [peff, pvc]
    rw [h.ts hx, h.ti hi, h.tc hx, h.tc hi, h.uc hx, h.un hx]
    all_goals exact ⟨by first | rfl | trivial, by first | rfl | trivial⟩
  | slice T x lo hi mx =>
    cases mx with
    | some _ => exact ⟨rfl, rfl⟩
    | none =>
      have hx : x ∈ (Op.slice T x lo hi none).operands.toList := by simp [Op.operands]
      simp only [peff, pvc]
      cases tb.ty T <;> try exact ⟨rfl, rfl⟩
      have hlo : ∀ y, lo = some y → σ.ti .i64 y = σ'.ti .i64 y ∧ σ.tc (.int .i64) y = σ'.tc (.int .i64) y := by
        intro y e
        have hy : y ∈ (Op.slice T x lo hi none).operands.toList := by subst e; simp [Op.operands]
        exact ⟨h.ti hy _, h.tc hy _⟩
      have hhi : ∀ y, hi = some y → σ.ti .i64 y = σ'.ti .i64 y ∧ σ.tc (.int .i64) y = σ'.tc (.int .i64) y := by
        intro y e
        have hy : y ∈ (Op.slice T x lo hi none).operands.toList := by subst e; simp [Op.operands]
        exact ⟨h.ti hy _, h.tc hy _⟩
      have e1 : ∀ t, slD σ t x lo hi = slD σ' t x lo hi := by
        intro t
        simp only [slD]
        rw [h.tv hx]
        cases lo with
        | none => cases hi with
          | none => rfl
          | some y => simp only [(hhi y rfl).1]
        | some z => cases hi with
          | none => simp only [(hlo z rfl).1]
          | some y => simp only [(hhi y rfl).1, (hlo z rfl).1]
      have e2 : ∀ t, slC σ t x lo hi = slC σ' t x lo hi := by
        intro t
        simp only [slC]
        rw [h.tv hx, h.tc hx]
        cases lo with
        | none => cases hi with
          | none => rfl
          | some y => simp only [(hhi y rfl).1, (hhi y rfl).2]
        | some z => cases hi with
          | none => simp only [(hlo z rfl).1, (hlo z rfl).2]
          | some y => simp only [(hhi y rfl).1, (hhi y rfl).2, (hlo z rfl).1, (hlo z rfl).2]
      have hob := h.obu hx
      have hux := h.un hx
      simp only [slE, slP, e1, e2, ← hux, h.uc hx, hid]
      cases lo with
      | none => exact ⟨rfl, rfl⟩
      | some z => cases hi with
        | some y => exact ⟨rfl, rfl⟩
        | none =>
          simp only
          cases hu : σ.un x <;> try exact ⟨rfl, rfl⟩
          rw [hu] at hob
          simp only [AV.ids, List.mem_singleton, forall_eq] at hob
          simp only [rowOf, hob, (hlo z rfl).1, (hlo z rfl).2]
          rename_i j
          cases σ'.objs j <;> exact ⟨by first | rfl | trivial, by first | rfl | trivial⟩
  | build T ps =>
    have hp : ∀ p, p ∈ ps.toList → p.2 ∈ (Op.build T ps).operands.toList := fun p hp => by simp only [Op.operands, List.mem_map]; exact ⟨p, hp, rfl⟩
    simp only [peff, pvc]
    rw [h.setAll _ _ hp]
    cases tb.ty T <;> try exact ⟨rfl, rfl⟩
    simp only
    rw [h.setAllC _ _ hp]
    all_goals exact ⟨by first | rfl | trivial, by first | rfl | trivial⟩
  | buildSlice T n ps =>
    have hp : ∀ p, p ∈ ps.toList → p.2 ∈ (Op.buildSlice T n ps).operands.toList := fun p hp => by simp only [Op.operands, List.mem_map]; exact ⟨p, hp, rfl⟩
    simp only [peff, pvc]
    rw [hid]
    cases tb.ty T <;> try exact ⟨rfl, rfl⟩
    simp only
    rw [h.litD _ _ hp, h.litC _ _ _ hp]
    all_goals exact ⟨by first | rfl | trivial, by first | rfl | trivial⟩
  | binOp op T x y T' =>
    have hx : x ∈ (Op.binOp op T x y T').operands.toList := by simp [Op.operands]
    have hy : y ∈ (Op.binOp op T x y T').operands.toList := by simp [Op.operands]
    simp only [peff, pvc, h.ti hx, h.ti hy, h.tb hx, h.tb hy, h.ts hx, h.ts hy, h.tc hx, h.tc hy, h.tv hx, h.tv hy]
    all_goals exact ⟨by first | rfl | trivial, by first | rfl | trivial⟩
  | unOp op T x =>
    have hx : x ∈ (Op.unOp op T x).operands.toList := by simp [Op.operands]
    simp only [peff, pvc, h.tb hx, h.tc hx]
    all_goals exact ⟨by first | rfl | trivial, by first | rfl | trivial⟩
  | convert S T x =>
    have hx : x ∈ (Op.convert S T x).operands.toList := by simp [Op.operands]
    simp only [peff, pvc, h.ti hx, h.tc hx, h.ts hx, h.tv hx]
    all_goals exact ⟨by first | rfl | trivial, by first | rfl | trivial⟩
  | call c =>
    obtain ⟨callee, as, ts⟩ := c
    cases callee with
    | builtin b =>
      have hm : ∀ x, x ∈ as.toList → x ∈ (Op.call { callee := .builtin b, args := as, argTypes := ts }).operands.toList := fun x hx => by simp [Op.operands, Call.operands]; simpa using hx
      have two : ∀ (l : List Operand) (q : List TypeId), as.toList = l → ts.toList = q → peff tb id σ (.call { callee := .builtin b, args := as, argTypes := ts }) = peff tb id σ' (.call { callee := .builtin b, args := as, argTypes := ts }) ∧
          pvc P tb id σ d (.call { callee := .builtin b, args := as, argTypes := ts }) = pvc P tb id σ' d (.call { callee := .builtin b, args := as, argTypes := ts }) := by
        intro l q hl hq
        have hm' : ∀ x, x ∈ l → x ∈ (Op.call { callee := .builtin b, args := as, argTypes := ts }).operands.toList := fun x hx => hm x (by rw [hl]; exact hx)
        cases b with
        | len =>
          simp only [peff, pvc, hl, hq]
          match l, q, hm' with
          | [x], [T], hm' =>
            have hx := hm' x (by simp)
            have hob := h.obu hx
            simp only [lnD, lnC, h.tv hx, h.ts hx, h.tc hx, h.uc hx, ← h.un hx]
            cases hu : σ.un x <;> try exact ⟨rfl, rfl⟩
            rw [hu] at hob
            simp only [AV.ids, List.mem_singleton, forall_eq] at hob
            simp only [hob]
            all_goals exact ⟨by first | rfl | trivial, by first | rfl | trivial⟩
          | [], _, _ => exact ⟨rfl, rfl⟩
          | _ :: _ :: _, _, _ => exact ⟨rfl, rfl⟩
          | [_], [], _ => exact ⟨rfl, rfl⟩
          | [_], _ :: _ :: _, _ => exact ⟨rfl, rfl⟩
        | min =>
          simp only [peff, pvc, hl]
          match l, hm' with
          | [x, y], hm' =>
            have hx := hm' x (by simp)
            have hy := hm' y (by simp)
            simp only [h.ti hx, h.ti hy, h.tc hx, h.tc hy]
            all_goals exact ⟨by first | rfl | trivial, by first | rfl | trivial⟩
          | [], _ => exact ⟨rfl, rfl⟩
          | [_], _ => exact ⟨rfl, rfl⟩
          | _ :: _ :: _ :: _, _ => exact ⟨rfl, rfl⟩
        | max =>
          simp only [peff, pvc, hl]
          match l, hm' with
          | [x, y], hm' =>
            have hx := hm' x (by simp)
            have hy := hm' y (by simp)
            simp only [h.ti hx, h.ti hy, h.tc hx, h.tc hy]
            all_goals exact ⟨by first | rfl | trivial, by first | rfl | trivial⟩
          | [], _ => exact ⟨rfl, rfl⟩
          | [_], _ => exact ⟨rfl, rfl⟩
          | _ :: _ :: _ :: _, _ => exact ⟨rfl, rfl⟩
        | append =>
          simp only [peff, pvc, hl, hq]
          rw [hid]
          match l, q, hm' with
          | [s, x], [T, T2], hm' =>
            have hs := hm' s (by simp)
            have hx := hm' x (by simp)
            have hob := h.obu hs
            simp only [h.tv hx, h.tc hx, h.uc hs, ← h.un hs]
            cases hu : σ.un s <;> try exact ⟨rfl, rfl⟩
            rw [hu] at hob
            simp only [AV.ids, List.mem_singleton, forall_eq] at hob
            simp only [rowOf, hob]
            all_goals exact ⟨by first | rfl | trivial, by first | rfl | trivial⟩
          | [], _, _ => exact ⟨rfl, rfl⟩
          | [_], _, _ => exact ⟨rfl, rfl⟩
          | _ :: _ :: _ :: _, _, _ => exact ⟨rfl, rfl⟩
          | [_, _], [], _ => exact ⟨rfl, rfl⟩
          | [_, _], [_], _ => exact ⟨rfl, rfl⟩
          | [_, _], _ :: _ :: _ :: _, _ => exact ⟨rfl, rfl⟩
        | _ => exact ⟨rfl, rfl⟩
      exact two _ _ rfl rfl
    | _ => exact ⟨rfl, rfl⟩
  | _ => exact ⟨rfl, rfl⟩

/-! ### Calls -/

theorem settle_un (σ : St) (x : Operand) : σ.settle.un x = σ.un x := rfl

theorem Agr.settle {σ σ' : St} {L : List Operand} (h : Agr σ σ' L) : Agr σ.settle σ'.settle L :=
  ⟨h.ev, fun x hx j hj => by show (σ.objs j).settle = (σ'.objs j).settle; rw [h.ob x hx j hj]⟩

theorem mCell_congr {ob ob' : Nat → AObj} (t : Ty) (av : AV) (hj : ∀ j, j ∈ av.ids → ob j = ob' j) : mCell ob t av = mCell ob' t av ∧ mCellC ob t av = mCellC ob' t av ∧ mIds1 ob av = mIds1 ob' av := by
  have h := tvd_congr t av hj
  cases av with
  | own i =>
    have e := hj i (by simp [AV.ids])
    refine ⟨?_, ?_, ?_⟩ <;> simp only [mCell, mCellC, mIds1, h.1, h.2, e]
  | bp i off =>
    have e := hj i (by simp [AV.ids])
    refine ⟨?_, ?_, ?_⟩ <;> simp only [mCell, mCellC, mIds1, e]
  | _ => refine ⟨?_, ?_, ?_⟩ <;> simp only [mCell, mCellC, mIds1, h.1, h.2]

theorem mAgg_congr {ob ob' : Nat → AObj} : ∀ (t : Ty) (cs : List AV), (∀ j, j ∈ AV.idsL cs → ob j = ob' j) → mAgg ob t cs = mAgg ob' t cs ∧ mAggC ob t cs = mAggC ob' t cs
  | .cons h t, c :: cs, hj => by
    simp only [AV.idsL, List.mem_append] at hj
    have a1 := mCell_congr h c fun j k => hj j (.inl k)
    have a2 := mAgg_congr t cs fun j k => hj j (.inr k)
    simp only [mAgg, mAggC]
    rw [a1.1, a1.2.1, a2.1, a2.2]
    exact ⟨rfl, rfl⟩
  | .cons _ _, [], _ => ⟨rfl, rfl⟩
  | .nil, [], _ => ⟨rfl, rfl⟩
  | .nil, _ :: _, _ => ⟨rfl, rfl⟩
  | .int _, _, _ => ⟨rfl, rfl⟩
  | .bool, _, _ => ⟨rfl, rfl⟩
  | .str, _, _ => ⟨rfl, rfl⟩
  | .list _, _, _ => ⟨rfl, rfl⟩

theorem mIdsL_congr {ob ob' : Nat → AObj} : ∀ (cs : List AV), (∀ j, j ∈ AV.idsL cs → ob j = ob' j) → mIdsL ob cs = mIdsL ob' cs
  | [], _ => rfl
  | c :: cs, hj => by
    simp only [AV.idsL, List.mem_append] at hj
    simp only [mIdsL]
    rw [(mCell_congr .nil c fun j k => hj j (.inl k)).2.2, mIdsL_congr cs fun j k => hj j (.inr k)]

theorem mOne_congr {ob ob' : Nat → AObj} (t : Ty) (av : AV) (hj : ∀ j, j ∈ av.ids → ob j = ob' j) : mOne ob t av = mOne ob' t av ∧ mOneC ob t av = mOneC ob' t av ∧ mOneI ob av = mOneI ob' av := by
  cases av with
  | agg cs =>
    have hj' : ∀ j, j ∈ AV.idsL cs → ob j = ob' j := fun j k => hj j (by simpa only [AV.ids] using k)
    have a1 := mAgg_congr t cs hj'
    exact ⟨a1.1, a1.2, mIdsL_congr cs hj'⟩
  | rd t' x => exact ⟨rfl, rfl, rfl⟩
  | _ =>
    have a1 := mCell_congr t _ hj
    simp only [mOne, mOneC, mOneI]
    rw [a1.1, a1.2.1, a1.2.2]
    exact ⟨rfl, rfl, rfl⟩

section
variable {σ σ' : St} {L : List Operand} (h : Agr σ σ' L)
include h

theorem Agr.mArg (tb : Tb) : ∀ (l : List (Operand × TypeId)), (∀ p, p ∈ l → p.1 ∈ L) → mArgS σ l = mArgS σ' l ∧ mArgD σ tb l = mArgD σ' tb l ∧ mArgC σ tb l = mArgC σ' tb l ∧ mArgI σ l = mArgI σ' l
  | [], _ => ⟨rfl, rfl, rfl, rfl⟩
  | p :: r, hp => by
    obtain ⟨a1, a2, a3, a4⟩ := Agr.mArg tb r fun q hq => hp q (by simp [hq])
    have hx := hp p (by simp)
    have hm := mOne_congr (tb.ty p.2) (σ.un p.1) (h.obu hx)
    simp only [mArgS, mArgD, mArgC, mArgI]
    rw [a1, a2, a3, a4, hm.1, hm.2.1, hm.2.2, h.un hx, h.uc hx]
    exact ⟨rfl, rfl, rfl, rfl⟩

omit h in
theorem plL_congr {ob ob' : Nat → AObj} : ∀ (cs : List AV), (∀ j, j ∈ AV.idsL cs → ob j = ob' j) → plL ob cs = plL ob' cs
  | [], _ => rfl
  | c :: cs, hj => by
    simp only [AV.idsL, List.mem_append] at hj
    simp only [plL]
    rw [plL_congr cs fun j k => hj j (.inr k)]
    congr 1
    cases c <;> simp only [plA]
    rw [hj _ (.inl (by simp [AV.ids]))]

theorem Agr.callR {P : Program} {tb : Tb} {id : Nat} {f : FuncId} {l : List (Operand × TypeId)} {e : Eff} (hp : ∀ p, p ∈ l → p.1 ∈ L) (hid : ∀ j, id ≤ j → j < id + 16 → σ.objs j = σ'.objs j) (hc : AL.callR P tb id σ f l e) : AL.callR P tb id σ' f l e := by
  obtain ⟨m1, m2, m3, m4⟩ := h.mArg tb l hp
  rcases hc with ⟨h1, rv, h2, h3, h4, h5⟩ | ⟨h1, rv, h0, h2, h3, h4, h5⟩ | ⟨⟨h1, h0⟩, rv, outs, h2, h6, h3, h4, h5⟩
  · exact .inl ⟨by rw [← h.argC tb l hp]; exact h1, rv, by rw [← h.argD tb l hp]; exact h2, h3, unb_congr (fun j j1 j2 => hid j j1 (by omega)) h4, h5⟩
  · exact .inr (.inl ⟨by rw [← h.settle.argC tb l hp]; exact h1, rv, h0, by rw [← h.settle.argD tb l hp]; exact h2, h3, unb_congr (fun j j1 j2 => hid j j1 (by omega)) h4, h5⟩)
  · exact .inr (.inr ⟨⟨by rw [← m3]; exact h1, by rw [← m4]; exact h0⟩, rv, outs, by rw [← m1, ← m2]; exact h2, by rw [← m4]; exact h6, h3, unb_congr (fun j j1 j2 => hid j j1 (by omega)) h4, by rw [← m4]; exact h5⟩)
end

end Go.AL
/- Steps of a region, with guards and calls; regions in the order of the text, and in whatever order. A general part, over any program. -/
set_option linter.unusedSimpArgs false
set_option linter.unusedVariables false
namespace Go.AL
open Go.RowKit

def gcond : AV → Bool → Option Bool
  | .rd .bool c, b => some (c == b)
  | .gd c1 a, b => (gcond a b).map (c1 && ·)
  | _, _ => none

mutual
/-- What a call answers, merely read. -/
def recvG : RV → AV
  | .rd t x => .rd t x
  | .own _ t xs => .rd (.list t) xs
  | .fresh _ _ _ => .any
  | .tl _ t xs => .rd (.list t) xs
  | .agg rs => .agg (recvGs rs)
  | .tup rs => .tup (recvGs rs)
def recvGs : List RV → List AV
  | [] => []
  | r :: rs => recvG r :: recvGs rs
end

def callOf : Op → Option (FuncId × List Operand × List TypeId)
  | .call { callee := .value (.func f), args := as, argTypes := ts } => some (f, as.toList, ts.toList)
  | _ => none

/-- One step: the operation o in the state σ has the effect e. -/
def stepR (P : Program) (tb : Tb) (ops : Array Oper) (id : Nat) (σ : St) (o : Oper) (e : Eff) : Prop :=
  match o.guard with
  | none => match callOf o.op with
    | some c => c.2.1.length = c.2.2.length ∧ callR P tb id σ c.1 (c.2.1.zip c.2.2) e
    | none => pvc P tb id σ o.dst o.op ∧ e = peff tb id σ o.op
  | some g => ∃ d C, (ops[g.1]?).bind (·.dst) = some d ∧ gcond (σ.tmps d) g.2 = some C ∧ match callOf o.op with
    | some c => ((C = true → c.2.1.length = c.2.2.length ∧ argC σ tb (c.2.1.zip c.2.2)) ∧ ∃ rv, (C = true → FunOK P c.1 (argD σ tb (c.2.1.zip c.2.2)) rv) ∧ e = ⟨.gd C (recvG rv), []⟩) ∨
      ((C = true → c.2.1.length = c.2.2.length ∧ argC σ.settle tb (c.2.1.zip c.2.2)) ∧ ∃ rv, (C = true → FunOK P c.1 (argD σ.settle tb (c.2.1.zip c.2.2)) rv) ∧ rv.noL = true ∧ e = ⟨.gd C (recvG rv), []⟩)
    | none => (C = true → pvc P tb id σ o.dst o.op ∧ (peff tb id σ o.op).upds = []) ∧ e = ⟨.gd C (peff tb id σ o.op).av, []⟩

def StepOK (P : Program) (cx : Cx) (ops : Array Oper) (σ : St) (o : Oper) (e : Eff) : Prop :=
  ∀ (a : Act) (w : World) (K : Act → World → Prop) (Q : Exit → Act → World → Prop), Sat cx σ a w → (∀ a' w', Sat cx (σ.app o.dst e) a' w' → K a' w') →
    if Region.wanted o (yielded ops a.tmps) then o.wp P a w K Q else K (a.put o.dst undef) w

theorem callOf_spec {op : Op} {c : FuncId × List Operand × List TypeId} (h : callOf op = some c) : op = .call { callee := .value (.func c.1), args := c.2.1.toArray, argTypes := c.2.2.toArray } := by
  unfold callOf at h
  split at h
  · injection h with h; subst h; rfl
  · cases h

theorem gcond_spec {w : World} {lim : Nat → Nat} {G : Nat → Value} {objs : Nat → AObj} {b C : Bool} {ops : Array Oper} {o : Oper} {g d : Nat} {tmps : Array Value} (hg : o.guard = some (g, b)) (hd : (ops[g]?).bind (·.dst) = some d) :
    ∀ {av : AV}, AVok w lim G objs av (tmps.getD d undef) → gcond av b = some C → Region.wanted o (yielded ops tmps) = C
  | .rd t x, h, hc => by
    cases t with
    | bool =>
      simp only [gcond] at hc
      injection hc with hc
      simp only [AVok] at h
      have hv := h.bool
      have hs : tmps[d]? = some (.bool x) := by
        rw [Array.getD_eq_getD_getElem?] at hv
        cases he : tmps[d]? with
        | none => rw [he] at hv; simp [undef] at hv
        | some v => rw [he] at hv; simpa using hv
      have hy : yielded ops tmps g = some x := by simp [yielded, hd, hs]
      simp only [Region.wanted, hg, hy]
      rw [← hc]
      cases x <;> cases b <;> rfl
    | _ => simp only [gcond] at hc; cases hc
  | .gd c1 a, h, hc => by
    simp only [gcond, Option.map_eq_some_iff] at hc
    obtain ⟨C', h1, h2⟩ := hc
    simp only [AVok] at h
    cases c1 with
    | true =>
      rw [gcond_spec hg hd (h.1 rfl) h1, ← h2]; rfl
    | false =>
      have hv := h.2 rfl
      have hy : yielded ops tmps g = none := by
        rw [Array.getD_eq_getD_getElem?] at hv
        simp only [yielded, hd, Option.bind_some]
        cases he : tmps[d]? with
        | none => rfl
        | some v => rw [he] at hv; simp at hv; rw [hv]; rfl
      simp only [Region.wanted, hg, hy]
      rw [← h2]; rfl
  | .any, _, hc | .ptr _ _, _, hc | .nils, _, hc | .own _, _, hc | .bp _ _, _, hc | .ep _ _ _, _, hc | .ef _ _ _ _, _, hc | .agg _, _, hc | .tup _, _, hc | .fn _ _, _, hc => by simp only [gcond] at hc; cases hc

section
variable {w : World} {lim : Nat → Nat} {base : Nat} {G : Nat → Value} {objs : Nat → AObj}
mutual
theorem recvG_ok : ∀ (rv : RV) (v : Value) (fp : List Nat), RVok w lim base rv v fp → AVok w lim G objs (recvG rv) v
  | .rd t x, v, fp, h => by simp only [RVok] at h; simp only [recvG, AVok]; exact h.1
  | .own e t xs, v, fp, h => by simp only [RVok] at h; simp only [recvG, AVok]; exact ownsRow_rd h.1 h.2.1
  | .fresh e t xs, v, fp, h => by simp only [recvG, AVok]
  | .tl e t xs, v, fp, h => by simp only [RVok] at h; simp only [recvG, AVok]; exact h.1.rd
  | .agg rs, v, fp, h => by
    simp only [RVok] at h
    obtain ⟨vs, h1, h2⟩ := h
    simp only [recvG, AVok]
    exact ⟨vs, h1, recvGs_ok rs vs fp h2⟩
  | .tup rs, v, fp, h => by
    simp only [RVok] at h
    obtain ⟨vs, h1, h2⟩ := h
    simp only [recvG, AVok]
    exact ⟨vs, h1, recvGs_ok rs vs fp h2⟩
theorem recvGs_ok : ∀ (rs : List RV) (vs : List Value) (fp : List Nat), RVsOk w lim base rs vs fp → AVsOk w lim G objs (recvGs rs) vs
  | [], vs, fp, h => by simp only [RVsOk] at h; simp only [recvGs, AVsOk]; exact h.1
  | r :: rs, vs, fp, h => by
    simp only [RVsOk] at h
    obtain ⟨v, vr, f1, f2, e1, _, h1, h2⟩ := h
    simp only [recvGs, AVsOk]
    exact ⟨v, vr, e1, recvG_ok r v f1 h1, recvGs_ok rs vr f2 h2⟩
end
end

section
variable {P : Program} {cx : Cx} {σ : St} {o : Oper} {tb : Tb} {id : Nat} {ops : Array Oper} {e : Eff}

theorem op_callG (hd : ∀ k, o.dst = some k → k < cx.N) {f : FuncId} {as : List Operand} {ts : List TypeId} {rv : RV} (ho : o.op = .call { callee := .value (.func f), args := as.toArray, argTypes := ts.toArray }) (hl : as.length = ts.length)
    (hc : argC σ tb (as.zip ts)) (hfun : FunOK P f (argD σ tb (as.zip ts)) rv) : OpOK P cx σ o ⟨recvG rv, []⟩ := by
  intro a w K Q hsat hK
  obtain ⟨lim, G, hh, hf⟩ := hsat
  obtain ⟨⟨fn, hfn, hnm, hbd⟩, hcall⟩ := hfun
  have hargs := arg_ok hh hf tb _ hc
  have e1 : (as.zip ts).map (fun p => a.eval p.1) = as.map a.eval := map_zip a.eval as ts hl
  rw [e1] at hargs
  have hcalls := hcall w lim _ hargs
  have hrun : (execOp a.eval o).run P w = .ok (.enter f (as.map a.eval).toArray) w := by
    have hnm' : ¬ fn.name = "runtime.NumGoroutine" := by simpa using hnm
    have hbd' : ¬ fn.body = none := by intro h; rw [h] at hbd; cases hbd
    simp [execOp, ho, resolve, invoke, callFunc, Act.eval, Deferred.ofValue, hfn, hnm', hbd']
  unfold Oper.wp
  rw [hrun]
  simp only [Oper.upon]
  refine hcalls.mono fun e w' hpost => ?_
  obtain ⟨v, lim', fp, he, hb, hl', hrv, hnd⟩ := hpost
  subst he
  refine hK _ _ ?_
  obtain ⟨hh', hk⟩ := hh.world hb hl'
  have hf' := hf.keeps hk (Ext.refl G σ.objs)
  rw [app_nil]
  exact ⟨lim', G, by rw [put_objs]; exact hh', hf'.put hd (recvG_ok rv v fp hrv)⟩

theorem OpOK.stepNone (h : OpOK P cx σ o e) (hg : o.guard = none) : StepOK P cx ops σ o e := by
  intro a w K Q hs hK
  rw [if_pos (by simp [Region.wanted, hg])]
  exact h a w K Q hs hK

theorem OpOK.stepGuard {g : Nat} {b C : Bool} {d : Nat} {av : AV} (hd : ∀ k, o.dst = some k → k < cx.N) (hg : o.guard = some (g, b)) (hgd : (ops[g]?).bind (·.dst) = some d) (hC : gcond (σ.tmps d) b = some C) (h : C = true → OpOK P cx σ o ⟨av, []⟩) :
    StepOK P cx ops σ o ⟨.gd C av, []⟩ := by
  intro a w K Q hs hK
  have hw : Region.wanted o (yielded ops a.tmps) = C := by
    obtain ⟨lim, G, hh, hf⟩ := hs
    exact gcond_spec hg hgd (hf.tmp d) hC
  rw [hw]
  cases C with
  | true =>
    rw [if_pos rfl]
    refine h rfl a w K Q hs fun a' w' hs' => hK a' w' ?_
    obtain ⟨lim, G, hh, hf⟩ := hs'
    rw [app_nil] at hh hf ⊢
    rw [put_objs] at hh
    refine ⟨lim, G, by rw [put_objs]; exact hh, hf.size, hf.defers, fun t => ?_, fun p hp => by have := hf.ext p hp; rw [put_objs] at this ⊢; exact this⟩
    have := hf.tmp t
    rw [put_objs] at this ⊢
    cases hdst : o.dst with
    | none => rw [hdst] at this; exact this
    | some k =>
      rw [hdst] at this
      simp only [St.put] at this ⊢
      by_cases ht : t = k
      · subst ht
        rw [upd_same] at this ⊢
        simp only [AVok]
        exact ⟨fun _ => this, fun h => by cases h⟩
      · rw [upd_ne _ _ _ _ ht] at this ⊢
        exact this
  | false =>
    rw [if_neg (by simp)]
    refine hK _ _ ?_
    obtain ⟨lim, G, hh, hf⟩ := hs
    rw [app_nil]
    exact ⟨lim, G, by rw [put_objs]; exact hh, hf.put hd (by simp only [AVok]; exact ⟨(fun h => by cases h), (fun _ => by first | rfl | trivial)⟩)⟩

theorem stepR_sound (hd : ∀ k, o.dst = some k → k < cx.N) (h : stepR P tb ops id σ o e) : StepOK P cx ops σ o e := by
  unfold stepR at h
  cases hg : o.guard with
  | none =>
    rw [hg] at h
    simp only at h
    cases hc : callOf o.op with
    | none =>
      rw [hc] at h
      obtain ⟨h1, h2⟩ := h
      subst h2
      exact (pure_sound hd rfl h1).stepNone hg
    | some c =>
      rw [hc] at h
      obtain ⟨h1, h2⟩ := h
      exact (callR_sound hd (callOf_spec hc) h1 h2).stepNone hg
  | some g =>
    rw [hg] at h
    obtain ⟨gi, b⟩ := g
    obtain ⟨d, C, h1, h2, h3⟩ := h
    cases hc : callOf o.op with
    | none =>
      rw [hc] at h3
      obtain ⟨k1, k2⟩ := h3
      subst k2
      refine OpOK.stepGuard hd hg h1 h2 fun hC => ?_
      have := pure_sound hd rfl (k1 hC).1
      have e2 : peff tb id σ o.op = ⟨(peff tb id σ o.op).av, []⟩ := by
        have hu := (k1 hC).2
        generalize peff tb id σ o.op = q at *
        cases q
        simp only at hu
        rw [hu]
      rwa [e2] at this
    | some c =>
      rw [hc] at h3
      rcases h3 with ⟨k1, rv, k2, k3⟩ | ⟨k1, rv, k2, k4, k3⟩
      · subst k3
        exact OpOK.stepGuard hd hg h1 h2 fun hC => op_callG hd (callOf_spec hc) (k1 hC).1 (k1 hC).2 (k2 hC)
      · subst k3
        exact OpOK.stepGuard hd hg h1 h2 fun hC => op_callB0 hd (callOf_spec hc) (k1 hC).1 (k1 hC).2 (k2 hC) k4 fun w lim base G v fp hr => recvG_ok rv v fp hr

/-- The text's order. -/
inductive Run (P : Program) (tb : Tb) (N : Nat) (ops : Array Oper) : List Oper → Nat → St → List Eff → St → Prop
  | nil (id : Nat) (σ : St) : Run P tb N ops [] id σ [] σ
  | cons {o : Oper} {r : List Oper} {id : Nat} {σ σ' : St} {e : Eff} {es : List Eff} (hd : ∀ k, o.dst = some k → k < N) (h : stepR P tb ops id σ o e) (hr : Run P tb N ops r (id + 16) (σ.app o.dst e) es σ') : Run P tb N ops (o :: r) id σ (e :: es) σ'

theorem Run.wp {l : List Oper} {es : List Eff} {σ' : St} (h : Run P tb cx.N ops l id σ es σ') : ∀ {a : Act} {w : World} {Q : Exit → Act → World → Prop}, Sat cx σ a w → (∀ a' w', Sat cx σ' a' w' → Q .normal a' w') → wpList P ops Q l a w := by
  induction h with
  | nil => intro a w Q hs hQ; exact hQ a w hs
  | cons hd h _ ih =>
    intro a w Q hs hQ
    refine wpList_step fun K hK => ?_
    exact stepR_sound hd h a w K Q hs fun a' w' hs' => hK a' w' (ih hs' hQ)

end
end Go.AL
/- A region that draws its order: the order of the text serves for all. A general part, over any program. -/
set_option linter.unusedSimpArgs false
set_option linter.unusedVariables false
namespace Go.AL
open Go.RowKit

theorem updAll_out : ∀ (l : List (Nat × AObj)) (f : Nat → AObj) (j : Nat), j ∉ l.map (·.1) → updAll f l j = f j
  | [], _, _, _ => rfl
  | u :: l, f, j, h => by
    simp only [List.map_cons, List.mem_cons, not_or] at h
    simp only [updAll]
    rw [updAll_out l _ j h.2, upd_ne _ _ _ _ h.1]

theorem updAll_in : ∀ (l : List (Nat × AObj)) (f g : Nat → AObj) (j : Nat), j ∈ l.map (·.1) → updAll f l j = updAll g l j
  | [], _, _, _, h => by cases h
  | u :: l, f, g, j, h => by
    simp only [updAll]
    by_cases hl : j ∈ l.map (·.1)
    · exact updAll_in l _ _ j hl
    · simp only [List.map_cons, List.mem_cons] at h
      rcases h with h | h
      · rw [updAll_out l _ j hl, updAll_out l _ j hl, h, upd_same, upd_same]
      · exact absurd h hl

theorem St.ext' {σ τ : St} (h1 : ∀ t, σ.tmps t = τ.tmps t) (h2 : ∀ j, σ.objs j = τ.objs j) : σ = τ := by
  cases σ; cases τ
  simp only [St.mk.injEq]
  exact ⟨funext h1, funext h2⟩

/-- A record: where the result goes, and the effect. -/
abbrev Rec := Option Nat × Eff

def St.rc (σ : St) (r : Rec) : St := σ.app r.1 r.2

theorem rec_tmps (σ : St) (r : Rec) (t : Nat) : (σ.rc r).tmps t = if r.1 = some t then r.2.av else σ.tmps t := by
  obtain ⟨d, e⟩ := r
  cases d with
  | none => simp [St.rc, St.app, St.put]
  | some d =>
    by_cases h : t = d
    · subst h; simp [St.rc, St.app, St.put, upd_same]
    · have h' : ¬ d = t := fun k => h k.symm
      simp [St.rc, St.app, St.put, upd_ne _ _ _ _ h, h']

theorem rec_objs (σ : St) (r : Rec) : (σ.rc r).objs = updAll σ.objs r.2.upds := by
  obtain ⟨d, e⟩ := r
  cases d <;> rfl

/-- The state behind those records whose numbers (from k on) are in S. -/
def mrg (S : Nat → Bool) : Nat → List Rec → St → St
  | _, [], σ => σ
  | k, r :: rs, σ => mrg S (k + 1) rs (bif S k then σ.rc r else σ)

theorem mrg_tmps {S S' : Nat → Bool} {t : Nat} : ∀ (rs : List Rec) (k : Nat) (σ σ' : St), (∀ j r, rs[j]? = some r → r.1 = some t → S (k + j) = S' (k + j)) → σ.tmps t = σ'.tmps t → (mrg S k rs σ).tmps t = (mrg S' k rs σ').tmps t
  | [], _, _, _, _, h => h
  | r :: rs, k, σ, σ', hS, h => by
    simp only [mrg]
    refine mrg_tmps rs (k + 1) _ _ (fun j r' hj hr => by have := hS (j + 1) r' (by simpa using hj) hr; rwa [show k + 1 + j = k + (j + 1) by omega]) ?_
    by_cases hr : r.1 = some t
    · have := hS 0 r rfl hr
      simp only [Nat.add_zero] at this
      rw [this]
      cases S' k with
      | true => simp only [cond_true]; rw [rec_tmps, rec_tmps, if_pos hr, if_pos hr]
      | false => exact h
    · have f : ∀ (b : Bool) (σ : St), (bif b then σ.rc r else σ).tmps t = σ.tmps t := by
        intro b σ
        cases b with
        | true => simp only [cond_true]; rw [rec_tmps, if_neg hr]
        | false => rfl
      rw [f, f, h]

theorem mrg_objs {S S' : Nat → Bool} {id : Nat} : ∀ (rs : List Rec) (k : Nat) (σ σ' : St), (∀ j r, rs[j]? = some r → id ∈ r.2.upds.map (·.1) → S (k + j) = S' (k + j)) → σ.objs id = σ'.objs id → (mrg S k rs σ).objs id = (mrg S' k rs σ').objs id
  | [], _, _, _, _, h => h
  | r :: rs, k, σ, σ', hS, h => by
    simp only [mrg]
    refine mrg_objs rs (k + 1) _ _ (fun j r' hj hr => by have := hS (j + 1) r' (by simpa using hj) hr; rwa [show k + 1 + j = k + (j + 1) by omega]) ?_
    by_cases hr : id ∈ r.2.upds.map (·.1)
    · have := hS 0 r rfl hr
      simp only [Nat.add_zero] at this
      rw [this]
      cases S' k with
      | true => simp only [cond_true]; rw [rec_objs, rec_objs]; exact updAll_in _ _ _ _ hr
      | false => exact h
    · have f : ∀ (b : Bool) (σ : St), (bif b then σ.rc r else σ).objs id = σ.objs id := by
        intro b σ
        cases b with
        | true => simp only [cond_true]; rw [rec_objs]; exact updAll_out _ _ _ hr
        | false => rfl
      rw [f, f, h]

/-- Two records that may be done in either order. -/
def Apart (r q : Rec) : Prop := (∀ t, r.1 = some t → q.1 ≠ some t) ∧ ∀ j, j ∈ r.2.upds.map (·.1) → j ∉ q.2.upds.map (·.1)

theorem rec_comm (σ : St) {r q : Rec} (h : Apart r q) : (σ.rc r).rc q = (σ.rc q).rc r := by
  refine St.ext' (fun t => ?_) fun j => ?_
  · rw [rec_tmps, rec_tmps, rec_tmps, rec_tmps]
    by_cases h1 : r.1 = some t
    · rw [if_neg (h.1 t h1), if_pos h1, if_pos h1]
    · rw [if_neg h1, if_neg h1]
  · rw [rec_objs, rec_objs, rec_objs, rec_objs]
    by_cases h1 : j ∈ r.2.upds.map (·.1)
    · rw [updAll_out q.2.upds _ j (h.2 j h1)]
      exact updAll_in _ _ _ _ h1
    · rw [updAll_out r.2.upds _ j h1]
      by_cases h2 : j ∈ q.2.upds.map (·.1)
      · exact updAll_in _ _ _ _ h2
      · rw [updAll_out q.2.upds _ j h2, updAll_out q.2.upds _ j h2, updAll_out r.2.upds _ j h1]

theorem mrg_rec (S : Nat → Bool) {q : Rec} : ∀ (rs : List Rec) (k : Nat) (σ : St), (∀ j r, rs[j]? = some r → S (k + j) = true → Apart q r) → mrg S k rs (σ.rc q) = (mrg S k rs σ).rc q
  | [], _, _, _ => rfl
  | r :: rs, k, σ, h => by
    simp only [mrg]
    have ih := mrg_rec S (q := q) rs (k + 1)
    cases hs : S k with
    | true =>
      simp only [cond_true]
      rw [rec_comm σ (h 0 r rfl (by simpa using hs))]
      exact ih _ fun j r' hj hS => h (j + 1) r' (by simpa using hj) (by rwa [show k + (j + 1) = k + 1 + j by omega])
    | false =>
      exact ih _ fun j r' hj hS => h (j + 1) r' (by simpa using hj) (by rwa [show k + (j + 1) = k + 1 + j by omega])

/-- One more record, wherever it stands. -/
theorem mrg_insert (S : Nat → Bool) {i : Nat} {q : Rec} : ∀ (rs : List Rec) (k : Nat) (σ : St), rs[i]? = some q → S (k + i) = false → (∀ j r, rs[j]? = some r → i < j → S (k + j) = true → Apart q r) →
    mrg (fun j => S j || j == k + i) k rs σ = (mrg S k rs σ).rc q := by
  induction i with
  | zero =>
    intro rs k σ hi hS h
    cases rs with
    | nil => cases hi
    | cons r rs =>
      have e : r = q := by simpa using hi
      subst e
      simp only [Nat.add_zero] at hS ⊢
      simp only [mrg, hS, Bool.false_or, beq_self_eq_true, cond_true, cond_false]
      have e2 : mrg (fun j => S j || j == k) (k + 1) rs (σ.rc r) = mrg S (k + 1) rs (σ.rc r) := by
        have gen : ∀ (rs : List Rec) (m : Nat) (σ : St), k < m → mrg (fun j => S j || j == k) m rs σ = mrg S m rs σ := by
          intro rs
          induction rs with
          | nil => intro m σ _; rfl
          | cons r rs ih =>
            intro m σ hm
            simp only [mrg]
            have : (m == k) = false := by simp; omega
            rw [this, Bool.or_false]
            exact ih (m + 1) _ (by omega)
        exact gen rs (k + 1) _ (by omega)
      rw [e2]
      exact mrg_rec S rs (k + 1) σ fun j r' hj hS' => h (j + 1) r' (by simpa using hj) (by omega) (by rwa [show k + (j + 1) = k + 1 + j by omega])
  | succ i ih =>
    intro rs k σ hi hS h
    cases rs with
    | nil => cases hi
    | cons r rs =>
      simp only [mrg]
      have hk : (k == k + (i + 1)) = false := by simp
      rw [hk, Bool.or_false]
      have e : k + (i + 1) = k + 1 + i := by omega
      rw [e] at hS ⊢
      exact ih rs (k + 1) _ (by simpa using hi) hS fun j r' hj hij hS' => h (j + 1) r' (by simpa using hj) (by omega) (by rwa [show k + (j + 1) = k + 1 + j by omega])

end Go.AL
/- A region that draws its order, walked once: the theorem. A general part, over any program. -/
set_option linter.unusedSimpArgs false
set_option linter.unusedVariables false
namespace Go.AL
open Go.RowKit

structure Info where
  o : Oper
  w : List Nat
  rid : List Nat
  id : Nat

/-- What only hands a value on looks at no object. -/
def isCopy : Op → Bool
  | .move _ => true
  | .assign _ => true
  | _ => false
def rids (σ : St) (o : Oper) : List Nat := bif isCopy o.op then [] else o.op.operands.toList.flatMap fun x => (σ.ev x).ids

inductive RunI (P : Program) (tb : Tb) (N : Nat) (ops : Array Oper) : List Oper → Nat → St → List Rec → List Info → St → Prop
  | nil (id : Nat) (σ : St) : RunI P tb N ops [] id σ [] [] σ
  | cons {o : Oper} {r : List Oper} {id : Nat} {σ σ' : St} {e : Eff} {rs : List Rec} {is : List Info} (hd : ∀ k, o.dst = some k → k < N) (h : stepR P tb ops id σ o e) (hr : RunI P tb N ops r (id + 16) (σ.app o.dst e) rs is σ') :
      RunI P tb N ops (o :: r) id σ ((o.dst, e) :: rs) (⟨o, e.upds.map (·.1), rids σ o, id⟩ :: is) σ'

theorem mrg_lt (k : Nat) : ∀ (rs : List Rec) (m : Nat) (σ : St), k ≤ m → mrg (fun j => decide (j < k)) m rs σ = σ
  | [], _, _, _ => rfl
  | r :: rs, m, σ, h => by
    simp only [mrg]
    rw [show decide (m < k) = false by simp; omega]
    exact mrg_lt k rs (m + 1) σ (by omega)

theorem RunI.at {P : Program} {tb : Tb} {N : Nat} {ops : Array Oper} {l : List Oper} {id : Nat} {σ σ' : St} {rs : List Rec} {is : List Info} (h : RunI P tb N ops l id σ rs is σ') :
    ∀ (k i : Nat) (o : Oper), l[i]? = some o → ∃ e, rs[i]? = some (o.dst, e) ∧ (∀ k, o.dst = some k → k < N) ∧
      is[i]? = some ⟨o, e.upds.map (·.1), rids (mrg (fun j => decide (j < k + i)) k rs σ) o, id + 16 * i⟩ ∧ stepR P tb ops (id + 16 * i) (mrg (fun j => decide (j < k + i)) k rs σ) o e := by
  induction h with
  | nil => intro k i o h; simp at h
  | @cons o r id σ σ' e rs is hd h hr ih =>
    intro k i o' ho
    cases i with
    | zero =>
      have eo : o = o' := by simpa using ho
      subst eo
      refine ⟨e, rfl, hd, ?_, ?_⟩
      · rw [mrg_lt (k + 0) _ k σ (by omega)]; rfl
      · rw [mrg_lt (k + 0) _ k σ (by omega)]; exact h
    | succ i =>
      obtain ⟨e', h1, h2, h3, h4⟩ := ih (k + 1) i o' (by simpa using ho)
      have em : mrg (fun j => decide (j < k + (i + 1))) k ((o.dst, e) :: rs) σ = mrg (fun j => decide (j < k + 1 + i)) (k + 1) rs (σ.app o.dst e) := by
        simp only [mrg]
        rw [show k + (i + 1) = k + 1 + i by omega, show decide (k < k + 1 + i) = true by simp; omega]
        rfl
      rw [em, show id + 16 * (i + 1) = id + 16 + 16 * i by omega]
      exact ⟨e', by simpa using h1, h2, by simpa using h3, h4⟩

theorem RunI.len {P : Program} {tb : Tb} {N : Nat} {ops : Array Oper} {l : List Oper} {id : Nat} {σ σ' : St} {rs : List Rec} {is : List Info} (h : RunI P tb N ops l id σ rs is σ') : rs.length = l.length ∧ is.length = l.length := by
  induction h with
  | nil => exact ⟨rfl, rfl⟩
  | cons _ _ _ ih => exact ⟨by simp [ih.1], by simp [ih.2]⟩

theorem RunI.last {P : Program} {tb : Tb} {N : Nat} {ops : Array Oper} {l : List Oper} {id : Nat} {σ σ' : St} {rs : List Rec} {is : List Info} (h : RunI P tb N ops l id σ rs is σ') (S : Nat → Bool) :
    ∀ k, (∀ j, k ≤ j → j < k + l.length → S j = true) → mrg S k rs σ = σ' := by
  induction h with
  | nil => intro k _; rfl
  | cons _ _ _ ih =>
    intro k hS
    simp only [mrg]
    rw [hS k (Nat.le_refl _) (by simp)]
    exact ih (k + 1) fun j h1 h2 => hS j (by omega) (by simp at h2 ⊢; omega)

/-! ### The look at a pair of operations -/

def waitsOn (o : Oper) (i : Nat) : Bool := o.after.any fun e => Region.binds .any e && e.on == i
/-- As 'waitsOn', or by way of operations between. -/
def waitsN (ops : Array Oper) : Nat → Oper → Nat → Bool
  | 0, o, i => waitsOn o i
  | n + 1, o, i => waitsOn o i || o.after.any fun e => Region.binds .any e && (match ops[e.on]? with | some o2 => waitsN ops n o2 i | none => false)
def waits2 (ops : Array Oper) (o : Oper) (i : Nat) : Bool := waitsN ops 6 o i
def waitsA (ops : Array Oper) (o : Oper) (i : Nat) : Bool := waitsOn o i || waits2 ops o i
def outside (id j : Nat) : Bool := decide (j < id) || decide (id + 16 ≤ j)
def chkPair (ops : Array Oper) (i : Nat) (x y : Info) : Bool :=
  waitsOn y.o i || (x.o.apart ops y.o && (x.w.all fun j => !(y.rid.contains j) && !(y.w.contains j) && outside y.id j) && y.w.all fun j => !(x.rid.contains j) && outside x.id j) || waits2 ops y.o i
def chkOne (ops : Array Oper) (i : Nat) (x : Info) : List Info → Bool
  | [] => true
  | y :: r => chkPair ops i x y && chkOne ops i x r
def chkBack (o : Oper) (i : Nat) : Bool := o.after.all fun e => !Region.binds .any e || decide (e.on < i)
def chkAll (ops : Array Oper) : Nat → List Info → Bool
  | _, [] => true
  | i, x :: r => chkOne ops i x r && chkBack x.o i && chkAll ops (i + 1) r

theorem chkOne_at {ops : Array Oper} {i : Nat} {x : Info} : ∀ {l : List Info}, chkOne ops i x l = true → ∀ (j : Nat) (y : Info), l[j]? = some y → chkPair ops i x y = true
  | [], _, j, y, h => by simp at h
  | z :: l, hc, j, y, h => by
    simp only [chkOne, Bool.and_eq_true] at hc
    cases j with
    | zero => have : z = y := by simpa using h
              subst this; exact hc.1
    | succ j => exact chkOne_at hc.2 j y (by simpa using h)

theorem chkAll_at {ops : Array Oper} : ∀ {l : List Info} {k : Nat}, chkAll ops k l = true → ∀ (i : Nat) (x : Info), l[i]? = some x → chkBack x.o (k + i) = true ∧ ∀ (j : Nat) (y : Info), i < j → l[j]? = some y → chkPair ops (k + i) x y = true
  | [], _, _, i, x, h => by simp at h
  | z :: l, k, hc, i, x, h => by
    simp only [chkAll, Bool.and_eq_true] at hc
    cases i with
    | zero =>
      have : z = x := by simpa using h
      subst this
      refine ⟨hc.1.2, fun j y hj hy => ?_⟩
      cases j with
      | zero => omega
      | succ j => exact chkOne_at hc.1.1 j y (by simpa using hy)
    | succ i =>
      obtain ⟨h1, h2⟩ := chkAll_at hc.2 i x (by simpa using h)
      rw [show k + 1 + i = k + (i + 1) by omega] at h1 h2
      refine ⟨h1, fun j y hj hy => ?_⟩
      cases j with
      | zero => omega
      | succ j => exact h2 j y (by omega) (by simpa using hy)

theorem chkBack_spec {o : Oper} {i : Nat} (h : chkBack o i = true) : ∀ e, e ∈ o.after → Region.binds .any e = true → e.on < i := by
  intro e he hb
  unfold chkBack at h
  rw [Array.all_eq_true_iff_forall_mem] at h
  have := h e he
  rw [hb] at this
  simpa using this

theorem waitsOn_spec {o : Oper} {i : Nat} (h : waitsOn o i = true) : ∃ e, e ∈ o.after ∧ Region.binds .any e = true ∧ e.on = i := by
  unfold waitsOn at h
  rw [Array.any_eq_true'] at h
  obtain ⟨e, he, h⟩ := h
  simp only [Bool.and_eq_true, beq_iff_eq] at h
  exact ⟨e, he, h.1, h.2⟩

theorem waitsN_listed {ops : Array Oper} {listed : Array Bool} {i : Nat} (hcl : ∀ j o, ops[j]? = some o → listed.getD j false = true → ∀ e, e ∈ o.after → Region.binds .any e = true → listed.getD e.on false = true) : ∀ (n : Nat) (o : Oper),
    (∀ e, e ∈ o.after → Region.binds .any e = true → listed.getD e.on false = true) → waitsN ops n o i = true → listed.getD i false = true
  | 0, o, hw, h => by
    obtain ⟨e, h1, h2, h3⟩ := waitsOn_spec h
    rw [← h3]
    exact hw e h1 h2
  | n + 1, o, hw, h => by
    rw [waitsN, Bool.or_eq_true] at h
    rcases h with h | h
    · obtain ⟨e, h1, h2, h3⟩ := waitsOn_spec h
      rw [← h3]
      exact hw e h1 h2
    · rw [Array.any_eq_true'] at h
      obtain ⟨e, he, h⟩ := h
      rw [Bool.and_eq_true] at h
      obtain ⟨hb, h⟩ := h
      cases ho : ops[e.on]? with
      | none => rw [ho] at h; cases h
      | some o2 =>
        rw [ho] at h
        exact waitsN_listed hcl n o2 (hcl e.on o2 ho (hw e he hb)) h
theorem waitsA_listed {ops : Array Oper} {listed : Array Bool} {o : Oper} {i : Nat} (hcl : ∀ j o, ops[j]? = some o → listed.getD j false = true → ∀ e, e ∈ o.after → Region.binds .any e = true → listed.getD e.on false = true)
    (hw : ∀ e, e ∈ o.after → Region.binds .any e = true → listed.getD e.on false = true) (h : waitsA ops o i = true) : listed.getD i false = true := by
  unfold waitsA at h
  rw [Bool.or_eq_true] at h
  rcases h with h | h
  · exact waitsN_listed hcl 0 o hw h
  · exact waitsN_listed hcl 6 o hw h

theorem apart_of_pair {ops : Array Oper} {i : Nat} {x y : Info} (h : chkPair ops i x y = true) (hn : waitsA ops y.o i = false) :
    x.o.apart ops y.o = true ∧ (∀ j, j ∈ x.w → j ∉ y.rid ∧ j ∉ y.w ∧ (j < y.id ∨ y.id + 16 ≤ j)) ∧ ∀ j, j ∈ y.w → j ∉ x.rid ∧ (j < x.id ∨ x.id + 16 ≤ j) := by
  unfold chkPair at h
  unfold waitsA at hn
  rw [Bool.or_eq_false_iff] at hn
  rw [hn.1, hn.2, Bool.false_or, Bool.or_false, Bool.and_eq_true, Bool.and_eq_true] at h
  obtain ⟨⟨h1, h2⟩, h3⟩ := h
  refine ⟨h1, fun j hj => ?_, fun j hj => ?_⟩
  · have := List.all_eq_true.1 h2 j hj
    simpa [outside, Bool.and_eq_true, and_assoc] using this
  · have := List.all_eq_true.1 h3 j hj
    simpa [outside, Bool.and_eq_true] using this

theorem countP_set {l : List Bool} : ∀ {i : Nat}, l[i]? = some false → (l.set i true).countP (! ·) + 1 = l.countP (! ·) := by
  induction l with
  | nil => intro i h; simp at h
  | cons b l ih =>
    intro i h
    cases i with
    | zero =>
      have : b = false := by simpa using h
      subst this
      simp
    | succ i =>
      have := ih (i := i) (by simpa using h)
      simp only [List.set_cons_succ, List.countP_cons]
      omega

def looks (ops : Array Oper) (o : Oper) : List Operand := o.op.operands.toList

section
variable {P : Program} {cx : Cx} {tb : Tb} {ops : Array Oper} {id : Nat} {σ σ' : St} {rs : List Rec} {is : List Info}

theorem stepR_congr {τ τ' : St} {o : Oper} {e : Eff} {id : Nat} (ha : Agr τ τ' o.op.operands.toList) (hid : ∀ j, id ≤ j → j < id + 16 → τ.objs j = τ'.objs j)
    (hg : ∀ d, d ∈ o.looksAt ops → τ.tmps d = τ'.tmps d) (h : stepR P tb ops id τ o e) : stepR P tb ops id τ' o e := by
  have hc := eff_congr (tb := tb) (P := P) (id := id) (d := o.dst) ha (hid id (Nat.le_refl _) (by omega))
  have inL : ∀ c, callOf o.op = some c → ∀ p, p ∈ c.2.1.zip c.2.2 → p.1 ∈ o.op.operands.toList := by
    intro c hc p hp
    have := (List.of_mem_zip hp).1
    rw [callOf_spec hc]
    simp [Op.operands, Call.operands]
    exact .inr this
  have args : ∀ c, callOf o.op = some c → argC τ tb (c.2.1.zip c.2.2) = argC τ' tb (c.2.1.zip c.2.2) ∧ argD τ tb (c.2.1.zip c.2.2) = argD τ' tb (c.2.1.zip c.2.2) := by
    intro c hc
    exact ⟨ha.argC tb _ (inL c hc), ha.argD tb _ (inL c hc)⟩
  unfold stepR at h ⊢
  cases hgd : o.guard with
  | none =>
    rw [hgd] at h
    simp only at h ⊢
    cases hcl : callOf o.op with
    | none =>
      rw [hcl] at h
      exact ⟨by rw [← hc.2]; exact h.1, by rw [← hc.1]; exact h.2⟩
    | some c =>
      rw [hcl] at h
      obtain ⟨h1, h2⟩ := h
      exact ⟨h1, ha.callR (inL c hcl) hid h2⟩
  | some g =>
    rw [hgd] at h
    obtain ⟨d, C, h1, h2, h3⟩ := h
    have hd : d ∈ o.looksAt ops := by
      unfold Oper.looksAt
      rw [hgd]
      obtain ⟨gi, gb⟩ := g
      simp only at h1 ⊢
      rw [h1]
      simp
    refine ⟨d, C, h1, by rw [← hg d hd]; exact h2, ?_⟩
    cases hcl : callOf o.op with
    | none =>
      rw [hcl] at h3
      exact ⟨fun hC => by rw [← hc.2, ← hc.1]; exact h3.1 hC, by rw [← hc.1]; exact h3.2⟩
    | some c =>
      rw [hcl] at h3
      obtain ⟨a1, a2⟩ := args c hcl
      rcases h3 with h3 | h3
      · exact .inl ⟨by rw [← a1]; exact h3.1, by rw [← a2]; exact h3.2⟩
      · exact .inr ⟨by rw [← ha.settle.argC tb _ (inL c hcl)]; exact h3.1, by rw [← ha.settle.argD tb _ (inL c hcl)]; exact h3.2⟩

theorem eff_copy {τ τ' : St} {id : Nat} {d : Option Nat} {op : Op} (hcp : isCopy op = true) (hev : ∀ x, x ∈ op.operands.toList → τ.ev x = τ'.ev x) :
    peff tb id τ op = peff tb id τ' op ∧ pvc P tb id τ d op = pvc P tb id τ' d op := by
  cases op with
  | move x =>
    have := hev x (by simp [Op.operands])
    simp only [peff, pvc, this]
    exact ⟨trivial, trivial⟩
  | assign x =>
    have := hev x (by simp [Op.operands])
    simp only [peff, pvc, this]
    exact ⟨trivial, trivial⟩
  | _ => cases hcp

theorem stepR_copy {τ τ' : St} {o : Oper} {e : Eff} {id : Nat} (hcp : isCopy o.op = true) (hev : ∀ x, x ∈ o.op.operands.toList → τ.ev x = τ'.ev x)
    (hg : ∀ d, d ∈ o.looksAt ops → τ.tmps d = τ'.tmps d) (h : stepR P tb ops id τ o e) : stepR P tb ops id τ' o e := by
  have hc := eff_copy (tb := tb) (P := P) (id := id) (d := o.dst) hcp hev
  have hcl : callOf o.op = none := by
    cases ho : o.op with
    | move _ => rfl
    | assign _ => rfl
    | _ => rw [ho] at hcp; cases hcp
  unfold stepR at h ⊢
  cases hgd : o.guard with
  | none =>
    rw [hgd] at h
    simp only at h ⊢
    rw [hcl] at h ⊢
    exact ⟨by rw [← hc.2]; exact h.1, by rw [← hc.1]; exact h.2⟩
  | some g =>
    rw [hgd] at h
    obtain ⟨d, C, h1, h2, h3⟩ := h
    have hd : d ∈ o.looksAt ops := by
      unfold Oper.looksAt
      rw [hgd]
      obtain ⟨gi, gb⟩ := g
      simp only at h1 ⊢
      rw [h1]
      simp
    refine ⟨d, C, h1, by rw [← hg d hd]; exact h2, ?_⟩
    rw [hcl] at h3 ⊢
    exact ⟨fun hC => by rw [← hc.2, ← hc.1]; exact h3.1 hC, by rw [← hc.1]; exact h3.2⟩

theorem draw_any (hR : RunI P tb cx.N ops ops.toList id σ rs is σ') (hchk : chkAll ops 0 is = true) {Q : Exit → Act → World → Prop} (hQ : ∀ a w, Sat cx σ' a w → Q .normal a w) :
    ∀ (fuel : Nat) (listed : Array Bool) (a : Act) (w : World), listed.toList.countP (! ·) ≤ fuel → listed.size = ops.size →
      (∀ j o, ops[j]? = some o → listed.getD j false = true → ∀ e, e ∈ o.after → Region.binds .any e = true → listed.getD e.on false = true) →
      Sat cx (mrg (fun j => listed.getD j false) 0 rs σ) a w → wpAny P .any ops Q fuel listed a w := by
  have hat := hR.at 0
  have hlen := hR.len
  -- where not all has come up, something may come up
  have hready : ∀ listed : Array Bool, listed.size = ops.size → Region.ready .any ops listed = [] → ∀ j, j < ops.size → listed.getD j false = true := by
    intro listed hsz hr
    intro j
    induction j using Nat.strongRecOn with
    | _ j ih =>
      intro hj
      cases hl : listed.getD j false with
      | true => rfl
      | false =>
        exfalso
        have ho : ops[j]? = some ops[j] := Array.getElem?_eq_getElem hj
        have hm : j ∈ Region.ready .any ops listed := by
          rw [mem_ready]
          refine ⟨?_, ops[j], ho, fun e he hb => ?_⟩
          · have : j < listed.size := by omega
            simp [this] at hl ⊢
            exact hl
          · obtain ⟨ef, _, _, hi, _⟩ := hat j ops[j] (by simp [hj])
            have := (chkAll_at hchk j _ hi).1
            rw [Nat.zero_add] at this
            have hlt := chkBack_spec this e he hb
            exact ih e.on hlt (by omega)
        rw [hr] at hm
        cases hm
  have hend : ∀ (listed : Array Bool) (a : Act) (w : World), listed.size = ops.size → Region.ready .any ops listed = [] → Sat cx (mrg (fun j => listed.getD j false) 0 rs σ) a w → Q .normal a w := by
    intro listed a w hsz hr hs
    refine hQ a w ?_
    have := hR.last (fun j => listed.getD j false) 0 fun j _ h2 => hready listed hsz hr j (by simpa using h2)
    rwa [this] at hs
  intro fuel
  induction fuel with
  | zero =>
    intro listed a w hc hsz hcl hs
    have hr : Region.ready .any ops listed = [] := by
      rw [List.eq_nil_iff_forall_not_mem]
      intro j hj
      obtain ⟨h1, o, ho, _⟩ := mem_ready.1 hj
      have hjl : j < listed.size := by rw [hsz]; exact (Array.getElem?_eq_some_iff.1 ho).1
      have hmem : listed[j] ∈ listed.toList := by simp
      have h0 : listed.toList.countP (! ·) = 0 := by omega
      rw [List.countP_eq_zero] at h0
      have := h0 _ hmem
      simp [hjl] at h1
      rw [h1] at this
      simp at this
    exact ⟨hr, hend listed a w hsz hr hs⟩
  | succ fuel ih =>
    intro listed a w hc hsz hcl hs
    refine ⟨fun hr => hend listed a w hsz hr hs, fun i hi => ?_⟩
    obtain ⟨h1, o, ho, hwait⟩ := mem_ready.1 hi
    have hiN : i < ops.size := (Array.getElem?_eq_some_iff.1 ho).1
    have hil : i < listed.size := by omega
    have hi0 : listed[i] = false := by simpa [hil] using h1
    have hiD : listed.getD i false = false := by simp [hil, hi0]
    obtain ⟨e, hrec, hd, hinfo, hstep⟩ := hat i o (by simpa using ho)
    simp only [Nat.zero_add] at hinfo hstep
    have hpairs := (chkAll_at hchk i _ hinfo).2
    -- every other operation against this one
    have key : ∀ (j : Nat) (oj : Oper), ops[j]? = some oj → j ≠ i → ∃ ej, rs[j]? = some (oj.dst, ej) ∧
        (decide (j < i) = listed.getD j false ∨ ((∀ t, oj.dst = some t → t ∉ o.looksAt ops) ∧ (∀ k, k ∈ ej.upds.map (·.1) → k ∉ rids (mrg (fun j => decide (j < i)) 0 rs σ) o ∧ (k < id + 16 * i ∨ id + 16 * i + 16 ≤ k)))) ∧
        (listed.getD j false = true → i < j → Apart (o.dst, e) (oj.dst, ej)) := by
      intro j oj hoj hji
      obtain ⟨ej, hrj, _, hij, _⟩ := hat j oj (by simpa using hoj)
      simp only [Nat.zero_add] at hij
      refine ⟨ej, hrj, ?_, ?_⟩
      · rcases Nat.lt_or_gt_of_ne hji with hlt | hgt
        · have hp := (chkAll_at hchk j _ hij).2 i _ hlt hinfo
          rw [Nat.zero_add] at hp
          cases hw : waitsA ops o j with
          | true =>
            left
            have := waitsA_listed hcl hwait hw
            rw [this]; simpa using hlt
          | false =>
            right
            obtain ⟨p1, p2, p3⟩ := apart_of_pair hp hw
            exact ⟨(Oper.apart_spec p1).1, fun k hk => ⟨(p2 k hk).1, (p2 k hk).2.2⟩⟩
        · have hp := hpairs j _ hgt hij
          rw [Nat.zero_add] at hp
          cases hw : waitsA ops oj i with
          | true =>
            left
            have hnl : listed.getD j false = false := by
              cases hl : listed.getD j false with
              | false => rfl
              | true =>
                have := waitsA_listed hcl (hcl j oj hoj hl) hw
                rw [hiD] at this
                cases this
            rw [hnl]; simp; omega
          | false =>
            right
            obtain ⟨p1, p2, p3⟩ := apart_of_pair hp hw
            exact ⟨(Oper.apart_spec p1).2.2, fun k hk => p3 k hk⟩
      · intro hl hgt
        have hp := hpairs j _ hgt hij
        rw [Nat.zero_add] at hp
        have hw : waitsA ops oj i = false := by
          cases hw : waitsA ops oj i with
          | false => rfl
          | true =>
            have := waitsA_listed hcl (hcl j oj hoj hl) hw
            rw [hiD] at this
            cases this
        obtain ⟨p1, p2, p3⟩ := apart_of_pair hp hw
        exact ⟨fun t ht => (Oper.apart_spec p1).2.1 t ht, fun k hk => (p2 k hk).2.1⟩
    have hopj : ∀ (j : Nat) (r : Rec), rs[j]? = some r → ∃ oj, ops[j]? = some oj := by
      intro j r hr
      have : j < rs.length := (List.getElem?_eq_some_iff.1 hr).1
      have hj : j < ops.size := by rw [hlen.1] at this; simpa using this
      exact ⟨_, Array.getElem?_eq_getElem hj⟩
    have agT : ∀ t, t ∈ o.looksAt ops → (mrg (fun j => decide (j < i)) 0 rs σ).tmps t = (mrg (fun j => listed.getD j false) 0 rs σ).tmps t := by
      intro t ht
      refine mrg_tmps rs 0 σ σ (fun j r hr hrt => ?_) rfl
      rw [Nat.zero_add]
      by_cases hji : j = i
      · subst hji; rw [hiD]; simp
      · obtain ⟨oj, hoj⟩ := hopj j r hr
        obtain ⟨ej, k1, k2, _⟩ := key j oj hoj hji
        rw [hr] at k1
        injection k1 with k1
        subst k1
        rcases k2 with k2 | ⟨k2, _⟩
        · exact k2
        · exact absurd ht (k2 t hrt)
    have agO : ∀ k, (k ∈ rids (mrg (fun j => decide (j < i)) 0 rs σ) o ∨ (id + 16 * i ≤ k ∧ k < id + 16 * i + 16)) → (mrg (fun j => decide (j < i)) 0 rs σ).objs k = (mrg (fun j => listed.getD j false) 0 rs σ).objs k := by
      intro k hk
      refine mrg_objs rs 0 σ σ (fun j r hr hrk => ?_) rfl
      rw [Nat.zero_add]
      by_cases hji : j = i
      · subst hji; rw [hiD]; simp
      · obtain ⟨oj, hoj⟩ := hopj j r hr
        obtain ⟨ej, k1, k2, _⟩ := key j oj hoj hji
        rw [hr] at k1
        injection k1 with k1
        subst k1
        rcases k2 with k2 | ⟨_, k2⟩
        · exact k2
        · obtain ⟨q1, q2⟩ := k2 k hrk
          rcases hk with hk | hk
          · exact absurd hk q1
          · omega
    have hlook : ∀ t, Operand.tmp t ∈ o.op.operands.toList → t ∈ o.looksAt ops := by
      intro t ht
      unfold Oper.looksAt
      rw [List.mem_append]
      left
      rw [List.mem_filterMap]
      exact ⟨_, ht, rfl⟩
    have hev : ∀ x, x ∈ o.op.operands.toList → (mrg (fun j => decide (j < i)) 0 rs σ).ev x = (mrg (fun j => listed.getD j false) 0 rs σ).ev x := by
      intro x hx
      cases x with
      | tmp t => exact agT t (hlook t hx)
      | _ => rfl
    have hstep' : stepR P tb ops (id + 16 * i) (mrg (fun j => listed.getD j false) 0 rs σ) o e := by
      cases hcp : isCopy o.op with
      | true => exact stepR_copy hcp hev agT hstep
      | false =>
        refine stepR_congr ⟨hev, fun x hx j hj => agO j (.inl ?_)⟩ (fun j j1 j2 => agO j (.inr ⟨j1, j2⟩)) agT hstep
        unfold rids
        rw [hcp, cond_false, List.mem_flatMap]
        exact ⟨x, hx, hj⟩
    have hok := stepR_sound (cx := cx) (ops := ops) hd hstep' a w (wpAny P .any ops Q fuel (listed.setIfInBounds i true)) Q hs fun a' w' hs' => by
      refine ih (listed.setIfInBounds i true) a' w' ?_ (by simpa using hsz) ?_ ?_
      · have := countP_set (l := listed.toList) (i := i) (by simp [hil, hi0])
        rw [Array.toList_setIfInBounds]
        omega
      · intro j oj hoj hl ed he1 he2
        by_cases hji : j = i
        · subst hji
          rw [ho] at hoj
          injection hoj with hoj
          subst hoj
          exact getD_set_true (hwait ed he1 he2)
        · rw [getD_set_ne false (Ne.symm hji)] at hl
          exact getD_set_true (hcl j oj hoj hl ed he1 he2)
      · have hins := mrg_insert (fun j => listed.getD j false) (i := i) (q := (o.dst, e)) rs 0 σ hrec (by rw [Nat.zero_add]; exact hiD) (fun j r hr hij hl => by
          rw [Nat.zero_add] at hl
          obtain ⟨oj, hoj⟩ := hopj j r hr
          obtain ⟨ej, k1, _, k3⟩ := key j oj hoj (by omega)
          rw [hr] at k1
          injection k1 with k1
          subst k1
          exact k3 hl hij)
        have hS : (fun j => (listed.setIfInBounds i true).getD j false) = fun j => (listed.getD j false || j == 0 + i) := by
          funext j
          by_cases hji : j = i
          · subst hji; simp [hil]
          · rw [getD_set_ne false (Ne.symm hji)]
            have : (j == 0 + i) = false := by simp; exact hji
            rw [this, Bool.or_false]
        rw [hS, hins]
        exact hs'
    unfold wpOp
    rw [ho]
    simp only
    split
    · rename_i hw
      rw [if_pos hw] at hok
      exact .inl hok
    · rename_i hw
      rw [if_neg hw] at hok
      exact hok
end

end Go.AL
/- Code on abstract frames: sequences, tests, blocks, loops. A general part, over any program. -/
set_option linter.unusedSimpArgs false
set_option linter.unusedVariables false
namespace Go.AL
open Go.RowKit

/-! ### Regions, reckoned -/

def callK (P : Program) (f : FuncId) (args : List TV) (k : RV → Prop) : Prop := ∃ rv, FunOK P f args rv ∧ k rv
def callG (P : Program) (C : Bool) (f : FuncId) (args : List TV) (k : RV → Prop) : Prop := ∃ rv, (C = true → FunOK P f args rv) ∧ k rv

/-- A call to which something is lent, or which only reads what was made. -/
def callM (P : Program) (f : FuncId) (bC : Prop) (bA : List TV) (mC : Prop) (mS : List (Option Nat)) (mA : List MA) (ids : List Nat) (kB : RV → Prop) (kM : RV → List AObj → Prop) : Prop :=
  (bC ∧ ∃ rv, rv.noL = true ∧ FunOK P f bA rv ∧ kB rv) ∨ ((mC ∧ ids.Nodup) ∧ ∃ rv outs, MutOK P f mS mA rv outs ∧ (outs.length = ids.length ∧ ∀ q, q ∈ outs → q.clo = true) ∧ kM rv outs)

def dstOK (N : Nat) : Option Nat → Prop
  | none => True
  | some d => d < N

def stepK (P : Program) (tb : Tb) (N : Nat) (ops : Array Oper) (id : Nat) (σ : St) (o : Oper) (K : Eff → Prop) : Prop :=
  dstOK N o.dst ∧ match o.guard with
  | none => match callOf o.op with
    | some c => c.2.1.length = c.2.2.length ∧ bif plB σ c.2.1 then argC σ tb (c.2.1.zip c.2.2) ∧ callK P c.1 (argD σ tb (c.2.1.zip c.2.2)) fun rv => rvN rv ≤ 16 ∧ unb σ id (rvN rv) ∧ K ⟨recvA id rv, recvU id rv⟩
      else callM P c.1 (argC σ.settle tb (c.2.1.zip c.2.2)) (argD σ.settle tb (c.2.1.zip c.2.2)) (mArgC σ tb (c.2.1.zip c.2.2)) (mArgS σ (c.2.1.zip c.2.2)) (mArgD σ tb (c.2.1.zip c.2.2)) (mArgI σ (c.2.1.zip c.2.2))
        (fun rv => rvN rv ≤ 16 ∧ unb σ id (rvN rv) ∧ K ⟨recvA id rv, recvU id rv⟩)
        (fun rv outs => rvN rv ≤ 16 ∧ unb σ id (rvN rv) ∧ K ⟨recvA id rv, (mArgI σ (c.2.1.zip c.2.2)).zip outs ++ recvU id rv⟩)
    | none => pvc P tb id σ o.dst o.op ∧ K (peff tb id σ o.op)
  | some g => match (ops[g.1]?).bind (·.dst) with
    | none => False
    | some d => match gcond (σ.tmps d) g.2 with
      | none => False
      | some C => match callOf o.op with
        | some c => bif plB σ c.2.1 then (C = true → c.2.1.length = c.2.2.length ∧ argC σ tb (c.2.1.zip c.2.2)) ∧ callG P C c.1 (argD σ tb (c.2.1.zip c.2.2)) fun rv => K ⟨.gd C (recvG rv), []⟩
          else (C = true → c.2.1.length = c.2.2.length ∧ argC σ.settle tb (c.2.1.zip c.2.2)) ∧ callG P C c.1 (argD σ.settle tb (c.2.1.zip c.2.2)) fun rv => rv.noL = true ∧ K ⟨.gd C (recvG rv), []⟩
        | none => (C = true → pvc P tb id σ o.dst o.op ∧ (peff tb id σ o.op).upds = []) ∧ K ⟨.gd C (peff tb id σ o.op).av, []⟩

theorem stepK_spec {P : Program} {tb : Tb} {N : Nat} {ops : Array Oper} {id : Nat} {σ : St} {o : Oper} {K : Eff → Prop} (h : stepK P tb N ops id σ o K) : ∃ e, (∀ k, o.dst = some k → k < N) ∧ stepR P tb ops id σ o e ∧ K e := by
  unfold stepK at h
  obtain ⟨h0, h⟩ := h
  have hd : ∀ k, o.dst = some k → k < N := by intro k hk; rw [hk] at h0; exact h0
  unfold stepR
  cases hg : o.guard with
  | none =>
    rw [hg] at h
    simp only at h ⊢
    cases hc : callOf o.op with
    | none => rw [hc] at h; exact ⟨_, hd, ⟨h.1, rfl⟩, h.2⟩
    | some c =>
      rw [hc] at h
      obtain ⟨h1, h2⟩ := h
      cases hpl : plB σ c.2.1 with
      | true =>
        rw [hpl] at h2
        obtain ⟨h2, rv, h3, h4, h5, h6⟩ := h2
        exact ⟨_, hd, ⟨h1, .inl ⟨h2, rv, h3, h4, h5, rfl⟩⟩, h6⟩
      | false =>
        rw [hpl] at h2
        rcases h2 with ⟨h2, rv, h0, h3, h4, h5, h6⟩ | ⟨h2, rv, outs, h3, h0, h4, h5, h6⟩
        · exact ⟨_, hd, ⟨h1, .inr (.inl ⟨h2, rv, h0, h3, h4, h5, rfl⟩)⟩, h6⟩
        · exact ⟨_, hd, ⟨h1, .inr (.inr ⟨h2, rv, outs, h3, h0, h4, h5, rfl⟩)⟩, h6⟩
  | some g =>
    rw [hg] at h
    simp only at h
    cases hd' : (ops[g.1]?).bind (·.dst) with
    | none => rw [hd'] at h; exact h.elim
    | some d =>
      rw [hd'] at h
      simp only at h
      cases hC : gcond (σ.tmps d) g.2 with
      | none => rw [hC] at h; exact h.elim
      | some C =>
        rw [hC] at h
        simp only at h
        cases hc : callOf o.op with
        | none => rw [hc] at h; exact ⟨_, hd, ⟨d, C, hd', hC, h.1, rfl⟩, h.2⟩
        | some c =>
          rw [hc] at h
          simp only at h
          cases hpl : plB σ c.2.1 with
          | true =>
            rw [hpl] at h
            obtain ⟨h1, rv, h3, h4⟩ := h
            exact ⟨_, hd, ⟨d, C, hd', hC, .inl ⟨h1, rv, h3, rfl⟩⟩, h4⟩
          | false =>
            rw [hpl] at h
            obtain ⟨h1, rv, h3, h5, h4⟩ := h
            exact ⟨_, hd, ⟨d, C, hd', hC, .inr ⟨h1, rv, h3, h5, rfl⟩⟩, h4⟩

def T (P : Program) (cx : Cx) (c : Code) (Q : Exit → St → Prop) (σ : St) : Prop :=
  ∀ a w, Sat cx σ a w → c.wp P (fun e a' w' => ∃ σ', Q e σ' ∧ Sat cx σ' a' w') a w

/-! ### Calls of function values, among the caller's own objects -/

def finC (k : St → Prop) (e : Exit) (σ : St) : Prop :=
  match e with
  | .normal => k σ
  | .ret => k σ
  | _ => False

def initA : Nat → List AV → Nat → AV
  | _, [], _ => .any
  | k, a :: r, t => bif Nat.beq t k then a else initA (k + 1) r t

def unL (σ : St) : List Operand → List AV
  | [] => []
  | x :: r => σ.un x :: unL σ r
def ucL (σ : St) : List Operand → Prop
  | [] => True
  | x :: r => σ.uc x ∧ ucL σ r

def resOf : List ResultVar → St → Option AV
  | [], _ => some .any
  | [.tmp t], σ => some (σ.tmps t)
  | _, _ => none

def inlQ (P : Program) (σ : St) (dst : Option Nat) (f : FuncId) (caps : List AV) (as : List Operand) (K : St → Prop) : Prop :=
  ∃ (fn : Func) (c : Code), P.funcs[f]? = some fn ∧ (fn.name == "runtime.NumGoroutine") = false ∧ fn.body = some c ∧
    as.length + caps.length ≤ fn.ntmps ∧ ucL σ as ∧ ∀ cx : Cx, cx.N = fn.ntmps → T P cx c (finC fun σ' => ∃ av, resOf fn.results.toList σ' = some av ∧ K ⟨(σ.put dst av).tmps, σ'.objs⟩) ⟨initA 0 (unL σ as ++ caps), σ.objs⟩

def cloQ (P : Program) (σ : St) (dst : Option Nat) (k : Nat) (as : List Operand) (K : St → Prop) : Prop :=
  ∃ (f : FuncId) (caps : List AV), σ.tmps k = .fn f caps ∧ inlQ P σ dst f caps as K

def cloOp : Op → Option (Nat × List Operand)
  | .call { callee := .value (.tmp k), args := as, argTypes := _ } => some (k, as.toList)
  | _ => none
def cloOf (o : Oper) : Option (Nat × List Operand) :=
  match o.guard with
  | none => cloOp o.op
  | some _ => none

def inlOp (tb : Tb) : Op → Option (FuncId × List Operand)
  | .call { callee := .value (.func f), args := as, argTypes := _ } => if tb.inl f = true then some (f, as.toList) else none
  | _ => none
def inlOf (tb : Tb) (o : Oper) : Option (FuncId × List Operand) :=
  match o.guard with
  | none => inlOp tb o.op
  | some _ => none

theorem inlOf_spec {tb : Tb} {o : Oper} {c : FuncId × List Operand} (h : inlOf tb o = some c) : o.guard = none ∧ ∃ ts, o.op = .call { callee := .value (.func c.1), args := c.2.toArray, argTypes := ts } := by
  unfold inlOf at h
  cases hg : o.guard with
  | some _ => rw [hg] at h; cases h
  | none =>
    rw [hg] at h
    simp only at h
    refine ⟨rfl, ?_⟩
    unfold inlOp at h
    split at h
    · rename_i f as ts heq
      split at h
      · injection h with h; subst h; exact ⟨ts, by rw [heq]⟩
      · cases h
    · cases h

theorem cloOf_spec {o : Oper} {c : Nat × List Operand} (h : cloOf o = some c) : o.guard = none ∧ ∃ ts, o.op = .call { callee := .value (.tmp c.1), args := c.2.toArray, argTypes := ts } := by
  unfold cloOf at h
  cases hg : o.guard with
  | some _ => rw [hg] at h; cases h
  | none =>
    rw [hg] at h
    simp only at h
    refine ⟨rfl, ?_⟩
    unfold cloOp at h
    split at h
    · rename_i k as ts heq
      injection h with h; subst h; exact ⟨ts, by rw [heq]⟩
    · cases h

theorem initA_get : ∀ (l : List AV) (k t : Nat), initA k l t = if k ≤ t then l.getD (t - k) .any else .any
  | [], k, t => by simp [initA]
  | a :: r, k, t => by
    simp only [initA]
    cases hb : Nat.beq t k with
    | true => rw [Nat.eq_of_beq_eq_true hb]; simp
    | false =>
      have hne : t ≠ k := fun e => by rw [e, Nat.beq_refl] at hb; cases hb
      simp only [cond_false]
      rw [initA_get r (k + 1) t]
      by_cases h1 : k ≤ t
      · rw [if_pos h1, if_pos (by omega), show t - k = (t - (k + 1)) + 1 by omega]
        rfl
      · rw [if_neg h1, if_neg (by omega)]

theorem unL_ok {cx : Cx} {σ : St} {a : Act} {w : World} {lim : Nat → Nat} {G : Nat → Value} (hf : Fr cx σ a w lim G) : ∀ (as : List Operand), ucL σ as → AVsOk w lim G σ.objs (unL σ as) (as.map a.eval)
  | [], _ => by simp only [unL, List.map_nil, AVsOk]
  | x :: r, h => by
    simp only [unL, List.map_cons, AVsOk]
    exact ⟨_, _, rfl, un_ok hf x h.1, unL_ok hf r h.2⟩

theorem AVsOk.app {w : World} {lim : Nat → Nat} {G : Nat → Value} {objs : Nat → AObj} : ∀ {l l2 : List AV} {vs vs2 : List Value}, AVsOk w lim G objs l vs → AVsOk w lim G objs l2 vs2 → AVsOk w lim G objs (l ++ l2) (vs ++ vs2)
  | [], _, vs, _, h1, h2 => by simp only [AVsOk] at h1; subst h1; simpa using h2
  | a :: l, _, vs, vs2, h1, h2 => by
    simp only [AVsOk] at h1
    obtain ⟨v, r, e, h3, h4⟩ := h1
    subst e
    simp only [List.cons_append, AVsOk]
    exact ⟨v, r ++ vs2, rfl, h3, h4.app h2⟩

theorem inlQ_sound {P : Program} {cx : Cx} {σ : St} {o : Oper} {f : FuncId} {caps : List AV} {arr : List Value} {as : List Operand} {K : St → Prop} (hd : ∀ k, o.dst = some k → k < cx.N) {a : Act} {w : World} {lim : Nat → Nat} {G : Nat → Value} (hh : Hp cx σ.objs w lim G) (hf : Fr cx σ a w lim G)
    (hca : AVsOk w lim G σ.objs caps arr) (hex : ∀ fn, P.funcs[f]? = some fn → (fn.name == "runtime.NumGoroutine") = false → fn.body.isNone = false → (execOp a.eval o).run P w = .ok (.enter f (as.map a.eval ++ arr).toArray) w)
    (h : inlQ P σ o.dst f caps as K) {Kw : Act → World → Prop} {Q : Exit → Act → World → Prop} (hK : ∀ σ' a' w', K σ' → Sat cx σ' a' w' → Kw a' w') : o.wp P a w Kw Q := by
  obtain ⟨fn, c, hfn, hnm, hbd, hlen, huc, hT⟩ := h
  have hall := (unL_ok hf as huc).app hca
  have hrun := hex fn hfn hnm (by rw [hbd]; rfl)
  let cx2 : Cx := { cx with N := fn.ntmps, F := fun p => cx.F p ∨ ∃ t, p = (σ.tmps t, a.tmps.getD t undef) }
  have hh2 : Hp cx2 σ.objs w lim G := ⟨hh.start, hh.below, hh.lim0, hh.obj, hh.sep, hh.mine, hh.lent⟩
  have hln := hall.length
  have hs2 : Sat cx2 ⟨initA 0 (unL σ as ++ caps), σ.objs⟩ { tmps := (as.map a.eval ++ arr).toArray ++ Array.replicate (fn.ntmps - (as.map a.eval ++ arr).toArray.size) undef, defers := [] } w := by
    refine ⟨lim, G, hh2, ?_, rfl, fun t => ?_, fun p hp => ?_⟩
    · show ((as.map a.eval ++ arr).toArray ++ Array.replicate (fn.ntmps - (as.map a.eval ++ arr).toArray.size) undef).size = fn.ntmps
      have h9 : (unL σ as).length = as.length := by
        have := (unL_ok hf as huc).length
        simpa using this.symm
      have h8 := hca.length
      simp only [Array.size_append, List.size_toArray, Array.size_replicate, List.length_append, List.length_map]
      omega
    · show AVok w lim G σ.objs (initA 0 (unL σ as ++ caps) t) _
      rw [initA_get, if_pos (Nat.zero_le _), Nat.sub_zero]
      rcases Nat.lt_or_ge t (as.map a.eval ++ arr).length with hlt | hge
      · have e : ((as.map a.eval ++ arr).toArray ++ Array.replicate (fn.ntmps - (as.map a.eval ++ arr).toArray.size) undef).getD t undef = (as.map a.eval ++ arr).getD t undef := by
          rw [Array.getD_eq_getD_getElem?, Array.getElem?_append, if_pos (by simpa using hlt), List.getElem?_toArray, List.getD_eq_getElem?_getD]
        rw [e]
        exact hall.get t (by omega)
      · rw [List.getD_eq_getElem?_getD, List.getElem?_eq_none (by omega)]
        simp only [Option.getD_none, AVok]
    · show AVok w lim G σ.objs p.1 p.2
      rcases hp with hp | ⟨t, rfl⟩
      · exact hf.ext p hp
      · exact hf.tmp t
  have hcalls : Calls P f (as.map a.eval ++ arr).toArray w fun e w' => ∃ v, e = .returned v ∧ ∃ σ' a' lim' G' av, AVok w' lim' G' σ'.objs av v ∧ K ⟨(σ.put o.dst av).tmps, σ'.objs⟩ ∧ Hp cx2 σ'.objs w' lim' G' ∧ Fr cx2 σ' a' w' lim' G' := by
    refine calls_of_wp hfn hbd (wp_mono (hT cx2 rfl _ w hs2) fun e a' w' hq => ?_)
    obtain ⟨σ', h1, lim', G', hh', hf'⟩ := hq
    have fin : (∃ av, resOf fn.results.toList σ' = some av ∧ K ⟨(σ.put o.dst av).tmps, σ'.objs⟩) → a'.defers = [] ∧ ∃ v, (results fn a'.tmps).run P w' = .ok v w' ∧ ∃ v0, Ending.returned v = .returned v0 ∧ ∃ σ' a' lim' G' av, AVok w' lim' G' σ'.objs av v0 ∧ K ⟨(σ.put o.dst av).tmps, σ'.objs⟩ ∧ Hp cx2 σ'.objs w' lim' G' ∧ Fr cx2 σ' a' w' lim' G' := by
      rintro ⟨av, hr, hk⟩
      have hv : ∃ v, (results fn a'.tmps).run P w' = .ok v w' ∧ AVok w' lim' G' σ'.objs av v := by
        cases hrs : fn.results.toList with
        | nil =>
          rw [hrs] at hr
          simp only [resOf, Option.some.injEq] at hr
          subst hr
          have hre : fn.results = #[] := by rw [← Array.toList_inj, hrs]
          refine ⟨.tuple #[], ?_, by simp only [AVok]⟩
          unfold results
          rw [hre]
          simp
        | cons q r =>
          cases r with
          | cons _ _ => rw [hrs] at hr; cases q <;> simp [resOf] at hr
          | nil =>
            cases q with
            | cell _ _ => rw [hrs] at hr; simp [resOf] at hr
            | tmp t =>
              rw [hrs] at hr
              simp only [resOf, Option.some.injEq] at hr
              subst hr
              have hre : fn.results = #[.tmp t] := by rw [← Array.toList_inj, hrs]
              refine ⟨a'.tmps.getD t undef, ?_, hf'.tmp t⟩
              unfold results
              rw [hre]
              simp
      obtain ⟨v, hv1, hv2⟩ := hv
      exact ⟨hf'.defers, v, hv1, v, rfl, σ', a', lim', G', av, hv2, hk, hh', hf'⟩
    cases e with
    | normal => exact fin h1
    | ret => exact fin h1
    | _ => exact h1.elim
  unfold Oper.wp
  rw [hrun]
  simp only [Oper.upon]
  refine hcalls.mono fun e w' hpost => ?_
  obtain ⟨v, he, σ', a', lim', G', av, hav, hk, hh', hf'⟩ := hpost
  subst he
  refine hK _ _ _ hk ⟨lim', G', ⟨hh'.start, hh'.below, hh'.lim0, hh'.obj, hh'.sep, hh'.mine, hh'.lent⟩, ?_⟩
  have hf1 : Fr cx ⟨σ.tmps, σ'.objs⟩ a w' lim' G' := ⟨hf.size, hf.defers, fun t => hf'.ext (σ.tmps t, a.tmps.getD t undef) (.inr ⟨t, rfl⟩), fun p hp => hf'.ext p (.inl hp)⟩
  have hf2 := hf1.put hd (av := av) (v := v) hav
  have e : (St.mk (σ.put o.dst av).tmps σ'.objs) = (St.mk σ.tmps σ'.objs).put o.dst av := by cases o.dst <;> rfl
  rw [e]
  exact hf2

theorem cloQ_sound {P : Program} {cx : Cx} {σ : St} {o : Oper} {k : Nat} {as : List Operand} {ts : Array TypeId} {K : St → Prop} (hd : ∀ k, o.dst = some k → k < cx.N) (ho : o.op = .call { callee := .value (.tmp k), args := as.toArray, argTypes := ts })
    (h : cloQ P σ o.dst k as K) {a : Act} {w : World} {Kw : Act → World → Prop} {Q : Exit → Act → World → Prop} (hs : Sat cx σ a w) (hK : ∀ σ' a' w', K σ' → Sat cx σ' a' w' → Kw a' w') : o.wp P a w Kw Q := by
  obtain ⟨lim, G, hh, hf⟩ := hs
  obtain ⟨f, caps, ht, h⟩ := h
  have hv := hf.tmp k
  rw [ht] at hv
  simp only [AVok] at hv
  obtain ⟨arr, hv, hca⟩ := hv
  refine inlQ_sound hd hh hf hca (fun fn hfn hnm hbd => ?_) h hK
  have hnm' : ¬ fn.name = "runtime.NumGoroutine" := by simpa using hnm
  have hbd' : ¬ fn.body = none := by intro h; rw [h] at hbd; cases hbd
  have hv' : a.tmps[k]?.getD undef = .func (.func f) #[] arr.toArray := by rw [← hv, Array.getD_eq_getD_getElem?]
  simp [execOp, ho, resolve, invoke, callFunc, Act.eval, Deferred.ofValue, hfn, hnm', hbd', hv']

theorem inlF_sound {P : Program} {cx : Cx} {σ : St} {o : Oper} {f : FuncId} {as : List Operand} {ts : Array TypeId} {K : St → Prop} (hd : ∀ k, o.dst = some k → k < cx.N) (ho : o.op = .call { callee := .value (.func f), args := as.toArray, argTypes := ts })
    (h : inlQ P σ o.dst f [] as K) {a : Act} {w : World} {Kw : Act → World → Prop} {Q : Exit → Act → World → Prop} (hs : Sat cx σ a w) (hK : ∀ σ' a' w', K σ' → Sat cx σ' a' w' → Kw a' w') : o.wp P a w Kw Q := by
  obtain ⟨lim, G, hh, hf⟩ := hs
  refine inlQ_sound hd hh hf (arr := []) (by simp only [AVsOk]) (fun fn hfn hnm hbd => ?_) h hK
  have hnm' : ¬ fn.name = "runtime.NumGoroutine" := by simpa using hnm
  have hbd' : ¬ fn.body = none := by intro h; rw [h] at hbd; cases hbd
  simp [execOp, ho, resolve, invoke, callFunc, Act.eval, Deferred.ofValue, hfn, hnm', hbd']

def runS (P : Program) (tb : Tb) (N : Nat) (ops : Array Oper) : List Oper → Nat → St → (St → Prop) → Prop
  | [], _, σ, K => K σ
  | o :: r, id, σ, K => match cloOf o with
    | some c => (∀ k, o.dst = some k → k < N) ∧ cloQ P σ o.dst c.1 c.2 fun σ' => runS P tb N ops r (id + 16) σ' K
    | none => match inlOf tb o with
      | some c => (∀ k, o.dst = some k → k < N) ∧ inlQ P σ o.dst c.1 [] c.2 fun σ' => runS P tb N ops r (id + 16) σ' K
      | none => stepK P tb N ops id σ o fun e => runS P tb N ops r (id + 16) (σ.app o.dst e) K

def runD (P : Program) (tb : Tb) (N : Nat) (ops : Array Oper) : List Oper → Nat → St → List Info → (St → List Info → Prop) → Prop
  | [], _, σ, is, K => K σ is.reverse
  | o :: r, id, σ, is, K => stepK P tb N ops id σ o fun e => runD P tb N ops r (id + 16) (σ.app o.dst e) (⟨o, e.upds.map (·.1), rids σ o, id⟩ :: is) K

theorem runS_wp {P : Program} {tb : Tb} {cx : Cx} {ops : Array Oper} {K : St → Prop} {Q : Exit → Act → World → Prop} : ∀ {l : List Oper} {id : Nat} {σ : St}, runS P tb cx.N ops l id σ K → ∀ {a : Act} {w : World}, Sat cx σ a w →
    (∀ σ' a' w', K σ' → Sat cx σ' a' w' → Q .normal a' w') → wpList P ops Q l a w
  | [], id, σ, h, a, w, hs, hQ => hQ σ a w h hs
  | o :: r, id, σ, h, a, w, hs, hQ => by
    simp only [runS] at h
    refine wpList_step fun Kw hK => ?_
    cases hc : cloOf o with
    | none =>
      rw [hc] at h
      simp only at h
      cases hi : inlOf tb o with
      | none =>
        rw [hi] at h
        obtain ⟨e, h1, h2, h3⟩ := stepK_spec h
        exact stepR_sound h1 h2 a w Kw Q hs fun a' w' hs' => hK a' w' (runS_wp h3 hs' hQ)
      | some c =>
        rw [hi] at h
        obtain ⟨hg, ts, ho⟩ := inlOf_spec hi
        rw [if_pos (by simp [Region.wanted, hg])]
        exact inlF_sound h.1 ho h.2 hs fun σ' a' w' hk hs' => hK a' w' (runS_wp hk hs' hQ)
    | some c =>
      rw [hc] at h
      obtain ⟨hg, ts, ho⟩ := cloOf_spec hc
      rw [if_pos (by simp [Region.wanted, hg])]
      exact cloQ_sound h.1 ho h.2 hs fun σ' a' w' hk hs' => hK a' w' (runS_wp hk hs' hQ)

theorem runD_spec {P : Program} {tb : Tb} {N : Nat} {ops : Array Oper} {K : St → List Info → Prop} : ∀ {l : List Oper} {id : Nat} {σ : St} {acc : List Info}, runD P tb N ops l id σ acc K → ∃ rs is σ', RunI P tb N ops l id σ rs is σ' ∧ K σ' (acc.reverse ++ is)
  | [], id, σ, acc, h => ⟨[], [], σ, .nil id σ, by simpa [runD] using h⟩
  | o :: r, id, σ, acc, h => by
    obtain ⟨e, h1, h2, h3⟩ := stepK_spec h
    obtain ⟨rs, is, σ', h4, h5⟩ := runD_spec h3
    exact ⟨_, _, σ', .cons h1 h2 h4, by simpa using h5⟩

/-! ### Code -/

def chkK (b : Bool) (k : Unit → Prop) : Prop := b = true ∧ k ()

def seqQ (k : St → Prop) (Q : Exit → St → Prop) (e : Exit) (σ : St) : Prop :=
  match e with
  | .normal => k σ
  | e => Q e σ

def blkQ (i : Nat) (Q : Exit → St → Prop) (e : Exit) (σ : St) : Prop :=
  match e with
  | .exit i' => if i' = i then Q .normal σ else Q (.exit i') σ
  | e => Q e σ

/-- What is asked of a piece of code, so that Q holds behind it; at a loop the question is left as it is. -/
def aCode (P : Program) (tb : Tb) (cx : Cx) (N : Nat) : Code → (Exit → St → Prop) → St → Prop
  | .skip, Q, σ => Q .normal σ
  | .label _, Q, σ => Q .normal σ
  | .region i ops false, Q, σ => runS P tb N ops ops.toList (10000 * (i + 1) + tb.off) σ (Q .normal)
  | .region i ops true, Q, σ => runD P tb N ops ops.toList (10000 * (i + 1) + tb.off) σ [] fun σ' is => chkK (chkAll ops 0 is) fun _ => Q .normal σ'
  | .seq a b, Q, σ => aCode P tb cx N a (seqQ (fun σ' => aCode P tb cx N b Q σ') Q) σ
  | .cond c a b, Q, σ => σ.tc .bool c ∧ (σ.tb c = true → aCode P tb cx N a Q σ) ∧ (σ.tb c = false → aCode P tb cx N b Q σ)
  | .block i b, Q, σ => aCode P tb cx N b (blkQ i Q) σ
  | .loop b, Q, σ => T P cx (.loop b) Q σ
  | .exit i, Q, σ => Q (.exit i) σ
  | .goto l, Q, σ => Q (.goto l) σ
  | .ret, Q, σ => Q .ret σ
  | _, _, _ => False

theorem aCode_sound {P : Program} {tb : Tb} {cx : Cx} (hm : P.follows .mixedOrders = true) : ∀ {c : Code} {Q : Exit → St → Prop} {σ : St}, aCode P tb cx cx.N c Q σ → T P cx c Q σ
  | .skip, _, _, h => fun _ _ hs => wp_skip ⟨_, h, hs⟩
  | .label _, _, _, h => fun _ _ hs => wp_label ⟨_, h, hs⟩
  | .exit _, _, _, h => fun _ _ hs => wp_exit ⟨_, h, hs⟩
  | .goto _, _, _, h => fun _ _ hs => wp_goto ⟨_, h, hs⟩
  | .ret, _, _, h => fun _ _ hs => wp_ret ⟨_, h, hs⟩
  | .loop _, _, _, h => h
  | .region _ ops false, Q, σ, h => fun a w hs => by
    exact wp_region_list (runS_wp h hs fun σ' a' w' h2 hs' => ⟨σ', h2, hs'⟩)
  | .region _ ops true, Q, σ, h => fun a w hs => by
    obtain ⟨rs, is, σ', h1, h2, h3⟩ := runD_spec h
    simp only [List.reverse_nil, List.nil_append] at h2
    refine wp_region_any hm (draw_any h1 h2 (fun a' w' hs' => ⟨σ', h3, hs'⟩) ops.size (Array.replicate ops.size false) a _ ?_ (by simp) (fun j o _ hl => ?_) ?_)
    · refine Nat.le_trans (List.countP_le_length) (by simp)
    · exfalso
      rw [Array.getD_eq_getD_getElem?, Array.getElem?_replicate] at hl
      split at hl <;> simp at hl
    · have e : mrg (fun j => (Array.replicate ops.size false).getD j false) 0 rs σ = σ := by
        have : (fun j => (Array.replicate ops.size false).getD j false) = fun j => decide (j < 0) := by
          funext j
          rw [Array.getD_eq_getD_getElem?, Array.getElem?_replicate]
          split <;> simp
        rw [this]
        exact mrg_lt 0 rs 0 σ (Nat.le_refl _)
      rw [e]
      obtain ⟨lim, G, hh, hf⟩ := hs
      exact ⟨lim, G, (hh.world (lim' := lim) (w' := { w with drawn := w.drawn + 1 }) ⟨rfl, rfl, rfl, Nat.le_refl _, fun _ _ => rfl⟩ fun _ _ => rfl).1,
        hf.keeps (w' := { w with drawn := w.drawn + 1 }) (lim' := lim) ⟨fun _ _ h _ => h, fun _ _ => Nat.le_refl _⟩ (Ext.refl _ _)⟩
  | .seq x y, Q, σ, h => fun a w hs => by
    refine wp_seq (wp_mono (aCode_sound (c := x) hm h a w hs) fun e a' w' hq => ?_)
    obtain ⟨σ', h1, h2⟩ := hq
    cases e with
    | normal => exact aCode_sound (c := y) hm h1 a' w' h2
    | _ => exact ⟨σ', h1, h2⟩
  | .cond c x y, Q, σ, h => fun a w hs => by
    obtain ⟨h0, h1, h2⟩ := h
    have hc : a.eval c = .bool (σ.tb c) := by
      obtain ⟨lim, G, hh, hf⟩ := hs
      exact tc_bool hh hf h0
    exact wp_cond_split hc (fun ht => aCode_sound (c := x) hm (h1 ht) a w hs) fun ht => aCode_sound (c := y) hm (h2 ht) a w hs
  | .block i c, Q, σ, h => fun a w hs => by
    refine wp_block (wp_mono (aCode_sound (c := c) hm h a w hs) fun e a' w' hq => ?_)
    obtain ⟨σ', h1, h2⟩ := hq
    cases e with
    | exit i' =>
      simp only [blkQ] at h1
      simp only [Exit.inBlock]
      split
      · rename_i hi; rw [if_pos hi] at h1; exact ⟨σ', h1, h2⟩
      · rename_i hi; rw [if_neg hi] at h1; exact ⟨σ', h1, h2⟩
    | _ => exact ⟨σ', h1, h2⟩
  | .rangeFunc _ _ _ _, _, _, h => h.elim
  | .scope _, _, _, h => h.elim
  | .refuse _, _, _, h => h.elim

/-- A state that says less. -/
def Sub (cx : Cx) (σ σ' : St) : Prop := ∀ a w, Sat cx σ a w → Sat cx σ' a w

theorem T_sub {P : Program} {cx : Cx} {c : Code} {Q : Exit → St → Prop} {σ σ' : St} (h : Sub cx σ σ') (ht : T P cx c Q σ') : T P cx c Q σ := fun a w hs => ht a w (h a w hs)

theorem least {p : Nat → Prop} (h : ∃ n, p n) : ∃ n, p n ∧ ∀ m, p m → n ≤ m := by
  obtain ⟨n, hn⟩ := h
  induction n using Nat.strongRecOn with
  | _ n ih =>
    by_cases hex : ∃ m, m < n ∧ p m
    · obtain ⟨m, h1, h2⟩ := hex
      exact ih m h1 h2
    · refine ⟨n, hn, fun m hm => ?_⟩
      rcases Nat.lt_or_ge m n with hlt | hge
      · exact absurd ⟨m, hlt, hm⟩ hex
      · exact hge

theorem T_loop {P : Program} {cx : Cx} {c : Code} {Q : Exit → St → Prop} {σ : St} {D : Type} (sh : D → St) (J : D → Prop) (μ : D → Nat) (d0 : D) (h0 : J d0) (hs0 : Sub cx σ (sh d0))
    (round : ∀ d, J d → T P cx c (fun e σ' => match e with
      | .normal => ∃ d', J d' ∧ μ d' < μ d ∧ Sub cx σ' (sh d')
      | e => Q e σ') (sh d)) : T P cx (.loop c) Q σ := by
  classical
  intro a w hs
  let I : Act → World → Prop := fun a w => ∃ d, J d ∧ Sat cx (sh d) a w
  let m : Act → World → Nat := fun a w => if h : ∃ n, ∃ d, J d ∧ Sat cx (sh d) a w ∧ μ d = n then Classical.choose (least h) else 0
  refine wp_loop I m ⟨d0, h0, hs0 a w hs⟩ fun a w hI => ?_
  have hex : ∃ n, ∃ d, J d ∧ Sat cx (sh d) a w ∧ μ d = n := by obtain ⟨d, h1, h2⟩ := hI; exact ⟨_, d, h1, h2, rfl⟩
  obtain ⟨⟨d, h1, h2, h3⟩, _⟩ := Classical.choose_spec (least hex)
  have hm : m a w = μ d := by show (if h : _ then _ else _) = _; rw [dif_pos hex, h3]
  refine wp_mono (round d h1 a w h2) fun e a' w' hq => ?_
  obtain ⟨σ', k1, k2⟩ := hq
  cases e with
  | normal =>
    obtain ⟨d', q1, q2, q3⟩ := k1
    have hs' := q3 a' w' k2
    refine ⟨⟨d', q1, hs'⟩, ?_⟩
    have hex' : ∃ n, ∃ d, J d ∧ Sat cx (sh d) a' w' ∧ μ d = n := ⟨_, d', q1, hs', rfl⟩
    have : m a' w' ≤ μ d' := by
      show (if h : _ then _ else _) ≤ _
      rw [dif_pos hex']
      exact (Classical.choose_spec (least hex')).2 _ ⟨d', q1, hs', rfl⟩
    omega
  | _ => exact ⟨σ', k1, k2⟩

end Go.AL
/- Functions on abstract frames: how they begin, how they end; states that say less. A general part, over any program. -/
set_option linter.unusedSimpArgs false
set_option linter.unusedVariables false
set_option linter.unusedSectionVars false
namespace Go.AL
open Go.RowKit

/-! ### States by lists -/

def lkT : List (Nat × AV) → Nat → AV
  | [], _ => .any
  | p :: r, t => bif Nat.beq t p.1 then p.2 else lkT r t

def lkO : List (Nat × AObj) → Nat → AObj
  | [], _ => .unborn
  | p :: r, t => bif Nat.beq t p.1 then p.2 else lkO r t

def lkR : List (Nat × Option Nat) → Nat → Option (Option Nat)
  | [], _ => none
  | p :: r, t => bif Nat.beq t p.1 then some p.2 else lkR r t

def shp (tm : List (Nat × AV)) (ob : List (Nat × AObj)) : St := ⟨lkT tm, lkO ob⟩

mutual
def AVLe (objs : Nat → AObj) (ρ : List (Nat × Option Nat)) : AV → AV → Prop
  | _, .any => True
  | a, .rd t x => a.uc ∧ tvc objs t a.un ∧ tvd objs t a.un = x
  | .ptr t x, .ptr t' x' => AV.ptr t x = AV.ptr t' x'
  | .nils, .nils => True
  | .own i, .own j => lkR ρ j = some (some i) ∧ (objs i).live = true
  | .nils, .own j => lkR ρ j = some none
  | .bp i off, .bp j off' => lkR ρ j = some (some i) ∧ (objs i).live = true ∧ off = off'
  | .agg cs, .agg cs' => AVsLe objs ρ cs cs'
  | .tup cs, .tup cs' => AVsLe objs ρ cs cs'
  | _, _ => False
def AVsLe (objs : Nat → AObj) (ρ : List (Nat × Option Nat)) : List AV → List AV → Prop
  | [], [] => True
  | a :: as, b :: bs => AVLe objs ρ a b ∧ AVsLe objs ρ as bs
  | _, _ => False
end

def ObLe (objs : Nat → AObj) (ρ : List (Nat × Option Nat)) : AObj → AObj → Prop
  | .row e t xs, .row e' t' xs' => AObj.row e t xs = AObj.row e' t' xs'
  | .arr e t xs, .arr e' t' xs' => AObj.arr e t xs = AObj.arr e' t' xs'
  | .tl e t xs, .tl e' t' xs' => AObj.tl e t xs = AObj.tl e' t' xs'
  | .box T cs, .box T' cs' => T = T' ∧ AVsLe objs ρ cs cs'
  | _, _ => False

def obsLe (objs : Nat → AObj) (ρ : List (Nat × Option Nat)) : List (Nat × AObj) → Prop
  | [] => True
  | p :: r => (match lkR ρ p.1 with
    | some (some i) => ObLe objs ρ (objs i) p.2
    | some none => match p.2 with
      | .row _ t xs => xs = [] ∧ 0 < t.size
      | .arr _ t xs => xs = [] ∧ 0 < t.size
      | _ => False
    | none => False) ∧ obsLe objs ρ r

def tmsLe (σ : St) (ρ : List (Nat × Option Nat)) : List (Nat × AV) → Prop
  | [] => True
  | p :: r => AVLe σ.objs ρ (σ.tmps p.1) p.2 ∧ tmsLe σ ρ r

def rhoOK (ob : List (Nat × AObj)) : List (Nat × Option Nat) → Prop
  | [] => True
  | p :: r => (lkO ob p.1).born = true ∧ (match p.2 with
    | some i => (r.all fun q => match q.2 with | some j => !(Nat.beq j i) | none => true) = true
    | none => True) ∧ rhoOK ob r

theorem lkR_mem {j : Nat} {x : Option Nat} : ∀ {ρ : List (Nat × Option Nat)}, lkR ρ j = some x → (j, x) ∈ ρ
  | [], h => by cases h
  | p :: r, h => by
    simp only [lkR] at h
    cases hb : Nat.beq j p.1 with
    | true =>
      rw [hb] at h
      simp only [cond_true] at h
      injection h with h
      have := Nat.eq_of_beq_eq_true hb
      subst this; subst h
      exact List.mem_cons_self
    | false => rw [hb] at h; exact List.mem_cons_of_mem _ (lkR_mem h)

theorem lkO_mem {j : Nat} : ∀ {ob : List (Nat × AObj)}, (lkO ob j).born = true → (j, lkO ob j) ∈ ob
  | [], h => by cases h
  | p :: r, h => by
    simp only [lkO] at h ⊢
    cases hb : Nat.beq j p.1 with
    | true =>
      have := Nat.eq_of_beq_eq_true hb
      subst this
      simp only [cond_true]
      exact List.mem_cons_self
    | false => rw [hb] at h; simp only [cond_false] at h ⊢; exact List.mem_cons_of_mem _ (lkO_mem h)

theorem rhoOK_born {ob : List (Nat × AObj)} : ∀ {ρ : List (Nat × Option Nat)}, rhoOK ob ρ → ∀ p, p ∈ ρ → (lkO ob p.1).born = true
  | [], _, p, h => by cases h
  | q :: r, hr, p, h => by
    rcases List.mem_cons.1 h with rfl | h
    · exact hr.1
    · exact rhoOK_born hr.2.2 p h

theorem rhoOK_inj {ob : List (Nat × AObj)} {i : Nat} : ∀ {ρ : List (Nat × Option Nat)}, rhoOK ob ρ → ∀ j1 j2, lkR ρ j1 = some (some i) → lkR ρ j2 = some (some i) → j1 = j2
  | [], _, _, _, h, _ => by cases h
  | q :: r, hr, j1, j2, h1, h2 => by
    have one : ∀ j, q.2 = some i → lkR r j = some (some i) → False := by
      intro j hq hj
      have h3 := hr.2.1
      rw [hq] at h3
      simp only at h3
      have := List.all_eq_true.1 h3 _ (lkR_mem hj)
      simp at this
    simp only [lkR] at h1 h2
    cases hb1 : Nat.beq j1 q.1 <;> cases hb2 : Nat.beq j2 q.1 <;> rw [hb1] at h1 <;> rw [hb2] at h2 <;> simp only [cond_true, cond_false] at h1 h2
    · exact rhoOK_inj hr.2.2 j1 j2 h1 h2
    · injection h2 with h2; exact (one j1 h2 h1).elim
    · injection h1 with h1; exact (one j2 h1 h2).elim
    · rw [Nat.eq_of_beq_eq_true hb1, Nat.eq_of_beq_eq_true hb2]

section
variable {w : World} {lim : Nat → Nat} {G G' : Nat → Value} {objs objs' : Nat → AObj} {ρ : List (Nat × Option Nat)} {B : Nat}
  (ho : ∀ id, ObjOK w lim G objs B (G id) (objs id)) (hr : ∀ j i, lkR ρ j = some (some i) → (objs' j).born = true ∧ G' j = G i) (hn : ∀ j, lkR ρ j = some none → (objs' j).born = true ∧ G' j = .slice none 0 0)
include ho hr hn

mutual
theorem AVLe_ok : ∀ (b a : AV) (v : Value), AVLe objs ρ a b → AVok w lim G objs a v → AVok w lim G' objs' b v
  | .any, a, v, _, _ => by simp only [AVok]
  | .rd t x, a, v, h, hv => by
    have h' : a.uc ∧ tvc objs t a.un ∧ tvd objs t a.un = x := by cases a <;> simpa only [AVLe] using h
    obtain ⟨h1, h2, h3⟩ := h'
    simp only [AVok]
    rw [← h3]
    exact tv_ok ho t _ v h2 (hv.un h1)
  | .ptr t x, a, v, h, hv => by
    cases a <;> simp only [AVLe] at h
    rw [h] at hv
    simpa only [AVok] using hv
  | .nils, a, v, h, hv => by
    cases a <;> simp only [AVLe] at h
    simpa only [AVok] using hv
  | .own j, a, v, h, hv => by
    cases a <;> simp only [AVLe] at h
    · simp only [AVok] at hv ⊢
      obtain ⟨k1, k2⟩ := hn j h
      exact ⟨k1, fun _ => by rw [k2]; exact hv⟩
    · simp only [AVok] at hv ⊢
      obtain ⟨k1, k2⟩ := hr j _ h.1
      exact ⟨k1, fun _ => by rw [k2]; exact hv.2 h.2⟩
  | .bp j off, a, v, h, hv => by
    cases a <;> simp only [AVLe] at h
    simp only [AVok] at hv ⊢
    obtain ⟨k1, k2⟩ := hr j _ h.1
    obtain ⟨_, h2, h3⟩ := h
    subst h3
    exact ⟨k1, fun _ => by rw [k2]; exact hv.2 h2⟩
  | .ep _ _ _, a, v, h, hv => by cases a <;> simp only [AVLe] at h
  | .ef _ _ _ _, a, v, h, hv => by cases a <;> simp only [AVLe] at h
  | .gd _ _, a, v, h, hv => by cases a <;> simp only [AVLe] at h
  | .fn _ _, a, v, h, hv => by cases a <;> simp only [AVLe] at h
  | .agg cs, a, v, h, hv => by
    cases a <;> simp only [AVLe] at h
    simp only [AVok] at hv ⊢
    obtain ⟨arr, h1, h2⟩ := hv
    exact ⟨arr, h1, AVsLe_ok cs _ arr h h2⟩
  | .tup cs, a, v, h, hv => by
    cases a <;> simp only [AVLe] at h
    simp only [AVok] at hv ⊢
    obtain ⟨arr, h1, h2⟩ := hv
    exact ⟨arr, h1, AVsLe_ok cs _ arr h h2⟩
theorem AVsLe_ok : ∀ (bs as : List AV) (vs : List Value), AVsLe objs ρ as bs → AVsOk w lim G objs as vs → AVsOk w lim G' objs' bs vs
  | [], as, vs, h, hv => by
    cases as <;> simp only [AVsLe] at h
    simpa only [AVsOk] using hv
  | b :: bs, as, vs, h, hv => by
    cases as with
    | nil => simp only [AVsLe] at h
    | cons a as =>
      simp only [AVsLe] at h
      simp only [AVsOk] at hv ⊢
      obtain ⟨v, r, h1, h2, h3⟩ := hv
      exact ⟨v, r, h1, AVLe_ok b a v h.1 h2, AVsLe_ok bs as r h.2 h3⟩
end
end

theorem obsLe_at {objs : Nat → AObj} {ρ : List (Nat × Option Nat)} : ∀ {ob : List (Nat × AObj)}, obsLe objs ρ ob → ∀ p, p ∈ ob → (match lkR ρ p.1 with
    | some (some i) => ObLe objs ρ (objs i) p.2
    | some none => match p.2 with
      | .row _ t xs => xs = [] ∧ 0 < t.size
      | .arr _ t xs => xs = [] ∧ 0 < t.size
      | _ => False
    | none => False)
  | [], _, p, h => by cases h
  | q :: r, hr, p, h => by
    rcases List.mem_cons.1 h with rfl | h
    · exact hr.1
    · exact obsLe_at hr.2 p h

theorem tmsLe_at {σ : St} {ρ : List (Nat × Option Nat)} : ∀ {tm : List (Nat × AV)}, tmsLe σ ρ tm → ∀ t, AVLe σ.objs ρ (σ.tmps t) (lkT tm t)
  | [], _, t => by simp only [lkT]; cases σ.tmps t <;> simp only [AVLe]
  | q :: r, hr, t => by
    simp only [lkT]
    cases hb : Nat.beq t q.1 with
    | true => rw [Nat.eq_of_beq_eq_true hb]; exact hr.1
    | false => exact tmsLe_at hr.2 t

/-- How many temporaries there are, and which objects were lent. -/
def Cx.is (cx : Cx) (N : Nat) (l : List Nat) : Prop := cx.N = N ∧ (∀ j r, cx.R j = some r → j ∈ l) ∧ ∀ p, ¬ cx.F p

def rhoL (ρ : List (Nat × Option Nat)) : List Nat → Prop
  | [] => True
  | j :: r => lkR ρ j = some (some j) ∧ rhoL ρ r

theorem rhoL_spec {ρ : List (Nat × Option Nat)} : ∀ {l : List Nat}, rhoL ρ l → ∀ j, j ∈ l → lkR ρ j = some (some j)
  | [], _, j, h => by cases h
  | i :: r, hr, j, h => by
    rcases List.mem_cons.1 h with rfl | h
    · exact hr.1
    · exact rhoL_spec hr.2 j h

theorem sub_shp {cx : Cx} {σ : St} {N : Nat} {l : List Nat} (hN : cx.is N l) {tm : List (Nat × AV)} {ob : List (Nat × AObj)} (ρ : List (Nat × Option Nat)) (h0 : rhoOK ob ρ ∧ rhoL ρ l ∧ obsLe σ.objs ρ ob ∧ tmsLe σ ρ tm) : Sub cx σ (shp tm ob) := by
  obtain ⟨h1, h4, h2, h3⟩ := h0
  intro a w hs
  obtain ⟨lim, G, hh, hf⟩ := hs
  let G' : Nat → Value := fun j => match lkR ρ j with
    | some (some i) => G i
    | _ => .slice none 0 0
  have hr : ∀ j i, lkR ρ j = some (some i) → (lkO ob j).born = true ∧ G' j = G i := by
    intro j i hj
    refine ⟨rhoOK_born h1 _ (lkR_mem hj), ?_⟩
    show (match lkR ρ j with | some (some i) => G i | _ => _) = _
    rw [hj]
  have hn : ∀ j, lkR ρ j = some none → (lkO ob j).born = true ∧ G' j = .slice none 0 0 := by
    intro j hj
    refine ⟨rhoOK_born h1 _ (lkR_mem hj), ?_⟩
    show (match lkR ρ j with | some (some i) => G i | _ => _) = _
    rw [hj]
  have old : ∀ j, (lkO ob j).live = true → ∃ x, lkR ρ j = some x ∧ ∀ i, x = some i → (σ.objs i).live = true := by
    intro j hl
    have hb := AObj.born_of_live hl
    have := obsLe_at h2 _ (lkO_mem hb)
    simp only at this
    cases hx : lkR ρ j with
    | none => rw [hx] at this; exact this.elim
    | some x =>
      refine ⟨x, rfl, fun i hi => ?_⟩
      subst hi
      rw [hx] at this
      simp only at this
      cases hoi : σ.objs i <;> rw [hoi] at this <;> first | rfl | (exfalso; simp only [ObLe] at this; done)
  refine ⟨lim, G', ⟨hh.start, hh.below, hh.lim0, fun j => ?_, fun i j g hij hi hj hg => ?_, fun i g hi hg => ?_, fun j r hjr => ?_⟩, hf.size, hf.defers, fun t => ?_, fun p hp => (hN.2.2 p hp).elim⟩
  rotate_left 2
  · obtain ⟨xi, k1, k2⟩ := old i hi
    cases xi with
    | none => rw [(hn i k1).2] at hg; cases hg
    | some i' =>
      rw [(hr i i' k1).2] at hg
      exact hh.mine i' g (k2 i' rfl) hg
  · have hj := rhoL_spec h4 j (hN.2.1 j r hjr)
    exact ⟨(hr j j hj).1, (hr j j hj).2.trans (hh.lent j r hjr).2⟩
  rotate_left
  · show ObjOK w lim G' (lkO ob) 0 (G' j) (lkO ob j)
    cases hb : (lkO ob j).born with
    | false => cases ho : lkO ob j <;> rw [ho] at hb <;> first | (simp only [ObjOK]; done) | cases hb
    | true =>
      have := obsLe_at h2 _ (lkO_mem hb)
      simp only at this
      cases hx : lkR ρ j with
      | none => rw [hx] at this; exact this.elim
      | some x =>
        cases x with
        | some i =>
          rw [hx] at this
          simp only at this
          rw [(hr j i hx).2]
          have hoi := hh.obj i
          cases hoo : σ.objs i with
          | row e t xs =>
            rw [hoo] at this hoi
            cases hon : lkO ob j with
            | row e' t' xs' =>
              rw [hon] at this
              simp only [ObLe] at this
              rw [← this]
              simpa only [ObjOK] using hoi
            | _ => rw [hon] at this; simp only [ObLe] at this
          | arr e t xs =>
            rw [hoo] at this hoi
            cases hon : lkO ob j with
            | arr e' t' xs' =>
              rw [hon] at this
              simp only [ObLe] at this
              rw [← this]
              simpa only [ObjOK] using hoi
            | _ => rw [hon] at this; simp only [ObLe] at this
          | tl e t xs =>
            rw [hoo] at this hoi
            cases hon : lkO ob j with
            | tl e' t' xs' =>
              rw [hon] at this
              simp only [ObLe] at this
              rw [← this]
              simpa only [ObjOK] using hoi
            | _ => rw [hon] at this; simp only [ObLe] at this
          | box T cs =>
            rw [hoo] at this hoi
            cases hon : lkO ob j with
            | box T' cs' =>
              rw [hon] at this
              simp only [ObLe] at this
              obtain ⟨e1, e2⟩ := this
              subst e1
              simp only [ObjOK] at hoi ⊢
              obtain ⟨g, arr, a1, a2, a3, a4, a5⟩ := hoi
              exact ⟨g, arr, a1, a2, a3, a4, AVsLe_ok hh.obj hr hn _ _ _ e2 a5⟩
            | _ => rw [hon] at this; simp only [ObLe] at this
          | _ => rw [hoo] at this; simp only [ObLe] at this
        | none =>
          rw [hx] at this
          simp only at this
          rw [(hn j hx).2]
          cases hon : lkO ob j with
          | row e' t' xs' =>
            rw [hon] at this
            simp only at this
            obtain ⟨e1, e2⟩ := this
            subst e1
            simp only [ObjOK]
            exact ⟨⟨[], World.ownsRow_nil _ _ _ _, e2, fun i h => absurd h (by simp)⟩, fun g hg => by cases hg⟩
          | arr e' t' xs' =>
            rw [hon] at this
            simp only at this
            obtain ⟨e1, e2⟩ := this
            subst e1
            simp only [ObjOK]
            exact ⟨⟨[], World.ownsRow_nil _ _ _ _, e2, fun i h => absurd h (by simp)⟩, fun g hg => by cases hg⟩
          | _ => rw [hon] at this; exact this.elim
  · obtain ⟨xi, k1, k2⟩ := old i hi
    obtain ⟨xj, k3, k4⟩ := old j hj
    cases xi with
    | none => rw [(hn i k1).2] at hg; cases hg
    | some i' =>
      rw [(hr i i' k1).2] at hg
      cases xj with
      | none => rw [(hn j k3).2]; intro h; cases h
      | some j' =>
        rw [(hr j j' k3).2]
        have hne : i' ≠ j' := by
          rintro rfl
          exact hij (rhoOK_inj h1 i j k1 k3)
        exact hh.sep i' j' g hne (k2 i' rfl) (k4 j' rfl) hg
  · exact AVLe_ok hh.obj hr hn _ _ _ (tmsLe_at h3 t) (hf.tmp t)

/-- Each object of the state keeps its number. -/
def idAll (ρ : List (Nat × Option Nat)) : List (Nat × AObj) → Prop
  | [] => True
  | p :: r => lkR ρ p.1 = some (some p.1) ∧ idAll ρ r
theorem idAll_mem {ρ : List (Nat × Option Nat)} : ∀ {ob : List (Nat × AObj)}, idAll ρ ob → ∀ p, p ∈ ob → lkR ρ p.1 = some (some p.1)
  | [], _, p, h => by cases h
  | q :: r, hr, p, h => by
    rcases List.mem_cons.1 h with rfl | h
    · exact hr.1
    · exact idAll_mem hr.2 p h
/-- As sub_shp, where a caller's temporaries stand behind: every object keeps its number. -/
theorem sub_shpF {cx : Cx} {tm0 : List (Nat × AV)} {ob0 : List (Nat × AObj)} {tm : List (Nat × AV)} {ob : List (Nat × AObj)} (ρ : List (Nat × Option Nat)) (h0 : rhoOK ob ρ ∧ idAll ρ ob0 ∧ obsLe (shp tm0 ob0).objs ρ ob ∧ tmsLe (shp tm0 ob0) ρ tm) : Sub cx (shp tm0 ob0) (shp tm ob) := by
  obtain ⟨h1, h4, h2, h3⟩ := h0
  generalize hσ : shp tm0 ob0 = σ at *
  have hob : σ.objs = lkO ob0 := by rw [← hσ]; rfl
  have idb : ∀ j, (σ.objs j).born = true → lkR ρ j = some (some j) := fun j hj => by
    rw [hob] at hj
    exact idAll_mem h4 _ (lkO_mem hj)
  intro a w hs
  obtain ⟨lim, G, hh, hf⟩ := hs
  let G' : Nat → Value := fun j => match lkR ρ j with
    | some (some i) => G i
    | _ => .slice none 0 0
  have hr : ∀ j i, lkR ρ j = some (some i) → (lkO ob j).born = true ∧ G' j = G i := by
    intro j i hj
    refine ⟨rhoOK_born h1 _ (lkR_mem hj), ?_⟩
    show (match lkR ρ j with | some (some i) => G i | _ => _) = _
    rw [hj]
  have hn : ∀ j, lkR ρ j = some none → (lkO ob j).born = true ∧ G' j = .slice none 0 0 := by
    intro j hj
    refine ⟨rhoOK_born h1 _ (lkR_mem hj), ?_⟩
    show (match lkR ρ j with | some (some i) => G i | _ => _) = _
    rw [hj]
  have old : ∀ j, (lkO ob j).live = true → ∃ x, lkR ρ j = some x ∧ ∀ i, x = some i → (σ.objs i).live = true := by
    intro j hl
    have hb := AObj.born_of_live hl
    have := obsLe_at h2 _ (lkO_mem hb)
    simp only at this
    cases hx : lkR ρ j with
    | none => rw [hx] at this; exact this.elim
    | some x =>
      refine ⟨x, rfl, fun i hi => ?_⟩
      subst hi
      rw [hx] at this
      simp only at this
      cases hoi : σ.objs i <;> rw [hoi] at this <;> first | rfl | (exfalso; simp only [ObLe] at this; done)
  refine ⟨lim, G', ⟨hh.start, hh.below, hh.lim0, fun j => ?_, fun i j g hij hi hj hg => ?_, fun i g hi hg => ?_, fun j r hjr => ?_⟩, hf.size, hf.defers, fun t => ?_, fun p hp => ?_⟩
  rotate_left 2
  · obtain ⟨xi, k1, k2⟩ := old i hi
    cases xi with
    | none => rw [(hn i k1).2] at hg; cases hg
    | some i' =>
      rw [(hr i i' k1).2] at hg
      exact hh.mine i' g (k2 i' rfl) hg
  · have hj := idb j (hh.lent j r hjr).1
    exact ⟨(hr j j hj).1, (hr j j hj).2.trans (hh.lent j r hjr).2⟩
  rotate_left 2
  · show ObjOK w lim G' (lkO ob) 0 (G' j) (lkO ob j)
    cases hb : (lkO ob j).born with
    | false => cases ho : lkO ob j <;> rw [ho] at hb <;> first | (simp only [ObjOK]; done) | cases hb
    | true =>
      have := obsLe_at h2 _ (lkO_mem hb)
      simp only at this
      cases hx : lkR ρ j with
      | none => rw [hx] at this; exact this.elim
      | some x =>
        cases x with
        | some i =>
          rw [hx] at this
          simp only at this
          rw [(hr j i hx).2]
          have hoi := hh.obj i
          cases hoo : σ.objs i with
          | row e t xs =>
            rw [hoo] at this hoi
            cases hon : lkO ob j with
            | row e' t' xs' =>
              rw [hon] at this
              simp only [ObLe] at this
              rw [← this]
              simpa only [ObjOK] using hoi
            | _ => rw [hon] at this; simp only [ObLe] at this
          | arr e t xs =>
            rw [hoo] at this hoi
            cases hon : lkO ob j with
            | arr e' t' xs' =>
              rw [hon] at this
              simp only [ObLe] at this
              rw [← this]
              simpa only [ObjOK] using hoi
            | _ => rw [hon] at this; simp only [ObLe] at this
          | tl e t xs =>
            rw [hoo] at this hoi
            cases hon : lkO ob j with
            | tl e' t' xs' =>
              rw [hon] at this
              simp only [ObLe] at this
              rw [← this]
              simpa only [ObjOK] using hoi
            | _ => rw [hon] at this; simp only [ObLe] at this
          | box T cs =>
            rw [hoo] at this hoi
            cases hon : lkO ob j with
            | box T' cs' =>
              rw [hon] at this
              simp only [ObLe] at this
              obtain ⟨e1, e2⟩ := this
              subst e1
              simp only [ObjOK] at hoi ⊢
              obtain ⟨g, arr, a1, a2, a3, a4, a5⟩ := hoi
              exact ⟨g, arr, a1, a2, a3, a4, AVsLe_ok hh.obj hr hn _ _ _ e2 a5⟩
            | _ => rw [hon] at this; simp only [ObLe] at this
          | _ => rw [hoo] at this; simp only [ObLe] at this
        | none =>
          rw [hx] at this
          simp only at this
          rw [(hn j hx).2]
          cases hon : lkO ob j with
          | row e' t' xs' =>
            rw [hon] at this
            simp only at this
            obtain ⟨e1, e2⟩ := this
            subst e1
            simp only [ObjOK]
            exact ⟨⟨[], World.ownsRow_nil _ _ _ _, e2, fun i h => absurd h (by simp)⟩, fun g hg => by cases hg⟩
          | arr e' t' xs' =>
            rw [hon] at this
            simp only at this
            obtain ⟨e1, e2⟩ := this
            subst e1
            simp only [ObjOK]
            exact ⟨⟨[], World.ownsRow_nil _ _ _ _, e2, fun i h => absurd h (by simp)⟩, fun g hg => by cases hg⟩
          | _ => rw [hon] at this; exact this.elim
  · obtain ⟨xi, k1, k2⟩ := old i hi
    obtain ⟨xj, k3, k4⟩ := old j hj
    cases xi with
    | none => rw [(hn i k1).2] at hg; cases hg
    | some i' =>
      rw [(hr i i' k1).2] at hg
      cases xj with
      | none => rw [(hn j k3).2]; intro h; cases h
      | some j' =>
        rw [(hr j j' k3).2]
        have hne : i' ≠ j' := by
          rintro rfl
          exact hij (rhoOK_inj h1 i j k1 k3)
        exact hh.sep i' j' g hne (k2 i' rfl) (k4 j' rfl) hg
  · exact AVLe_ok hh.obj hr hn _ _ _ (tmsLe_at h3 t) (hf.tmp t)
  · refine AVok.keeps (Keeps.refl w lim) (fun j hj => ?_) _ _ (hf.ext p hp)
    have hi := idb j hj
    refine ⟨(hr j j hi).1, fun hl => ?_⟩
    obtain ⟨x, k1, k2⟩ := old j hl
    rw [hi] at k1
    injection k1 with k1
    exact ⟨k2 j k1.symm, (hr j j hi).2⟩

end Go.AL
/- Functions on abstract frames: how they begin, how they end. A general part, over any program. -/
set_option linter.unusedSimpArgs false
set_option linter.unusedVariables false
set_option linter.unusedSectionVars false
namespace Go.AL
open Go.RowKit

/-! ### What every reading bears -/

def WF : (t : Ty) → t.den → Prop
  | .int k, n => k.min ≤ n ∧ n ≤ k.max
  | .bool, _ => True
  | .str, s => s.size ≤ maxLen
  | .list t, xs => xs.length ≤ maxLen ∧ ∀ i (h : i < xs.length), WF t xs[i]
  | .nil, _ => True
  | .cons h t, x => WF h x.1 ∧ WF t x.2

theorem Rd.wf {w : World} {lim : Nat → Nat} : ∀ {t : Ty} {cs : List Value} {x : t.den}, Rd w lim t cs x → WF t x
  | .int _, _, _, h => h.2
  | .bool, _, _, _ => trivial
  | .str, _, _, h => h.2
  | .nil, _, _, _ => trivial
  | .cons _ _, _, _, h => by obtain ⟨c1, c2, _, h1, h2⟩ := h; exact ⟨h1.wf, h2.wf⟩
  | .list t, _, _, h => by
    obtain ⟨A, cap, _, h2, h3, h4⟩ := h
    exact ⟨by omega, fun i hi => by obtain ⟨a, ds, _, _, _, hr⟩ := h4 i hi; exact hr.wf⟩

def WFs : List TV → Prop
  | [] => True
  | a :: r => WF a.t a.x ∧ WFs r

theorem ArgsOK.wf {w : World} {lim : Nat → Nat} : ∀ {args : List TV} {vs : List Value}, ArgsOK w lim args vs → WFs args
  | [], _, _ => trivial
  | a :: r, vs, h => by
    simp only [ArgsOK] at h
    obtain ⟨v, vr, _, h2, h3⟩ := h
    obtain ⟨cs, h4, _⟩ := h2
    exact ⟨h4.wf, h3.wf⟩

theorem ArgsOK.len {w : World} {lim : Nat → Nat} : ∀ {args : List TV} {vs : List Value}, ArgsOK w lim args vs → vs.length = args.length
  | [], _, h => by simp only [ArgsOK] at h; rw [h]; rfl
  | a :: r, vs, h => by
    simp only [ArgsOK] at h
    obtain ⟨v, vr, h1, _, h3⟩ := h
    rw [h1, List.length_cons, List.length_cons, h3.len]

theorem ArgsOK.get {w : World} {lim : Nat → Nat} : ∀ {args : List TV} {vs : List Value}, ArgsOK w lim args vs → ∀ i (a : TV), args[i]? = some a → RdV w lim a.t (vs.getD i undef) a.x
  | [], _, _, i, a, h => by simp at h
  | b :: r, vs, h, i, a, ha => by
    simp only [ArgsOK] at h
    obtain ⟨v, vr, h1, h2, h3⟩ := h
    subst h1
    cases i with
    | zero => have : b = a := by simpa using ha
              subst this; exact h2
    | succ i => have := h3.get i a (by simpa using ha); simpa using this

def initL : Nat → List TV → List (Nat × AV)
  | _, [] => []
  | k, a :: r => (k, .rd a.t a.x) :: initL (k + 1) r

theorem initL_lk : ∀ (args : List TV) (k t : Nat), lkT (initL k args) t = (match args[t - k]? with | some a => if k ≤ t then .rd a.t a.x else .any | none => .any)
  | [], k, t => by simp [initL, lkT]
  | a :: r, k, t => by
    simp only [initL, lkT]
    cases hb : Nat.beq t k with
    | true =>
      have := Nat.eq_of_beq_eq_true hb
      subst this
      simp
    | false =>
      have hne : t ≠ k := fun e => by rw [e, Nat.beq_refl] at hb; cases hb
      simp only [cond_false]
      rw [initL_lk r (k + 1) t]
      rcases Nat.lt_or_ge k t with hlt | hge
      · have e : t - k = (t - (k + 1)) + 1 := by omega
        rw [e, List.getElem?_cons_succ]
        cases r[t - (k + 1)]? with
        | none => rfl
        | some b => simp only; rw [if_pos (by omega), if_pos (by omega)]
      · have h0 : t - k = 0 := by omega
        rw [h0]
        simp only [List.getElem?_cons_zero]
        rw [if_neg (by omega)]
        cases r[t - (k + 1)]? with
        | none => rfl
        | some b => simp only; rw [if_neg (by omega)]

/-! ### Results -/

def resAV (tb : Tb) (σ : St) : ResultVar → AV
  | .tmp t => σ.tmps t
  | .cell a T => match (σ.tmps a) with
    | .bp i off => match σ.objs i with
      | .box _ cs => boxLoad (tb.ty T) cs off
      | _ => .any
    | _ => .any

def resC (P : Program) (tb : Tb) (σ : St) : ResultVar → Prop
  | .tmp _ => True
  | .cell a T => match (σ.tmps a) with
    | .bp i off => match σ.objs i with
      | .box _ cs => TyOK P (tb.ty T) T ∧ off + (tb.ty T).size ≤ cs.length
      | _ => False
    | _ => False

def resAll (P : Program) (tb : Tb) (σ : St) : List ResultVar → Prop
  | [] => True
  | r :: rs => resC P tb σ r ∧ resAll P tb σ rs

def resL (tb : Tb) (σ : St) : List ResultVar → List AV
  | [] => []
  | r :: rs => resAV tb σ r :: resL tb σ rs

mutual
/-- What stands in a temporary answers for what the call is to answer; the list: the objects that go out. -/
def RVle (objs : Nat → AObj) : AV → RV → List Nat → Prop
  | a, .rd t x, ids => ids = [] ∧ a.uc ∧ tvc objs t a.un ∧ tvd objs t a.un = x
  | .own i, .own e t xs, ids => ids = [i] ∧ objs i = .row e t xs
  | .own i, .fresh e t xs, ids => ids = [i] ∧ objs i = .arr e t xs
  | .own i, .tl e t xs, ids => ids = [i] ∧ (objs i = .row e t xs ∨ objs i = .tl e t xs)
  | .nils, .own _ t xs, ids => ids = [] ∧ xs = [] ∧ 0 < t.size
  | .nils, .tl _ t xs, ids => ids = [] ∧ xs = [] ∧ 0 < t.size
  | .agg cs, .agg rs, ids => RVsle objs cs rs ids
  | .tup cs, .tup rs, ids => RVsle objs cs rs ids
  | _, _, _ => False
def RVsle (objs : Nat → AObj) : List AV → List RV → List Nat → Prop
  | [], [], ids => ids = []
  | a :: as, r :: rs, ids => ∃ i1 i2, ids = i1 ++ i2 ∧ RVle objs a r i1 ∧ RVsle objs as rs i2
  | _, _, _ => False
end

section
variable {w : World} {lim : Nat → Nat} {G : Nat → Value} {objs : Nat → AObj} {B : Nat} (ho : ∀ id, ObjOK w lim G objs 0 (G id) (objs id))
include ho
mutual
theorem RVle_ok : ∀ (rv : RV) (a : AV) (v : Value) (ids : List Nat), (∀ i g, i ∈ ids → (objs i).live = true → blk (G i) = some g → B ≤ g) → RVle objs a rv ids → AVok w lim G objs a v → RVok w lim B rv v (ids.flatMap fun i => (blk (G i)).toList) ∧ ∀ i, i ∈ ids → (objs i).live = true
  | .rd t x, a, v, ids, hm, h, hv => by
    have h' : ids = [] ∧ a.uc ∧ tvc objs t a.un ∧ tvd objs t a.un = x := by cases a <;> simpa only [RVle] using h
    obtain ⟨h0, h1, h2, h3⟩ := h'
    subst h0
    simp only [RVok]
    rw [← h3]
    exact ⟨⟨tv_ok ho t _ v h2 (hv.un h1), rfl⟩, fun i hi => by cases hi⟩
  | .fresh e t xs, a, v, ids, hm, h, hv => by
    cases a <;> simp only [RVle] at h
    obtain ⟨h0, h1⟩ := h
    subst h0
    rename_i i
    have hi := ho i
    simp only [AVok, h1] at hv
    rw [h1] at hi
    simp only [ObjOK] at hi
    have hv := hv.2 rfl
    subst hv
    simp only [RVok]
    refine ⟨⟨hi.1.raise fun g hg => hm i g (by simp) (by rw [h1]; rfl) hg, hi.2, by simp⟩, fun j hj => ?_⟩
    have : j = i := by simpa using hj
    subst this
    rw [h1]; rfl
  | .tl e t xs, a, v, ids, hm, h, hv => by
    cases a <;> simp only [RVle] at h
    · obtain ⟨h0, h1, h2⟩ := h
      subst h0; subst h1
      simp only [AVok] at hv
      subst hv
      simp only [RVok]
      exact ⟨⟨⟨h2, .inl ⟨rfl, rfl⟩⟩, rfl⟩, fun i hi => by cases hi⟩
    · obtain ⟨h0, h1⟩ := h
      subst h0
      rename_i i
      have hi := ho i
      rcases h1 with h1 | h1
      · simp only [AVok, h1] at hv
        rw [h1] at hi
        simp only [ObjOK] at hi
        have hv := hv.2 rfl
        subst hv
        simp only [RVok]
        refine ⟨⟨TailOK.raise (RowOK.tail hi.1 hi.2) fun g hg => hm i g (by simp) (by rw [h1]; rfl) hg, by simp⟩, fun j hj => ?_⟩
        have : j = i := by simpa using hj
        subst this
        rw [h1]; rfl
      · simp only [AVok, h1] at hv
        rw [h1] at hi
        simp only [ObjOK] at hi
        have hv := hv.2 rfl
        subst hv
        simp only [RVok]
        refine ⟨⟨TailOK.raise hi fun g hg => hm i g (by simp) (by rw [h1]; rfl) hg, by simp⟩, fun j hj => ?_⟩
        have : j = i := by simpa using hj
        subst this
        rw [h1]; rfl
  | .own e t xs, a, v, ids, hm, h, hv => by
    cases a <;> simp only [RVle] at h
    · obtain ⟨h0, h1, h2⟩ := h
      subst h0; subst h1
      simp only [AVok] at hv
      subst hv
      simp only [RVok]
      exact ⟨⟨⟨[], World.ownsRow_nil _ _ _ _, h2, fun i h => absurd h (by simp)⟩, (fun g hg => by cases hg), rfl⟩, fun i hi => by cases hi⟩
    · obtain ⟨h0, h1⟩ := h
      subst h0
      rename_i i
      have hi := ho i
      simp only [AVok, h1] at hv
      rw [h1] at hi
      simp only [ObjOK] at hi
      have hv := hv.2 rfl
      subst hv
      simp only [RVok]
      refine ⟨⟨hi.1.raise fun g hg => hm i g (by simp) (by rw [h1]; rfl) hg, hi.2, by simp⟩, fun j hj => ?_⟩
      have : j = i := by simpa using hj
      subst this
      rw [h1]; rfl
  | .agg rs, a, v, ids, hm, h, hv => by
    cases a <;> simp only [RVle] at h
    simp only [AVok] at hv
    obtain ⟨arr, h1, h2⟩ := hv
    obtain ⟨k1, k2⟩ := RVsle_ok rs _ arr ids hm h h2
    simp only [RVok]
    exact ⟨⟨arr, h1, k1⟩, k2⟩
  | .tup rs, a, v, ids, hm, h, hv => by
    cases a <;> simp only [RVle] at h
    simp only [AVok] at hv
    obtain ⟨arr, h1, h2⟩ := hv
    obtain ⟨k1, k2⟩ := RVsle_ok rs _ arr ids hm h h2
    simp only [RVok]
    exact ⟨⟨arr, h1, k1⟩, k2⟩
theorem RVsle_ok : ∀ (rs : List RV) (as : List AV) (vs : List Value) (ids : List Nat), (∀ i g, i ∈ ids → (objs i).live = true → blk (G i) = some g → B ≤ g) → RVsle objs as rs ids → AVsOk w lim G objs as vs → RVsOk w lim B rs vs (ids.flatMap fun i => (blk (G i)).toList) ∧ ∀ i, i ∈ ids → (objs i).live = true
  | [], as, vs, ids, hm, h, hv => by
    cases as <;> simp only [RVsle] at h
    subst h
    simp only [AVsOk] at hv
    simp only [RVsOk]
    exact ⟨⟨hv, rfl⟩, fun i hi => by cases hi⟩
  | r :: rs, as, vs, ids, hm, h, hv => by
    cases as with
    | nil => simp only [RVsle] at h
    | cons a as =>
      simp only [RVsle] at h
      obtain ⟨i1, i2, e, h1, h2⟩ := h
      subst e
      simp only [AVsOk] at hv
      obtain ⟨v, vr, e1, h3, h4⟩ := hv
      obtain ⟨k1, k2⟩ := RVle_ok r a v i1 (fun i g hi => hm i g (List.mem_append_left _ hi)) h1 h3
      obtain ⟨k3, k4⟩ := RVsle_ok rs as vr i2 (fun i g hi => hm i g (List.mem_append_right _ hi)) h2 h4
      simp only [RVsOk]
      refine ⟨⟨v, vr, _, _, e1, List.flatMap_append, k1, k3⟩, fun i hi => ?_⟩
      rcases List.mem_append.1 hi with hi | hi
      · exact k2 i hi
      · exact k4 i hi
end
end

/-- The list of results as one value. -/
def oneOf : List AV → AV
  | [a] => a
  | l => .tup l

/-- What is asked at a function's end. -/
def RetQ (P : Program) (tb : Tb) (rs : List ResultVar) (rv : RV) (σ : St) : Prop :=
  resAll P tb σ rs ∧ ∃ ids, ids.Nodup ∧ RVle σ.objs (oneOf (resL tb σ rs)) rv ids

section
variable {P : Program} {cx : Cx} {tb : Tb} {σ : St} {a : Act} {w : World} {lim : Nat → Nat} {G : Nat → Value}

def resFn (tmps : Array Value) : ResultVar → Sem Value
  | .tmp t => pure (tmps.getD t undef)
  | .cell c t => do loadVar t (← asAddr (tmps.getD c undef))

theorem run_res (hh : Hp cx σ.objs w lim G) (hf : Fr cx σ a w lim G) : ∀ (rs : List ResultVar), resAll P tb σ rs →
    ∃ vs : List Value, (rs.mapM (m := Sem) (resFn a.tmps)).run P w = .ok vs w ∧ AVsOk w lim G σ.objs (resL tb σ rs) vs
  | [], _ => ⟨[], by simp, by simp only [resL, AVsOk]⟩
  | r :: rs, h => by
    obtain ⟨h1, h2⟩ := h
    obtain ⟨vs, e1, e2⟩ := run_res hh hf rs h2
    cases r with
    | tmp t =>
      refine ⟨a.tmps.getD t undef :: vs, ?_, ?_⟩
      · rw [List.mapM_cons]
        have : (resFn a.tmps (.tmp t)).run P w = .ok (a.tmps.getD t undef) w := rfl
        simp only [Sem.run_bind, Sem.run_pure, Result.andThen_ok, e1, this]
      · simp only [resL, resAV, AVsOk]
        exact ⟨_, _, rfl, hf.tmp t, e2⟩
    | cell c T =>
      simp only [resC] at h1
      cases hc : σ.tmps c with
      | bp i off =>
        rw [hc] at h1
        simp only at h1
        cases hb : σ.objs i with
        | box T' cs =>
          rw [hb] at h1
          simp only at h1
          have h := hf.tmp c
          rw [hc] at h
          obtain ⟨g, arr, b1, b2, b3, b4, b5, b6⟩ := boxAt hh hb h
          have hl := b6.length
          have hcells : ∀ j u, ((arr.toList.drop off).take (tb.ty T).size)[j]? = some u → w.cell? ((⟨g, off, none⟩ : Addr).add j) = some u := by
            intro j u hu
            have e : (⟨g, off, none⟩ : Addr).add j = ⟨g, off + j, none⟩ := by unfold Addr.add; split <;> simp_all
            rw [e, cell_of_row w g _ arr T' (0, 0) b4]
            rw [List.getElem?_take] at hu
            split at hu
            · simpa using hu
            · cases hu
          have hlen : ((arr.toList.drop off).take (tb.ty T).size).length = (tb.ty T).size := by rw [List.length_take, List.length_drop, hl]; omega
          have hld := run_load_at h1.1 w ⟨g, off, none⟩ _ hlen hcells
          unfold Instr.loadAt Instr.sureAddr at hld
          simp only [Sem.run_bind, Sem.run_pure, Result.andThen_ok] at hld
          refine ⟨mkV (tb.ty T) ((arr.toList.drop off).take (tb.ty T).size) :: vs, ?_, ?_⟩
          · rw [List.mapM_cons]
            have ha : (asAddr (a.tmps.getD c undef)).run P w = .ok ⟨g, off, none⟩ w := by rw [b2]; rfl
            have : (resFn a.tmps (.cell c T)).run P w = .ok (mkV (tb.ty T) ((arr.toList.drop off).take (tb.ty T).size)) w := by
              simp only [resFn, Sem.run_bind, ha, Result.andThen_ok, hld]
            simp only [Sem.run_bind, Sem.run_pure, Result.andThen_ok, e1, this]
          · simp only [resL, resAV, hc, hb, AVsOk]
            refine ⟨_, _, rfl, ?_, e2⟩
            unfold boxLoad mkV
            cases hg : (tb.ty T).isAgg with
            | true =>
              simp only [cond_true, AVok, if_true]
              exact ⟨_, rfl, b6.cut off (tb.ty T).size⟩
            | false =>
              have hs : (tb.ty T).size = 1 := by cases htt : tb.ty T <;> simp_all [Ty.isAgg, Ty.size]
              have hlt : off < cs.length := by omega
              have hla : off < arr.toList.length := by omega
              simp only [cond_false, Bool.false_eq_true, if_false]
              have e : ((arr.toList.drop off).take (tb.ty T).size).headD undef = arr.toList.getD off undef := by
                rw [hs, List.drop_eq_getElem_cons hla]
                simp [List.getD_eq_getElem?_getD, List.getElem?_eq_getElem hla]
              rw [e]
              exact b6.get off hlt
        | _ => rw [hb] at h1; exact h1.elim
      | _ => rw [hc] at h1; exact h1.elim

theorem results_ok {fn : Func} (hh : Hp cx σ.objs w lim G) (hf : Fr cx σ a w lim G) (hr : resAll P tb σ fn.results.toList) :
    ∃ v, (results fn a.tmps).run P w = .ok v w ∧ AVok w lim G σ.objs (oneOf (resL tb σ fn.results.toList)) v := by
  obtain ⟨vs, h1, h2⟩ := run_res hh hf fn.results.toList hr
  have hl := h2.length
  have e : (results fn a.tmps).run P w = .ok (if h : vs.toArray.size = 1 then vs.toArray[0] else .tuple vs.toArray) w := by
    have hd : results fn a.tmps = (do
        let vs ← fn.results.mapM (resFn a.tmps)
        pure (if h : vs.size = 1 then vs[0] else .tuple vs)) := rfl
    have this : (fn.results.mapM (m := Sem) (resFn a.tmps)).run P w = .ok vs.toArray w := by
      rw [Array.mapM_eq_mapM_toList, map_eq_pure_bind, Sem.run_bind, h1]
      rfl
    rw [hd, Sem.run_bind, this]
    rfl
  refine ⟨_, e, ?_⟩
  cases hvs : vs with
  | nil =>
    rw [hvs] at hl h2
    have : resL tb σ fn.results.toList = [] := List.eq_nil_of_length_eq_zero (by simpa using hl.symm)
    rw [this] at h2 ⊢
    simp only [oneOf, AVok]
    exact ⟨[], by simp, h2⟩
  | cons v r =>
    cases r with
    | nil =>
      rw [hvs] at hl h2
      cases hrl : resL tb σ fn.results.toList with
      | nil => rw [hrl] at hl; simp at hl
      | cons b bs =>
        cases bs with
        | nil =>
          rw [hrl] at h2
          simp only [AVsOk] at h2
          obtain ⟨v', r', e1, h3, h4⟩ := h2
          injection e1 with e1 e2
          subst e1
          simpa [oneOf] using h3
        | cons _ _ => rw [hrl] at hl; simp at hl
    | cons v2 r2 =>
      rw [hvs] at hl h2
      have : oneOf (resL tb σ fn.results.toList) = .tup (resL tb σ fn.results.toList) := by
        cases hrl : resL tb σ fn.results.toList with
        | nil => rfl
        | cons b bs =>
          cases bs with
          | nil => rw [hrl] at hl; simp at hl
          | cons _ _ => rfl
      rw [this]
      simp only [AVok]
      exact ⟨v :: v2 :: r2, by simp, h2⟩

def finQ (k : St → Prop) (e : Exit) (σ : St) : Prop :=
  match e with
  | .normal => k σ
  | .ret => k σ
  | _ => False

/-- A function, by its body. -/
theorem fun_ofT {P : Program} {tb : Tb} {f : FuncId} {fn : Func} {c : Code} {args : List TV} {rv : RV} (hf : P.funcs[f]? = some fn) (hn : (fn.name == "runtime.NumGoroutine") = false) (hb : fn.body = some c)
    (hl : args.length ≤ fn.ntmps)
    (h : ∀ cx : Cx, cx.is fn.ntmps [] → WFs args → T P cx c (finQ (RetQ P tb fn.results.toList rv)) (shp (initL 0 args) [])) : FunOK P f args rv := by
  refine ⟨⟨fn, hf, hn, by rw [hb]; rfl⟩, fun w lim vs hargs => ?_⟩
  let cx : Cx := ⟨w.heap.size, w, lim, fn.ntmps, fun _ => none, fun _ => False⟩
  have hL : ∀ g, ¬ cx.L g := fun g ⟨_, _, h, _⟩ => by cases h
  have hl2 := hargs.len
  refine calls_of_wp hf hb ?_
  have hs : Sat cx (shp (initL 0 args) []) { tmps := vs.toArray ++ Array.replicate (fn.ntmps - vs.toArray.size) undef, defers := [] } w := by
    refine ⟨lim, fun _ => .nilFunc, ⟨rfl, BelowL.refl _ _ _, fun _ _ _ => rfl, fun id => by simp only [shp, lkO, ObjOK], fun i j g _ hi => by simp [shp, lkO, AObj.live] at hi, fun i g hi => by simp [shp, lkO, AObj.live] at hi, fun j r hr => by cases hr⟩, ?_, rfl, fun t => ?_, fun p hp => hp.elim⟩
    · show (vs.toArray ++ Array.replicate (fn.ntmps - vs.toArray.size) undef).size = fn.ntmps
      simp; omega
    · simp only [shp]
      rw [initL_lk, Nat.sub_zero]
      cases ha : args[t]? with
      | none => simp only [AVok]
      | some a =>
        simp only
        rw [if_pos (Nat.zero_le _)]
        simp only [AVok]
        have := hargs.get t a ha
        have ht : t < vs.length := by rw [hl2]; exact (List.getElem?_eq_some_iff.1 ha).1
        have e : (vs.toArray ++ Array.replicate (fn.ntmps - vs.toArray.size) undef).getD t undef = vs.getD t undef := by
          simp [Array.getD_eq_getD_getElem?, Array.getElem?_append, ht, List.getD_eq_getElem?_getD]
        rw [e]
        exact this
  have hT := h cx ⟨rfl, fun j r hr => (by cases hr), fun p hp => hp⟩ hargs.wf _ w hs
  refine wp_mono hT fun e a' w' hq => ?_
  obtain ⟨σ', h1, lim', G, hh, hfr⟩ := hq
  have fin : RetQ P tb fn.results.toList rv σ' → a'.defers = [] ∧ ∃ v, (results fn a'.tmps).run P w' = .ok v w' ∧ ∃ v0 lim' fp, Ending.returned v = .returned v0 ∧ Below w.heap.size w w' ∧ (∀ b, b < w.heap.size → lim' b = lim b) ∧ RVok w' lim' w.heap.size rv v0 fp ∧ fp.Nodup := by
    rintro ⟨q1, ids, q2, q3⟩
    obtain ⟨v, r1, r2⟩ := results_ok hh hfr q1
    obtain ⟨k1, k2⟩ := RVle_ok (B := w.heap.size) hh.obj rv _ v ids (fun i g _ hl hg => (hh.mine i g hl hg).resolve_right (hL g)) q3 r2
    refine ⟨hfr.defers, v, r1, v, lim', _, rfl, ⟨hh.below.os, hh.below.tape, hh.below.output, hh.below.size, fun k hk => hh.below.block k hk (hL k)⟩, fun b hb => hh.lim0 b hb (hL b), k1, ?_⟩
    have nd : ∀ l : List Nat, l.Nodup → (∀ i, i ∈ l → (σ'.objs i).live = true) → (l.flatMap fun i => (blk (G i)).toList).Nodup := by
      intro l
      induction l with
      | nil => intro _ _; exact List.nodup_nil
      | cons i l ih =>
        intro hnd hlv
        rw [List.nodup_cons] at hnd
        rw [List.flatMap_cons, List.nodup_append]
        refine ⟨by cases blk (G i) <;> simp, ih hnd.2 fun j hj => hlv j (by simp [hj]), fun x hx y hy hxy => ?_⟩
        subst hxy
        have hx' : blk (G i) = some x := by simpa using hx
        rw [List.mem_flatMap] at hy
        obtain ⟨j, hj, hy⟩ := hy
        have hy' : blk (G j) = some x := by simpa using hy
        have hij : i ≠ j := by rintro rfl; exact hnd.1 hj
        exact hh.sep i j x hij (hlv i (by simp)) (hlv j (by simp [hj])) hx' hy'
    exact nd ids q2 k2
  cases e with
  | normal => exact fin h1
  | ret => exact fin h1
  | _ => exact h1.elim
end

end Go.AL
/- Functions to which something is lent: how they begin, how they end. A general part, over any program. -/
set_option linter.unusedSimpArgs false
set_option linter.unusedVariables false
set_option linter.unusedSectionVars false
namespace Go.AL
open Go.RowKit

def mAV (c : Nat) : MA → AV
  | .rd a => .rd a.t a.x
  | .obj (.arr _ _ _) => .own c
  | .obj (.box _ _) => .bp c 0
  | .obj _ => .any
def mAVs : Nat → List MA → List AV
  | _, [] => []
  | c, m :: ms => mAV c m :: mAVs (c + 1) ms
/-- The parameters' temporaries. k: the parameter; c: the cell. -/
def initM : Nat → Nat → List (Option Nat) → List MA → List (Nat × AV)
  | _, _, [], _ => []
  | k, c, none :: s, m :: ms => (k, mAV c m) :: initM (k + 1) (c + 1) s ms
  | _, _, none :: _, [] => []
  | k, c, some n :: s, ms => (k, .agg (mAVs c (ms.take n))) :: initM (k + 1) (c + n) s (ms.drop n)
def initO : Nat → List MA → List (Nat × AObj)
  | _, [] => []
  | c, .rd _ :: ms => initO (c + 1) ms
  | c, .obj o :: ms => (c, o) :: initO (c + 1) ms
def initI : Nat → List MA → List Nat
  | _, [] => []
  | c, .rd _ :: ms => initI (c + 1) ms
  | c, .obj _ :: ms => c :: initI (c + 1) ms

def shOK : List (Option Nat) → Nat → Prop
  | [], n => n = 0
  | none :: s, n => ∃ m, n = m + 1 ∧ shOK s m
  | some k :: s, n => k ≤ n ∧ shOK s (n - k)

def WFm : List MA → Prop
  | [] => True
  | .rd a :: r => WF a.t a.x ∧ WFm r
  | .obj _ :: r => WFm r

section
variable {w : World} {lim : Nat → Nat}

theorem MCells.len : ∀ {ms : List MA} {vs : List Value}, MCells w lim ms vs → vs.length = ms.length
  | [], vs, h => by simp only [MCells] at h; rw [h]; rfl
  | .rd a :: ms, vs, h => by simp only [MCells] at h; obtain ⟨v, r, rfl, _, h⟩ := h; simp [h.len]
  | .obj a :: ms, vs, h => by simp only [MCells] at h; obtain ⟨v, r, rfl, _, h⟩ := h; simp [h.len]

theorem MCells.wf : ∀ {ms : List MA} {vs : List Value}, MCells w lim ms vs → WFm ms
  | [], vs, h => trivial
  | .rd a :: ms, vs, h => by
    simp only [MCells] at h
    obtain ⟨v, r, rfl, h1, h2⟩ := h
    obtain ⟨cs, h4, _⟩ := h1
    exact ⟨h4.wf, h2.wf⟩
  | .obj a :: ms, vs, h => by simp only [MCells] at h; obtain ⟨v, r, rfl, _, h⟩ := h; exact h.wf

theorem MCells.drop : ∀ (n : Nat) {ms : List MA} {vs : List Value}, MCells w lim ms vs → MCells w lim (ms.drop n) (vs.drop n)
  | 0, ms, vs, h => by simpa using h
  | n + 1, [], vs, h => by simp only [MCells] at h; subst h; simp only [List.drop_nil, MCells]
  | n + 1, .rd a :: ms, vs, h => by simp only [MCells] at h; obtain ⟨v, r, rfl, _, h⟩ := h; simpa using MCells.drop n h
  | n + 1, .obj a :: ms, vs, h => by simp only [MCells] at h; obtain ⟨v, r, rfl, _, h⟩ := h; simpa using MCells.drop n h

theorem MCells.take : ∀ (n : Nat) {ms : List MA} {vs : List Value}, MCells w lim ms vs → MCells w lim (ms.take n) (vs.take n)
  | 0, ms, vs, h => by simp only [List.take_zero, MCells]
  | n + 1, [], vs, h => by simp only [MCells] at h; subst h; simp only [List.take_nil, MCells]
  | n + 1, .rd a :: ms, vs, h => by simp only [MCells] at h; obtain ⟨v, r, rfl, h1, h⟩ := h; simp only [List.take_succ_cons, MCells]; exact ⟨v, _, rfl, h1, MCells.take n h⟩
  | n + 1, .obj a :: ms, vs, h => by simp only [MCells] at h; obtain ⟨v, r, rfl, h1, h⟩ := h; simp only [List.take_succ_cons, MCells]; exact ⟨v, _, rfl, h1, MCells.take n h⟩

theorem MCells.objAt : ∀ {ms : List MA} {vs : List Value}, MCells w lim ms vs → ∀ k o, ms[k]? = some (.obj o) → ∃ v, vs[k]? = some v ∧ lentAt ms vs k = some v ∧ o.clo = true ∧ ObjOK w lim noG noO 0 v o
  | [], vs, h, k, o, hk => by simp at hk
  | .rd a :: ms, vs, h, k, o, hk => by
    simp only [MCells] at h
    obtain ⟨v, r, rfl, _, h⟩ := h
    cases k with
    | zero => simp at hk
    | succ k => simpa [lentAt] using h.objAt k o (by simpa using hk)
  | .obj a :: ms, vs, h, k, o, hk => by
    simp only [MCells] at h
    obtain ⟨v, r, rfl, h1, h⟩ := h
    cases k with
    | zero =>
      have e : a = o := by simpa using hk
      subst e
      exact ⟨v, rfl, rfl, h1⟩
    | succ k => simpa [lentAt] using h.objAt k o (by simpa using hk)

theorem lentAt_obj : ∀ {ms : List MA} {vs : List Value} {k : Nat} {r : Value}, lentAt ms vs k = some r → ∃ o, ms[k]? = some (.obj o) ∧ vs[k]? = some r
  | [], vs, k, r, h => by simp [lentAt] at h
  | .rd a :: ms, [], k, r, h => by cases k <;> simp [lentAt] at h
  | .obj a :: ms, [], k, r, h => by cases k <;> simp [lentAt] at h
  | .rd a :: ms, v :: vs, k, r, h => by
    cases k with
    | zero => simp [lentAt] at h
    | succ k => simpa using lentAt_obj (by simpa [lentAt] using h)
  | .obj a :: ms, v :: vs, k, r, h => by
    cases k with
    | zero => simp only [lentAt, Option.some.injEq] at h; subst h; exact ⟨a, rfl, rfl⟩
    | succ k => simpa using lentAt_obj (by simpa [lentAt] using h)

theorem initO_lk : ∀ (ms : List MA) (c j : Nat), lkO (initO c ms) j = (match ms[j - c]? with | some (.obj o) => if c ≤ j then o else .unborn | _ => .unborn)
  | [], c, j => by simp [initO, lkO]
  | .rd a :: ms, c, j => by
    simp only [initO]
    rw [initO_lk ms (c + 1) j]
    rcases Nat.lt_or_ge c j with hlt | hge
    · have e : j - c = (j - (c + 1)) + 1 := by omega
      rw [e, List.getElem?_cons_succ]
      cases ms[j - (c + 1)]? with
      | none => rfl
      | some m => cases m with
        | rd _ => rfl
        | obj o => simp only; rw [if_pos (by omega), if_pos (by omega)]
    · have e : j - c = 0 := by omega
      rw [e]
      simp only [List.getElem?_cons_zero]
      cases ms[j - (c + 1)]? with
      | none => rfl
      | some m => cases m with
        | rd _ => rfl
        | obj o => simp only; rw [if_neg (by omega)]
  | .obj a :: ms, c, j => by
    simp only [initO, lkO]
    cases hb : Nat.beq j c with
    | true =>
      have := Nat.eq_of_beq_eq_true hb
      subst this
      simp
    | false =>
      have hne : j ≠ c := fun e => by rw [e, Nat.beq_refl] at hb; cases hb
      simp only [cond_false]
      rw [initO_lk ms (c + 1) j]
      rcases Nat.lt_or_ge c j with hlt | hge
      · have e : j - c = (j - (c + 1)) + 1 := by omega
        rw [e, List.getElem?_cons_succ]
        cases ms[j - (c + 1)]? with
        | none => rfl
        | some m => cases m with
          | rd _ => rfl
          | obj o => simp only; rw [if_pos (by omega), if_pos (by omega)]
      · have e : j - c = 0 := by omega
        rw [e]
        simp only [List.getElem?_cons_zero]
        rw [if_neg (by omega)]
        cases ms[j - (c + 1)]? with
        | none => rfl
        | some m => cases m with
          | rd _ => rfl
          | obj o => simp only; rw [if_neg (by omega)]

theorem initI_mem : ∀ {ms : List MA} {c k : Nat} {o : AObj}, ms[k]? = some (.obj o) → c + k ∈ initI c ms
  | [], c, k, o, h => by simp at h
  | .rd a :: ms, c, k, o, h => by
    cases k with
    | zero => simp at h
    | succ k =>
      simp only [initI]
      have := initI_mem (c := c + 1) (k := k) (ms := ms) (o := o) (by simpa using h)
      rwa [show c + (k + 1) = c + 1 + k by omega]
  | .obj a :: ms, c, k, o, h => by
    simp only [initI]
    cases k with
    | zero => exact List.mem_cons_self
    | succ k =>
      have := initI_mem (c := c + 1) (k := k) (ms := ms) (o := o) (by simpa using h)
      rw [show c + (k + 1) = c + 1 + k by omega]
      exact List.mem_cons_of_mem _ this

variable {G : Nat → Value} {objs : Nat → AObj}

/-- Cells from c on: their objects stand at their numbers. -/
def At0 (G : Nat → Value) (objs : Nat → AObj) (c : Nat) (ms : List MA) (vs : List Value) : Prop :=
  ∀ k o v, ms[k]? = some (.obj o) → vs[k]? = some v → objs (c + k) = o ∧ G (c + k) = v

theorem At0.tail {c : Nat} {m : MA} {v : Value} {ms : List MA} {vs : List Value} (h : At0 G objs c (m :: ms) (v :: vs)) : At0 G objs (c + 1) ms vs := by
  intro k o u hk hu
  have := h (k + 1) o u (by simpa using hk) (by simpa using hu)
  rwa [show c + (k + 1) = c + 1 + k by omega] at this

theorem At0.drop {c n : Nat} {ms : List MA} {vs : List Value} (h : At0 G objs c ms vs) : At0 G objs (c + n) (ms.drop n) (vs.drop n) := by
  intro k o u hk hu
  have := h (n + k) o u (by simpa [List.getElem?_drop] using hk) (by simpa [List.getElem?_drop] using hu)
  rwa [show c + (n + k) = c + n + k by omega] at this

theorem At0.take {c n : Nat} {ms : List MA} {vs : List Value} (h : At0 G objs c ms vs) : At0 G objs c (ms.take n) (vs.take n) := by
  intro k o u hk hu
  rw [List.getElem?_take] at hk hu
  split at hk
  · rw [if_pos ‹_›] at hu; exact h k o u hk hu
  · cases hk

theorem mAV_ok {c : Nat} {m : MA} {v : Value} {ms : List MA} {vs : List Value} (hat : At0 G objs c (m :: ms) (v :: vs)) (hm : MCells w lim [m] [v]) : AVok w lim G objs (mAV c m) v := by
  cases m with
  | rd a =>
    simp only [MCells] at hm
    obtain ⟨v', r, e, h1, _⟩ := hm
    injection e with e
    subst e
    simp only [mAV, AVok]
    exact h1
  | obj o =>
    simp only [MCells] at hm
    obtain ⟨v', r, e, ⟨h1, h2⟩, _⟩ := hm
    injection e with e
    subst e
    obtain ⟨k1, k2⟩ := hat 0 o v rfl rfl
    simp only [Nat.add_zero] at k1 k2
    cases o with
    | arr e t xs =>
      simp only [mAV, AVok, k1, k2]
      exact ⟨rfl, fun _ => trivial⟩
    | box T cs =>
      simp only [mAV, AVok, k1, k2]
      simp only [ObjOK] at h2
      obtain ⟨g, arr, e1, _⟩ := h2
      exact ⟨rfl, fun _ => ⟨g, by rw [e1]; rfl, e1⟩⟩
    | _ => cases h1

theorem MCells.one {m : MA} {ms : List MA} {v : Value} {vs : List Value} (h : MCells w lim (m :: ms) (v :: vs)) : MCells w lim [m] [v] ∧ MCells w lim ms vs := by
  cases m with
  | rd a =>
    simp only [MCells] at h ⊢
    obtain ⟨v', r, e, h1, h2⟩ := h
    injection e with e1 e2
    subst e1; subst e2
    exact ⟨⟨v, [], rfl, h1, rfl⟩, h2⟩
  | obj o =>
    simp only [MCells] at h ⊢
    obtain ⟨v', r, e, h1, h2⟩ := h
    injection e with e1 e2
    subst e1; subst e2
    exact ⟨⟨v, [], rfl, h1, rfl⟩, h2⟩

theorem mAVs_ok : ∀ {ms : List MA} {vs : List Value} {c : Nat}, At0 G objs c ms vs → MCells w lim ms vs → AVsOk w lim G objs (mAVs c ms) vs
  | [], vs, c, _, h => by simp only [MCells] at h; subst h; simp only [mAVs, AVsOk]
  | m :: ms, vs, c, hat, h => by
    cases vs with
    | nil => have := h.len; simp at this
    | cons v vs =>
      obtain ⟨h1, h2⟩ := h.one
      simp only [mAVs, AVsOk]
      exact ⟨v, vs, rfl, mAV_ok hat h1, mAVs_ok hat.tail h2⟩

theorem initM_ok : ∀ {s : List (Option Nat)} {ms : List MA} {vs : List Value} {k c : Nat}, shOK s ms.length → At0 G objs c ms vs → MCells w lim ms vs → ∀ t, AVok w lim G objs (lkT (initM k c s ms) t) (if k ≤ t then (pack s vs).getD (t - k) undef else undef)
  | [], ms, vs, k, c, _, _, _, t => by simp only [initM, lkT, AVok]
  | none :: s, [], vs, k, c, _, _, _, t => by simp only [initM, lkT, AVok]
  | none :: s, m :: ms, vs, k, c, hs, hat, h, t => by
    cases vs with
    | nil => have := h.len; simp at this
    | cons v vs =>
      obtain ⟨h1, h2⟩ := h.one
      obtain ⟨n, e, hs⟩ := hs
      have hs' : shOK s ms.length := by simp only [List.length_cons] at e; have : ms.length = n := by omega
                                        rw [this]; exact hs
      simp only [initM, lkT, pack, List.headD_cons, List.drop_succ_cons, List.drop_zero]
      cases hb : Nat.beq t k with
      | true =>
        have := Nat.eq_of_beq_eq_true hb
        subst this
        simp only [cond_true, Nat.le_refl, if_true, Nat.sub_self, List.getD_cons_zero]
        exact mAV_ok hat h1
      | false =>
        have hne : t ≠ k := fun e => by rw [e, Nat.beq_refl] at hb; cases hb
        simp only [cond_false]
        have ih := initM_ok (s := s) (k := k + 1) (c := c + 1) hs' hat.tail h2 t
        rcases Nat.lt_or_ge k t with hlt | hge
        · rw [if_pos (by omega)] at ih ⊢
          rw [show t - k = (t - (k + 1)) + 1 by omega, List.getD_cons_succ]
          exact ih
        · rw [if_neg (by omega)] at ih ⊢
          exact ih
  | some n :: s, ms, vs, k, c, hs, hat, h, t => by
    simp only [initM, lkT, pack]
    cases hb : Nat.beq t k with
    | true =>
      have := Nat.eq_of_beq_eq_true hb
      subst this
      simp only [cond_true, Nat.le_refl, if_true, Nat.sub_self, List.getD_cons_zero, AVok]
      exact ⟨_, rfl, mAVs_ok hat.take (h.take n)⟩
    | false =>
      have hne : t ≠ k := fun e => by rw [e, Nat.beq_refl] at hb; cases hb
      simp only [cond_false]
      have ih := initM_ok (s := s) (k := k + 1) (c := c + n) (by rw [List.length_drop]; exact hs.2) hat.drop (h.drop n) t
      rcases Nat.lt_or_ge k t with hlt | hge
      · rw [if_pos (by omega)] at ih ⊢
        rw [show t - k = (t - (k + 1)) + 1 by omega, List.getD_cons_succ]
        exact ih
      · rw [if_neg (by omega)] at ih ⊢
        exact ih

theorem pack_len : ∀ (s : List (Option Nat)) (vs : List Value), (pack s vs).length = s.length
  | [], _ => rfl
  | none :: s, vs => by simp only [pack, List.length_cons, pack_len s]
  | some n :: s, vs => by simp only [pack, List.length_cons, pack_len s]

/-- What lies in the lent cells at the end. -/
def outsAt (objs : Nat → AObj) : Nat → List MA → List AObj → Prop
  | _, [], outs => outs = []
  | c, .rd _ :: ms, outs => outsAt objs (c + 1) ms outs
  | c, .obj _ :: ms, o :: r => (objs c = o ∧ o.clo = true) ∧ outsAt objs (c + 1) ms r
  | _, .obj _ :: _, [] => False

theorem outsAt_ok {w' : World} {lim' : Nat → Nat} (ho : ∀ id, ObjOK w' lim' G objs 0 (G id) (objs id)) : ∀ {ms : List MA} {vs : List Value} {c : Nat} {outs : List AObj}, vs.length = ms.length → (∀ k r, lentAt ms vs k = some r → G (c + k) = r) → outsAt objs c ms outs → OutsOK w' lim' ms vs outs
  | [], vs, c, outs, _, _, h => by simp only [outsAt] at h; simp only [OutsOK]; exact h
  | .rd a :: ms, [], c, outs, hl, _, h => by simp at hl
  | .obj a :: ms, [], c, outs, hl, _, h => by simp at hl
  | .rd a :: ms, v :: vs, c, outs, hl, hg, h => by
    simp only [outsAt] at h
    simp only [OutsOK]
    exact outsAt_ok ho (by simpa using hl) (fun k r hk => by have := hg (k + 1) r (by simpa [lentAt] using hk); rwa [show c + (k + 1) = c + 1 + k by omega] at this) h
  | .obj a :: ms, v :: vs, c, [], hl, hg, h => h.elim
  | .obj a :: ms, v :: vs, c, o :: r, hl, hg, h => by
    obtain ⟨⟨h1, h2⟩, h3⟩ := h
    simp only [OutsOK]
    refine ⟨o, r, rfl, ?_, outsAt_ok ho (by simpa using hl) (fun k q hk => by have := hg (k + 1) q (by simpa [lentAt] using hk); rwa [show c + (k + 1) = c + 1 + k by omega] at this) h3⟩
    have e := hg 0 v (by simp [lentAt])
    simp only [Nat.add_zero] at e
    have := ho c
    rw [e, h1] at this
    exact ObjOK.clo h2 this

theorem outsAt_live : ∀ {ms : List MA} {c : Nat} {outs : List AObj}, outsAt objs c ms outs → ∀ k o, ms[k]? = some (.obj o) → (objs (c + k)).live = true
  | [], c, outs, _, k, o, hk => by simp at hk
  | .rd a :: ms, c, outs, h, k, o, hk => by
    cases k with
    | zero => simp at hk
    | succ k => have := outsAt_live (ms := ms) h k o (by simpa using hk); rwa [show c + (k + 1) = c + 1 + k by omega]
  | .obj a :: ms, c, [], h, k, o, hk => h.elim
  | .obj a :: ms, c, q :: r, h, k, o, hk => by
    obtain ⟨⟨h1, h2⟩, h3⟩ := h
    cases k with
    | zero => rw [Nat.add_zero, h1]; exact AObj.clo_live h2
    | succ k => have := outsAt_live (ms := ms) h3 k o (by simpa using hk); rwa [show c + (k + 1) = c + 1 + k by omega]

end

/-- What is asked at the end of a function to which something is lent. -/
def RetQM (P : Program) (tb : Tb) (rs : List ResultVar) (n : Nat) (ms : List MA) (rv : RV) (outs : List AObj) (σ : St) : Prop :=
  resAll P tb σ rs ∧ (∃ ids, ids.Nodup ∧ (∀ i, i ∈ ids → n ≤ i) ∧ RVle σ.objs (oneOf (resL tb σ rs)) rv ids) ∧ outsAt σ.objs 0 ms outs

theorem fun_ofTM {P : Program} {tb : Tb} {f : FuncId} {fn : Func} {c : Code} {s : List (Option Nat)} {ms : List MA} {rv : RV} {outs : List AObj} (hf : P.funcs[f]? = some fn) (hn : (fn.name == "runtime.NumGoroutine") = false) (hb : fn.body = some c)
    (hs : shOK s ms.length) (hl : s.length ≤ fn.ntmps)
    (h : ∀ cx : Cx, cx.is fn.ntmps (initI 0 ms) → WFm ms → T P cx c (finQ (RetQM P tb fn.results.toList ms.length ms rv outs)) (shp (initM 0 0 s ms) (initO 0 ms))) : MutOK P f s ms rv outs := by
  refine ⟨⟨fn, hf, hn, by rw [hb]; rfl⟩, fun w lim vs hargs hsep => ?_⟩
  let cx : Cx := ⟨w.heap.size, w, lim, fn.ntmps, lentAt ms vs, fun _ => False⟩
  let G : Nat → Value := fun k => (lentAt ms vs k).getD .nilFunc
  have hpl := pack_len s vs
  have hgo : ∀ k o v, ms[k]? = some (.obj o) → vs[k]? = some v → lkO (initO 0 ms) k = o ∧ G k = v := by
    intro k o v hk hv
    obtain ⟨v', h1, h2, _⟩ := hargs.objAt k o hk
    rw [h1] at hv
    injection hv with hv
    subst hv
    refine ⟨?_, by show (lentAt ms vs k).getD _ = _; rw [h2]; rfl⟩
    rw [initO_lk, Nat.sub_zero, hk]
    simp
  have hobj : ∀ j, (lkO (initO 0 ms) j).live = true → ∃ o r, ms[j]? = some (.obj o) ∧ lentAt ms vs j = some r ∧ G j = r ∧ lkO (initO 0 ms) j = o ∧ o.clo = true ∧ ObjOK w lim noG noO 0 r o := by
    intro j hj
    rw [initO_lk, Nat.sub_zero] at hj
    cases hm : ms[j]? with
    | none => rw [hm] at hj; cases hj
    | some m =>
      cases m with
      | rd a => rw [hm] at hj; cases hj
      | obj o =>
        obtain ⟨v, h1, h2, h3, h4⟩ := hargs.objAt j o hm
        have := hgo j o v hm h1
        exact ⟨o, v, rfl, h2, this.2, this.1, h3, h4⟩
  refine calls_of_wp hf hb ?_
  have hs0 : Sat cx (shp (initM 0 0 s ms) (initO 0 ms)) { tmps := (pack s vs).toArray ++ Array.replicate (fn.ntmps - (pack s vs).toArray.size) undef, defers := [] } w := by
    refine ⟨lim, G, ⟨rfl, BelowL.refl _ _ _, fun _ _ _ => rfl, fun id => ?_, fun i j g hij hi hj hg hg' => ?_, fun i g hi hg => ?_, fun j r hr => ?_⟩, ?_, rfl, fun t => ?_, fun p hp => hp.elim⟩
    · show ObjOK w lim G (lkO (initO 0 ms)) 0 (G id) (lkO (initO 0 ms) id)
      cases hlv : (lkO (initO 0 ms) id).live with
      | true =>
        obtain ⟨o, r, h1, h2, h3, h4, h5, h6⟩ := hobj id hlv
        rw [h3, h4]
        exact ObjOK.clo h5 h6
      | false =>
        cases ho : lkO (initO 0 ms) id <;> rw [ho] at hlv <;> first | (simp only [ObjOK]; done) | cases hlv
    · obtain ⟨_, r, _, h2, h3, _⟩ := hobj i hi
      obtain ⟨_, q, _, k2, k3, _⟩ := hobj j hj
      rw [h3] at hg
      rw [k3] at hg'
      exact hsep i j r q g hij h2 k2 hg hg'
    · obtain ⟨_, r, _, h2, h3, _⟩ := hobj i hi
      rw [h3] at hg
      exact .inr ⟨i, r, h2, hg⟩
    · obtain ⟨o, h1, h2⟩ := lentAt_obj hr
      obtain ⟨k1, k2⟩ := hgo j o r h1 h2
      obtain ⟨_, _, _, h5, _⟩ := hargs.objAt j o h1
      exact ⟨by show (lkO (initO 0 ms) j).born = true; rw [k1]; exact AObj.born_of_live (AObj.clo_live h5), k2⟩
    · show ((pack s vs).toArray ++ Array.replicate (fn.ntmps - (pack s vs).toArray.size) undef).size = fn.ntmps
      simp [hpl]; omega
    · have := initM_ok (w := w) (lim := lim) (G := G) (objs := lkO (initO 0 ms)) (k := 0) (c := 0) hs (fun k o v hk hv => by rw [Nat.zero_add]; exact hgo k o v hk hv) hargs t
      simp only [Nat.zero_le, if_true, Nat.sub_zero] at this
      show AVok w lim G (lkO (initO 0 ms)) (lkT (initM 0 0 s ms) t) _
      rcases Nat.lt_or_ge t (pack s vs).length with ht | ht
      · have e : ((pack s vs).toArray ++ Array.replicate (fn.ntmps - (pack s vs).toArray.size) undef).getD t undef = (pack s vs).getD t undef := by
          simp [Array.getD_eq_getD_getElem?, Array.getElem?_append, ht, List.getD_eq_getElem?_getD]
        rw [e]; exact this
      · have e : ((pack s vs).toArray ++ Array.replicate (fn.ntmps - (pack s vs).toArray.size) undef).getD t undef = undef := by
          simp only [Array.getD_eq_getD_getElem?, Array.getElem?_append, List.size_toArray, if_neg (Nat.not_lt.2 ht), Array.getElem?_replicate]
          split <;> rfl
        rw [e]
        rw [List.getD_eq_getElem?_getD, List.getElem?_eq_none ht] at this
        exact this
  have hT := h cx ⟨rfl, (fun j r hr => by
    obtain ⟨o, h1, _⟩ := lentAt_obj hr
    have := initI_mem (c := 0) h1
    rwa [Nat.zero_add] at this), fun p hp => hp⟩ hargs.wf _ w hs0
  refine wp_mono hT fun e a' w' hq => ?_
  obtain ⟨σ', h1, lim', G', hh, hfr⟩ := hq
  have fin : RetQM P tb fn.results.toList ms.length ms rv outs σ' → a'.defers = [] ∧ ∃ v, (results fn a'.tmps).run P w' = .ok v w' ∧ ∃ v0 lim' fp, Ending.returned v = .returned v0 ∧ BelowL (lentB ms vs) w.heap.size w w' ∧ (∀ b, b < w.heap.size → ¬ lentB ms vs b → lim' b = lim b) ∧ RVok w' lim' w.heap.size rv v0 fp ∧ fp.Nodup ∧ OutsOK w' lim' ms vs outs := by
    rintro ⟨q1, ⟨ids, q2, q3, q4⟩, q5⟩
    obtain ⟨v, r1, r2⟩ := results_ok hh hfr q1
    have hnl : ∀ i g, i ∈ ids → (σ'.objs i).live = true → blk (G' i) = some g → w.heap.size ≤ g := by
      intro i g hi hl hg
      rcases hh.mine i g hl hg with h | ⟨j, r, h2, h3⟩
      · exact h
      · exfalso
        have hj := hh.lent j r h2
        obtain ⟨o, k1, k2⟩ := lentAt_obj h2
        have hjl := outsAt_live q5 j o k1
        rw [Nat.zero_add] at hjl
        have hlt : j < ms.length := (List.getElem?_eq_some_iff.1 k1).1
        have := q3 i hi
        exact hh.sep i j g (by omega) hl hjl hg (by rw [hj.2]; exact h3)
    obtain ⟨k1, k2⟩ := RVle_ok (B := w.heap.size) hh.obj rv _ v ids hnl q4 r2
    refine ⟨hfr.defers, v, r1, v, lim', _, rfl, hh.below, hh.lim0, k1, ?_, outsAt_ok hh.obj hargs.len (fun k r hr => by rw [Nat.zero_add]; exact (hh.lent k r hr).2) q5⟩
    have nd : ∀ l : List Nat, l.Nodup → (∀ i, i ∈ l → (σ'.objs i).live = true) → (l.flatMap fun i => (blk (G' i)).toList).Nodup := by
      intro l
      induction l with
      | nil => intro _ _; exact List.nodup_nil
      | cons i l ih =>
        intro hnd hlv
        rw [List.nodup_cons] at hnd
        rw [List.flatMap_cons, List.nodup_append]
        refine ⟨by cases blk (G' i) <;> simp, ih hnd.2 fun j hj => hlv j (by simp [hj]), fun x hx y hy hxy => ?_⟩
        subst hxy
        have hx' : blk (G' i) = some x := by simpa using hx
        rw [List.mem_flatMap] at hy
        obtain ⟨j, hj, hy⟩ := hy
        have hy' : blk (G' j) = some x := by simpa using hy
        have hij : i ≠ j := by rintro rfl; exact hnd.1 hj
        exact hh.sep i j x hij (hlv i (by simp)) (hlv j (by simp [hj])) hx' hy'
    exact nd ids q2 k2
  cases e with
  | normal => exact fin h1
  | ret => exact fin h1
  | _ => exact h1.elim

end Go.AL
