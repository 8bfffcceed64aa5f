/- append and calls on abstract frames, each with its soundness. A general part, over any program. -/
import Derived.Test.YtcbecpjhgfkofaaAL10
set_option linter.unusedSimpArgs false
set_option linter.unusedVariables false
namespace Go.AL
open Go.RowKit

theorem list_cells {w : World} {lim : Nat → Nat} {t : Ty} {A : Option Addr} : ∀ {ys : List t.den}, (∀ i (h : i < ys.length), ∃ a ds, A = some a ∧ At w lim (a.add (i * t.size)) ds ∧ ds.length = t.size ∧ Rd w lim t ds ys[i]) →
    ∀ k, k ≤ ys.length → ∃ news : List Value, news.length = k * t.size ∧ (∀ a, A = some a → ∀ j u, news[j]? = some u → w.cell? (a.add j) = some u) ∧ (∀ u ∈ news, u.oneCell' = true) ∧
      ∀ i (h : i < ys.length), i < k → Rd w lim t ((news.drop (i * t.size)).take t.size) ys[i] := by
  intro ys h k
  induction k with
  | zero => intro _; exact ⟨[], by simp, by simp, by simp, fun i _ hi => absurd hi (by omega)⟩
  | succ k ih =>
    intro hk
    obtain ⟨news, e1, e2, e3, e4⟩ := ih (by omega)
    obtain ⟨a, ds, a1, a2, a3, a4⟩ := h k (by omega)
    have hs : (k + 1) * t.size = k * t.size + t.size := Nat.succ_mul _ _
    refine ⟨news ++ ds, by rw [List.length_append, e1, a3, hs], ?_, ?_, ?_⟩
    · intro a' ha' j u hu
      rcases Nat.lt_or_ge j news.length with hj | hj
      · rw [List.getElem?_append_left hj] at hu
        exact e2 a' ha' j u hu
      · rw [List.getElem?_append_right hj] at hu
        rw [a1] at ha'
        injection ha' with ha'
        subst ha'
        have := (a2 _ u hu).1
        rw [add_add', e1] at this
        rwa [show k * t.size + (j - k * t.size) = j by omega] at this
    · intro u hu
      rcases List.mem_append.1 hu with hu | hu
      · exact e3 u hu
      · exact a4.one u hu
    · intro i hi hik
      rcases Nat.lt_or_ge i k with hlt | hge
      · have hin : i * t.size + t.size ≤ news.length := by
          rw [e1, ← Nat.succ_mul]; exact Nat.mul_le_mul_right _ hlt
        have : ((news ++ ds).drop (i * t.size)).take t.size = (news.drop (i * t.size)).take t.size := by
          rw [List.drop_append_of_le_length (by omega), List.take_append_of_le_length (by rw [List.length_drop]; omega)]
        rw [this]
        exact e4 i hi hlt
      · have : i = k := by omega
        subst this
        have : ((news ++ ds).drop (i * t.size)).take t.size = ds := by
          rw [List.drop_append, List.drop_of_length_le (by omega), e1, Nat.sub_self, List.drop_zero, List.nil_append, List.take_of_length_le (by omega)]
        rw [this]
        exact a4

section
variable {P : Program} {cx : Cx} {σ : St} {o : Oper} (hd : ∀ k, o.dst = some k → k < cx.N)

theorem RowOK.blk_own {w : World} {lim : Nat → Nat} {B : Nat} {e : TypeId} {t : Ty} {xs : List t.den} {v : Value} {n : Nat} {vs : List Value} (h : w.ownsRow B e t.size v n vs) : blk v = v.ownBlock := by
  rcases h.2 with ⟨h, _⟩ | ⟨g, cap, cur, h, _⟩ <;> rw [h] <;> rfl

theorem own_blk {w : World} {B : Nat} {e : TypeId} {size : Nat} {v : Value} {n : Nat} {vs : List Value} (h : w.ownsRow B e size v n vs) : blk v = v.ownBlock := by
  rcases h.2 with ⟨h, _⟩ | ⟨g, cap, cur, h, _⟩ <;> rw [h] <;> rfl

/-- The heart of an append: the world and what is settled in it, before and behind. -/
theorem app_step {w : World} {lim : Nat → Nat} {B : Nat} {e T ty : TypeId} {t : Ty} (hT : TyOK P (.list t) T) (he : ElOK P T e) {xs ys : List t.den} {root x : Value} (hrow : RowOK w lim B e t xs root)
    (hlim : ∀ g, blk root = some g → lim g = xs.length * t.size) (hx : RdV w lim (.list t) x ys) (hb : xs.length + ys.length ≤ 274877906944) (hB : B ≤ w.heap.size) :
    ∃ v' w' lim', (Builtin.append_ #[T, T] ty #[root, x]).run P w = .ok v' w' ∧ Keeps w lim w' lim' ∧ RowOK w' lim' B e t (xs ++ ys) v' ∧ (∀ g, blk v' = some g → lim' g = (xs ++ ys).length * t.size) ∧
      Below B w w' ∧ (∀ g, g < w.heap.size → blk root ≠ some g → w'.heap[g]? = w.heap[g]? ∧ lim' g = lim g) ∧ (blk v' = blk root ∨ blk v' = some w.heap.size) := by
  obtain ⟨vs, hown, hpos, hrd⟩ := hrow
  obtain ⟨A, cap, x1, x2, x3, x4⟩ := hx.list
  subst x1
  obtain ⟨news, n1, n2, n3, n4⟩ := list_cells x4 ys.length (Nat.le_refl _)
  obtain ⟨v', w', r1, r2, r3⟩ := run_app w B T ty e t hT he root xs.length vs hown A ys.length cap news n1 (fun hA => by
    rcases Nat.eq_zero_or_pos ys.length with h0 | h0
    · exact h0
    · obtain ⟨a, _, ha, _⟩ := x4 0 h0
      rw [hA] at ha; cases ha) n2 n3 hb hB
  have b1 := own_blk hown
  have b2 := own_blk r2
  have hvl : vs.length = xs.length * t.size := hown.1
  have hk : Keeps w lim w' (fun b => if v'.ownBlock = some b then (xs ++ ys).length * t.size else lim b) := by
    refine ⟨fun a u hc hlt => ?_, fun b hbl => ?_⟩
    · have hbl := World.block_lt_of_cell? _ _ hc
      rcases r3 with ⟨k1, k2⟩ | ⟨k1, k2⟩
      · by_cases hr : root.ownBlock = some a.block
        · have hl := hlim _ (b1.trans hr)
          rw [hl, ← hvl] at hlt
          have ea : (⟨a.block, 0, none⟩ : Addr).add a.off = ⟨a.block, a.off, none⟩ := by unfold Addr.add; split <;> simp_all
          have hsp : a = ⟨a.block, a.off, none⟩ := by
            cases a with
            | mk b o s =>
              cases s with
              | none => rfl
              | some s =>
                unfold World.cell? at hc
                split at hc
                · simp at hc
                · cases hc
          have c1 := hown.cells hr a.off _ (List.getElem?_eq_getElem hlt)
          rw [ea, ← hsp, hc] at c1
          injection c1 with c1
          have c2 := r2.cells (k1.trans hr) a.off u (by rw [List.getElem?_append_left hlt, List.getElem?_eq_getElem hlt, c1])
          rwa [ea, ← hsp] at c2
        · rw [World.cell?_of_block (w := w) (k2.block a.block hbl (fun e => hr e.symm))]; exact hc
      · rw [World.cell?_of_block (w := w) (k2.block a.block hbl (by simp))]; exact hc
    · show lim b ≤ (if v'.ownBlock = some b then (xs ++ ys).length * t.size else lim b)
      split
      · rename_i hb'
        rcases r3 with ⟨k1, _⟩ | ⟨k1, _⟩
        · rw [hlim b (b1.trans (k1.symm.trans hb')), List.length_append]
          exact Nat.mul_le_mul_right _ (by omega)
        · rw [k1] at hb'
          injection hb' with hb'
          omega
      · exact Nat.le_refl _
  refine ⟨v', w', fun b => if v'.ownBlock = some b then (xs ++ ys).length * t.size else lim b, r1, hk, ?_, ?_, ?_, ?_, ?_⟩
  · refine ⟨vs ++ news, by rw [List.length_append]; exact r2, hpos, fun i hi => ?_⟩
    rcases Nat.lt_or_ge i xs.length with hlt | hge
    · have hin : i * t.size + t.size ≤ vs.length := by
        rw [hvl, ← Nat.succ_mul]; exact Nat.mul_le_mul_right _ hlt
      have : ((vs ++ news).drop (i * t.size)).take t.size = (vs.drop (i * t.size)).take t.size := by
        rw [List.drop_append_of_le_length (by omega), List.take_append_of_le_length (by rw [List.length_drop]; omega)]
      rw [this]
      have hg : (xs ++ ys)[i] = xs[i] := List.getElem_append_left hlt
      rw [hg]
      exact (hrd i hlt).keeps hk
    · have hi' : i - xs.length < ys.length := by rw [List.length_append] at hi; omega
      have hs : i * t.size = xs.length * t.size + (i - xs.length) * t.size := by rw [← Nat.add_mul]; congr 1; omega
      have : ((vs ++ news).drop (i * t.size)).take t.size = (news.drop ((i - xs.length) * t.size)).take t.size := by
        rw [List.drop_append, List.drop_of_length_le (by omega), List.nil_append]
        congr 2
        omega
      rw [this]
      have hg : (xs ++ ys)[i] = ys[i - xs.length] := List.getElem_append_right hge
      rw [hg]
      exact (n4 _ hi' hi').keeps hk
  · intro g hg
    rw [b2] at hg
    show (if v'.ownBlock = some g then _ else _) = _
    rw [if_pos hg]
  · have f : ∀ row : Option Nat, w.grownBy w' row → (∀ g, row = some g → B ≤ g) → Below B w w' := fun row k hr => (Below.refl B w).grown k hB hr
    rcases r3 with ⟨k1, k2⟩ | ⟨_, k2⟩
    · exact f _ k2 fun g hg => (hown.lt g hg).1
    · exact f _ k2 fun g hg => by cases hg
  · intro g hg hne
    have h1 : w'.heap[g]? = w.heap[g]? := by
      rcases r3 with ⟨k1, k2⟩ | ⟨_, k2⟩
      · exact k2.block g hg (fun e => hne (b1.trans e.symm))
      · exact k2.block g hg (by simp)
    refine ⟨h1, ?_⟩
    show (if v'.ownBlock = some g then _ else _) = _
    rw [if_neg]
    intro hv
    rcases r3 with ⟨k1, _⟩ | ⟨k1, _⟩
    · exact hne (b1.trans (k1.symm.trans hv))
    · rw [k1] at hv; injection hv with hv; omega
  · rw [b1, b2]
    rcases r3 with ⟨k1, _⟩ | ⟨k1, _⟩
    · exact .inl k1
    · exact .inr k1

include hd

theorem op_app {T e : TypeId} {t : Ty} {s x : Operand} {id0 id : Nat} {xs : List t.den} (ho : o.op = .call { callee := .builtin .append, args := #[s, x], argTypes := #[T, T] }) (hT : TyOK P (.list t) T) (he : ElOK P T e)
    (hc : σ.uc s) (hs : σ.un s = .own id0) (hr : σ.objs id0 = .row e t xs) (hx : σ.tc (.list t) x) (hu : σ.objs id = .unborn) (hb : xs.length + (σ.tv (.list t) x).length ≤ 274877906944) :
    OpOK P cx σ o ⟨.own id, [(id0, .dead), (id, .row e t (xs ++ σ.tv (.list t) x))]⟩ := by
  intro a w K Q hsat hK
  obtain ⟨lim, G, hh, hf⟩ := hsat
  have h1 := un_ok hf s hc
  rw [hs] at h1
  simp only [AVok, hr] at h1
  have h1 := h1.2 rfl
  have h2 := tc_ok hh hf hx
  have h3 := hh.obj id0
  rw [hr] at h3
  simp only [ObjOK] at h3
  obtain ⟨v', w', lim', k1, k2, k3, k4, k5, k6, k7⟩ := app_step (ty := o.type) hT he h3.1 h3.2 h2 hb (Nat.zero_le _)
  have hrun : (execOp a.eval o).run P w = .ok (.value v') w' := by
    simp only [execOp, ho, resolve, invoke, builtin, Sem.run_bind, Sem.run_pure, Result.andThen_ok, List.map_toArray, List.map_cons, List.map_nil, h1, k1]
  unfold Oper.wp
  rw [hrun]
  refine hK _ _ ?_
  have hne : id ≠ id0 := by rintro rfl; rw [hr] at hu; cases hu
  have hkill := hh.kill id0
  have hu' : (upd σ.objs id0 .dead) id = .unborn := by rw [upd_ne _ _ _ _ hne]; exact hu
  have hlive0 : (σ.objs id0).live = true := by rw [hr]; rfl
  have hnot : ∀ b, b < cx.B → ¬ cx.L b → blk (G id0) ≠ some b := fun b hlt hL hg => by
    rcases hh.mine id0 b hlive0 hg with h | h
    · omega
    · exact hL h
  have hbl : BelowL cx.L cx.B w w' := ⟨k5.os, k5.tape, k5.output, k5.size, fun b hlt hL => (k6 b (Nat.lt_of_lt_of_le hlt hh.B_le) (hnot b hlt hL)).1⟩
  have hold : ∀ i g, ((upd σ.objs id0 .dead) i).live = true → blk (G i) = some g → w'.heap[g]? = w.heap[g]? ∧ lim' g = lim g := by
    intro i g hl hg
    have hi : i ≠ id0 := by rintro rfl; rw [upd_same] at hl; cases hl
    rw [upd_ne _ _ _ _ hi] at hl
    refine k6 g ((hh.obj i).block_ge hl g hg).2 fun hg0 => hh.sep i id0 g hi hl hlive0 hg hg0
  have hnew := hkill.new hu' (r := v') (o := .row e t (xs ++ σ.tv (.list t) x)) (hh.below.trans hbl) k2 hold
    (fun b hlt hL => (k6 b (Nat.lt_of_lt_of_le hlt hh.B_le) (hnot b hlt hL)).2)
    (fun i g hl hg hv => by
      have hi : i ≠ id0 := by rintro rfl; rw [upd_same] at hl; cases hl
      rw [upd_ne _ _ _ _ hi] at hl
      have hlt := ((hh.obj i).block_ge hl g hg).2
      rcases k7 with k7 | k7
      · rw [k7] at hv; exact hh.sep i id0 g hi hl hlive0 hg hv
      · rw [k7] at hv; injection hv with hv; omega)
    (fun g hg => by
      rcases k7 with k7 | k7
      · rw [k7] at hg; exact hh.mine id0 g hlive0 hg
      · rw [k7] at hg; injection hg with hg; exact .inl (by have := hh.B_le; omega))
    (by simp only [ObjOK]; exact ⟨k3, k4⟩)
  have hfr := (hf.keeps (Keeps.refl w lim) (Ext.kill id0)).keeps k2 (Ext.new hu' v' (.row e t (xs ++ σ.tv (.list t) x)))
  have e : σ.app o.dst ⟨.own id, [(id0, .dead), (id, .row e t (xs ++ σ.tv (.list t) x))]⟩ = ({ tmps := σ.tmps, objs := upd (upd σ.objs id0 .dead) id (.row e t (xs ++ σ.tv (.list t) x)) } : St).put o.dst (.own id) := by
    unfold St.app St.put
    cases o.dst <;> rfl
  rw [e]
  refine ⟨_, _, ?_, hfr.put hd (v := v') (by simp only [AVok, upd_same]; exact ⟨rfl, fun _ => trivial⟩)⟩
  rw [put_objs]
  exact hnew

theorem op_app_nil {T e : TypeId} {t : Ty} {s x : Operand} {id : Nat} (ho : o.op = .call { callee := .builtin .append, args := #[s, x], argTypes := #[T, T] }) (hT : TyOK P (.list t) T) (he : ElOK P T e)
    (hc : σ.uc s) (hs : σ.un s = .nils) (hx : σ.tc (.list t) x) (hu : σ.objs id = .unborn) (hb : (σ.tv (.list t) x).length ≤ 274877906944) :
    OpOK P cx σ o ⟨.own id, [(id, .row e t (σ.tv (.list t) x))]⟩ := by
  intro a w K Q hsat hK
  obtain ⟨lim, G, hh, hf⟩ := hsat
  have h1 := un_ok hf s hc
  rw [hs] at h1
  simp only [AVok] at h1
  have h2 := tc_ok hh hf hx
  obtain ⟨he2, hpos⟩ := hT.el he
  have hrow0 : RowOK w lim 0 e t [] (.slice none 0 0) := ⟨[], World.ownsRow_nil _ _ _ _, hpos, fun i h => absurd h (by simp)⟩
  obtain ⟨v', w', lim', k1, k2, k3, k4, k5, k6, k7⟩ := app_step (ty := o.type) hT he hrow0 (fun g hg => by cases hg) h2 (by simpa using hb) (Nat.zero_le _)
  simp only [List.nil_append] at k3 k4
  have hrun : (execOp a.eval o).run P w = .ok (.value v') w' := by
    simp only [execOp, ho, resolve, invoke, builtin, Sem.run_bind, Sem.run_pure, Result.andThen_ok, List.map_toArray, List.map_cons, List.map_nil, h1, k1]
  unfold Oper.wp
  rw [hrun]
  refine hK _ _ ?_
  have hold : ∀ i g, (σ.objs i).live = true → blk (G i) = some g → w'.heap[g]? = w.heap[g]? ∧ lim' g = lim g := fun i g hl hg =>
    k6 g ((hh.obj i).block_ge hl g hg).2 fun hg0 => by cases hg0
  have hbl : BelowL cx.L cx.B w w' := ⟨k5.os, k5.tape, k5.output, k5.size, fun b hlt _ => (k6 b (Nat.lt_of_lt_of_le hlt hh.B_le) fun hg0 => by cases hg0).1⟩
  have hnew := hh.new hu (r := v') (o := .row e t (σ.tv (.list t) x)) (hh.below.trans hbl) k2 hold (fun b hlt _ => (k6 b (Nat.lt_of_lt_of_le hlt hh.B_le) fun hg0 => by cases hg0).2)
    (fun i g hl hg hv => by
      have hlt := ((hh.obj i).block_ge hl g hg).2
      rcases k7 with k7 | k7
      · rw [k7] at hv; cases hv
      · rw [k7] at hv; injection hv with hv; omega)
    (fun g hg => by
      rcases k7 with k7 | k7
      · rw [k7] at hg; cases hg
      · rw [k7] at hg; injection hg with hg; exact .inl (by have := hh.B_le; omega))
    (by simp only [ObjOK]; exact ⟨k3, k4⟩)
  have hfr := hf.keeps k2 (Ext.new hu v' (.row e t (σ.tv (.list t) x)))
  have e : σ.app o.dst ⟨.own id, [(id, .row e t (σ.tv (.list t) x))]⟩ = ({ tmps := σ.tmps, objs := upd σ.objs id (.row e t (σ.tv (.list t) x)) } : St).put o.dst (.own id) := by
    unfold St.app St.put
    cases o.dst <;> rfl
  rw [e]
  refine ⟨_, _, ?_, hfr.put hd (v := v') (by simp only [AVok, upd_same]; exact ⟨rfl, fun _ => trivial⟩)⟩
  rw [put_objs]
  exact hnew

end
end Go.AL
