/- What a function answers, and calls. A general part, over any program. -/
import Derived.Test.YtcbecpjhgfkofaaAL11
set_option linter.unusedSimpArgs false
set_option linter.unusedVariables false
namespace Go.AL
open Go.RowKit

structure TV where
  t : Ty
  x : t.den

/-- What a call answers: something that reads, a new row of its own, structs and tuples of these. -/
inductive RV
  | rd (t : Ty) (x : t.den)
  | own (e : TypeId) (t : Ty) (xs : List t.den)
  | fresh (e : TypeId) (t : Ty) (xs : List t.den)
  | agg (rs : List RV)
  | tup (rs : List RV)
  deriving Inhabited

section
variable (w : World) (lim : Nat → Nat) (base : Nat)
mutual
def RVok : RV → Value → List Nat → Prop
  | .rd t x, v, fp => RdV w lim t v x ∧ fp = []
  | .own e t xs, v, fp => RowOK w lim base e t xs v ∧ (∀ g, blk v = some g → lim g = xs.length * t.size) ∧ fp = (blk v).toList
  | .fresh e t xs, v, fp => RowOK w lim base e t xs v ∧ (∀ g, blk v = some g → lim g = 0) ∧ fp = (blk v).toList
  | .agg rs, v, fp => ∃ vs : List Value, v = .agg vs.toArray ∧ RVsOk rs vs fp
  | .tup rs, v, fp => ∃ vs : List Value, v = .tuple vs.toArray ∧ RVsOk rs vs fp
def RVsOk : List RV → List Value → List Nat → Prop
  | [], vs, fp => vs = [] ∧ fp = []
  | r :: rs, vs, fp => ∃ v vr f1 f2, vs = v :: vr ∧ fp = f1 ++ f2 ∧ RVok r v f1 ∧ RVsOk rs vr f2
end
def ArgsOK : List TV → List Value → Prop
  | [], vs => vs = []
  | a :: as, vs => ∃ v r, vs = v :: r ∧ RdV w lim a.t v a.x ∧ ArgsOK as r
end

/-- The function f, called with values that read as args in whatever world, answers rv and turns nothing that was there. -/
def FunOK (P : Program) (f : FuncId) (args : List TV) (rv : RV) : Prop :=
  (∃ fn, P.funcs[f]? = some fn ∧ (fn.name == "runtime.NumGoroutine") = false ∧ fn.body.isNone = false) ∧
  ∀ (w : World) (lim : Nat → Nat) (vs : List Value), ArgsOK w lim args vs → Calls P f vs.toArray w fun e w' =>
    ∃ v lim' fp, e = .returned v ∧ Below w.heap.size w w' ∧ (∀ b, b < w.heap.size → lim' b = lim b) ∧ RVok w' lim' w.heap.size rv v fp ∧ fp.Nodup

mutual
def recvA (id : Nat) : RV → AV
  | .rd t x => .rd t x
  | .own _ _ _ => .own id
  | .fresh _ _ _ => .own id
  | .agg rs => .agg (recvAs id rs)
  | .tup rs => .tup (recvAs id rs)
def recvAs (id : Nat) : List RV → List AV
  | [] => []
  | r :: rs => recvA id r :: recvAs (id + rvN r) rs
def recvU (id : Nat) : RV → List (Nat × AObj)
  | .rd _ _ => []
  | .own e t xs => [(id, .row e t xs)]
  | .fresh e t xs => [(id, .arr e t xs)]
  | .agg rs => recvUs id rs
  | .tup rs => recvUs id rs
def recvUs (id : Nat) : List RV → List (Nat × AObj)
  | [] => []
  | r :: rs => recvU id r ++ recvUs (id + rvN r) rs
def rvN : RV → Nat
  | .rd _ _ => 0
  | .own _ _ _ => 1
  | .fresh _ _ _ => 1
  | .agg rs => rvNs rs
  | .tup rs => rvNs rs
def rvNs : List RV → Nat
  | [] => 0
  | r :: rs => rvN r + rvNs rs
end

theorem updAll_append (f : Nat → AObj) : ∀ a b : List (Nat × AObj), updAll f (a ++ b) = updAll (updAll f a) b
  | [], _ => rfl
  | u :: a, b => updAll_append (upd f u.1 u.2) a b

mutual
theorem recvU_out (id : Nat) : ∀ (rv : RV) (f : Nat → AObj) (j : Nat), j < id ∨ id + rvN rv ≤ j → updAll f (recvU id rv) j = f j
  | .rd _ _, f, j, _ => by simp only [recvU, updAll]
  | .own e t xs, f, j, h => by
    simp only [recvU, updAll, rvN] at h ⊢
    exact upd_ne _ _ _ _ (by omega)
  | .fresh e t xs, f, j, h => by
    simp only [recvU, updAll, rvN] at h ⊢
    exact upd_ne _ _ _ _ (by omega)
  | .agg rs, f, j, h => by simp only [recvU, rvN] at h ⊢; exact recvUs_out id rs f j h
  | .tup rs, f, j, h => by simp only [recvU, rvN] at h ⊢; exact recvUs_out id rs f j h
theorem recvUs_out (id : Nat) : ∀ (rs : List RV) (f : Nat → AObj) (j : Nat), j < id ∨ id + rvNs rs ≤ j → updAll f (recvUs id rs) j = f j
  | [], f, j, _ => by simp only [recvUs, updAll]
  | r :: rs, f, j, h => by
    simp only [recvUs, rvNs, updAll_append] at h ⊢
    rw [recvUs_out (id + rvN r) rs _ j (by omega), recvU_out id r f j (by omega)]
end

theorem Ext.trans {G G' G'' : Nat → Value} {o o' o'' : Nat → AObj} (h : Ext G o G' o') (k : Ext G' o' G'' o'') : Ext G o G'' o'' := by
  intro i hb
  obtain ⟨h1, h2⟩ := h i hb
  obtain ⟨k1, k2⟩ := k i h1
  exact ⟨k1, fun hl => ⟨(h2 (k2 hl).1).1, (k2 hl).2.trans (h2 (k2 hl).1).2⟩⟩

section
variable {cx : Cx} {w : World} {lim : Nat → Nat} {base : Nat}

theorem RowOK.lower {B : Nat} (hB : B ≤ base) {e : TypeId} {t : Ty} {xs : List t.den} {v : Value} (h : RowOK w lim base e t xs v) : RowOK w lim B e t xs v := by
  obtain ⟨vs, ⟨h1, h2⟩, h3⟩ := h
  refine ⟨vs, ⟨h1, ?_⟩, h3⟩
  rcases h2 with h2 | ⟨g, cap, cur, a, b, c⟩
  · exact .inl h2
  · exact .inr ⟨g, cap, cur, a, by omega, c⟩

theorem RowOK.blk_ge {e : TypeId} {t : Ty} {xs : List t.den} {v : Value} (h : RowOK w lim base e t xs v) : ∀ g, blk v = some g → base ≤ g := by
  intro g hg
  obtain ⟨vs, hown, _⟩ := h
  rw [own_blk hown] at hg
  exact (hown.lt g hg).1

theorem RowOK.raise {e : TypeId} {t : Ty} {xs : List t.den} {v : Value} {B : Nat} (h : RowOK w lim base e t xs v) (hg : ∀ g, blk v = some g → B ≤ g) : RowOK w lim B e t xs v := by
  obtain ⟨vs, ⟨h1, h2⟩, h3⟩ := h
  refine ⟨vs, ⟨h1, ?_⟩, h3⟩
  rcases h2 with h2 | ⟨g, cap, cur, a, b, c⟩
  · exact .inl h2
  · exact .inr ⟨g, cap, cur, a, hg g (by rw [a]; rfl), c⟩

mutual
theorem recv_ok (hB : cx.B ≤ base) : ∀ (rv : RV) (v : Value) (fp : List Nat) (objs : Nat → AObj) (G : Nat → Value) (id : Nat), Hp cx objs w lim G → RVok w lim base rv v fp → fp.Nodup →
    (∀ i g, (objs i).live = true → blk (G i) = some g → g ∉ fp) → (∀ j, id ≤ j → j < id + rvN rv → objs j = .unborn) →
    ∃ G', Hp cx (updAll objs (recvU id rv)) w lim G' ∧ Ext G objs G' (updAll objs (recvU id rv)) ∧ AVok w lim G' (updAll objs (recvU id rv)) (recvA id rv) v ∧
      (∀ i g, ((updAll objs (recvU id rv)) i).live = true → blk (G' i) = some g → ((objs i).live = true ∧ blk (G i) = some g) ∨ g ∈ fp)
  | .rd t x, v, fp, objs, G, id, hh, hr, _, _, _ => by
    simp only [RVok] at hr
    simp only [recvU, updAll, recvA, AVok]
    exact ⟨G, hh, Ext.refl _ _, hr.1, fun i g h1 h2 => .inl ⟨h1, h2⟩⟩
  | .own e t xs, v, fp, objs, G, id, hh, hr, hnd, hsep, hub => by
    simp only [RVok] at hr
    obtain ⟨r1, r2, r3⟩ := hr
    have hu := hub id (Nat.le_refl _) (by simp [rvN])
    simp only [recvU, updAll, recvA]
    refine ⟨upd G id v, hh.new hu hh.below (Keeps.refl w lim) (fun _ _ _ _ => ⟨rfl, rfl⟩) (fun _ _ _ => rfl) (fun i g hl hg hv => ?_) (fun g hg => .inl (Nat.le_trans hB (r1.blk_ge g hg))) (by simp only [ObjOK]; exact ⟨RowOK.lower (Nat.zero_le _) r1, r2⟩), Ext.new hu _ _, ?_, fun i g hl hg => ?_⟩
    · refine hsep i g hl hg ?_
      rw [r3, hv]; simp
    · simp only [AVok, upd_same]
      exact ⟨rfl, fun _ => trivial⟩
    · by_cases e : i = id
      · subst e
        rw [upd_same] at hg
        right
        rw [r3, hg]; simp
      · rw [upd_ne _ _ _ _ e] at hl hg
        exact .inl ⟨hl, hg⟩
  | .fresh e t xs, v, fp, objs, G, id, hh, hr, hnd, hsep, hub => by
    simp only [RVok] at hr
    obtain ⟨r1, r2, r3⟩ := hr
    have hu := hub id (Nat.le_refl _) (by simp [rvN])
    simp only [recvU, updAll, recvA]
    refine ⟨upd G id v, hh.new hu hh.below (Keeps.refl w lim) (fun _ _ _ _ => ⟨rfl, rfl⟩) (fun _ _ _ => rfl) (fun i g hl hg hv => ?_) (fun g hg => .inl (Nat.le_trans hB (r1.blk_ge g hg))) (by simp only [ObjOK]; exact ⟨RowOK.lower (Nat.zero_le _) r1, r2⟩), Ext.new hu _ _, ?_, fun i g hl hg => ?_⟩
    · refine hsep i g hl hg ?_
      rw [r3, hv]; simp
    · simp only [AVok, upd_same]
      exact ⟨rfl, fun _ => trivial⟩
    · by_cases e : i = id
      · subst e
        rw [upd_same] at hg
        right
        rw [r3, hg]; simp
      · rw [upd_ne _ _ _ _ e] at hl hg
        exact .inl ⟨hl, hg⟩
  | .agg rs, v, fp, objs, G, id, hh, hr, hnd, hsep, hub => by
    simp only [RVok] at hr
    obtain ⟨vs, h1, h2⟩ := hr
    obtain ⟨G', a, b, c, d⟩ := recvs_ok hB rs vs fp objs G id hh h2 hnd hsep (by simpa only [rvN] using hub)
    simp only [recvU, recvA, AVok]
    exact ⟨G', a, b, ⟨vs, h1, c⟩, d⟩
  | .tup rs, v, fp, objs, G, id, hh, hr, hnd, hsep, hub => by
    simp only [RVok] at hr
    obtain ⟨vs, h1, h2⟩ := hr
    obtain ⟨G', a, b, c, d⟩ := recvs_ok hB rs vs fp objs G id hh h2 hnd hsep (by simpa only [rvN] using hub)
    simp only [recvU, recvA, AVok]
    exact ⟨G', a, b, ⟨vs, h1, c⟩, d⟩
theorem recvs_ok (hB : cx.B ≤ base) : ∀ (rs : List RV) (vs : List Value) (fp : List Nat) (objs : Nat → AObj) (G : Nat → Value) (id : Nat), Hp cx objs w lim G → RVsOk w lim base rs vs fp → fp.Nodup →
    (∀ i g, (objs i).live = true → blk (G i) = some g → g ∉ fp) → (∀ j, id ≤ j → j < id + rvNs rs → objs j = .unborn) →
    ∃ G', Hp cx (updAll objs (recvUs id rs)) w lim G' ∧ Ext G objs G' (updAll objs (recvUs id rs)) ∧ AVsOk w lim G' (updAll objs (recvUs id rs)) (recvAs id rs) vs ∧
      (∀ i g, ((updAll objs (recvUs id rs)) i).live = true → blk (G' i) = some g → ((objs i).live = true ∧ blk (G i) = some g) ∨ g ∈ fp)
  | [], vs, fp, objs, G, id, hh, hr, _, _, _ => by
    simp only [RVsOk] at hr
    simp only [recvUs, updAll, recvAs, AVsOk]
    exact ⟨G, hh, Ext.refl _ _, hr.1, fun i g h1 h2 => .inl ⟨h1, h2⟩⟩
  | r :: rs, vs, fp, objs, G, id, hh, hr, hnd, hsep, hub => by
    simp only [RVsOk] at hr
    obtain ⟨v, vr, f1, f2, e1, e2, h1, h2⟩ := hr
    subst e1
    subst e2
    rw [List.nodup_append] at hnd
    obtain ⟨n1, n2, n3⟩ := hnd
    simp only [rvNs] at hub
    obtain ⟨G1, a1, b1, c1, d1⟩ := recv_ok hB r v f1 objs G id hh h1 n1 (fun i g hl hg hin => hsep i g hl hg (List.mem_append_left _ hin)) (fun j j1 j2 => hub j j1 (by omega))
    obtain ⟨G2, a2, b2, c2, d2⟩ := recvs_ok hB rs vr f2 (updAll objs (recvU id r)) G1 (id + rvN r) a1 h2 n2
      (fun i g hl hg hin => by
        rcases d1 i g hl hg with ⟨l1, l2⟩ | l
        · exact hsep i g l1 l2 (List.mem_append_right _ hin)
        · exact n3 g l g hin rfl)
      (fun j j1 j2 => by rw [recvU_out id r objs j (by omega)]; exact hub j (by omega) (by omega))
    simp only [recvUs, updAll_append, recvAs, AVsOk]
    refine ⟨G2, a2, b1.trans b2, ⟨v, vr, rfl, AVok.keeps (Keeps.refl w lim) b2 _ _ c1, c2⟩, fun i g hl hg => ?_⟩
    rcases d2 i g hl hg with ⟨l1, l2⟩ | l
    · rcases d1 i g l1 l2 with l | l
      · exact .inl l
      · exact .inr (List.mem_append_left _ l)
    · exact .inr (List.mem_append_right _ l)
end
end

section
variable {w : World} {lim : Nat → Nat} {base : Nat}
mutual
theorem rv_ge : ∀ (rv : RV) (v : Value) (fp : List Nat), RVok w lim base rv v fp → ∀ g ∈ fp, base ≤ g
  | .rd t x, v, fp, h, g, hg => by simp only [RVok] at h; rw [h.2] at hg; cases hg
  | .own e t xs, v, fp, h, g, hg => by
    simp only [RVok] at h
    obtain ⟨⟨vs, hown, _⟩, _, h3⟩ := h
    rw [h3, own_blk hown] at hg
    cases hob : v.ownBlock with
    | none => rw [hob] at hg; cases hg
    | some g' =>
      rw [hob] at hg
      have : g = g' := by simpa using hg
      subst this
      exact (hown.lt g hob).1
  | .fresh e t xs, v, fp, h, g, hg => by
    simp only [RVok] at h
    obtain ⟨h1, _, h3⟩ := h
    rw [h3] at hg
    exact h1.blk_ge g (by simpa using hg)
  | .agg rs, v, fp, h, g, hg => by simp only [RVok] at h; obtain ⟨vs, _, h⟩ := h; exact rvs_ge rs vs fp h g hg
  | .tup rs, v, fp, h, g, hg => by simp only [RVok] at h; obtain ⟨vs, _, h⟩ := h; exact rvs_ge rs vs fp h g hg
theorem rvs_ge : ∀ (rs : List RV) (vs : List Value) (fp : List Nat), RVsOk w lim base rs vs fp → ∀ g ∈ fp, base ≤ g
  | [], vs, fp, h, g, hg => by simp only [RVsOk] at h; rw [h.2] at hg; cases hg
  | r :: rs, vs, fp, h, g, hg => by
    simp only [RVsOk] at h
    obtain ⟨v, vr, f1, f2, _, e2, h1, h2⟩ := h
    subst e2
    rcases List.mem_append.1 hg with hg | hg
    · exact rv_ge r v f1 h1 g hg
    · exact rvs_ge rs vr f2 h2 g hg
end
end

section
variable {P : Program} {cx : Cx} {σ : St} {o : Oper} (hd : ∀ k, o.dst = some k → k < cx.N)

/-- The arguments of a call, read at their types. -/
def argD (σ : St) (tb : Tb) : List (Operand × TypeId) → List TV
  | [] => []
  | p :: r => ⟨tb.ty p.2, σ.tv (tb.ty p.2) p.1⟩ :: argD σ tb r

def argC (σ : St) (tb : Tb) : List (Operand × TypeId) → Prop
  | [] => True
  | p :: r => σ.tc (tb.ty p.2) p.1 ∧ argC σ tb r

theorem arg_ok {a : Act} {w : World} {lim : Nat → Nat} {G : Nat → Value} (hh : Hp cx σ.objs w lim G) (hf : Fr cx σ a w lim G) (tb : Tb) : ∀ (l : List (Operand × TypeId)), argC σ tb l → ArgsOK w lim (argD σ tb l) (l.map fun p => a.eval p.1)
  | [], _ => by simp only [ArgsOK, argD, List.map_nil]
  | p :: r, h => by
    simp only [ArgsOK, argD, List.map_cons]
    exact ⟨_, _, rfl, tc_ok hh hf h.1, arg_ok hh hf tb r h.2⟩

theorem map_zip {α β γ : Type} (f : α → γ) : ∀ (as : List α) (ts : List β), as.length = ts.length → (as.zip ts).map (fun p => f p.1) = as.map f
  | [], _, _ => by simp
  | a :: as, [], h => by simp at h
  | a :: as, t :: ts, h => by simp [map_zip f as ts (by simpa using h)]

include hd

theorem op_call {f : FuncId} {as : List Operand} {ts : List TypeId} {tb : Tb} {rv : RV} {id : Nat} (ho : o.op = .call { callee := .value (.func f), args := as.toArray, argTypes := ts.toArray }) (hl : as.length = ts.length)
    (hc : argC σ tb (as.zip ts)) (hfun : FunOK P f (argD σ tb (as.zip ts)) rv) (hub : ∀ j, id ≤ j → j < id + rvN rv → σ.objs j = .unborn) :
    OpOK P cx σ o ⟨recvA id rv, recvU id rv⟩ := by
  intro a w K Q hsat hK
  obtain ⟨lim, G, hh, hf⟩ := hsat
  obtain ⟨⟨fn, hfn, hnm, hbd⟩, hcall⟩ := hfun
  have hargs := arg_ok hh hf tb _ hc
  have e1 : (as.zip ts).map (fun p => a.eval p.1) = as.map a.eval := map_zip a.eval as ts hl
  rw [e1] at hargs
  have hcalls := hcall w lim _ hargs
  have hrun : (execOp a.eval o).run P w = .ok (.enter f (as.map a.eval).toArray) w := by
    have hnm' : ¬ fn.name = "runtime.NumGoroutine" := by simpa using hnm
    have hbd' : ¬ fn.body = none := by intro h; rw [h] at hbd; cases hbd
    simp [execOp, ho, resolve, invoke, callFunc, Act.eval, Deferred.ofValue, hfn, hnm', hbd']
  unfold Oper.wp
  rw [hrun]
  simp only [Oper.upon]
  refine hcalls.mono fun e w' hpost => ?_
  obtain ⟨v, lim', fp, he, hb, hl', hrv, hnd⟩ := hpost
  subst he
  refine hK _ _ ?_
  obtain ⟨hh', hk⟩ := hh.world hb hl'
  have hf' := hf.keeps hk (Ext.refl G σ.objs)
  have hsep : ∀ i g, (σ.objs i).live = true → blk (G i) = some g → g ∉ fp := by
    intro i g hlv hg hin
    have h1 := ((hh.obj i).block_ge hlv g hg).2
    have h2 : w.heap.size ≤ g := by
      exact rv_ge rv v fp hrv g hin
    omega
  obtain ⟨G', a1, a2, a3, _⟩ := recv_ok (cx := cx) hh.B_le rv v fp σ.objs G id hh' hrv hnd hsep hub
  have e : σ.app o.dst ⟨recvA id rv, recvU id rv⟩ = ({ tmps := σ.tmps, objs := updAll σ.objs (recvU id rv) } : St).put o.dst (recvA id rv) := by
    unfold St.app St.put
    cases o.dst <;> rfl
  rw [e]
  refine ⟨lim', G', ?_, (hf'.keeps (Keeps.refl w' lim') a2).put hd a3⟩
  rw [put_objs]
  exact a1

end
end Go.AL
