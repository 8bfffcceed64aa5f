/- Calls that only read what was made, and calls to which something is lent. A general part, over any program. -/
import Derived.Test.YtfkdkblbhilghaaB1
import Derived.Laws.StructEq
set_option linter.unusedSimpArgs false
set_option linter.unusedVariables false
namespace Go.AL
open Go.RowKit

/-! ### Readings without memory -/

def Ty.noL : Ty → Bool
  | .list _ => false
  | .cons h t => h.noL && t.noL
  | _ => true

theorem Rd.noL {w w' : World} {lim lim' : Nat → Nat} : ∀ {t : Ty} {cs : List Value} {x : t.den}, t.noL = true → Rd w lim t cs x → Rd w' lim' t cs x
  | .int _, _, _, _, h => h
  | .bool, _, _, _, h => h
  | .str, _, _, _, h => h
  | .nil, _, _, _, h => h
  | .list _, _, _, hn, _ => by cases hn
  | .cons h t, _, _, hn, hr => by
    simp only [Ty.noL, Bool.and_eq_true] at hn
    obtain ⟨c1, c2, e, h1, h2⟩ := hr
    exact ⟨c1, c2, e, h1.noL hn.1, h2.noL hn.2⟩

theorem RdV.noL {w w' : World} {lim lim' : Nat → Nat} {t : Ty} {v : Value} {x : t.den} (hn : t.noL = true) (h : RdV w lim t v x) : RdV w' lim' t v x := by
  obtain ⟨cs, h1, h2⟩ := h
  exact ⟨cs, h1.noL hn, h2⟩

theorem RowOK.noL {w : World} {lim lim' : Nat → Nat} {B : Nat} {e : TypeId} {t : Ty} {xs : List t.den} {v : Value} (hn : t.noL = true) (h : RowOK w lim B e t xs v) : RowOK w lim' B e t xs v := by
  obtain ⟨vs, h1, h2, h3⟩ := h
  exact ⟨vs, h1, h2, fun i hi => (h3 i hi).noL hn⟩

mutual
def RV.noL : RV → Bool
  | .rd t _ => t.noL
  | .own _ t _ => t.noL
  | .fresh _ t _ => t.noL
  | .tl _ _ _ => false
  | .deep _ _ _ => true
  | .agg rs => RV.noLs rs
  | .tup rs => RV.noLs rs
def RV.noLs : List RV → Bool
  | [] => true
  | r :: rs => r.noL && RV.noLs rs
end

mutual
/-- What is the call's own, not settled. -/
def RV.fr : RV → RV
  | .rd t x => .rd t x
  | .own e t xs => .fresh e t xs
  | .fresh e t xs => .fresh e t xs
  | .tl e t xs => .tl e t xs
  | .deep te t xs => .deep te t xs
  | .agg rs => .agg (RV.frs rs)
  | .tup rs => .tup (RV.frs rs)
def RV.frs : List RV → List RV
  | [] => []
  | r :: rs => r.fr :: RV.frs rs
end

section
variable {w : World} {lim lim' : Nat → Nat} {base : Nat}
mutual
theorem RVok.noL (hl : ∀ g, base ≤ g → lim' g = lim g) : ∀ (rv : RV) (v : Value) (fp : List Nat), rv.noL = true → RVok w lim base rv v fp → RVok w lim' base rv v fp
  | .rd t x, v, fp, hn, h => by
    simp only [RV.noL] at hn
    simp only [RVok] at h ⊢
    exact ⟨h.1.noL hn, h.2⟩
  | .own e t xs, v, fp, hn, h => by
    simp only [RV.noL] at hn
    simp only [RVok] at h ⊢
    exact ⟨h.1.noL hn, fun g hg => by rw [hl g (h.1.blk_ge g hg)]; exact h.2.1 g hg, h.2.2⟩
  | .fresh e t xs, v, fp, hn, h => by
    simp only [RV.noL] at hn
    simp only [RVok] at h ⊢
    exact ⟨h.1.noL hn, fun g hg => by rw [hl g (h.1.blk_ge g hg)]; exact h.2.1 g hg, h.2.2⟩
  | .tl e t xs, v, fp, hn, h => by simp only [RV.noL] at hn; cases hn
  | .deep te t xs, v, fp, hn, h => by
    simp only [RVok] at h ⊢
    obtain ⟨J, h1, h2, h3⟩ := h
    exact ⟨J, h1, ⟨h2.1, h2.2.1, fun g hg => by rw [hl g (h3 g (by rw [h1]; exact hg))]; exact h2.2.2 g hg⟩, h3⟩
  | .agg rs, v, fp, hn, h => by
    simp only [RV.noL] at hn
    simp only [RVok] at h ⊢
    obtain ⟨vs, e, h⟩ := h
    exact ⟨vs, e, RVsOk.noL hl rs vs fp hn h⟩
  | .tup rs, v, fp, hn, h => by
    simp only [RV.noL] at hn
    simp only [RVok] at h ⊢
    obtain ⟨vs, e, h⟩ := h
    exact ⟨vs, e, RVsOk.noL hl rs vs fp hn h⟩
theorem RVsOk.noL (hl : ∀ g, base ≤ g → lim' g = lim g) : ∀ (rs : List RV) (vs : List Value) (fp : List Nat), RV.noLs rs = true → RVsOk w lim base rs vs fp → RVsOk w lim' base rs vs fp
  | [], vs, fp, _, h => by simp only [RVsOk] at h ⊢; exact h
  | r :: rs, vs, fp, hn, h => by
    simp only [RV.noLs, Bool.and_eq_true] at hn
    simp only [RVsOk] at h ⊢
    obtain ⟨v, vr, f1, f2, e1, e2, h1, h2⟩ := h
    exact ⟨v, vr, f1, f2, e1, e2, RVok.noL hl r v f1 hn.1 h1, RVsOk.noL hl rs vr f2 hn.2 h2⟩
end

mutual
theorem RVok.fr (hl : ∀ g, base ≤ g → lim' g = 0) : ∀ (rv : RV) (v : Value) (fp : List Nat), rv.noL = true → RVok w lim base rv v fp → RVok w lim' base rv.fr v fp
  | .rd t x, v, fp, hn, h => by
    simp only [RV.noL] at hn
    simp only [RV.fr, RVok] at h ⊢
    exact ⟨h.1.noL hn, h.2⟩
  | .own e t xs, v, fp, hn, h => by
    simp only [RV.noL] at hn
    simp only [RV.fr, RVok] at h ⊢
    exact ⟨h.1.noL hn, fun g hg => hl g (h.1.blk_ge g hg), h.2.2⟩
  | .fresh e t xs, v, fp, hn, h => by
    simp only [RV.noL] at hn
    simp only [RV.fr, RVok] at h ⊢
    exact ⟨h.1.noL hn, fun g hg => hl g (h.1.blk_ge g hg), h.2.2⟩
  | .tl e t xs, v, fp, hn, h => by simp only [RV.noL] at hn; cases hn
  | .deep te t xs, v, fp, hn, h => by
    simp only [RV.fr, RVok] at h ⊢
    obtain ⟨J, h1, h2, h3⟩ := h
    exact ⟨J, h1, ⟨h2.1, h2.2.1, fun g hg => hl g (h3 g (by rw [h1]; exact hg))⟩, h3⟩
  | .agg rs, v, fp, hn, h => by
    simp only [RV.noL] at hn
    simp only [RV.fr, RVok] at h ⊢
    obtain ⟨vs, e, h⟩ := h
    exact ⟨vs, e, RVsOk.fr hl rs vs fp hn h⟩
  | .tup rs, v, fp, hn, h => by
    simp only [RV.noL] at hn
    simp only [RV.fr, RVok] at h ⊢
    obtain ⟨vs, e, h⟩ := h
    exact ⟨vs, e, RVsOk.fr hl rs vs fp hn h⟩
theorem RVsOk.fr (hl : ∀ g, base ≤ g → lim' g = 0) : ∀ (rs : List RV) (vs : List Value) (fp : List Nat), RV.noLs rs = true → RVsOk w lim base rs vs fp → RVsOk w lim' base (RV.frs rs) vs fp
  | [], vs, fp, _, h => by simp only [RV.frs, RVsOk] at h ⊢; exact h
  | r :: rs, vs, fp, hn, h => by
    simp only [RV.noLs, Bool.and_eq_true] at hn
    simp only [RV.frs, RVsOk] at h ⊢
    obtain ⟨v, vr, f1, f2, e1, e2, h1, h2⟩ := h
    exact ⟨v, vr, f1, f2, e1, e2, RVok.fr hl r v f1 hn.1 h1, RVsOk.fr hl rs vr f2 hn.2 h2⟩
end
end

/-- What a call makes may be taken unsettled. -/
theorem FunOK.fr {P : Program} {f : FuncId} {args : List TV} {rv : RV} (h : FunOK P f args rv) (hn : rv.noL = true) : FunOK P f args rv.fr := by
  refine ⟨h.1, fun w lim vs ha => (h.2 w lim vs ha).mono fun e w' hq => ?_⟩
  obtain ⟨v, lim', fp, h1, h2, h3, h4, h5⟩ := hq
  refine ⟨v, fun g => if g < w.heap.size then lim g else 0, fp, h1, h2, fun b hb => if_pos hb, RVok.fr (fun g hg => if_neg (by omega)) rv v fp hn h4, h5⟩

/-! ### Numbers for new objects -/

def unb (σ : St) : Nat → Nat → Prop
  | _, 0 => True
  | id, n + 1 => σ.objs id = .unborn ∧ unb σ (id + 1) n

theorem unb_spec {σ : St} : ∀ {n id : Nat}, unb σ id n → ∀ j, id ≤ j → j < id + n → σ.objs j = .unborn
  | 0, id, _, j, h1, h2 => absurd h2 (by omega)
  | n + 1, id, h, j, h1, h2 => by
    rcases Nat.eq_or_lt_of_le h1 with e | hlt
    · rw [← e]; exact h.1
    · exact unb_spec h.2 j hlt (by omega)

theorem unb_congr {σ σ' : St} : ∀ {n id : Nat}, (∀ j, id ≤ j → j < id + n → σ.objs j = σ'.objs j) → unb σ id n → unb σ' id n
  | 0, _, _, _ => trivial
  | n + 1, id, h, hu => ⟨by rw [← h id (Nat.le_refl _) (by omega)]; exact hu.1, unb_congr (fun j h1 h2 => h j (by omega) (by omega)) hu.2⟩

/-! ### A call that only reads what was made -/

section
variable {P : Program} {cx : Cx} {σ : St} {o : Oper} (hd : ∀ k, o.dst = some k → k < cx.N)

theorem run_enter {a : Act} {w : World} {f : FuncId} {as : List Operand} {ts : List TypeId} (ho : o.op = .call { callee := .value (.func f), args := as.toArray, argTypes := ts.toArray })
    (hfn : ∃ fn, P.funcs[f]? = some fn ∧ (fn.name == "runtime.NumGoroutine") = false ∧ fn.body.isNone = false) : (execOp a.eval o).run P w = .ok (.enter f (as.map a.eval).toArray) w := by
  obtain ⟨fn, hfn, hnm, hbd⟩ := hfn
  have hnm' : ¬ fn.name = "runtime.NumGoroutine" := by simpa using hnm
  have hbd' : ¬ fn.body = none := by intro h; rw [h] at hbd; cases hbd
  simp [execOp, ho, resolve, invoke, callFunc, Act.eval, Deferred.ofValue, hfn, hnm', hbd']

include hd

theorem op_callB {f : FuncId} {as : List Operand} {ts : List TypeId} {tb : Tb} {rv : RV} {id : Nat} (ho : o.op = .call { callee := .value (.func f), args := as.toArray, argTypes := ts.toArray }) (hl : as.length = ts.length)
    (hc : argC σ.settle tb (as.zip ts)) (hfun : FunOK P f (argD σ.settle tb (as.zip ts)) rv) (hn : rv.noL = true) (hub : ∀ j, id ≤ j → j < id + rvN rv → σ.objs j = .unborn) :
    OpOK P cx σ o ⟨recvA id rv, recvU id rv⟩ := by
  intro a w K Q hsat hK
  obtain ⟨lim1, G1, hh1, hf1⟩ := sat_settle hsat
  obtain ⟨lim, G, hh, hf⟩ := hsat
  have hargs := arg_ok hh1 hf1 tb _ hc
  have e1 : (as.zip ts).map (fun p => a.eval p.1) = as.map a.eval := map_zip a.eval as ts hl
  rw [e1] at hargs
  have hcalls := hfun.2 w lim1 _ hargs
  unfold Oper.wp
  rw [run_enter ho hfun.1]
  simp only [Oper.upon]
  refine hcalls.mono fun e w' hpost => ?_
  obtain ⟨v, lim2, fp, he, hb, _, hrv0, hnd⟩ := hpost
  subst he
  refine hK _ _ ?_
  let lim' : Nat → Nat := fun b => if b < w.heap.size then lim b else lim2 b
  have hl' : ∀ b, b < w.heap.size → lim' b = lim b := fun b hb => if_pos hb
  have hrv : RVok w' lim' w.heap.size rv v fp := RVok.noL (fun g hg => if_neg (by omega)) rv v fp hn hrv0
  obtain ⟨hh', hk⟩ := hh.world hb hl'
  have hf' := hf.keeps hk (Ext.refl G σ.objs)
  have hsep : ∀ i g, (σ.objs i).live = true → Blk (σ.objs i) (G i) g → g ∉ fp := by
    intro i g hlv hg hin
    have h1 := ((hh.obj i).block_ge hlv g hg).2
    have h2 : w.heap.size ≤ g := rv_ge rv v fp hrv g hin
    omega
  obtain ⟨G', a1, a2, a3, _⟩ := recv_ok (cx := cx) hh.B_le rv v fp σ.objs G id hh' hrv hnd hsep hub
  have e : σ.app o.dst ⟨recvA id rv, recvU id rv⟩ = ({ tmps := σ.tmps, objs := updAll σ.objs (recvU id rv) } : St).put o.dst (recvA id rv) := by
    unfold St.app St.put
    cases o.dst <;> rfl
  rw [e]
  refine ⟨lim', G', ?_, (hf'.keeps (Keeps.refl w' lim') a2).put hd a3⟩
  rw [put_objs]
  exact a1
end

/-- A call that only reads what was made; its answer is merely read. -/
theorem op_callB0 {P : Program} {cx : Cx} {σ : St} {o : Oper} (hd : ∀ k, o.dst = some k → k < cx.N) {f : FuncId} {as : List Operand} {ts : List TypeId} {tb : Tb} {rv : RV} {av : AV} (ho : o.op = .call { callee := .value (.func f), args := as.toArray, argTypes := ts.toArray }) (hl : as.length = ts.length)
    (hc : argC σ.settle tb (as.zip ts)) (hfun : FunOK P f (argD σ.settle tb (as.zip ts)) rv) (hn : rv.noL = true)
    (hav : ∀ (w : World) (lim : Nat → Nat) (base : Nat) (G : Nat → Rt) (v : Value) (fp : List Nat), RVok w lim base rv v fp → AVok w lim G σ.objs av v) : OpOK P cx σ o ⟨av, []⟩ := by
  intro a w K Q hsat hK
  obtain ⟨lim1, G1, hh1, hf1⟩ := sat_settle hsat
  obtain ⟨lim, G, hh, hf⟩ := hsat
  have hargs := arg_ok hh1 hf1 tb _ hc
  have e1 : (as.zip ts).map (fun p => a.eval p.1) = as.map a.eval := map_zip a.eval as ts hl
  rw [e1] at hargs
  have hcalls := hfun.2 w lim1 _ hargs
  unfold Oper.wp
  rw [run_enter ho hfun.1]
  simp only [Oper.upon]
  refine hcalls.mono fun e w' hpost => ?_
  obtain ⟨v, lim2, fp, he, hb, _, hrv0, hnd⟩ := hpost
  subst he
  refine hK _ _ ?_
  let lim' : Nat → Nat := fun b => if b < w.heap.size then lim b else lim2 b
  have hl' : ∀ b, b < w.heap.size → lim' b = lim b := fun b hb => if_pos hb
  have hrv : RVok w' lim' w.heap.size rv v fp := RVok.noL (fun g hg => if_neg (by omega)) rv v fp hn hrv0
  obtain ⟨hh', hk⟩ := hh.world hb hl'
  have hf' := hf.keeps hk (Ext.refl G σ.objs)
  rw [app_nil]
  exact ⟨lim', G, by rw [put_objs]; exact hh', hf'.put hd (hav w' lim' _ G v fp hrv)⟩

/-! ### Calls to which something is lent -/

/-- A cell that goes into a call: something that reads, or something lent. -/
inductive MA
  | rd (a : TV)
  | obj (o : AObj)

def rdOnly : List AV → Bool
  | [] => true
  | .rd _ _ :: r => rdOnly r
  | _ :: _ => false

/-- What may be lent. -/
def AObj.clo : AObj → Bool
  | .arr _ _ _ => true
  | .deep _ _ _ => true
  | .box _ cs => rdOnly cs
  | _ => false

theorem AObj.clo_live {o : AObj} (h : o.clo = true) : o.live = true := by cases o <;> first | rfl | cases h

def noG : Nat → Rt := fun _ => ⟨.nilFunc, []⟩
def noO : Nat → AObj := fun _ => .unborn

theorem rdOnly_ok {w : World} {lim : Nat → Nat} {G G' : Nat → Rt} {objs objs' : Nat → AObj} : ∀ {cs : List AV} {vs : List Value}, rdOnly cs = true → AVsOk w lim G objs cs vs → AVsOk w lim G' objs' cs vs
  | [], _, _, h => by simpa only [AVsOk] using h
  | .rd t x :: r, vs, hc, h => by
    simp only [AVsOk] at h ⊢
    obtain ⟨v, q, h1, h2, h3⟩ := h
    exact ⟨v, q, h1, by simpa only [AVok] using h2, rdOnly_ok (by simpa [rdOnly] using hc) h3⟩
  | .any :: _, _, hc, _ | .ptr _ _ :: _, _, hc, _ | .nils :: _, _, hc, _ | .own _ :: _, _, hc, _ | .bp _ _ :: _, _, hc, _ | .ep _ _ _ :: _, _, hc, _ | .ef _ _ _ _ :: _, _, hc, _ | .agg _ :: _, _, hc, _ | .tup _ :: _, _, hc, _ | .gd _ _ :: _, _, hc, _ | .fn _ _ :: _, _, hc, _ => by cases hc

theorem ObjOK.clo {w : World} {lim : Nat → Nat} {G G' : Nat → Rt} {objs objs' : Nat → AObj} {B : Nat} {r : Rt} {o : AObj} (hc : o.clo = true) (h : ObjOK w lim G objs B r o) : ObjOK w lim G' objs' B r o := by
  cases o with
  | arr e t xs => simpa only [ObjOK] using h
  | deep te t xs => simpa only [ObjOK] using h
  | box T cs =>
    simp only [ObjOK] at h ⊢
    obtain ⟨g, arr, h1, h2, h3, h4, h5⟩ := h
    exact ⟨g, arr, h1, h2, h3, h4, rdOnly_ok hc h5⟩
  | _ => cases hc

theorem ObjOK.clo_lim {w : World} {lim : Nat → Nat} {G : Nat → Rt} {objs : Nat → AObj} {B : Nat} {r : Rt} {o : AObj} (hc : o.clo = true) (h : ObjOK w lim G objs B r o) : ∀ g, Blk o r g → lim g = 0 := by
  intro g hg
  cases o with
  | arr e t xs => simp only [ObjOK] at h; exact h.2 g hg
  | deep te t xs => simp only [ObjOK] at h; exact h.1.2.2 g hg
  | box T cs =>
    simp only [ObjOK] at h
    obtain ⟨g', arr, h1, _, _, h4, _⟩ := h
    simp only [Blk] at hg
    rw [h1] at hg
    injection hg with hg
    subst hg
    exact h4
  | _ => cases hc

/-- A root as it is lent. -/
def nrm (o : AObj) (r : Rt) : Rt := bif o.isDeep then r else ⟨r.v, []⟩
theorem nrm_v (o : AObj) (r : Rt) : (nrm o r).v = r.v := by unfold nrm; cases o.isDeep <;> rfl
theorem nrm_blk {o : AObj} (hc : o.clo = true) (r : Rt) (g : Nat) : BlkR (nrm o r) g ↔ Blk o r g := by
  cases o <;> first | cases hc | skip
  · simp [nrm, AObj.isDeep, BlkR, Blk]
  · simp [nrm, AObj.isDeep, BlkR, Blk]
  · simp [nrm, AObj.isDeep, BlkR, Blk]
theorem Blk_v {o : AObj} {r r' : Rt} {g : Nat} (hv : r.v = r'.v) (hf : o.isDeep = true → r.fp = r'.fp) (hc : o.clo = true) : Blk o r' g → Blk o r g := by
  cases o <;> first | cases hc | skip
  · simp only [Blk]; rw [hv]; exact id
  · simp only [Blk]; rw [hv]; exact id
  · simp only [Blk]; rw [hv, hf rfl]; exact id
theorem Blk_deep {o o' : AObj} {r : Rt} {g : Nat} (hc : o.clo = true) (hc' : o'.clo = true) (hd : o.isDeep = o'.isDeep) : Blk o r g → Blk o' r g := by
  intro h
  cases o <;> cases o' <;> first | exact h | (exfalso; first | exact Bool.noConfusion hd | exact Bool.noConfusion hc | exact Bool.noConfusion hc')
theorem nrm_obj {w : World} {lim : Nat → Nat} {G : Nat → Rt} {objs : Nat → AObj} {B : Nat} {r r' : Rt} {o o' : AObj} (hc : o.clo = true) (hd : o.isDeep = o'.isDeep) (he : r' = nrm o' r) : ObjOK w lim G objs B r' o ↔ ObjOK w lim G objs B r o := by
  subst he
  cases o <;> first | cases hc | skip
  · simp only [ObjOK, nrm_v]
  · simp only [ObjOK, nrm_v]
  · have : o'.isDeep = true := by rw [← hd]; rfl
    unfold nrm
    rw [this]
    rfl

section
variable (w : World) (lim : Nat → Nat)
def MCells : List MA → List Rt → Prop
  | [], vs => vs = []
  | .rd a :: as, vs => ∃ v r, vs = v :: r ∧ RdV w lim a.t v.v a.x ∧ MCells as r
  | .obj o :: as, vs => ∃ v r, vs = v :: r ∧ (o.clo = true ∧ ObjOK w lim noG noO 0 v o ∧ ∀ g, BlkR v g → Blk o v g) ∧ MCells as r
def OutsOK : List MA → List Rt → List AObj → Prop
  | [], _, outs => outs = []
  | .rd _ :: as, _ :: vs, outs => OutsOK as vs outs
  | .obj o0 :: as, v :: vs, outs => ∃ o r, outs = o :: r ∧ (o.isDeep = o0.isDeep ∧ ObjOK w lim noG noO 0 v o) ∧ OutsOK as vs r
  | _ :: _, [], _ => False
end

/-- The root that was lent in a cell. -/
def lentAt : List MA → List Rt → Nat → Option Rt
  | .obj _ :: _, v :: _, 0 => some v
  | _ :: as, _ :: vs, k + 1 => lentAt as vs k
  | _, _, _ => none

def lentB (ms : List MA) (vs : List Rt) (g : Nat) : Prop := ∃ k r, lentAt ms vs k = some r ∧ BlkR r g
def lentSep (ms : List MA) (vs : List Rt) : Prop := ∀ i j r q g, i ≠ j → lentAt ms vs i = some r → lentAt ms vs j = some q → BlkR r g → ¬ BlkR q g

/-- Cells as arguments: one, or a struct of some. -/
def pack : List (Option Nat) → List Value → List Value
  | [], _ => []
  | none :: s, vs => vs.headD undef :: pack s (vs.drop 1)
  | some n :: s, vs => .agg (vs.take n).toArray :: pack s (vs.drop n)

/-- The function f, called with such cells, answers rv, leaves what was lent to it as outs, and turns nothing else. -/
def MutOK (P : Program) (f : FuncId) (s : List (Option Nat)) (ms : List MA) (rv : RV) (outs : List AObj) : Prop :=
  (∃ fn, P.funcs[f]? = some fn ∧ (fn.name == "runtime.NumGoroutine") = false ∧ fn.body.isNone = false) ∧
  ∀ (w : World) (lim : Nat → Nat) (vs : List Rt), MCells w lim ms vs → lentSep ms vs → Calls P f (pack s (vs.map (·.v))).toArray w fun e w' =>
    ∃ v lim' fp, e = .returned v ∧ BelowL (lentB ms vs) w.heap.size w w' ∧ (∀ b, b < w.heap.size → ¬ lentB ms vs b → lim' b = lim b) ∧ RVok w' lim' w.heap.size rv v fp ∧ fp.Nodup ∧ OutsOK w' lim' ms vs outs

/-- The world moves on, and what was lent turns. -/
theorem Hp.worldM {cx : Cx} {objs objs1 : Nat → AObj} {w w' : World} {lim lim' : Nat → Nat} {G : Nat → Rt} (h : Hp cx objs w lim G) {L : Nat → Prop} (hb : BelowL L w.heap.size w w') (hl : ∀ b, b < w.heap.size → ¬ L b → lim' b = lim b)
    {ids : List Nat} (hL : ∀ g, L g → ∃ i, i ∈ ids ∧ Blk (objs i) (G i) g ∧ lim g = 0) (h1 : ∀ i, i ∉ ids → objs1 i = objs i)
    (h2 : ∀ i, i ∈ ids → (objs i).live = true ∧ (objs1 i).clo = true ∧ ObjOK w' lim' noG noO 0 (G i) (objs1 i) ∧ ∀ g, Blk (objs1 i) (G i) g → Blk (objs i) (G i) g) :
    Hp cx objs1 w' lim' G ∧ Keeps w lim w' lim' ∧ Ext G objs G objs1 := by
  have hk : Keeps w lim w' lim' := by
    refine ⟨fun a u hc hlt => ?_, fun b hlt => ?_⟩
    · have hn : ¬ L a.block := fun hg => by obtain ⟨_, _, _, h0⟩ := hL _ hg; omega
      rw [World.cell?_of_block (w := w) (hb.block _ (World.block_lt_of_cell? _ _ hc) hn)]
      exact hc
    · by_cases hg : L b
      · obtain ⟨_, _, _, h0⟩ := hL _ hg; omega
      · rw [hl b hlt hg]; exact Nat.le_refl _
  have hB : cx.B ≤ w.heap.size := by rw [h.start]; exact h.below.size
  have live : ∀ i, (objs1 i).live = true → (objs i).live = true := by
    intro i hi
    by_cases hm : i ∈ ids
    · exact (h2 i hm).1
    · rw [← h1 i hm]; exact hi
  have he : Ext G objs G objs1 := by
    intro i hbn
    refine ⟨?_, fun hi => ⟨live i hi, rfl⟩⟩
    by_cases hm : i ∈ ids
    · exact AObj.born_of_live (AObj.clo_live (h2 i hm).2.1)
    · rw [h1 i hm]; exact hbn
  have notL : ∀ k, k < cx.B → ¬ cx.L k → ¬ L k := by
    intro k hk hn hg
    obtain ⟨i, hi, hbk, _⟩ := hL k hg
    rcases h.mine i k (h2 i hi).1 hbk with h | h
    · omega
    · exact hn h
  have fb : ∀ i g, Blk (objs1 i) (G i) g → Blk (objs i) (G i) g := by
    intro i g hg
    by_cases hm : i ∈ ids
    · exact (h2 i hm).2.2.2 g hg
    · rw [← h1 i hm]; exact hg
  refine ⟨⟨h.start, h.below.trans (hb.mono hB fun k hk hg => ?_), fun b hlt hn => (hl b (Nat.lt_of_lt_of_le hlt hB) (notL b hlt hn)).trans (h.lim0 b hlt hn), fun i => ?_, fun i j g hij hi hj hg hg' => h.sep i j g hij (live i hi) (live j hj) (fb i g hg) (fb j g hg'),
    fun i g hi hg => h.mine i g (live i hi) (fb i g hg), fun j r hr => ⟨(he j (h.lent j r hr).1).1, (h.lent j r hr).2⟩, fun j r hr => by
    by_cases hm : j ∈ ids
    · have := (h2 j hm).2.1
      revert this; cases objs1 j <;> first | exact fun _ => rfl | exact fun h => Bool.noConfusion h
    · rw [h1 j hm]; exact h.nob j r hr⟩, hk, he⟩
  · exact Classical.byContradiction fun hn => notL k hk hn hg
  · by_cases hm : i ∈ ids
    · exact ObjOK.clo (h2 i hm).2.1 (h2 i hm).2.2.1
    · rw [h1 i hm]
      cases hlv : (objs i).live with
      | true =>
        refine (h.obj i).keeps hk he fun g hg => ?_
        have hlt := ((h.obj i).block_ge hlv g hg).2
        have hn : ¬ L g := by
          intro hLg
          obtain ⟨j, hj, hbj, _⟩ := hL g hLg
          exact h.sep i j g (by rintro rfl; exact hm hj) hlv (h2 j hj).1 hg hbj
        exact ⟨hb.block g hlt hn, hl g hlt hn⟩
      | false => cases ho : objs i <;> rw [ho] at hlv <;> first | (simp only [ObjOK]; done) | cases hlv

/-! ### The caller's side -/

def mCell (objs : Nat → AObj) (t : Ty) (av : AV) : MA :=
  match av with
  | .own i => match objs i with
    | .arr e t' xs => .obj (.arr e t' xs)
    | .deep te t' xs => .obj (.deep te t' xs)
    | _ => .rd ⟨t, tvd objs t av⟩
  | .bp i _ => .obj (objs i)
  | _ => .rd ⟨t, tvd objs t av⟩

def mCellC (objs : Nat → AObj) (t : Ty) (av : AV) : Prop :=
  match av with
  | .own i => match objs i with
    | .arr _ _ _ => True
    | .deep _ _ _ => True
    | _ => tvc objs t av
  | .bp i off => off = 0 ∧ match objs i with
    | .box _ cs => rdOnly cs = true
    | _ => False
  | _ => tvc objs t av

def mIds1 (objs : Nat → AObj) (av : AV) : List Nat :=
  match av with
  | .own i => match objs i with
    | .arr _ _ _ => [i]
    | .deep _ _ _ => [i]
    | _ => []
  | .bp i _ => [i]
  | _ => []

def mAgg (objs : Nat → AObj) : Ty → List AV → List MA
  | .cons h t, c :: cs => mCell objs h c :: mAgg objs t cs
  | _, _ => []
def mAggC (objs : Nat → AObj) : Ty → List AV → Prop
  | .cons h t, c :: cs => mCellC objs h c ∧ mAggC objs t cs
  | .nil, [] => True
  | _, _ => False
def mIdsL (objs : Nat → AObj) : List AV → List Nat
  | [] => []
  | c :: cs => mIds1 objs c ++ mIdsL objs cs

def mShape (av : AV) : Option Nat := match av with
  | .agg cs => some cs.length
  | _ => none
def mOne (objs : Nat → AObj) (t : Ty) (av : AV) : List MA := match av with
  | .agg cs => mAgg objs t cs
  | .rd t' x => [.rd ⟨t', x⟩]
  | av => [mCell objs t av]
def mOneC (objs : Nat → AObj) (t : Ty) (av : AV) : Prop := match av with
  | .agg cs => mAggC objs t cs
  | .rd _ _ => True
  | av => mCellC objs t av
def mOneI (objs : Nat → AObj) (av : AV) : List Nat := match av with
  | .agg cs => mIdsL objs cs
  | .rd _ _ => []
  | av => mIds1 objs av

def mArgS (σ : St) : List (Operand × TypeId) → List (Option Nat)
  | [] => []
  | p :: r => mShape (σ.un p.1) :: mArgS σ r
def mArgD (σ : St) (tb : Tb) : List (Operand × TypeId) → List MA
  | [] => []
  | p :: r => mOne σ.objs (tb.ty p.2) (σ.un p.1) ++ mArgD σ tb r
def mArgC (σ : St) (tb : Tb) : List (Operand × TypeId) → Prop
  | [] => True
  | p :: r => (σ.uc p.1 ∧ mOneC σ.objs (tb.ty p.2) (σ.un p.1)) ∧ mArgC σ tb r
def mArgI (σ : St) : List (Operand × TypeId) → List Nat
  | [] => []
  | p :: r => mOneI σ.objs (σ.un p.1) ++ mArgI σ r

/-- Cells, the values that lie in them, the objects that are lent in them. -/
inductive Lend (w : World) (lim : Nat → Nat) (G : Nat → Rt) (objs : Nat → AObj) : List MA → List Rt → List Nat → Prop
  | nil : Lend w lim G objs [] [] []
  | rd {a : TV} {v : Rt} {ms : List MA} {vs : List Rt} {ids : List Nat} (h : RdV w lim a.t v.v a.x) (hr : Lend w lim G objs ms vs ids) : Lend w lim G objs (.rd a :: ms) (v :: vs) ids
  | obj {o : AObj} {v : Rt} {i : Nat} {ms : List MA} {vs : List Rt} {ids : List Nat} (hc : o.clo = true) (hl : objs i = o) (hg : v = nrm o (G i)) (ho : ObjOK w lim noG noO 0 v o) (hr : Lend w lim G objs ms vs ids) :
      Lend w lim G objs (.obj o :: ms) (v :: vs) (i :: ids)

section
variable {w : World} {lim : Nat → Nat} {G : Nat → Rt} {objs : Nat → AObj} {ms : List MA} {vs : List Rt} {ids : List Nat}

theorem Lend.cells (h : Lend w lim G objs ms vs ids) : MCells w lim ms vs := by
  induction h with
  | nil => simp only [MCells]
  | rd h _ ih => simp only [MCells]; exact ⟨_, _, rfl, h, ih⟩
  | obj hc _ hg ho _ ih => simp only [MCells]; exact ⟨_, _, rfl, ⟨hc, ho, fun g hb => by rw [hg] at hb ⊢; have := (nrm_blk hc _ _).1 hb; revert this; exact Blk_v (nrm_v _ _) (fun hd => by rw [nrm, hd]; rfl) hc⟩, ih⟩

theorem Lend.append {ms' : List MA} {vs' : List Rt} {ids' : List Nat} (h : Lend w lim G objs ms vs ids) (k : Lend w lim G objs ms' vs' ids') : Lend w lim G objs (ms ++ ms') (vs ++ vs') (ids ++ ids') := by
  induction h with
  | nil => exact k
  | rd h _ ih => exact .rd h ih
  | obj hc hl hg ho _ ih => exact .obj hc hl hg ho ih

theorem Lend.at' (h : Lend w lim G objs ms vs ids) : ∀ k r, lentAt ms vs k = some r → ∃ i, i ∈ ids ∧ (objs i).clo = true ∧ r = nrm (objs i) (G i) := by
  induction h with
  | nil => intro k r hk; simp [lentAt] at hk
  | rd h _ ih =>
    intro k r hk
    cases k with
    | zero => simp [lentAt] at hk
    | succ k => exact ih k r (by simpa [lentAt] using hk)
  | obj hc hl hg ho _ ih =>
    intro k r hk
    cases k with
    | zero =>
      simp only [lentAt, Option.some.injEq] at hk
      refine ⟨_, List.mem_cons_self, by rw [hl]; exact hc, ?_⟩
      rw [hl, ← hk, hg]
    | succ k =>
      obtain ⟨i, h1, h2⟩ := ih k r (by simpa [lentAt] using hk)
      exact ⟨i, List.mem_cons_of_mem _ h1, h2⟩

theorem Lend.live (h : Lend w lim G objs ms vs ids) : ∀ i, i ∈ ids → (objs i).live = true ∧ ∀ g, Blk (objs i) (G i) g → lim g = 0 := by
  induction h with
  | nil => intro i hi; cases hi
  | rd h _ ih => exact ih
  | obj hc hl hg ho _ ih =>
    intro i hi
    rcases List.mem_cons.1 hi with rfl | hi
    · refine ⟨by rw [hl]; exact AObj.clo_live hc, fun g hb => ?_⟩
      rw [hl] at hb
      exact ((nrm_obj hc rfl hg).1 ho).clo_lim hc g hb
    · exact ih i hi

theorem Lend.sep (h : Lend w lim G objs ms vs ids) (hnd : ids.Nodup) (hs : ∀ i j g, i ≠ j → (objs i).live = true → (objs j).live = true → Blk (objs i) (G i) g → ¬ Blk (objs j) (G j) g) : lentSep ms vs := by
  induction h with
  | nil => intro i j r q g _ hi; simp [lentAt] at hi
  | rd h _ ih =>
    intro i j r q g hij hi hj
    cases i with
    | zero => simp [lentAt] at hi
    | succ i =>
      cases j with
      | zero => simp [lentAt] at hj
      | succ j => exact ih hnd i j r q g (by omega) (by simpa [lentAt] using hi) (by simpa [lentAt] using hj)
  | obj hc hl hg ho hr ih =>
    rw [List.nodup_cons] at hnd
    intro i j r q g hij hi hj hb hb'
    cases i with
    | zero =>
      simp only [lentAt, Option.some.injEq] at hi
      cases j with
      | zero => exact hij rfl
      | succ j =>
        obtain ⟨i', k1, k2, k3⟩ := hr.at' j q (by simpa [lentAt] using hj)
        subst hi; subst k3
        rw [hg, nrm_blk hc, ← hl] at hb
        rw [nrm_blk k2] at hb'
        exact hs _ i' g (by rintro rfl; exact hnd.1 k1) (by rw [hl]; exact AObj.clo_live hc) (hr.live i' k1).1 hb hb'
    | succ i =>
      cases j with
      | zero =>
        simp only [lentAt, Option.some.injEq] at hj
        obtain ⟨i', k1, k2, k3⟩ := hr.at' i r (by simpa [lentAt] using hi)
        subst hj; subst k3
        rw [hg, nrm_blk hc, ← hl] at hb'
        rw [nrm_blk k2] at hb
        exact hs _ i' g (by rintro rfl; exact hnd.1 k1) (by rw [hl]; exact AObj.clo_live hc) (hr.live i' k1).1 hb' hb
      | succ j => exact ih hnd.2 i j r q g (by omega) (by simpa [lentAt] using hi) (by simpa [lentAt] using hj) hb hb'

theorem Lend.outs (h : Lend w lim G objs ms vs ids) {w' : World} {lim' : Nat → Nat} : ∀ {os : List AObj}, OutsOK w' lim' ms vs os → ∀ p, p ∈ ids.zip os → p.2.clo = true → ObjOK w' lim' noG noO 0 (G p.1) p.2 ∧ ∀ g, Blk p.2 (G p.1) g → Blk (objs p.1) (G p.1) g := by
  induction h with
  | nil => intro os _ p hp; simp at hp
  | rd h _ ih => intro os ho p hp; exact ih (by simpa only [OutsOK] using ho) p hp
  | obj hc hl hg ho hr ih =>
    intro os hos p hp hpc
    simp only [OutsOK] at hos
    obtain ⟨o, r, rfl, ⟨h0, h1⟩, h2⟩ := hos
    rcases List.mem_cons.1 (by simpa using hp) with rfl | hp
    · simp only at hpc ⊢
      refine ⟨(nrm_obj hpc h0 hg).1 h1, fun g hb => ?_⟩
      rw [hl]
      exact Blk_deep hpc hc h0 hb
    · exact ih h2 p hp hpc
end

theorem updAll_zip {f : Nat → AObj} : ∀ {ids : List Nat} {os : List AObj}, ids.Nodup → os.length = ids.length → ∀ i, (i ∉ ids → updAll f (ids.zip os) i = f i) ∧ (i ∈ ids → ∃ o, (i, o) ∈ ids.zip os ∧ updAll f (ids.zip os) i = o)
  | [], os, _, _, i => ⟨fun _ => by simp [updAll], fun h => by cases h⟩
  | j :: ids, [], _, h, _ => by simp at h
  | j :: ids, o :: os, hnd, hl, i => by
    rw [List.nodup_cons] at hnd
    obtain ⟨h1, h2⟩ := updAll_zip (f := upd f j o) hnd.2 (by simpa using hl) i
    simp only [List.zip_cons_cons, updAll]
    refine ⟨fun hi => ?_, fun hi => ?_⟩
    · rw [h1 fun h => hi (List.mem_cons_of_mem _ h)]
      exact upd_ne _ _ _ _ fun h => hi (h ▸ List.mem_cons_self)
    · by_cases hm : i ∈ ids
      · obtain ⟨o', k1, k2⟩ := h2 hm
        exact ⟨o', List.mem_cons_of_mem _ k1, k2⟩
      · have e : i = j := by rcases List.mem_cons.1 hi with h | h; exact h; exact absurd h hm
        subst e
        exact ⟨o, List.mem_cons_self, by rw [h1 hm, upd_same]⟩

section
variable {P : Program} {cx : Cx} {σ : St} {o : Oper}

theorem mCell_ok {w : World} {lim : Nat → Nat} {G : Nat → Rt} {objs : Nat → AObj} (ho : ∀ id, ObjOK w lim G objs 0 (G id) (objs id)) {t : Ty} {av : AV} {v : Value} (hc : mCellC objs t av) (hv : AVok w lim G objs av v) :
    ∃ r : Rt, r.v = v ∧ Lend w lim G objs [mCell objs t av] [r] (mIds1 objs av) := by
  have plain : tvc objs t av → ∃ r : Rt, r.v = v ∧ Lend w lim G objs [.rd ⟨t, tvd objs t av⟩] [r] [] := fun h => ⟨⟨v, []⟩, rfl, .rd (tv_ok ho t av v h hv) .nil⟩
  cases av with
  | own i =>
    simp only [mCellC] at hc
    simp only [mCell, mIds1]
    cases hoi : objs i with
    | arr e t' xs =>
      have h1 := ho i
      have h2 := hv
      simp only [AVok, hoi] at h2
      have h2 := h2.2 rfl
      subst h2
      rw [hoi] at h1
      exact ⟨_, nrm_v _ _, .obj rfl hoi rfl ((nrm_obj rfl rfl rfl).2 (ObjOK.clo rfl h1)) .nil⟩
    | deep te t' xs =>
      have h1 := ho i
      have h2 := hv
      simp only [AVok, hoi] at h2
      have h2 := h2.2 rfl
      subst h2
      rw [hoi] at h1
      exact ⟨_, nrm_v _ _, .obj rfl hoi rfl ((nrm_obj rfl rfl rfl).2 (ObjOK.clo rfl h1)) .nil⟩
    | _ => rw [hoi] at hc; exact plain hc
  | bp i off =>
    simp only [mCellC] at hc
    simp only [mCell, mIds1]
    obtain ⟨rfl, hc⟩ := hc
    have h2 := hv
    have h1 := ho i
    cases hoi : objs i with
    | box T cs =>
      rw [hoi] at hc h1
      simp only at hc
      simp only [AVok, hoi] at h2
      obtain ⟨g, h3, h4⟩ := h2.2 rfl
      have h1' := h1
      simp only [ObjOK] at h1'
      obtain ⟨g', arr, k1, _⟩ := h1'
      have hgv : (G i).v = v := by
        rw [k1] at h3
        injection h3 with h3
        have h3 : g' = g := h3
        rw [k1, h4, h3]
      have hcl : (AObj.box T cs).clo = true := hc
      exact ⟨_, (nrm_v _ _).trans hgv, .obj hcl hoi rfl ((nrm_obj hcl rfl rfl).2 (ObjOK.clo hcl h1)) .nil⟩
    | _ => rw [hoi] at hc; exact hc.elim
  | _ => exact plain hc

theorem mAgg_ok {w : World} {lim : Nat → Nat} {G : Nat → Rt} {objs : Nat → AObj} (ho : ∀ id, ObjOK w lim G objs 0 (G id) (objs id)) : ∀ {t : Ty} {cs : List AV} {vs : List Value}, mAggC objs t cs → AVsOk w lim G objs cs vs →
    ∃ rs : List Rt, rs.map (·.v) = vs ∧ Lend w lim G objs (mAgg objs t cs) rs (mIdsL objs cs)
  | .cons h t, c :: cs, vs, hc, hv => by
    simp only [AVsOk] at hv
    obtain ⟨v, r, rfl, h1, h2⟩ := hv
    simp only [mAgg, mIdsL]
    obtain ⟨r1, e1, l1⟩ := mCell_ok ho hc.1 h1
    obtain ⟨r2, e2, l2⟩ := mAgg_ok ho hc.2 h2
    exact ⟨[r1] ++ r2, by rw [List.map_append, e2]; simp [e1], l1.append l2⟩
  | .nil, [], vs, _, hv => by
    simp only [AVsOk] at hv
    subst hv
    exact ⟨[], rfl, .nil⟩
  | .cons _ _, [], _, hc, _ => hc.elim
  | .nil, _ :: _, _, hc, _ => hc.elim
  | .int _, _, _, hc, _ => by simp only [mAggC] at hc
  | .bool, _, _, hc, _ => by simp only [mAggC] at hc
  | .str, _, _, hc, _ => by simp only [mAggC] at hc
  | .list _, _, _, hc, _ => by simp only [mAggC] at hc

theorem mOne_ok {w : World} {lim : Nat → Nat} {G : Nat → Rt} {objs : Nat → AObj} (ho : ∀ id, ObjOK w lim G objs 0 (G id) (objs id)) {t : Ty} {av : AV} {v : Value} (hc : mOneC objs t av) (hv : AVok w lim G objs av v) :
    ∃ vs : List Rt, Lend w lim G objs (mOne objs t av) vs (mOneI objs av) ∧ ∀ s r, pack (mShape av :: s) (vs.map (·.v) ++ r) = v :: pack s r := by
  have fin : ∀ {ms : List MA} {ids : List Nat}, (∃ r : Rt, r.v = v ∧ Lend w lim G objs ms [r] ids) → ∃ vs : List Rt, Lend w lim G objs ms vs ids ∧ ∀ s r, pack (none :: s) (vs.map (·.v) ++ r) = v :: pack s r :=
    fun ⟨r1, e1, l1⟩ => ⟨[r1], l1, fun s r => by simp [pack, e1]⟩
  cases av with
  | agg cs =>
    simp only [AVok] at hv
    obtain ⟨arr, rfl, h2⟩ := hv
    have hl := h2.length
    obtain ⟨rs, e, l⟩ := mAgg_ok ho hc h2
    refine ⟨rs, l, fun s r => ?_⟩
    simp only [mShape, pack]
    rw [e, ← hl, List.take_left, List.drop_left]
  | rd t' x =>
    simp only [AVok] at hv
    exact ⟨[⟨v, []⟩], .rd hv .nil, fun s r => by simp [mShape, pack]⟩
  | _ => exact fin (mCell_ok ho hc hv)

theorem mArg_ok {a : Act} {w : World} {lim : Nat → Nat} {G : Nat → Rt} (hh : Hp cx σ.objs w lim G) (hf : Fr cx σ a w lim G) (tb : Tb) : ∀ (l : List (Operand × TypeId)), mArgC σ tb l →
    ∃ vs : List Rt, Lend w lim G σ.objs (mArgD σ tb l) vs (mArgI σ l) ∧ pack (mArgS σ l) (vs.map (·.v)) = l.map fun p => a.eval p.1
  | [], _ => ⟨[], .nil, rfl⟩
  | p :: r, h => by
    obtain ⟨v1, h1, h2⟩ := mOne_ok hh.obj h.1.2 (un_ok hf p.1 h.1.1)
    obtain ⟨v2, h3, h4⟩ := mArg_ok hh hf tb r h.2
    refine ⟨v1 ++ v2, h1.append h3, ?_⟩
    simp only [mArgS, List.map_cons, List.map_append]
    rw [h2, h4]

theorem op_callM (hd : ∀ k, o.dst = some k → k < cx.N) {f : FuncId} {as : List Operand} {ts : List TypeId} {tb : Tb} {rv : RV} {outs : List AObj} {id : Nat} (ho : o.op = .call { callee := .value (.func f), args := as.toArray, argTypes := ts.toArray }) (hl : as.length = ts.length)
    (hc : mArgC σ tb (as.zip ts)) (hnd : (mArgI σ (as.zip ts)).Nodup) (hfun : MutOK P f (mArgS σ (as.zip ts)) (mArgD σ tb (as.zip ts)) rv outs) (hol : outs.length = (mArgI σ (as.zip ts)).length) (hoc : ∀ q, q ∈ outs → q.clo = true)
    (hub : ∀ j, id ≤ j → j < id + rvN rv → σ.objs j = .unborn) :
    OpOK P cx σ o ⟨recvA id rv, (mArgI σ (as.zip ts)).zip outs ++ recvU id rv⟩ := by
  intro a w K Q hsat hK
  obtain ⟨lim, G, hh, hf⟩ := hsat
  obtain ⟨vs, hlend, hpack⟩ := mArg_ok hh hf tb _ hc
  have e1 : (as.zip ts).map (fun p => a.eval p.1) = as.map a.eval := map_zip a.eval as ts hl
  have hcalls := hfun.2 w lim vs hlend.cells (hlend.sep hnd hh.sep)
  rw [hpack, e1] at hcalls
  unfold Oper.wp
  rw [run_enter ho hfun.1]
  simp only [Oper.upon]
  refine hcalls.mono fun e w' hpost => ?_
  obtain ⟨v, lim', fp, he, hb, hl', hrv, hnd', hout⟩ := hpost
  subst he
  refine hK _ _ ?_
  generalize hids : mArgI σ (as.zip ts) = ids at *
  have hz := fun i => updAll_zip (f := σ.objs) hnd hol i
  have houts := hlend.outs hout
  obtain ⟨hh', hk, he'⟩ := hh.worldM (objs1 := updAll σ.objs (ids.zip outs)) hb hl' (ids := ids) (fun g hg => by
      obtain ⟨k, r, h1, h2⟩ := hg
      obtain ⟨i, h3, h5, h4⟩ := hlend.at' k r h1
      rw [h4, nrm_blk h5] at h2
      exact ⟨i, h3, h2, (hlend.live i h3).2 g h2⟩) (fun i hi => (hz i).1 hi) (fun i hi => by
      obtain ⟨q, k1, k2⟩ := (hz i).2 hi
      have hq := hoc q (List.of_mem_zip k1).2
      refine ⟨(hlend.live i hi).1, ?_, ?_⟩
      · rw [k2]; exact hq
      · rw [k2]; exact houts _ k1 hq)
  have hf' := hf.keeps hk he'
  have hsep : ∀ i g, ((updAll σ.objs (ids.zip outs)) i).live = true → Blk ((updAll σ.objs (ids.zip outs)) i) (G i) g → g ∉ fp := by
    intro i g hlv hg hin
    have hlv0 : (σ.objs i).live = true ∧ Blk (σ.objs i) (G i) g := by
      by_cases hm : i ∈ ids
      · obtain ⟨q, k1, k2⟩ := (hz i).2 hm
        rw [k2] at hg
        exact ⟨(hlend.live i hm).1, (houts _ k1 (hoc q (List.of_mem_zip k1).2)).2 g hg⟩
      · rw [(hz i).1 hm] at hlv hg; exact ⟨hlv, hg⟩
    have h1 := ((hh.obj i).block_ge hlv0.1 g hlv0.2).2
    have h2 : w.heap.size ≤ g := rv_ge rv v fp hrv g hin
    omega
  obtain ⟨G', a1, a2, a3, _⟩ := recv_ok (cx := cx) hh.B_le rv v fp (updAll σ.objs (ids.zip outs)) G id hh' hrv hnd' hsep (fun j j1 j2 => by
    have hm : j ∉ ids := by
      intro hm
      have := (hlend.live j hm).1
      rw [hub j j1 j2] at this
      cases this
    rw [(hz j).1 hm]
    exact hub j j1 j2)
  have e : σ.app o.dst ⟨recvA id rv, ids.zip outs ++ recvU id rv⟩ = ({ tmps := σ.tmps, objs := updAll (updAll σ.objs (ids.zip outs)) (recvU id rv) } : St).put o.dst (recvA id rv) := by
    unfold St.app St.put
    cases o.dst <;> simp [updAll_append]
  rw [e]
  refine ⟨lim', G', ?_, (hf'.keeps (Keeps.refl w' lim') a2).put hd a3⟩
  rw [put_objs]
  exact a1
end

/-! ### One call reckoned -/

/-- What may merely be read as it is. -/
def plA (objs : Nat → AObj) : AV → Bool
  | .own i => match objs i with
    | .arr _ _ _ => false
    | .deep _ _ _ => false
    | .bld _ _ _ => false
    | _ => true
  | .bp _ _ => false
  | _ => true
def plL (objs : Nat → AObj) : List AV → Bool
  | [] => true
  | a :: r => plA objs a && plL objs r
def plV (objs : Nat → AObj) : AV → Bool
  | .agg cs => plL objs cs
  | a => plA objs a
def plB (σ : St) : List Operand → Bool
  | [] => true
  | x :: r => plV σ.objs (σ.un x) && plB σ r

def callR (P : Program) (tb : Tb) (id : Nat) (σ : St) (f : FuncId) (l : List (Operand × TypeId)) (e : Eff) : Prop :=
  (argC σ tb l ∧ ∃ rv, FunOK P f (argD σ tb l) rv ∧ rvN rv ≤ 16 ∧ unb σ id (rvN rv) ∧ e = ⟨recvA id rv, recvU id rv⟩) ∨
  (argC σ.settle tb l ∧ ∃ rv, rv.noL = true ∧ FunOK P f (argD σ.settle tb l) rv ∧ rvN rv ≤ 16 ∧ unb σ id (rvN rv) ∧ e = ⟨recvA id rv, recvU id rv⟩) ∨
  ((mArgC σ tb l ∧ (mArgI σ l).Nodup) ∧ ∃ rv outs, MutOK P f (mArgS σ l) (mArgD σ tb l) rv outs ∧ (outs.length = (mArgI σ l).length ∧ ∀ q, q ∈ outs → q.clo = true) ∧ rvN rv ≤ 16 ∧ unb σ id (rvN rv) ∧ e = ⟨recvA id rv, (mArgI σ l).zip outs ++ recvU id rv⟩)

theorem callR_sound {P : Program} {cx : Cx} {σ : St} {o : Oper} {tb : Tb} {id : Nat} {f : FuncId} {as : List Operand} {ts : List TypeId} {e : Eff} (hd : ∀ k, o.dst = some k → k < cx.N) (ho : o.op = .call { callee := .value (.func f), args := as.toArray, argTypes := ts.toArray }) (hl : as.length = ts.length)
    (h : callR P tb id σ f (as.zip ts) e) : OpOK P cx σ o e := by
  rcases h with ⟨h1, rv, h2, _, h3, rfl⟩ | ⟨h1, rv, h0, h2, _, h3, rfl⟩ | ⟨⟨h1, h0⟩, rv, outs, h2, ⟨h4, h5⟩, _, h3, rfl⟩
  · exact op_call hd ho hl h1 h2 (unb_spec h3)
  · exact op_callB hd ho hl h1 h2 h0 (unb_spec h3)
  · exact op_callM hd ho hl h1 h0 h2 h4 h5 (unb_spec h3)

/-! ### Arrays of numbers -/

def arrTy : Nat → Ty
  | 0 => .nil
  | n + 1 => .cons (.int .i64) (arrTy n)

def ArrOK (P : Program) (n : Nat) (T : TypeId) : Prop := ∃ e, P.underlying T = some (.array n e) ∧ TyOK P (.int .i64) e ∧ InfOK P (arrTy n) T

theorem arrTy_size : ∀ n, (arrTy n).size = n
  | 0 => rfl
  | n + 1 => by simp only [arrTy, Ty.size, arrTy_size n]; omega

def intsOf : List AV → List Int
  | .rd (.int .i64) x :: r => x :: intsOf r
  | _ :: r => 0 :: intsOf r
  | [] => []
def intsC : List AV → Bool
  | .rd (.int .i64) _ :: r => intsC r
  | _ :: _ => false
  | [] => true

theorem intsC_ok {w : World} {lim : Nat → Nat} {G : Nat → Rt} {objs : Nat → AObj} : ∀ {cs : List AV} {vs : List Value}, intsC cs = true → AVsOk w lim G objs cs vs → ∀ i, i < cs.length → RdV w lim (.int .i64) (vs.getD i undef) ((intsOf cs).getD i 0)
  | [], _, _, _, i, hi => absurd hi (by simp)
  | a :: r, vs, hc, h, i, hi => by
    simp only [AVsOk] at h
    obtain ⟨v, q, e, h1, h2⟩ := h
    subst e
    have ha : ∃ x, a = .rd (.int .i64) x ∧ intsC r = true := by
      unfold intsC at hc
      split at hc
      · rename_i _ x _ heq; injection heq with h1 h2; subst h1; subst h2; exact ⟨x, rfl, hc⟩
      · cases hc
      · rename_i heq; cases heq
    obtain ⟨x, rfl, hr⟩ := ha
    cases i with
    | zero => simp only [AVok] at h1; simpa [intsOf] using h1
    | succ i => simpa [intsOf] using intsC_ok hr h2 i (by simpa using hi)

section
variable {P : Program} {cx : Cx} {σ : St} {o : Oper} (hd : ∀ k, o.dst = some k → k < cx.N)
include hd

theorem op_build_arr {T : TypeId} {n : Nat} {ps : List (Nat × Operand)} (ho : o.op = .build T ps.toArray) (hT : ArrOK P n T) (hc : setAllC σ n ps) :
    OpOK P cx σ o ⟨.agg (setAll σ ps (arrTy n).zeros), []⟩ :=
  OpOK.of_value hd fun a w lim G hh hf => by
    have hzc := mkV_cells (zcells_len (arrTy n)) (zcells_rd w lim (arrTy n)).one
    obtain ⟨e, u1, u2, it, i1, i2, i3, _⟩ := hT
    obtain ⟨ie, j1, j2, _⟩ := u2.inf
    have hplace : ∀ i, i < n → (fun i => some (i * ie.size, ie.size)) i = some (i, 1) := by
      intro i _
      rw [j2]
      simp [Ty.size]
    have hsz : (mkV (arrTy n) (arrTy n).zcells).cells.size = n := by
      have := congrArg List.length hzc
      rw [zcells_len, arrTy_size] at this
      simpa using this
    obtain ⟨arr', e1, e2⟩ := fill_one hh hf _ n hplace ps (arrTy n).zeros (mkV (arrTy n) (arrTy n).zcells).cells hc hsz (by rw [hzc]; exact zeros_ok _)
    have hb : P.built T (ps.map fun p => (p.1, a.eval p.2)) = some arr' := by
      unfold Program.built
      simp only [i1, u1, i3, j1]
      exact e1
    have hb' : P.built T ((ps.toArray.map fun x => match x with | (i, x) => (i, a.eval x)).toList) = some arr' := by
      simpa using hb
    refine ⟨.agg arr', ?_, ?_⟩
    · simp only [execOp, ho, Sem.run_bind, run_build w T _ arr' hb']; rfl
    · simp only [AVok]
      exact ⟨arr'.toList, by simp, e2⟩

theorem op_index_arr {T : TypeId} {x ix : Operand} {cs : List AV} (ho : o.op = .index T x ix) (hc : σ.uc x) (hx : σ.un x = .agg cs) (hT : ArrOK P cs.length T) (hi : σ.tc (.int .i64) ix)
    (h0 : 0 ≤ σ.ti .i64 ix) (h1 : σ.ti .i64 ix < (cs.length : Int)) (hn : intsC cs = true) :
    OpOK P cx σ o ⟨.rd (.int .i64) ((intsOf cs).getD (σ.ti .i64 ix).toNat 0), []⟩ :=
  OpOK.of_value hd fun a w lim G hh hf => by
    have h := un_ok hf x hc
    rw [hx] at h
    simp only [AVok] at h
    obtain ⟨arr, e1, e2⟩ := h
    obtain ⟨i1, _⟩ := (tc_int hh hf hi)
    generalize hn' : σ.ti .i64 ix = n at *
    have h0' : (0 : Int) ≤ n := h0
    have h1' : (n : Int) < cs.length := h1
    have hlt : (n : Int).toNat < cs.length := by omega
    have hr := intsC_ok hn e2 _ hlt
    have hla : (n : Int).toNat < arr.length := by rw [e2.length]; exact hlt
    obtain ⟨e, u1, u2, _⟩ := hT
    refine ⟨arr.getD (n : Int).toNat undef, ?_, by simp only [AVok]; exact hr⟩
    have hag := run_isAgg' u2 w
    have hag' : (isAgg e).run P w = .ok false w := hag
    have hsz := run_sizeOf' u2 w
    have hsz' : (sizeOf e).run P w = .ok 1 w := hsz
    simp [execOp, ho, e1, i1, Instr.index, asIntOf, run_underlying u1, h0', h1', hsz', part, hag', List.getD_eq_getElem?_getD, List.getElem?_eq_getElem hla]
end

/-! ### Structs held against each other -/

/-- Equality as a truth value. -/
noncomputable def eqC {α : Type} (x y : α) : Bool := @decide (x = y) (Classical.propDecidable _)
theorem eqC_t {α : Type} {x y : α} : (eqC x y = true) = (x = y) := by unfold eqC; exact propext (@decide_eq_true_iff _ (Classical.propDecidable _))
theorem eqC_f {α : Type} {x y : α} : (eqC x y = false) = (x ≠ y) := by unfold eqC; exact propext (@decide_eq_false_iff_not _ (Classical.propDecidable _))
theorem eqC_self {α : Type} (x : α) : eqC x x = true := by rw [eqC_t]

/-- Numbers and truth values alone. -/
def Ty.basic : Ty → Bool
  | .cons (.int _) t => t.basic
  | .cons .bool t => t.basic
  | .nil => true
  | _ => false

def EqSt (P : Program) (T : TypeId) : Prop := P.stoodInHeld T = false ∧ P.eqGuardType P.depth T = false ∧ ((P.fieldsOf T).toList.all fun f => !(f.name == "_")) = true

theorem eqC_prod {α β : Type} (x y : α × β) : eqC x y = (eqC x.1 y.1 && eqC x.2 y.2) := by
  rw [Bool.eq_iff_iff, Bool.and_eq_true, eqC_t, eqC_t, eqC_t]
  exact Prod.ext_iff
theorem eqC_beq_int (a b : Int) : eqC a b = (a == b) := by rw [Bool.eq_iff_iff, eqC_t, beq_iff_eq]
theorem eqC_beq_bool (a b : Bool) : eqC a b = (a == b) := by rw [Bool.eq_iff_iff, eqC_t, beq_iff_eq]

section
variable {P : Program}

theorem run_eqFields {w : World} {lim : Nat → Nat} (d : Nat) (c1 c2 : List Value) : ∀ {t : Ty} {fs : List Field} {o : Nat} {x y : t.den}, FsOK P t fs o → t.basic = true → (fs.all fun f => !(f.name == "_")) = true →
    Rd w lim t (c1.drop o) x → Rd w lim t (c2.drop o) y → (Op.eqFields (d + 1) c1.toArray c2.toArray fs).run P w = .ok (eqC x y) w
  | .nil, fs, o, x, y, hf, _, _, _, _ => by
    simp only [FsOK] at hf
    subst hf
    have : eqC x y = true := by rw [eqC_t]
    rw [this]
    simp [Op.eqFields]
  | .cons h t, fs, o, x, y, hf, hb, hn, h1, h2 => by
    simp only [FsOK] at hf
    obtain ⟨f, r, rfl, ho, hfl, hty, hr⟩ := hf
    simp only [List.all_cons, Bool.and_eq_true] at hn
    obtain ⟨hn1, hn2⟩ := hn
    have hname : f.name ≠ "_" := by intro e; rw [e] at hn1; cases hn1
    obtain ⟨a1, a2, ea, ra1, ra2⟩ := h1
    obtain ⟨b1, b2, eb, rb1, rb2⟩ := h2
    have hs := (flat1_size hfl).1
    have la := ra1.length
    have lb := rb1.length
    rw [hs] at la lb
    match a1, la, b1, lb with
    | [u], _, [v], _ =>
    have eu : c1[o]? = some u := by
      have := congrArg (fun l => l[0]?) ea
      simpa using this
    have ev : c2[o]? = some v := by
      have := congrArg (fun l => l[0]?) eb
      simpa using this
    have da : c1.drop (o + 1) = a2 := by rw [← List.drop_drop, ea]; rfl
    have db : c2.drop (o + 1) = b2 := by rw [← List.drop_drop, eb]; rfl
    have pa : (part f.type c1.toArray f.offset).run P w = .ok u w := by simp [part, run_isAgg' hty, (flat1_size hfl).2, ho, eu]
    have pb : (part f.type c2.toArray f.offset).run P w = .ok v w := by simp [part, run_isAgg' hty, (flat1_size hfl).2, ho, ev]
    have tl : ∀ hb' : t.basic = true, (Op.eqFields (d + 1) c1.toArray c2.toArray r).run P w = .ok (eqC x.2 y.2) w := fun hb' => run_eqFields d c1 c2 hr hb' hn2 (by rw [da]; exact ra2) (by rw [db]; exact rb2)
    have go : ∀ (b : Bool), (Op.equalIn (d + 1) f.type u v).run P w = .ok b w → b = eqC x.1 y.1 → t.basic = true → (Op.eqFields (d + 1) c1.toArray c2.toArray (f :: r)).run P w = .ok (eqC x y) w := by
      intro b hb1 hb2 hb3
      rw [eqC_prod, ← hb2]
      simp only [Op.eqFields, if_pos hname, Sem.run_bind, pa, pb, Result.andThen_ok, hb1]
      cases b with
      | true => simp [tl hb3]
      | false => simp
    cases h with
    | int k =>
      simp only [TyOK] at hty
      obtain ⟨eu1, _⟩ := ra1
      obtain ⟨ev1, _⟩ := rb1
      injection eu1 with eu1
      injection ev1 with ev1
      subst eu1; subst ev1
      exact go _ (run_equalIn_int w d f.type k k x.1 y.1 hty.1) (eqC_beq_int x.1 y.1).symm hb
    | bool =>
      simp only [TyOK] at hty
      have eu1 : [u] = [Value.bool x.1] := ra1
      have ev1 : [v] = [Value.bool y.1] := rb1
      injection eu1 with eu1
      injection ev1 with ev1
      subst eu1; subst ev1
      exact go _ (run_equalIn_bool' w d f.type x.1 y.1 hty.1) (eqC_beq_bool x.1 y.1).symm hb
    | _ => cases hb
  | .int _, _, _, _, _, hf, _, _, _, _ => by simp only [FsOK] at hf
  | .bool, _, _, _, _, hf, _, _, _, _ => by simp only [FsOK] at hf
  | .str, _, _, _, _, hf, _, _, _, _ => by simp only [FsOK] at hf
  | .list _, _, _, _, _, hf, _, _, _, _ => by simp only [FsOK] at hf

variable {cx : Cx} {σ : St} {o : Oper} (hd : ∀ k, o.dst = some k → k < cx.N)
include hd

theorem op_bin_st {op : BinOp} {T : TypeId} {x y : Operand} {T' : TypeId} {a b : Ty} (ho : o.op = .binOp op T x y T') (hT : TyOK P (.cons a b) T) (hE : EqSt P T) (hb : (Ty.cons a b).basic = true) (hx : σ.tc (.cons a b) x) (hy : σ.tc (.cons a b) y) (r : Bool) (hs : op = .eql ∧ r = eqC (σ.tv (.cons a b) x) (σ.tv (.cons a b) y) ∨ op = .neq ∧ r = !eqC (σ.tv (.cons a b) x) (σ.tv (.cons a b) y)) :
    OpOK P cx σ o ⟨.rd .bool r, []⟩ :=
  OpOK.of_value hd fun act w lim G hh hf => by
    obtain ⟨c1, r1, e1⟩ := tc_ok hh hf hx
    obtain ⟨c2, r2, e2⟩ := tc_ok hh hf hy
    obtain ⟨fs, u1, u2⟩ := hT.fs (i := 0) (by simp [Ty.nf])
    obtain ⟨hE1, hE2, hE3⟩ := hE
    have hfo : P.fieldsOf T = fs := by unfold Program.fieldsOf; rw [u1]
    rw [hfo] at hE3
    have q1 : act.eval x = .agg c1.toArray := by rw [e1]; simp [mkV, Ty.isAgg]
    have q2 : act.eval y = .agg c2.toArray := by rw [e2]; simp [mkV, Ty.isAgg]
    have hrun : (Op.equalIn 10000 T (.agg c1.toArray) (.agg c2.toArray)).run P w = .ok (eqC (σ.tv (.cons a b) x) (σ.tv (.cons a b) y)) w := by
      rw [run_equalIn_agg w 9999 T c1.toArray c2.toArray (by rw [hfo]; exact u1) hE1, hfo]
      exact run_eqFields 9998 c1 c2 u2 hb hE3 (by simpa using r1) (by simpa using r2)
    have hg := run_eqGuard_agg (P := P) w op T x y c1.toArray c2.toArray hE2
    refine ⟨.bool r, ?_, ?_⟩
    · rcases hs with ⟨rfl, rfl⟩ | ⟨rfl, rfl⟩
      · simp only [execOp, ho, q1, q2, Sem.run_bind, hg, Result.andThen_ok, run_eql_struct, hrun, Sem.run_pure]
      · simp only [execOp, ho, q1, q2, Sem.run_bind, hg, Result.andThen_ok, run_neq_struct, hrun, Sem.run_pure]
    · simp only [AVok]; exact RdV.mk_bool
end

end Go.AL
