/- Steps of a region, with guards and calls; regions in the order of the text, and in whatever order. A general part, over any program. -/
import Derived.Test.YtcbecpjhgfkofaaAL14
set_option linter.unusedSimpArgs false
set_option linter.unusedVariables false
namespace Go.AL
open Go.RowKit

def gcond : AV → Bool → Option Bool
  | .rd .bool c, b => some (c == b)
  | .gd c1 a, b => (gcond a b).map (c1 && ·)
  | _, _ => none

mutual
/-- What a call answers, merely read. -/
def recvG : RV → AV
  | .rd t x => .rd t x
  | .own _ t xs => .rd (.list t) xs
  | .fresh _ _ _ => .any
  | .agg rs => .agg (recvGs rs)
  | .tup rs => .tup (recvGs rs)
def recvGs : List RV → List AV
  | [] => []
  | r :: rs => recvG r :: recvGs rs
end

def callOf : Op → Option (FuncId × List Operand × List TypeId)
  | .call { callee := .value (.func f), args := as, argTypes := ts } => some (f, as.toList, ts.toList)
  | _ => none

/-- One step: the operation o in the state σ has the effect e. -/
def stepR (P : Program) (tb : Tb) (ops : Array Oper) (id : Nat) (σ : St) (o : Oper) (e : Eff) : Prop :=
  match o.guard with
  | none => match callOf o.op with
    | some c => c.2.1.length = c.2.2.length ∧ callR P tb id σ c.1 (c.2.1.zip c.2.2) e
    | none => pvc P tb id σ o.dst o.op ∧ e = peff tb id σ o.op
  | some g => ∃ d C, (ops[g.1]?).bind (·.dst) = some d ∧ gcond (σ.tmps d) g.2 = some C ∧ match callOf o.op with
    | some c => ((C = true → c.2.1.length = c.2.2.length ∧ argC σ tb (c.2.1.zip c.2.2)) ∧ ∃ rv, (C = true → FunOK P c.1 (argD σ tb (c.2.1.zip c.2.2)) rv) ∧ e = ⟨.gd C (recvG rv), []⟩) ∨
      ((C = true → c.2.1.length = c.2.2.length ∧ argC σ.settle tb (c.2.1.zip c.2.2)) ∧ ∃ rv, (C = true → FunOK P c.1 (argD σ.settle tb (c.2.1.zip c.2.2)) rv) ∧ rv.noL = true ∧ e = ⟨.gd C (recvG rv), []⟩)
    | none => (C = true → pvc P tb id σ o.dst o.op ∧ (peff tb id σ o.op).upds = []) ∧ e = ⟨.gd C (peff tb id σ o.op).av, []⟩

def StepOK (P : Program) (cx : Cx) (ops : Array Oper) (σ : St) (o : Oper) (e : Eff) : Prop :=
  ∀ (a : Act) (w : World) (K : Act → World → Prop) (Q : Exit → Act → World → Prop), Sat cx σ a w → (∀ a' w', Sat cx (σ.app o.dst e) a' w' → K a' w') →
    if Region.wanted o (yielded ops a.tmps) then o.wp P a w K Q else K (a.put o.dst undef) w

theorem callOf_spec {op : Op} {c : FuncId × List Operand × List TypeId} (h : callOf op = some c) : op = .call { callee := .value (.func c.1), args := c.2.1.toArray, argTypes := c.2.2.toArray } := by
  unfold callOf at h
  split at h
  · injection h with h; subst h; rfl
  · cases h

theorem gcond_spec {w : World} {lim : Nat → Nat} {G : Nat → Value} {objs : Nat → AObj} {b C : Bool} {ops : Array Oper} {o : Oper} {g d : Nat} {tmps : Array Value} (hg : o.guard = some (g, b)) (hd : (ops[g]?).bind (·.dst) = some d) :
    ∀ {av : AV}, AVok w lim G objs av (tmps.getD d undef) → gcond av b = some C → Region.wanted o (yielded ops tmps) = C
  | .rd t x, h, hc => by
    cases t with
    | bool =>
      simp only [gcond] at hc
      injection hc with hc
      simp only [AVok] at h
      have hv := h.bool
      have hs : tmps[d]? = some (.bool x) := by
        rw [Array.getD_eq_getD_getElem?] at hv
        cases he : tmps[d]? with
        | none => rw [he] at hv; simp [undef] at hv
        | some v => rw [he] at hv; simpa using hv
      have hy : yielded ops tmps g = some x := by simp [yielded, hd, hs]
      simp only [Region.wanted, hg, hy]
      rw [← hc]
      cases x <;> cases b <;> rfl
    | _ => simp only [gcond] at hc; cases hc
  | .gd c1 a, h, hc => by
    simp only [gcond, Option.map_eq_some_iff] at hc
    obtain ⟨C', h1, h2⟩ := hc
    simp only [AVok] at h
    cases c1 with
    | true =>
      rw [gcond_spec hg hd (h.1 rfl) h1, ← h2]; rfl
    | false =>
      have hv := h.2 rfl
      have hy : yielded ops tmps g = none := by
        rw [Array.getD_eq_getD_getElem?] at hv
        simp only [yielded, hd, Option.bind_some]
        cases he : tmps[d]? with
        | none => rfl
        | some v => rw [he] at hv; simp at hv; rw [hv]; rfl
      simp only [Region.wanted, hg, hy]
      rw [← h2]; rfl
  | .any, _, hc | .ptr _ _, _, hc | .nils, _, hc | .own _, _, hc | .bp _ _, _, hc | .ep _ _ _, _, hc | .ef _ _ _ _, _, hc | .agg _, _, hc | .tup _, _, hc | .fn _ _, _, hc => by simp only [gcond] at hc; cases hc

section
variable {w : World} {lim : Nat → Nat} {base : Nat} {G : Nat → Value} {objs : Nat → AObj}
mutual
theorem recvG_ok : ∀ (rv : RV) (v : Value) (fp : List Nat), RVok w lim base rv v fp → AVok w lim G objs (recvG rv) v
  | .rd t x, v, fp, h => by simp only [RVok] at h; simp only [recvG, AVok]; exact h.1
  | .own e t xs, v, fp, h => by simp only [RVok] at h; simp only [recvG, AVok]; exact ownsRow_rd h.1 h.2.1
  | .fresh e t xs, v, fp, h => by simp only [recvG, AVok]
  | .agg rs, v, fp, h => by
    simp only [RVok] at h
    obtain ⟨vs, h1, h2⟩ := h
    simp only [recvG, AVok]
    exact ⟨vs, h1, recvGs_ok rs vs fp h2⟩
  | .tup rs, v, fp, h => by
    simp only [RVok] at h
    obtain ⟨vs, h1, h2⟩ := h
    simp only [recvG, AVok]
    exact ⟨vs, h1, recvGs_ok rs vs fp h2⟩
theorem recvGs_ok : ∀ (rs : List RV) (vs : List Value) (fp : List Nat), RVsOk w lim base rs vs fp → AVsOk w lim G objs (recvGs rs) vs
  | [], vs, fp, h => by simp only [RVsOk] at h; simp only [recvGs, AVsOk]; exact h.1
  | r :: rs, vs, fp, h => by
    simp only [RVsOk] at h
    obtain ⟨v, vr, f1, f2, e1, _, h1, h2⟩ := h
    simp only [recvGs, AVsOk]
    exact ⟨v, vr, e1, recvG_ok r v f1 h1, recvGs_ok rs vr f2 h2⟩
end
end

section
variable {P : Program} {cx : Cx} {σ : St} {o : Oper} {tb : Tb} {id : Nat} {ops : Array Oper} {e : Eff}

theorem op_callG (hd : ∀ k, o.dst = some k → k < cx.N) {f : FuncId} {as : List Operand} {ts : List TypeId} {rv : RV} (ho : o.op = .call { callee := .value (.func f), args := as.toArray, argTypes := ts.toArray }) (hl : as.length = ts.length)
    (hc : argC σ tb (as.zip ts)) (hfun : FunOK P f (argD σ tb (as.zip ts)) rv) : OpOK P cx σ o ⟨recvG rv, []⟩ := by
  intro a w K Q hsat hK
  obtain ⟨lim, G, hh, hf⟩ := hsat
  obtain ⟨⟨fn, hfn, hnm, hbd⟩, hcall⟩ := hfun
  have hargs := arg_ok hh hf tb _ hc
  have e1 : (as.zip ts).map (fun p => a.eval p.1) = as.map a.eval := map_zip a.eval as ts hl
  rw [e1] at hargs
  have hcalls := hcall w lim _ hargs
  have hrun : (execOp a.eval o).run P w = .ok (.enter f (as.map a.eval).toArray) w := by
    have hnm' : ¬ fn.name = "runtime.NumGoroutine" := by simpa using hnm
    have hbd' : ¬ fn.body = none := by intro h; rw [h] at hbd; cases hbd
    simp [execOp, ho, resolve, invoke, callFunc, Act.eval, Deferred.ofValue, hfn, hnm', hbd']
  unfold Oper.wp
  rw [hrun]
  simp only [Oper.upon]
  refine hcalls.mono fun e w' hpost => ?_
  obtain ⟨v, lim', fp, he, hb, hl', hrv, hnd⟩ := hpost
  subst he
  refine hK _ _ ?_
  obtain ⟨hh', hk⟩ := hh.world hb hl'
  have hf' := hf.keeps hk (Ext.refl G σ.objs)
  rw [app_nil]
  exact ⟨lim', G, by rw [put_objs]; exact hh', hf'.put hd (recvG_ok rv v fp hrv)⟩

theorem OpOK.stepNone (h : OpOK P cx σ o e) (hg : o.guard = none) : StepOK P cx ops σ o e := by
  intro a w K Q hs hK
  rw [if_pos (by simp [Region.wanted, hg])]
  exact h a w K Q hs hK

theorem OpOK.stepGuard {g : Nat} {b C : Bool} {d : Nat} {av : AV} (hd : ∀ k, o.dst = some k → k < cx.N) (hg : o.guard = some (g, b)) (hgd : (ops[g]?).bind (·.dst) = some d) (hC : gcond (σ.tmps d) b = some C) (h : C = true → OpOK P cx σ o ⟨av, []⟩) :
    StepOK P cx ops σ o ⟨.gd C av, []⟩ := by
  intro a w K Q hs hK
  have hw : Region.wanted o (yielded ops a.tmps) = C := by
    obtain ⟨lim, G, hh, hf⟩ := hs
    exact gcond_spec hg hgd (hf.tmp d) hC
  rw [hw]
  cases C with
  | true =>
    rw [if_pos rfl]
    refine h rfl a w K Q hs fun a' w' hs' => hK a' w' ?_
    obtain ⟨lim, G, hh, hf⟩ := hs'
    rw [app_nil] at hh hf ⊢
    rw [put_objs] at hh
    refine ⟨lim, G, by rw [put_objs]; exact hh, hf.size, hf.defers, fun t => ?_, fun p hp => by have := hf.ext p hp; rw [put_objs] at this ⊢; exact this⟩
    have := hf.tmp t
    rw [put_objs] at this ⊢
    cases hdst : o.dst with
    | none => rw [hdst] at this; exact this
    | some k =>
      rw [hdst] at this
      simp only [St.put] at this ⊢
      by_cases ht : t = k
      · subst ht
        rw [upd_same] at this ⊢
        simp only [AVok]
        exact ⟨fun _ => this, fun h => by cases h⟩
      · rw [upd_ne _ _ _ _ ht] at this ⊢
        exact this
  | false =>
    rw [if_neg (by simp)]
    refine hK _ _ ?_
    obtain ⟨lim, G, hh, hf⟩ := hs
    rw [app_nil]
    exact ⟨lim, G, by rw [put_objs]; exact hh, hf.put hd (by simp only [AVok]; exact ⟨(fun h => by cases h), (fun _ => by first | rfl | trivial)⟩)⟩

theorem stepR_sound (hd : ∀ k, o.dst = some k → k < cx.N) (h : stepR P tb ops id σ o e) : StepOK P cx ops σ o e := by
  unfold stepR at h
  cases hg : o.guard with
  | none =>
    rw [hg] at h
    simp only at h
    cases hc : callOf o.op with
    | none =>
      rw [hc] at h
      obtain ⟨h1, h2⟩ := h
      subst h2
      exact (pure_sound hd rfl h1).stepNone hg
    | some c =>
      rw [hc] at h
      obtain ⟨h1, h2⟩ := h
      exact (callR_sound hd (callOf_spec hc) h1 h2).stepNone hg
  | some g =>
    rw [hg] at h
    obtain ⟨gi, b⟩ := g
    obtain ⟨d, C, h1, h2, h3⟩ := h
    cases hc : callOf o.op with
    | none =>
      rw [hc] at h3
      obtain ⟨k1, k2⟩ := h3
      subst k2
      refine OpOK.stepGuard hd hg h1 h2 fun hC => ?_
      have := pure_sound hd rfl (k1 hC).1
      have e2 : peff tb id σ o.op = ⟨(peff tb id σ o.op).av, []⟩ := by
        have hu := (k1 hC).2
        generalize peff tb id σ o.op = q at *
        cases q
        simp only at hu
        rw [hu]
      rwa [e2] at this
    | some c =>
      rw [hc] at h3
      rcases h3 with ⟨k1, rv, k2, k3⟩ | ⟨k1, rv, k2, k4, k3⟩
      · subst k3
        exact OpOK.stepGuard hd hg h1 h2 fun hC => op_callG hd (callOf_spec hc) (k1 hC).1 (k1 hC).2 (k2 hC)
      · subst k3
        exact OpOK.stepGuard hd hg h1 h2 fun hC => op_callB0 hd (callOf_spec hc) (k1 hC).1 (k1 hC).2 (k2 hC) k4 fun w lim base G v fp hr => recvG_ok rv v fp hr

/-- The text's order. -/
inductive Run (P : Program) (tb : Tb) (N : Nat) (ops : Array Oper) : List Oper → Nat → St → List Eff → St → Prop
  | nil (id : Nat) (σ : St) : Run P tb N ops [] id σ [] σ
  | cons {o : Oper} {r : List Oper} {id : Nat} {σ σ' : St} {e : Eff} {es : List Eff} (hd : ∀ k, o.dst = some k → k < N) (h : stepR P tb ops id σ o e) (hr : Run P tb N ops r (id + 16) (σ.app o.dst e) es σ') : Run P tb N ops (o :: r) id σ (e :: es) σ'

theorem Run.wp {l : List Oper} {es : List Eff} {σ' : St} (h : Run P tb cx.N ops l id σ es σ') : ∀ {a : Act} {w : World} {Q : Exit → Act → World → Prop}, Sat cx σ a w → (∀ a' w', Sat cx σ' a' w' → Q .normal a' w') → wpList P ops Q l a w := by
  induction h with
  | nil => intro a w Q hs hQ; exact hQ a w hs
  | cons hd h _ ih =>
    intro a w Q hs hQ
    refine wpList_step fun K hK => ?_
    exact stepR_sound hd h a w K Q hs fun a' w' hs' => hK a' w' (ih hs' hQ)

end
end Go.AL
