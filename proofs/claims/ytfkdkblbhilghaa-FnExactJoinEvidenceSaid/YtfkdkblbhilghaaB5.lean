/- Code on abstract frames: sequences, tests, blocks, loops. A general part, over any program. -/
import Derived.Test.YtfkdkblbhilghaaB4
set_option linter.unusedSimpArgs false
set_option linter.unusedVariables false
namespace Go.AL
open Go.RowKit

/-! ### Regions, reckoned -/

def callK (P : Program) (f : FuncId) (args : List TV) (k : RV → Prop) : Prop := ∃ rv, FunOK P f args rv ∧ k rv
def callG (P : Program) (C : Bool) (f : FuncId) (args : List TV) (k : RV → Prop) : Prop := ∃ rv, (C = true → FunOK P f args rv) ∧ k rv

/-- A call to which something is lent, or which only reads what was made. -/
def callM (P : Program) (f : FuncId) (bC : Prop) (bA : List TV) (mC : Prop) (mS : List (Option Nat)) (mA : List MA) (ids : List Nat) (kB : RV → Prop) (kM : RV → List AObj → Prop) : Prop :=
  (bC ∧ ∃ rv, rv.noL = true ∧ FunOK P f bA rv ∧ kB rv) ∨ ((mC ∧ ids.Nodup) ∧ ∃ rv outs, MutOK P f mS mA rv outs ∧ (outs.length = ids.length ∧ ∀ q, q ∈ outs → q.clo = true) ∧ kM rv outs)

def dstOK (N : Nat) : Option Nat → Prop
  | none => True
  | some d => d < N

def stepK (P : Program) (tb : Tb) (N : Nat) (ops : Array Oper) (id : Nat) (σ : St) (o : Oper) (K : Eff → Prop) : Prop :=
  dstOK N o.dst ∧ match o.guard with
  | none => match callOf o.op with
    | some c => c.2.1.length = c.2.2.length ∧ bif plB σ c.2.1 then argC σ tb (c.2.1.zip c.2.2) ∧ callK P c.1 (argD σ tb (c.2.1.zip c.2.2)) fun rv => rvN rv ≤ 16 ∧ unb σ id (rvN rv) ∧ K ⟨recvA id rv, recvU id rv⟩
      else callM P c.1 (argC σ.settle tb (c.2.1.zip c.2.2)) (argD σ.settle tb (c.2.1.zip c.2.2)) (mArgC σ tb (c.2.1.zip c.2.2)) (mArgS σ (c.2.1.zip c.2.2)) (mArgD σ tb (c.2.1.zip c.2.2)) (mArgI σ (c.2.1.zip c.2.2))
        (fun rv => rvN rv ≤ 16 ∧ unb σ id (rvN rv) ∧ K ⟨recvA id rv, recvU id rv⟩)
        (fun rv outs => rvN rv ≤ 16 ∧ unb σ id (rvN rv) ∧ K ⟨recvA id rv, (mArgI σ (c.2.1.zip c.2.2)).zip outs ++ recvU id rv⟩)
    | none => pvc P tb id σ o.dst o.op ∧ K (peff tb id σ o.op)
  | some g => match (ops[g.1]?).bind (·.dst) with
    | none => False
    | some d => match gcond (σ.tmps d) g.2 with
      | none => False
      | some C => match callOf o.op with
        | some c => bif plB σ c.2.1 then (C = true → c.2.1.length = c.2.2.length ∧ argC σ tb (c.2.1.zip c.2.2)) ∧ callG P C c.1 (argD σ tb (c.2.1.zip c.2.2)) fun rv => K ⟨.gd C (recvG rv), []⟩
          else (C = true → c.2.1.length = c.2.2.length ∧ argC σ.settle tb (c.2.1.zip c.2.2)) ∧ callG P C c.1 (argD σ.settle tb (c.2.1.zip c.2.2)) fun rv => rv.noL = true ∧ K ⟨.gd C (recvG rv), []⟩
        | none => (C = true → pvc P tb id σ o.dst o.op ∧ (peff tb id σ o.op).upds = []) ∧ K ⟨.gd C (peff tb id σ o.op).av, []⟩

theorem stepK_spec {P : Program} {tb : Tb} {N : Nat} {ops : Array Oper} {id : Nat} {σ : St} {o : Oper} {K : Eff → Prop} (h : stepK P tb N ops id σ o K) : ∃ e, (∀ k, o.dst = some k → k < N) ∧ stepR P tb ops id σ o e ∧ K e := by
  unfold stepK at h
  obtain ⟨h0, h⟩ := h
  have hd : ∀ k, o.dst = some k → k < N := by intro k hk; rw [hk] at h0; exact h0
  unfold stepR
  cases hg : o.guard with
  | none =>
    rw [hg] at h
    simp only at h ⊢
    cases hc : callOf o.op with
    | none => rw [hc] at h; exact ⟨_, hd, ⟨h.1, rfl⟩, h.2⟩
    | some c =>
      rw [hc] at h
      obtain ⟨h1, h2⟩ := h
      cases hpl : plB σ c.2.1 with
      | true =>
        rw [hpl] at h2
        obtain ⟨h2, rv, h3, h4, h5, h6⟩ := h2
        exact ⟨_, hd, ⟨h1, .inl ⟨h2, rv, h3, h4, h5, rfl⟩⟩, h6⟩
      | false =>
        rw [hpl] at h2
        rcases h2 with ⟨h2, rv, h0, h3, h4, h5, h6⟩ | ⟨h2, rv, outs, h3, h0, h4, h5, h6⟩
        · exact ⟨_, hd, ⟨h1, .inr (.inl ⟨h2, rv, h0, h3, h4, h5, rfl⟩)⟩, h6⟩
        · exact ⟨_, hd, ⟨h1, .inr (.inr ⟨h2, rv, outs, h3, h0, h4, h5, rfl⟩)⟩, h6⟩
  | some g =>
    rw [hg] at h
    simp only at h
    cases hd' : (ops[g.1]?).bind (·.dst) with
    | none => rw [hd'] at h; exact h.elim
    | some d =>
      rw [hd'] at h
      simp only at h
      cases hC : gcond (σ.tmps d) g.2 with
      | none => rw [hC] at h; exact h.elim
      | some C =>
        rw [hC] at h
        simp only at h
        cases hc : callOf o.op with
        | none => rw [hc] at h; exact ⟨_, hd, ⟨d, C, hd', hC, h.1, rfl⟩, h.2⟩
        | some c =>
          rw [hc] at h
          simp only at h
          cases hpl : plB σ c.2.1 with
          | true =>
            rw [hpl] at h
            obtain ⟨h1, rv, h3, h4⟩ := h
            exact ⟨_, hd, ⟨d, C, hd', hC, .inl ⟨h1, rv, h3, rfl⟩⟩, h4⟩
          | false =>
            rw [hpl] at h
            obtain ⟨h1, rv, h3, h5, h4⟩ := h
            exact ⟨_, hd, ⟨d, C, hd', hC, .inr ⟨h1, rv, h3, h5, rfl⟩⟩, h4⟩

def T (P : Program) (cx : Cx) (c : Code) (Q : Exit → St → Prop) (σ : St) : Prop :=
  ∀ a w, Sat cx σ a w → c.wp P (fun e a' w' => ∃ σ', Q e σ' ∧ Sat cx σ' a' w') a w

/-! ### Calls of function values, among the caller's own objects -/

def finC (k : St → Prop) (e : Exit) (σ : St) : Prop :=
  match e with
  | .normal => k σ
  | .ret => k σ
  | _ => False

def initA : Nat → List AV → Nat → AV
  | _, [], _ => .any
  | k, a :: r, t => bif Nat.beq t k then a else initA (k + 1) r t

def unL (σ : St) : List Operand → List AV
  | [] => []
  | x :: r => σ.un x :: unL σ r
def ucL (σ : St) : List Operand → Prop
  | [] => True
  | x :: r => σ.uc x ∧ ucL σ r

def resOf : List ResultVar → St → Option AV
  | [], _ => some .any
  | [.tmp t], σ => some (σ.tmps t)
  | _, _ => none

def inlQ (P : Program) (σ : St) (dst : Option Nat) (f : FuncId) (caps : List AV) (as : List Operand) (K : St → Prop) : Prop :=
  ∃ (fn : Func) (c : Code), P.funcs[f]? = some fn ∧ (fn.name == "runtime.NumGoroutine") = false ∧ fn.body = some c ∧
    as.length + caps.length ≤ fn.ntmps ∧ ucL σ as ∧ ∀ cx : Cx, cx.N = fn.ntmps → T P cx c (finC fun σ' => ∃ av, resOf fn.results.toList σ' = some av ∧ K ⟨(σ.put dst av).tmps, σ'.objs⟩) ⟨initA 0 (unL σ as ++ caps), σ.objs⟩

def cloQ (P : Program) (σ : St) (dst : Option Nat) (k : Nat) (as : List Operand) (K : St → Prop) : Prop :=
  ∃ (f : FuncId) (caps : List AV), σ.tmps k = .fn f caps ∧ inlQ P σ dst f caps as K

def cloOp : Op → Option (Nat × List Operand)
  | .call { callee := .value (.tmp k), args := as, argTypes := _ } => some (k, as.toList)
  | _ => none
def cloOf (o : Oper) : Option (Nat × List Operand) :=
  match o.guard with
  | none => cloOp o.op
  | some _ => none

def inlOp (tb : Tb) : Op → Option (FuncId × List Operand)
  | .call { callee := .value (.func f), args := as, argTypes := _ } => if tb.inl f = true then some (f, as.toList) else none
  | _ => none
def inlOf (tb : Tb) (o : Oper) : Option (FuncId × List Operand) :=
  match o.guard with
  | none => inlOp tb o.op
  | some _ => none

theorem inlOf_spec {tb : Tb} {o : Oper} {c : FuncId × List Operand} (h : inlOf tb o = some c) : o.guard = none ∧ ∃ ts, o.op = .call { callee := .value (.func c.1), args := c.2.toArray, argTypes := ts } := by
  unfold inlOf at h
  cases hg : o.guard with
  | some _ => rw [hg] at h; cases h
  | none =>
    rw [hg] at h
    simp only at h
    refine ⟨rfl, ?_⟩
    unfold inlOp at h
    split at h
    · rename_i f as ts heq
      split at h
      · injection h with h; subst h; exact ⟨ts, by rw [heq]⟩
      · cases h
    · cases h

def innOp (tb : Tb) : Op → Option (FuncId × List Operand)
  | .call { callee := .value (.func f), args := as, argTypes := _ } => if tb.inn f = true then some (f, as.toList) else none
  | _ => none
def innOf (tb : Tb) (o : Oper) : Option (FuncId × List Operand) :=
  match o.guard with
  | none => innOp tb o.op
  | some _ => none
theorem innOf_spec {tb : Tb} {o : Oper} {c : FuncId × List Operand} (h : innOf tb o = some c) : o.guard = none ∧ ∃ ts, o.op = .call { callee := .value (.func c.1), args := c.2.toArray, argTypes := ts } := by
  unfold innOf at h
  cases hg : o.guard with
  | some _ => rw [hg] at h; cases h
  | none =>
    rw [hg] at h
    simp only at h
    refine ⟨rfl, ?_⟩
    unfold innOp at h
    split at h
    · rename_i f as ts heq
      split at h
      · injection h with h; subst h; exact ⟨ts, by rw [heq]⟩
      · cases h
    · cases h

theorem cloOf_spec {o : Oper} {c : Nat × List Operand} (h : cloOf o = some c) : o.guard = none ∧ ∃ ts, o.op = .call { callee := .value (.tmp c.1), args := c.2.toArray, argTypes := ts } := by
  unfold cloOf at h
  cases hg : o.guard with
  | some _ => rw [hg] at h; cases h
  | none =>
    rw [hg] at h
    simp only at h
    refine ⟨rfl, ?_⟩
    unfold cloOp at h
    split at h
    · rename_i k as ts heq
      injection h with h; subst h; exact ⟨ts, by rw [heq]⟩
    · cases h

theorem initA_get : ∀ (l : List AV) (k t : Nat), initA k l t = if k ≤ t then l.getD (t - k) .any else .any
  | [], k, t => by simp [initA]
  | a :: r, k, t => by
    simp only [initA]
    cases hb : Nat.beq t k with
    | true => rw [Nat.eq_of_beq_eq_true hb]; simp
    | false =>
      have hne : t ≠ k := fun e => by rw [e, Nat.beq_refl] at hb; cases hb
      simp only [cond_false]
      rw [initA_get r (k + 1) t]
      by_cases h1 : k ≤ t
      · rw [if_pos h1, if_pos (by omega), show t - k = (t - (k + 1)) + 1 by omega]
        rfl
      · rw [if_neg h1, if_neg (by omega)]

theorem unL_ok {cx : Cx} {σ : St} {a : Act} {w : World} {lim : Nat → Nat} {G : Nat → Rt} (hf : Fr cx σ a w lim G) : ∀ (as : List Operand), ucL σ as → AVsOk w lim G σ.objs (unL σ as) (as.map a.eval)
  | [], _ => by simp only [unL, List.map_nil, AVsOk]
  | x :: r, h => by
    simp only [unL, List.map_cons, AVsOk]
    exact ⟨_, _, rfl, un_ok hf x h.1, unL_ok hf r h.2⟩

theorem AVsOk.app {w : World} {lim : Nat → Nat} {G : Nat → Rt} {objs : Nat → AObj} : ∀ {l l2 : List AV} {vs vs2 : List Value}, AVsOk w lim G objs l vs → AVsOk w lim G objs l2 vs2 → AVsOk w lim G objs (l ++ l2) (vs ++ vs2)
  | [], _, vs, _, h1, h2 => by simp only [AVsOk] at h1; subst h1; simpa using h2
  | a :: l, _, vs, vs2, h1, h2 => by
    simp only [AVsOk] at h1
    obtain ⟨v, r, e, h3, h4⟩ := h1
    subst e
    simp only [List.cons_append, AVsOk]
    exact ⟨v, r ++ vs2, rfl, h3, h4.app h2⟩

theorem inlQ_sound {P : Program} {cx : Cx} {σ : St} {o : Oper} {f : FuncId} {caps : List AV} {arr : List Value} {as : List Operand} {K : St → Prop} (hd : ∀ k, o.dst = some k → k < cx.N) {a : Act} {w : World} {lim : Nat → Nat} {G : Nat → Rt} (hh : Hp cx σ.objs w lim G) (hf : Fr cx σ a w lim G)
    (hca : AVsOk w lim G σ.objs caps arr) (hex : ∀ fn, P.funcs[f]? = some fn → (fn.name == "runtime.NumGoroutine") = false → fn.body.isNone = false → (execOp a.eval o).run P w = .ok (.enter f (as.map a.eval ++ arr).toArray) w)
    (h : inlQ P σ o.dst f caps as K) {Kw : Act → World → Prop} {Q : Exit → Act → World → Prop} (hK : ∀ σ' a' w', K σ' → Sat cx σ' a' w' → Kw a' w') : o.wp P a w Kw Q := by
  obtain ⟨fn, c, hfn, hnm, hbd, hlen, huc, hT⟩ := h
  have hall := (unL_ok hf as huc).app hca
  have hrun := hex fn hfn hnm (by rw [hbd]; rfl)
  let cx2 : Cx := { cx with N := fn.ntmps, F := fun p => cx.F p ∨ ∃ t, p = (σ.tmps t, a.tmps.getD t undef) }
  have hh2 : Hp cx2 σ.objs w lim G := ⟨hh.start, hh.below, hh.lim0, hh.obj, hh.sep, hh.mine, hh.lent, hh.nob⟩
  have hln := hall.length
  have hs2 : Sat cx2 ⟨initA 0 (unL σ as ++ caps), σ.objs⟩ { tmps := (as.map a.eval ++ arr).toArray ++ Array.replicate (fn.ntmps - (as.map a.eval ++ arr).toArray.size) undef, defers := [] } w := by
    refine ⟨lim, G, hh2, ?_, rfl, fun t => ?_, fun p hp => ?_⟩
    · show ((as.map a.eval ++ arr).toArray ++ Array.replicate (fn.ntmps - (as.map a.eval ++ arr).toArray.size) undef).size = fn.ntmps
      have h9 : (unL σ as).length = as.length := by
        have := (unL_ok hf as huc).length
        simpa using this.symm
      have h8 := hca.length
      simp only [Array.size_append, List.size_toArray, Array.size_replicate, List.length_append, List.length_map]
      omega
    · show AVok w lim G σ.objs (initA 0 (unL σ as ++ caps) t) _
      rw [initA_get, if_pos (Nat.zero_le _), Nat.sub_zero]
      rcases Nat.lt_or_ge t (as.map a.eval ++ arr).length with hlt | hge
      · have e : ((as.map a.eval ++ arr).toArray ++ Array.replicate (fn.ntmps - (as.map a.eval ++ arr).toArray.size) undef).getD t undef = (as.map a.eval ++ arr).getD t undef := by
          rw [Array.getD_eq_getD_getElem?, Array.getElem?_append, if_pos (by simpa using hlt), List.getElem?_toArray, List.getD_eq_getElem?_getD]
        rw [e]
        exact hall.get t (by omega)
      · rw [List.getD_eq_getElem?_getD, List.getElem?_eq_none (by omega)]
        simp only [Option.getD_none, AVok]
    · show AVok w lim G σ.objs p.1 p.2
      rcases hp with hp | ⟨t, rfl⟩
      · exact hf.ext p hp
      · exact hf.tmp t
  have hcalls : Calls P f (as.map a.eval ++ arr).toArray w fun e w' => ∃ v, e = .returned v ∧ ∃ σ' a' lim' G' av, AVok w' lim' G' σ'.objs av v ∧ K ⟨(σ.put o.dst av).tmps, σ'.objs⟩ ∧ Hp cx2 σ'.objs w' lim' G' ∧ Fr cx2 σ' a' w' lim' G' := by
    refine calls_of_wp hfn hbd (wp_mono (hT cx2 rfl _ w hs2) fun e a' w' hq => ?_)
    obtain ⟨σ', h1, lim', G', hh', hf'⟩ := hq
    have fin : (∃ av, resOf fn.results.toList σ' = some av ∧ K ⟨(σ.put o.dst av).tmps, σ'.objs⟩) → a'.defers = [] ∧ ∃ v, (results fn a'.tmps).run P w' = .ok v w' ∧ ∃ v0, Ending.returned v = .returned v0 ∧ ∃ σ' a' lim' G' av, AVok w' lim' G' σ'.objs av v0 ∧ K ⟨(σ.put o.dst av).tmps, σ'.objs⟩ ∧ Hp cx2 σ'.objs w' lim' G' ∧ Fr cx2 σ' a' w' lim' G' := by
      rintro ⟨av, hr, hk⟩
      have hv : ∃ v, (results fn a'.tmps).run P w' = .ok v w' ∧ AVok w' lim' G' σ'.objs av v := by
        cases hrs : fn.results.toList with
        | nil =>
          rw [hrs] at hr
          simp only [resOf, Option.some.injEq] at hr
          subst hr
          have hre : fn.results = #[] := by rw [← Array.toList_inj, hrs]
          refine ⟨.tuple #[], ?_, by simp only [AVok]⟩
          unfold results
          rw [hre]
          simp
        | cons q r =>
          cases r with
          | cons _ _ => rw [hrs] at hr; cases q <;> simp [resOf] at hr
          | nil =>
            cases q with
            | cell _ _ => rw [hrs] at hr; simp [resOf] at hr
            | tmp t =>
              rw [hrs] at hr
              simp only [resOf, Option.some.injEq] at hr
              subst hr
              have hre : fn.results = #[.tmp t] := by rw [← Array.toList_inj, hrs]
              refine ⟨a'.tmps.getD t undef, ?_, hf'.tmp t⟩
              unfold results
              rw [hre]
              simp
      obtain ⟨v, hv1, hv2⟩ := hv
      exact ⟨hf'.defers, v, hv1, v, rfl, σ', a', lim', G', av, hv2, hk, hh', hf'⟩
    cases e with
    | normal => exact fin h1
    | ret => exact fin h1
    | _ => exact h1.elim
  unfold Oper.wp
  rw [hrun]
  simp only [Oper.upon]
  refine hcalls.mono fun e w' hpost => ?_
  obtain ⟨v, he, σ', a', lim', G', av, hav, hk, hh', hf'⟩ := hpost
  subst he
  refine hK _ _ _ hk ⟨lim', G', ⟨hh'.start, hh'.below, hh'.lim0, hh'.obj, hh'.sep, hh'.mine, hh'.lent, hh'.nob⟩, ?_⟩
  have hf1 : Fr cx ⟨σ.tmps, σ'.objs⟩ a w' lim' G' := ⟨hf.size, hf.defers, fun t => hf'.ext (σ.tmps t, a.tmps.getD t undef) (.inr ⟨t, rfl⟩), fun p hp => hf'.ext p (.inl hp)⟩
  have hf2 := hf1.put hd (av := av) (v := v) hav
  have e : (St.mk (σ.put o.dst av).tmps σ'.objs) = (St.mk σ.tmps σ'.objs).put o.dst av := by cases o.dst <;> rfl
  rw [e]
  exact hf2

theorem cloQ_sound {P : Program} {cx : Cx} {σ : St} {o : Oper} {k : Nat} {as : List Operand} {ts : Array TypeId} {K : St → Prop} (hd : ∀ k, o.dst = some k → k < cx.N) (ho : o.op = .call { callee := .value (.tmp k), args := as.toArray, argTypes := ts })
    (h : cloQ P σ o.dst k as K) {a : Act} {w : World} {Kw : Act → World → Prop} {Q : Exit → Act → World → Prop} (hs : Sat cx σ a w) (hK : ∀ σ' a' w', K σ' → Sat cx σ' a' w' → Kw a' w') : o.wp P a w Kw Q := by
  obtain ⟨lim, G, hh, hf⟩ := hs
  obtain ⟨f, caps, ht, h⟩ := h
  have hv := hf.tmp k
  rw [ht] at hv
  simp only [AVok] at hv
  obtain ⟨arr, hv, hca⟩ := hv
  refine inlQ_sound hd hh hf hca (fun fn hfn hnm hbd => ?_) h hK
  have hnm' : ¬ fn.name = "runtime.NumGoroutine" := by simpa using hnm
  have hbd' : ¬ fn.body = none := by intro h; rw [h] at hbd; cases hbd
  have hv' : a.tmps[k]?.getD undef = .func (.func f) #[] arr.toArray := by rw [← hv, Array.getD_eq_getD_getElem?]
  simp [execOp, ho, resolve, invoke, callFunc, Act.eval, Deferred.ofValue, hfn, hnm', hbd', hv']

theorem inlF_sound {P : Program} {cx : Cx} {σ : St} {o : Oper} {f : FuncId} {as : List Operand} {ts : Array TypeId} {K : St → Prop} (hd : ∀ k, o.dst = some k → k < cx.N) (ho : o.op = .call { callee := .value (.func f), args := as.toArray, argTypes := ts })
    (h : inlQ P σ o.dst f [] as K) {a : Act} {w : World} {Kw : Act → World → Prop} {Q : Exit → Act → World → Prop} (hs : Sat cx σ a w) (hK : ∀ σ' a' w', K σ' → Sat cx σ' a' w' → Kw a' w') : o.wp P a w Kw Q := by
  obtain ⟨lim, G, hh, hf⟩ := hs
  refine inlQ_sound hd hh hf (arr := []) (by simp only [AVsOk]) (fun fn hfn hnm hbd => ?_) h hK
  have hnm' : ¬ fn.name = "runtime.NumGoroutine" := by simpa using hnm
  have hbd' : ¬ fn.body = none := by intro h; rw [h] at hbd; cases hbd
  simp [execOp, ho, resolve, invoke, callFunc, Act.eval, Deferred.ofValue, hfn, hnm', hbd']

def runS (P : Program) (tb : Tb) (N : Nat) (ops : Array Oper) : List Oper → Nat → St → (St → Prop) → Prop
  | [], _, σ, K => K σ
  | o :: r, id, σ, K => match cloOf o with
    | some c => (∀ k, o.dst = some k → k < N) ∧ cloQ P σ o.dst c.1 c.2 fun σ' => runS P tb N ops r (id + 16) σ' K
    | none => match inlOf tb o with
      | some c => (∀ k, o.dst = some k → k < N) ∧ inlQ P σ o.dst c.1 [] c.2 fun σ' => runS P tb N ops r (id + 16) σ' K
      | none => match innOf tb o with
        | some c => (∀ k, o.dst = some k → k < N) ∧ innQ P σ o.dst c.1 c.2 fun σ' => runS P tb N ops r (id + 16) σ' K
        | none => stepK P tb N ops id σ o fun e => runS P tb N ops r (id + 16) (σ.app o.dst e) K

def runD (P : Program) (tb : Tb) (N : Nat) (ops : Array Oper) : List Oper → Nat → St → List Info → (St → List Info → Prop) → Prop
  | [], _, σ, is, K => K σ is.reverse
  | o :: r, id, σ, is, K => stepK P tb N ops id σ o fun e => runD P tb N ops r (id + 16) (σ.app o.dst e) (⟨o, e.upds.map (·.1), rids σ o, id⟩ :: is) K

theorem runS_wp {P : Program} {tb : Tb} {cx : Cx} {ops : Array Oper} {K : St → Prop} {Q : Exit → Act → World → Prop} : ∀ {l : List Oper} {id : Nat} {σ : St}, runS P tb cx.N ops l id σ K → ∀ {a : Act} {w : World}, Sat cx σ a w →
    (∀ σ' a' w', K σ' → Sat cx σ' a' w' → Q .normal a' w') → wpList P ops Q l a w
  | [], id, σ, h, a, w, hs, hQ => hQ σ a w h hs
  | o :: r, id, σ, h, a, w, hs, hQ => by
    simp only [runS] at h
    refine wpList_step fun Kw hK => ?_
    cases hc : cloOf o with
    | none =>
      rw [hc] at h
      simp only at h
      cases hi : inlOf tb o with
      | none =>
        rw [hi] at h
        simp only at h
        cases hn : innOf tb o with
        | none =>
          rw [hn] at h
          obtain ⟨e, h1, h2, h3⟩ := stepK_spec h
          exact stepR_sound h1 h2 a w Kw Q hs fun a' w' hs' => hK a' w' (runS_wp h3 hs' hQ)
        | some c =>
          rw [hn] at h
          obtain ⟨hg, ts, ho⟩ := innOf_spec hn
          rw [if_pos (by simp [Region.wanted, hg])]
          exact innQ_sound h.1 ho h.2 hs fun σ' a' w' hk hs' => hK a' w' (runS_wp hk hs' hQ)
      | some c =>
        rw [hi] at h
        obtain ⟨hg, ts, ho⟩ := inlOf_spec hi
        rw [if_pos (by simp [Region.wanted, hg])]
        exact inlF_sound h.1 ho h.2 hs fun σ' a' w' hk hs' => hK a' w' (runS_wp hk hs' hQ)
    | some c =>
      rw [hc] at h
      obtain ⟨hg, ts, ho⟩ := cloOf_spec hc
      rw [if_pos (by simp [Region.wanted, hg])]
      exact cloQ_sound h.1 ho h.2 hs fun σ' a' w' hk hs' => hK a' w' (runS_wp hk hs' hQ)

theorem runD_spec {P : Program} {tb : Tb} {N : Nat} {ops : Array Oper} {K : St → List Info → Prop} : ∀ {l : List Oper} {id : Nat} {σ : St} {acc : List Info}, runD P tb N ops l id σ acc K → ∃ rs is σ', RunI P tb N ops l id σ rs is σ' ∧ K σ' (acc.reverse ++ is)
  | [], id, σ, acc, h => ⟨[], [], σ, .nil id σ, by simpa [runD] using h⟩
  | o :: r, id, σ, acc, h => by
    obtain ⟨e, h1, h2, h3⟩ := stepK_spec h
    obtain ⟨rs, is, σ', h4, h5⟩ := runD_spec h3
    exact ⟨_, _, σ', .cons h1 h2 h4, by simpa using h5⟩

/-! ### Code -/

def chkK (b : Bool) (k : Unit → Prop) : Prop := b = true ∧ k ()

def seqQ (k : St → Prop) (Q : Exit → St → Prop) (e : Exit) (σ : St) : Prop :=
  match e with
  | .normal => k σ
  | e => Q e σ

def blkQ (i : Nat) (Q : Exit → St → Prop) (e : Exit) (σ : St) : Prop :=
  match e with
  | .exit i' => if i' = i then Q .normal σ else Q (.exit i') σ
  | e => Q e σ

/-- What is asked of a piece of code, so that Q holds behind it; at a loop the question is left as it is. -/
def aCode (P : Program) (tb : Tb) (cx : Cx) (N : Nat) : Code → (Exit → St → Prop) → St → Prop
  | .skip, Q, σ => Q .normal σ
  | .label _, Q, σ => Q .normal σ
  | .region i ops false, Q, σ => runS P tb N ops ops.toList (10000 * (i + 1) + tb.off) σ (Q .normal)
  | .region i ops true, Q, σ => runD P tb N ops ops.toList (10000 * (i + 1) + tb.off) σ [] fun σ' is => chkK (chkAll ops 0 is) fun _ => Q .normal σ'
  | .seq a b, Q, σ => aCode P tb cx N a (seqQ (fun σ' => aCode P tb cx N b Q σ') Q) σ
  | .cond c a b, Q, σ => σ.tc .bool c ∧ (σ.tb c = true → aCode P tb cx N a Q σ) ∧ (σ.tb c = false → aCode P tb cx N b Q σ)
  | .block i b, Q, σ => aCode P tb cx N b (blkQ i Q) σ
  | .loop b, Q, σ => T P cx (.loop b) Q σ
  | .exit i, Q, σ => Q (.exit i) σ
  | .goto l, Q, σ => Q (.goto l) σ
  | .ret, Q, σ => Q .ret σ
  | _, _, _ => False

theorem aCode_sound {P : Program} {tb : Tb} {cx : Cx} (hm : P.follows .mixedOrders = true) : ∀ {c : Code} {Q : Exit → St → Prop} {σ : St}, aCode P tb cx cx.N c Q σ → T P cx c Q σ
  | .skip, _, _, h => fun _ _ hs => wp_skip ⟨_, h, hs⟩
  | .label _, _, _, h => fun _ _ hs => wp_label ⟨_, h, hs⟩
  | .exit _, _, _, h => fun _ _ hs => wp_exit ⟨_, h, hs⟩
  | .goto _, _, _, h => fun _ _ hs => wp_goto ⟨_, h, hs⟩
  | .ret, _, _, h => fun _ _ hs => wp_ret ⟨_, h, hs⟩
  | .loop _, _, _, h => h
  | .region _ ops false, Q, σ, h => fun a w hs => by
    exact wp_region_list (runS_wp h hs fun σ' a' w' h2 hs' => ⟨σ', h2, hs'⟩)
  | .region _ ops true, Q, σ, h => fun a w hs => by
    obtain ⟨rs, is, σ', h1, h2, h3⟩ := runD_spec h
    simp only [List.reverse_nil, List.nil_append] at h2
    refine wp_region_any hm (draw_any h1 h2 (fun a' w' hs' => ⟨σ', h3, hs'⟩) ops.size (Array.replicate ops.size false) a _ ?_ (by simp) (fun j o _ hl => ?_) ?_)
    · refine Nat.le_trans (List.countP_le_length) (by simp)
    · exfalso
      rw [Array.getD_eq_getD_getElem?, Array.getElem?_replicate] at hl
      split at hl <;> simp at hl
    · have e : mrg (fun j => (Array.replicate ops.size false).getD j false) 0 rs σ = σ := by
        have : (fun j => (Array.replicate ops.size false).getD j false) = fun j => decide (j < 0) := by
          funext j
          rw [Array.getD_eq_getD_getElem?, Array.getElem?_replicate]
          split <;> simp
        rw [this]
        exact mrg_lt 0 rs 0 σ (Nat.le_refl _)
      rw [e]
      obtain ⟨lim, G, hh, hf⟩ := hs
      exact ⟨lim, G, (hh.world (lim' := lim) (w' := { w with drawn := w.drawn + 1 }) ⟨rfl, rfl, rfl, Nat.le_refl _, fun _ _ => rfl⟩ fun _ _ => rfl).1,
        hf.keeps (w' := { w with drawn := w.drawn + 1 }) (lim' := lim) ⟨fun _ _ h _ => h, fun _ _ => Nat.le_refl _⟩ (Ext.refl _ _)⟩
  | .seq x y, Q, σ, h => fun a w hs => by
    refine wp_seq (wp_mono (aCode_sound (c := x) hm h a w hs) fun e a' w' hq => ?_)
    obtain ⟨σ', h1, h2⟩ := hq
    cases e with
    | normal => exact aCode_sound (c := y) hm h1 a' w' h2
    | _ => exact ⟨σ', h1, h2⟩
  | .cond c x y, Q, σ, h => fun a w hs => by
    obtain ⟨h0, h1, h2⟩ := h
    have hc : a.eval c = .bool (σ.tb c) := by
      obtain ⟨lim, G, hh, hf⟩ := hs
      exact tc_bool hh hf h0
    exact wp_cond_split hc (fun ht => aCode_sound (c := x) hm (h1 ht) a w hs) fun ht => aCode_sound (c := y) hm (h2 ht) a w hs
  | .block i c, Q, σ, h => fun a w hs => by
    refine wp_block (wp_mono (aCode_sound (c := c) hm h a w hs) fun e a' w' hq => ?_)
    obtain ⟨σ', h1, h2⟩ := hq
    cases e with
    | exit i' =>
      simp only [blkQ] at h1
      simp only [Exit.inBlock]
      split
      · rename_i hi; rw [if_pos hi] at h1; exact ⟨σ', h1, h2⟩
      · rename_i hi; rw [if_neg hi] at h1; exact ⟨σ', h1, h2⟩
    | _ => exact ⟨σ', h1, h2⟩
  | .rangeFunc _ _ _ _, _, _, h => h.elim
  | .scope _, _, _, h => h.elim
  | .refuse _, _, _, h => h.elim

/-- A state that says less. -/
def Sub (cx : Cx) (σ σ' : St) : Prop := ∀ a w, Sat cx σ a w → Sat cx σ' a w

theorem T_sub {P : Program} {cx : Cx} {c : Code} {Q : Exit → St → Prop} {σ σ' : St} (h : Sub cx σ σ') (ht : T P cx c Q σ') : T P cx c Q σ := fun a w hs => ht a w (h a w hs)

theorem least {p : Nat → Prop} (h : ∃ n, p n) : ∃ n, p n ∧ ∀ m, p m → n ≤ m := by
  obtain ⟨n, hn⟩ := h
  induction n using Nat.strongRecOn with
  | _ n ih =>
    by_cases hex : ∃ m, m < n ∧ p m
    · obtain ⟨m, h1, h2⟩ := hex
      exact ih m h1 h2
    · refine ⟨n, hn, fun m hm => ?_⟩
      rcases Nat.lt_or_ge m n with hlt | hge
      · exact absurd ⟨m, hlt, hm⟩ hex
      · exact hge

theorem T_loop {P : Program} {cx : Cx} {c : Code} {Q : Exit → St → Prop} {σ : St} {D : Type} (sh : D → St) (J : D → Prop) (μ : D → Nat) (d0 : D) (h0 : J d0) (hs0 : Sub cx σ (sh d0))
    (round : ∀ d, J d → T P cx c (fun e σ' => match e with
      | .normal => ∃ d', J d' ∧ μ d' < μ d ∧ Sub cx σ' (sh d')
      | e => Q e σ') (sh d)) : T P cx (.loop c) Q σ := by
  classical
  intro a w hs
  let I : Act → World → Prop := fun a w => ∃ d, J d ∧ Sat cx (sh d) a w
  let m : Act → World → Nat := fun a w => if h : ∃ n, ∃ d, J d ∧ Sat cx (sh d) a w ∧ μ d = n then Classical.choose (least h) else 0
  refine wp_loop I m ⟨d0, h0, hs0 a w hs⟩ fun a w hI => ?_
  have hex : ∃ n, ∃ d, J d ∧ Sat cx (sh d) a w ∧ μ d = n := by obtain ⟨d, h1, h2⟩ := hI; exact ⟨_, d, h1, h2, rfl⟩
  obtain ⟨⟨d, h1, h2, h3⟩, _⟩ := Classical.choose_spec (least hex)
  have hm : m a w = μ d := by show (if h : _ then _ else _) = _; rw [dif_pos hex, h3]
  refine wp_mono (round d h1 a w h2) fun e a' w' hq => ?_
  obtain ⟨σ', k1, k2⟩ := hq
  cases e with
  | normal =>
    obtain ⟨d', q1, q2, q3⟩ := k1
    have hs' := q3 a' w' k2
    refine ⟨⟨d', q1, hs'⟩, ?_⟩
    have hex' : ∃ n, ∃ d, J d ∧ Sat cx (sh d) a' w' ∧ μ d = n := ⟨_, d', q1, hs', rfl⟩
    have : m a' w' ≤ μ d' := by
      show (if h : _ then _ else _) ≤ _
      rw [dif_pos hex']
      exact (Classical.choose_spec (least hex')).2 _ ⟨d', q1, hs', rfl⟩
    omega
  | _ => exact ⟨σ', k1, k2⟩

end Go.AL
/- Functions on abstract frames: how they begin, how they end; states that say less. A general part, over any program. -/
set_option linter.unusedSimpArgs false
set_option linter.unusedVariables false
set_option linter.unusedSectionVars false
namespace Go.AL
open Go.RowKit

/-! ### States by lists -/

def lkT : List (Nat × AV) → Nat → AV
  | [], _ => .any
  | p :: r, t => bif Nat.beq t p.1 then p.2 else lkT r t

def lkO : List (Nat × AObj) → Nat → AObj
  | [], _ => .unborn
  | p :: r, t => bif Nat.beq t p.1 then p.2 else lkO r t

def lkR : List (Nat × Option Nat) → Nat → Option (Option Nat)
  | [], _ => none
  | p :: r, t => bif Nat.beq t p.1 then some p.2 else lkR r t

def shp (tm : List (Nat × AV)) (ob : List (Nat × AObj)) : St := ⟨lkT tm, lkO ob⟩

mutual
def AVLe (objs : Nat → AObj) (ρ : List (Nat × Option Nat)) : AV → AV → Prop
  | _, .any => True
  | a, .rd t x => a.uc ∧ tvc objs t a.un ∧ tvd objs t a.un = x
  | .ptr t x, .ptr t' x' => AV.ptr t x = AV.ptr t' x'
  | .nils, .nils => True
  | .own i, .own j => lkR ρ j = some (some i) ∧ (objs i).live = true
  | .nils, .own j => lkR ρ j = some none
  | .bp i off, .bp j off' => lkR ρ j = some (some i) ∧ (objs i).live = true ∧ off = off'
  | .agg cs, .agg cs' => AVsLe objs ρ cs cs'
  | .tup cs, .tup cs' => AVsLe objs ρ cs cs'
  | _, _ => False
def AVsLe (objs : Nat → AObj) (ρ : List (Nat × Option Nat)) : List AV → List AV → Prop
  | [], [] => True
  | a :: as, b :: bs => AVLe objs ρ a b ∧ AVsLe objs ρ as bs
  | _, _ => False
end

def ObLe (objs : Nat → AObj) (ρ : List (Nat × Option Nat)) : AObj → AObj → Prop
  | .row e t xs, .row e' t' xs' => AObj.row e t xs = AObj.row e' t' xs'
  | .arr e t xs, .arr e' t' xs' => AObj.arr e t xs = AObj.arr e' t' xs'
  | .tl e t xs, .tl e' t' xs' => AObj.tl e t xs = AObj.tl e' t' xs'
  | .deep te t xs, .deep te' t' xs' => AObj.deep te t xs = AObj.deep te' t' xs'
  | .bld te t xs, .bld te' t' xs' => AObj.bld te t xs = AObj.bld te' t' xs'
  | .sd te t xs, .sd te' t' xs' => AObj.sd te t xs = AObj.sd te' t' xs'
  | .box T cs, .box T' cs' => T = T' ∧ AVsLe objs ρ cs cs'
  | _, _ => False

def obsLe (objs : Nat → AObj) (ρ : List (Nat × Option Nat)) : List (Nat × AObj) → Prop
  | [] => True
  | p :: r => (match lkR ρ p.1 with
    | some (some i) => ObLe objs ρ (objs i) p.2
    | some none => match p.2 with
      | .row _ t xs => xs = [] ∧ 0 < t.size
      | .arr _ t xs => xs = [] ∧ 0 < t.size
      | .deep _ t xs => xs = [] ∧ 0 < t.size
      | _ => False
    | none => False) ∧ obsLe objs ρ r

def tmsLe (σ : St) (ρ : List (Nat × Option Nat)) : List (Nat × AV) → Prop
  | [] => True
  | p :: r => AVLe σ.objs ρ (σ.tmps p.1) p.2 ∧ tmsLe σ ρ r

def rhoOK (ob : List (Nat × AObj)) : List (Nat × Option Nat) → Prop
  | [] => True
  | p :: r => (lkO ob p.1).born = true ∧ (match p.2 with
    | some i => (r.all fun q => match q.2 with | some j => !(Nat.beq j i) | none => true) = true
    | none => True) ∧ rhoOK ob r

theorem lkR_mem {j : Nat} {x : Option Nat} : ∀ {ρ : List (Nat × Option Nat)}, lkR ρ j = some x → (j, x) ∈ ρ
  | [], h => by cases h
  | p :: r, h => by
    simp only [lkR] at h
    cases hb : Nat.beq j p.1 with
    | true =>
      rw [hb] at h
      simp only [cond_true] at h
      injection h with h
      have := Nat.eq_of_beq_eq_true hb
      subst this; subst h
      exact List.mem_cons_self
    | false => rw [hb] at h; exact List.mem_cons_of_mem _ (lkR_mem h)

theorem lkO_mem {j : Nat} : ∀ {ob : List (Nat × AObj)}, (lkO ob j).born = true → (j, lkO ob j) ∈ ob
  | [], h => by cases h
  | p :: r, h => by
    simp only [lkO] at h ⊢
    cases hb : Nat.beq j p.1 with
    | true =>
      have := Nat.eq_of_beq_eq_true hb
      subst this
      simp only [cond_true]
      exact List.mem_cons_self
    | false => rw [hb] at h; simp only [cond_false] at h ⊢; exact List.mem_cons_of_mem _ (lkO_mem h)

theorem rhoOK_born {ob : List (Nat × AObj)} : ∀ {ρ : List (Nat × Option Nat)}, rhoOK ob ρ → ∀ p, p ∈ ρ → (lkO ob p.1).born = true
  | [], _, p, h => by cases h
  | q :: r, hr, p, h => by
    rcases List.mem_cons.1 h with rfl | h
    · exact hr.1
    · exact rhoOK_born hr.2.2 p h

theorem rhoOK_inj {ob : List (Nat × AObj)} {i : Nat} : ∀ {ρ : List (Nat × Option Nat)}, rhoOK ob ρ → ∀ j1 j2, lkR ρ j1 = some (some i) → lkR ρ j2 = some (some i) → j1 = j2
  | [], _, _, _, h, _ => by cases h
  | q :: r, hr, j1, j2, h1, h2 => by
    have one : ∀ j, q.2 = some i → lkR r j = some (some i) → False := by
      intro j hq hj
      have h3 := hr.2.1
      rw [hq] at h3
      simp only at h3
      have := List.all_eq_true.1 h3 _ (lkR_mem hj)
      simp at this
    simp only [lkR] at h1 h2
    cases hb1 : Nat.beq j1 q.1 <;> cases hb2 : Nat.beq j2 q.1 <;> rw [hb1] at h1 <;> rw [hb2] at h2 <;> simp only [cond_true, cond_false] at h1 h2
    · exact rhoOK_inj hr.2.2 j1 j2 h1 h2
    · injection h2 with h2; exact (one j1 h2 h1).elim
    · injection h1 with h1; exact (one j2 h1 h2).elim
    · rw [Nat.eq_of_beq_eq_true hb1, Nat.eq_of_beq_eq_true hb2]

section
variable {w : World} {lim : Nat → Nat} {G G' : Nat → Rt} {objs objs' : Nat → AObj} {ρ : List (Nat × Option Nat)} {B : Nat}
  (ho : ∀ id, ObjOK w lim G objs B (G id) (objs id)) (hr : ∀ j i, lkR ρ j = some (some i) → (objs' j).born = true ∧ G' j = G i) (hn : ∀ j, lkR ρ j = some none → (objs' j).born = true ∧ G' j = ⟨.slice none 0 0, []⟩)
include ho hr hn

mutual
theorem AVLe_ok : ∀ (b a : AV) (v : Value), AVLe objs ρ a b → AVok w lim G objs a v → AVok w lim G' objs' b v
  | .any, a, v, _, _ => by simp only [AVok]
  | .rd t x, a, v, h, hv => by
    have h' : a.uc ∧ tvc objs t a.un ∧ tvd objs t a.un = x := by cases a <;> simpa only [AVLe] using h
    obtain ⟨h1, h2, h3⟩ := h'
    simp only [AVok]
    rw [← h3]
    exact tv_ok ho t _ v h2 (hv.un h1)
  | .ptr t x, a, v, h, hv => by
    cases a <;> simp only [AVLe] at h
    rw [h] at hv
    simpa only [AVok] using hv
  | .nils, a, v, h, hv => by
    cases a <;> simp only [AVLe] at h
    simpa only [AVok] using hv
  | .own j, a, v, h, hv => by
    cases a <;> simp only [AVLe] at h
    · simp only [AVok] at hv ⊢
      obtain ⟨k1, k2⟩ := hn j h
      exact ⟨k1, fun _ => by rw [k2]; exact hv⟩
    · simp only [AVok] at hv ⊢
      obtain ⟨k1, k2⟩ := hr j _ h.1
      exact ⟨k1, fun _ => by rw [k2]; exact hv.2 h.2⟩
  | .bp j off, a, v, h, hv => by
    cases a <;> simp only [AVLe] at h
    simp only [AVok] at hv ⊢
    obtain ⟨k1, k2⟩ := hr j _ h.1
    obtain ⟨_, h2, h3⟩ := h
    subst h3
    exact ⟨k1, fun _ => by rw [k2]; exact hv.2 h2⟩
  | .ep _ _ _, a, v, h, hv => by cases a <;> simp only [AVLe] at h
  | .ef _ _ _ _, a, v, h, hv => by cases a <;> simp only [AVLe] at h
  | .gd _ _, a, v, h, hv => by cases a <;> simp only [AVLe] at h
  | .fn _ _, a, v, h, hv => by cases a <;> simp only [AVLe] at h
  | .agg cs, a, v, h, hv => by
    cases a <;> simp only [AVLe] at h
    simp only [AVok] at hv ⊢
    obtain ⟨arr, h1, h2⟩ := hv
    exact ⟨arr, h1, AVsLe_ok cs _ arr h h2⟩
  | .tup cs, a, v, h, hv => by
    cases a <;> simp only [AVLe] at h
    simp only [AVok] at hv ⊢
    obtain ⟨arr, h1, h2⟩ := hv
    exact ⟨arr, h1, AVsLe_ok cs _ arr h h2⟩
theorem AVsLe_ok : ∀ (bs as : List AV) (vs : List Value), AVsLe objs ρ as bs → AVsOk w lim G objs as vs → AVsOk w lim G' objs' bs vs
  | [], as, vs, h, hv => by
    cases as <;> simp only [AVsLe] at h
    simpa only [AVsOk] using hv
  | b :: bs, as, vs, h, hv => by
    cases as with
    | nil => simp only [AVsLe] at h
    | cons a as =>
      simp only [AVsLe] at h
      simp only [AVsOk] at hv ⊢
      obtain ⟨v, r, h1, h2, h3⟩ := hv
      exact ⟨v, r, h1, AVLe_ok b a v h.1 h2, AVsLe_ok bs as r h.2 h3⟩
end
end

theorem ObLe_Blk {objs : Nat → AObj} {ρ : List (Nat × Option Nat)} {o o' : AObj} {r : Rt} (h : ObLe objs ρ o o') : o.live = true ∧ ∀ g, Blk o' r g → Blk o r g := by
  cases o <;> cases o' <;> simp only [ObLe] at h <;> exact ⟨rfl, fun g hg => hg⟩

theorem ObLe_bld {objs : Nat → AObj} {ρ : List (Nat × Option Nat)} {o o' : AObj} (h : ObLe objs ρ o o') (hb : o'.isBld = true) : o.isBld = true := by
  cases o' <;> first | cases hb | skip
  cases o <;> simp only [ObLe] at h
  rfl
theorem bld_born {o : AObj} (h : o.isBld = true) : o.born = true := by cases o <;> first | rfl | cases h

theorem deep_nil {w : World} {lim : Nat → Nat} {te : Ty → TypeId} {t : Ty} (h : 0 < t.size) : DeepOK w lim te t [] ⟨.slice none 0 0, []⟩ :=
  ⟨⟨_, [], [], rfl, World.ownsRow_nil _ _ _ _, h, rfl, rfl, fun i hi => absurd hi (by simp)⟩, by simp [blk], by simp [blk]⟩

theorem obsLe_at {objs : Nat → AObj} {ρ : List (Nat × Option Nat)} : ∀ {ob : List (Nat × AObj)}, obsLe objs ρ ob → ∀ p, p ∈ ob → (match lkR ρ p.1 with
    | some (some i) => ObLe objs ρ (objs i) p.2
    | some none => match p.2 with
      | .row _ t xs => xs = [] ∧ 0 < t.size
      | .arr _ t xs => xs = [] ∧ 0 < t.size
      | .deep _ t xs => xs = [] ∧ 0 < t.size
      | _ => False
    | none => False)
  | [], _, p, h => by cases h
  | q :: r, hr, p, h => by
    rcases List.mem_cons.1 h with rfl | h
    · exact hr.1
    · exact obsLe_at hr.2 p h

theorem tmsLe_at {σ : St} {ρ : List (Nat × Option Nat)} : ∀ {tm : List (Nat × AV)}, tmsLe σ ρ tm → ∀ t, AVLe σ.objs ρ (σ.tmps t) (lkT tm t)
  | [], _, t => by simp only [lkT]; cases σ.tmps t <;> simp only [AVLe]
  | q :: r, hr, t => by
    simp only [lkT]
    cases hb : Nat.beq t q.1 with
    | true => rw [Nat.eq_of_beq_eq_true hb]; exact hr.1
    | false => exact tmsLe_at hr.2 t

/-- How many temporaries there are, and which objects were lent. -/
def Cx.is (cx : Cx) (N : Nat) (l : List Nat) : Prop := cx.N = N ∧ (∀ j r, cx.R j = some r → j ∈ l) ∧ ∀ p, ¬ cx.F p

def rhoL (ρ : List (Nat × Option Nat)) : List Nat → Prop
  | [] => True
  | j :: r => lkR ρ j = some (some j) ∧ rhoL ρ r

theorem rhoL_spec {ρ : List (Nat × Option Nat)} : ∀ {l : List Nat}, rhoL ρ l → ∀ j, j ∈ l → lkR ρ j = some (some j)
  | [], _, j, h => by cases h
  | i :: r, hr, j, h => by
    rcases List.mem_cons.1 h with rfl | h
    · exact hr.1
    · exact rhoL_spec hr.2 j h

theorem sub_shp {cx : Cx} {σ : St} {N : Nat} {l : List Nat} (hN : cx.is N l) {tm : List (Nat × AV)} {ob : List (Nat × AObj)} (ρ : List (Nat × Option Nat)) (h0 : rhoOK ob ρ ∧ rhoL ρ l ∧ obsLe σ.objs ρ ob ∧ tmsLe σ ρ tm) : Sub cx σ (shp tm ob) := by
  obtain ⟨h1, h4, h2, h3⟩ := h0
  intro a w hs
  obtain ⟨lim, G, hh, hf⟩ := hs
  let G' : Nat → Rt := fun j => match lkR ρ j with
    | some (some i) => G i
    | _ => ⟨.slice none 0 0, []⟩
  have hr : ∀ j i, lkR ρ j = some (some i) → (lkO ob j).born = true ∧ G' j = G i := by
    intro j i hj
    refine ⟨rhoOK_born h1 _ (lkR_mem hj), ?_⟩
    show (match lkR ρ j with | some (some i) => G i | _ => _) = _
    rw [hj]
  have hn : ∀ j, lkR ρ j = some none → (lkO ob j).born = true ∧ G' j = ⟨.slice none 0 0, []⟩ := by
    intro j hj
    refine ⟨rhoOK_born h1 _ (lkR_mem hj), ?_⟩
    show (match lkR ρ j with | some (some i) => G i | _ => _) = _
    rw [hj]
  have idn : ∀ j i, lkR ρ j = some (some i) → (lkO ob j).born = true → (lkO ob j).isBld = true → (σ.objs i).isBld = true := by
    intro j i hx hb hj
    have := obsLe_at h2 _ (lkO_mem hb)
    simp only at this
    rw [hx] at this
    exact ObLe_bld this hj
  have old : ∀ j, (lkO ob j).live = true → ∃ x, lkR ρ j = some x ∧ (∀ i, x = some i → (σ.objs i).live = true ∧ ∀ g, Blk (lkO ob j) (G' j) g → Blk (σ.objs i) (G i) g) ∧ (x = none → ∀ g, ¬ Blk (lkO ob j) (G' j) g) := by
    intro j hl
    have hb := AObj.born_of_live hl
    have := obsLe_at h2 _ (lkO_mem hb)
    simp only at this
    cases hx : lkR ρ j with
    | none => rw [hx] at this; exact this.elim
    | some x =>
      refine ⟨x, rfl, fun i hi => ?_, fun hi g hg => ?_⟩
      · subst hi
        rw [hx] at this
        simp only at this
        rw [(hr j i hx).2]
        exact ObLe_Blk this
      · subst hi
        rw [hx] at this
        simp only at this
        rw [(hn j hx).2] at hg
        cases hon : lkO ob j <;> rw [hon] at this hg <;> simp [Blk, blk] at hg <;> exact this
  refine ⟨lim, G', ⟨hh.start, hh.below, hh.lim0, fun j => ?_, fun i j g hij hi hj hg => ?_, fun i g hi hg => ?_, fun j r hjr => ?_, fun j r hjr => (by
    show (lkO ob j).isBld = false
    cases hq : (lkO ob j).isBld with
    | false => rfl
    | true =>
      have := idn j j (rhoL_spec h4 j (hN.2.1 j r hjr)) (bld_born hq) hq
      rw [hh.nob j r hjr] at this; cases this)⟩, hf.size, hf.defers, fun t => ?_, fun p hp => (hN.2.2 p hp).elim⟩
  rotate_left 2
  · obtain ⟨xi, k1, k2, k3⟩ := old i hi
    cases xi with
    | none => exact (k3 rfl g hg).elim
    | some i' => exact hh.mine i' g (k2 i' rfl).1 ((k2 i' rfl).2 g hg)
  · have hj := rhoL_spec h4 j (hN.2.1 j r hjr)
    exact ⟨(hr j j hj).1, (hr j j hj).2.trans (hh.lent j r hjr).2⟩
  rotate_left
  · show ObjOK w lim G' (lkO ob) 0 (G' j) (lkO ob j)
    cases hb : (lkO ob j).born with
    | false => cases ho : lkO ob j <;> rw [ho] at hb <;> first | (simp only [ObjOK]; done) | cases hb
    | true =>
      have := obsLe_at h2 _ (lkO_mem hb)
      simp only at this
      cases hx : lkR ρ j with
      | none => rw [hx] at this; exact this.elim
      | some x =>
        cases x with
        | some i =>
          rw [hx] at this
          simp only at this
          rw [(hr j i hx).2]
          have hoi := hh.obj i
          cases hoo : σ.objs i with
          | row e t xs =>
            rw [hoo] at this hoi
            cases hon : lkO ob j with
            | row e' t' xs' =>
              rw [hon] at this
              simp only [ObLe] at this
              rw [← this]
              simpa only [ObjOK] using hoi
            | _ => rw [hon] at this; simp only [ObLe] at this
          | arr e t xs =>
            rw [hoo] at this hoi
            cases hon : lkO ob j with
            | arr e' t' xs' =>
              rw [hon] at this
              simp only [ObLe] at this
              rw [← this]
              simpa only [ObjOK] using hoi
            | _ => rw [hon] at this; simp only [ObLe] at this
          | deep te t xs =>
            rw [hoo] at this hoi
            cases hon : lkO ob j with
            | deep te' t' xs' =>
              rw [hon] at this
              simp only [ObLe] at this
              rw [← this]
              simpa only [ObjOK] using hoi
            | _ => rw [hon] at this; simp only [ObLe] at this
          | bld te t xs =>
            rw [hoo] at this hoi
            cases hon : lkO ob j with
            | bld te' t' xs' =>
              rw [hon] at this
              simp only [ObLe] at this
              rw [← this]
              simpa only [ObjOK] using hoi
            | _ => rw [hon] at this; simp only [ObLe] at this
          | sd te t xs =>
            rw [hoo] at this hoi
            cases hon : lkO ob j with
            | sd te' t' xs' =>
              rw [hon] at this
              simp only [ObLe] at this
              rw [← this]
              simpa only [ObjOK] using hoi
            | _ => rw [hon] at this; simp only [ObLe] at this
          | tl e t xs =>
            rw [hoo] at this hoi
            cases hon : lkO ob j with
            | tl e' t' xs' =>
              rw [hon] at this
              simp only [ObLe] at this
              rw [← this]
              simpa only [ObjOK] using hoi
            | _ => rw [hon] at this; simp only [ObLe] at this
          | box T cs =>
            rw [hoo] at this hoi
            cases hon : lkO ob j with
            | box T' cs' =>
              rw [hon] at this
              simp only [ObLe] at this
              obtain ⟨e1, e2⟩ := this
              subst e1
              simp only [ObjOK] at hoi ⊢
              obtain ⟨g, arr, a1, a2, a3, a4, a5⟩ := hoi
              exact ⟨g, arr, a1, a2, a3, a4, AVsLe_ok hh.obj hr hn _ _ _ e2 a5⟩
            | _ => rw [hon] at this; simp only [ObLe] at this
          | _ => rw [hoo] at this; simp only [ObLe] at this
        | none =>
          rw [hx] at this
          simp only at this
          rw [(hn j hx).2]
          cases hon : lkO ob j with
          | row e' t' xs' =>
            rw [hon] at this
            simp only at this
            obtain ⟨e1, e2⟩ := this
            subst e1
            simp only [ObjOK]
            exact ⟨⟨[], World.ownsRow_nil _ _ _ _, e2, fun i h => absurd h (by simp)⟩, fun g hg => by cases hg⟩
          | arr e' t' xs' =>
            rw [hon] at this
            simp only at this
            obtain ⟨e1, e2⟩ := this
            subst e1
            simp only [ObjOK]
            exact ⟨⟨[], World.ownsRow_nil _ _ _ _, e2, fun i h => absurd h (by simp)⟩, fun g hg => by cases hg⟩
          | deep te' t' xs' =>
            rw [hon] at this
            simp only at this
            obtain ⟨e1, e2⟩ := this
            subst e1
            simp only [ObjOK]
            exact ⟨deep_nil e2, fun _ _ => Nat.zero_le _⟩
          | _ => rw [hon] at this; exact this.elim
  · obtain ⟨xi, k1, k2, k5⟩ := old i hi
    obtain ⟨xj, k3, k4, k6⟩ := old j hj
    cases xi with
    | none => exact (k5 rfl g hg).elim
    | some i' =>
      cases xj with
      | none => exact k6 rfl g
      | some j' =>
        have hne : i' ≠ j' := by
          rintro rfl
          exact hij (rhoOK_inj h1 i j k1 k3)
        intro hg'
        exact hh.sep i' j' g hne (k2 i' rfl).1 (k4 j' rfl).1 ((k2 i' rfl).2 g hg) ((k4 j' rfl).2 g hg')
  · exact AVLe_ok hh.obj hr hn _ _ _ (tmsLe_at h3 t) (hf.tmp t)

/-- Each object of the state keeps its number. -/
def idAll (ρ : List (Nat × Option Nat)) : List (Nat × AObj) → Prop
  | [] => True
  | p :: r => lkR ρ p.1 = some (some p.1) ∧ idAll ρ r
theorem idAll_mem {ρ : List (Nat × Option Nat)} : ∀ {ob : List (Nat × AObj)}, idAll ρ ob → ∀ p, p ∈ ob → lkR ρ p.1 = some (some p.1)
  | [], _, p, h => by cases h
  | q :: r, hr, p, h => by
    rcases List.mem_cons.1 h with rfl | h
    · exact hr.1
    · exact idAll_mem hr.2 p h
/-- As sub_shp, where a caller's temporaries stand behind: every object keeps its number. -/
theorem sub_shpF {cx : Cx} {tm0 : List (Nat × AV)} {ob0 : List (Nat × AObj)} {tm : List (Nat × AV)} {ob : List (Nat × AObj)} (ρ : List (Nat × Option Nat)) (h0 : rhoOK ob ρ ∧ idAll ρ ob0 ∧ obsLe (shp tm0 ob0).objs ρ ob ∧ tmsLe (shp tm0 ob0) ρ tm) : Sub cx (shp tm0 ob0) (shp tm ob) := by
  obtain ⟨h1, h4, h2, h3⟩ := h0
  generalize hσ : shp tm0 ob0 = σ at *
  have hob : σ.objs = lkO ob0 := by rw [← hσ]; rfl
  have idb : ∀ j, (σ.objs j).born = true → lkR ρ j = some (some j) := fun j hj => by
    rw [hob] at hj
    exact idAll_mem h4 _ (lkO_mem hj)
  intro a w hs
  obtain ⟨lim, G, hh, hf⟩ := hs
  let G' : Nat → Rt := fun j => match lkR ρ j with
    | some (some i) => G i
    | _ => ⟨.slice none 0 0, []⟩
  have hr : ∀ j i, lkR ρ j = some (some i) → (lkO ob j).born = true ∧ G' j = G i := by
    intro j i hj
    refine ⟨rhoOK_born h1 _ (lkR_mem hj), ?_⟩
    show (match lkR ρ j with | some (some i) => G i | _ => _) = _
    rw [hj]
  have hn : ∀ j, lkR ρ j = some none → (lkO ob j).born = true ∧ G' j = ⟨.slice none 0 0, []⟩ := by
    intro j hj
    refine ⟨rhoOK_born h1 _ (lkR_mem hj), ?_⟩
    show (match lkR ρ j with | some (some i) => G i | _ => _) = _
    rw [hj]
  have idn : ∀ j i, lkR ρ j = some (some i) → (lkO ob j).born = true → (lkO ob j).isBld = true → (σ.objs i).isBld = true := by
    intro j i hx hb hj
    have := obsLe_at h2 _ (lkO_mem hb)
    simp only at this
    rw [hx] at this
    exact ObLe_bld this hj
  have old : ∀ j, (lkO ob j).live = true → ∃ x, lkR ρ j = some x ∧ (∀ i, x = some i → (σ.objs i).live = true ∧ ∀ g, Blk (lkO ob j) (G' j) g → Blk (σ.objs i) (G i) g) ∧ (x = none → ∀ g, ¬ Blk (lkO ob j) (G' j) g) := by
    intro j hl
    have hb := AObj.born_of_live hl
    have := obsLe_at h2 _ (lkO_mem hb)
    simp only at this
    cases hx : lkR ρ j with
    | none => rw [hx] at this; exact this.elim
    | some x =>
      refine ⟨x, rfl, fun i hi => ?_, fun hi g hg => ?_⟩
      · subst hi
        rw [hx] at this
        simp only at this
        rw [(hr j i hx).2]
        exact ObLe_Blk this
      · subst hi
        rw [hx] at this
        simp only at this
        rw [(hn j hx).2] at hg
        cases hon : lkO ob j <;> rw [hon] at this hg <;> simp [Blk, blk] at hg <;> exact this
  refine ⟨lim, G', ⟨hh.start, hh.below, hh.lim0, fun j => ?_, fun i j g hij hi hj hg => ?_, fun i g hi hg => ?_, fun j r hjr => ?_, fun j r hjr => (by
    show (lkO ob j).isBld = false
    cases hq : (lkO ob j).isBld with
    | false => rfl
    | true =>
      have := idn j j (idb j (hh.lent j r hjr).1) (bld_born hq) hq
      rw [hh.nob j r hjr] at this; cases this)⟩, hf.size, hf.defers, fun t => ?_, fun p hp => ?_⟩
  rotate_left 2
  · obtain ⟨xi, k1, k2, k3⟩ := old i hi
    cases xi with
    | none => exact (k3 rfl g hg).elim
    | some i' => exact hh.mine i' g (k2 i' rfl).1 ((k2 i' rfl).2 g hg)
  · have hj := idb j (hh.lent j r hjr).1
    exact ⟨(hr j j hj).1, (hr j j hj).2.trans (hh.lent j r hjr).2⟩
  rotate_left 2
  · show ObjOK w lim G' (lkO ob) 0 (G' j) (lkO ob j)
    cases hb : (lkO ob j).born with
    | false => cases ho : lkO ob j <;> rw [ho] at hb <;> first | (simp only [ObjOK]; done) | cases hb
    | true =>
      have := obsLe_at h2 _ (lkO_mem hb)
      simp only at this
      cases hx : lkR ρ j with
      | none => rw [hx] at this; exact this.elim
      | some x =>
        cases x with
        | some i =>
          rw [hx] at this
          simp only at this
          rw [(hr j i hx).2]
          have hoi := hh.obj i
          cases hoo : σ.objs i with
          | row e t xs =>
            rw [hoo] at this hoi
            cases hon : lkO ob j with
            | row e' t' xs' =>
              rw [hon] at this
              simp only [ObLe] at this
              rw [← this]
              simpa only [ObjOK] using hoi
            | _ => rw [hon] at this; simp only [ObLe] at this
          | arr e t xs =>
            rw [hoo] at this hoi
            cases hon : lkO ob j with
            | arr e' t' xs' =>
              rw [hon] at this
              simp only [ObLe] at this
              rw [← this]
              simpa only [ObjOK] using hoi
            | _ => rw [hon] at this; simp only [ObLe] at this
          | deep te t xs =>
            rw [hoo] at this hoi
            cases hon : lkO ob j with
            | deep te' t' xs' =>
              rw [hon] at this
              simp only [ObLe] at this
              rw [← this]
              simpa only [ObjOK] using hoi
            | _ => rw [hon] at this; simp only [ObLe] at this
          | bld te t xs =>
            rw [hoo] at this hoi
            cases hon : lkO ob j with
            | bld te' t' xs' =>
              rw [hon] at this
              simp only [ObLe] at this
              rw [← this]
              simpa only [ObjOK] using hoi
            | _ => rw [hon] at this; simp only [ObLe] at this
          | sd te t xs =>
            rw [hoo] at this hoi
            cases hon : lkO ob j with
            | sd te' t' xs' =>
              rw [hon] at this
              simp only [ObLe] at this
              rw [← this]
              simpa only [ObjOK] using hoi
            | _ => rw [hon] at this; simp only [ObLe] at this
          | tl e t xs =>
            rw [hoo] at this hoi
            cases hon : lkO ob j with
            | tl e' t' xs' =>
              rw [hon] at this
              simp only [ObLe] at this
              rw [← this]
              simpa only [ObjOK] using hoi
            | _ => rw [hon] at this; simp only [ObLe] at this
          | box T cs =>
            rw [hoo] at this hoi
            cases hon : lkO ob j with
            | box T' cs' =>
              rw [hon] at this
              simp only [ObLe] at this
              obtain ⟨e1, e2⟩ := this
              subst e1
              simp only [ObjOK] at hoi ⊢
              obtain ⟨g, arr, a1, a2, a3, a4, a5⟩ := hoi
              exact ⟨g, arr, a1, a2, a3, a4, AVsLe_ok hh.obj hr hn _ _ _ e2 a5⟩
            | _ => rw [hon] at this; simp only [ObLe] at this
          | _ => rw [hoo] at this; simp only [ObLe] at this
        | none =>
          rw [hx] at this
          simp only at this
          rw [(hn j hx).2]
          cases hon : lkO ob j with
          | row e' t' xs' =>
            rw [hon] at this
            simp only at this
            obtain ⟨e1, e2⟩ := this
            subst e1
            simp only [ObjOK]
            exact ⟨⟨[], World.ownsRow_nil _ _ _ _, e2, fun i h => absurd h (by simp)⟩, fun g hg => by cases hg⟩
          | arr e' t' xs' =>
            rw [hon] at this
            simp only at this
            obtain ⟨e1, e2⟩ := this
            subst e1
            simp only [ObjOK]
            exact ⟨⟨[], World.ownsRow_nil _ _ _ _, e2, fun i h => absurd h (by simp)⟩, fun g hg => by cases hg⟩
          | deep te' t' xs' =>
            rw [hon] at this
            simp only at this
            obtain ⟨e1, e2⟩ := this
            subst e1
            simp only [ObjOK]
            exact ⟨deep_nil e2, fun _ _ => Nat.zero_le _⟩
          | _ => rw [hon] at this; exact this.elim
  · obtain ⟨xi, k1, k2, k5⟩ := old i hi
    obtain ⟨xj, k3, k4, k6⟩ := old j hj
    cases xi with
    | none => exact (k5 rfl g hg).elim
    | some i' =>
      cases xj with
      | none => exact k6 rfl g
      | some j' =>
        have hne : i' ≠ j' := by
          rintro rfl
          exact hij (rhoOK_inj h1 i j k1 k3)
        intro hg'
        exact hh.sep i' j' g hne (k2 i' rfl).1 (k4 j' rfl).1 ((k2 i' rfl).2 g hg) ((k4 j' rfl).2 g hg')
  · exact AVLe_ok hh.obj hr hn _ _ _ (tmsLe_at h3 t) (hf.tmp t)
  · refine AVok.keeps (Keeps.refl w lim) (fun j hj => ?_) _ _ (hf.ext p hp)
    have hi := idb j hj
    refine ⟨(hr j j hi).1, fun hl => ?_⟩
    obtain ⟨x, k1, k2, _⟩ := old j hl
    rw [hi] at k1
    injection k1 with k1
    exact ⟨(k2 j k1.symm).1, by rw [(hr j j hi).2]⟩

end Go.AL
/- Functions on abstract frames: how they begin, how they end. A general part, over any program. -/
set_option linter.unusedSimpArgs false
set_option linter.unusedVariables false
set_option linter.unusedSectionVars false
namespace Go.AL
open Go.RowKit

/-! ### What every reading bears -/

def WF : (t : Ty) → t.den → Prop
  | .int k, n => k.min ≤ n ∧ n ≤ k.max
  | .bool, _ => True
  | .str, s => s.size ≤ maxLen
  | .list t, xs => xs.length ≤ maxLen ∧ ∀ i (h : i < xs.length), WF t xs[i]
  | .nil, _ => True
  | .cons h t, x => WF h x.1 ∧ WF t x.2

theorem Rd.wf {w : World} {lim : Nat → Nat} : ∀ {t : Ty} {cs : List Value} {x : t.den}, Rd w lim t cs x → WF t x
  | .int _, _, _, h => h.2
  | .bool, _, _, _ => trivial
  | .str, _, _, h => h.2
  | .nil, _, _, _ => trivial
  | .cons _ _, _, _, h => by obtain ⟨c1, c2, _, h1, h2⟩ := h; exact ⟨h1.wf, h2.wf⟩
  | .list t, _, _, h => by
    obtain ⟨A, cap, _, h2, h3, h4⟩ := h
    exact ⟨by omega, fun i hi => by obtain ⟨a, ds, _, _, _, hr⟩ := h4 i hi; exact hr.wf⟩

def WFs : List TV → Prop
  | [] => True
  | a :: r => WF a.t a.x ∧ WFs r

theorem ArgsOK.wf {w : World} {lim : Nat → Nat} : ∀ {args : List TV} {vs : List Value}, ArgsOK w lim args vs → WFs args
  | [], _, _ => trivial
  | a :: r, vs, h => by
    simp only [ArgsOK] at h
    obtain ⟨v, vr, _, h2, h3⟩ := h
    obtain ⟨cs, h4, _⟩ := h2
    exact ⟨h4.wf, h3.wf⟩

theorem ArgsOK.len {w : World} {lim : Nat → Nat} : ∀ {args : List TV} {vs : List Value}, ArgsOK w lim args vs → vs.length = args.length
  | [], _, h => by simp only [ArgsOK] at h; rw [h]; rfl
  | a :: r, vs, h => by
    simp only [ArgsOK] at h
    obtain ⟨v, vr, h1, _, h3⟩ := h
    rw [h1, List.length_cons, List.length_cons, h3.len]

theorem ArgsOK.get {w : World} {lim : Nat → Nat} : ∀ {args : List TV} {vs : List Value}, ArgsOK w lim args vs → ∀ i (a : TV), args[i]? = some a → RdV w lim a.t (vs.getD i undef) a.x
  | [], _, _, i, a, h => by simp at h
  | b :: r, vs, h, i, a, ha => by
    simp only [ArgsOK] at h
    obtain ⟨v, vr, h1, h2, h3⟩ := h
    subst h1
    cases i with
    | zero => have : b = a := by simpa using ha
              subst this; exact h2
    | succ i => have := h3.get i a (by simpa using ha); simpa using this

def initL : Nat → List TV → List (Nat × AV)
  | _, [] => []
  | k, a :: r => (k, .rd a.t a.x) :: initL (k + 1) r

theorem initL_lk : ∀ (args : List TV) (k t : Nat), lkT (initL k args) t = (match args[t - k]? with | some a => if k ≤ t then .rd a.t a.x else .any | none => .any)
  | [], k, t => by simp [initL, lkT]
  | a :: r, k, t => by
    simp only [initL, lkT]
    cases hb : Nat.beq t k with
    | true =>
      have := Nat.eq_of_beq_eq_true hb
      subst this
      simp
    | false =>
      have hne : t ≠ k := fun e => by rw [e, Nat.beq_refl] at hb; cases hb
      simp only [cond_false]
      rw [initL_lk r (k + 1) t]
      rcases Nat.lt_or_ge k t with hlt | hge
      · have e : t - k = (t - (k + 1)) + 1 := by omega
        rw [e, List.getElem?_cons_succ]
        cases r[t - (k + 1)]? with
        | none => rfl
        | some b => simp only; rw [if_pos (by omega), if_pos (by omega)]
      · have h0 : t - k = 0 := by omega
        rw [h0]
        simp only [List.getElem?_cons_zero]
        rw [if_neg (by omega)]
        cases r[t - (k + 1)]? with
        | none => rfl
        | some b => simp only; rw [if_neg (by omega)]

/-! ### Results -/

def resAV (tb : Tb) (σ : St) : ResultVar → AV
  | .tmp t => σ.tmps t
  | .cell a T => match (σ.tmps a) with
    | .bp i off => match σ.objs i with
      | .box _ cs => boxLoad (tb.ty T) cs off
      | _ => .any
    | _ => .any

def resC (P : Program) (tb : Tb) (σ : St) : ResultVar → Prop
  | .tmp _ => True
  | .cell a T => match (σ.tmps a) with
    | .bp i off => match σ.objs i with
      | .box _ cs => TyOK P (tb.ty T) T ∧ off + (tb.ty T).size ≤ cs.length
      | _ => False
    | _ => False

def resAll (P : Program) (tb : Tb) (σ : St) : List ResultVar → Prop
  | [] => True
  | r :: rs => resC P tb σ r ∧ resAll P tb σ rs

def resL (tb : Tb) (σ : St) : List ResultVar → List AV
  | [] => []
  | r :: rs => resAV tb σ r :: resL tb σ rs

mutual
/-- What stands in a temporary answers for what the call is to answer; the list: the objects that go out. -/
def RVle (objs : Nat → AObj) : AV → RV → List Nat → Prop
  | a, .rd t x, ids => ids = [] ∧ a.uc ∧ tvc objs t a.un ∧ tvd objs t a.un = x
  | .own i, .own e t xs, ids => ids = [i] ∧ objs i = .row e t xs
  | .own i, .fresh e t xs, ids => ids = [i] ∧ objs i = .arr e t xs
  | .own i, .tl e t xs, ids => ids = [i] ∧ (objs i = .row e t xs ∨ objs i = .tl e t xs)
  | .own i, .deep te t xs, ids => ids = [i] ∧ (objs i = .deep te t xs ∨ objs i = .bld te t xs)
  | .nils, .deep _ t xs, ids => ids = [] ∧ xs = [] ∧ 0 < t.size
  | .nils, .own _ t xs, ids => ids = [] ∧ xs = [] ∧ 0 < t.size
  | .nils, .tl _ t xs, ids => ids = [] ∧ xs = [] ∧ 0 < t.size
  | .agg cs, .agg rs, ids => RVsle objs cs rs ids
  | .tup cs, .tup rs, ids => RVsle objs cs rs ids
  | _, _, _ => False
def RVsle (objs : Nat → AObj) : List AV → List RV → List Nat → Prop
  | [], [], ids => ids = []
  | a :: as, r :: rs, ids => ∃ i1 i2, ids = i1 ++ i2 ∧ RVle objs a r i1 ∧ RVsle objs as rs i2
  | _, _, _ => False
end

section
variable {w : World} {lim : Nat → Nat} {G : Nat → Rt} {objs : Nat → AObj} {B : Nat} (ho : ∀ id, ObjOK w lim G objs 0 (G id) (objs id))
include ho
mutual
theorem RVle_ok : ∀ (rv : RV) (a : AV) (v : Value) (ids : List Nat), (∀ i g, i ∈ ids → (objs i).live = true → Blk (objs i) (G i) g → B ≤ g) → RVle objs a rv ids → AVok w lim G objs a v → RVok w lim B rv v (ids.flatMap fun i => blks (objs i) (G i)) ∧ ∀ i, i ∈ ids → (objs i).live = true
  | .rd t x, a, v, ids, hm, h, hv => by
    have h' : ids = [] ∧ a.uc ∧ tvc objs t a.un ∧ tvd objs t a.un = x := by cases a <;> simpa only [RVle] using h
    obtain ⟨h0, h1, h2, h3⟩ := h'
    subst h0
    simp only [RVok]
    rw [← h3]
    exact ⟨⟨tv_ok ho t _ v h2 (hv.un h1), rfl⟩, fun i hi => by cases hi⟩
  | .fresh e t xs, a, v, ids, hm, h, hv => by
    cases a <;> simp only [RVle] at h
    obtain ⟨h0, h1⟩ := h
    subst h0
    rename_i i
    have hi := ho i
    simp only [AVok, h1] at hv
    rw [h1] at hi
    simp only [ObjOK] at hi
    have hv := hv.2 rfl
    subst hv
    simp only [RVok]
    refine ⟨⟨hi.1.raise fun g hg => hm i g (by simp) (by rw [h1]; rfl) (by rw [h1]; exact hg), hi.2, by simp [h1, blks]⟩, fun j hj => ?_⟩
    have : j = i := by simpa using hj
    subst this
    rw [h1]; rfl
  | .tl e t xs, a, v, ids, hm, h, hv => by
    cases a <;> simp only [RVle] at h
    · obtain ⟨h0, h1, h2⟩ := h
      subst h0; subst h1
      simp only [AVok] at hv
      subst hv
      simp only [RVok]
      exact ⟨⟨⟨h2, .inl ⟨rfl, rfl⟩⟩, rfl⟩, fun i hi => by cases hi⟩
    · obtain ⟨h0, h1⟩ := h
      subst h0
      rename_i i
      have hi := ho i
      rcases h1 with h1 | h1
      · simp only [AVok, h1] at hv
        rw [h1] at hi
        simp only [ObjOK] at hi
        have hv := hv.2 rfl
        subst hv
        simp only [RVok]
        refine ⟨⟨TailOK.raise (RowOK.tail hi.1 hi.2) fun g hg => hm i g (by simp) (by rw [h1]; rfl) (by rw [h1]; exact hg), by simp [h1, blks]⟩, fun j hj => ?_⟩
        have : j = i := by simpa using hj
        subst this
        rw [h1]; rfl
      · simp only [AVok, h1] at hv
        rw [h1] at hi
        simp only [ObjOK] at hi
        have hv := hv.2 rfl
        subst hv
        simp only [RVok]
        refine ⟨⟨TailOK.raise hi fun g hg => hm i g (by simp) (by rw [h1]; rfl) (by rw [h1]; exact hg), by simp [h1, blks]⟩, fun j hj => ?_⟩
        have : j = i := by simpa using hj
        subst this
        rw [h1]; rfl
  | .own e t xs, a, v, ids, hm, h, hv => by
    cases a <;> simp only [RVle] at h
    · obtain ⟨h0, h1, h2⟩ := h
      subst h0; subst h1
      simp only [AVok] at hv
      subst hv
      simp only [RVok]
      exact ⟨⟨⟨[], World.ownsRow_nil _ _ _ _, h2, fun i h => absurd h (by simp)⟩, (fun g hg => by cases hg), rfl⟩, fun i hi => by cases hi⟩
    · obtain ⟨h0, h1⟩ := h
      subst h0
      rename_i i
      have hi := ho i
      simp only [AVok, h1] at hv
      rw [h1] at hi
      simp only [ObjOK] at hi
      have hv := hv.2 rfl
      subst hv
      simp only [RVok]
      refine ⟨⟨hi.1.raise fun g hg => hm i g (by simp) (by rw [h1]; rfl) (by rw [h1]; exact hg), hi.2, by simp [h1, blks]⟩, fun j hj => ?_⟩
      have : j = i := by simpa using hj
      subst this
      rw [h1]; rfl
  | .deep te t xs, a, v, ids, hm, h, hv => by
    cases a <;> simp only [RVle] at h
    · obtain ⟨h0, h1, h2⟩ := h
      subst h0; subst h1
      simp only [AVok] at hv
      subst hv
      simp only [RVok]
      exact ⟨⟨[], rfl, deep_nil h2, fun g hg => by cases hg⟩, fun i hi => by cases hi⟩
    · obtain ⟨h0, h1⟩ := h
      subst h0
      rename_i i
      have hi := ho i
      rcases h1 with h1 | h1
      all_goals
        simp only [AVok, h1] at hv
        rw [h1] at hi
        simp only [ObjOK] at hi
        have hv := hv.2 rfl
        subst hv
        simp only [RVok]
        refine ⟨⟨(G i).fp, by simp [h1, blks], hi.1, fun g hg => ?_⟩, fun j hj => ?_⟩
        · refine hm i g (by simp) (by rw [h1]; rfl) ?_
          rw [Blk_iff]
          simpa using hg
        · have : j = i := by simpa using hj
          subst this
          rw [h1]; rfl
  | .agg rs, a, v, ids, hm, h, hv => by
    cases a <;> simp only [RVle] at h
    simp only [AVok] at hv
    obtain ⟨arr, h1, h2⟩ := hv
    obtain ⟨k1, k2⟩ := RVsle_ok rs _ arr ids hm h h2
    simp only [RVok]
    exact ⟨⟨arr, h1, k1⟩, k2⟩
  | .tup rs, a, v, ids, hm, h, hv => by
    cases a <;> simp only [RVle] at h
    simp only [AVok] at hv
    obtain ⟨arr, h1, h2⟩ := hv
    obtain ⟨k1, k2⟩ := RVsle_ok rs _ arr ids hm h h2
    simp only [RVok]
    exact ⟨⟨arr, h1, k1⟩, k2⟩
theorem RVsle_ok : ∀ (rs : List RV) (as : List AV) (vs : List Value) (ids : List Nat), (∀ i g, i ∈ ids → (objs i).live = true → Blk (objs i) (G i) g → B ≤ g) → RVsle objs as rs ids → AVsOk w lim G objs as vs → RVsOk w lim B rs vs (ids.flatMap fun i => blks (objs i) (G i)) ∧ ∀ i, i ∈ ids → (objs i).live = true
  | [], as, vs, ids, hm, h, hv => by
    cases as <;> simp only [RVsle] at h
    subst h
    simp only [AVsOk] at hv
    simp only [RVsOk]
    exact ⟨⟨hv, rfl⟩, fun i hi => by cases hi⟩
  | r :: rs, as, vs, ids, hm, h, hv => by
    cases as with
    | nil => simp only [RVsle] at h
    | cons a as =>
      simp only [RVsle] at h
      obtain ⟨i1, i2, e, h1, h2⟩ := h
      subst e
      simp only [AVsOk] at hv
      obtain ⟨v, vr, e1, h3, h4⟩ := hv
      obtain ⟨k1, k2⟩ := RVle_ok r a v i1 (fun i g hi => hm i g (List.mem_append_left _ hi)) h1 h3
      obtain ⟨k3, k4⟩ := RVsle_ok rs as vr i2 (fun i g hi => hm i g (List.mem_append_right _ hi)) h2 h4
      simp only [RVsOk]
      refine ⟨⟨v, vr, _, _, e1, List.flatMap_append, k1, k3⟩, fun i hi => ?_⟩
      rcases List.mem_append.1 hi with hi | hi
      · exact k2 i hi
      · exact k4 i hi
end
end

theorem blks_nodup {w : World} {lim : Nat → Nat} {G : Nat → Rt} {objs : Nat → AObj} {B : Nat} {r : Rt} {o : AObj} (h : ObjOK w lim G objs B r o) : (blks o r).Nodup := by
  cases o <;> simp only [blks] <;> simp only [ObjOK] at h <;> first | exact List.nodup_nil | exact h.1.2.1 | exact h.1.1.2.1 | (cases blk r.v <;> simp)

/-- The list of results as one value. -/
def oneOf : List AV → AV
  | [a] => a
  | l => .tup l

/-- What is asked at a function's end. -/
def RetQ (P : Program) (tb : Tb) (rs : List ResultVar) (rv : RV) (σ : St) : Prop :=
  resAll P tb σ rs ∧ ∃ ids, ids.Nodup ∧ RVle σ.objs (oneOf (resL tb σ rs)) rv ids

section
variable {P : Program} {cx : Cx} {tb : Tb} {σ : St} {a : Act} {w : World} {lim : Nat → Nat} {G : Nat → Rt}

def resFn (tmps : Array Value) : ResultVar → Sem Value
  | .tmp t => pure (tmps.getD t undef)
  | .cell c t => do loadVar t (← asAddr (tmps.getD c undef))

theorem run_res (hh : Hp cx σ.objs w lim G) (hf : Fr cx σ a w lim G) : ∀ (rs : List ResultVar), resAll P tb σ rs →
    ∃ vs : List Value, (rs.mapM (m := Sem) (resFn a.tmps)).run P w = .ok vs w ∧ AVsOk w lim G σ.objs (resL tb σ rs) vs
  | [], _ => ⟨[], by simp, by simp only [resL, AVsOk]⟩
  | r :: rs, h => by
    obtain ⟨h1, h2⟩ := h
    obtain ⟨vs, e1, e2⟩ := run_res hh hf rs h2
    cases r with
    | tmp t =>
      refine ⟨a.tmps.getD t undef :: vs, ?_, ?_⟩
      · rw [List.mapM_cons]
        have : (resFn a.tmps (.tmp t)).run P w = .ok (a.tmps.getD t undef) w := rfl
        simp only [Sem.run_bind, Sem.run_pure, Result.andThen_ok, e1, this]
      · simp only [resL, resAV, AVsOk]
        exact ⟨_, _, rfl, hf.tmp t, e2⟩
    | cell c T =>
      simp only [resC] at h1
      cases hc : σ.tmps c with
      | bp i off =>
        rw [hc] at h1
        simp only at h1
        cases hb : σ.objs i with
        | box T' cs =>
          rw [hb] at h1
          simp only at h1
          have h := hf.tmp c
          rw [hc] at h
          obtain ⟨g, arr, b1, b2, b3, b4, b5, b6⟩ := boxAt hh hb h
          have hl := b6.length
          have hcells : ∀ j u, ((arr.toList.drop off).take (tb.ty T).size)[j]? = some u → w.cell? ((⟨g, off, none⟩ : Addr).add j) = some u := by
            intro j u hu
            have e : (⟨g, off, none⟩ : Addr).add j = ⟨g, off + j, none⟩ := by unfold Addr.add; split <;> simp_all
            rw [e, cell_of_row w g _ arr T' (0, 0) b4]
            rw [List.getElem?_take] at hu
            split at hu
            · simpa using hu
            · cases hu
          have hlen : ((arr.toList.drop off).take (tb.ty T).size).length = (tb.ty T).size := by rw [List.length_take, List.length_drop, hl]; omega
          have hld := run_load_at h1.1 w ⟨g, off, none⟩ _ hlen hcells
          unfold Instr.loadAt Instr.sureAddr at hld
          simp only [Sem.run_bind, Sem.run_pure, Result.andThen_ok] at hld
          refine ⟨mkV (tb.ty T) ((arr.toList.drop off).take (tb.ty T).size) :: vs, ?_, ?_⟩
          · rw [List.mapM_cons]
            have ha : (asAddr (a.tmps.getD c undef)).run P w = .ok ⟨g, off, none⟩ w := by rw [b2]; rfl
            have : (resFn a.tmps (.cell c T)).run P w = .ok (mkV (tb.ty T) ((arr.toList.drop off).take (tb.ty T).size)) w := by
              simp only [resFn, Sem.run_bind, ha, Result.andThen_ok, hld]
            simp only [Sem.run_bind, Sem.run_pure, Result.andThen_ok, e1, this]
          · simp only [resL, resAV, hc, hb, AVsOk]
            refine ⟨_, _, rfl, ?_, e2⟩
            unfold boxLoad mkV
            cases hg : (tb.ty T).isAgg with
            | true =>
              simp only [cond_true, AVok, if_true]
              exact ⟨_, rfl, b6.cut off (tb.ty T).size⟩
            | false =>
              have hs : (tb.ty T).size = 1 := by cases htt : tb.ty T <;> simp_all [Ty.isAgg, Ty.size]
              have hlt : off < cs.length := by omega
              have hla : off < arr.toList.length := by omega
              simp only [cond_false, Bool.false_eq_true, if_false]
              have e : ((arr.toList.drop off).take (tb.ty T).size).headD undef = arr.toList.getD off undef := by
                rw [hs, List.drop_eq_getElem_cons hla]
                simp [List.getD_eq_getElem?_getD, List.getElem?_eq_getElem hla]
              rw [e]
              exact b6.get off hlt
        | _ => rw [hb] at h1; exact h1.elim
      | _ => rw [hc] at h1; exact h1.elim

theorem results_ok {fn : Func} (hh : Hp cx σ.objs w lim G) (hf : Fr cx σ a w lim G) (hr : resAll P tb σ fn.results.toList) :
    ∃ v, (results fn a.tmps).run P w = .ok v w ∧ AVok w lim G σ.objs (oneOf (resL tb σ fn.results.toList)) v := by
  obtain ⟨vs, h1, h2⟩ := run_res hh hf fn.results.toList hr
  have hl := h2.length
  have e : (results fn a.tmps).run P w = .ok (if h : vs.toArray.size = 1 then vs.toArray[0] else .tuple vs.toArray) w := by
    have hd : results fn a.tmps = (do
        let vs ← fn.results.mapM (resFn a.tmps)
        pure (if h : vs.size = 1 then vs[0] else .tuple vs)) := rfl
    have this : (fn.results.mapM (m := Sem) (resFn a.tmps)).run P w = .ok vs.toArray w := by
      rw [Array.mapM_eq_mapM_toList, map_eq_pure_bind, Sem.run_bind, h1]
      rfl
    rw [hd, Sem.run_bind, this]
    rfl
  refine ⟨_, e, ?_⟩
  cases hvs : vs with
  | nil =>
    rw [hvs] at hl h2
    have : resL tb σ fn.results.toList = [] := List.eq_nil_of_length_eq_zero (by simpa using hl.symm)
    rw [this] at h2 ⊢
    simp only [oneOf, AVok]
    exact ⟨[], by simp, h2⟩
  | cons v r =>
    cases r with
    | nil =>
      rw [hvs] at hl h2
      cases hrl : resL tb σ fn.results.toList with
      | nil => rw [hrl] at hl; simp at hl
      | cons b bs =>
        cases bs with
        | nil =>
          rw [hrl] at h2
          simp only [AVsOk] at h2
          obtain ⟨v', r', e1, h3, h4⟩ := h2
          injection e1 with e1 e2
          subst e1
          simpa [oneOf] using h3
        | cons _ _ => rw [hrl] at hl; simp at hl
    | cons v2 r2 =>
      rw [hvs] at hl h2
      have : oneOf (resL tb σ fn.results.toList) = .tup (resL tb σ fn.results.toList) := by
        cases hrl : resL tb σ fn.results.toList with
        | nil => rfl
        | cons b bs =>
          cases bs with
          | nil => rw [hrl] at hl; simp at hl
          | cons _ _ => rfl
      rw [this]
      simp only [AVok]
      exact ⟨v :: v2 :: r2, by simp, h2⟩

def finQ (k : St → Prop) (e : Exit) (σ : St) : Prop :=
  match e with
  | .normal => k σ
  | .ret => k σ
  | _ => False

/-- A function, by its body. -/
theorem fun_ofT {P : Program} {tb : Tb} {f : FuncId} {fn : Func} {c : Code} {args : List TV} {rv : RV} (hf : P.funcs[f]? = some fn) (hn : (fn.name == "runtime.NumGoroutine") = false) (hb : fn.body = some c)
    (hl : args.length ≤ fn.ntmps)
    (h : ∀ cx : Cx, cx.is fn.ntmps [] → WFs args → T P cx c (finQ (RetQ P tb fn.results.toList rv)) (shp (initL 0 args) [])) : FunOK P f args rv := by
  refine ⟨⟨fn, hf, hn, by rw [hb]; rfl⟩, fun w lim vs hargs => ?_⟩
  let cx : Cx := ⟨w.heap.size, w, lim, fn.ntmps, fun _ => none, fun _ => False⟩
  have hL : ∀ g, ¬ cx.L g := fun g ⟨_, _, h, _⟩ => by cases h
  have hl2 := hargs.len
  refine calls_of_wp hf hb ?_
  have hs : Sat cx (shp (initL 0 args) []) { tmps := vs.toArray ++ Array.replicate (fn.ntmps - vs.toArray.size) undef, defers := [] } w := by
    refine ⟨lim, fun _ => ⟨.nilFunc, []⟩, ⟨rfl, BelowL.refl _ _ _, fun _ _ _ => rfl, fun id => by simp only [shp, lkO, ObjOK], fun i j g _ hi => by simp [shp, lkO, AObj.live] at hi, fun i g hi => by simp [shp, lkO, AObj.live] at hi, fun j r hr => (by cases hr), fun j r hr => (by cases hr)⟩, ?_, rfl, fun t => ?_, fun p hp => hp.elim⟩
    · show (vs.toArray ++ Array.replicate (fn.ntmps - vs.toArray.size) undef).size = fn.ntmps
      simp; omega
    · simp only [shp]
      rw [initL_lk, Nat.sub_zero]
      cases ha : args[t]? with
      | none => simp only [AVok]
      | some a =>
        simp only
        rw [if_pos (Nat.zero_le _)]
        simp only [AVok]
        have := hargs.get t a ha
        have ht : t < vs.length := by rw [hl2]; exact (List.getElem?_eq_some_iff.1 ha).1
        have e : (vs.toArray ++ Array.replicate (fn.ntmps - vs.toArray.size) undef).getD t undef = vs.getD t undef := by
          simp [Array.getD_eq_getD_getElem?, Array.getElem?_append, ht, List.getD_eq_getElem?_getD]
        rw [e]
        exact this
  have hT := h cx ⟨rfl, fun j r hr => (by cases hr), fun p hp => hp⟩ hargs.wf _ w hs
  refine wp_mono hT fun e a' w' hq => ?_
  obtain ⟨σ', h1, lim', G, hh, hfr⟩ := hq
  have fin : RetQ P tb fn.results.toList rv σ' → a'.defers = [] ∧ ∃ v, (results fn a'.tmps).run P w' = .ok v w' ∧ ∃ v0 lim' fp, Ending.returned v = .returned v0 ∧ Below w.heap.size w w' ∧ (∀ b, b < w.heap.size → lim' b = lim b) ∧ RVok w' lim' w.heap.size rv v0 fp ∧ fp.Nodup := by
    rintro ⟨q1, ids, q2, q3⟩
    obtain ⟨v, r1, r2⟩ := results_ok hh hfr q1
    obtain ⟨k1, k2⟩ := RVle_ok (B := w.heap.size) hh.obj rv _ v ids (fun i g _ hl hg => (hh.mine i g hl hg).resolve_right (hL g)) q3 r2
    refine ⟨hfr.defers, v, r1, v, lim', _, rfl, ⟨hh.below.os, hh.below.tape, hh.below.output, hh.below.size, fun k hk => hh.below.block k hk (hL k)⟩, fun b hb => hh.lim0 b hb (hL b), k1, ?_⟩
    have nd : ∀ l : List Nat, l.Nodup → (∀ i, i ∈ l → (σ'.objs i).live = true) → (l.flatMap fun i => blks (σ'.objs i) (G i)).Nodup := by
      intro l
      induction l with
      | nil => intro _ _; exact List.nodup_nil
      | cons i l ih =>
        intro hnd hlv
        rw [List.nodup_cons] at hnd
        rw [List.flatMap_cons, List.nodup_append]
        refine ⟨blks_nodup (hh.obj i), ih hnd.2 fun j hj => hlv j (by simp [hj]), fun x hx y hy hxy => ?_⟩
        subst hxy
        have hx' := (Blk_iff _ _ _).2 hx
        rw [List.mem_flatMap] at hy
        obtain ⟨j, hj, hy⟩ := hy
        have hy' := (Blk_iff _ _ _).2 hy
        have hij : i ≠ j := by rintro rfl; exact hnd.1 hj
        exact hh.sep i j x hij (hlv i (by simp)) (hlv j (by simp [hj])) hx' hy'
    exact nd ids q2 k2
  cases e with
  | normal => exact fin h1
  | ret => exact fin h1
  | _ => exact h1.elim
end

end Go.AL
/- Functions to which something is lent: how they begin, how they end. A general part, over any program. -/
set_option linter.unusedSimpArgs false
set_option linter.unusedVariables false
set_option linter.unusedSectionVars false
namespace Go.AL
open Go.RowKit

def mAV (c : Nat) : MA → AV
  | .rd a => .rd a.t a.x
  | .obj (.arr _ _ _) => .own c
  | .obj (.deep _ _ _) => .own c
  | .obj (.box _ _) => .bp c 0
  | .obj _ => .any
def mAVs : Nat → List MA → List AV
  | _, [] => []
  | c, m :: ms => mAV c m :: mAVs (c + 1) ms
/-- The parameters' temporaries. k: the parameter; c: the cell. -/
def initM : Nat → Nat → List (Option Nat) → List MA → List (Nat × AV)
  | _, _, [], _ => []
  | k, c, none :: s, m :: ms => (k, mAV c m) :: initM (k + 1) (c + 1) s ms
  | _, _, none :: _, [] => []
  | k, c, some n :: s, ms => (k, .agg (mAVs c (ms.take n))) :: initM (k + 1) (c + n) s (ms.drop n)
def initO : Nat → List MA → List (Nat × AObj)
  | _, [] => []
  | c, .rd _ :: ms => initO (c + 1) ms
  | c, .obj o :: ms => (c, o) :: initO (c + 1) ms
def initI : Nat → List MA → List Nat
  | _, [] => []
  | c, .rd _ :: ms => initI (c + 1) ms
  | c, .obj _ :: ms => c :: initI (c + 1) ms

def shOK : List (Option Nat) → Nat → Prop
  | [], n => n = 0
  | none :: s, n => ∃ m, n = m + 1 ∧ shOK s m
  | some k :: s, n => k ≤ n ∧ shOK s (n - k)

def WFm : List MA → Prop
  | [] => True
  | .rd a :: r => WF a.t a.x ∧ WFm r
  | .obj _ :: r => WFm r

section
variable {w : World} {lim : Nat → Nat}

theorem MCells.len : ∀ {ms : List MA} {vs : List Rt}, MCells w lim ms vs → vs.length = ms.length
  | [], vs, h => by simp only [MCells] at h; rw [h]; rfl
  | .rd a :: ms, vs, h => by simp only [MCells] at h; obtain ⟨v, r, rfl, _, h⟩ := h; simp [h.len]
  | .obj a :: ms, vs, h => by simp only [MCells] at h; obtain ⟨v, r, rfl, _, h⟩ := h; simp [h.len]

theorem MCells.wf : ∀ {ms : List MA} {vs : List Rt}, MCells w lim ms vs → WFm ms
  | [], vs, h => trivial
  | .rd a :: ms, vs, h => by
    simp only [MCells] at h
    obtain ⟨v, r, rfl, h1, h2⟩ := h
    obtain ⟨cs, h4, _⟩ := h1
    exact ⟨h4.wf, h2.wf⟩
  | .obj a :: ms, vs, h => by simp only [MCells] at h; obtain ⟨v, r, rfl, _, h⟩ := h; exact h.wf

theorem MCells.drop : ∀ (n : Nat) {ms : List MA} {vs : List Rt}, MCells w lim ms vs → MCells w lim (ms.drop n) (vs.drop n)
  | 0, ms, vs, h => by simpa using h
  | n + 1, [], vs, h => by simp only [MCells] at h; subst h; simp only [List.drop_nil, MCells]
  | n + 1, .rd a :: ms, vs, h => by simp only [MCells] at h; obtain ⟨v, r, rfl, _, h⟩ := h; simpa using MCells.drop n h
  | n + 1, .obj a :: ms, vs, h => by simp only [MCells] at h; obtain ⟨v, r, rfl, _, h⟩ := h; simpa using MCells.drop n h

theorem MCells.take : ∀ (n : Nat) {ms : List MA} {vs : List Rt}, MCells w lim ms vs → MCells w lim (ms.take n) (vs.take n)
  | 0, ms, vs, h => by simp only [List.take_zero, MCells]
  | n + 1, [], vs, h => by simp only [MCells] at h; subst h; simp only [List.take_nil, MCells]
  | n + 1, .rd a :: ms, vs, h => by simp only [MCells] at h; obtain ⟨v, r, rfl, h1, h⟩ := h; simp only [List.take_succ_cons, MCells]; exact ⟨v, _, rfl, h1, MCells.take n h⟩
  | n + 1, .obj a :: ms, vs, h => by simp only [MCells] at h; obtain ⟨v, r, rfl, h1, h⟩ := h; simp only [List.take_succ_cons, MCells]; exact ⟨v, _, rfl, h1, MCells.take n h⟩

theorem MCells.objAt : ∀ {ms : List MA} {vs : List Rt}, MCells w lim ms vs → ∀ k o, ms[k]? = some (.obj o) → ∃ v, vs[k]? = some v ∧ lentAt ms vs k = some v ∧ o.clo = true ∧ ObjOK w lim noG noO 0 v o ∧ ∀ g, BlkR v g → Blk o v g
  | [], vs, h, k, o, hk => by simp at hk
  | .rd a :: ms, vs, h, k, o, hk => by
    simp only [MCells] at h
    obtain ⟨v, r, rfl, _, h⟩ := h
    cases k with
    | zero => simp at hk
    | succ k => simpa [lentAt] using h.objAt k o (by simpa using hk)
  | .obj a :: ms, vs, h, k, o, hk => by
    simp only [MCells] at h
    obtain ⟨v, r, rfl, h1, h⟩ := h
    cases k with
    | zero =>
      have e : a = o := by simpa using hk
      subst e
      exact ⟨v, rfl, rfl, h1⟩
    | succ k => simpa [lentAt] using h.objAt k o (by simpa using hk)

theorem lentAt_obj : ∀ {ms : List MA} {vs : List Rt} {k : Nat} {r : Rt}, lentAt ms vs k = some r → ∃ o, ms[k]? = some (.obj o) ∧ vs[k]? = some r
  | [], vs, k, r, h => by simp [lentAt] at h
  | .rd a :: ms, [], k, r, h => by cases k <;> simp [lentAt] at h
  | .obj a :: ms, [], k, r, h => by cases k <;> simp [lentAt] at h
  | .rd a :: ms, v :: vs, k, r, h => by
    cases k with
    | zero => simp [lentAt] at h
    | succ k => simpa using lentAt_obj (by simpa [lentAt] using h)
  | .obj a :: ms, v :: vs, k, r, h => by
    cases k with
    | zero => simp only [lentAt, Option.some.injEq] at h; subst h; exact ⟨a, rfl, rfl⟩
    | succ k => simpa using lentAt_obj (by simpa [lentAt] using h)

theorem initO_lk : ∀ (ms : List MA) (c j : Nat), lkO (initO c ms) j = (match ms[j - c]? with | some (.obj o) => if c ≤ j then o else .unborn | _ => .unborn)
  | [], c, j => by simp [initO, lkO]
  | .rd a :: ms, c, j => by
    simp only [initO]
    rw [initO_lk ms (c + 1) j]
    rcases Nat.lt_or_ge c j with hlt | hge
    · have e : j - c = (j - (c + 1)) + 1 := by omega
      rw [e, List.getElem?_cons_succ]
      cases ms[j - (c + 1)]? with
      | none => rfl
      | some m => cases m with
        | rd _ => rfl
        | obj o => simp only; rw [if_pos (by omega), if_pos (by omega)]
    · have e : j - c = 0 := by omega
      rw [e]
      simp only [List.getElem?_cons_zero]
      cases ms[j - (c + 1)]? with
      | none => rfl
      | some m => cases m with
        | rd _ => rfl
        | obj o => simp only; rw [if_neg (by omega)]
  | .obj a :: ms, c, j => by
    simp only [initO, lkO]
    cases hb : Nat.beq j c with
    | true =>
      have := Nat.eq_of_beq_eq_true hb
      subst this
      simp
    | false =>
      have hne : j ≠ c := fun e => by rw [e, Nat.beq_refl] at hb; cases hb
      simp only [cond_false]
      rw [initO_lk ms (c + 1) j]
      rcases Nat.lt_or_ge c j with hlt | hge
      · have e : j - c = (j - (c + 1)) + 1 := by omega
        rw [e, List.getElem?_cons_succ]
        cases ms[j - (c + 1)]? with
        | none => rfl
        | some m => cases m with
          | rd _ => rfl
          | obj o => simp only; rw [if_pos (by omega), if_pos (by omega)]
      · have e : j - c = 0 := by omega
        rw [e]
        simp only [List.getElem?_cons_zero]
        rw [if_neg (by omega)]
        cases ms[j - (c + 1)]? with
        | none => rfl
        | some m => cases m with
          | rd _ => rfl
          | obj o => simp only; rw [if_neg (by omega)]

theorem initI_mem : ∀ {ms : List MA} {c k : Nat} {o : AObj}, ms[k]? = some (.obj o) → c + k ∈ initI c ms
  | [], c, k, o, h => by simp at h
  | .rd a :: ms, c, k, o, h => by
    cases k with
    | zero => simp at h
    | succ k =>
      simp only [initI]
      have := initI_mem (c := c + 1) (k := k) (ms := ms) (o := o) (by simpa using h)
      rwa [show c + (k + 1) = c + 1 + k by omega]
  | .obj a :: ms, c, k, o, h => by
    simp only [initI]
    cases k with
    | zero => exact List.mem_cons_self
    | succ k =>
      have := initI_mem (c := c + 1) (k := k) (ms := ms) (o := o) (by simpa using h)
      rw [show c + (k + 1) = c + 1 + k by omega]
      exact List.mem_cons_of_mem _ this

variable {G : Nat → Rt} {objs : Nat → AObj}

/-- Cells from c on: their objects stand at their numbers. -/
def At0 (G : Nat → Rt) (objs : Nat → AObj) (c : Nat) (ms : List MA) (vs : List Rt) : Prop :=
  ∀ k o v, ms[k]? = some (.obj o) → vs[k]? = some v → objs (c + k) = o ∧ G (c + k) = v

theorem At0.tail {c : Nat} {m : MA} {v : Rt} {ms : List MA} {vs : List Rt} (h : At0 G objs c (m :: ms) (v :: vs)) : At0 G objs (c + 1) ms vs := by
  intro k o u hk hu
  have := h (k + 1) o u (by simpa using hk) (by simpa using hu)
  rwa [show c + (k + 1) = c + 1 + k by omega] at this

theorem At0.drop {c n : Nat} {ms : List MA} {vs : List Rt} (h : At0 G objs c ms vs) : At0 G objs (c + n) (ms.drop n) (vs.drop n) := by
  intro k o u hk hu
  have := h (n + k) o u (by simpa [List.getElem?_drop] using hk) (by simpa [List.getElem?_drop] using hu)
  rwa [show c + (n + k) = c + n + k by omega] at this

theorem At0.take {c n : Nat} {ms : List MA} {vs : List Rt} (h : At0 G objs c ms vs) : At0 G objs c (ms.take n) (vs.take n) := by
  intro k o u hk hu
  rw [List.getElem?_take] at hk hu
  split at hk
  · rw [if_pos ‹_›] at hu; exact h k o u hk hu
  · cases hk

theorem mAV_ok {c : Nat} {m : MA} {v : Rt} {ms : List MA} {vs : List Rt} (hat : At0 G objs c (m :: ms) (v :: vs)) (hm : MCells w lim [m] [v]) : AVok w lim G objs (mAV c m) v.v := by
  cases m with
  | rd a =>
    simp only [MCells] at hm
    obtain ⟨v', r, e, h1, _⟩ := hm
    injection e with e
    subst e
    simp only [mAV, AVok]
    exact h1
  | obj o =>
    simp only [MCells] at hm
    obtain ⟨v', r, e, ⟨h1, h2⟩, _⟩ := hm
    injection e with e
    subst e
    obtain ⟨k1, k2⟩ := hat 0 o v rfl rfl
    simp only [Nat.add_zero] at k1 k2
    cases o with
    | arr e t xs =>
      simp only [mAV, AVok, k1, k2]
      exact ⟨rfl, fun _ => trivial⟩
    | deep te t xs =>
      simp only [mAV, AVok, k1, k2]
      exact ⟨rfl, fun _ => trivial⟩
    | box T cs =>
      simp only [mAV, AVok, k1, k2]
      have h2 := h2.1
      simp only [ObjOK] at h2
      obtain ⟨g, arr, e1, _⟩ := h2
      exact ⟨rfl, fun _ => ⟨g, by rw [e1]; rfl, e1⟩⟩
    | _ => cases h1

theorem MCells.one {m : MA} {ms : List MA} {v : Rt} {vs : List Rt} (h : MCells w lim (m :: ms) (v :: vs)) : MCells w lim [m] [v] ∧ MCells w lim ms vs := by
  cases m with
  | rd a =>
    simp only [MCells] at h ⊢
    obtain ⟨v', r, e, h1, h2⟩ := h
    injection e with e1 e2
    subst e1; subst e2
    exact ⟨⟨v, [], rfl, h1, rfl⟩, h2⟩
  | obj o =>
    simp only [MCells] at h ⊢
    obtain ⟨v', r, e, h1, h2⟩ := h
    injection e with e1 e2
    subst e1; subst e2
    exact ⟨⟨v, [], rfl, h1, rfl⟩, h2⟩

theorem mAVs_ok : ∀ {ms : List MA} {vs : List Rt} {c : Nat}, At0 G objs c ms vs → MCells w lim ms vs → AVsOk w lim G objs (mAVs c ms) (vs.map (·.v))
  | [], vs, c, _, h => by simp only [MCells] at h; subst h; simp only [mAVs, AVsOk, List.map_nil]
  | m :: ms, vs, c, hat, h => by
    cases vs with
    | nil => have := h.len; simp at this
    | cons v vs =>
      obtain ⟨h1, h2⟩ := h.one
      simp only [mAVs, AVsOk, List.map_cons]
      exact ⟨v.v, vs.map (·.v), rfl, mAV_ok hat h1, mAVs_ok hat.tail h2⟩

theorem initM_ok : ∀ {s : List (Option Nat)} {ms : List MA} {vs : List Rt} {k c : Nat}, shOK s ms.length → At0 G objs c ms vs → MCells w lim ms vs → ∀ t, AVok w lim G objs (lkT (initM k c s ms) t) (if k ≤ t then (pack s (vs.map (·.v))).getD (t - k) undef else undef)
  | [], ms, vs, k, c, _, _, _, t => by simp only [initM, lkT, AVok]
  | none :: s, [], vs, k, c, _, _, _, t => by simp only [initM, lkT, AVok]
  | none :: s, m :: ms, vs, k, c, hs, hat, h, t => by
    cases vs with
    | nil => have := h.len; simp at this
    | cons v vs =>
      obtain ⟨h1, h2⟩ := h.one
      obtain ⟨n, e, hs⟩ := hs
      have hs' : shOK s ms.length := by simp only [List.length_cons] at e; have : ms.length = n := by omega
                                        rw [this]; exact hs
      simp only [initM, lkT, pack, List.map_cons, List.headD_cons, List.drop_succ_cons, List.drop_zero]
      cases hb : Nat.beq t k with
      | true =>
        have := Nat.eq_of_beq_eq_true hb
        subst this
        simp only [cond_true, Nat.le_refl, if_true, Nat.sub_self, List.getD_cons_zero]
        exact mAV_ok hat h1
      | false =>
        have hne : t ≠ k := fun e => by rw [e, Nat.beq_refl] at hb; cases hb
        simp only [cond_false]
        have ih := initM_ok (s := s) (k := k + 1) (c := c + 1) hs' hat.tail h2 t
        rcases Nat.lt_or_ge k t with hlt | hge
        · rw [if_pos (by omega)] at ih ⊢
          rw [show t - k = (t - (k + 1)) + 1 by omega, List.getD_cons_succ]
          exact ih
        · rw [if_neg (by omega)] at ih ⊢
          exact ih
  | some n :: s, ms, vs, k, c, hs, hat, h, t => by
    simp only [initM, lkT, pack]
    cases hb : Nat.beq t k with
    | true =>
      have := Nat.eq_of_beq_eq_true hb
      subst this
      simp only [cond_true, Nat.le_refl, if_true, Nat.sub_self, List.getD_cons_zero, AVok]
      exact ⟨_, rfl, by rw [← List.map_take]; exact mAVs_ok hat.take (h.take n)⟩
    | false =>
      have hne : t ≠ k := fun e => by rw [e, Nat.beq_refl] at hb; cases hb
      simp only [cond_false]
      have ih := initM_ok (s := s) (k := k + 1) (c := c + n) (by rw [List.length_drop]; exact hs.2) hat.drop (h.drop n) t
      rw [List.map_drop] at ih
      rcases Nat.lt_or_ge k t with hlt | hge
      · rw [if_pos (by omega)] at ih ⊢
        rw [show t - k = (t - (k + 1)) + 1 by omega, List.getD_cons_succ]
        exact ih
      · rw [if_neg (by omega)] at ih ⊢
        exact ih

theorem pack_len : ∀ (s : List (Option Nat)) (vs : List Value), (pack s vs).length = s.length
  | [], _ => rfl
  | none :: s, vs => by simp only [pack, List.length_cons, pack_len s]
  | some n :: s, vs => by simp only [pack, List.length_cons, pack_len s]

/-- What lies in the lent cells at the end. -/
def outsAt (objs : Nat → AObj) : Nat → List MA → List AObj → Prop
  | _, [], outs => outs = []
  | c, .rd _ :: ms, outs => outsAt objs (c + 1) ms outs
  | c, .obj o0 :: ms, o :: r => (objs c = o ∧ o.clo = true ∧ o.isDeep = o0.isDeep) ∧ outsAt objs (c + 1) ms r
  | _, .obj _ :: _, [] => False

theorem outsAt_ok {w' : World} {lim' : Nat → Nat} (ho : ∀ id, ObjOK w' lim' G objs 0 (G id) (objs id)) : ∀ {ms : List MA} {vs : List Rt} {c : Nat} {outs : List AObj}, vs.length = ms.length → (∀ k r, lentAt ms vs k = some r → G (c + k) = r) → outsAt objs c ms outs → OutsOK w' lim' ms vs outs
  | [], vs, c, outs, _, _, h => by simp only [outsAt] at h; simp only [OutsOK]; exact h
  | .rd a :: ms, [], c, outs, hl, _, h => by simp at hl
  | .obj a :: ms, [], c, outs, hl, _, h => by simp at hl
  | .rd a :: ms, v :: vs, c, outs, hl, hg, h => by
    simp only [outsAt] at h
    simp only [OutsOK]
    exact outsAt_ok ho (by simpa using hl) (fun k r hk => by have := hg (k + 1) r (by simpa [lentAt] using hk); rwa [show c + (k + 1) = c + 1 + k by omega] at this) h
  | .obj a :: ms, v :: vs, c, [], hl, hg, h => h.elim
  | .obj a :: ms, v :: vs, c, o :: r, hl, hg, h => by
    obtain ⟨⟨h1, h2, h0⟩, h3⟩ := h
    simp only [OutsOK]
    refine ⟨o, r, rfl, ⟨h0, ?_⟩, outsAt_ok ho (by simpa using hl) (fun k q hk => by have := hg (k + 1) q (by simpa [lentAt] using hk); rwa [show c + (k + 1) = c + 1 + k by omega] at this) h3⟩
    have e := hg 0 v (by simp [lentAt])
    simp only [Nat.add_zero] at e
    have := ho c
    rw [e, h1] at this
    exact ObjOK.clo h2 this

theorem outsAt_live : ∀ {ms : List MA} {c : Nat} {outs : List AObj}, outsAt objs c ms outs → ∀ k o, ms[k]? = some (.obj o) → (objs (c + k)).live = true
  | [], c, outs, _, k, o, hk => by simp at hk
  | .rd a :: ms, c, outs, h, k, o, hk => by
    cases k with
    | zero => simp at hk
    | succ k => have := outsAt_live (ms := ms) h k o (by simpa using hk); rwa [show c + (k + 1) = c + 1 + k by omega]
  | .obj a :: ms, c, [], h, k, o, hk => h.elim
  | .obj a :: ms, c, q :: r, h, k, o, hk => by
    obtain ⟨⟨h1, h2, _⟩, h3⟩ := h
    cases k with
    | zero => rw [Nat.add_zero, h1]; exact AObj.clo_live h2
    | succ k => have := outsAt_live (ms := ms) h3 k o (by simpa using hk); rwa [show c + (k + 1) = c + 1 + k by omega]

theorem outsAt_deep : ∀ {ms : List MA} {c : Nat} {outs : List AObj}, outsAt objs c ms outs → ∀ k o, ms[k]? = some (.obj o) → (objs (c + k)).clo = true ∧ (objs (c + k)).isDeep = o.isDeep
  | [], c, outs, _, k, o, hk => by simp at hk
  | .rd a :: ms, c, outs, h, k, o, hk => by
    cases k with
    | zero => simp at hk
    | succ k => have := outsAt_deep (ms := ms) h k o (by simpa using hk); rwa [show c + (k + 1) = c + 1 + k by omega]
  | .obj a :: ms, c, [], h, k, o, hk => h.elim
  | .obj a :: ms, c, q :: r, h, k, o, hk => by
    obtain ⟨⟨h1, h2, h0⟩, h3⟩ := h
    cases k with
    | zero =>
      have e : a = o := by simpa using hk
      subst e
      rw [Nat.add_zero, h1]; exact ⟨h2, h0⟩
    | succ k => have := outsAt_deep (ms := ms) h3 k o (by simpa using hk); rwa [show c + (k + 1) = c + 1 + k by omega]

end

/-- What is asked at the end of a function to which something is lent. -/
def RetQM (P : Program) (tb : Tb) (rs : List ResultVar) (n : Nat) (ms : List MA) (rv : RV) (outs : List AObj) (σ : St) : Prop :=
  resAll P tb σ rs ∧ (∃ ids, ids.Nodup ∧ (∀ i, i ∈ ids → n ≤ i) ∧ RVle σ.objs (oneOf (resL tb σ rs)) rv ids) ∧ outsAt σ.objs 0 ms outs

theorem fun_ofTM {P : Program} {tb : Tb} {f : FuncId} {fn : Func} {c : Code} {s : List (Option Nat)} {ms : List MA} {rv : RV} {outs : List AObj} (hf : P.funcs[f]? = some fn) (hn : (fn.name == "runtime.NumGoroutine") = false) (hb : fn.body = some c)
    (hs : shOK s ms.length) (hl : s.length ≤ fn.ntmps)
    (h : ∀ cx : Cx, cx.is fn.ntmps (initI 0 ms) → WFm ms → T P cx c (finQ (RetQM P tb fn.results.toList ms.length ms rv outs)) (shp (initM 0 0 s ms) (initO 0 ms))) : MutOK P f s ms rv outs := by
  refine ⟨⟨fn, hf, hn, by rw [hb]; rfl⟩, fun w lim vs hargs hsep => ?_⟩
  let cx : Cx := ⟨w.heap.size, w, lim, fn.ntmps, lentAt ms vs, fun _ => False⟩
  let G : Nat → Rt := fun k => (lentAt ms vs k).getD ⟨.nilFunc, []⟩
  have hpl := pack_len s (vs.map (·.v))
  have hgo : ∀ k o v, ms[k]? = some (.obj o) → vs[k]? = some v → lkO (initO 0 ms) k = o ∧ G k = v := by
    intro k o v hk hv
    obtain ⟨v', h1, h2, _⟩ := hargs.objAt k o hk
    rw [h1] at hv
    injection hv with hv
    subst hv
    refine ⟨?_, by show (lentAt ms vs k).getD _ = _; rw [h2]; rfl⟩
    rw [initO_lk, Nat.sub_zero, hk]
    simp
  have hobj : ∀ j, (lkO (initO 0 ms) j).live = true → ∃ o r, ms[j]? = some (.obj o) ∧ lentAt ms vs j = some r ∧ G j = r ∧ lkO (initO 0 ms) j = o ∧ o.clo = true ∧ ObjOK w lim noG noO 0 r o ∧ ∀ g, BlkR r g → Blk o r g := by
    intro j hj
    rw [initO_lk, Nat.sub_zero] at hj
    cases hm : ms[j]? with
    | none => rw [hm] at hj; cases hj
    | some m =>
      cases m with
      | rd a => rw [hm] at hj; cases hj
      | obj o =>
        obtain ⟨v, h1, h2, h3, h4⟩ := hargs.objAt j o hm
        have := hgo j o v hm h1
        exact ⟨o, v, rfl, h2, this.2, this.1, h3, h4⟩
  refine calls_of_wp hf hb ?_
  have hs0 : Sat cx (shp (initM 0 0 s ms) (initO 0 ms)) { tmps := (pack s (vs.map (·.v))).toArray ++ Array.replicate (fn.ntmps - (pack s (vs.map (·.v))).toArray.size) undef, defers := [] } w := by
    refine ⟨lim, G, ⟨rfl, BelowL.refl _ _ _, fun _ _ _ => rfl, fun id => ?_, fun i j g hij hi hj hg hg' => ?_, fun i g hi hg => ?_, fun j r hr => ?_, fun j r hr => ?_⟩, ?_, rfl, fun t => ?_, fun p hp => hp.elim⟩
    · show ObjOK w lim G (lkO (initO 0 ms)) 0 (G id) (lkO (initO 0 ms) id)
      cases hlv : (lkO (initO 0 ms) id).live with
      | true =>
        obtain ⟨o, r, h1, h2, h3, h4, h5, h6, _⟩ := hobj id hlv
        rw [h3, h4]
        exact ObjOK.clo h5 h6
      | false =>
        cases ho : lkO (initO 0 ms) id <;> rw [ho] at hlv <;> first | (simp only [ObjOK]; done) | cases hlv
    · obtain ⟨_, r, _, h2, h3, _⟩ := hobj i hi
      obtain ⟨_, q, _, k2, k3, _⟩ := hobj j hj
      rw [h3] at hg
      rw [k3] at hg'
      exact hsep i j r q g hij h2 k2 (Blk_R hg) (Blk_R hg')
    · obtain ⟨_, r, _, h2, h3, _⟩ := hobj i hi
      rw [h3] at hg
      exact .inr ⟨i, r, h2, Blk_R hg⟩
    · obtain ⟨o, h1, h2⟩ := lentAt_obj hr
      obtain ⟨k1, k2⟩ := hgo j o r h1 h2
      obtain ⟨_, _, _, h5, _⟩ := hargs.objAt j o h1
      exact ⟨by show (lkO (initO 0 ms) j).born = true; rw [k1]; exact AObj.born_of_live (AObj.clo_live h5), k2⟩
    · obtain ⟨o, h1, h2⟩ := lentAt_obj hr
      obtain ⟨k1, k2⟩ := hgo j o r h1 h2
      obtain ⟨_, _, _, h5, _⟩ := hargs.objAt j o h1
      show (lkO (initO 0 ms) j).isBld = false
      rw [k1]
      revert h5; cases o <;> first | exact fun _ => rfl | exact fun h => Bool.noConfusion h
    · show ((pack s (vs.map (·.v))).toArray ++ Array.replicate (fn.ntmps - (pack s (vs.map (·.v))).toArray.size) undef).size = fn.ntmps
      simp [hpl]; omega
    · have := initM_ok (w := w) (lim := lim) (G := G) (objs := lkO (initO 0 ms)) (k := 0) (c := 0) hs (fun k o v hk hv => by rw [Nat.zero_add]; exact hgo k o v hk hv) hargs t
      simp only [Nat.zero_le, if_true, Nat.sub_zero] at this
      show AVok w lim G (lkO (initO 0 ms)) (lkT (initM 0 0 s ms) t) _
      rcases Nat.lt_or_ge t (pack s (vs.map (·.v))).length with ht | ht
      · have e : ((pack s (vs.map (·.v))).toArray ++ Array.replicate (fn.ntmps - (pack s (vs.map (·.v))).toArray.size) undef).getD t undef = (pack s (vs.map (·.v))).getD t undef := by
          simp [Array.getD_eq_getD_getElem?, Array.getElem?_append, ht, List.getD_eq_getElem?_getD]
        rw [e]; exact this
      · have e : ((pack s (vs.map (·.v))).toArray ++ Array.replicate (fn.ntmps - (pack s (vs.map (·.v))).toArray.size) undef).getD t undef = undef := by
          simp only [Array.getD_eq_getD_getElem?, Array.getElem?_append, List.size_toArray, if_neg (Nat.not_lt.2 ht), Array.getElem?_replicate]
          split <;> rfl
        rw [e]
        rw [List.getD_eq_getElem?_getD, List.getElem?_eq_none ht] at this
        exact this
  have hT := h cx ⟨rfl, (fun j r hr => by
    obtain ⟨o, h1, _⟩ := lentAt_obj hr
    have := initI_mem (c := 0) h1
    rwa [Nat.zero_add] at this), fun p hp => hp⟩ hargs.wf _ w hs0
  refine wp_mono hT fun e a' w' hq => ?_
  obtain ⟨σ', h1, lim', G', hh, hfr⟩ := hq
  have fin : RetQM P tb fn.results.toList ms.length ms rv outs σ' → a'.defers = [] ∧ ∃ v, (results fn a'.tmps).run P w' = .ok v w' ∧ ∃ v0 lim' fp, Ending.returned v = .returned v0 ∧ BelowL (lentB ms vs) w.heap.size w w' ∧ (∀ b, b < w.heap.size → ¬ lentB ms vs b → lim' b = lim b) ∧ RVok w' lim' w.heap.size rv v0 fp ∧ fp.Nodup ∧ OutsOK w' lim' ms vs outs := by
    rintro ⟨q1, ⟨ids, q2, q3, q4⟩, q5⟩
    obtain ⟨v, r1, r2⟩ := results_ok hh hfr q1
    have hnl : ∀ i g, i ∈ ids → (σ'.objs i).live = true → Blk (σ'.objs i) (G' i) g → w.heap.size ≤ g := by
      intro i g hi hl hg
      rcases hh.mine i g hl hg with h | ⟨j, r, h2, h3⟩
      · exact h
      · exfalso
        have hj := hh.lent j r h2
        obtain ⟨o, k1, k2⟩ := lentAt_obj h2
        have hjl := outsAt_live q5 j o k1
        rw [Nat.zero_add] at hjl
        have hlt : j < ms.length := (List.getElem?_eq_some_iff.1 k1).1
        have := q3 i hi
        obtain ⟨v', k3, k4, k5, k6, k7⟩ := hargs.objAt j o k1
        have h2' : lentAt ms vs j = some r := h2
        rw [h2'] at k4
        injection k4 with k4
        subst k4
        have hjd := outsAt_deep q5 j o k1
        rw [Nat.zero_add] at hjd
        exact hh.sep i j g (by omega) hl hjl hg (by rw [hj.2]; exact Blk_deep k5 hjd.1 hjd.2.symm (k7 g h3))
    obtain ⟨k1, k2⟩ := RVle_ok (B := w.heap.size) hh.obj rv _ v ids hnl q4 r2
    refine ⟨hfr.defers, v, r1, v, lim', _, rfl, hh.below, hh.lim0, k1, ?_, outsAt_ok hh.obj hargs.len (fun k r hr => by rw [Nat.zero_add]; exact (hh.lent k r hr).2) q5⟩
    have nd : ∀ l : List Nat, l.Nodup → (∀ i, i ∈ l → (σ'.objs i).live = true) → (l.flatMap fun i => blks (σ'.objs i) (G' i)).Nodup := by
      intro l
      induction l with
      | nil => intro _ _; exact List.nodup_nil
      | cons i l ih =>
        intro hnd hlv
        rw [List.nodup_cons] at hnd
        rw [List.flatMap_cons, List.nodup_append]
        refine ⟨blks_nodup (hh.obj i), ih hnd.2 fun j hj => hlv j (by simp [hj]), fun x hx y hy hxy => ?_⟩
        subst hxy
        have hx' := (Blk_iff _ _ _).2 hx
        rw [List.mem_flatMap] at hy
        obtain ⟨j, hj, hy⟩ := hy
        have hy' := (Blk_iff _ _ _).2 hy
        have hij : i ≠ j := by rintro rfl; exact hnd.1 hj
        exact hh.sep i j x hij (hlv i (by simp)) (hlv j (by simp [hj])) hx' hy'
    exact nd ids q2 k2
  cases e with
  | normal => exact fin h1
  | ret => exact fin h1
  | _ => exact h1.elim

end Go.AL
