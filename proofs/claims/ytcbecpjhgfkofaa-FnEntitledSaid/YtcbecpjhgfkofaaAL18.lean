/- Code on abstract frames: sequences, tests, blocks, loops. A general part, over any program. -/
import Derived.Test.YtcbecpjhgfkofaaAL17
set_option linter.unusedSimpArgs false
set_option linter.unusedVariables false
namespace Go.AL
open Go.RowKit

/-! ### Regions, reckoned -/

def callK (P : Program) (f : FuncId) (args : List TV) (k : RV → Prop) : Prop := ∃ rv, FunOK P f args rv ∧ k rv
def callG (P : Program) (C : Bool) (f : FuncId) (args : List TV) (k : RV → Prop) : Prop := ∃ rv, (C = true → FunOK P f args rv) ∧ k rv

/-- A call to which something is lent, or which only reads what was made. -/
def callM (P : Program) (f : FuncId) (bC : Prop) (bA : List TV) (mC : Prop) (mS : List (Option Nat)) (mA : List MA) (ids : List Nat) (kB : RV → Prop) (kM : RV → List AObj → Prop) : Prop :=
  (bC ∧ ∃ rv, rv.noL = true ∧ FunOK P f bA rv ∧ kB rv) ∨ ((mC ∧ ids.Nodup) ∧ ∃ rv outs, MutOK P f mS mA rv outs ∧ (outs.length = ids.length ∧ ∀ q, q ∈ outs → q.clo = true) ∧ kM rv outs)

def dstOK (N : Nat) : Option Nat → Prop
  | none => True
  | some d => d < N

def stepK (P : Program) (tb : Tb) (N : Nat) (ops : Array Oper) (id : Nat) (σ : St) (o : Oper) (K : Eff → Prop) : Prop :=
  dstOK N o.dst ∧ match o.guard with
  | none => match callOf o.op with
    | some c => c.2.1.length = c.2.2.length ∧ bif plB σ c.2.1 then argC σ tb (c.2.1.zip c.2.2) ∧ callK P c.1 (argD σ tb (c.2.1.zip c.2.2)) fun rv => rvN rv ≤ 16 ∧ unb σ id (rvN rv) ∧ K ⟨recvA id rv, recvU id rv⟩
      else callM P c.1 (argC σ.settle tb (c.2.1.zip c.2.2)) (argD σ.settle tb (c.2.1.zip c.2.2)) (mArgC σ tb (c.2.1.zip c.2.2)) (mArgS σ (c.2.1.zip c.2.2)) (mArgD σ tb (c.2.1.zip c.2.2)) (mArgI σ (c.2.1.zip c.2.2))
        (fun rv => rvN rv ≤ 16 ∧ unb σ id (rvN rv) ∧ K ⟨recvA id rv, recvU id rv⟩)
        (fun rv outs => rvN rv ≤ 16 ∧ unb σ id (rvN rv) ∧ K ⟨recvA id rv, (mArgI σ (c.2.1.zip c.2.2)).zip outs ++ recvU id rv⟩)
    | none => pvc P tb id σ o.dst o.op ∧ K (peff tb id σ o.op)
  | some g => match (ops[g.1]?).bind (·.dst) with
    | none => False
    | some d => match gcond (σ.tmps d) g.2 with
      | none => False
      | some C => match callOf o.op with
        | some c => bif plB σ c.2.1 then (C = true → c.2.1.length = c.2.2.length ∧ argC σ tb (c.2.1.zip c.2.2)) ∧ callG P C c.1 (argD σ tb (c.2.1.zip c.2.2)) fun rv => K ⟨.gd C (recvG rv), []⟩
          else (C = true → c.2.1.length = c.2.2.length ∧ argC σ.settle tb (c.2.1.zip c.2.2)) ∧ callG P C c.1 (argD σ.settle tb (c.2.1.zip c.2.2)) fun rv => rv.noL = true ∧ K ⟨.gd C (recvG rv), []⟩
        | none => (C = true → pvc P tb id σ o.dst o.op ∧ (peff tb id σ o.op).upds = []) ∧ K ⟨.gd C (peff tb id σ o.op).av, []⟩

theorem stepK_spec {P : Program} {tb : Tb} {N : Nat} {ops : Array Oper} {id : Nat} {σ : St} {o : Oper} {K : Eff → Prop} (h : stepK P tb N ops id σ o K) : ∃ e, (∀ k, o.dst = some k → k < N) ∧ stepR P tb ops id σ o e ∧ K e := by
  unfold stepK at h
  obtain ⟨h0, h⟩ := h
  have hd : ∀ k, o.dst = some k → k < N := by intro k hk; rw [hk] at h0; exact h0
  unfold stepR
  cases hg : o.guard with
  | none =>
    rw [hg] at h
    simp only at h ⊢
    cases hc : callOf o.op with
    | none => rw [hc] at h; exact ⟨_, hd, ⟨h.1, rfl⟩, h.2⟩
    | some c =>
      rw [hc] at h
      obtain ⟨h1, h2⟩ := h
      cases hpl : plB σ c.2.1 with
      | true =>
        rw [hpl] at h2
        obtain ⟨h2, rv, h3, h4, h5, h6⟩ := h2
        exact ⟨_, hd, ⟨h1, .inl ⟨h2, rv, h3, h4, h5, rfl⟩⟩, h6⟩
      | false =>
        rw [hpl] at h2
        rcases h2 with ⟨h2, rv, h0, h3, h4, h5, h6⟩ | ⟨h2, rv, outs, h3, h0, h4, h5, h6⟩
        · exact ⟨_, hd, ⟨h1, .inr (.inl ⟨h2, rv, h0, h3, h4, h5, rfl⟩)⟩, h6⟩
        · exact ⟨_, hd, ⟨h1, .inr (.inr ⟨h2, rv, outs, h3, h0, h4, h5, rfl⟩)⟩, h6⟩
  | some g =>
    rw [hg] at h
    simp only at h
    cases hd' : (ops[g.1]?).bind (·.dst) with
    | none => rw [hd'] at h; exact h.elim
    | some d =>
      rw [hd'] at h
      simp only at h
      cases hC : gcond (σ.tmps d) g.2 with
      | none => rw [hC] at h; exact h.elim
      | some C =>
        rw [hC] at h
        simp only at h
        cases hc : callOf o.op with
        | none => rw [hc] at h; exact ⟨_, hd, ⟨d, C, hd', hC, h.1, rfl⟩, h.2⟩
        | some c =>
          rw [hc] at h
          simp only at h
          cases hpl : plB σ c.2.1 with
          | true =>
            rw [hpl] at h
            obtain ⟨h1, rv, h3, h4⟩ := h
            exact ⟨_, hd, ⟨d, C, hd', hC, .inl ⟨h1, rv, h3, rfl⟩⟩, h4⟩
          | false =>
            rw [hpl] at h
            obtain ⟨h1, rv, h3, h5, h4⟩ := h
            exact ⟨_, hd, ⟨d, C, hd', hC, .inr ⟨h1, rv, h3, h5, rfl⟩⟩, h4⟩

def T (P : Program) (cx : Cx) (c : Code) (Q : Exit → St → Prop) (σ : St) : Prop :=
  ∀ a w, Sat cx σ a w → c.wp P (fun e a' w' => ∃ σ', Q e σ' ∧ Sat cx σ' a' w') a w

/-! ### Calls of function values, among the caller's own objects -/

def finC (k : St → Prop) (e : Exit) (σ : St) : Prop :=
  match e with
  | .normal => k σ
  | .ret => k σ
  | _ => False

def initA : Nat → List AV → Nat → AV
  | _, [], _ => .any
  | k, a :: r, t => bif Nat.beq t k then a else initA (k + 1) r t

def unL (σ : St) : List Operand → List AV
  | [] => []
  | x :: r => σ.un x :: unL σ r
def ucL (σ : St) : List Operand → Prop
  | [] => True
  | x :: r => σ.uc x ∧ ucL σ r

def resOf : List ResultVar → St → Option AV
  | [], _ => some .any
  | [.tmp t], σ => some (σ.tmps t)
  | _, _ => none

def inlQ (P : Program) (σ : St) (dst : Option Nat) (f : FuncId) (caps : List AV) (as : List Operand) (K : St → Prop) : Prop :=
  ∃ (fn : Func) (c : Code), P.funcs[f]? = some fn ∧ (fn.name == "runtime.NumGoroutine") = false ∧ fn.body = some c ∧
    as.length + caps.length ≤ fn.ntmps ∧ ucL σ as ∧ ∀ cx : Cx, cx.N = fn.ntmps → T P cx c (finC fun σ' => ∃ av, resOf fn.results.toList σ' = some av ∧ K ⟨(σ.put dst av).tmps, σ'.objs⟩) ⟨initA 0 (unL σ as ++ caps), σ.objs⟩

def cloQ (P : Program) (σ : St) (dst : Option Nat) (k : Nat) (as : List Operand) (K : St → Prop) : Prop :=
  ∃ (f : FuncId) (caps : List AV), σ.tmps k = .fn f caps ∧ inlQ P σ dst f caps as K

def cloOp : Op → Option (Nat × List Operand)
  | .call { callee := .value (.tmp k), args := as, argTypes := _ } => some (k, as.toList)
  | _ => none
def cloOf (o : Oper) : Option (Nat × List Operand) :=
  match o.guard with
  | none => cloOp o.op
  | some _ => none

def inlOp (tb : Tb) : Op → Option (FuncId × List Operand)
  | .call { callee := .value (.func f), args := as, argTypes := _ } => if tb.inl f = true then some (f, as.toList) else none
  | _ => none
def inlOf (tb : Tb) (o : Oper) : Option (FuncId × List Operand) :=
  match o.guard with
  | none => inlOp tb o.op
  | some _ => none

theorem inlOf_spec {tb : Tb} {o : Oper} {c : FuncId × List Operand} (h : inlOf tb o = some c) : o.guard = none ∧ ∃ ts, o.op = .call { callee := .value (.func c.1), args := c.2.toArray, argTypes := ts } := by
  unfold inlOf at h
  cases hg : o.guard with
  | some _ => rw [hg] at h; cases h
  | none =>
    rw [hg] at h
    simp only at h
    refine ⟨rfl, ?_⟩
    unfold inlOp at h
    split at h
    · rename_i f as ts heq
      split at h
      · injection h with h; subst h; exact ⟨ts, by rw [heq]⟩
      · cases h
    · cases h

theorem cloOf_spec {o : Oper} {c : Nat × List Operand} (h : cloOf o = some c) : o.guard = none ∧ ∃ ts, o.op = .call { callee := .value (.tmp c.1), args := c.2.toArray, argTypes := ts } := by
  unfold cloOf at h
  cases hg : o.guard with
  | some _ => rw [hg] at h; cases h
  | none =>
    rw [hg] at h
    simp only at h
    refine ⟨rfl, ?_⟩
    unfold cloOp at h
    split at h
    · rename_i k as ts heq
      injection h with h; subst h; exact ⟨ts, by rw [heq]⟩
    · cases h

theorem initA_get : ∀ (l : List AV) (k t : Nat), initA k l t = if k ≤ t then l.getD (t - k) .any else .any
  | [], k, t => by simp [initA]
  | a :: r, k, t => by
    simp only [initA]
    cases hb : Nat.beq t k with
    | true => rw [Nat.eq_of_beq_eq_true hb]; simp
    | false =>
      have hne : t ≠ k := fun e => by rw [e, Nat.beq_refl] at hb; cases hb
      simp only [cond_false]
      rw [initA_get r (k + 1) t]
      by_cases h1 : k ≤ t
      · rw [if_pos h1, if_pos (by omega), show t - k = (t - (k + 1)) + 1 by omega]
        rfl
      · rw [if_neg h1, if_neg (by omega)]

theorem unL_ok {cx : Cx} {σ : St} {a : Act} {w : World} {lim : Nat → Nat} {G : Nat → Value} (hf : Fr cx σ a w lim G) : ∀ (as : List Operand), ucL σ as → AVsOk w lim G σ.objs (unL σ as) (as.map a.eval)
  | [], _ => by simp only [unL, List.map_nil, AVsOk]
  | x :: r, h => by
    simp only [unL, List.map_cons, AVsOk]
    exact ⟨_, _, rfl, un_ok hf x h.1, unL_ok hf r h.2⟩

theorem AVsOk.app {w : World} {lim : Nat → Nat} {G : Nat → Value} {objs : Nat → AObj} : ∀ {l l2 : List AV} {vs vs2 : List Value}, AVsOk w lim G objs l vs → AVsOk w lim G objs l2 vs2 → AVsOk w lim G objs (l ++ l2) (vs ++ vs2)
  | [], _, vs, _, h1, h2 => by simp only [AVsOk] at h1; subst h1; simpa using h2
  | a :: l, _, vs, vs2, h1, h2 => by
    simp only [AVsOk] at h1
    obtain ⟨v, r, e, h3, h4⟩ := h1
    subst e
    simp only [List.cons_append, AVsOk]
    exact ⟨v, r ++ vs2, rfl, h3, h4.app h2⟩

theorem inlQ_sound {P : Program} {cx : Cx} {σ : St} {o : Oper} {f : FuncId} {caps : List AV} {arr : List Value} {as : List Operand} {K : St → Prop} (hd : ∀ k, o.dst = some k → k < cx.N) {a : Act} {w : World} {lim : Nat → Nat} {G : Nat → Value} (hh : Hp cx σ.objs w lim G) (hf : Fr cx σ a w lim G)
    (hca : AVsOk w lim G σ.objs caps arr) (hex : ∀ fn, P.funcs[f]? = some fn → (fn.name == "runtime.NumGoroutine") = false → fn.body.isNone = false → (execOp a.eval o).run P w = .ok (.enter f (as.map a.eval ++ arr).toArray) w)
    (h : inlQ P σ o.dst f caps as K) {Kw : Act → World → Prop} {Q : Exit → Act → World → Prop} (hK : ∀ σ' a' w', K σ' → Sat cx σ' a' w' → Kw a' w') : o.wp P a w Kw Q := by
  obtain ⟨fn, c, hfn, hnm, hbd, hlen, huc, hT⟩ := h
  have hall := (unL_ok hf as huc).app hca
  have hrun := hex fn hfn hnm (by rw [hbd]; rfl)
  let cx2 : Cx := { cx with N := fn.ntmps, F := fun p => cx.F p ∨ ∃ t, p = (σ.tmps t, a.tmps.getD t undef) }
  have hh2 : Hp cx2 σ.objs w lim G := ⟨hh.start, hh.below, hh.lim0, hh.obj, hh.sep, hh.mine, hh.lent⟩
  have hln := hall.length
  have hs2 : Sat cx2 ⟨initA 0 (unL σ as ++ caps), σ.objs⟩ { tmps := (as.map a.eval ++ arr).toArray ++ Array.replicate (fn.ntmps - (as.map a.eval ++ arr).toArray.size) undef, defers := [] } w := by
    refine ⟨lim, G, hh2, ?_, rfl, fun t => ?_, fun p hp => ?_⟩
    · show ((as.map a.eval ++ arr).toArray ++ Array.replicate (fn.ntmps - (as.map a.eval ++ arr).toArray.size) undef).size = fn.ntmps
      have h9 : (unL σ as).length = as.length := by
        have := (unL_ok hf as huc).length
        simpa using this.symm
      have h8 := hca.length
      simp only [Array.size_append, List.size_toArray, Array.size_replicate, List.length_append, List.length_map]
      omega
    · show AVok w lim G σ.objs (initA 0 (unL σ as ++ caps) t) _
      rw [initA_get, if_pos (Nat.zero_le _), Nat.sub_zero]
      rcases Nat.lt_or_ge t (as.map a.eval ++ arr).length with hlt | hge
      · have e : ((as.map a.eval ++ arr).toArray ++ Array.replicate (fn.ntmps - (as.map a.eval ++ arr).toArray.size) undef).getD t undef = (as.map a.eval ++ arr).getD t undef := by
          rw [Array.getD_eq_getD_getElem?, Array.getElem?_append, if_pos (by simpa using hlt), List.getElem?_toArray, List.getD_eq_getElem?_getD]
        rw [e]
        exact hall.get t (by omega)
      · rw [List.getD_eq_getElem?_getD, List.getElem?_eq_none (by omega)]
        simp only [Option.getD_none, AVok]
    · show AVok w lim G σ.objs p.1 p.2
      rcases hp with hp | ⟨t, rfl⟩
      · exact hf.ext p hp
      · exact hf.tmp t
  have hcalls : Calls P f (as.map a.eval ++ arr).toArray w fun e w' => ∃ v, e = .returned v ∧ ∃ σ' a' lim' G' av, AVok w' lim' G' σ'.objs av v ∧ K ⟨(σ.put o.dst av).tmps, σ'.objs⟩ ∧ Hp cx2 σ'.objs w' lim' G' ∧ Fr cx2 σ' a' w' lim' G' := by
    refine calls_of_wp hfn hbd (wp_mono (hT cx2 rfl _ w hs2) fun e a' w' hq => ?_)
    obtain ⟨σ', h1, lim', G', hh', hf'⟩ := hq
    have fin : (∃ av, resOf fn.results.toList σ' = some av ∧ K ⟨(σ.put o.dst av).tmps, σ'.objs⟩) → a'.defers = [] ∧ ∃ v, (results fn a'.tmps).run P w' = .ok v w' ∧ ∃ v0, Ending.returned v = .returned v0 ∧ ∃ σ' a' lim' G' av, AVok w' lim' G' σ'.objs av v0 ∧ K ⟨(σ.put o.dst av).tmps, σ'.objs⟩ ∧ Hp cx2 σ'.objs w' lim' G' ∧ Fr cx2 σ' a' w' lim' G' := by
      rintro ⟨av, hr, hk⟩
      have hv : ∃ v, (results fn a'.tmps).run P w' = .ok v w' ∧ AVok w' lim' G' σ'.objs av v := by
        cases hrs : fn.results.toList with
        | nil =>
          rw [hrs] at hr
          simp only [resOf, Option.some.injEq] at hr
          subst hr
          have hre : fn.results = #[] := by rw [← Array.toList_inj, hrs]
          refine ⟨.tuple #[], ?_, by simp only [AVok]⟩
          unfold results
          rw [hre]
          simp
        | cons q r =>
          cases r with
          | cons _ _ => rw [hrs] at hr; cases q <;> simp [resOf] at hr
          | nil =>
            cases q with
            | cell _ _ => rw [hrs] at hr; simp [resOf] at hr
            | tmp t =>
              rw [hrs] at hr
              simp only [resOf, Option.some.injEq] at hr
              subst hr
              have hre : fn.results = #[.tmp t] := by rw [← Array.toList_inj, hrs]
              refine ⟨a'.tmps.getD t undef, ?_, hf'.tmp t⟩
              unfold results
              rw [hre]
              simp
      obtain ⟨v, hv1, hv2⟩ := hv
      exact ⟨hf'.defers, v, hv1, v, rfl, σ', a', lim', G', av, hv2, hk, hh', hf'⟩
    cases e with
    | normal => exact fin h1
    | ret => exact fin h1
    | _ => exact h1.elim
  unfold Oper.wp
  rw [hrun]
  simp only [Oper.upon]
  refine hcalls.mono fun e w' hpost => ?_
  obtain ⟨v, he, σ', a', lim', G', av, hav, hk, hh', hf'⟩ := hpost
  subst he
  refine hK _ _ _ hk ⟨lim', G', ⟨hh'.start, hh'.below, hh'.lim0, hh'.obj, hh'.sep, hh'.mine, hh'.lent⟩, ?_⟩
  have hf1 : Fr cx ⟨σ.tmps, σ'.objs⟩ a w' lim' G' := ⟨hf.size, hf.defers, fun t => hf'.ext (σ.tmps t, a.tmps.getD t undef) (.inr ⟨t, rfl⟩), fun p hp => hf'.ext p (.inl hp)⟩
  have hf2 := hf1.put hd (av := av) (v := v) hav
  have e : (St.mk (σ.put o.dst av).tmps σ'.objs) = (St.mk σ.tmps σ'.objs).put o.dst av := by cases o.dst <;> rfl
  rw [e]
  exact hf2

theorem cloQ_sound {P : Program} {cx : Cx} {σ : St} {o : Oper} {k : Nat} {as : List Operand} {ts : Array TypeId} {K : St → Prop} (hd : ∀ k, o.dst = some k → k < cx.N) (ho : o.op = .call { callee := .value (.tmp k), args := as.toArray, argTypes := ts })
    (h : cloQ P σ o.dst k as K) {a : Act} {w : World} {Kw : Act → World → Prop} {Q : Exit → Act → World → Prop} (hs : Sat cx σ a w) (hK : ∀ σ' a' w', K σ' → Sat cx σ' a' w' → Kw a' w') : o.wp P a w Kw Q := by
  obtain ⟨lim, G, hh, hf⟩ := hs
  obtain ⟨f, caps, ht, h⟩ := h
  have hv := hf.tmp k
  rw [ht] at hv
  simp only [AVok] at hv
  obtain ⟨arr, hv, hca⟩ := hv
  refine inlQ_sound hd hh hf hca (fun fn hfn hnm hbd => ?_) h hK
  have hnm' : ¬ fn.name = "runtime.NumGoroutine" := by simpa using hnm
  have hbd' : ¬ fn.body = none := by intro h; rw [h] at hbd; cases hbd
  have hv' : a.tmps[k]?.getD undef = .func (.func f) #[] arr.toArray := by rw [← hv, Array.getD_eq_getD_getElem?]
  simp [execOp, ho, resolve, invoke, callFunc, Act.eval, Deferred.ofValue, hfn, hnm', hbd', hv']

theorem inlF_sound {P : Program} {cx : Cx} {σ : St} {o : Oper} {f : FuncId} {as : List Operand} {ts : Array TypeId} {K : St → Prop} (hd : ∀ k, o.dst = some k → k < cx.N) (ho : o.op = .call { callee := .value (.func f), args := as.toArray, argTypes := ts })
    (h : inlQ P σ o.dst f [] as K) {a : Act} {w : World} {Kw : Act → World → Prop} {Q : Exit → Act → World → Prop} (hs : Sat cx σ a w) (hK : ∀ σ' a' w', K σ' → Sat cx σ' a' w' → Kw a' w') : o.wp P a w Kw Q := by
  obtain ⟨lim, G, hh, hf⟩ := hs
  refine inlQ_sound hd hh hf (arr := []) (by simp only [AVsOk]) (fun fn hfn hnm hbd => ?_) h hK
  have hnm' : ¬ fn.name = "runtime.NumGoroutine" := by simpa using hnm
  have hbd' : ¬ fn.body = none := by intro h; rw [h] at hbd; cases hbd
  simp [execOp, ho, resolve, invoke, callFunc, Act.eval, Deferred.ofValue, hfn, hnm', hbd']

def runS (P : Program) (tb : Tb) (N : Nat) (ops : Array Oper) : List Oper → Nat → St → (St → Prop) → Prop
  | [], _, σ, K => K σ
  | o :: r, id, σ, K => match cloOf o with
    | some c => (∀ k, o.dst = some k → k < N) ∧ cloQ P σ o.dst c.1 c.2 fun σ' => runS P tb N ops r (id + 16) σ' K
    | none => match inlOf tb o with
      | some c => (∀ k, o.dst = some k → k < N) ∧ inlQ P σ o.dst c.1 [] c.2 fun σ' => runS P tb N ops r (id + 16) σ' K
      | none => stepK P tb N ops id σ o fun e => runS P tb N ops r (id + 16) (σ.app o.dst e) K

def runD (P : Program) (tb : Tb) (N : Nat) (ops : Array Oper) : List Oper → Nat → St → List Info → (St → List Info → Prop) → Prop
  | [], _, σ, is, K => K σ is.reverse
  | o :: r, id, σ, is, K => stepK P tb N ops id σ o fun e => runD P tb N ops r (id + 16) (σ.app o.dst e) (⟨o, e.upds.map (·.1), rids σ o, id⟩ :: is) K

theorem runS_wp {P : Program} {tb : Tb} {cx : Cx} {ops : Array Oper} {K : St → Prop} {Q : Exit → Act → World → Prop} : ∀ {l : List Oper} {id : Nat} {σ : St}, runS P tb cx.N ops l id σ K → ∀ {a : Act} {w : World}, Sat cx σ a w →
    (∀ σ' a' w', K σ' → Sat cx σ' a' w' → Q .normal a' w') → wpList P ops Q l a w
  | [], id, σ, h, a, w, hs, hQ => hQ σ a w h hs
  | o :: r, id, σ, h, a, w, hs, hQ => by
    simp only [runS] at h
    refine wpList_step fun Kw hK => ?_
    cases hc : cloOf o with
    | none =>
      rw [hc] at h
      simp only at h
      cases hi : inlOf tb o with
      | none =>
        rw [hi] at h
        obtain ⟨e, h1, h2, h3⟩ := stepK_spec h
        exact stepR_sound h1 h2 a w Kw Q hs fun a' w' hs' => hK a' w' (runS_wp h3 hs' hQ)
      | some c =>
        rw [hi] at h
        obtain ⟨hg, ts, ho⟩ := inlOf_spec hi
        rw [if_pos (by simp [Region.wanted, hg])]
        exact inlF_sound h.1 ho h.2 hs fun σ' a' w' hk hs' => hK a' w' (runS_wp hk hs' hQ)
    | some c =>
      rw [hc] at h
      obtain ⟨hg, ts, ho⟩ := cloOf_spec hc
      rw [if_pos (by simp [Region.wanted, hg])]
      exact cloQ_sound h.1 ho h.2 hs fun σ' a' w' hk hs' => hK a' w' (runS_wp hk hs' hQ)

theorem runD_spec {P : Program} {tb : Tb} {N : Nat} {ops : Array Oper} {K : St → List Info → Prop} : ∀ {l : List Oper} {id : Nat} {σ : St} {acc : List Info}, runD P tb N ops l id σ acc K → ∃ rs is σ', RunI P tb N ops l id σ rs is σ' ∧ K σ' (acc.reverse ++ is)
  | [], id, σ, acc, h => ⟨[], [], σ, .nil id σ, by simpa [runD] using h⟩
  | o :: r, id, σ, acc, h => by
    obtain ⟨e, h1, h2, h3⟩ := stepK_spec h
    obtain ⟨rs, is, σ', h4, h5⟩ := runD_spec h3
    exact ⟨_, _, σ', .cons h1 h2 h4, by simpa using h5⟩

/-! ### Code -/

def chkK (b : Bool) (k : Unit → Prop) : Prop := b = true ∧ k ()

def seqQ (k : St → Prop) (Q : Exit → St → Prop) (e : Exit) (σ : St) : Prop :=
  match e with
  | .normal => k σ
  | e => Q e σ

def blkQ (i : Nat) (Q : Exit → St → Prop) (e : Exit) (σ : St) : Prop :=
  match e with
  | .exit i' => if i' = i then Q .normal σ else Q (.exit i') σ
  | e => Q e σ

/-- What is asked of a piece of code, so that Q holds behind it; at a loop the question is left as it is. -/
def aCode (P : Program) (tb : Tb) (cx : Cx) (N : Nat) : Code → (Exit → St → Prop) → St → Prop
  | .skip, Q, σ => Q .normal σ
  | .label _, Q, σ => Q .normal σ
  | .region i ops false, Q, σ => runS P tb N ops ops.toList (10000 * (i + 1) + tb.off) σ (Q .normal)
  | .region i ops true, Q, σ => runD P tb N ops ops.toList (10000 * (i + 1) + tb.off) σ [] fun σ' is => chkK (chkAll ops 0 is) fun _ => Q .normal σ'
  | .seq a b, Q, σ => aCode P tb cx N a (seqQ (fun σ' => aCode P tb cx N b Q σ') Q) σ
  | .cond c a b, Q, σ => σ.tc .bool c ∧ (σ.tb c = true → aCode P tb cx N a Q σ) ∧ (σ.tb c = false → aCode P tb cx N b Q σ)
  | .block i b, Q, σ => aCode P tb cx N b (blkQ i Q) σ
  | .loop b, Q, σ => T P cx (.loop b) Q σ
  | .exit i, Q, σ => Q (.exit i) σ
  | .goto l, Q, σ => Q (.goto l) σ
  | .ret, Q, σ => Q .ret σ
  | _, _, _ => False

theorem aCode_sound {P : Program} {tb : Tb} {cx : Cx} (hm : P.follows .mixedOrders = true) : ∀ {c : Code} {Q : Exit → St → Prop} {σ : St}, aCode P tb cx cx.N c Q σ → T P cx c Q σ
  | .skip, _, _, h => fun _ _ hs => wp_skip ⟨_, h, hs⟩
  | .label _, _, _, h => fun _ _ hs => wp_label ⟨_, h, hs⟩
  | .exit _, _, _, h => fun _ _ hs => wp_exit ⟨_, h, hs⟩
  | .goto _, _, _, h => fun _ _ hs => wp_goto ⟨_, h, hs⟩
  | .ret, _, _, h => fun _ _ hs => wp_ret ⟨_, h, hs⟩
  | .loop _, _, _, h => h
  | .region _ ops false, Q, σ, h => fun a w hs => by
    exact wp_region_list (runS_wp h hs fun σ' a' w' h2 hs' => ⟨σ', h2, hs'⟩)
  | .region _ ops true, Q, σ, h => fun a w hs => by
    obtain ⟨rs, is, σ', h1, h2, h3⟩ := runD_spec h
    simp only [List.reverse_nil, List.nil_append] at h2
    refine wp_region_any hm (draw_any h1 h2 (fun a' w' hs' => ⟨σ', h3, hs'⟩) ops.size (Array.replicate ops.size false) a _ ?_ (by simp) (fun j o _ hl => ?_) ?_)
    · refine Nat.le_trans (List.countP_le_length) (by simp)
    · exfalso
      rw [Array.getD_eq_getD_getElem?, Array.getElem?_replicate] at hl
      split at hl <;> simp at hl
    · have e : mrg (fun j => (Array.replicate ops.size false).getD j false) 0 rs σ = σ := by
        have : (fun j => (Array.replicate ops.size false).getD j false) = fun j => decide (j < 0) := by
          funext j
          rw [Array.getD_eq_getD_getElem?, Array.getElem?_replicate]
          split <;> simp
        rw [this]
        exact mrg_lt 0 rs 0 σ (Nat.le_refl _)
      rw [e]
      obtain ⟨lim, G, hh, hf⟩ := hs
      exact ⟨lim, G, (hh.world (lim' := lim) (w' := { w with drawn := w.drawn + 1 }) ⟨rfl, rfl, rfl, Nat.le_refl _, fun _ _ => rfl⟩ fun _ _ => rfl).1,
        hf.keeps (w' := { w with drawn := w.drawn + 1 }) (lim' := lim) ⟨fun _ _ h _ => h, fun _ _ => Nat.le_refl _⟩ (Ext.refl _ _)⟩
  | .seq x y, Q, σ, h => fun a w hs => by
    refine wp_seq (wp_mono (aCode_sound (c := x) hm h a w hs) fun e a' w' hq => ?_)
    obtain ⟨σ', h1, h2⟩ := hq
    cases e with
    | normal => exact aCode_sound (c := y) hm h1 a' w' h2
    | _ => exact ⟨σ', h1, h2⟩
  | .cond c x y, Q, σ, h => fun a w hs => by
    obtain ⟨h0, h1, h2⟩ := h
    have hc : a.eval c = .bool (σ.tb c) := by
      obtain ⟨lim, G, hh, hf⟩ := hs
      exact tc_bool hh hf h0
    exact wp_cond_split hc (fun ht => aCode_sound (c := x) hm (h1 ht) a w hs) fun ht => aCode_sound (c := y) hm (h2 ht) a w hs
  | .block i c, Q, σ, h => fun a w hs => by
    refine wp_block (wp_mono (aCode_sound (c := c) hm h a w hs) fun e a' w' hq => ?_)
    obtain ⟨σ', h1, h2⟩ := hq
    cases e with
    | exit i' =>
      simp only [blkQ] at h1
      simp only [Exit.inBlock]
      split
      · rename_i hi; rw [if_pos hi] at h1; exact ⟨σ', h1, h2⟩
      · rename_i hi; rw [if_neg hi] at h1; exact ⟨σ', h1, h2⟩
    | _ => exact ⟨σ', h1, h2⟩
  | .rangeFunc _ _ _ _, _, _, h => h.elim
  | .scope _, _, _, h => h.elim
  | .refuse _, _, _, h => h.elim

/-- A state that says less. -/
def Sub (cx : Cx) (σ σ' : St) : Prop := ∀ a w, Sat cx σ a w → Sat cx σ' a w

theorem T_sub {P : Program} {cx : Cx} {c : Code} {Q : Exit → St → Prop} {σ σ' : St} (h : Sub cx σ σ') (ht : T P cx c Q σ') : T P cx c Q σ := fun a w hs => ht a w (h a w hs)

theorem least {p : Nat → Prop} (h : ∃ n, p n) : ∃ n, p n ∧ ∀ m, p m → n ≤ m := by
  obtain ⟨n, hn⟩ := h
  induction n using Nat.strongRecOn with
  | _ n ih =>
    by_cases hex : ∃ m, m < n ∧ p m
    · obtain ⟨m, h1, h2⟩ := hex
      exact ih m h1 h2
    · refine ⟨n, hn, fun m hm => ?_⟩
      rcases Nat.lt_or_ge m n with hlt | hge
      · exact absurd ⟨m, hlt, hm⟩ hex
      · exact hge

theorem T_loop {P : Program} {cx : Cx} {c : Code} {Q : Exit → St → Prop} {σ : St} {D : Type} (sh : D → St) (J : D → Prop) (μ : D → Nat) (d0 : D) (h0 : J d0) (hs0 : Sub cx σ (sh d0))
    (round : ∀ d, J d → T P cx c (fun e σ' => match e with
      | .normal => ∃ d', J d' ∧ μ d' < μ d ∧ Sub cx σ' (sh d')
      | e => Q e σ') (sh d)) : T P cx (.loop c) Q σ := by
  classical
  intro a w hs
  let I : Act → World → Prop := fun a w => ∃ d, J d ∧ Sat cx (sh d) a w
  let m : Act → World → Nat := fun a w => if h : ∃ n, ∃ d, J d ∧ Sat cx (sh d) a w ∧ μ d = n then Classical.choose (least h) else 0
  refine wp_loop I m ⟨d0, h0, hs0 a w hs⟩ fun a w hI => ?_
  have hex : ∃ n, ∃ d, J d ∧ Sat cx (sh d) a w ∧ μ d = n := by obtain ⟨d, h1, h2⟩ := hI; exact ⟨_, d, h1, h2, rfl⟩
  obtain ⟨⟨d, h1, h2, h3⟩, _⟩ := Classical.choose_spec (least hex)
  have hm : m a w = μ d := by show (if h : _ then _ else _) = _; rw [dif_pos hex, h3]
  refine wp_mono (round d h1 a w h2) fun e a' w' hq => ?_
  obtain ⟨σ', k1, k2⟩ := hq
  cases e with
  | normal =>
    obtain ⟨d', q1, q2, q3⟩ := k1
    have hs' := q3 a' w' k2
    refine ⟨⟨d', q1, hs'⟩, ?_⟩
    have hex' : ∃ n, ∃ d, J d ∧ Sat cx (sh d) a' w' ∧ μ d = n := ⟨_, d', q1, hs', rfl⟩
    have : m a' w' ≤ μ d' := by
      show (if h : _ then _ else _) ≤ _
      rw [dif_pos hex']
      exact (Classical.choose_spec (least hex')).2 _ ⟨d', q1, hs', rfl⟩
    omega
  | _ => exact ⟨σ', k1, k2⟩

end Go.AL
