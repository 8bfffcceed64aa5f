/- Functions on abstract frames: how they begin, how they end. A general part, over any program. -/
import Derived.Test.YtcbecpjhgfkofaaAL19
set_option linter.unusedSimpArgs false
set_option linter.unusedVariables false
set_option linter.unusedSectionVars false
namespace Go.AL
open Go.RowKit

/-! ### What every reading bears -/

def WF : (t : Ty) → t.den → Prop
  | .int k, n => k.min ≤ n ∧ n ≤ k.max
  | .bool, _ => True
  | .str, s => s.size ≤ maxLen
  | .list t, xs => xs.length ≤ maxLen ∧ ∀ i (h : i < xs.length), WF t xs[i]
  | .nil, _ => True
  | .cons h t, x => WF h x.1 ∧ WF t x.2

theorem Rd.wf {w : World} {lim : Nat → Nat} : ∀ {t : Ty} {cs : List Value} {x : t.den}, Rd w lim t cs x → WF t x
  | .int _, _, _, h => h.2
  | .bool, _, _, _ => trivial
  | .str, _, _, h => h.2
  | .nil, _, _, _ => trivial
  | .cons _ _, _, _, h => by obtain ⟨c1, c2, _, h1, h2⟩ := h; exact ⟨h1.wf, h2.wf⟩
  | .list t, _, _, h => by
    obtain ⟨A, cap, _, h2, h3, h4⟩ := h
    exact ⟨by omega, fun i hi => by obtain ⟨a, ds, _, _, _, hr⟩ := h4 i hi; exact hr.wf⟩

def WFs : List TV → Prop
  | [] => True
  | a :: r => WF a.t a.x ∧ WFs r

theorem ArgsOK.wf {w : World} {lim : Nat → Nat} : ∀ {args : List TV} {vs : List Value}, ArgsOK w lim args vs → WFs args
  | [], _, _ => trivial
  | a :: r, vs, h => by
    simp only [ArgsOK] at h
    obtain ⟨v, vr, _, h2, h3⟩ := h
    obtain ⟨cs, h4, _⟩ := h2
    exact ⟨h4.wf, h3.wf⟩

theorem ArgsOK.len {w : World} {lim : Nat → Nat} : ∀ {args : List TV} {vs : List Value}, ArgsOK w lim args vs → vs.length = args.length
  | [], _, h => by simp only [ArgsOK] at h; rw [h]; rfl
  | a :: r, vs, h => by
    simp only [ArgsOK] at h
    obtain ⟨v, vr, h1, _, h3⟩ := h
    rw [h1, List.length_cons, List.length_cons, h3.len]

theorem ArgsOK.get {w : World} {lim : Nat → Nat} : ∀ {args : List TV} {vs : List Value}, ArgsOK w lim args vs → ∀ i (a : TV), args[i]? = some a → RdV w lim a.t (vs.getD i undef) a.x
  | [], _, _, i, a, h => by simp at h
  | b :: r, vs, h, i, a, ha => by
    simp only [ArgsOK] at h
    obtain ⟨v, vr, h1, h2, h3⟩ := h
    subst h1
    cases i with
    | zero => have : b = a := by simpa using ha
              subst this; exact h2
    | succ i => have := h3.get i a (by simpa using ha); simpa using this

def initL : Nat → List TV → List (Nat × AV)
  | _, [] => []
  | k, a :: r => (k, .rd a.t a.x) :: initL (k + 1) r

theorem initL_lk : ∀ (args : List TV) (k t : Nat), lkT (initL k args) t = (match args[t - k]? with | some a => if k ≤ t then .rd a.t a.x else .any | none => .any)
  | [], k, t => by simp [initL, lkT]
  | a :: r, k, t => by
    simp only [initL, lkT]
    cases hb : Nat.beq t k with
    | true =>
      have := Nat.eq_of_beq_eq_true hb
      subst this
      simp
    | false =>
      have hne : t ≠ k := fun e => by rw [e, Nat.beq_refl] at hb; cases hb
      simp only [cond_false]
      rw [initL_lk r (k + 1) t]
      rcases Nat.lt_or_ge k t with hlt | hge
      · have e : t - k = (t - (k + 1)) + 1 := by omega
        rw [e, List.getElem?_cons_succ]
        cases r[t - (k + 1)]? with
        | none => rfl
        | some b => simp only; rw [if_pos (by omega), if_pos (by omega)]
      · have h0 : t - k = 0 := by omega
        rw [h0]
        simp only [List.getElem?_cons_zero]
        rw [if_neg (by omega)]
        cases r[t - (k + 1)]? with
        | none => rfl
        | some b => simp only; rw [if_neg (by omega)]

/-! ### Results -/

def resAV (tb : Tb) (σ : St) : ResultVar → AV
  | .tmp t => σ.tmps t
  | .cell a T => match (σ.tmps a) with
    | .bp i off => match σ.objs i with
      | .box _ cs => boxLoad (tb.ty T) cs off
      | _ => .any
    | _ => .any

def resC (P : Program) (tb : Tb) (σ : St) : ResultVar → Prop
  | .tmp _ => True
  | .cell a T => match (σ.tmps a) with
    | .bp i off => match σ.objs i with
      | .box _ cs => TyOK P (tb.ty T) T ∧ off + (tb.ty T).size ≤ cs.length
      | _ => False
    | _ => False

def resAll (P : Program) (tb : Tb) (σ : St) : List ResultVar → Prop
  | [] => True
  | r :: rs => resC P tb σ r ∧ resAll P tb σ rs

def resL (tb : Tb) (σ : St) : List ResultVar → List AV
  | [] => []
  | r :: rs => resAV tb σ r :: resL tb σ rs

mutual
/-- What stands in a temporary answers for what the call is to answer; the list: the objects that go out. -/
def RVle (objs : Nat → AObj) : AV → RV → List Nat → Prop
  | a, .rd t x, ids => ids = [] ∧ a.uc ∧ tvc objs t a.un ∧ tvd objs t a.un = x
  | .own i, .own e t xs, ids => ids = [i] ∧ objs i = .row e t xs
  | .own i, .fresh e t xs, ids => ids = [i] ∧ objs i = .arr e t xs
  | .nils, .own _ t xs, ids => ids = [] ∧ xs = [] ∧ 0 < t.size
  | .agg cs, .agg rs, ids => RVsle objs cs rs ids
  | .tup cs, .tup rs, ids => RVsle objs cs rs ids
  | _, _, _ => False
def RVsle (objs : Nat → AObj) : List AV → List RV → List Nat → Prop
  | [], [], ids => ids = []
  | a :: as, r :: rs, ids => ∃ i1 i2, ids = i1 ++ i2 ∧ RVle objs a r i1 ∧ RVsle objs as rs i2
  | _, _, _ => False
end

section
variable {w : World} {lim : Nat → Nat} {G : Nat → Value} {objs : Nat → AObj} {B : Nat} (ho : ∀ id, ObjOK w lim G objs 0 (G id) (objs id))
include ho
mutual
theorem RVle_ok : ∀ (rv : RV) (a : AV) (v : Value) (ids : List Nat), (∀ i g, i ∈ ids → (objs i).live = true → blk (G i) = some g → B ≤ g) → RVle objs a rv ids → AVok w lim G objs a v → RVok w lim B rv v (ids.flatMap fun i => (blk (G i)).toList) ∧ ∀ i, i ∈ ids → (objs i).live = true
  | .rd t x, a, v, ids, hm, h, hv => by
    have h' : ids = [] ∧ a.uc ∧ tvc objs t a.un ∧ tvd objs t a.un = x := by cases a <;> simpa only [RVle] using h
    obtain ⟨h0, h1, h2, h3⟩ := h'
    subst h0
    simp only [RVok]
    rw [← h3]
    exact ⟨⟨tv_ok ho t _ v h2 (hv.un h1), rfl⟩, fun i hi => by cases hi⟩
  | .fresh e t xs, a, v, ids, hm, h, hv => by
    cases a <;> simp only [RVle] at h
    obtain ⟨h0, h1⟩ := h
    subst h0
    rename_i i
    have hi := ho i
    simp only [AVok, h1] at hv
    rw [h1] at hi
    simp only [ObjOK] at hi
    have hv := hv.2 rfl
    subst hv
    simp only [RVok]
    refine ⟨⟨hi.1.raise fun g hg => hm i g (by simp) (by rw [h1]; rfl) hg, hi.2, by simp⟩, fun j hj => ?_⟩
    have : j = i := by simpa using hj
    subst this
    rw [h1]; rfl
  | .own e t xs, a, v, ids, hm, h, hv => by
    cases a <;> simp only [RVle] at h
    · obtain ⟨h0, h1, h2⟩ := h
      subst h0; subst h1
      simp only [AVok] at hv
      subst hv
      simp only [RVok]
      exact ⟨⟨⟨[], World.ownsRow_nil _ _ _ _, h2, fun i h => absurd h (by simp)⟩, (fun g hg => by cases hg), rfl⟩, fun i hi => by cases hi⟩
    · obtain ⟨h0, h1⟩ := h
      subst h0
      rename_i i
      have hi := ho i
      simp only [AVok, h1] at hv
      rw [h1] at hi
      simp only [ObjOK] at hi
      have hv := hv.2 rfl
      subst hv
      simp only [RVok]
      refine ⟨⟨hi.1.raise fun g hg => hm i g (by simp) (by rw [h1]; rfl) hg, hi.2, by simp⟩, fun j hj => ?_⟩
      have : j = i := by simpa using hj
      subst this
      rw [h1]; rfl
  | .agg rs, a, v, ids, hm, h, hv => by
    cases a <;> simp only [RVle] at h
    simp only [AVok] at hv
    obtain ⟨arr, h1, h2⟩ := hv
    obtain ⟨k1, k2⟩ := RVsle_ok rs _ arr ids hm h h2
    simp only [RVok]
    exact ⟨⟨arr, h1, k1⟩, k2⟩
  | .tup rs, a, v, ids, hm, h, hv => by
    cases a <;> simp only [RVle] at h
    simp only [AVok] at hv
    obtain ⟨arr, h1, h2⟩ := hv
    obtain ⟨k1, k2⟩ := RVsle_ok rs _ arr ids hm h h2
    simp only [RVok]
    exact ⟨⟨arr, h1, k1⟩, k2⟩
theorem RVsle_ok : ∀ (rs : List RV) (as : List AV) (vs : List Value) (ids : List Nat), (∀ i g, i ∈ ids → (objs i).live = true → blk (G i) = some g → B ≤ g) → RVsle objs as rs ids → AVsOk w lim G objs as vs → RVsOk w lim B rs vs (ids.flatMap fun i => (blk (G i)).toList) ∧ ∀ i, i ∈ ids → (objs i).live = true
  | [], as, vs, ids, hm, h, hv => by
    cases as <;> simp only [RVsle] at h
    subst h
    simp only [AVsOk] at hv
    simp only [RVsOk]
    exact ⟨⟨hv, rfl⟩, fun i hi => by cases hi⟩
  | r :: rs, as, vs, ids, hm, h, hv => by
    cases as with
    | nil => simp only [RVsle] at h
    | cons a as =>
      simp only [RVsle] at h
      obtain ⟨i1, i2, e, h1, h2⟩ := h
      subst e
      simp only [AVsOk] at hv
      obtain ⟨v, vr, e1, h3, h4⟩ := hv
      obtain ⟨k1, k2⟩ := RVle_ok r a v i1 (fun i g hi => hm i g (List.mem_append_left _ hi)) h1 h3
      obtain ⟨k3, k4⟩ := RVsle_ok rs as vr i2 (fun i g hi => hm i g (List.mem_append_right _ hi)) h2 h4
      simp only [RVsOk]
      refine ⟨⟨v, vr, _, _, e1, List.flatMap_append, k1, k3⟩, fun i hi => ?_⟩
      rcases List.mem_append.1 hi with hi | hi
      · exact k2 i hi
      · exact k4 i hi
end
end

/-- The list of results as one value. -/
def oneOf : List AV → AV
  | [a] => a
  | l => .tup l

/-- What is asked at a function's end. -/
def RetQ (P : Program) (tb : Tb) (rs : List ResultVar) (rv : RV) (σ : St) : Prop :=
  resAll P tb σ rs ∧ ∃ ids, ids.Nodup ∧ RVle σ.objs (oneOf (resL tb σ rs)) rv ids

section
variable {P : Program} {cx : Cx} {tb : Tb} {σ : St} {a : Act} {w : World} {lim : Nat → Nat} {G : Nat → Value}

def resFn (tmps : Array Value) : ResultVar → Sem Value
  | .tmp t => pure (tmps.getD t undef)
  | .cell c t => do loadVar t (← asAddr (tmps.getD c undef))

theorem run_res (hh : Hp cx σ.objs w lim G) (hf : Fr cx σ a w lim G) : ∀ (rs : List ResultVar), resAll P tb σ rs →
    ∃ vs : List Value, (rs.mapM (m := Sem) (resFn a.tmps)).run P w = .ok vs w ∧ AVsOk w lim G σ.objs (resL tb σ rs) vs
  | [], _ => ⟨[], by simp, by simp only [resL, AVsOk]⟩
  | r :: rs, h => by
    obtain ⟨h1, h2⟩ := h
    obtain ⟨vs, e1, e2⟩ := run_res hh hf rs h2
    cases r with
    | tmp t =>
      refine ⟨a.tmps.getD t undef :: vs, ?_, ?_⟩
      · rw [List.mapM_cons]
        have : (resFn a.tmps (.tmp t)).run P w = .ok (a.tmps.getD t undef) w := rfl
        simp only [Sem.run_bind, Sem.run_pure, Result.andThen_ok, e1, this]
      · simp only [resL, resAV, AVsOk]
        exact ⟨_, _, rfl, hf.tmp t, e2⟩
    | cell c T =>
      simp only [resC] at h1
      cases hc : σ.tmps c with
      | bp i off =>
        rw [hc] at h1
        simp only at h1
        cases hb : σ.objs i with
        | box T' cs =>
          rw [hb] at h1
          simp only at h1
          have h := hf.tmp c
          rw [hc] at h
          obtain ⟨g, arr, b1, b2, b3, b4, b5, b6⟩ := boxAt hh hb h
          have hl := b6.length
          have hcells : ∀ j u, ((arr.toList.drop off).take (tb.ty T).size)[j]? = some u → w.cell? ((⟨g, off, none⟩ : Addr).add j) = some u := by
            intro j u hu
            have e : (⟨g, off, none⟩ : Addr).add j = ⟨g, off + j, none⟩ := by unfold Addr.add; split <;> simp_all
            rw [e, cell_of_row w g _ arr T' (0, 0) b4]
            rw [List.getElem?_take] at hu
            split at hu
            · simpa using hu
            · cases hu
          have hlen : ((arr.toList.drop off).take (tb.ty T).size).length = (tb.ty T).size := by rw [List.length_take, List.length_drop, hl]; omega
          have hld := run_load_at h1.1 w ⟨g, off, none⟩ _ hlen hcells
          unfold Instr.loadAt Instr.sureAddr at hld
          simp only [Sem.run_bind, Sem.run_pure, Result.andThen_ok] at hld
          refine ⟨mkV (tb.ty T) ((arr.toList.drop off).take (tb.ty T).size) :: vs, ?_, ?_⟩
          · rw [List.mapM_cons]
            have ha : (asAddr (a.tmps.getD c undef)).run P w = .ok ⟨g, off, none⟩ w := by rw [b2]; rfl
            have : (resFn a.tmps (.cell c T)).run P w = .ok (mkV (tb.ty T) ((arr.toList.drop off).take (tb.ty T).size)) w := by
              simp only [resFn, Sem.run_bind, ha, Result.andThen_ok, hld]
            simp only [Sem.run_bind, Sem.run_pure, Result.andThen_ok, e1, this]
          · simp only [resL, resAV, hc, hb, AVsOk]
            refine ⟨_, _, rfl, ?_, e2⟩
            unfold boxLoad mkV
            cases hg : (tb.ty T).isAgg with
            | true =>
              simp only [cond_true, AVok, if_true]
              exact ⟨_, rfl, b6.cut off (tb.ty T).size⟩
            | false =>
              have hs : (tb.ty T).size = 1 := by cases htt : tb.ty T <;> simp_all [Ty.isAgg, Ty.size]
              have hlt : off < cs.length := by omega
              have hla : off < arr.toList.length := by omega
              simp only [cond_false, Bool.false_eq_true, if_false]
              have e : ((arr.toList.drop off).take (tb.ty T).size).headD undef = arr.toList.getD off undef := by
                rw [hs, List.drop_eq_getElem_cons hla]
                simp [List.getD_eq_getElem?_getD, List.getElem?_eq_getElem hla]
              rw [e]
              exact b6.get off hlt
        | _ => rw [hb] at h1; exact h1.elim
      | _ => rw [hc] at h1; exact h1.elim

theorem results_ok {fn : Func} (hh : Hp cx σ.objs w lim G) (hf : Fr cx σ a w lim G) (hr : resAll P tb σ fn.results.toList) :
    ∃ v, (results fn a.tmps).run P w = .ok v w ∧ AVok w lim G σ.objs (oneOf (resL tb σ fn.results.toList)) v := by
  obtain ⟨vs, h1, h2⟩ := run_res hh hf fn.results.toList hr
  have hl := h2.length
  have e : (results fn a.tmps).run P w = .ok (if h : vs.toArray.size = 1 then vs.toArray[0] else .tuple vs.toArray) w := by
    have hd : results fn a.tmps = (do
        let vs ← fn.results.mapM (resFn a.tmps)
        pure (if h : vs.size = 1 then vs[0] else .tuple vs)) := rfl
    have this : (fn.results.mapM (m := Sem) (resFn a.tmps)).run P w = .ok vs.toArray w := by
      rw [Array.mapM_eq_mapM_toList, map_eq_pure_bind, Sem.run_bind, h1]
      rfl
    rw [hd, Sem.run_bind, this]
    rfl
  refine ⟨_, e, ?_⟩
  cases hvs : vs with
  | nil =>
    rw [hvs] at hl h2
    have : resL tb σ fn.results.toList = [] := List.eq_nil_of_length_eq_zero (by simpa using hl.symm)
    rw [this] at h2 ⊢
    simp only [oneOf, AVok]
    exact ⟨[], by simp, h2⟩
  | cons v r =>
    cases r with
    | nil =>
      rw [hvs] at hl h2
      cases hrl : resL tb σ fn.results.toList with
      | nil => rw [hrl] at hl; simp at hl
      | cons b bs =>
        cases bs with
        | nil =>
          rw [hrl] at h2
          simp only [AVsOk] at h2
          obtain ⟨v', r', e1, h3, h4⟩ := h2
          injection e1 with e1 e2
          subst e1
          simpa [oneOf] using h3
        | cons _ _ => rw [hrl] at hl; simp at hl
    | cons v2 r2 =>
      rw [hvs] at hl h2
      have : oneOf (resL tb σ fn.results.toList) = .tup (resL tb σ fn.results.toList) := by
        cases hrl : resL tb σ fn.results.toList with
        | nil => rfl
        | cons b bs =>
          cases bs with
          | nil => rw [hrl] at hl; simp at hl
          | cons _ _ => rfl
      rw [this]
      simp only [AVok]
      exact ⟨v :: v2 :: r2, by simp, h2⟩

def finQ (k : St → Prop) (e : Exit) (σ : St) : Prop :=
  match e with
  | .normal => k σ
  | .ret => k σ
  | _ => False

/-- A function, by its body. -/
theorem fun_ofT {P : Program} {tb : Tb} {f : FuncId} {fn : Func} {c : Code} {args : List TV} {rv : RV} (hf : P.funcs[f]? = some fn) (hn : (fn.name == "runtime.NumGoroutine") = false) (hb : fn.body = some c)
    (hl : args.length ≤ fn.ntmps)
    (h : ∀ cx : Cx, cx.is fn.ntmps [] → WFs args → T P cx c (finQ (RetQ P tb fn.results.toList rv)) (shp (initL 0 args) [])) : FunOK P f args rv := by
  refine ⟨⟨fn, hf, hn, by rw [hb]; rfl⟩, fun w lim vs hargs => ?_⟩
  let cx : Cx := ⟨w.heap.size, w, lim, fn.ntmps, fun _ => none, fun _ => False⟩
  have hL : ∀ g, ¬ cx.L g := fun g ⟨_, _, h, _⟩ => by cases h
  have hl2 := hargs.len
  refine calls_of_wp hf hb ?_
  have hs : Sat cx (shp (initL 0 args) []) { tmps := vs.toArray ++ Array.replicate (fn.ntmps - vs.toArray.size) undef, defers := [] } w := by
    refine ⟨lim, fun _ => .nilFunc, ⟨rfl, BelowL.refl _ _ _, fun _ _ _ => rfl, fun id => by simp only [shp, lkO, ObjOK], fun i j g _ hi => by simp [shp, lkO, AObj.live] at hi, fun i g hi => by simp [shp, lkO, AObj.live] at hi, fun j r hr => by cases hr⟩, ?_, rfl, fun t => ?_, fun p hp => hp.elim⟩
    · show (vs.toArray ++ Array.replicate (fn.ntmps - vs.toArray.size) undef).size = fn.ntmps
      simp; omega
    · simp only [shp]
      rw [initL_lk, Nat.sub_zero]
      cases ha : args[t]? with
      | none => simp only [AVok]
      | some a =>
        simp only
        rw [if_pos (Nat.zero_le _)]
        simp only [AVok]
        have := hargs.get t a ha
        have ht : t < vs.length := by rw [hl2]; exact (List.getElem?_eq_some_iff.1 ha).1
        have e : (vs.toArray ++ Array.replicate (fn.ntmps - vs.toArray.size) undef).getD t undef = vs.getD t undef := by
          simp [Array.getD_eq_getD_getElem?, Array.getElem?_append, ht, List.getD_eq_getElem?_getD]
        rw [e]
        exact this
  have hT := h cx ⟨rfl, fun j r hr => (by cases hr), fun p hp => hp⟩ hargs.wf _ w hs
  refine wp_mono hT fun e a' w' hq => ?_
  obtain ⟨σ', h1, lim', G, hh, hfr⟩ := hq
  have fin : RetQ P tb fn.results.toList rv σ' → a'.defers = [] ∧ ∃ v, (results fn a'.tmps).run P w' = .ok v w' ∧ ∃ v0 lim' fp, Ending.returned v = .returned v0 ∧ Below w.heap.size w w' ∧ (∀ b, b < w.heap.size → lim' b = lim b) ∧ RVok w' lim' w.heap.size rv v0 fp ∧ fp.Nodup := by
    rintro ⟨q1, ids, q2, q3⟩
    obtain ⟨v, r1, r2⟩ := results_ok hh hfr q1
    obtain ⟨k1, k2⟩ := RVle_ok (B := w.heap.size) hh.obj rv _ v ids (fun i g _ hl hg => (hh.mine i g hl hg).resolve_right (hL g)) q3 r2
    refine ⟨hfr.defers, v, r1, v, lim', _, rfl, ⟨hh.below.os, hh.below.tape, hh.below.output, hh.below.size, fun k hk => hh.below.block k hk (hL k)⟩, fun b hb => hh.lim0 b hb (hL b), k1, ?_⟩
    have nd : ∀ l : List Nat, l.Nodup → (∀ i, i ∈ l → (σ'.objs i).live = true) → (l.flatMap fun i => (blk (G i)).toList).Nodup := by
      intro l
      induction l with
      | nil => intro _ _; exact List.nodup_nil
      | cons i l ih =>
        intro hnd hlv
        rw [List.nodup_cons] at hnd
        rw [List.flatMap_cons, List.nodup_append]
        refine ⟨by cases blk (G i) <;> simp, ih hnd.2 fun j hj => hlv j (by simp [hj]), fun x hx y hy hxy => ?_⟩
        subst hxy
        have hx' : blk (G i) = some x := by simpa using hx
        rw [List.mem_flatMap] at hy
        obtain ⟨j, hj, hy⟩ := hy
        have hy' : blk (G j) = some x := by simpa using hy
        have hij : i ≠ j := by rintro rfl; exact hnd.1 hj
        exact hh.sep i j x hij (hlv i (by simp)) (hlv j (by simp [hj])) hx' hy'
    exact nd ids q2 k2
  cases e with
  | normal => exact fin h1
  | ret => exact fin h1
  | _ => exact h1.elim
end

end Go.AL
