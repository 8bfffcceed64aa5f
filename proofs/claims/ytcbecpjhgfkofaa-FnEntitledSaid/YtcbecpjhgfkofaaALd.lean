/- Functions to which something is lent: how they begin, how they end. A general part, over any program. -/
import Derived.Test.YtcbecpjhgfkofaaAL20
set_option linter.unusedSimpArgs false
set_option linter.unusedVariables false
set_option linter.unusedSectionVars false
namespace Go.AL
open Go.RowKit

def mAV (c : Nat) : MA → AV
  | .rd a => .rd a.t a.x
  | .obj (.arr _ _ _) => .own c
  | .obj (.box _ _) => .bp c 0
  | .obj _ => .any
def mAVs : Nat → List MA → List AV
  | _, [] => []
  | c, m :: ms => mAV c m :: mAVs (c + 1) ms
/-- The parameters' temporaries. k: the parameter; c: the cell. -/
def initM : Nat → Nat → List (Option Nat) → List MA → List (Nat × AV)
  | _, _, [], _ => []
  | k, c, none :: s, m :: ms => (k, mAV c m) :: initM (k + 1) (c + 1) s ms
  | _, _, none :: _, [] => []
  | k, c, some n :: s, ms => (k, .agg (mAVs c (ms.take n))) :: initM (k + 1) (c + n) s (ms.drop n)
def initO : Nat → List MA → List (Nat × AObj)
  | _, [] => []
  | c, .rd _ :: ms => initO (c + 1) ms
  | c, .obj o :: ms => (c, o) :: initO (c + 1) ms
def initI : Nat → List MA → List Nat
  | _, [] => []
  | c, .rd _ :: ms => initI (c + 1) ms
  | c, .obj _ :: ms => c :: initI (c + 1) ms

def shOK : List (Option Nat) → Nat → Prop
  | [], n => n = 0
  | none :: s, n => ∃ m, n = m + 1 ∧ shOK s m
  | some k :: s, n => k ≤ n ∧ shOK s (n - k)

def WFm : List MA → Prop
  | [] => True
  | .rd a :: r => WF a.t a.x ∧ WFm r
  | .obj _ :: r => WFm r

section
variable {w : World} {lim : Nat → Nat}

theorem MCells.len : ∀ {ms : List MA} {vs : List Value}, MCells w lim ms vs → vs.length = ms.length
  | [], vs, h => by simp only [MCells] at h; rw [h]; rfl
  | .rd a :: ms, vs, h => by simp only [MCells] at h; obtain ⟨v, r, rfl, _, h⟩ := h; simp [h.len]
  | .obj a :: ms, vs, h => by simp only [MCells] at h; obtain ⟨v, r, rfl, _, h⟩ := h; simp [h.len]

theorem MCells.wf : ∀ {ms : List MA} {vs : List Value}, MCells w lim ms vs → WFm ms
  | [], vs, h => trivial
  | .rd a :: ms, vs, h => by
    simp only [MCells] at h
    obtain ⟨v, r, rfl, h1, h2⟩ := h
    obtain ⟨cs, h4, _⟩ := h1
    exact ⟨h4.wf, h2.wf⟩
  | .obj a :: ms, vs, h => by simp only [MCells] at h; obtain ⟨v, r, rfl, _, h⟩ := h; exact h.wf

theorem MCells.drop : ∀ (n : Nat) {ms : List MA} {vs : List Value}, MCells w lim ms vs → MCells w lim (ms.drop n) (vs.drop n)
  | 0, ms, vs, h => by simpa using h
  | n + 1, [], vs, h => by simp only [MCells] at h; subst h; simp only [List.drop_nil, MCells]
  | n + 1, .rd a :: ms, vs, h => by simp only [MCells] at h; obtain ⟨v, r, rfl, _, h⟩ := h; simpa using MCells.drop n h
  | n + 1, .obj a :: ms, vs, h => by simp only [MCells] at h; obtain ⟨v, r, rfl, _, h⟩ := h; simpa using MCells.drop n h

theorem MCells.take : ∀ (n : Nat) {ms : List MA} {vs : List Value}, MCells w lim ms vs → MCells w lim (ms.take n) (vs.take n)
  | 0, ms, vs, h => by simp only [List.take_zero, MCells]
  | n + 1, [], vs, h => by simp only [MCells] at h; subst h; simp only [List.take_nil, MCells]
  | n + 1, .rd a :: ms, vs, h => by simp only [MCells] at h; obtain ⟨v, r, rfl, h1, h⟩ := h; simp only [List.take_succ_cons, MCells]; exact ⟨v, _, rfl, h1, MCells.take n h⟩
  | n + 1, .obj a :: ms, vs, h => by simp only [MCells] at h; obtain ⟨v, r, rfl, h1, h⟩ := h; simp only [List.take_succ_cons, MCells]; exact ⟨v, _, rfl, h1, MCells.take n h⟩

theorem MCells.objAt : ∀ {ms : List MA} {vs : List Value}, MCells w lim ms vs → ∀ k o, ms[k]? = some (.obj o) → ∃ v, vs[k]? = some v ∧ lentAt ms vs k = some v ∧ o.clo = true ∧ ObjOK w lim noG noO 0 v o
  | [], vs, h, k, o, hk => by simp at hk
  | .rd a :: ms, vs, h, k, o, hk => by
    simp only [MCells] at h
    obtain ⟨v, r, rfl, _, h⟩ := h
    cases k with
    | zero => simp at hk
    | succ k => simpa [lentAt] using h.objAt k o (by simpa using hk)
  | .obj a :: ms, vs, h, k, o, hk => by
    simp only [MCells] at h
    obtain ⟨v, r, rfl, h1, h⟩ := h
    cases k with
    | zero =>
      have e : a = o := by simpa using hk
      subst e
      exact ⟨v, rfl, rfl, h1⟩
    | succ k => simpa [lentAt] using h.objAt k o (by simpa using hk)

theorem lentAt_obj : ∀ {ms : List MA} {vs : List Value} {k : Nat} {r : Value}, lentAt ms vs k = some r → ∃ o, ms[k]? = some (.obj o) ∧ vs[k]? = some r
  | [], vs, k, r, h => by simp [lentAt] at h
  | .rd a :: ms, [], k, r, h => by cases k <;> simp [lentAt] at h
  | .obj a :: ms, [], k, r, h => by cases k <;> simp [lentAt] at h
  | .rd a :: ms, v :: vs, k, r, h => by
    cases k with
    | zero => simp [lentAt] at h
    | succ k => simpa using lentAt_obj (by simpa [lentAt] using h)
  | .obj a :: ms, v :: vs, k, r, h => by
    cases k with
    | zero => simp only [lentAt, Option.some.injEq] at h; subst h; exact ⟨a, rfl, rfl⟩
    | succ k => simpa using lentAt_obj (by simpa [lentAt] using h)

theorem initO_lk : ∀ (ms : List MA) (c j : Nat), lkO (initO c ms) j = (match ms[j - c]? with | some (.obj o) => if c ≤ j then o else .unborn | _ => .unborn)
  | [], c, j => by simp [initO, lkO]
  | .rd a :: ms, c, j => by
    simp only [initO]
    rw [initO_lk ms (c + 1) j]
    rcases Nat.lt_or_ge c j with hlt | hge
    · have e : j - c = (j - (c + 1)) + 1 := by omega
      rw [e, List.getElem?_cons_succ]
      cases ms[j - (c + 1)]? with
      | none => rfl
      | some m => cases m with
        | rd _ => rfl
        | obj o => simp only; rw [if_pos (by omega), if_pos (by omega)]
    · have e : j - c = 0 := by omega
      rw [e]
      simp only [List.getElem?_cons_zero]
      cases ms[j - (c + 1)]? with
      | none => rfl
      | some m => cases m with
        | rd _ => rfl
        | obj o => simp only; rw [if_neg (by omega)]
  | .obj a :: ms, c, j => by
    simp only [initO, lkO]
    cases hb : Nat.beq j c with
    | true =>
      have := Nat.eq_of_beq_eq_true hb
      subst this
      simp
    | false =>
      have hne : j ≠ c := fun e => by rw [e, Nat.beq_refl] at hb; cases hb
      simp only [cond_false]
      rw [initO_lk ms (c + 1) j]
      rcases Nat.lt_or_ge c j with hlt | hge
      · have e : j - c = (j - (c + 1)) + 1 := by omega
        rw [e, List.getElem?_cons_succ]
        cases ms[j - (c + 1)]? with
        | none => rfl
        | some m => cases m with
          | rd _ => rfl
          | obj o => simp only; rw [if_pos (by omega), if_pos (by omega)]
      · have e : j - c = 0 := by omega
        rw [e]
        simp only [List.getElem?_cons_zero]
        rw [if_neg (by omega)]
        cases ms[j - (c + 1)]? with
        | none => rfl
        | some m => cases m with
          | rd _ => rfl
          | obj o => simp only; rw [if_neg (by omega)]

theorem initI_mem : ∀ {ms : List MA} {c k : Nat} {o : AObj}, ms[k]? = some (.obj o) → c + k ∈ initI c ms
  | [], c, k, o, h => by simp at h
  | .rd a :: ms, c, k, o, h => by
    cases k with
    | zero => simp at h
    | succ k =>
      simp only [initI]
      have := initI_mem (c := c + 1) (k := k) (ms := ms) (o := o) (by simpa using h)
      rwa [show c + (k + 1) = c + 1 + k by omega]
  | .obj a :: ms, c, k, o, h => by
    simp only [initI]
    cases k with
    | zero => exact List.mem_cons_self
    | succ k =>
      have := initI_mem (c := c + 1) (k := k) (ms := ms) (o := o) (by simpa using h)
      rw [show c + (k + 1) = c + 1 + k by omega]
      exact List.mem_cons_of_mem _ this

variable {G : Nat → Value} {objs : Nat → AObj}

/-- Cells from c on: their objects stand at their numbers. -/
def At0 (G : Nat → Value) (objs : Nat → AObj) (c : Nat) (ms : List MA) (vs : List Value) : Prop :=
  ∀ k o v, ms[k]? = some (.obj o) → vs[k]? = some v → objs (c + k) = o ∧ G (c + k) = v

theorem At0.tail {c : Nat} {m : MA} {v : Value} {ms : List MA} {vs : List Value} (h : At0 G objs c (m :: ms) (v :: vs)) : At0 G objs (c + 1) ms vs := by
  intro k o u hk hu
  have := h (k + 1) o u (by simpa using hk) (by simpa using hu)
  rwa [show c + (k + 1) = c + 1 + k by omega] at this

theorem At0.drop {c n : Nat} {ms : List MA} {vs : List Value} (h : At0 G objs c ms vs) : At0 G objs (c + n) (ms.drop n) (vs.drop n) := by
  intro k o u hk hu
  have := h (n + k) o u (by simpa [List.getElem?_drop] using hk) (by simpa [List.getElem?_drop] using hu)
  rwa [show c + (n + k) = c + n + k by omega] at this

theorem At0.take {c n : Nat} {ms : List MA} {vs : List Value} (h : At0 G objs c ms vs) : At0 G objs c (ms.take n) (vs.take n) := by
  intro k o u hk hu
  rw [List.getElem?_take] at hk hu
  split at hk
  · rw [if_pos ‹_›] at hu; exact h k o u hk hu
  · cases hk

theorem mAV_ok {c : Nat} {m : MA} {v : Value} {ms : List MA} {vs : List Value} (hat : At0 G objs c (m :: ms) (v :: vs)) (hm : MCells w lim [m] [v]) : AVok w lim G objs (mAV c m) v := by
  cases m with
  | rd a =>
    simp only [MCells] at hm
    obtain ⟨v', r, e, h1, _⟩ := hm
    injection e with e
    subst e
    simp only [mAV, AVok]
    exact h1
  | obj o =>
    simp only [MCells] at hm
    obtain ⟨v', r, e, ⟨h1, h2⟩, _⟩ := hm
    injection e with e
    subst e
    obtain ⟨k1, k2⟩ := hat 0 o v rfl rfl
    simp only [Nat.add_zero] at k1 k2
    cases o with
    | arr e t xs =>
      simp only [mAV, AVok, k1, k2]
      exact ⟨rfl, fun _ => trivial⟩
    | box T cs =>
      simp only [mAV, AVok, k1, k2]
      simp only [ObjOK] at h2
      obtain ⟨g, arr, e1, _⟩ := h2
      exact ⟨rfl, fun _ => ⟨g, by rw [e1]; rfl, e1⟩⟩
    | _ => cases h1

theorem MCells.one {m : MA} {ms : List MA} {v : Value} {vs : List Value} (h : MCells w lim (m :: ms) (v :: vs)) : MCells w lim [m] [v] ∧ MCells w lim ms vs := by
  cases m with
  | rd a =>
    simp only [MCells] at h ⊢
    obtain ⟨v', r, e, h1, h2⟩ := h
    injection e with e1 e2
    subst e1; subst e2
    exact ⟨⟨v, [], rfl, h1, rfl⟩, h2⟩
  | obj o =>
    simp only [MCells] at h ⊢
    obtain ⟨v', r, e, h1, h2⟩ := h
    injection e with e1 e2
    subst e1; subst e2
    exact ⟨⟨v, [], rfl, h1, rfl⟩, h2⟩

theorem mAVs_ok : ∀ {ms : List MA} {vs : List Value} {c : Nat}, At0 G objs c ms vs → MCells w lim ms vs → AVsOk w lim G objs (mAVs c ms) vs
  | [], vs, c, _, h => by simp only [MCells] at h; subst h; simp only [mAVs, AVsOk]
  | m :: ms, vs, c, hat, h => by
    cases vs with
    | nil => have := h.len; simp at this
    | cons v vs =>
      obtain ⟨h1, h2⟩ := h.one
      simp only [mAVs, AVsOk]
      exact ⟨v, vs, rfl, mAV_ok hat h1, mAVs_ok hat.tail h2⟩

theorem initM_ok : ∀ {s : List (Option Nat)} {ms : List MA} {vs : List Value} {k c : Nat}, shOK s ms.length → At0 G objs c ms vs → MCells w lim ms vs → ∀ t, AVok w lim G objs (lkT (initM k c s ms) t) (if k ≤ t then (pack s vs).getD (t - k) undef else undef)
  | [], ms, vs, k, c, _, _, _, t => by simp only [initM, lkT, AVok]
  | none :: s, [], vs, k, c, _, _, _, t => by simp only [initM, lkT, AVok]
  | none :: s, m :: ms, vs, k, c, hs, hat, h, t => by
    cases vs with
    | nil => have := h.len; simp at this
    | cons v vs =>
      obtain ⟨h1, h2⟩ := h.one
      obtain ⟨n, e, hs⟩ := hs
      have hs' : shOK s ms.length := by simp only [List.length_cons] at e; have : ms.length = n := by omega
                                        rw [this]; exact hs
      simp only [initM, lkT, pack, List.headD_cons, List.drop_succ_cons, List.drop_zero]
      cases hb : Nat.beq t k with
      | true =>
        have := Nat.eq_of_beq_eq_true hb
        subst this
        simp only [cond_true, Nat.le_refl, if_true, Nat.sub_self, List.getD_cons_zero]
        exact mAV_ok hat h1
      | false =>
        have hne : t ≠ k := fun e => by rw [e, Nat.beq_refl] at hb; cases hb
        simp only [cond_false]
        have ih := initM_ok (s := s) (k := k + 1) (c := c + 1) hs' hat.tail h2 t
        rcases Nat.lt_or_ge k t with hlt | hge
        · rw [if_pos (by omega)] at ih ⊢
          rw [show t - k = (t - (k + 1)) + 1 by omega, List.getD_cons_succ]
          exact ih
        · rw [if_neg (by omega)] at ih ⊢
          exact ih
  | some n :: s, ms, vs, k, c, hs, hat, h, t => by
    simp only [initM, lkT, pack]
    cases hb : Nat.beq t k with
    | true =>
      have := Nat.eq_of_beq_eq_true hb
      subst this
      simp only [cond_true, Nat.le_refl, if_true, Nat.sub_self, List.getD_cons_zero, AVok]
      exact ⟨_, rfl, mAVs_ok hat.take (h.take n)⟩
    | false =>
      have hne : t ≠ k := fun e => by rw [e, Nat.beq_refl] at hb; cases hb
      simp only [cond_false]
      have ih := initM_ok (s := s) (k := k + 1) (c := c + n) (by rw [List.length_drop]; exact hs.2) hat.drop (h.drop n) t
      rcases Nat.lt_or_ge k t with hlt | hge
      · rw [if_pos (by omega)] at ih ⊢
        rw [show t - k = (t - (k + 1)) + 1 by omega, List.getD_cons_succ]
        exact ih
      · rw [if_neg (by omega)] at ih ⊢
        exact ih

theorem pack_len : ∀ (s : List (Option Nat)) (vs : List Value), (pack s vs).length = s.length
  | [], _ => rfl
  | none :: s, vs => by simp only [pack, List.length_cons, pack_len s]
  | some n :: s, vs => by simp only [pack, List.length_cons, pack_len s]

/-- What lies in the lent cells at the end. -/
def outsAt (objs : Nat → AObj) : Nat → List MA → List AObj → Prop
  | _, [], outs => outs = []
  | c, .rd _ :: ms, outs => outsAt objs (c + 1) ms outs
  | c, .obj _ :: ms, o :: r => (objs c = o ∧ o.clo = true) ∧ outsAt objs (c + 1) ms r
  | _, .obj _ :: _, [] => False

theorem outsAt_ok {w' : World} {lim' : Nat → Nat} (ho : ∀ id, ObjOK w' lim' G objs 0 (G id) (objs id)) : ∀ {ms : List MA} {vs : List Value} {c : Nat} {outs : List AObj}, vs.length = ms.length → (∀ k r, lentAt ms vs k = some r → G (c + k) = r) → outsAt objs c ms outs → OutsOK w' lim' ms vs outs
  | [], vs, c, outs, _, _, h => by simp only [outsAt] at h; simp only [OutsOK]; exact h
  | .rd a :: ms, [], c, outs, hl, _, h => by simp at hl
  | .obj a :: ms, [], c, outs, hl, _, h => by simp at hl
  | .rd a :: ms, v :: vs, c, outs, hl, hg, h => by
    simp only [outsAt] at h
    simp only [OutsOK]
    exact outsAt_ok ho (by simpa using hl) (fun k r hk => by have := hg (k + 1) r (by simpa [lentAt] using hk); rwa [show c + (k + 1) = c + 1 + k by omega] at this) h
  | .obj a :: ms, v :: vs, c, [], hl, hg, h => h.elim
  | .obj a :: ms, v :: vs, c, o :: r, hl, hg, h => by
    obtain ⟨⟨h1, h2⟩, h3⟩ := h
    simp only [OutsOK]
    refine ⟨o, r, rfl, ?_, outsAt_ok ho (by simpa using hl) (fun k q hk => by have := hg (k + 1) q (by simpa [lentAt] using hk); rwa [show c + (k + 1) = c + 1 + k by omega] at this) h3⟩
    have e := hg 0 v (by simp [lentAt])
    simp only [Nat.add_zero] at e
    have := ho c
    rw [e, h1] at this
    exact ObjOK.clo h2 this

theorem outsAt_live : ∀ {ms : List MA} {c : Nat} {outs : List AObj}, outsAt objs c ms outs → ∀ k o, ms[k]? = some (.obj o) → (objs (c + k)).live = true
  | [], c, outs, _, k, o, hk => by simp at hk
  | .rd a :: ms, c, outs, h, k, o, hk => by
    cases k with
    | zero => simp at hk
    | succ k => have := outsAt_live (ms := ms) h k o (by simpa using hk); rwa [show c + (k + 1) = c + 1 + k by omega]
  | .obj a :: ms, c, [], h, k, o, hk => h.elim
  | .obj a :: ms, c, q :: r, h, k, o, hk => by
    obtain ⟨⟨h1, h2⟩, h3⟩ := h
    cases k with
    | zero => rw [Nat.add_zero, h1]; exact AObj.clo_live h2
    | succ k => have := outsAt_live (ms := ms) h3 k o (by simpa using hk); rwa [show c + (k + 1) = c + 1 + k by omega]

end

/-- What is asked at the end of a function to which something is lent. -/
def RetQM (P : Program) (tb : Tb) (rs : List ResultVar) (n : Nat) (ms : List MA) (rv : RV) (outs : List AObj) (σ : St) : Prop :=
  resAll P tb σ rs ∧ (∃ ids, ids.Nodup ∧ (∀ i, i ∈ ids → n ≤ i) ∧ RVle σ.objs (oneOf (resL tb σ rs)) rv ids) ∧ outsAt σ.objs 0 ms outs

theorem fun_ofTM {P : Program} {tb : Tb} {f : FuncId} {fn : Func} {c : Code} {s : List (Option Nat)} {ms : List MA} {rv : RV} {outs : List AObj} (hf : P.funcs[f]? = some fn) (hn : (fn.name == "runtime.NumGoroutine") = false) (hb : fn.body = some c)
    (hs : shOK s ms.length) (hl : s.length ≤ fn.ntmps)
    (h : ∀ cx : Cx, cx.is fn.ntmps (initI 0 ms) → WFm ms → T P cx c (finQ (RetQM P tb fn.results.toList ms.length ms rv outs)) (shp (initM 0 0 s ms) (initO 0 ms))) : MutOK P f s ms rv outs := by
  refine ⟨⟨fn, hf, hn, by rw [hb]; rfl⟩, fun w lim vs hargs hsep => ?_⟩
  let cx : Cx := ⟨w.heap.size, w, lim, fn.ntmps, lentAt ms vs, fun _ => False⟩
  let G : Nat → Value := fun k => (lentAt ms vs k).getD .nilFunc
  have hpl := pack_len s vs
  have hgo : ∀ k o v, ms[k]? = some (.obj o) → vs[k]? = some v → lkO (initO 0 ms) k = o ∧ G k = v := by
    intro k o v hk hv
    obtain ⟨v', h1, h2, _⟩ := hargs.objAt k o hk
    rw [h1] at hv
    injection hv with hv
    subst hv
    refine ⟨?_, by show (lentAt ms vs k).getD _ = _; rw [h2]; rfl⟩
    rw [initO_lk, Nat.sub_zero, hk]
    simp
  have hobj : ∀ j, (lkO (initO 0 ms) j).live = true → ∃ o r, ms[j]? = some (.obj o) ∧ lentAt ms vs j = some r ∧ G j = r ∧ lkO (initO 0 ms) j = o ∧ o.clo = true ∧ ObjOK w lim noG noO 0 r o := by
    intro j hj
    rw [initO_lk, Nat.sub_zero] at hj
    cases hm : ms[j]? with
    | none => rw [hm] at hj; cases hj
    | some m =>
      cases m with
      | rd a => rw [hm] at hj; cases hj
      | obj o =>
        obtain ⟨v, h1, h2, h3, h4⟩ := hargs.objAt j o hm
        have := hgo j o v hm h1
        exact ⟨o, v, rfl, h2, this.2, this.1, h3, h4⟩
  refine calls_of_wp hf hb ?_
  have hs0 : Sat cx (shp (initM 0 0 s ms) (initO 0 ms)) { tmps := (pack s vs).toArray ++ Array.replicate (fn.ntmps - (pack s vs).toArray.size) undef, defers := [] } w := by
    refine ⟨lim, G, ⟨rfl, BelowL.refl _ _ _, fun _ _ _ => rfl, fun id => ?_, fun i j g hij hi hj hg hg' => ?_, fun i g hi hg => ?_, fun j r hr => ?_⟩, ?_, rfl, fun t => ?_, fun p hp => hp.elim⟩
    · show ObjOK w lim G (lkO (initO 0 ms)) 0 (G id) (lkO (initO 0 ms) id)
      cases hlv : (lkO (initO 0 ms) id).live with
      | true =>
        obtain ⟨o, r, h1, h2, h3, h4, h5, h6⟩ := hobj id hlv
        rw [h3, h4]
        exact ObjOK.clo h5 h6
      | false =>
        cases ho : lkO (initO 0 ms) id <;> rw [ho] at hlv <;> first | (simp only [ObjOK]; done) | cases hlv
    · obtain ⟨_, r, _, h2, h3, _⟩ := hobj i hi
      obtain ⟨_, q, _, k2, k3, _⟩ := hobj j hj
      rw [h3] at hg
      rw [k3] at hg'
      exact hsep i j r q g hij h2 k2 hg hg'
    · obtain ⟨_, r, _, h2, h3, _⟩ := hobj i hi
      rw [h3] at hg
      exact .inr ⟨i, r, h2, hg⟩
    · obtain ⟨o, h1, h2⟩ := lentAt_obj hr
      obtain ⟨k1, k2⟩ := hgo j o r h1 h2
      obtain ⟨_, _, _, h5, _⟩ := hargs.objAt j o h1
      exact ⟨by show (lkO (initO 0 ms) j).born = true; rw [k1]; exact AObj.born_of_live (AObj.clo_live h5), k2⟩
    · show ((pack s vs).toArray ++ Array.replicate (fn.ntmps - (pack s vs).toArray.size) undef).size = fn.ntmps
      simp [hpl]; omega
    · have := initM_ok (w := w) (lim := lim) (G := G) (objs := lkO (initO 0 ms)) (k := 0) (c := 0) hs (fun k o v hk hv => by rw [Nat.zero_add]; exact hgo k o v hk hv) hargs t
      simp only [Nat.zero_le, if_true, Nat.sub_zero] at this
      show AVok w lim G (lkO (initO 0 ms)) (lkT (initM 0 0 s ms) t) _
      rcases Nat.lt_or_ge t (pack s vs).length with ht | ht
      · have e : ((pack s vs).toArray ++ Array.replicate (fn.ntmps - (pack s vs).toArray.size) undef).getD t undef = (pack s vs).getD t undef := by
          simp [Array.getD_eq_getD_getElem?, Array.getElem?_append, ht, List.getD_eq_getElem?_getD]
        rw [e]; exact this
      · have e : ((pack s vs).toArray ++ Array.replicate (fn.ntmps - (pack s vs).toArray.size) undef).getD t undef = undef := by
          simp only [Array.getD_eq_getD_getElem?, Array.getElem?_append, List.size_toArray, if_neg (Nat.not_lt.2 ht), Array.getElem?_replicate]
          split <;> rfl
        rw [e]
        rw [List.getD_eq_getElem?_getD, List.getElem?_eq_none ht] at this
        exact this
  have hT := h cx ⟨rfl, (fun j r hr => by
    obtain ⟨o, h1, _⟩ := lentAt_obj hr
    have := initI_mem (c := 0) h1
    rwa [Nat.zero_add] at this), fun p hp => hp⟩ hargs.wf _ w hs0
  refine wp_mono hT fun e a' w' hq => ?_
  obtain ⟨σ', h1, lim', G', hh, hfr⟩ := hq
  have fin : RetQM P tb fn.results.toList ms.length ms rv outs σ' → a'.defers = [] ∧ ∃ v, (results fn a'.tmps).run P w' = .ok v w' ∧ ∃ v0 lim' fp, Ending.returned v = .returned v0 ∧ BelowL (lentB ms vs) w.heap.size w w' ∧ (∀ b, b < w.heap.size → ¬ lentB ms vs b → lim' b = lim b) ∧ RVok w' lim' w.heap.size rv v0 fp ∧ fp.Nodup ∧ OutsOK w' lim' ms vs outs := by
    rintro ⟨q1, ⟨ids, q2, q3, q4⟩, q5⟩
    obtain ⟨v, r1, r2⟩ := results_ok hh hfr q1
    have hnl : ∀ i g, i ∈ ids → (σ'.objs i).live = true → blk (G' i) = some g → w.heap.size ≤ g := by
      intro i g hi hl hg
      rcases hh.mine i g hl hg with h | ⟨j, r, h2, h3⟩
      · exact h
      · exfalso
        have hj := hh.lent j r h2
        obtain ⟨o, k1, k2⟩ := lentAt_obj h2
        have hjl := outsAt_live q5 j o k1
        rw [Nat.zero_add] at hjl
        have hlt : j < ms.length := (List.getElem?_eq_some_iff.1 k1).1
        have := q3 i hi
        exact hh.sep i j g (by omega) hl hjl hg (by rw [hj.2]; exact h3)
    obtain ⟨k1, k2⟩ := RVle_ok (B := w.heap.size) hh.obj rv _ v ids hnl q4 r2
    refine ⟨hfr.defers, v, r1, v, lim', _, rfl, hh.below, hh.lim0, k1, ?_, outsAt_ok hh.obj hargs.len (fun k r hr => by rw [Nat.zero_add]; exact (hh.lent k r hr).2) q5⟩
    have nd : ∀ l : List Nat, l.Nodup → (∀ i, i ∈ l → (σ'.objs i).live = true) → (l.flatMap fun i => (blk (G' i)).toList).Nodup := by
      intro l
      induction l with
      | nil => intro _ _; exact List.nodup_nil
      | cons i l ih =>
        intro hnd hlv
        rw [List.nodup_cons] at hnd
        rw [List.flatMap_cons, List.nodup_append]
        refine ⟨by cases blk (G' i) <;> simp, ih hnd.2 fun j hj => hlv j (by simp [hj]), fun x hx y hy hxy => ?_⟩
        subst hxy
        have hx' : blk (G' i) = some x := by simpa using hx
        rw [List.mem_flatMap] at hy
        obtain ⟨j, hj, hy⟩ := hy
        have hy' : blk (G' j) = some x := by simpa using hy
        have hij : i ≠ j := by rintro rfl; exact hnd.1 hj
        exact hh.sep i j x hij (hlv i (by simp)) (hlv j (by simp [hj])) hx' hy'
    exact nd ids q2 k2
  cases e with
  | normal => exact fin h1
  | ret => exact fin h1
  | _ => exact h1.elim

end Go.AL
