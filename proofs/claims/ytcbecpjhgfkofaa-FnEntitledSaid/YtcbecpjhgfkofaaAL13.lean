/- One operation reckoned: what it gives, what it asks, that this is sound, and on what it hangs. A general part, over any program. -/
import Derived.Test.YtcbecpjhgfkofaaALc
set_option linter.unusedSimpArgs false
set_option linter.unusedVariables false
namespace Go.AL
open Go.RowKit

def slD (σ : St) (t : Ty) (x : Operand) (lo hi : Option Operand) : List t.den :=
  ((σ.tv (.list t) x).take (match hi with | some y => (σ.ti .i64 y).toNat | none => (σ.tv (.list t) x).length)).drop (match lo with | some y => (σ.ti .i64 y).toNat | none => 0)

def slC (σ : St) (t : Ty) (x : Operand) (lo hi : Option Operand) : Prop :=
  σ.tc (.list t) x ∧ (match lo with | some y => σ.tc (.int .i64) y ∧ 0 ≤ σ.ti .i64 y | none => True) ∧ (match hi with | some y => σ.tc (.int .i64) y ∧ 0 ≤ σ.ti .i64 y | none => True) ∧
  (match lo with | some y => σ.ti .i64 y | none => 0) ≤ (match hi with | some y => σ.ti .i64 y | none => ((σ.tv (.list t) x).length : Int)) ∧
  (match hi with | some y => σ.ti .i64 y | none => ((σ.tv (.list t) x).length : Int)) ≤ ((σ.tv (.list t) x).length : Int)

def iaE (σ : St) (t : Ty) (x ix : Operand) : Eff :=
  match σ.un x with
  | .own i => match σ.objs i with
    | .arr _ t' _ => ⟨.ep i t'.size (σ.ti .i64 ix).toNat, []⟩
    | _ => ⟨.ptr t ((σ.tv (.list t) x).getD (σ.ti .i64 ix).toNat t.dflt), []⟩
  | _ => ⟨.ptr t ((σ.tv (.list t) x).getD (σ.ti .i64 ix).toNat t.dflt), []⟩

def iaC (σ : St) (t : Ty) (x ix : Operand) : Prop :=
  match σ.un x with
  | .own i => match σ.objs i with
    | .arr _ t' xs => t' = t ∧ σ.uc x ∧ σ.tc (.int .i64) ix ∧ 0 ≤ σ.ti .i64 ix ∧ σ.ti .i64 ix < (xs.length : Int)
    | _ => σ.tc (.list t) x ∧ σ.tc (.int .i64) ix ∧ 0 ≤ σ.ti .i64 ix ∧ σ.ti .i64 ix < ((σ.tv (.list t) x).length : Int)
  | _ => σ.tc (.list t) x ∧ σ.tc (.int .i64) ix ∧ 0 ≤ σ.ti .i64 ix ∧ σ.ti .i64 ix < ((σ.tv (.list t) x).length : Int)

def lnD (σ : St) (t : Ty) (x : Operand) : Nat :=
  match σ.un x with
  | .own i => match σ.objs i with
    | .arr _ _ xs => xs.length
    | _ => (σ.tv (.list t) x).length
  | _ => (σ.tv (.list t) x).length

def lnC (σ : St) (t : Ty) (x : Operand) : Prop :=
  match σ.un x with
  | .own i => match σ.objs i with
    | .arr _ t' _ => t' = t ∧ σ.uc x
    | _ => σ.tc (.list t) x
  | _ => σ.tc (.list t) x

/-- What an operation other than a call gives. 'id': the number for a new object. -/
noncomputable def peff (tb : Tb) (id : Nat) (σ : St) : Op → Eff
  | .move x => ⟨σ.ev x, []⟩
  | .nilCheck x => ⟨σ.un x, []⟩
  | .assign x => ⟨σ.ev x, []⟩
  | .pick c x y => ⟨.rd .bool (bif σ.tb c then σ.tb x else σ.tb y), []⟩
  | .box T x => ⟨.bp id 0, [(id, .box T (cellsAV (σ.un x)))]⟩
  | .alloc T => ⟨.bp id 0, [(id, .box T (tb.ty T).zeros)]⟩
  | .load T x => match σ.un x with
    | .ptr t y => ⟨.rd t y, []⟩
    | .bp i off => match σ.objs i with
      | .box _ cs => ⟨boxLoad (tb.ty T) cs off, []⟩
      | _ => ⟨.any, []⟩
    | _ => ⟨.any, []⟩
  | .store T x y => match σ.un x with
    | .bp i off => match σ.objs i with
      | .box T' cs => ⟨.any, [(i, .box T' (cs.take off ++ cellsAV (σ.un y) ++ cs.drop (off + (tb.ty T).size)))]⟩
      | _ => ⟨.any, []⟩
    | .ep i _ k => match σ.objs i with
      | .arr e t xs => ⟨.any, [(i, .arr e t (xs.set k (σ.tv t y)))]⟩
      | _ => ⟨.any, []⟩
    | .ef i _ k f => match σ.objs i with
      | .arr e t xs => ⟨.any, [(i, .arr e t (xs.set k (setF t (xs.getD k t.dflt) f (σ.tv (fldT t f) y))))]⟩
      | _ => ⟨.any, []⟩
    | _ => ⟨.any, []⟩
  | .fieldAddr _ x i => match σ.un x with
    | .ptr t y => ⟨.ptr (fldT t i) (fldD t y i), []⟩
    | .bp j off => ⟨.bp j (off + i), []⟩
    | .ep j sz k => ⟨.ef j sz k i, []⟩
    | _ => ⟨.any, []⟩
  | .field _ x i => match σ.un x with
    | .rd t y => ⟨.rd (fldT t i) (fldD t y i), []⟩
    | .agg cs => ⟨cs.getD i .any, []⟩
    | _ => ⟨.any, []⟩
  | .extract x i => match σ.un x with
    | .tup cs => ⟨cs.getD i .any, []⟩
    | _ => ⟨.any, []⟩
  | .indexAddr T x ix => match tb.ty T with
    | .list t => iaE σ t x ix
    | _ => ⟨.any, []⟩
  | .index _ x ix => match σ.un x with
    | .agg cs => ⟨.rd (.int .i64) ((intsOf cs).getD (σ.ti .i64 ix).toNat 0), []⟩
    | _ => ⟨.rd (.int .u8) (((σ.ts x).data.toList.getD (σ.ti .i64 ix).toNat 0).toNat : Int), []⟩
  | .slice T x lo hi none => match tb.ty T with
    | .list t => ⟨.rd (.list t) (slD σ t x lo hi), []⟩
    | _ => ⟨.any, []⟩
  | .build T ps => ⟨.agg (setAll σ ps.toList (tb.ty T).zeros), []⟩
  | .buildSlice T _ ps => match tb.ty T with
    | .list t => ⟨.own id, [(id, .row (tb.el T) t (litD σ t ps.toList))]⟩
    | _ => ⟨.any, []⟩
  | .makeSlice T l _ => match tb.ty T with
    | .list t => ⟨.own id, [(id, .arr (tb.el T) t (List.replicate (σ.ti .i64 l).toNat t.dflt))]⟩
    | _ => ⟨.any, []⟩
  | .makeFunc (.func f) first caps => match first.toList, caps.toList with
    | [], [x] => ⟨.fn f [σ.un x], []⟩
    | _, _ => ⟨.any, []⟩
  | .binOp op T x y T' => match op, tb.ty T with
    | .shl, .int k => match tb.ty T' with
      | .int k' => ⟨bopI .shl k (σ.ti k x) (σ.ti k' y), []⟩
      | _ => ⟨.any, []⟩
    | .shr, .int k => match tb.ty T' with
      | .int k' => ⟨bopI .shr k (σ.ti k x) (σ.ti k' y), []⟩
      | _ => ⟨.any, []⟩
    | op, .int k => ⟨bopI op k (σ.ti k x) (σ.ti k y), []⟩
    | .eql, .bool => ⟨.rd .bool (σ.tb x == σ.tb y), []⟩
    | .neq, .bool => ⟨.rd .bool (σ.tb x != σ.tb y), []⟩
    | .eql, .str => ⟨.rd .bool ((σ.ts x).toList == (σ.ts y).toList), []⟩
    | .neq, .str => ⟨.rd .bool (!((σ.ts x).toList == (σ.ts y).toList)), []⟩
    | .eql, .cons a b => ⟨.rd .bool (eqC (σ.tv (.cons a b) x) (σ.tv (.cons a b) y)), []⟩
    | .neq, .cons a b => ⟨.rd .bool (!eqC (σ.tv (.cons a b) x) (σ.tv (.cons a b) y)), []⟩
    | _, _ => ⟨.any, []⟩
  | .unOp _ _ x => ⟨.rd .bool (!σ.tb x), []⟩
  | .convert S T x => match tb.ty S, tb.ty T with
    | .int k, .int k' => ⟨.rd (.int k') (k'.wrap (σ.ti k x)), []⟩
    | _, _ => ⟨.any, []⟩
  | .call { callee := .builtin .len, args := as, argTypes := ts } => match as.toList, ts.toList with
    | [x], [T] => match tb.ty T with
      | .list t => ⟨.rd (.int .i64) (lnD σ t x : Int), []⟩
      | _ => ⟨.rd (.int .i64) ((σ.ts x).size : Int), []⟩
    | _, _ => ⟨.any, []⟩
  | .call { callee := .builtin .min, args := as, argTypes := _ } => match as.toList with
    | [x, y] => ⟨.rd (.int .i64) (if σ.ti .i64 y < σ.ti .i64 x then σ.ti .i64 y else σ.ti .i64 x), []⟩
    | _ => ⟨.any, []⟩
  | .call { callee := .builtin .max, args := as, argTypes := _ } => match as.toList with
    | [x, y] => ⟨.rd (.int .i64) (if σ.ti .i64 y > σ.ti .i64 x then σ.ti .i64 y else σ.ti .i64 x), []⟩
    | _ => ⟨.any, []⟩
  | .call { callee := .builtin .append, args := as, argTypes := ts } => match as.toList, ts.toList with
    | [s, x], [T, _] => match tb.ty T with
      | .list t => match σ.un s with
        | .own i => ⟨.own id, [(i, .dead), (id, .row (tb.el T) t (rowOf σ.objs i t ++ σ.tv (.list t) x))]⟩
        | .nils => ⟨.own id, [(id, .row (tb.el T) t (σ.tv (.list t) x))]⟩
        | _ => ⟨.any, []⟩
      | _ => ⟨.any, []⟩
    | _, _ => ⟨.any, []⟩
  | _ => ⟨.any, []⟩

/-- What an operation other than a call asks. -/
def pvc (P : Program) (tb : Tb) (id : Nat) (σ : St) (dst : Option Nat) : Op → Prop
  | .move _ => True
  | .assign _ => True
  | .nilCheck x => σ.uc x ∧ match σ.un x with
    | .ptr _ _ => True
    | .bp j _ => (σ.objs j).live = true
    | _ => False
  | .pick c x y => σ.tc .bool c ∧ (σ.tb c = true → σ.tc .bool x) ∧ (σ.tb c = false → σ.tc .bool y)
  | .box T x => σ.uc x ∧ cellsC σ.objs (tb.ty T) (σ.un x) ∧ σ.objs id = .unborn
  | .alloc T => TyOK P (tb.ty T) T ∧ σ.objs id = .unborn
  | .load T x => σ.uc x ∧ match σ.un x with
    | .ptr t _ => TyOK P t T
    | .bp i off => match σ.objs i with
      | .box _ cs => TyOK P (tb.ty T) T ∧ off + (tb.ty T).size ≤ cs.length
      | _ => False
    | _ => False
  | .store T x y => dst = none ∧ σ.uc x ∧ match σ.un x with
    | .bp i off => match σ.objs i with
      | .box _ cs => TyOK P (tb.ty T) T ∧ off + (tb.ty T).size ≤ cs.length ∧ σ.uc y ∧ cellsC σ.objs (tb.ty T) (σ.un y)
      | _ => False
    | .ep i sz k => match σ.objs i with
      | .arr _ t xs => sz = t.size ∧ k < xs.length ∧ TyOK P t T ∧ σ.tc t y
      | _ => False
    | .ef i sz k f => match σ.objs i with
      | .arr e t xs => sz = t.size ∧ k < xs.length ∧ TyOK P t e ∧ f < t.nf ∧ TyOK P (fldT t f) T ∧ σ.tc (fldT t f) y
      | _ => False
    | _ => False
  | .fieldAddr T x i => σ.uc x ∧ TyOK P (tb.ty T) T ∧ i < (tb.ty T).nf ∧ match σ.un x with
    | .ptr t _ => t = tb.ty T
    | .bp j _ => (σ.objs j).live = true
    | .ep j _ _ => (σ.objs j).live = true
    | _ => False
  | .field T x i => σ.uc x ∧ TyOK P (tb.ty T) T ∧ i < (tb.ty T).nf ∧ match σ.un x with
    | .rd t _ => t = tb.ty T
    | .agg cs => i < cs.length
    | _ => False
  | .extract x i => σ.uc x ∧ match σ.un x with
    | .tup cs => i < cs.length
    | _ => False
  | .indexAddr T x ix => TyOK P (tb.ty T) T ∧ match tb.ty T with
    | .list t => iaC σ t x ix
    | _ => False
  | .index T x ix => match σ.un x with
    | .agg cs => σ.uc x ∧ ArrOK P cs.length T ∧ σ.tc (.int .i64) ix ∧ 0 ≤ σ.ti .i64 ix ∧ σ.ti .i64 ix < (cs.length : Int) ∧ intsC cs = true
    | _ => TyOK P .str T ∧ σ.tc .str x ∧ σ.tc (.int .i64) ix ∧ 0 ≤ σ.ti .i64 ix ∧ σ.ti .i64 ix < ((σ.ts x).size : Int)
  | .slice T x lo hi none => TyOK P (tb.ty T) T ∧ match tb.ty T with
    | .list t => slC σ t x lo hi
    | _ => False
  | .build T ps => (TyOK P (tb.ty T) T ∨ (arrTy (tb.ty T).nf = tb.ty T ∧ ArrOK P (tb.ty T).nf T)) ∧ match tb.ty T with
    | .cons h t => (Ty.cons h t).size = (Ty.cons h t).nf ∧ setAllC σ (Ty.cons h t).nf ps.toList
    | _ => False
  | .buildSlice T n ps => TyOK P (tb.ty T) T ∧ ElOK P T (tb.el T) ∧ σ.objs id = .unborn ∧ ps.toList.length = n ∧ match tb.ty T with
    | .list t => litC σ t 0 ps.toList ∧ n * t.size ≤ 16777216
    | _ => False
  | .makeSlice T l c => TyOK P (tb.ty T) T ∧ ElOK P T (tb.el T) ∧ σ.objs id = .unborn ∧ σ.tc (.int .i64) l ∧ σ.tc (.int .i64) c ∧ σ.ti .i64 l = σ.ti .i64 c ∧ 0 ≤ σ.ti .i64 l ∧ σ.ti .i64 l ≤ 274877906944 ∧ match tb.ty T with
    | .list _ => True
    | _ => False
  | .makeFunc (.func _) first caps => match first.toList, caps.toList with
    | [], [x] => σ.uc x
    | _, _ => False
  | .binOp op T x y T' => match op, tb.ty T with
    | .shl, .int k => match tb.ty T' with
      | .int k' => σ.tc (.int k) x ∧ σ.tc (.int k') y ∧ 0 ≤ σ.ti k' y
      | _ => False
    | .shr, .int k => match tb.ty T' with
      | .int k' => σ.tc (.int k) x ∧ σ.tc (.int k') y ∧ 0 ≤ σ.ti k' y
      | _ => False
    | op, .int k => σ.tc (.int k) x ∧ σ.tc (.int k) y ∧ bopC op (σ.ti k y)
    | .eql, .bool => TyOK P .bool T ∧ σ.tc .bool x ∧ σ.tc .bool y
    | .neq, .bool => TyOK P .bool T ∧ σ.tc .bool x ∧ σ.tc .bool y
    | .eql, .str => σ.tc .str x ∧ σ.tc .str y
    | .neq, .str => σ.tc .str x ∧ σ.tc .str y
    | .eql, .cons a b => TyOK P (.cons a b) T ∧ EqSt P T ∧ (Ty.cons a b).basic = true ∧ σ.tc (.cons a b) x ∧ σ.tc (.cons a b) y
    | .neq, .cons a b => TyOK P (.cons a b) T ∧ EqSt P T ∧ (Ty.cons a b).basic = true ∧ σ.tc (.cons a b) x ∧ σ.tc (.cons a b) y
    | _, _ => False
  | .unOp op _ x => op = .not ∧ σ.tc .bool x
  | .convert S T x => match tb.ty S, tb.ty T with
    | .int k, .int k' => TyOK P (.int k) S ∧ TyOK P (.int k') T ∧ σ.tc (.int k) x
    | _, _ => False
  | .call { callee := .builtin .len, args := as, argTypes := ts } => match as.toList, ts.toList with
    | [x], [T] => TyOK P (tb.ty T) T ∧ match tb.ty T with
      | .list t => lnC σ t x
      | .str => σ.tc .str x
      | _ => False
    | _, _ => False
  | .call { callee := .builtin .min, args := as, argTypes := _ } => match as.toList with
    | [x, y] => σ.tc (.int .i64) x ∧ σ.tc (.int .i64) y
    | _ => False
  | .call { callee := .builtin .max, args := as, argTypes := _ } => match as.toList with
    | [x, y] => σ.tc (.int .i64) x ∧ σ.tc (.int .i64) y
    | _ => False
  | .call { callee := .builtin .append, args := as, argTypes := ts } => match as.toList, ts.toList with
    | [s, x], [T, T2] => T2 = T ∧ TyOK P (tb.ty T) T ∧ ElOK P T (tb.el T) ∧ σ.objs id = .unborn ∧ match tb.ty T with
      | .list t => σ.uc s ∧ σ.tc (.list t) x ∧ match σ.un s with
        | .own i => match σ.objs i with
          | .row e t' xs => e = tb.el T ∧ t' = t ∧ xs.length + (σ.tv (.list t) x).length ≤ 274877906944
          | _ => False
        | .nils => (σ.tv (.list t) x).length ≤ 274877906944
        | _ => False
      | _ => False
    | _, _ => False
  | _ => False

theorem arr1 {α : Type} {as : Array α} {l : List α} (h : as.toList = l) : as = l.toArray := by rw [← h]

section
variable {P : Program} {cx : Cx} {σ : St} {o : Oper} {tb : Tb} {id : Nat}

theorem op_makeFunc {f : FuncId} {x : Operand} (hd : ∀ k, o.dst = some k → k < cx.N) (ho : o.op = .makeFunc (.func f) #[] #[x]) (hc : σ.uc x) : OpOK P cx σ o ⟨.fn f [σ.un x], []⟩ :=
  OpOK.of_value hd fun a w lim G hh hf => by
    refine ⟨.func (.func f) #[] #[a.eval x], ?_, ?_⟩
    · simp [execOp, ho, Instr.makeFunc]
    · simp only [AVok, AVsOk]
      exact ⟨[a.eval x], rfl, _, _, rfl, un_ok hf x hc, rfl⟩

theorem op_nilCheck {x : Operand} (hd : ∀ k, o.dst = some k → k < cx.N) (ho : o.op = .nilCheck x) (hc : σ.uc x) (h : match σ.un x with
    | .ptr _ _ => True
    | .bp j _ => (σ.objs j).live = true
    | _ => False) : OpOK P cx σ o ⟨σ.un x, []⟩ :=
  OpOK.of_value hd fun a w lim G hh hf => by
    have hv := un_ok hf x hc
    have hp : ∃ ad, a.eval x = .pointer (some ad) := by
      cases hu : σ.un x <;> rw [hu] at h hv <;> simp only at h
      · simp only [AVok] at hv
        obtain ⟨ad, _, h1, _⟩ := hv
        exact ⟨ad, h1⟩
      · simp only [AVok] at hv
        obtain ⟨g, _, h1⟩ := hv.2 h
        exact ⟨_, h1⟩
    obtain ⟨ad, he⟩ := hp
    exact ⟨a.eval x, by simp [execOp, ho, he], hv⟩

theorem pure_sound (hd : ∀ k, o.dst = some k → k < cx.N) {op : Op} (ho : o.op = op) (h : pvc P tb id σ o.dst op) : OpOK P cx σ o (peff tb id σ op) := by
  cases op with
  | move x => exact op_move hd ho
  | nilCheck x => simp only [pvc] at h; exact op_nilCheck hd ho h.1 h.2
  | assign x => exact op_assign hd ho
  | pick c x y => exact op_pick hd ho h.1 h.2.1 h.2.2
  | box T x => exact op_box hd ho h.1 h.2.1 h.2.2
  | alloc T => exact op_alloc hd ho h.1 h.2
  | load T x =>
    simp only [pvc] at h
    obtain ⟨h1, h2⟩ := h
    simp only [peff]
    cases hx : σ.un x with
    | ptr t y => rw [hx] at h2; exact op_load_ptr hd ho h1 hx h2
    | bp i off =>
      rw [hx] at h2
      simp only at h2
      cases hb : σ.objs i with
      | box T' cs => rw [hb] at h2; simp only [hb]; exact op_load_box hd ho h1 hx hb h2.1 h2.2
      | _ => rw [hb] at h2; exact h2.elim
    | _ => rw [hx] at h2; exact h2.elim
  | store T x y =>
    simp only [pvc] at h
    obtain ⟨h0, h1, h2⟩ := h
    simp only [peff]
    cases hx : σ.un x with
    | bp i off =>
      rw [hx] at h2
      simp only at h2
      cases hb : σ.objs i with
      | box T' cs => rw [hb] at h2; simp only [hb]; exact op_store_box ho h0 h1 hx hb h2.1 h2.2.1 h2.2.2.1 h2.2.2.2
      | _ => rw [hb] at h2; exact h2.elim
    | ep i sz k =>
      rw [hx] at h2
      simp only at h2
      cases hb : σ.objs i with
      | arr e t xs =>
        rw [hb] at h2
        simp only [hb]
        obtain ⟨k1, k2, k3, k4⟩ := h2
        subst k1
        exact op_store_arr ho h0 h1 hx hb k2 k3 k4
      | _ => rw [hb] at h2; exact h2.elim
    | ef i sz k f =>
      rw [hx] at h2
      simp only at h2
      cases hb : σ.objs i with
      | arr e t xs =>
        rw [hb] at h2
        simp only [hb]
        obtain ⟨k1, k2, k3, k4, k5, k6⟩ := h2
        subst k1
        exact op_store_ef ho h0 h1 hx hb k2 k3 k4 k5 k6
      | _ => rw [hb] at h2; exact h2.elim
    | _ => rw [hx] at h2; exact h2.elim
  | fieldAddr T x i =>
    simp only [pvc] at h
    obtain ⟨h0, h1, h2, h3⟩ := h
    simp only [peff]
    cases hx : σ.un x with
    | ptr t y => rw [hx] at h3; simp only at h3; subst h3; exact op_fa_ptr hd ho h0 hx h1 h2
    | bp j off => rw [hx] at h3; exact op_fa_box hd ho h0 hx h3 h1 h2
    | ep j sz k => rw [hx] at h3; exact op_fa_ep hd ho h0 hx h3 h1 h2
    | _ => rw [hx] at h3; exact h3.elim
  | field T x i =>
    simp only [pvc] at h
    obtain ⟨h0, h1, h2, h3⟩ := h
    simp only [peff]
    cases hx : σ.un x with
    | rd t y => rw [hx] at h3; simp only at h3; subst h3; exact op_field_rd hd ho h0 hx h1 h2
    | agg cs => rw [hx] at h3; exact op_field_agg hd ho h0 hx h1 h2 h3
    | _ => rw [hx] at h3; exact h3.elim
  | extract x i =>
    simp only [pvc] at h
    obtain ⟨h0, h3⟩ := h
    simp only [peff]
    cases hx : σ.un x with
    | tup cs => rw [hx] at h3; exact op_extract hd ho h0 hx h3
    | _ => rw [hx] at h3; exact h3.elim
  | indexAddr T x ix =>
    simp only [pvc] at h
    obtain ⟨h0, h1⟩ := h
    simp only [peff]
    cases ht : tb.ty T with
    | list t =>
      rw [ht] at h0 h1
      simp only [iaC] at h1
      simp only [iaE]
      cases hx : σ.un x with
      | own i =>
        rw [hx] at h1
        simp only at h1 ⊢
        cases hb : σ.objs i with
        | arr e t' xs =>
          rw [hb] at h1
          obtain ⟨k0, k1, k2, k3, k4⟩ := h1
          subst k0
          exact op_ia_arr hd ho k1 hx hb k2 h0 k3 k4
        | _ => rw [hb] at h1; exact op_ia hd ho h1.1 h1.2.1 h0 h1.2.2.1 h1.2.2.2
      | _ => rw [hx] at h1; exact op_ia hd ho h1.1 h1.2.1 h0 h1.2.2.1 h1.2.2.2
    | _ => rw [ht] at h1; exact h1.elim
  | index T x ix =>
    simp only [pvc] at h
    simp only [peff]
    cases hx : σ.un x with
    | agg cs => rw [hx] at h; exact op_index_arr hd ho h.1 hx h.2.1 h.2.2.1 h.2.2.2.1 h.2.2.2.2.1 h.2.2.2.2.2
    | _ => rw [hx] at h; exact op_index_str hd ho h.2.1 h.2.2.1 h.1 h.2.2.2.1 h.2.2.2.2
  | slice T x lo hi mx =>
    cases mx with
    | some _ => exact h.elim
    | none =>
      simp only [pvc] at h
      obtain ⟨h0, h1⟩ := h
      simp only [peff]
      cases ht : tb.ty T with
      | list t =>
        rw [ht] at h0 h1
        simp only [slC] at h1
        obtain ⟨c0, c1, c2, c3, c4⟩ := h1
        simp only [slD]
        cases lo with
        | none => cases hi with
          | none => exact op_slice hd 0 _ ho c0 h0 rfl rfl (Nat.zero_le _) (Nat.le_refl _)
          | some y =>
            simp only at c2 c3 c4 ⊢
            exact op_slice hd 0 _ ho c0 h0 rfl ⟨c2.1, (Int.toNat_of_nonneg c2.2).symm⟩ (Nat.zero_le _) (by omega)
        | some z => cases hi with
          | none =>
            simp only at c1 c3 c4 ⊢
            exact op_slice hd _ _ ho c0 h0 ⟨c1.1, (Int.toNat_of_nonneg c1.2).symm⟩ rfl (by omega) (Nat.le_refl _)
          | some y =>
            simp only at c1 c2 c3 c4 ⊢
            exact op_slice hd _ _ ho c0 h0 ⟨c1.1, (Int.toNat_of_nonneg c1.2).symm⟩ ⟨c2.1, (Int.toNat_of_nonneg c2.2).symm⟩ (by omega) (by omega)
      | _ => rw [ht] at h1; exact h1.elim
  | build T ps =>
    simp only [pvc] at h
    obtain ⟨h0, h1⟩ := h
    simp only [peff]
    cases ht : tb.ty T with
    | cons a b =>
      rw [ht] at h0 h1
      have ho' : o.op = .build T ps.toList.toArray := by rw [ho]
      rcases h0 with h0 | ⟨h2, h0⟩
      · exact op_build hd ho' h0 h1.1 h1.2
      · have := op_build_arr hd ho' h0 h1.2
        rw [h2] at this
        exact this
    | _ => rw [ht] at h1; exact h1.elim
  | buildSlice T n ps =>
    simp only [pvc] at h
    obtain ⟨h0, h1, h2, h3, h4⟩ := h
    simp only [peff]
    cases ht : tb.ty T with
    | list t =>
      rw [ht] at h0 h4
      have ho' : o.op = .buildSlice T n ps.toList.toArray := by rw [ho]
      exact op_lit hd ho' h0 h1 h4.1 h3 h4.2 h2
    | _ => rw [ht] at h4; exact h4.elim
  | makeSlice T l c =>
    simp only [pvc] at h
    obtain ⟨h0, h1, h2, h3, h4, h5, h6, h7, h8⟩ := h
    simp only [peff]
    cases ht : tb.ty T with
    | list t =>
      rw [ht] at h0
      exact op_make hd ho h0 h1 h3 h4 (Int.toNat_of_nonneg h6).symm (h5 ▸ (Int.toNat_of_nonneg h6).symm) (by omega) h2
    | _ => rw [ht] at h8; exact h8.elim
  | binOp op T x y T' =>
    simp only [pvc] at h
    simp only [peff]
    cases ht : tb.ty T with
    | int k =>
      rw [ht] at h
      by_cases hs : op = .shl
      · subst hs
        simp only at h ⊢
        cases ht' : tb.ty T' with
        | int k' => rw [ht'] at h; exact op_shl hd ho h.1 h.2.1 h.2.2
        | _ => rw [ht'] at h; exact h.elim
      · by_cases hs2 : op = .shr
        · subst hs2
          simp only at h ⊢
          cases ht' : tb.ty T' with
          | int k' => rw [ht'] at h; exact op_shr hd ho h.1 h.2.1 h.2.2
          | _ => rw [ht'] at h; exact h.elim
        · cases op <;> first | exact absurd rfl hs | exact absurd rfl hs2 | exact op_bin_int hd ho h.1 h.2.1 h.2.2 hs hs2
    | bool =>
      rw [ht] at h
      cases op <;> simp only at h <;> first | exact h.elim | exact op_bin_bool hd ho h.1 h.2.1 h.2.2 (.inl rfl) | exact op_bin_bool hd ho h.1 h.2.1 h.2.2 (.inr rfl)
    | str =>
      rw [ht] at h
      cases op <;> simp only at h <;> first | exact h.elim | exact op_bin_str hd ho h.1 h.2 (.inl rfl) | exact op_bin_str hd ho h.1 h.2 (.inr rfl)
    | cons a b =>
      rw [ht] at h
      cases op <;> simp only at h <;> first | exact h.elim | exact op_bin_st hd ho h.1 h.2.1 h.2.2.1 h.2.2.2.1 h.2.2.2.2 _ (.inl ⟨rfl, rfl⟩) | exact op_bin_st hd ho h.1 h.2.1 h.2.2.1 h.2.2.2.1 h.2.2.2.2 _ (.inr ⟨rfl, rfl⟩)
    | _ => rw [ht] at h; cases op <;> exact h.elim
  | unOp op T x =>
    simp only [pvc] at h
    obtain ⟨h1, h2⟩ := h
    subst h1
    exact op_not hd ho h2
  | convert S T x =>
    simp only [pvc] at h
    simp only [peff]
    cases hs : tb.ty S with
    | int k =>
      cases ht : tb.ty T with
      | int k' => rw [hs, ht] at h; exact op_conv hd ho h.1 h.2.1 h.2.2
      | _ => rw [hs, ht] at h; exact h.elim
    | _ => rw [hs] at h; simp only at h
  | call c =>
    obtain ⟨callee, as, ts⟩ := c
    cases callee with
    | builtin b =>
      cases b with
      | len =>
        simp only [pvc] at h
        simp only [peff]
        cases ha : as.toList with
        | nil => rw [ha] at h; exact h.elim
        | cons x r =>
          cases r with
          | cons _ _ => rw [ha] at h; exact h.elim
          | nil =>
            cases hts : ts.toList with
            | nil => rw [ha, hts] at h; exact h.elim
            | cons T r2 =>
              cases r2 with
              | cons _ _ => rw [ha, hts] at h; exact h.elim
              | nil =>
                rw [ha, hts] at h
                simp only at h ⊢
                rw [arr1 ha, arr1 hts] at ho
                cases ht : tb.ty T with
                | list t =>
                  rw [ht] at h
                  obtain ⟨h1, h2⟩ := h
                  simp only [lnC] at h2
                  simp only [lnD]
                  cases hx : σ.un x with
                  | own i =>
                    rw [hx] at h2
                    simp only at h2 ⊢
                    cases hb : σ.objs i with
                    | arr e t' xs =>
                      rw [hb] at h2
                      obtain ⟨k1, k2⟩ := h2
                      subst k1
                      exact op_len_arr hd ho h1 k2 hx hb
                    | _ => rw [hb] at h2; exact op_len hd ho h1 h2
                  | _ => rw [hx] at h2; exact op_len hd ho h1 h2
                | str => rw [ht] at h; exact op_len_str hd ho h.1 h.2
                | _ => rw [ht] at h; exact h.2.elim
      | min =>
        simp only [pvc] at h
        simp only [peff]
        cases ha : as.toList with
        | nil => rw [ha] at h; exact h.elim
        | cons x r =>
          cases r with
          | nil => rw [ha] at h; exact h.elim
          | cons y r2 =>
            cases r2 with
            | cons _ _ => rw [ha] at h; exact h.elim
            | nil => rw [ha] at h; rw [arr1 ha] at ho; exact op_min hd ho h.1 h.2
      | max =>
        simp only [pvc] at h
        simp only [peff]
        cases ha : as.toList with
        | nil => rw [ha] at h; exact h.elim
        | cons x r =>
          cases r with
          | nil => rw [ha] at h; exact h.elim
          | cons y r2 =>
            cases r2 with
            | cons _ _ => rw [ha] at h; exact h.elim
            | nil => rw [ha] at h; rw [arr1 ha] at ho; exact op_max hd ho h.1 h.2
      | append =>
        simp only [pvc] at h
        simp only [peff]
        cases ha : as.toList with
        | nil => rw [ha] at h; exact h.elim
        | cons s r =>
          cases r with
          | nil => rw [ha] at h; exact h.elim
          | cons x r2 =>
            cases r2 with
            | cons _ _ => rw [ha] at h; exact h.elim
            | nil =>
              cases hts : ts.toList with
              | nil => rw [ha, hts] at h; exact h.elim
              | cons T q =>
                cases q with
                | nil => rw [ha, hts] at h; exact h.elim
                | cons T2 q2 =>
                  cases q2 with
                  | cons _ _ => rw [ha, hts] at h; exact h.elim
                  | nil =>
                    rw [ha, hts] at h
                    simp only at h ⊢
                    rw [arr1 ha, arr1 hts] at ho
                    obtain ⟨e1, h1, h2, h3, h4⟩ := h
                    subst e1
                    cases ht : tb.ty T2 with
                    | list t =>
                      rw [ht] at h1 h4
                      simp only at h4 ⊢
                      obtain ⟨k1, k2, k3⟩ := h4
                      cases hs : σ.un s with
                      | own i =>
                        rw [hs] at k3
                        simp only at k3 ⊢
                        cases hb : σ.objs i with
                        | row e t' xs =>
                          rw [hb] at k3
                          obtain ⟨q1, q2, q3⟩ := k3
                          subst q2
                          subst q1
                          have hr : rowOf σ.objs i t' = xs := by unfold rowOf; rw [hb]; exact castTo_self _ _
                          rw [hr]
                          exact op_app hd ho h1 h2 k1 hs hb k2 h3 q3
                        | _ => rw [hb] at k3; exact k3.elim
                      | nils =>
                        rw [hs] at k3
                        exact op_app_nil hd ho h1 h2 k1 hs k2 h3 k3
                      | _ => rw [hs] at k3; exact k3.elim
                    | _ => rw [ht] at h4; exact h4.elim
      | _ => exact h.elim
    | _ => exact h.elim
  | makeFunc fn first caps =>
    cases fn with
    | func f =>
      simp only [pvc] at h
      simp only [peff]
      cases h1 : first.toList with
      | cons _ _ => rw [h1] at h; exact h.elim
      | nil =>
        cases h2 : caps.toList with
        | nil => rw [h1, h2] at h; exact h.elim
        | cons x r =>
          cases r with
          | cons _ _ => rw [h1, h2] at h; exact h.elim
          | nil =>
            rw [h1, h2] at h
            rw [arr1 h1, arr1 h2] at ho
            exact op_makeFunc hd ho h
    | _ => exact h.elim
  | _ => exact h.elim

end
end Go.AL
