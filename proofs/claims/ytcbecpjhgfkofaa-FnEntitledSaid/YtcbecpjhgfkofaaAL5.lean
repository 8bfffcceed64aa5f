/- Operations that only compute, each with its soundness. A general part, over any program. -/
import Derived.Test.YtcbecpjhgfkofaaAL4
set_option linter.unusedSimpArgs false
set_option linter.unusedVariables false
namespace Go.AL
open Go.RowKit

/-! ### What an operation gives ('pv') and what it asks ('pc') -/

def St.un (σ : St) (x : Operand) : AV := (σ.ev x).un
def St.uc (σ : St) (x : Operand) : Prop := (σ.ev x).uc
def St.tv (σ : St) (t : Ty) (x : Operand) : t.den := tvd σ.objs t (σ.un x)
def St.tc (σ : St) (t : Ty) (x : Operand) : Prop := σ.uc x ∧ tvc σ.objs t (σ.un x)

def St.ti (σ : St) (k : IntKind) (x : Operand) : Int := σ.tv (.int k) x
def St.tb (σ : St) (x : Operand) : Bool := σ.tv .bool x
def St.ts (σ : St) (x : Operand) : ByteArray := σ.tv .str x

def fldT : Ty → Nat → Ty
  | .cons h _, 0 => h
  | .cons _ t, i + 1 => fldT t i
  | t, _ => t

def fldD : (t : Ty) → t.den → (i : Nat) → (fldT t i).den
  | .cons _ _, x, 0 => x.1
  | .cons _ t, x, i + 1 => fldD t x.2 i
  | .int _, x, _ => x
  | .bool, x, _ => x
  | .str, x, _ => x
  | .list _, x, _ => x
  | .nil, x, _ => x

def Ty.nf : Ty → Nat
  | .cons _ t => t.nf + 1
  | _ => 0

def bitI (op : BinOp) (k : IntKind) (x y : Int) : Int :=
  match op with
  | .and => k.wrap (BitVec.ofInt k.bits x &&& BitVec.ofInt k.bits y).toNat
  | .or => k.wrap (BitVec.ofInt k.bits x ||| BitVec.ofInt k.bits y).toNat
  | _ => k.wrap (BitVec.ofInt k.bits x ^^^ BitVec.ofInt k.bits y).toNat
theorem fdiv_in {k : IntKind} {x : Int} (n : Nat) (h : k.min ≤ x ∧ x ≤ k.max) : k.min ≤ x.fdiv (2 ^ n) ∧ x.fdiv (2 ^ n) ≤ k.max := by
  have h0 : k.min ≤ 0 ∧ 0 ≤ k.max := by cases k <;> simp [IntKind.min, IntKind.max, IntKind.signed, IntKind.bits]
  have hp : (0 : Int) < 2 ^ n := Int.pow_pos (by decide)
  rw [Int.fdiv_eq_ediv_of_nonneg _ (Int.le_of_lt hp)]
  rcases Int.le_total 0 x with hx | hx
  · have h1 : 0 ≤ x / 2 ^ n := Int.ediv_nonneg hx (Int.le_of_lt hp)
    have h2 : x / 2 ^ n ≤ x := Int.ediv_le_self _ hx
    omega
  · have h1 : x ≤ x / 2 ^ n := (Int.le_ediv_iff_mul_le hp).2 (by
      have h9 := Int.mul_le_mul_of_nonpos_left hx (show (1 : Int) ≤ 2 ^ n from hp)
      omega)
    have h2 : x / 2 ^ n < 1 := (Int.ediv_lt_iff_lt_mul hp).2 (by omega)
    omega
def bopI (op : BinOp) (k : IntKind) (x y : Int) : AV :=
  match op with
  | .add => .rd (.int k) (k.wrap (x + y))
  | .sub => .rd (.int k) (k.wrap (x - y))
  | .mul => .rd (.int k) (k.wrap (x * y))
  | .quo => .rd (.int k) (k.wrap (x.tdiv y))
  | .rem => .rd (.int k) (x.tmod y)
  | .eql => .rd .bool (x == y)
  | .neq => .rd .bool (x != y)
  | .lss => .rd .bool (decide (x < y))
  | .leq => .rd .bool (decide (x ≤ y))
  | .gtr => .rd .bool (decide (x > y))
  | .geq => .rd .bool (decide (x ≥ y))
  | .shl => .rd (.int k) (k.wrap (x * 2 ^ (min y.toNat k.bits)))
  | .shr => .rd (.int k) (x.fdiv (2 ^ (min y.toNat k.bits)))
  | .and => .rd (.int k) (bitI .and k x y)
  | .or => .rd (.int k) (bitI .or k x y)
  | .xor => .rd (.int k) (bitI .xor k x y)
  | _ => .any

def bopC (op : BinOp) (y : Int) : Prop :=
  match op with
  | .add | .sub | .mul | .eql | .neq | .lss | .leq | .gtr | .geq | .and | .or | .xor => True
  | .quo | .rem => y ≠ 0
  | .shl => 0 ≤ y
  | .shr => 0 ≤ y
  | _ => False

section
variable {P : Program} {cx : Cx} {σ : St}

theorem un_ok {a : Act} {w : World} {lim : Nat → Nat} {G : Nat → Value} (hf : Fr cx σ a w lim G) (x : Operand) (hc : σ.uc x) : AVok w lim G σ.objs (σ.un x) (a.eval x) :=
  (ev_ok hf x).un hc

theorem tc_ok {a : Act} {w : World} {lim : Nat → Nat} {G : Nat → Value} (hh : Hp cx σ.objs w lim G) (hf : Fr cx σ a w lim G) {t : Ty} {x : Operand} (hc : σ.tc t x) : RdV w lim t (a.eval x) (σ.tv t x) :=
  tv_ok hh.obj t _ _ hc.2 (un_ok hf x hc.1)

theorem RdV.int {w : World} {lim : Nat → Nat} {k : IntKind} {v : Value} {n : Int} (h : RdV w lim (.int k) v n) : v = .int k n ∧ k.min ≤ n ∧ n ≤ k.max := by
  obtain ⟨cs, ⟨h1, h2⟩, h3⟩ := h
  subst h1
  exact ⟨h3, h2⟩
theorem RdV.bool {w : World} {lim : Nat → Nat} {v : Value} {b : Bool} (h : RdV w lim .bool v b) : v = .bool b := by
  obtain ⟨cs, h1, h3⟩ := h
  have h1 : cs = [.bool b] := h1
  subst h1
  exact h3
theorem RdV.str {w : World} {lim : Nat → Nat} {v : Value} {s : ByteArray} (h : RdV w lim .str v s) : v = .string s ∧ s.size ≤ maxLen := by
  obtain ⟨cs, ⟨h1, h2⟩, h3⟩ := h
  subst h1
  exact ⟨h3, h2⟩
theorem RdV.mk_int {w : World} {lim : Nat → Nat} {k : IntKind} {n : Int} (h : k.min ≤ n ∧ n ≤ k.max) : RdV w lim (.int k) (.int k n) n := ⟨[.int k n], ⟨rfl, h⟩, rfl⟩
theorem RdV.mk_bool {w : World} {lim : Nat → Nat} {b : Bool} : RdV w lim .bool (.bool b) b := ⟨[.bool b], rfl, rfl⟩
theorem RdV.list {w : World} {lim : Nat → Nat} {t : Ty} {v : Value} {xs : List t.den} (h : RdV w lim (.list t) v xs) :
    ∃ A cap, v = .slice A xs.length cap ∧ xs.length ≤ cap ∧ cap ≤ maxLen ∧ ∀ i (h : i < xs.length), ∃ a ds, A = some a ∧ At w lim (a.add (i * t.size)) ds ∧ ds.length = t.size ∧ Rd w lim t ds xs[i] := by
  obtain ⟨cs, ⟨A, cap, h1, h2⟩, h3⟩ := h
  subst h1
  exact ⟨A, cap, h3, h2⟩

theorem tc_int {a : Act} {w : World} {lim : Nat → Nat} {G : Nat → Value} (hh : Hp cx σ.objs w lim G) (hf : Fr cx σ a w lim G) {k : IntKind} {x : Operand} (hc : σ.tc (.int k) x) : a.eval x = .int k (σ.ti k x) ∧ k.min ≤ σ.ti k x ∧ σ.ti k x ≤ k.max :=
  (tc_ok hh hf hc).int
theorem tc_bool {a : Act} {w : World} {lim : Nat → Nat} {G : Nat → Value} (hh : Hp cx σ.objs w lim G) (hf : Fr cx σ a w lim G) {x : Operand} (hc : σ.tc .bool x) : a.eval x = .bool (σ.tb x) :=
  (tc_ok hh hf hc).bool
theorem tc_str {a : Act} {w : World} {lim : Nat → Nat} {G : Nat → Value} (hh : Hp cx σ.objs w lim G) (hf : Fr cx σ a w lim G) {x : Operand} (hc : σ.tc .str x) : a.eval x = .string (σ.ts x) ∧ (σ.ts x).size ≤ maxLen :=
  (tc_ok hh hf hc).str

variable {o : Oper} (hd : ∀ k, o.dst = some k → k < cx.N)
include hd

theorem op_move {x : Operand} (ho : o.op = .move x) : OpOK P cx σ o ⟨σ.ev x, []⟩ :=
  OpOK.of_value hd fun a w lim G _ hf => ⟨a.eval x, by simp [execOp, ho], ev_ok hf x⟩

theorem op_assign {x : Operand} (ho : o.op = .assign x) : OpOK P cx σ o ⟨σ.ev x, []⟩ :=
  OpOK.of_value hd fun a w lim G _ hf => ⟨a.eval x, by simp [execOp, ho], ev_ok hf x⟩

theorem op_pick {c x y : Operand} (ho : o.op = .pick c x y) (hc : σ.tc .bool c) (hx : σ.tb c = true → σ.tc .bool x) (hy : σ.tb c = false → σ.tc .bool y) :
    OpOK P cx σ o ⟨.rd .bool (bif σ.tb c then σ.tb x else σ.tb y), []⟩ :=
  OpOK.of_value hd fun a w lim G hh hf => by
    have h1 := (tc_bool hh hf hc)
    refine ⟨if σ.tb c = true then a.eval x else a.eval y, by simp [execOp, ho, h1, asBool], ?_⟩
    simp only [AVok]
    cases hb : σ.tb c with
    | true => simp only [cond_true, if_true]; exact tc_ok hh hf (hx hb)
    | false => simp only [cond_false, Bool.false_eq_true, if_false]; exact tc_ok hh hf (hy hb)

theorem op_bin_int {op : BinOp} {T : TypeId} {x y : Operand} {T' : TypeId} {k : IntKind} (ho : o.op = .binOp op T x y T') (hx : σ.tc (.int k) x) (hy : σ.tc (.int k) y) (hc : bopC op (σ.ti k y)) (hs : op ≠ .shl) (hs2 : op ≠ .shr) :
    OpOK P cx σ o ⟨bopI op k (σ.ti k x) (σ.ti k y), []⟩ :=
  OpOK.of_value hd fun a w lim G hh hf => by
    obtain ⟨h1, r1⟩ := (tc_int hh hf hx)
    obtain ⟨h2, r2⟩ := (tc_int hh hf hy)
    generalize σ.ti k x = m at *
    generalize σ.ti k y = n at *
    simp only [execOp, ho, h1, h2]
    cases op <;> simp only [bopC] at hc <;> simp [eqGuard, binOp, Op.intArith, Op.intDiv, Op.intCmp, Op.intBits, bopI, bitI, hc, AVok] <;>
      first
        | exact RdV.mk_bool
        | exact RdV.mk_int (wrap_in _ _)
        | exact RdV.mk_int (tmod_in _ _ _ r1)
        | exact absurd rfl hs
        | exact absurd rfl hs2

theorem op_shl {T : TypeId} {x y : Operand} {T' : TypeId} {k k' : IntKind} (ho : o.op = .binOp .shl T x y T') (hx : σ.tc (.int k) x) (hy : σ.tc (.int k') y) (hc : 0 ≤ σ.ti k' y) :
    OpOK P cx σ o ⟨bopI .shl k (σ.ti k x) (σ.ti k' y), []⟩ :=
  OpOK.of_value hd fun a w lim G hh hf => by
    obtain ⟨h1, r1⟩ := (tc_int hh hf hx)
    obtain ⟨h2, r2⟩ := (tc_int hh hf hy)
    have hn : ¬ σ.ti k' y < 0 := Int.not_lt.mpr hc
    refine ⟨.int k (k.wrap (σ.ti k x * 2 ^ (min (σ.ti k' y).toNat k.bits))), ?_, ?_⟩
    · simp [execOp, ho, h1, h2, eqGuard, binOp, Op.shift, hn]
    · simp only [bopI, AVok]
      exact RdV.mk_int (wrap_in _ _)

theorem op_shr {T : TypeId} {x y : Operand} {T' : TypeId} {k k' : IntKind} (ho : o.op = .binOp .shr T x y T') (hx : σ.tc (.int k) x) (hy : σ.tc (.int k') y) (hc : 0 ≤ σ.ti k' y) :
    OpOK P cx σ o ⟨bopI .shr k (σ.ti k x) (σ.ti k' y), []⟩ :=
  OpOK.of_value hd fun a w lim G hh hf => by
    obtain ⟨h1, r1⟩ := (tc_int hh hf hx)
    obtain ⟨h2, r2⟩ := (tc_int hh hf hy)
    have hn : ¬ σ.ti k' y < 0 := Int.not_lt.mpr hc
    refine ⟨.int k ((σ.ti k x).fdiv (2 ^ (min (σ.ti k' y).toNat k.bits))), ?_, ?_⟩
    · simp [execOp, ho, h1, h2, eqGuard, binOp, Op.shift, hn]
    · simp only [bopI, AVok]
      exact RdV.mk_int (fdiv_in _ r1)

theorem op_bin_bool {op : BinOp} {T : TypeId} {x y : Operand} {T' : TypeId} (ho : o.op = .binOp op T x y T') (hT : TyOK P .bool T) (hx : σ.tc .bool x) (hy : σ.tc .bool y) (hs : op = .eql ∨ op = .neq) :
    OpOK P cx σ o ⟨.rd .bool (match op with | .eql => σ.tb x == σ.tb y | _ => σ.tb x != σ.tb y), []⟩ :=
  OpOK.of_value hd fun a w lim G hh hf => by
    have h1 := (tc_bool hh hf hx)
    have h2 := (tc_bool hh hf hy)
    simp only [TyOK] at hT
    have he0 : ∀ (d : Nat) (x y : Bool), (Op.equalIn (d + 1) T (.bool x) (.bool y)).run P w = .ok (x == y) w := fun d x y => by
      simp [Op.equalIn, run_underlying hT.1]
    have he : (Op.equal T (.bool (σ.tb x)) (.bool (σ.tb y))).run P w = .ok (σ.tb x == σ.tb y) w := he0 9999 _ _
    refine ⟨.bool (match op with | .eql => σ.tb x == σ.tb y | _ => σ.tb x != σ.tb y), ?_, ?_⟩
    · rcases hs with rfl | rfl <;> simp [execOp, ho, h1, h2, eqGuard, binOp, he] <;> first | rfl | (cases σ.tb x <;> cases σ.tb y <;> rfl)
    · simp only [AVok]; exact RdV.mk_bool

theorem op_bin_str {op : BinOp} {T : TypeId} {x y : Operand} {T' : TypeId} (ho : o.op = .binOp op T x y T') (hx : σ.tc .str x) (hy : σ.tc .str y) (hs : op = .eql ∨ op = .neq) :
    OpOK P cx σ o ⟨.rd .bool (match op with | .eql => (σ.ts x).toList == (σ.ts y).toList | _ => !((σ.ts x).toList == (σ.ts y).toList)), []⟩ :=
  OpOK.of_value hd fun a w lim G hh hf => by
    have h1 := (tc_str hh hf hx).1
    have h2 := (tc_str hh hf hy).1
    refine ⟨.bool (match op with | .eql => (σ.ts x).toList == (σ.ts y).toList | _ => !((σ.ts x).toList == (σ.ts y).toList)), ?_, ?_⟩
    · rcases hs with rfl | rfl <;> simp [execOp, ho, h1, h2, eqGuard, binOp, Op.stringOp]
    · simp only [AVok]; exact RdV.mk_bool

theorem op_not {T : TypeId} {x : Operand} (ho : o.op = .unOp .not T x) (hx : σ.tc .bool x) : OpOK P cx σ o ⟨.rd .bool (!σ.tb x), []⟩ :=
  OpOK.of_value hd fun a w lim G hh hf => by
    have h1 := (tc_bool hh hf hx)
    refine ⟨.bool (!σ.tb x), by simp [execOp, ho, h1, Op.unary], ?_⟩
    simp only [AVok]; exact RdV.mk_bool

theorem op_conv {S T : TypeId} {x : Operand} {k k' : IntKind} (ho : o.op = .convert S T x) (hS : TyOK P (.int k) S) (hT : TyOK P (.int k') T) (hx : σ.tc (.int k) x) :
    OpOK P cx σ o ⟨.rd (.int k') (k'.wrap (σ.ti k x)), []⟩ :=
  OpOK.of_value hd fun a w lim G hh hf => by
    have h1 := (tc_int hh hf hx).1
    simp only [TyOK] at hS hT
    refine ⟨.int k' (k'.wrap (σ.ti k x)), ?_, ?_⟩
    · simp [execOp, ho, h1, convert, run_underlying hS.1, run_underlying hT.1, Conv.intToInt]
    · simp only [AVok]; exact RdV.mk_int (wrap_in _ _)

theorem op_len {x : Operand} {T : TypeId} {t : Ty} (ho : o.op = .call { callee := .builtin .len, args := #[x], argTypes := #[T] }) (hT : TyOK P (.list t) T) (hx : σ.tc (.list t) x) :
    OpOK P cx σ o ⟨.rd (.int .i64) ((σ.tv (.list t) x).length : Int), []⟩ :=
  OpOK.of_value hd fun a w lim G hh hf => by
    obtain ⟨A, cap, h1, h2, h3, _⟩ := (tc_ok hh hf hx).list
    simp only [TyOK] at hT
    obtain ⟨e, hT, _⟩ := hT
    refine ⟨goInt ((σ.tv (.list t) x).length : Int), ?_, ?_⟩
    · simp [execOp, ho, h1, resolve, invoke, builtin, Builtin.len_, run_underlying hT]
    · simp only [AVok]
      refine RdV.mk_int ?_
      simp [IntKind.min, IntKind.max, IntKind.signed, IntKind.bits]
      simp [maxLen] at h3
      omega

theorem op_len_str {x : Operand} {T : TypeId} (ho : o.op = .call { callee := .builtin .len, args := #[x], argTypes := #[T] }) (hT : TyOK P .str T) (hx : σ.tc .str x) :
    OpOK P cx σ o ⟨.rd (.int .i64) ((σ.ts x).size : Int), []⟩ :=
  OpOK.of_value hd fun a w lim G hh hf => by
    obtain ⟨h1, h3⟩ := (tc_str hh hf hx)
    simp only [TyOK] at hT
    refine ⟨goInt ((σ.ts x).size : Int), ?_, ?_⟩
    · simp [execOp, ho, h1, resolve, invoke, builtin, Builtin.len_, run_underlying hT.1]
    · simp only [AVok]
      refine RdV.mk_int ?_
      simp [IntKind.min, IntKind.max, IntKind.signed, IntKind.bits]
      simp [maxLen] at h3
      omega

theorem op_min {x y : Operand} {ts : Array TypeId} (ho : o.op = .call { callee := .builtin .min, args := #[x, y], argTypes := ts }) {k : IntKind} (hx : σ.tc (.int k) x) (hy : σ.tc (.int k) y) :
    OpOK P cx σ o ⟨.rd (.int k) (if σ.ti k y < σ.ti k x then σ.ti k y else σ.ti k x), []⟩ :=
  OpOK.of_value hd fun a w lim G hh hf => by
    obtain ⟨h1, r1⟩ := (tc_int hh hf hx)
    obtain ⟨h2, r2⟩ := (tc_int hh hf hy)
    refine ⟨.int k (if σ.ti k y < σ.ti k x then σ.ti k y else σ.ti k x), ?_, ?_⟩
    · simp [execOp, ho, h1, h2, resolve, invoke, builtin, Builtin.min_, Builtin.min2]
    · simp only [AVok]
      refine RdV.mk_int ?_
      split <;> assumption

theorem op_max {x y : Operand} {ts : Array TypeId} (ho : o.op = .call { callee := .builtin .max, args := #[x, y], argTypes := ts }) {k : IntKind} (hx : σ.tc (.int k) x) (hy : σ.tc (.int k) y) :
    OpOK P cx σ o ⟨.rd (.int k) (if σ.ti k y > σ.ti k x then σ.ti k y else σ.ti k x), []⟩ :=
  OpOK.of_value hd fun a w lim G hh hf => by
    obtain ⟨h1, r1⟩ := (tc_int hh hf hx)
    obtain ⟨h2, r2⟩ := (tc_int hh hf hy)
    refine ⟨.int k (if σ.ti k y > σ.ti k x then σ.ti k y else σ.ti k x), ?_, ?_⟩
    · simp [execOp, ho, h1, h2, resolve, invoke, builtin, Builtin.max_, Builtin.max2]
    · simp only [AVok]
      refine RdV.mk_int ?_
      split <;> assumption

end
end Go.AL
