/- Checks, by reckoning, that a program's table says of a type what its reading says. A general part, over any program. -/
import Derived.Test.YtfkdkblbhilghaaB5
import Derived.KernelRfl
set_option linter.unusedSimpArgs false
set_option linter.unusedVariables false
namespace Go.AL
open Go.RowKit

def cellEq : Value → Value → Bool
  | .int k n, .int k' n' => decide (k = k') && decide (n = n')
  | .bool a, .bool b => decide (a = b)
  | .string s, .string s' => decide (s = s')
  | .slice none 0 0, .slice none 0 0 => true
  | _, _ => false

theorem cellEq_spec {a b : Value} (h : cellEq a b = true) : a = b := by
  unfold cellEq at h
  split at h
  · simp only [Bool.and_eq_true, decide_eq_true_eq] at h; rw [h.1, h.2]
  · simp only [decide_eq_true_eq] at h; rw [h]
  · simp only [decide_eq_true_eq] at h; rw [h]
  · rfl
  · cases h

def cellsEq : List Value → List Value → Bool
  | [], [] => true
  | a :: as, b :: bs => cellEq a b && cellsEq as bs
  | _, _ => false

theorem cellsEq_spec : ∀ {a b : List Value}, cellsEq a b = true → a = b
  | [], [], _ => rfl
  | a :: as, b :: bs, h => by
    simp only [cellsEq, Bool.and_eq_true] at h
    rw [cellEq_spec h.1, cellsEq_spec h.2]
  | [], _ :: _, h => by cases h
  | _ :: _, [], h => by cases h

def valEq : Value → Value → Bool
  | .agg a, .agg b => cellsEq a.toList b.toList
  | .agg _, _ => false
  | a, b => cellEq a b

theorem valEq_spec {a b : Value} (h : valEq a b = true) : a = b := by
  unfold valEq at h
  split at h
  · rename_i x y; have := cellsEq_spec h; congr 1; cases x; cases y; simpa using this
  · cases h
  · exact cellEq_spec h

def infB (P : Program) (t : Ty) (T : TypeId) : Bool :=
  match P.info? T with
  | some i => Nat.beq i.size t.size && (match i.zero with | some v => valEq v (mkV t t.zcells) | none => false) && Nat.ble i.bytes 256
  | none => false

theorem infB_spec {P : Program} {t : Ty} {T : TypeId} (h : infB P t T = true) : InfOK P t T := by
  unfold infB at h
  cases hi : P.info? T with
  | none => rw [hi] at h; cases h
  | some i =>
    rw [hi] at h
    simp only [Bool.and_eq_true] at h
    obtain ⟨⟨h1, h2⟩, h3⟩ := h
    refine ⟨i, hi, Nat.eq_of_beq_eq_true h1, ?_, Nat.le_of_ble_eq_true h3⟩
    cases hz : i.zero with
    | none => rw [hz] at h2; cases h2
    | some v => rw [hz] at h2; rw [valEq_spec h2]

mutual
def tyB (P : Program) : Ty → TypeId → Bool
  | .int k, T => (match P.underlying T with | some (.int k') => decide (k' = k) | _ => false) && infB P (.int k) T
  | .bool, T => (match P.underlying T with | some .bool => true | _ => false) && infB P .bool T
  | .str, T => (match P.underlying T with | some .string => true | _ => false) && infB P .str T
  | .list t, T => (match P.underlying T with | some (.slice e) => tyB P t e | _ => false) && infB P (.list t) T && Nat.ble 1 t.size
  | .nil, T => (match P.underlying T with | some (.struct fs) => fs.toList.isEmpty | _ => false) && infB P .nil T
  | .cons h t, T => (match P.underlying T with
    | some (.struct fs) => (match fs.toList with
      | f :: r => Nat.beq f.offset 0 && h.flat1 && tyB P h f.type && fsB P t r 1
      | [] => false)
    | _ => false) && infB P (.cons h t) T
def fsB (P : Program) : Ty → List Field → Nat → Bool
  | .nil, fs, _ => fs.isEmpty
  | .cons h t, fs, o => match fs with
    | f :: r => Nat.beq f.offset o && h.flat1 && tyB P h f.type && fsB P t r (o + 1)
    | [] => false
  | _, _, _ => false
end

mutual
theorem tyB_spec {P : Program} : ∀ {t : Ty} {T : TypeId}, tyB P t T = true → TyOK P t T
  | .int k, T, h => by
    simp only [tyB, Bool.and_eq_true] at h
    simp only [TyOK]
    refine ⟨?_, infB_spec h.2⟩
    cases hu : P.underlying T with
    | none => rw [hu] at h; exact absurd h.1 (by simp)
    | some d => rw [hu] at h; cases d <;> first | (have hq := h.1; simp only [decide_eq_true_eq] at hq; rw [hq]; done) | (exact absurd h.1 (by simp))
  | .bool, T, h => by
    simp only [tyB, Bool.and_eq_true] at h
    simp only [TyOK]
    refine ⟨?_, infB_spec h.2⟩
    cases hu : P.underlying T with
    | none => rw [hu] at h; exact absurd h.1 (by simp)
    | some d => rw [hu] at h; cases d <;> first | rfl | (exact absurd h.1 (by simp))
  | .str, T, h => by
    simp only [tyB, Bool.and_eq_true] at h
    simp only [TyOK]
    refine ⟨?_, infB_spec h.2⟩
    cases hu : P.underlying T with
    | none => rw [hu] at h; exact absurd h.1 (by simp)
    | some d => rw [hu] at h; cases d <;> first | rfl | (exact absurd h.1 (by simp))
  | .list t, T, h => by
    simp only [tyB, Bool.and_eq_true] at h
    simp only [TyOK]
    cases hu : P.underlying T with
    | none => rw [hu] at h; exact absurd h.1.1 (by simp)
    | some d =>
      rw [hu] at h
      cases d <;> first
        | exact ⟨_, rfl, tyB_spec h.1.1, infB_spec h.1.2, Nat.le_of_ble_eq_true h.2⟩
        | exact absurd h.1.1 (by simp)
  | .nil, T, h => by
    simp only [tyB, Bool.and_eq_true] at h
    simp only [TyOK]
    cases hu : P.underlying T with
    | none => rw [hu] at h; exact absurd h.1 (by simp)
    | some d =>
      rw [hu] at h
      cases d <;> first
        | exact ⟨_, rfl, by simpa using h.1, infB_spec h.2⟩
        | exact absurd h.1 (by simp)
  | .cons a b, T, h => by
    simp only [tyB, Bool.and_eq_true] at h
    simp only [TyOK]
    cases hu : P.underlying T with
    | none => rw [hu] at h; exact absurd h.1 (by simp)
    | some d =>
      rw [hu] at h
      cases d with
      | struct fs =>
        have h1 := h.1
        simp only at h1
        cases hfs : fs.toList with
        | nil => rw [hfs] at h1; cases h1
        | cons f r =>
          rw [hfs] at h1
          simp only [Bool.and_eq_true] at h1
          obtain ⟨⟨⟨q1, q2⟩, q3⟩, q4⟩ := h1
          refine ⟨_, rfl, ?_, infB_spec h.2⟩
          rw [hfs]
          simp only [FsOK]
          exact ⟨f, r, rfl, Nat.eq_of_beq_eq_true q1, q2, tyB_spec q3, fsB_spec q4⟩
      | _ => exact absurd h.1 (by simp)
theorem fsB_spec {P : Program} : ∀ {t : Ty} {fs : List Field} {o : Nat}, fsB P t fs o = true → FsOK P t fs o
  | .nil, fs, o, h => by unfold fsB at h; simp only [FsOK]; simpa using h
  | .cons a b, fs, o, h => by
    unfold fsB at h
    simp only [FsOK]
    cases fs with
    | nil => cases h
    | cons f r =>
      simp only [Bool.and_eq_true] at h
      obtain ⟨⟨⟨h1, h2⟩, h3⟩, h4⟩ := h
      exact ⟨f, r, rfl, Nat.eq_of_beq_eq_true h1, h2, tyB_spec h3, fsB_spec h4⟩
  | .int _, _, _, h => by unfold fsB at h; cases h
  | .bool, _, _, h => by unfold fsB at h; cases h
  | .str, _, _, h => by unfold fsB at h; cases h
  | .list _, _, _, h => by unfold fsB at h; cases h
end

def arrB (P : Program) (n : Nat) (T : TypeId) : Bool := match P.underlying T with
  | some (.array m e) => Nat.beq m n && tyB P (.int .i64) e && infB P (arrTy n) T
  | _ => false
theorem arrB_spec {P : Program} {n : Nat} {T : TypeId} (h : arrB P n T = true) : ArrOK P n T := by
  unfold arrB at h
  unfold ArrOK
  cases hu : P.underlying T with
  | none => rw [hu] at h; cases h
  | some d =>
    rw [hu] at h
    cases d <;> first
      | (simp only [Bool.and_eq_true] at h; obtain ⟨⟨h1, h2⟩, h3⟩ := h; rw [Nat.eq_of_beq_eq_true h1]; exact ⟨_, rfl, tyB_spec h2, infB_spec h3⟩)
      | cases h

def elB (P : Program) (T e : TypeId) : Bool := match P.underlying T with | some (.slice e') => Nat.beq e' e | _ => false
theorem elB_spec {P : Program} {T e : TypeId} (h : elB P T e = true) : ElOK P T e := by
  unfold elB at h
  unfold ElOK
  cases hu : P.underlying T with
  | none => rw [hu] at h; cases h
  | some d =>
    rw [hu] at h
    cases d <;> first
      | (simp only at h; rw [Nat.eq_of_beq_eq_true h])
      | cases h

end Go.AL
/- How the reckoning on abstract frames is rewritten, step by step. A general part, over any program. -/
set_option linter.unusedSimpArgs false
set_option linter.unusedVariables false
namespace Go.AL
open Go.RowKit

/-- It keeps a rewriting out of what it marks. -/
structure Tag {α : Type} (k : α) : Type where

def feedE (e : Eff) (K : Eff → Prop) (_ : Tag K) : Prop := K e
def feedS (σ : St) (id : Nat) (K : St → Nat → Prop) (_ : Tag K) : Prop := K σ id
def feedG (o : Option Bool) (K : Bool → Prop) (_ : Tag K) : Prop := match o with | some C => K C | none => False
def callQ (P : Program) (f : FuncId) (args : List TV) (k : RV → Prop) (_ : Tag k) : Prop := callK P f args k
def callH (P : Program) (C : Bool) (f : FuncId) (args : List TV) (k : RV → Prop) (_ : Tag k) : Prop := callG P C f args k
def callMQ (P : Program) (f : FuncId) (bC : Prop) (bA : List TV) (mC : Prop) (mS : List (Option Nat)) (mA : List MA) (ids : List Nat) (kB : RV → Prop) (kM : RV → List AObj → Prop) (_ : Tag kB) (_ : Tag kM) : Prop := callM P f bC bA mC mS mA ids kB kM
def chkQ (ops : Array Oper) (is : List Info) (k : Unit → Prop) (_ : Tag ops) (_ : Tag is) (_ : Tag k) : Prop := chkK (chkAll ops 0 is) k
def loopQ (P : Program) (cx : Cx) (c : Code) (Q : Exit → St → Prop) (σ : St) (_ : Tag c) (_ : Tag Q) (_ : Tag σ) : Prop := T P cx (.loop c) Q σ
def retQ (P : Program) (tb : Tb) (rs : List ResultVar) (rv : RV) (σ : St) : Prop := RetQ P tb rs rv σ

theorem loopQ_intro {P : Program} {cx : Cx} {c : Code} {Q : Exit → St → Prop} {σ : St} (h : T P cx (.loop c) Q σ) : loopQ P cx c Q σ ⟨⟩ ⟨⟩ ⟨⟩ := h
theorem callQ_intro {P : Program} {f : FuncId} {args : List TV} {k : RV → Prop} {rv : RV} (h : FunOK P f args rv) (hk : k rv) : callQ P f args k ⟨⟩ := ⟨rv, h, hk⟩
theorem callH_intro {P : Program} {C : Bool} {f : FuncId} {args : List TV} {k : RV → Prop} {rv : RV} (h : C = true → FunOK P f args rv) (hk : k rv) : callH P C f args k ⟨⟩ := ⟨rv, h, hk⟩
/-- A call that only reads what was made. -/
theorem callB_intro {P : Program} {f : FuncId} {bC mC : Prop} {bA : List TV} {mS : List (Option Nat)} {mA : List MA} {ids : List Nat} {kB : RV → Prop} {kM : RV → List AObj → Prop} {rv : RV} (h : FunOK P f bA rv) (hn : rv.noL = true) (hc : bC) (hk : kB rv) : callMQ P f bC bA mC mS mA ids kB kM ⟨⟩ ⟨⟩ := .inl ⟨hc, rv, hn, h, hk⟩
/-- A call to which something is lent. -/
theorem callM_intro {P : Program} {f : FuncId} {bC mC : Prop} {bA : List TV} {mS : List (Option Nat)} {mA : List MA} {ids : List Nat} {kB : RV → Prop} {kM : RV → List AObj → Prop} {rv : RV} {outs : List AObj} (h : MutOK P f mS mA rv outs)
    (hn : (mC ∧ ids.Nodup) ∧ outs.length = ids.length ∧ outs.all AObj.clo = true) (hk : kM rv outs) : callMQ P f bC bA mC mS mA ids kB kM ⟨⟩ ⟨⟩ := .inr ⟨hn.1, rv, outs, h, ⟨hn.2.1, fun q hq => List.all_eq_true.1 hn.2.2 q hq⟩, hk⟩
theorem chkQ_intro {ops : Array Oper} {is : List Info} {k : Unit → Prop} (h : chkAll ops 0 is = true) (hk : k ()) : chkQ ops is k ⟨⟩ ⟨⟩ ⟨⟩ := ⟨h, hk⟩

@[go_sem] theorem feedE_mk (av : AV) (us : List (Nat × AObj)) (K : Eff → Prop) (t : Tag K) : feedE ⟨av, us⟩ K t = K ⟨av, us⟩ := (rfl)
@[go_sem] theorem feedS_mk (tm : List (Nat × AV)) (ob : List (Nat × AObj)) (id : Nat) (K : St → Nat → Prop) (t : Tag K) : feedS (shp tm ob) id K t = K (shp tm ob) id := (rfl)
@[go_sem] theorem feedG_some (C : Bool) (K : Bool → Prop) (t : Tag K) : feedG (some C) K t = K C := (rfl)

def dstAt : List Oper → Nat → Option Nat
  | [], _ => none
  | o :: _, 0 => o.dst
  | _ :: r, n + 1 => dstAt r n

theorem dstAt_spec : ∀ (l : List Oper) (n : Nat), dstAt l n = (l[n]?).bind (·.dst)
  | [], _ => rfl
  | o :: _, 0 => rfl
  | _ :: r, n + 1 => by simp only [dstAt, dstAt_spec r n, List.getElem?_cons_succ]

@[go_sem ↓] theorem dstAt_zero (o : Option Nat) (op : Op) (ty : TypeId) (ps : String) (af : Array Edge) (g : Option (Nat × Bool)) (r : List Oper) : dstAt (⟨o, op, ty, ps, af, g⟩ :: r) 0 = o := (rfl)
@[go_sem ↓] theorem dstAt_succ (o : Oper) (r : List Oper) (n : Nat) : dstAt (o :: r) (n + 1) = dstAt r n := (rfl)

def gval (σ : St) (d : Option Nat) (b : Bool) : Option Bool := match d with | none => none | some d => gcond (σ.tmps d) b

/-- A step of an unguarded operation. -/
def stepU (P : Program) (tb : Tb) (id : Nat) (σ : St) (dst : Option Nat) (op : Op) (K : Eff → Prop) (_ : Tag op) (_ : Tag K) : Prop :=
  match callOf op with
  | some c => c.2.1.length = c.2.2.length ∧ if plB σ c.2.1 = true then argC σ tb (c.2.1.zip c.2.2) ∧ callQ P c.1 (argD σ tb (c.2.1.zip c.2.2)) (fun rv => rvN rv ≤ 16 ∧ unb σ id (rvN rv) ∧ feedE ⟨recvA id rv, recvU id rv⟩ K ⟨⟩) ⟨⟩
    else callMQ P c.1 (argC σ.settle tb (c.2.1.zip c.2.2)) (argD σ.settle tb (c.2.1.zip c.2.2)) (mArgC σ tb (c.2.1.zip c.2.2)) (mArgS σ (c.2.1.zip c.2.2)) (mArgD σ tb (c.2.1.zip c.2.2)) (mArgI σ (c.2.1.zip c.2.2))
      (fun rv => rvN rv ≤ 16 ∧ unb σ id (rvN rv) ∧ feedE ⟨recvA id rv, recvU id rv⟩ K ⟨⟩)
      (fun rv outs => rvN rv ≤ 16 ∧ unb σ id (rvN rv) ∧ feedE ⟨recvA id rv, (mArgI σ (c.2.1.zip c.2.2)).zip outs ++ recvU id rv⟩ K ⟨⟩) ⟨⟩ ⟨⟩
  | none => pvc P tb id σ dst op ∧ feedE (peff tb id σ op) K ⟨⟩

/-- A step of a guarded operation. -/
def stepG (P : Program) (tb : Tb) (id : Nat) (σ : St) (dst : Option Nat) (C : Bool) (op : Op) (K : Eff → Prop) (_ : Tag op) (_ : Tag K) : Prop :=
  match callOf op with
  | some c => if plB σ c.2.1 = true then (C = true → c.2.1.length = c.2.2.length ∧ argC σ tb (c.2.1.zip c.2.2)) ∧ callH P C c.1 (argD σ tb (c.2.1.zip c.2.2)) (fun rv => feedE ⟨.gd C (recvG rv), []⟩ K ⟨⟩) ⟨⟩
    else (C = true → c.2.1.length = c.2.2.length ∧ argC σ.settle tb (c.2.1.zip c.2.2)) ∧ callH P C c.1 (argD σ.settle tb (c.2.1.zip c.2.2)) (fun rv => rv.noL = true ∧ feedE ⟨.gd C (recvG rv), []⟩ K ⟨⟩) ⟨⟩
  | none => (C = true → pvc P tb id σ dst op ∧ (peff tb id σ op).upds = []) ∧ feedE ⟨.gd C (peff tb id σ op).av, []⟩ K ⟨⟩

theorem stepK_none (P : Program) (tb : Tb) (N : Nat) (l : List Oper) (id : Nat) (σ : St) (dst : Option Nat) (op : Op) (ty : TypeId) (ps : String) (af : Array Edge) (K : Eff → Prop) :
    stepK P tb N l.toArray id σ ⟨dst, op, ty, ps, af, none⟩ K = (dstOK N dst ∧ stepU P tb id σ dst op K ⟨⟩ ⟨⟩) := by
  simp only [stepK, stepU]
  cases callOf op with
  | none => rfl
  | some c => simp only; cases plB σ c.2.1 <;> rfl

theorem stepK_some (P : Program) (tb : Tb) (N : Nat) (l : List Oper) (id : Nat) (σ : St) (dst : Option Nat) (op : Op) (ty : TypeId) (ps : String) (af : Array Edge) (g : Nat) (b : Bool) (K : Eff → Prop) :
    stepK P tb N l.toArray id σ ⟨dst, op, ty, ps, af, some (g, b)⟩ K = (dstOK N dst ∧ feedG (gval σ (dstAt l g) b) (fun C => stepG P tb id σ dst C op K ⟨⟩ ⟨⟩) ⟨⟩) := by
  simp only [stepK, stepG, dstAt_spec, List.getElem?_toArray, feedG, gval]
  cases (l[g]?).bind (·.dst) with
  | none => rfl
  | some d =>
    simp only
    cases gcond (σ.tmps d) b with
    | none => rfl
    | some C =>
      simp only
      cases callOf op with
      | none => rfl
      | some c => simp only; cases plB σ c.2.1 <;> rfl

@[go_sem ↓] theorem runS_nil (P : Program) (tb : Tb) (N : Nat) (ops : Array Oper) (id : Nat) (σ : St) (K : St → Prop) : runS P tb N ops [] id σ K = K σ := (rfl)
/-- A call of a function value, or of a function that is gone through where it is called: left as it is. -/
def cloV (P : Program) (σ : St) (dst : Option Nat) (k : Nat) (as : List Operand) (id : Nat) (K : St → Nat → Prop) (_ : Tag K) : Prop := cloQ P σ dst k as fun σ' => K σ' (id + 16)
def inlV (P : Program) (σ : St) (dst : Option Nat) (f : FuncId) (as : List Operand) (id : Nat) (K : St → Nat → Prop) (_ : Tag K) : Prop := inlQ P σ dst f [] as fun σ' => K σ' (id + 16)
def innV (P : Program) (σ : St) (dst : Option Nat) (f : FuncId) (as : List Operand) (id : Nat) (K : St → Nat → Prop) (_ : Tag K) : Prop := innQ P σ dst f as fun σ' => K σ' (id + 16)
def stepV (P : Program) (tb : Tb) (id : Nat) (σ : St) (dst : Option Nat) (op : Op) (K : St → Nat → Prop) (_ : Tag op) (_ : Tag K) : Prop :=
  match cloOp op with
  | some c => cloV P σ dst c.1 c.2 id K ⟨⟩
  | none => match inlOp tb op with
    | some c => inlV P σ dst c.1 c.2 id K ⟨⟩
    | none => match innOp tb op with
      | some c => innV P σ dst c.1 c.2 id K ⟨⟩
      | none => stepU P tb id σ dst op (fun e => feedS (σ.app dst e) (id + 16) K ⟨⟩) ⟨⟩ ⟨⟩
theorem dstOK_eq (N : Nat) (dst : Option Nat) : (∀ k, dst = some k → k < N) = dstOK N dst := by
  cases dst with
  | none => simp [dstOK]
  | some d => simp [dstOK]
@[go_sem ↓] theorem runS_none (P : Program) (tb : Tb) (N : Nat) (l : List Oper) (id : Nat) (σ : St) (K : St → Prop) (dst : Option Nat) (op : Op) (ty : TypeId) (ps : String) (af : Array Edge) (r : List Oper) :
    runS P tb N l.toArray (⟨dst, op, ty, ps, af, none⟩ :: r) id σ K = (dstOK N dst ∧ stepV P tb id σ dst op (fun σ' id' => runS P tb N l.toArray r id' σ' K) ⟨⟩ ⟨⟩) := by
  rw [runS]
  show (match cloOp op with | some c => _ | none => _) = _
  unfold stepV
  cases cloOp op with
  | some c => simp only [dstOK_eq]; rfl
  | none =>
    show (match inlOp tb op with | some c => _ | none => _) = _
    cases inlOp tb op with
    | none =>
      show (match innOp tb op with | some c => _ | none => _) = _
      cases innOp tb op with
      | none => simp only; rw [stepK_none]; rfl
      | some c => simp only [dstOK_eq]; rfl
    | some c => simp only [dstOK_eq]; rfl
@[go_sem ↓] theorem runS_some (P : Program) (tb : Tb) (N : Nat) (l : List Oper) (id : Nat) (σ : St) (K : St → Prop) (dst : Option Nat) (op : Op) (ty : TypeId) (ps : String) (af : Array Edge) (g : Nat) (b : Bool) (r : List Oper) :
    runS P tb N l.toArray (⟨dst, op, ty, ps, af, some (g, b)⟩ :: r) id σ K = (dstOK N dst ∧ feedG (gval σ (dstAt l g) b) (fun C => stepG P tb id σ dst C op (fun e => feedS (σ.app dst e) (id + 16) (fun σ' id' => runS P tb N l.toArray r id' σ' K) ⟨⟩) ⟨⟩ ⟨⟩) ⟨⟩) := by
  rw [runS, stepK_some]; rfl
@[go_sem ↓] theorem runD_nil (P : Program) (tb : Tb) (N : Nat) (ops : Array Oper) (id : Nat) (σ : St) (is : List Info) (K : St → List Info → Prop) : runD P tb N ops [] id σ is K = K σ is.reverse := (rfl)
@[go_sem ↓] theorem runD_none (P : Program) (tb : Tb) (N : Nat) (l : List Oper) (id : Nat) (σ : St) (is : List Info) (K : St → List Info → Prop) (dst : Option Nat) (op : Op) (ty : TypeId) (ps : String) (af : Array Edge) (r : List Oper) :
    runD P tb N l.toArray (⟨dst, op, ty, ps, af, none⟩ :: r) id σ is K = (dstOK N dst ∧ stepU P tb id σ dst op (fun e => feedS (σ.app dst e) (id + 16) (fun σ' id' => runD P tb N l.toArray r id' σ' (⟨⟨dst, op, ty, ps, af, none⟩, e.upds.map (·.1), rids σ ⟨dst, op, ty, ps, af, none⟩, id⟩ :: is) K) ⟨⟩) ⟨⟩ ⟨⟩) := by
  rw [runD, stepK_none]; rfl
@[go_sem ↓] theorem runD_some (P : Program) (tb : Tb) (N : Nat) (l : List Oper) (id : Nat) (σ : St) (is : List Info) (K : St → List Info → Prop) (dst : Option Nat) (op : Op) (ty : TypeId) (ps : String) (af : Array Edge) (g : Nat) (b : Bool) (r : List Oper) :
    runD P tb N l.toArray (⟨dst, op, ty, ps, af, some (g, b)⟩ :: r) id σ is K = (dstOK N dst ∧ feedG (gval σ (dstAt l g) b) (fun C => stepG P tb id σ dst C op (fun e => feedS (σ.app dst e) (id + 16) (fun σ' id' => runD P tb N l.toArray r id' σ' (⟨⟨dst, op, ty, ps, af, some (g, b)⟩, e.upds.map (·.1), rids σ ⟨dst, op, ty, ps, af, some (g, b)⟩, id⟩ :: is) K) ⟨⟩) ⟨⟩ ⟨⟩) ⟨⟩) := by
  rw [runD, stepK_some]; rfl

/-! ### Which operations are no calls of function values -/
section
variable (P : Program) (tb : Tb) (id : Nat) (σ : St) (dst : Option Nat) (K : St → Nat → Prop)
@[go_sem ↓] theorem sV_move (x : Operand) (t1 : Tag (Op.move x)) (t2 : Tag K) : stepV P tb id σ dst (Op.move x) K t1 t2 = stepU P tb id σ dst (Op.move x) (fun e => feedS (σ.app dst e) (id + 16) K ⟨⟩) ⟨⟩ ⟨⟩ := (rfl)
@[go_sem ↓] theorem sV_nilCheck (x : Operand) (t1 : Tag (Op.nilCheck x)) (t2 : Tag K) : stepV P tb id σ dst (Op.nilCheck x) K t1 t2 = stepU P tb id σ dst (Op.nilCheck x) (fun e => feedS (σ.app dst e) (id + 16) K ⟨⟩) ⟨⟩ ⟨⟩ := (rfl)
@[go_sem ↓] theorem sV_assign (x : Operand) (t1 : Tag (Op.assign x)) (t2 : Tag K) : stepV P tb id σ dst (Op.assign x) K t1 t2 = stepU P tb id σ dst (Op.assign x) (fun e => feedS (σ.app dst e) (id + 16) K ⟨⟩) ⟨⟩ ⟨⟩ := (rfl)
@[go_sem ↓] theorem sV_pick (x y z : Operand) (t1 : Tag (Op.pick x y z)) (t2 : Tag K) : stepV P tb id σ dst (Op.pick x y z) K t1 t2 = stepU P tb id σ dst (Op.pick x y z) (fun e => feedS (σ.app dst e) (id + 16) K ⟨⟩) ⟨⟩ ⟨⟩ := (rfl)
@[go_sem ↓] theorem sV_box (T : TypeId) (x : Operand) (t1 : Tag (Op.box T x)) (t2 : Tag K) : stepV P tb id σ dst (Op.box T x) K t1 t2 = stepU P tb id σ dst (Op.box T x) (fun e => feedS (σ.app dst e) (id + 16) K ⟨⟩) ⟨⟩ ⟨⟩ := (rfl)
@[go_sem ↓] theorem sV_alloc (T : TypeId) (t1 : Tag (Op.alloc T)) (t2 : Tag K) : stepV P tb id σ dst (Op.alloc T) K t1 t2 = stepU P tb id σ dst (Op.alloc T) (fun e => feedS (σ.app dst e) (id + 16) K ⟨⟩) ⟨⟩ ⟨⟩ := (rfl)
@[go_sem ↓] theorem sV_load (T : TypeId) (x : Operand) (t1 : Tag (Op.load T x)) (t2 : Tag K) : stepV P tb id σ dst (Op.load T x) K t1 t2 = stepU P tb id σ dst (Op.load T x) (fun e => feedS (σ.app dst e) (id + 16) K ⟨⟩) ⟨⟩ ⟨⟩ := (rfl)
@[go_sem ↓] theorem sV_store (T : TypeId) (x y : Operand) (t1 : Tag (Op.store T x y)) (t2 : Tag K) : stepV P tb id σ dst (Op.store T x y) K t1 t2 = stepU P tb id σ dst (Op.store T x y) (fun e => feedS (σ.app dst e) (id + 16) K ⟨⟩) ⟨⟩ ⟨⟩ := (rfl)
@[go_sem ↓] theorem sV_fieldAddr (T : TypeId) (x : Operand) (n : Nat) (t1 : Tag (Op.fieldAddr T x n)) (t2 : Tag K) : stepV P tb id σ dst (Op.fieldAddr T x n) K t1 t2 = stepU P tb id σ dst (Op.fieldAddr T x n) (fun e => feedS (σ.app dst e) (id + 16) K ⟨⟩) ⟨⟩ ⟨⟩ := (rfl)
@[go_sem ↓] theorem sV_field (T : TypeId) (x : Operand) (n : Nat) (t1 : Tag (Op.field T x n)) (t2 : Tag K) : stepV P tb id σ dst (Op.field T x n) K t1 t2 = stepU P tb id σ dst (Op.field T x n) (fun e => feedS (σ.app dst e) (id + 16) K ⟨⟩) ⟨⟩ ⟨⟩ := (rfl)
@[go_sem ↓] theorem sV_extract (x : Operand) (n : Nat) (t1 : Tag (Op.extract x n)) (t2 : Tag K) : stepV P tb id σ dst (Op.extract x n) K t1 t2 = stepU P tb id σ dst (Op.extract x n) (fun e => feedS (σ.app dst e) (id + 16) K ⟨⟩) ⟨⟩ ⟨⟩ := (rfl)
@[go_sem ↓] theorem sV_indexAddr (T : TypeId) (x y : Operand) (t1 : Tag (Op.indexAddr T x y)) (t2 : Tag K) : stepV P tb id σ dst (Op.indexAddr T x y) K t1 t2 = stepU P tb id σ dst (Op.indexAddr T x y) (fun e => feedS (σ.app dst e) (id + 16) K ⟨⟩) ⟨⟩ ⟨⟩ := (rfl)
@[go_sem ↓] theorem sV_index (T : TypeId) (x y : Operand) (t1 : Tag (Op.index T x y)) (t2 : Tag K) : stepV P tb id σ dst (Op.index T x y) K t1 t2 = stepU P tb id σ dst (Op.index T x y) (fun e => feedS (σ.app dst e) (id + 16) K ⟨⟩) ⟨⟩ ⟨⟩ := (rfl)
@[go_sem ↓] theorem sV_slice (T : TypeId) (x : Operand) (lo hi mx : Option Operand) (t1 : Tag (Op.slice T x lo hi mx)) (t2 : Tag K) : stepV P tb id σ dst (Op.slice T x lo hi mx) K t1 t2 = stepU P tb id σ dst (Op.slice T x lo hi mx) (fun e => feedS (σ.app dst e) (id + 16) K ⟨⟩) ⟨⟩ ⟨⟩ := (rfl)
@[go_sem ↓] theorem sV_build (T : TypeId) (ps : Array (Nat × Operand)) (t1 : Tag (Op.build T ps)) (t2 : Tag K) : stepV P tb id σ dst (Op.build T ps) K t1 t2 = stepU P tb id σ dst (Op.build T ps) (fun e => feedS (σ.app dst e) (id + 16) K ⟨⟩) ⟨⟩ ⟨⟩ := (rfl)
@[go_sem ↓] theorem sV_buildSlice (T : TypeId) (n : Nat) (ps : Array (Nat × Operand)) (t1 : Tag (Op.buildSlice T n ps)) (t2 : Tag K) : stepV P tb id σ dst (Op.buildSlice T n ps) K t1 t2 = stepU P tb id σ dst (Op.buildSlice T n ps) (fun e => feedS (σ.app dst e) (id + 16) K ⟨⟩) ⟨⟩ ⟨⟩ := (rfl)
@[go_sem ↓] theorem sV_makeSlice (T : TypeId) (x y : Operand) (t1 : Tag (Op.makeSlice T x y)) (t2 : Tag K) : stepV P tb id σ dst (Op.makeSlice T x y) K t1 t2 = stepU P tb id σ dst (Op.makeSlice T x y) (fun e => feedS (σ.app dst e) (id + 16) K ⟨⟩) ⟨⟩ ⟨⟩ := (rfl)
@[go_sem ↓] theorem sV_binOp (op : BinOp) (T : TypeId) (x y : Operand) (T1 : TypeId) (t1 : Tag (Op.binOp op T x y T1)) (t2 : Tag K) : stepV P tb id σ dst (Op.binOp op T x y T1) K t1 t2 = stepU P tb id σ dst (Op.binOp op T x y T1) (fun e => feedS (σ.app dst e) (id + 16) K ⟨⟩) ⟨⟩ ⟨⟩ := (rfl)
@[go_sem ↓] theorem sV_unOp (uo : UnOp) (T : TypeId) (x : Operand) (t1 : Tag (Op.unOp uo T x)) (t2 : Tag K) : stepV P tb id σ dst (Op.unOp uo T x) K t1 t2 = stepU P tb id σ dst (Op.unOp uo T x) (fun e => feedS (σ.app dst e) (id + 16) K ⟨⟩) ⟨⟩ ⟨⟩ := (rfl)
@[go_sem ↓] theorem sV_convert (T T1 : TypeId) (x : Operand) (t1 : Tag (Op.convert T T1 x)) (t2 : Tag K) : stepV P tb id σ dst (Op.convert T T1 x) K t1 t2 = stepU P tb id σ dst (Op.convert T T1 x) (fun e => feedS (σ.app dst e) (id + 16) K ⟨⟩) ⟨⟩ ⟨⟩ := (rfl)
@[go_sem ↓] theorem sV_makeFunc (fn : Fn) (a b : Array Operand) (t1 : Tag (Op.makeFunc fn a b)) (t2 : Tag K) : stepV P tb id σ dst (Op.makeFunc fn a b) K t1 t2 = stepU P tb id σ dst (Op.makeFunc fn a b) (fun e => feedS (σ.app dst e) (id + 16) K ⟨⟩) ⟨⟩ ⟨⟩ := (rfl)
@[go_sem ↓] theorem sV_builtin (b : Builtin) (as : Array Operand) (ts : Array TypeId) (t1 : Tag (Op.call { callee := .builtin b, args := as, argTypes := ts })) (t2 : Tag K) : stepV P tb id σ dst (Op.call { callee := .builtin b, args := as, argTypes := ts }) K t1 t2 = stepU P tb id σ dst (Op.call { callee := .builtin b, args := as, argTypes := ts }) (fun e => feedS (σ.app dst e) (id + 16) K ⟨⟩) ⟨⟩ ⟨⟩ := (rfl)
@[go_sem ↓] theorem sV_func (f : FuncId) (la : List Operand) (ts : Array TypeId) (t1 : Tag (Op.call { callee := .value (.func f), args := la.toArray, argTypes := ts })) (t2 : Tag K) : stepV P tb id σ dst (Op.call { callee := .value (.func f), args := la.toArray, argTypes := ts }) K t1 t2 = if tb.inl f = true then inlV P σ dst f la id K ⟨⟩ else if tb.inn f = true then innV P σ dst f la id K ⟨⟩ else stepU P tb id σ dst (Op.call { callee := .value (.func f), args := la.toArray, argTypes := ts }) (fun e => feedS (σ.app dst e) (id + 16) K ⟨⟩) ⟨⟩ ⟨⟩ := by
  simp only [stepV, cloOp, inlOp, innOp]
  cases tb.inl f <;> cases tb.inn f <;> rfl
@[go_sem] theorem at_ty (n : Nat) (T : TypeId) : (tb.at n).ty T = tb.ty T := (rfl)
@[go_sem] theorem at_el (n : Nat) (T : TypeId) : (tb.at n).el T = tb.el T := (rfl)
@[go_sem] theorem at_inl (n : Nat) (f : FuncId) : (tb.at n).inl f = tb.inl f := (rfl)
@[go_sem] theorem at_inn (n : Nat) (f : FuncId) : (tb.at n).inn f = tb.inn f := (rfl)
@[go_sem] theorem at_dp (n : Nat) : (tb.at n).dp = tb.dp := (rfl)
@[go_sem] theorem at_te (n : Nat) (t : Ty) : (tb.at n).te t = tb.te t := (rfl)
@[go_sem] theorem at_off (n : Nat) : (tb.at n).off = n := (rfl)
def anyL (f : Nat) : List Nat → Bool
  | [] => false
  | x :: r => Nat.beq f x || anyL f r
@[go_sem] theorem anyL_nil (f : Nat) : anyL f [] = false := (rfl)
@[go_sem] theorem anyL_cons (f x : Nat) (r : List Nat) : anyL f (x :: r) = (Nat.beq f x || anyL f r) := (rfl)
@[go_sem] theorem or_t (b : Bool) : (true || b) = true := (rfl)
@[go_sem] theorem or_f (b : Bool) : (false || b) = b := (rfl)
@[go_sem] theorem f_t : (false = true) = False := by simp
@[go_sem ↓] theorem sV_clo (k : Nat) (la : List Operand) (ts : Array TypeId) (t1 : Tag (Op.call { callee := .value (.tmp k), args := la.toArray, argTypes := ts })) (t2 : Tag K) : stepV P tb id σ dst (Op.call { callee := .value (.tmp k), args := la.toArray, argTypes := ts }) K t1 t2 = cloV P σ dst k la id K ⟨⟩ := (rfl)
end
/-! ### Code -/
section
variable (P : Program) (tb : Tb) (cx : Cx) (N : Nat) (Q : Exit → St → Prop) (σ : St) (i : Nat) (a b : Code)
@[go_sem ↓] theorem aC_skip : aCode P tb cx N .skip Q σ = Q .normal σ := (rfl)
@[go_sem ↓] theorem aC_label : aCode P tb cx N (.label i) Q σ = Q .normal σ := (rfl)
@[go_sem ↓] theorem aC_region (l : List Oper) : aCode P tb cx N (.region i l.toArray false) Q σ = feedS σ (10000 * (i + 1) + tb.off) (fun σ id => runS P tb N l.toArray l id σ (Q .normal)) ⟨⟩ := by simp only [aCode, feedS]
@[go_sem ↓] theorem aC_draw (l : List Oper) : aCode P tb cx N (.region i l.toArray true) Q σ = feedS σ (10000 * (i + 1) + tb.off) (fun σ id => runD P tb N l.toArray l id σ [] fun σ' is => chkQ l.toArray is (fun _ => Q .normal σ') ⟨⟩ ⟨⟩ ⟨⟩) ⟨⟩ := by simp only [aCode, feedS]; rfl
@[go_sem ↓] theorem aC_seq : aCode P tb cx N (.seq a b) Q σ = aCode P tb cx N a (seqQ (fun σ' => aCode P tb cx N b Q σ') Q) σ := (rfl)
@[go_sem ↓] theorem aC_cond (c : Operand) : aCode P tb cx N (.cond c a b) Q σ = (σ.tc .bool c ∧ (σ.tb c = true → aCode P tb cx N a Q σ) ∧ (σ.tb c = false → aCode P tb cx N b Q σ)) := (rfl)
@[go_sem ↓] theorem aC_block : aCode P tb cx N (.block i b) Q σ = aCode P tb cx N b (blkQ i Q) σ := (rfl)
@[go_sem ↓] theorem aC_loop : aCode P tb cx N (.loop b) Q σ = loopQ P cx b Q σ ⟨⟩ ⟨⟩ ⟨⟩ := (rfl)
@[go_sem ↓] theorem aC_exit : aCode P tb cx N (.exit i) Q σ = Q (.exit i) σ := (rfl)
@[go_sem ↓] theorem aC_ret : aCode P tb cx N .ret Q σ = Q .ret σ := (rfl)
variable (k : St → Prop) (i' : Nat)
@[go_sem ↓] theorem seqQ_normal : seqQ k Q .normal σ = k σ := (rfl)
@[go_sem ↓] theorem seqQ_exit : seqQ k Q (.exit i) σ = Q (.exit i) σ := (rfl)
@[go_sem ↓] theorem seqQ_ret : seqQ k Q .ret σ = Q .ret σ := (rfl)
@[go_sem ↓] theorem blkQ_normal : blkQ i Q .normal σ = Q .normal σ := (rfl)
@[go_sem ↓] theorem blkQ_ret : blkQ i Q .ret σ = Q .ret σ := (rfl)
@[go_sem ↓] theorem blkQ_here : blkQ i Q (.exit i) σ = Q .normal σ := by simp only [blkQ, if_true]
@[go_sem ↓] theorem blkQ_there (h : (i' == i) = false) : blkQ i Q (.exit i') σ = Q (.exit i') σ := by
  simp only [blkQ]; rw [if_neg]; simpa using h
@[go_sem ↓] theorem finQ_normal : finQ k .normal σ = k σ := (rfl)
@[go_sem ↓] theorem finQ_ret : finQ k .ret σ = k σ := (rfl)
end

/-! ### One step -/
section
variable (P : Program) (tb : Tb) (id : Nat) (σ : St) (dst : Option Nat) (K : Eff → Prop) (C : Bool)
@[go_sem] theorem nat_beq (a b : Nat) : Nat.beq a b = (a == b) := by rw [Bool.eq_iff_iff, Nat.beq_eq, beq_iff_eq]
@[go_sem] theorem dstOK_none (N : Nat) : dstOK N none = True := (rfl)
@[go_sem] theorem dstOK_some (N d : Nat) : dstOK N (some d) = (d < N) := (rfl)

theorem stepU_pure {op : Op} (h : callOf op = none) (t1 : Tag op) (t2 : Tag K) : stepU P tb id σ dst op K t1 t2 = (pvc P tb id σ dst op ∧ feedE (peff tb id σ op) K ⟨⟩) := by
  simp only [stepU, h]
theorem stepG_pure {op : Op} (h : callOf op = none) (t1 : Tag op) (t2 : Tag K) : stepG P tb id σ dst C op K t1 t2 = ((C = true → pvc P tb id σ dst op ∧ (peff tb id σ op).upds = []) ∧ feedE ⟨.gd C (peff tb id σ op).av, []⟩ K ⟨⟩) := by
  simp only [stepG, h]

def ptrF (t : Ty) (y : t.den) (i : Nat) : AV := .ptr (fldT t i) (fldD t y i)
def rdF (t : Ty) (y : t.den) (i : Nat) : AV := .rd (fldT t i) (fldD t y i)
@[go_sem ↓] theorem ptr_fld (t : Ty) (y : t.den) (i : Nat) : AV.ptr (fldT t i) (fldD t y i) = ptrF t y i := (rfl)
@[go_sem ↓] theorem rd_fld (t : Ty) (y : t.den) (i : Nat) : AV.rd (fldT t i) (fldD t y i) = rdF t y i := (rfl)
def setFA (objs : Nat → AObj) : (t : Ty) → t.den → Nat → AV → t.den
  | .cons h _, x, 0, av => (tvd objs h av, x.2)
  | .cons _ t, x, i + 1, av => (x.1, setFA objs t x.2 i av)
  | .int _, x, _, _ => x
  | .bool, x, _, _ => x
  | .str, x, _, _ => x
  | .list _, x, _, _ => x
  | .nil, x, _, _ => x
theorem setF_eq (objs : Nat → AObj) (av : AV) : ∀ (t : Ty) (x : t.den) (i : Nat), setF t x i (tvd objs (fldT t i) av) = setFA objs t x i av
  | .cons _ _, _, 0 => rfl
  | .cons _ t, x, i + 1 => by simp only [setF, setFA]; exact congrArg _ (setF_eq objs av t x.2 i)
  | .int _, _, _ => rfl
  | .bool, _, _ => rfl
  | .str, _, _ => rfl
  | .list _, _, _ => rfl
  | .nil, _, _ => rfl
@[go_sem ↓] theorem setF_tv (t : Ty) (x : t.den) (i : Nat) (σ : St) (y : Operand) : setF t x i (St.tv σ (fldT t i) y) = setFA σ.objs t x i (St.un σ y) := setF_eq _ _ t x i
@[go_sem] theorem setFA_c0 (objs : Nat → AObj) (h t : Ty) (x : (Ty.cons h t).den) (av : AV) : setFA objs (.cons h t) x 0 av = (tvd objs h av, x.2) := (rfl)
@[go_sem] theorem setFA_cs (objs : Nat → AObj) (h t : Ty) (x : (Ty.cons h t).den) (i : Nat) (av : AV) : setFA objs (.cons h t) x (i + 1) av = (x.1, setFA objs t x.2 i av) := (rfl)
@[go_sem] theorem fldT_c0 (h t : Ty) : fldT (.cons h t) 0 = h := (rfl)
@[go_sem] theorem fldT_cs (h t : Ty) (i : Nat) : fldT (.cons h t) (i + 1) = fldT t i := (rfl)
@[go_sem] theorem ptrF_zero (h t : Ty) (y : (Ty.cons h t).den) : ptrF (.cons h t) y 0 = .ptr h y.1 := (rfl)
@[go_sem] theorem ptrF_succ (h t : Ty) (y : (Ty.cons h t).den) (i : Nat) : ptrF (.cons h t) y (i + 1) = ptrF t y.2 i := (rfl)
@[go_sem] theorem rdF_zero (h t : Ty) (y : (Ty.cons h t).den) : rdF (.cons h t) y 0 = .rd h y.1 := (rfl)
@[go_sem] theorem rdF_succ (h t : Ty) (y : (Ty.cons h t).den) (i : Nat) : rdF (.cons h t) y (i + 1) = rdF t y.2 i := (rfl)

-- unguarded
variable (x y z : Operand) (Ty0 Ty1 : TypeId) (n : Nat)
@[go_sem ↓] theorem sU_move (t1 : Tag (Op.move x)) (t2 : Tag K) : stepU P tb id σ dst (.move x) K t1 t2 = feedE ⟨σ.ev x, []⟩ K ⟨⟩ := by rw [stepU_pure _ _ _ _ _ _ rfl]; simp only [pvc, true_and, peff]
@[go_sem ↓] theorem sU_assign (t1 : Tag (Op.assign x)) (t2 : Tag K) : stepU P tb id σ dst (.assign x) K t1 t2 = feedE ⟨σ.ev x, []⟩ K ⟨⟩ := by rw [stepU_pure _ _ _ _ _ _ rfl]; simp only [pvc, true_and, peff]
@[go_sem ↓] theorem sG_move (t1 : Tag (Op.move x)) (t2 : Tag K) : stepG P tb id σ dst C (.move x) K t1 t2 = feedE ⟨.gd C (σ.ev x), []⟩ K ⟨⟩ := by rw [stepG_pure _ _ _ _ _ _ _ rfl]; simp only [pvc, true_and, peff, implies_true]
@[go_sem ↓] theorem sG_assign (t1 : Tag (Op.assign x)) (t2 : Tag K) : stepG P tb id σ dst C (.assign x) K t1 t2 = feedE ⟨.gd C (σ.ev x), []⟩ K ⟨⟩ := by rw [stepG_pure _ _ _ _ _ _ _ rfl]; simp only [pvc, true_and, peff, implies_true]
variable (lo hi : Option Operand) (ps : Array (Nat × Operand)) (op : BinOp) (uo : UnOp) (as : Array Operand) (ts : Array TypeId)
@[go_sem ↓] theorem sU_pick (t1 : Tag (Op.pick x y z)) (t2 : Tag K) : stepU P tb id σ dst (Op.pick x y z) K t1 t2 = (pvc P tb id σ dst (Op.pick x y z) ∧ feedE (peff tb id σ (Op.pick x y z)) K ⟨⟩) := stepU_pure _ _ _ _ _ _ rfl _ _
@[go_sem ↓] theorem sG_pick (t1 : Tag (Op.pick x y z)) (t2 : Tag K) : stepG P tb id σ dst C (Op.pick x y z) K t1 t2 = ((C = true → pvc P tb id σ dst (Op.pick x y z) ∧ (peff tb id σ (Op.pick x y z)).upds = []) ∧ feedE ⟨.gd C (peff tb id σ (Op.pick x y z)).av, []⟩ K ⟨⟩) := stepG_pure _ _ _ _ _ _ _ rfl _ _
@[go_sem ↓] theorem sU_box (t1 : Tag (Op.box Ty0 x)) (t2 : Tag K) : stepU P tb id σ dst (Op.box Ty0 x) K t1 t2 = (pvc P tb id σ dst (Op.box Ty0 x) ∧ feedE (peff tb id σ (Op.box Ty0 x)) K ⟨⟩) := stepU_pure _ _ _ _ _ _ rfl _ _
@[go_sem ↓] theorem sG_box (t1 : Tag (Op.box Ty0 x)) (t2 : Tag K) : stepG P tb id σ dst C (Op.box Ty0 x) K t1 t2 = ((C = true → pvc P tb id σ dst (Op.box Ty0 x) ∧ (peff tb id σ (Op.box Ty0 x)).upds = []) ∧ feedE ⟨.gd C (peff tb id σ (Op.box Ty0 x)).av, []⟩ K ⟨⟩) := stepG_pure _ _ _ _ _ _ _ rfl _ _
@[go_sem ↓] theorem sU_alloc (t1 : Tag (Op.alloc Ty0)) (t2 : Tag K) : stepU P tb id σ dst (Op.alloc Ty0) K t1 t2 = (pvc P tb id σ dst (Op.alloc Ty0) ∧ feedE (peff tb id σ (Op.alloc Ty0)) K ⟨⟩) := stepU_pure _ _ _ _ _ _ rfl _ _
@[go_sem ↓] theorem sG_alloc (t1 : Tag (Op.alloc Ty0)) (t2 : Tag K) : stepG P tb id σ dst C (Op.alloc Ty0) K t1 t2 = ((C = true → pvc P tb id σ dst (Op.alloc Ty0) ∧ (peff tb id σ (Op.alloc Ty0)).upds = []) ∧ feedE ⟨.gd C (peff tb id σ (Op.alloc Ty0)).av, []⟩ K ⟨⟩) := stepG_pure _ _ _ _ _ _ _ rfl _ _
@[go_sem ↓] theorem sU_load (t1 : Tag (Op.load Ty0 x)) (t2 : Tag K) : stepU P tb id σ dst (Op.load Ty0 x) K t1 t2 = (pvc P tb id σ dst (Op.load Ty0 x) ∧ feedE (peff tb id σ (Op.load Ty0 x)) K ⟨⟩) := stepU_pure _ _ _ _ _ _ rfl _ _
@[go_sem ↓] theorem sG_load (t1 : Tag (Op.load Ty0 x)) (t2 : Tag K) : stepG P tb id σ dst C (Op.load Ty0 x) K t1 t2 = ((C = true → pvc P tb id σ dst (Op.load Ty0 x) ∧ (peff tb id σ (Op.load Ty0 x)).upds = []) ∧ feedE ⟨.gd C (peff tb id σ (Op.load Ty0 x)).av, []⟩ K ⟨⟩) := stepG_pure _ _ _ _ _ _ _ rfl _ _
@[go_sem ↓] theorem sU_store (t1 : Tag (Op.store Ty0 x y)) (t2 : Tag K) : stepU P tb id σ dst (Op.store Ty0 x y) K t1 t2 = (pvc P tb id σ dst (Op.store Ty0 x y) ∧ feedE (peff tb id σ (Op.store Ty0 x y)) K ⟨⟩) := stepU_pure _ _ _ _ _ _ rfl _ _
@[go_sem ↓] theorem sG_store (t1 : Tag (Op.store Ty0 x y)) (t2 : Tag K) : stepG P tb id σ dst C (Op.store Ty0 x y) K t1 t2 = ((C = true → pvc P tb id σ dst (Op.store Ty0 x y) ∧ (peff tb id σ (Op.store Ty0 x y)).upds = []) ∧ feedE ⟨.gd C (peff tb id σ (Op.store Ty0 x y)).av, []⟩ K ⟨⟩) := stepG_pure _ _ _ _ _ _ _ rfl _ _
@[go_sem ↓] theorem sU_fieldAddr (t1 : Tag (Op.fieldAddr Ty0 x n)) (t2 : Tag K) : stepU P tb id σ dst (Op.fieldAddr Ty0 x n) K t1 t2 = (pvc P tb id σ dst (Op.fieldAddr Ty0 x n) ∧ feedE (peff tb id σ (Op.fieldAddr Ty0 x n)) K ⟨⟩) := stepU_pure _ _ _ _ _ _ rfl _ _
@[go_sem ↓] theorem sG_fieldAddr (t1 : Tag (Op.fieldAddr Ty0 x n)) (t2 : Tag K) : stepG P tb id σ dst C (Op.fieldAddr Ty0 x n) K t1 t2 = ((C = true → pvc P tb id σ dst (Op.fieldAddr Ty0 x n) ∧ (peff tb id σ (Op.fieldAddr Ty0 x n)).upds = []) ∧ feedE ⟨.gd C (peff tb id σ (Op.fieldAddr Ty0 x n)).av, []⟩ K ⟨⟩) := stepG_pure _ _ _ _ _ _ _ rfl _ _
@[go_sem ↓] theorem sU_nilCheck (t1 : Tag (Op.nilCheck x)) (t2 : Tag K) : stepU P tb id σ dst (Op.nilCheck x) K t1 t2 = (pvc P tb id σ dst (Op.nilCheck x) ∧ feedE (peff tb id σ (Op.nilCheck x)) K ⟨⟩) := stepU_pure _ _ _ _ _ _ rfl _ _
@[go_sem ↓] theorem sG_nilCheck (t1 : Tag (Op.nilCheck x)) (t2 : Tag K) : stepG P tb id σ dst C (Op.nilCheck x) K t1 t2 = ((C = true → pvc P tb id σ dst (Op.nilCheck x) ∧ (peff tb id σ (Op.nilCheck x)).upds = []) ∧ feedE ⟨.gd C (peff tb id σ (Op.nilCheck x)).av, []⟩ K ⟨⟩) := stepG_pure _ _ _ _ _ _ _ rfl _ _
@[go_sem ↓] theorem sU_field (t1 : Tag (Op.field Ty0 x n)) (t2 : Tag K) : stepU P tb id σ dst (Op.field Ty0 x n) K t1 t2 = (pvc P tb id σ dst (Op.field Ty0 x n) ∧ feedE (peff tb id σ (Op.field Ty0 x n)) K ⟨⟩) := stepU_pure _ _ _ _ _ _ rfl _ _
@[go_sem ↓] theorem sG_field (t1 : Tag (Op.field Ty0 x n)) (t2 : Tag K) : stepG P tb id σ dst C (Op.field Ty0 x n) K t1 t2 = ((C = true → pvc P tb id σ dst (Op.field Ty0 x n) ∧ (peff tb id σ (Op.field Ty0 x n)).upds = []) ∧ feedE ⟨.gd C (peff tb id σ (Op.field Ty0 x n)).av, []⟩ K ⟨⟩) := stepG_pure _ _ _ _ _ _ _ rfl _ _
@[go_sem ↓] theorem sU_extract (t1 : Tag (Op.extract x n)) (t2 : Tag K) : stepU P tb id σ dst (Op.extract x n) K t1 t2 = (pvc P tb id σ dst (Op.extract x n) ∧ feedE (peff tb id σ (Op.extract x n)) K ⟨⟩) := stepU_pure _ _ _ _ _ _ rfl _ _
@[go_sem ↓] theorem sG_extract (t1 : Tag (Op.extract x n)) (t2 : Tag K) : stepG P tb id σ dst C (Op.extract x n) K t1 t2 = ((C = true → pvc P tb id σ dst (Op.extract x n) ∧ (peff tb id σ (Op.extract x n)).upds = []) ∧ feedE ⟨.gd C (peff tb id σ (Op.extract x n)).av, []⟩ K ⟨⟩) := stepG_pure _ _ _ _ _ _ _ rfl _ _
@[go_sem ↓] theorem sU_indexAddr (t1 : Tag (Op.indexAddr Ty0 x y)) (t2 : Tag K) : stepU P tb id σ dst (Op.indexAddr Ty0 x y) K t1 t2 = (pvc P tb id σ dst (Op.indexAddr Ty0 x y) ∧ feedE (peff tb id σ (Op.indexAddr Ty0 x y)) K ⟨⟩) := stepU_pure _ _ _ _ _ _ rfl _ _
@[go_sem ↓] theorem sG_indexAddr (t1 : Tag (Op.indexAddr Ty0 x y)) (t2 : Tag K) : stepG P tb id σ dst C (Op.indexAddr Ty0 x y) K t1 t2 = ((C = true → pvc P tb id σ dst (Op.indexAddr Ty0 x y) ∧ (peff tb id σ (Op.indexAddr Ty0 x y)).upds = []) ∧ feedE ⟨.gd C (peff tb id σ (Op.indexAddr Ty0 x y)).av, []⟩ K ⟨⟩) := stepG_pure _ _ _ _ _ _ _ rfl _ _
@[go_sem ↓] theorem sU_index (t1 : Tag (Op.index Ty0 x y)) (t2 : Tag K) : stepU P tb id σ dst (Op.index Ty0 x y) K t1 t2 = (pvc P tb id σ dst (Op.index Ty0 x y) ∧ feedE (peff tb id σ (Op.index Ty0 x y)) K ⟨⟩) := stepU_pure _ _ _ _ _ _ rfl _ _
@[go_sem ↓] theorem sG_index (t1 : Tag (Op.index Ty0 x y)) (t2 : Tag K) : stepG P tb id σ dst C (Op.index Ty0 x y) K t1 t2 = ((C = true → pvc P tb id σ dst (Op.index Ty0 x y) ∧ (peff tb id σ (Op.index Ty0 x y)).upds = []) ∧ feedE ⟨.gd C (peff tb id σ (Op.index Ty0 x y)).av, []⟩ K ⟨⟩) := stepG_pure _ _ _ _ _ _ _ rfl _ _
@[go_sem ↓] theorem sU_slice (t1 : Tag (Op.slice Ty0 x lo hi none)) (t2 : Tag K) : stepU P tb id σ dst (Op.slice Ty0 x lo hi none) K t1 t2 = (pvc P tb id σ dst (Op.slice Ty0 x lo hi none) ∧ feedE (peff tb id σ (Op.slice Ty0 x lo hi none)) K ⟨⟩) := stepU_pure _ _ _ _ _ _ rfl _ _
@[go_sem ↓] theorem sG_slice (t1 : Tag (Op.slice Ty0 x lo hi none)) (t2 : Tag K) : stepG P tb id σ dst C (Op.slice Ty0 x lo hi none) K t1 t2 = ((C = true → pvc P tb id σ dst (Op.slice Ty0 x lo hi none) ∧ (peff tb id σ (Op.slice Ty0 x lo hi none)).upds = []) ∧ feedE ⟨.gd C (peff tb id σ (Op.slice Ty0 x lo hi none)).av, []⟩ K ⟨⟩) := stepG_pure _ _ _ _ _ _ _ rfl _ _
@[go_sem ↓] theorem sU_build (t1 : Tag (Op.build Ty0 ps)) (t2 : Tag K) : stepU P tb id σ dst (Op.build Ty0 ps) K t1 t2 = (pvc P tb id σ dst (Op.build Ty0 ps) ∧ feedE (peff tb id σ (Op.build Ty0 ps)) K ⟨⟩) := stepU_pure _ _ _ _ _ _ rfl _ _
@[go_sem ↓] theorem sG_build (t1 : Tag (Op.build Ty0 ps)) (t2 : Tag K) : stepG P tb id σ dst C (Op.build Ty0 ps) K t1 t2 = ((C = true → pvc P tb id σ dst (Op.build Ty0 ps) ∧ (peff tb id σ (Op.build Ty0 ps)).upds = []) ∧ feedE ⟨.gd C (peff tb id σ (Op.build Ty0 ps)).av, []⟩ K ⟨⟩) := stepG_pure _ _ _ _ _ _ _ rfl _ _
@[go_sem ↓] theorem sU_buildSlice (t1 : Tag (Op.buildSlice Ty0 n ps)) (t2 : Tag K) : stepU P tb id σ dst (Op.buildSlice Ty0 n ps) K t1 t2 = (pvc P tb id σ dst (Op.buildSlice Ty0 n ps) ∧ feedE (peff tb id σ (Op.buildSlice Ty0 n ps)) K ⟨⟩) := stepU_pure _ _ _ _ _ _ rfl _ _
@[go_sem ↓] theorem sG_buildSlice (t1 : Tag (Op.buildSlice Ty0 n ps)) (t2 : Tag K) : stepG P tb id σ dst C (Op.buildSlice Ty0 n ps) K t1 t2 = ((C = true → pvc P tb id σ dst (Op.buildSlice Ty0 n ps) ∧ (peff tb id σ (Op.buildSlice Ty0 n ps)).upds = []) ∧ feedE ⟨.gd C (peff tb id σ (Op.buildSlice Ty0 n ps)).av, []⟩ K ⟨⟩) := stepG_pure _ _ _ _ _ _ _ rfl _ _
@[go_sem ↓] theorem sU_makeSlice (t1 : Tag (Op.makeSlice Ty0 x y)) (t2 : Tag K) : stepU P tb id σ dst (Op.makeSlice Ty0 x y) K t1 t2 = (pvc P tb id σ dst (Op.makeSlice Ty0 x y) ∧ feedE (peff tb id σ (Op.makeSlice Ty0 x y)) K ⟨⟩) := stepU_pure _ _ _ _ _ _ rfl _ _
@[go_sem ↓] theorem sU_binOp (t1 : Tag (Op.binOp op Ty0 x y Ty1)) (t2 : Tag K) : stepU P tb id σ dst (Op.binOp op Ty0 x y Ty1) K t1 t2 = (pvc P tb id σ dst (Op.binOp op Ty0 x y Ty1) ∧ feedE (peff tb id σ (Op.binOp op Ty0 x y Ty1)) K ⟨⟩) := stepU_pure _ _ _ _ _ _ rfl _ _
@[go_sem ↓] theorem sG_binOp (t1 : Tag (Op.binOp op Ty0 x y Ty1)) (t2 : Tag K) : stepG P tb id σ dst C (Op.binOp op Ty0 x y Ty1) K t1 t2 = ((C = true → pvc P tb id σ dst (Op.binOp op Ty0 x y Ty1) ∧ (peff tb id σ (Op.binOp op Ty0 x y Ty1)).upds = []) ∧ feedE ⟨.gd C (peff tb id σ (Op.binOp op Ty0 x y Ty1)).av, []⟩ K ⟨⟩) := stepG_pure _ _ _ _ _ _ _ rfl _ _
@[go_sem ↓] theorem sU_unOp (t1 : Tag (Op.unOp uo Ty0 x)) (t2 : Tag K) : stepU P tb id σ dst (Op.unOp uo Ty0 x) K t1 t2 = (pvc P tb id σ dst (Op.unOp uo Ty0 x) ∧ feedE (peff tb id σ (Op.unOp uo Ty0 x)) K ⟨⟩) := stepU_pure _ _ _ _ _ _ rfl _ _
@[go_sem ↓] theorem sG_unOp (t1 : Tag (Op.unOp uo Ty0 x)) (t2 : Tag K) : stepG P tb id σ dst C (Op.unOp uo Ty0 x) K t1 t2 = ((C = true → pvc P tb id σ dst (Op.unOp uo Ty0 x) ∧ (peff tb id σ (Op.unOp uo Ty0 x)).upds = []) ∧ feedE ⟨.gd C (peff tb id σ (Op.unOp uo Ty0 x)).av, []⟩ K ⟨⟩) := stepG_pure _ _ _ _ _ _ _ rfl _ _
@[go_sem ↓] theorem sU_makeFunc (f : FuncId) (t1 : Tag (Op.makeFunc (.func f) #[] #[x])) (t2 : Tag K) : stepU P tb id σ dst (Op.makeFunc (.func f) #[] #[x]) K t1 t2 = (σ.uc x ∧ feedE ⟨.fn f [σ.un x], []⟩ K ⟨⟩) := by rw [stepU_pure _ _ _ _ _ _ rfl]; rfl
@[go_sem ↓] theorem sU_convert (t1 : Tag (Op.convert Ty0 Ty1 x)) (t2 : Tag K) : stepU P tb id σ dst (Op.convert Ty0 Ty1 x) K t1 t2 = (pvc P tb id σ dst (Op.convert Ty0 Ty1 x) ∧ feedE (peff tb id σ (Op.convert Ty0 Ty1 x)) K ⟨⟩) := stepU_pure _ _ _ _ _ _ rfl _ _
@[go_sem ↓] theorem sG_convert (t1 : Tag (Op.convert Ty0 Ty1 x)) (t2 : Tag K) : stepG P tb id σ dst C (Op.convert Ty0 Ty1 x) K t1 t2 = ((C = true → pvc P tb id σ dst (Op.convert Ty0 Ty1 x) ∧ (peff tb id σ (Op.convert Ty0 Ty1 x)).upds = []) ∧ feedE ⟨.gd C (peff tb id σ (Op.convert Ty0 Ty1 x)).av, []⟩ K ⟨⟩) := stepG_pure _ _ _ _ _ _ _ rfl _ _
@[go_sem ↓] theorem sU_len (t1 : Tag (Op.call { callee := .builtin .len, args := as, argTypes := ts })) (t2 : Tag K) : stepU P tb id σ dst (Op.call { callee := .builtin .len, args := as, argTypes := ts }) K t1 t2 = (pvc P tb id σ dst (Op.call { callee := .builtin .len, args := as, argTypes := ts }) ∧ feedE (peff tb id σ (Op.call { callee := .builtin .len, args := as, argTypes := ts })) K ⟨⟩) := stepU_pure _ _ _ _ _ _ rfl _ _
@[go_sem ↓] theorem sG_len (t1 : Tag (Op.call { callee := .builtin .len, args := as, argTypes := ts })) (t2 : Tag K) : stepG P tb id σ dst C (Op.call { callee := .builtin .len, args := as, argTypes := ts }) K t1 t2 = ((C = true → pvc P tb id σ dst (Op.call { callee := .builtin .len, args := as, argTypes := ts }) ∧ (peff tb id σ (Op.call { callee := .builtin .len, args := as, argTypes := ts })).upds = []) ∧ feedE ⟨.gd C (peff tb id σ (Op.call { callee := .builtin .len, args := as, argTypes := ts })).av, []⟩ K ⟨⟩) := stepG_pure _ _ _ _ _ _ _ rfl _ _
@[go_sem ↓] theorem sU_min (t1 : Tag (Op.call { callee := .builtin .min, args := as, argTypes := ts })) (t2 : Tag K) : stepU P tb id σ dst (Op.call { callee := .builtin .min, args := as, argTypes := ts }) K t1 t2 = (pvc P tb id σ dst (Op.call { callee := .builtin .min, args := as, argTypes := ts }) ∧ feedE (peff tb id σ (Op.call { callee := .builtin .min, args := as, argTypes := ts })) K ⟨⟩) := stepU_pure _ _ _ _ _ _ rfl _ _
@[go_sem ↓] theorem sG_min (t1 : Tag (Op.call { callee := .builtin .min, args := as, argTypes := ts })) (t2 : Tag K) : stepG P tb id σ dst C (Op.call { callee := .builtin .min, args := as, argTypes := ts }) K t1 t2 = ((C = true → pvc P tb id σ dst (Op.call { callee := .builtin .min, args := as, argTypes := ts }) ∧ (peff tb id σ (Op.call { callee := .builtin .min, args := as, argTypes := ts })).upds = []) ∧ feedE ⟨.gd C (peff tb id σ (Op.call { callee := .builtin .min, args := as, argTypes := ts })).av, []⟩ K ⟨⟩) := stepG_pure _ _ _ _ _ _ _ rfl _ _
@[go_sem ↓] theorem sU_max (t1 : Tag (Op.call { callee := .builtin .max, args := as, argTypes := ts })) (t2 : Tag K) : stepU P tb id σ dst (Op.call { callee := .builtin .max, args := as, argTypes := ts }) K t1 t2 = (pvc P tb id σ dst (Op.call { callee := .builtin .max, args := as, argTypes := ts }) ∧ feedE (peff tb id σ (Op.call { callee := .builtin .max, args := as, argTypes := ts })) K ⟨⟩) := stepU_pure _ _ _ _ _ _ rfl _ _
@[go_sem ↓] theorem sG_max (t1 : Tag (Op.call { callee := .builtin .max, args := as, argTypes := ts })) (t2 : Tag K) : stepG P tb id σ dst C (Op.call { callee := .builtin .max, args := as, argTypes := ts }) K t1 t2 = ((C = true → pvc P tb id σ dst (Op.call { callee := .builtin .max, args := as, argTypes := ts }) ∧ (peff tb id σ (Op.call { callee := .builtin .max, args := as, argTypes := ts })).upds = []) ∧ feedE ⟨.gd C (peff tb id σ (Op.call { callee := .builtin .max, args := as, argTypes := ts })).av, []⟩ K ⟨⟩) := stepG_pure _ _ _ _ _ _ _ rfl _ _
@[go_sem ↓] theorem sU_append (t1 : Tag (Op.call { callee := .builtin .append, args := as, argTypes := ts })) (t2 : Tag K) : stepU P tb id σ dst (Op.call { callee := .builtin .append, args := as, argTypes := ts }) K t1 t2 = (pvc P tb id σ dst (Op.call { callee := .builtin .append, args := as, argTypes := ts }) ∧ feedE (peff tb id σ (Op.call { callee := .builtin .append, args := as, argTypes := ts })) K ⟨⟩) := stepU_pure _ _ _ _ _ _ rfl _ _
@[go_sem ↓] theorem sG_append (t1 : Tag (Op.call { callee := .builtin .append, args := as, argTypes := ts })) (t2 : Tag K) : stepG P tb id σ dst C (Op.call { callee := .builtin .append, args := as, argTypes := ts }) K t1 t2 = ((C = true → pvc P tb id σ dst (Op.call { callee := .builtin .append, args := as, argTypes := ts }) ∧ (peff tb id σ (Op.call { callee := .builtin .append, args := as, argTypes := ts })).upds = []) ∧ feedE ⟨.gd C (peff tb id σ (Op.call { callee := .builtin .append, args := as, argTypes := ts })).av, []⟩ K ⟨⟩) := stepG_pure _ _ _ _ _ _ _ rfl _ _
@[go_sem ↓] theorem sU_call (f : FuncId) (la : List Operand) (lt : List TypeId) (t1 : Tag (Op.call { callee := .value (.func f), args := la.toArray, argTypes := lt.toArray })) (t2 : Tag K) :
    stepU P tb id σ dst (.call { callee := .value (.func f), args := la.toArray, argTypes := lt.toArray }) K t1 t2 = (la.length = lt.length ∧ if plB σ la = true then argC σ tb (la.zip lt) ∧ callQ P f (argD σ tb (la.zip lt)) (fun rv => rvN rv ≤ 16 ∧ unb σ id (rvN rv) ∧ feedE ⟨recvA id rv, recvU id rv⟩ K ⟨⟩) ⟨⟩
    else callMQ P f (argC σ.settle tb (la.zip lt)) (argD σ.settle tb (la.zip lt)) (mArgC σ tb (la.zip lt)) (mArgS σ (la.zip lt)) (mArgD σ tb (la.zip lt)) (mArgI σ (la.zip lt))
      (fun rv => rvN rv ≤ 16 ∧ unb σ id (rvN rv) ∧ feedE ⟨recvA id rv, recvU id rv⟩ K ⟨⟩)
      (fun rv outs => rvN rv ≤ 16 ∧ unb σ id (rvN rv) ∧ feedE ⟨recvA id rv, (mArgI σ (la.zip lt)).zip outs ++ recvU id rv⟩ K ⟨⟩) ⟨⟩ ⟨⟩) := (rfl)
@[go_sem ↓] theorem sG_call (f : FuncId) (la : List Operand) (lt : List TypeId) (t1 : Tag (Op.call { callee := .value (.func f), args := la.toArray, argTypes := lt.toArray })) (t2 : Tag K) :
    stepG P tb id σ dst C (.call { callee := .value (.func f), args := la.toArray, argTypes := lt.toArray }) K t1 t2 = (if plB σ la = true then (C = true → la.length = lt.length ∧ argC σ tb (la.zip lt)) ∧ callH P C f (argD σ tb (la.zip lt)) (fun rv => feedE ⟨.gd C (recvG rv), []⟩ K ⟨⟩) ⟨⟩
    else (C = true → la.length = lt.length ∧ argC σ.settle tb (la.zip lt)) ∧ callH P C f (argD σ.settle tb (la.zip lt)) (fun rv => rv.noL = true ∧ feedE ⟨.gd C (recvG rv), []⟩ K ⟨⟩) ⟨⟩) := (rfl)
end

/-! ### States and values -/
section
variable (tm : List (Nat × AV)) (ob : List (Nat × AObj)) (d t i : Nat) (av : AV) (o : AObj) (us : List (Nat × AObj)) (objs : Nat → AObj)
theorem put_shp : (shp tm ob).put (some d) av = shp ((d, av) :: tm) ob := rfl
@[go_sem ↓] theorem app_cons (dst : Option Nat) : (shp tm ob).app dst ⟨av, (i, o) :: us⟩ = (shp tm ((i, o) :: ob)).app dst ⟨av, us⟩ := by
  cases dst <;> rfl
@[go_sem ↓] theorem app_some : (shp tm ob).app (some d) ⟨av, []⟩ = shp ((d, av) :: tm) ob := (rfl)
@[go_sem ↓] theorem app_none : (shp tm ob).app none ⟨av, []⟩ = shp tm ob := (rfl)
@[go_sem ↓] theorem shp_tmps : (shp tm ob).tmps t = lkT tm t := (rfl)
@[go_sem ↓] theorem shp_objs : (shp tm ob).objs = lkO ob := (rfl)
@[go_sem ↓] theorem ev_tmp : (shp tm ob).ev (.tmp t) = lkT tm t := (rfl)
@[go_sem ↓] theorem ev_const (v : Value) : (shp tm ob).ev (.const v) = constAV v := (rfl)
@[go_sem ↓ high] theorem lkT_hit : lkT ((t, av) :: tm) t = av := by simp only [lkT, Nat.beq_refl, cond_true]
@[go_sem ↓] theorem lkT_miss (h : (t == i) = false) : lkT ((i, av) :: tm) t = lkT tm t := by
  have : Nat.beq t i = false := by
    cases hb : Nat.beq t i with
    | false => rfl
    | true => rw [Nat.eq_of_beq_eq_true hb] at h; simp at h
  simp only [lkT, this, cond_false]
@[go_sem ↓] theorem lkT_nil : lkT [] t = .any := (rfl)
@[go_sem ↓ high] theorem lkO_hit : lkO ((t, o) :: ob) t = o := by simp only [lkO, Nat.beq_refl, cond_true]
@[go_sem ↓] theorem lkO_miss (h : (t == i) = false) : lkO ((i, o) :: ob) t = lkO ob t := by
  have : Nat.beq t i = false := by
    cases hb : Nat.beq t i with
    | false => rfl
    | true => rw [Nat.eq_of_beq_eq_true hb] at h; simp at h
  simp only [lkO, this, cond_false]
@[go_sem ↓] theorem lkO_nil : lkO [] t = .unborn := (rfl)

@[go_sem] theorem constAV_bool (b : Bool) : constAV (.bool b) = .rd .bool b := (rfl)
@[go_sem] theorem constAV_nils : constAV (.slice none 0 0) = .nils := (rfl)
@[go_sem] theorem constAV_int (n : Int) (h : (decide (-9223372036854775808 ≤ n) && decide (n ≤ 9223372036854775807)) = true) : constAV (.int .i64 n) = .rd (.int .i64) n := by
  simp only [Bool.and_eq_true, decide_eq_true_eq] at h
  exact constAV_i64 n h.1 h.2
@[go_sem] theorem constAV_u64 (n : Int) (h : (decide (0 ≤ n) && decide (n ≤ 18446744073709551615)) = true) : constAV (.int .u64 n) = .rd (.int .u64) n := by
  simp only [Bool.and_eq_true, decide_eq_true_eq] at h
  have e1 : decide (IntKind.u64.min ≤ n) = true := by simp [IntKind.min, IntKind.signed, IntKind.bits]; omega
  have e2 : decide (n ≤ IntKind.u64.max) = true := by simp [IntKind.max, IntKind.signed, IntKind.bits]; omega
  simp only [constAV, e1, e2, Bool.and_self, cond_true]

@[go_sem] theorem un_gd (c : Bool) (a : AV) : (AV.gd c a).un = a.un := (rfl)
@[go_sem] theorem uc_gd (c : Bool) (a : AV) : (AV.gd c a).uc = (c = true ∧ a.uc) := (rfl)
@[go_sem] theorem un_rd (t : Ty) (x : t.den) : (.rd t x : AV).un = .rd t x := (rfl)
@[go_sem] theorem uc_rd (t : Ty) (x : t.den) : (.rd t x : AV).uc = True := (rfl)
@[go_sem] theorem un_any  : (.any : AV).un = .any := (rfl)
@[go_sem] theorem uc_any  : (.any : AV).uc = True := (rfl)
@[go_sem] theorem un_ptr (t : Ty) (x : t.den) : (.ptr t x : AV).un = .ptr t x := (rfl)
@[go_sem] theorem uc_ptr (t : Ty) (x : t.den) : (.ptr t x : AV).uc = True := (rfl)
@[go_sem] theorem un_nils  : (.nils : AV).un = .nils := (rfl)
@[go_sem] theorem uc_nils  : (.nils : AV).uc = True := (rfl)
@[go_sem] theorem un_own (i : Nat) : (.own i : AV).un = .own i := (rfl)
@[go_sem] theorem uc_own (i : Nat) : (.own i : AV).uc = True := (rfl)
@[go_sem] theorem un_bp (i o : Nat) : (.bp i o : AV).un = .bp i o := (rfl)
@[go_sem] theorem uc_bp (i o : Nat) : (.bp i o : AV).uc = True := (rfl)
@[go_sem] theorem un_ep (i s k : Nat) : (.ep i s k : AV).un = .ep i s k := (rfl)
@[go_sem] theorem uc_ep (i s k : Nat) : (.ep i s k : AV).uc = True := (rfl)
@[go_sem] theorem un_ef (i s k f : Nat) : (.ef i s k f : AV).un = .ef i s k f := (rfl)
@[go_sem] theorem uc_ef (i s k f : Nat) : (.ef i s k f : AV).uc = True := (rfl)
@[go_sem] theorem un_agg (cs : List AV) : (.agg cs : AV).un = .agg cs := (rfl)
@[go_sem] theorem uc_agg (cs : List AV) : (.agg cs : AV).uc = True := (rfl)
@[go_sem] theorem un_tup (cs : List AV) : (.tup cs : AV).un = .tup cs := (rfl)
@[go_sem] theorem uc_tup (cs : List AV) : (.tup cs : AV).uc = True := (rfl)

@[go_sem] theorem tvd_rd' (t : Ty) (x : t.den) : tvd objs t (.rd t x) = x := tvd_rd objs t x
@[go_sem] theorem tvc_rd' (t t' : Ty) (x : t'.den) (h : t' = t) : tvc objs t (.rd t' x) = True := by
  subst h; exact tvc_rd objs t' x
@[go_sem] theorem tvd_nils' (t : Ty) : tvd objs (.list t) .nils = [] := (rfl)
@[go_sem] theorem tvc_nils' (t : Ty) : tvc objs (.list t) .nils = True := (rfl)
@[go_sem] theorem tvd_own' (t : Ty) (i : Nat) : tvd objs (.list t) (.own i) = rowOf objs i t := (rfl)
def rowC (o : AObj) (t : Ty) : Prop := match o with
  | .row _ t' _ => t' = t
  | .tl _ t' _ => t' = t
  | .sd _ t' _ => t' = t
  | _ => False
@[go_sem] theorem tvc_own' (t : Ty) (i : Nat) : tvc objs (.list t) (.own i) = rowC (objs i) t := by rw [tvc_own]; rfl
@[go_sem] theorem rowC_row (e : TypeId) (t t' : Ty) (xs : List t'.den) : rowC (.row e t' xs) t = (t' = t) := (rfl)
@[go_sem] theorem rowC_tl (e : TypeId) (t t' : Ty) (xs : List t'.den) : rowC (.tl e t' xs) t = (t' = t) := (rfl)
@[go_sem] theorem rowC_sd (te : Ty → TypeId) (t t' : Ty) (xs : List t'.den) : rowC (.sd te t' xs) t = (t' = t) := (rfl)
@[go_sem] theorem rowC_arr (e : TypeId) (t t' : Ty) (xs : List t'.den) : rowC (.arr e t' xs) t = False := (rfl)
@[go_sem] theorem rowC_deep (te : Ty → TypeId) (t t' : Ty) (xs : List t'.den) : rowC (.deep te t' xs) t = False := (rfl)
@[go_sem] theorem rowC_bld (te : Ty → TypeId) (t t' : Ty) (xs : List t'.den) : rowC (.bld te t' xs) t = False := (rfl)
@[go_sem] theorem tvd_cons' (h t : Ty) (c : AV) (cs : List AV) : tvd objs (.cons h t) (.agg (c :: cs)) = (tvd objs h c, tvd objs t (.agg cs)) := by simp only [tvd]
@[go_sem] theorem tvd_nil' : tvd objs .nil (.agg []) = () := (rfl)
@[go_sem] theorem tvc_cons' (h t : Ty) (c : AV) (cs : List AV) : tvc objs (.cons h t) (.agg (c :: cs)) = (h.flat1 = true ∧ tvc objs h c ∧ tvc objs t (.agg cs)) := by simp only [tvc]
@[go_sem] theorem tvc_nil' : tvc objs .nil (.agg []) = True := by simp only [tvc]
@[go_sem] theorem gcond_rd (c b : Bool) : gcond (.rd .bool c) b = some (c == b) := (rfl)
@[go_sem] theorem gcond_gd (c b : Bool) (a : AV) : gcond (.gd c a) b = (gcond a b).map (c && ·) := (rfl)
@[go_sem] theorem gval_some (d : Nat) (b : Bool) : gval (shp tm ob) (some d) b = gcond (lkT tm d) b := (rfl)
@[go_sem] theorem imp_dup (p q : Prop) : (p → p ∧ q) = (p → q) := propext ⟨fun h hp => (h hp).2, fun h hp => ⟨hp, h hp⟩⟩
end

section
variable (k : IntKind) (x y : Int)
@[go_sem] theorem bopI_add : bopI .add k x y = .rd (.int k) (k.wrap (x + y)) := (rfl)
@[go_sem] theorem bopC_add : bopC .add y = True := (rfl)
@[go_sem] theorem bopI_sub : bopI .sub k x y = .rd (.int k) (k.wrap (x - y)) := (rfl)
@[go_sem] theorem bopC_sub : bopC .sub y = True := (rfl)
@[go_sem] theorem bopI_mul : bopI .mul k x y = .rd (.int k) (k.wrap (x * y)) := (rfl)
@[go_sem] theorem bopC_mul : bopC .mul y = True := (rfl)
@[go_sem] theorem bopI_quo : bopI .quo k x y = .rd (.int k) (k.wrap (x.tdiv y)) := (rfl)
@[go_sem] theorem bopI_rem : bopI .rem k x y = .rd (.int k) (x.tmod y) := (rfl)
@[go_sem] theorem bopI_eql : bopI .eql k x y = .rd .bool (x == y) := (rfl)
@[go_sem] theorem bopC_eql : bopC .eql y = True := (rfl)
@[go_sem] theorem bopI_neq : bopI .neq k x y = .rd .bool (x != y) := (rfl)
@[go_sem] theorem bopC_neq : bopC .neq y = True := (rfl)
@[go_sem] theorem bopI_lss : bopI .lss k x y = .rd .bool (decide (x < y)) := (rfl)
@[go_sem] theorem bopC_lss : bopC .lss y = True := (rfl)
@[go_sem] theorem bopI_leq : bopI .leq k x y = .rd .bool (decide (x ≤ y)) := (rfl)
@[go_sem] theorem bopC_leq : bopC .leq y = True := (rfl)
@[go_sem] theorem bopI_gtr : bopI .gtr k x y = .rd .bool (decide (x > y)) := (rfl)
@[go_sem] theorem bopC_gtr : bopC .gtr y = True := (rfl)
@[go_sem] theorem bopI_geq : bopI .geq k x y = .rd .bool (decide (x ≥ y)) := (rfl)
@[go_sem] theorem bopC_geq : bopC .geq y = True := (rfl)
@[go_sem] theorem bopC_quo : bopC .quo y = (y ≠ 0) := (rfl)
@[go_sem] theorem bopC_rem : bopC .rem y = (y ≠ 0) := (rfl)
@[go_sem] theorem bopI_shl : bopI .shl k x y = .rd (.int k) (k.wrap (x * 2 ^ (min y.toNat k.bits))) := (rfl)
@[go_sem] theorem bopI_shr : bopI .shr k x y = .rd (.int k) (x.fdiv (2 ^ (min y.toNat k.bits))) := (rfl)
@[go_sem] theorem bopI_and : bopI .and k x y = .rd (.int k) (bitI .and k x y) := (rfl)
@[go_sem] theorem bopI_or : bopI .or k x y = .rd (.int k) (bitI .or k x y) := (rfl)
@[go_sem] theorem bopI_xor : bopI .xor k x y = .rd (.int k) (bitI .xor k x y) := (rfl)
@[go_sem] theorem bopC_and : bopC .and y = True := (rfl)
@[go_sem] theorem bopC_or : bopC .or y = True := (rfl)
@[go_sem] theorem bopC_xor : bopC .xor y = True := (rfl)
end

/-! ### A function's end -/
mutual
def rvI : AV → RV → List Nat
  | .own i, .own _ _ _ => [i]
  | .own i, .fresh _ _ _ => [i]
  | .own i, .tl _ _ _ => [i]
  | .own i, .deep _ _ _ => [i]
  | .agg cs, .agg rs => rvIs cs rs
  | .tup cs, .tup rs => rvIs cs rs
  | _, _ => []
def rvIs : List AV → List RV → List Nat
  | a :: as, r :: rs => rvI a r ++ rvIs as rs
  | _, _ => []
end
mutual
def rvC (objs : Nat → AObj) : AV → RV → Prop
  | a, .rd t x => a.uc ∧ tvc objs t a.un ∧ tvd objs t a.un = x
  | .own i, .own e t xs => objs i = .row e t xs
  | .own i, .fresh e t xs => objs i = .arr e t xs
  | .own i, .tl e t xs => objs i = .row e t xs ∨ objs i = .tl e t xs
  | .own i, .deep te t xs => objs i = .deep te t xs ∨ objs i = .bld te t xs
  | .nils, .deep _ t xs => xs = [] ∧ 0 < t.size
  | .nils, .own _ t xs => xs = [] ∧ 0 < t.size
  | .nils, .tl _ t xs => xs = [] ∧ 0 < t.size
  | .agg cs, .agg rs => rvCs objs cs rs
  | .tup cs, .tup rs => rvCs objs cs rs
  | _, _ => False
def rvCs (objs : Nat → AObj) : List AV → List RV → Prop
  | [], [] => True
  | a :: as, r :: rs => rvC objs a r ∧ rvCs objs as rs
  | _, _ => False
end
mutual
theorem rvC_le (objs : Nat → AObj) : ∀ (rv : RV) (a : AV), rvC objs a rv → RVle objs a rv (rvI a rv)
  | .rd t x, a, h => by
    have h' : a.uc ∧ tvc objs t a.un ∧ tvd objs t a.un = x := by cases a <;> simpa only [rvC] using h
    have e : rvI a (.rd t x) = [] := by cases a <;> simp only [rvI]
    rw [e]
    cases a <;> simp only [RVle] <;> exact ⟨trivial, h'⟩
  | .own e t xs, a, h => by
    cases a <;> simp only [rvC] at h
    · simp only [rvI, RVle]; exact ⟨trivial, h⟩
    · simp only [rvI, RVle]; exact ⟨trivial, h⟩
  | .fresh e t xs, a, h => by
    cases a <;> simp only [rvC] at h
    simp only [rvI, RVle]; exact ⟨trivial, h⟩
  | .tl e t xs, a, h => by
    cases a <;> simp only [rvC] at h
    · simp only [rvI, RVle]; exact ⟨trivial, h⟩
    · simp only [rvI, RVle]; exact ⟨trivial, h⟩
  | .deep te t xs, a, h => by
    cases a <;> simp only [rvC] at h
    · simp only [rvI, RVle]; exact ⟨trivial, h⟩
    · simp only [rvI, RVle]; exact ⟨trivial, h⟩
  | .agg rs, a, h => by
    cases a <;> simp only [rvC] at h
    simp only [rvI, RVle]; exact rvCs_le objs rs _ h
  | .tup rs, a, h => by
    cases a <;> simp only [rvC] at h
    simp only [rvI, RVle]; exact rvCs_le objs rs _ h
theorem rvCs_le (objs : Nat → AObj) : ∀ (rs : List RV) (as : List AV), rvCs objs as rs → RVsle objs as rs (rvIs as rs)
  | [], as, h => by
    cases as <;> simp only [rvCs] at h
    simp only [rvIs, RVsle]
  | r :: rs, as, h => by
    cases as with
    | nil => simp only [rvCs] at h
    | cons a as =>
      simp only [rvCs] at h
      simp only [rvIs, RVsle]
      exact ⟨_, _, rfl, rvC_le objs r a h.1, rvCs_le objs rs as h.2⟩
end

/-- What a function's end asks. -/
def retS (P : Program) (tb : Tb) (rs : List ResultVar) (rv : RV) (σ : St) : Prop :=
  resAll P tb σ rs ∧ (rvI (oneOf (resL tb σ rs)) rv).Nodup ∧ rvC σ.objs (oneOf (resL tb σ rs)) rv

def retC (P : Program) (tb : Tb) (rs : List ResultVar) (rv : RV) (σ : St) : Prop := retS P tb rs rv σ.settle

def setL : List (Nat × AObj) → List (Nat × AObj)
  | [] => []
  | p :: r => (p.1, p.2.settle) :: setL r
theorem setL_lk (i : Nat) : ∀ ob : List (Nat × AObj), lkO (setL ob) i = (lkO ob i).settle
  | [] => rfl
  | p :: r => by
    simp only [setL, lkO]
    cases Nat.beq i p.1 with
    | true => rfl
    | false => exact setL_lk i r
@[go_sem ↓] theorem settle_shp (tm : List (Nat × AV)) (ob : List (Nat × AObj)) : (shp tm ob).settle = shp tm (setL ob) := by
  unfold shp St.settle
  congr 1
  funext i
  exact (setL_lk i ob).symm

theorem T_settle {P : Program} {cx : Cx} {c : Code} {Q Q' : Exit → St → Prop} {σ : St} (h : T P cx c Q σ) (hq : ∀ e σ, Q e σ → Q' e σ.settle) : T P cx c Q' σ :=
  fun a w hs => wp_mono (h a w hs) fun e a' w' ⟨σ', h1, h2⟩ => ⟨σ'.settle, hq e σ' h1, sat_settle h2⟩

theorem T_mono {P : Program} {cx : Cx} {c : Code} {Q Q' : Exit → St → Prop} {σ : St} (h : T P cx c Q σ) (hq : ∀ e σ, Q e σ → Q' e σ) : T P cx c Q' σ :=
  fun a w hs => wp_mono (h a w hs) fun e a' w' ⟨σ', h1, h2⟩ => ⟨σ', hq e σ' h1, h2⟩

/-- A function, by its body, with its numbers. -/
theorem fun_of {P : Program} {tb : Tb} {f : FuncId} {fn : Func} {c : Code} {N : Nat} {rs : List ResultVar} {args : List TV} {rv : RV} (hm : P.follows .mixedOrders = true) (hf : P.funcs[f]? = some fn) (hn : (fn.name == "runtime.NumGoroutine") = false)
    (hN : fn.ntmps = N) (hr : fn.results = rs.toArray) (hb : fn.body = some c)
    (hl : Nat.ble args.length N = true)
    (h : ∀ cx : Cx, cx.is N [] → WFs args → aCode P tb cx N c (finQ (retC P tb rs rv)) (shp (initL 0 args) [])) : FunOK P f args rv := by
  subst hN
  refine fun_ofT (tb := tb) hf hn hb (Nat.le_of_ble_eq_true hl) fun cx hN hw => ?_
  have h1 := h cx hN hw
  rw [← hN.1] at h1
  refine T_settle (aCode_sound (cx := cx) hm h1) fun e σ hq => ?_
  have fin : retC P tb rs rv σ → RetQ P tb fn.results.toList rv σ.settle := by
    rintro ⟨q1, q2, q3⟩
    rw [hr]
    exact ⟨q1, _, q2, rvC_le σ.settle.objs rv _ q3⟩
  cases e with
  | normal => exact fin hq
  | ret => exact fin hq
  | _ => exact hq

/-- What is asked at the end of a function to which something is lent. -/
def retM (P : Program) (tb : Tb) (rs : List ResultVar) (n : Nat) (ms : List MA) (rv : RV) (outs : List AObj) (σ : St) : Prop :=
  retS P tb rs rv σ ∧ (rvI (oneOf (resL tb σ rs)) rv).all (fun i => Nat.ble n i) = true ∧ outsAt σ.objs 0 ms outs

theorem fun_ofM {P : Program} {tb : Tb} {f : FuncId} {fn : Func} {c : Code} {N : Nat} {rs : List ResultVar} {s : List (Option Nat)} {ms : List MA} {rv : RV} {outs : List AObj} (hm : P.follows .mixedOrders = true) (hf : P.funcs[f]? = some fn) (hn : (fn.name == "runtime.NumGoroutine") = false)
    (hN : fn.ntmps = N) (hr : fn.results = rs.toArray) (hb : fn.body = some c)
    (hs : shOK s ms.length) (hl : Nat.ble s.length N = true)
    (h : ∀ cx : Cx, cx.is N (initI 0 ms) → WFm ms → aCode P tb cx N c (finQ (retM P tb rs ms.length ms rv outs)) (shp (initM 0 0 s ms) (initO 0 ms))) : MutOK P f s ms rv outs := by
  subst hN
  refine fun_ofTM (tb := tb) hf hn hb hs (Nat.le_of_ble_eq_true hl) fun cx hN hw => ?_
  have h1 := h cx hN hw
  rw [← hN.1] at h1
  refine T_mono (aCode_sound (cx := cx) hm h1) fun e σ hq => ?_
  have fin : retM P tb rs ms.length ms rv outs σ → RetQM P tb fn.results.toList ms.length ms rv outs σ := by
    rintro ⟨⟨q1, q2, q3⟩, q4, q5⟩
    rw [hr]
    exact ⟨q1, ⟨_, q2, fun i hi => Nat.le_of_ble_eq_true (List.all_eq_true.1 q4 i hi), rvC_le σ.objs rv _ q3⟩, q5⟩
  cases e with
  | normal => exact fin hq
  | ret => exact fin hq
  | _ => exact hq

theorem beq_t (b : Bool) : (b == true) = b := by cases b <;> rfl
theorem beq_f (b : Bool) : (b == false) = !b := by cases b <;> rfl
theorem and_dup (a b : Bool) : (a && (a && b)) = (a && b) := by cases a <;> rfl
theorem bif_and (a b : Bool) : (bif a then b else false) = (a && b) := by cases a <;> rfl
theorem bif_or (a b : Bool) : (bif a then true else b) = (a || b) := by cases a <;> rfl
theorem nodup1 {α : Type} (i : α) : [i].Nodup = True := by simp
attribute [go_sem] Bool.or_eq_true Bool.or_eq_false_iff Bool.and_eq_true Bool.and_eq_false_iff eqC_t eqC_f Ty.basic arrTy intsOf intsC or_true true_or List.nodup_cons List.mem_cons List.not_mem_nil or_false retM outsAt initM initO initI mAV mAVs mCell mCellC mIds1 mAgg mAggC mIdsL mShape mOne mOneC mOneI mArgS mArgD mArgC mArgI plA plL plV plB rdOnly AObj.clo RV.noL RV.noLs Ty.noL lnD lnC List.all_cons List.all_nil List.zip_nil_right setL AObj.settle iaE iaC AObj.arr.injEq AObj.deep.injEq AObj.bld.injEq AObj.isDeep beq_t beq_f bif_and bif_or retC retS rvI rvIs rvC rvCs nodup1 List.nodup_nil List.length_cons List.length_nil List.zip_cons_cons List.zip_nil_left List.nil_append List.cons_append List.append_nil List.reverse_nil List.getD_cons_zero List.getD_cons_succ List.take_succ_cons List.take_zero List.drop_succ_cons List.drop_zero List.set_cons_zero List.set_cons_succ Option.map_some cond_true cond_false and_true true_and implies_true decide_eq_true_eq decide_eq_false_iff_not Bool.not_eq_true' Bool.not_eq_false' AObj.row.injEq AObj.tl.injEq heq_eq_eq forall_const
attribute [go_sem] St.un St.uc St.tv St.tc St.ti St.tb St.ts pvc peff argC setAll setAllC litD litC slD slC slE slP cellsAV cellsC oneC onesC Ty.nf Ty.size Ty.flats Ty.flat1 Ty.isAgg Ty.zeros explode rvN rvNs recvA recvAs recvU recvUs recvG recvGs unb AObj.live AObj.born rowOf castTo_self boxLoad initL resAll resC resL resAV oneOf

/-! ### Loops -/
def backQ {D : Type} (cx : Cx) (sh : D → St) (J : D → Prop) (μ : D → Nat) (d : D) (σ : St) (_ : Tag sh) (_ : Tag J) (_ : Tag μ) : Prop := ∃ d', J d' ∧ μ d' < μ d ∧ Sub cx σ (sh d')

theorem back_intro {D : Type} {cx : Cx} {sh : D → St} {J : D → Prop} {μ : D → Nat} {d : D} {σ : St} (d' : D) (h1 : J d') (h2 : μ d' < μ d) (h3 : Sub cx σ (sh d')) : backQ cx sh J μ d σ ⟨⟩ ⟨⟩ ⟨⟩ := ⟨d', h1, h2, h3⟩

theorem loop_intro {P : Program} {tb : Tb} {cx : Cx} {c : Code} {Q : Exit → St → Prop} {σ : St} {N : Nat} {l : List Nat} (hm : P.follows .mixedOrders = true) (hN : cx.is N l) {D : Type} (sh : D → St) (J : D → Prop) (μ : D → Nat) (d0 : D) (h0 : J d0) (hs0 : Sub cx σ (sh d0))
    (round : ∀ d, J d → aCode P tb cx N c (seqQ (fun σ' => backQ cx sh J μ d σ' ⟨⟩ ⟨⟩ ⟨⟩) Q) (sh d)) : loopQ P cx c Q σ ⟨⟩ ⟨⟩ ⟨⟩ := by
  obtain ⟨hN, _⟩ := hN
  subst hN
  refine T_loop sh J μ d0 h0 hs0 fun d hd => T_mono (aCode_sound (tb := tb) hm (round d hd)) fun e σ' hq => ?_
  cases e with
  | normal => exact hq
  | _ => exact hq

/-- A loop of a function that is gone through where it is called. -/
theorem loop_introF {P : Program} {tb : Tb} {cx : Cx} {c : Code} {Q : Exit → St → Prop} {σ : St} {N : Nat} (hm : P.follows .mixedOrders = true) (hN : cx.N = N) {D : Type} (sh : D → St) (J : D → Prop) (μ : D → Nat) (d0 : D) (h0 : J d0) (hs0 : Sub cx σ (sh d0))
    (round : ∀ d, J d → aCode P tb cx N c (seqQ (fun σ' => backQ cx sh J μ d σ' ⟨⟩ ⟨⟩ ⟨⟩) Q) (sh d)) : loopQ P cx c Q σ ⟨⟩ ⟨⟩ ⟨⟩ := by
  subst hN
  refine T_loop sh J μ d0 h0 hs0 fun d hd => T_mono (aCode_sound (tb := tb) hm (round d hd)) fun e σ' hq => ?_
  cases e with
  | normal => exact hq
  | _ => exact hq

/-! ### Calls of function values -/
def initV : Nat → List AV → List (Nat × AV)
  | _, [] => []
  | k, a :: r => (k, a) :: initV (k + 1) r
theorem initV_lk : ∀ (l : List AV) (k t : Nat), lkT (initV k l) t = initA k l t
  | [], _, _ => rfl
  | a :: r, k, t => by simp only [initV, lkT, initA, initV_lk r (k + 1) t]
def mergeS (tm : List (Nat × AV)) (dst : Option Nat) (av : AV) (σ' : St) : St := ⟨((shp tm []).put dst av).tmps, σ'.objs⟩
@[go_sem ↓] theorem mergeS_shp (tm tm' : List (Nat × AV)) (ob' : List (Nat × AObj)) (d : Nat) (av : AV) : mergeS tm (some d) av (shp tm' ob') = shp ((d, av) :: tm) ob' := (rfl)
@[go_sem ↓] theorem mergeS_none (tm tm' : List (Nat × AV)) (ob' : List (Nat × AObj)) (av : AV) : mergeS tm none av (shp tm' ob') = shp tm ob' := (rfl)
def contR (rs : List ResultVar) (tm : List (Nat × AV)) (dst : Option Nat) (id : Nat) (K : St → Nat → Prop) (_ : Tag K) (σ' : St) : Prop :=
  match resOf rs σ' with
  | some av => feedS (mergeS tm dst av σ') (id + 16) K ⟨⟩
  | none => False
@[go_sem ↓] theorem contR_nil (tm tm' : List (Nat × AV)) (ob' : List (Nat × AObj)) (dst : Option Nat) (id : Nat) (K : St → Nat → Prop) (t : Tag K) : contR [] tm dst id K t (shp tm' ob') = feedS (mergeS tm dst .any (shp tm' ob')) (id + 16) K ⟨⟩ := (rfl)
@[go_sem ↓] theorem contR_tmp (tm tm' : List (Nat × AV)) (ob' : List (Nat × AObj)) (dst : Option Nat) (id r : Nat) (K : St → Nat → Prop) (t : Tag K) : contR [.tmp r] tm dst id K t (shp tm' ob') = feedS (mergeS tm dst (lkT tm' r) (shp tm' ob')) (id + 16) K ⟨⟩ := (rfl)
@[go_sem ↓] theorem finC_normal (k : St → Prop) (σ : St) : finC k .normal σ = k σ := (rfl)
@[go_sem ↓] theorem finC_ret (k : St → Prop) (σ : St) : finC k .ret σ = k σ := (rfl)
@[go_sem ↓] theorem unL_cons (σ : St) (x : Operand) (r : List Operand) : unL σ (x :: r) = σ.un x :: unL σ r := (rfl)
@[go_sem ↓] theorem unL_nil (σ : St) : unL σ [] = [] := (rfl)
@[go_sem ↓] theorem initV_cons (k : Nat) (a : AV) (r : List AV) : initV k (a :: r) = (k, a) :: initV (k + 1) r := (rfl)
@[go_sem ↓] theorem initV_nil (k : Nat) : initV k [] = [] := (rfl)
theorem inl_of {P : Program} {tb : Tb} {tm : List (Nat × AV)} {ob : List (Nat × AObj)} {dst : Option Nat} {id N' : Nat} {la : List Operand} {K : St → Nat → Prop} {f : FuncId} {caps : List AV} {fn : Func} {c : Code} {rs : List ResultVar}
    (hm : P.follows .mixedOrders = true) (hf : P.funcs[f]? = some fn) (hn : (fn.name == "runtime.NumGoroutine") = false) (hb : fn.body = some c) (hr : fn.results = rs.toArray) (hN : fn.ntmps = N')
    (hl : Nat.ble (la.length + caps.length) N' = true) (hu : ucL (shp tm ob) la)
    (h : ∀ cx : Cx, cx.N = N' → aCode P (tb.at (id * 1000000)) cx N' c (finC (contR rs tm dst id K ⟨⟩)) (shp (initV 0 (unL (shp tm ob) la ++ caps)) ob)) : inlQ P (shp tm ob) dst f caps la (fun σ' => K σ' (id + 16)) := by
  subst hN
  refine ⟨fn, c, hf, hn, hb, Nat.le_of_ble_eq_true hl, hu, fun cx hN => ?_⟩
  have h1 := h cx hN
  rw [← hN] at h1
  have h2 := aCode_sound (cx := cx) hm h1
  have e1 : shp (initV 0 (unL (shp tm ob) la ++ caps)) ob = ⟨initA 0 (unL (shp tm ob) la ++ caps), (shp tm ob).objs⟩ := by
    unfold shp
    congr 1
    funext t
    exact initV_lk _ 0 t
  rw [e1] at h2
  refine T_mono h2 fun e σ' hq => ?_
  have fin : contR rs tm dst id K ⟨⟩ σ' → ∃ av, resOf fn.results.toList σ' = some av ∧ K ⟨((shp tm ob).put dst av).tmps, σ'.objs⟩ (id + 16) := by
    intro hq
    unfold contR at hq
    rw [hr]
    cases hv : resOf rs σ' with
    | none => rw [hv] at hq; exact hq.elim
    | some av =>
      rw [hv] at hq
      refine ⟨av, by simp [hv], ?_⟩
      have e2 : (⟨((shp tm ob).put dst av).tmps, σ'.objs⟩ : St) = mergeS tm dst av σ' := by cases dst <;> rfl
      rw [e2]
      exact hq
  cases e <;> first | exact hq.elim | exact fin hq
theorem callC_intro {P : Program} {tb : Tb} {tm : List (Nat × AV)} {ob : List (Nat × AObj)} {dst : Option Nat} {k id N' : Nat} {la : List Operand} {K : St → Nat → Prop} {f : FuncId} {caps : List AV} {fn : Func} {c : Code} {rs : List ResultVar}
    (hm : P.follows .mixedOrders = true) (ht : lkT tm k = .fn f caps) (hf : P.funcs[f]? = some fn) (hn : (fn.name == "runtime.NumGoroutine") = false) (hb : fn.body = some c) (hr : fn.results = rs.toArray) (hN : fn.ntmps = N')
    (hl : Nat.ble (la.length + caps.length) N' = true) (hu : ucL (shp tm ob) la)
    (h : ∀ cx : Cx, cx.N = N' → aCode P (tb.at (id * 1000000)) cx N' c (finC (contR rs tm dst id K ⟨⟩)) (shp (initV 0 (unL (shp tm ob) la ++ caps)) ob)) : cloV P (shp tm ob) dst k la id K ⟨⟩ :=
  ⟨f, caps, ht, inl_of hm hf hn hb hr hN hl hu h⟩
theorem callI_intro {P : Program} {tb : Tb} {tm : List (Nat × AV)} {ob : List (Nat × AObj)} {dst : Option Nat} {id N' : Nat} {la : List Operand} {K : St → Nat → Prop} {f : FuncId} {fn : Func} {c : Code} {rs : List ResultVar}
    (hm : P.follows .mixedOrders = true) (hf : P.funcs[f]? = some fn) (hn : (fn.name == "runtime.NumGoroutine") = false) (hb : fn.body = some c) (hr : fn.results = rs.toArray) (hN : fn.ntmps = N')
    (hl : Nat.ble (la.length + ([] : List AV).length) N' = true) (hu : ucL (shp tm ob) la)
    (h : ∀ cx : Cx, cx.N = N' → aCode P (tb.at (id * 1000000)) cx N' c (finC (contR rs tm dst id K ⟨⟩)) (shp (initV 0 (unL (shp tm ob) la ++ [])) ob)) : inlV P (shp tm ob) dst f la id K ⟨⟩ :=
  inl_of hm hf hn hb hr hN hl hu h
/-! ### Nested rows -/
/-- The named row goes into the call. -/
def callNQ (P : Program) (f : FuncId) (te : Ty → TypeId) (t : Ty) (xs : List t.den) (n : Int) (k : Int → List t.den → Prop) (_ : Tag k) : Prop := callN P f te ⟨t, xs⟩ n k
theorem callN_intro {P : Program} {f : FuncId} {te : Ty → TypeId} {t : Ty} {xs ys : List t.den} {n n' : Int} {k : Int → List t.den → Prop} {o o' : AObj} (h : MutOK P f [none, none] [.obj o, .rd ⟨.int .i64, n⟩] (.rd (.int .i64) n') [o'])
    (h1 : o = subO te t xs) (h2 : o' = subO te t ys) (hk : k n' ys) : callNQ P f te t xs n k ⟨⟩ := by
  subst h1; subst h2
  exact ⟨n', ys, h, hk⟩
def innO (P : Program) (tm : List (Nat × AV)) (ob : List (Nat × AObj)) (dst : Option Nat) (f : FuncId) (id : Nat) (k : Nat) (n : Int) (K : St → Nat → Prop) (_ : Tag K) (d : Nat) : AObj → Prop
  | .held te t xs i fl k' => k' = k ∧ i < xs.length ∧ celC P te t fl ∧ match lstAt t (xs.getD i t.dflt) fl with
    | some l => callNQ P f te l.t l.xs n (fun n' ys' => feedS (shp tm ((k, .dead) :: (d, .deep te t (xs.set i (lstSet t (xs.getD i t.dflt) fl ⟨l.t, ys'⟩))) :: ob) |>.put dst (.rd (.int .i64) n')) (id + 16) K ⟨⟩) ⟨⟩
    | none => False
  | _ => False
def innN (P : Program) (tm : List (Nat × AV)) (ob : List (Nat × AObj)) (dst : Option Nat) (f : FuncId) (id : Nat) (k : Nat) (n : Int) (K : St → Nat → Prop) (t : Tag K) : AObj → Prop
  | .name d => innO P tm ob dst f id k n K t d (lkO ob d)
  | _ => False
def innA (P : Program) (tm : List (Nat × AV)) (ob : List (Nat × AObj)) (dst : Option Nat) (f : FuncId) (id : Nat) (n : Int) (K : St → Nat → Prop) (t : Tag K) : AV → Prop
  | .own k => innN P tm ob dst f id k n K t (lkO ob k)
  | _ => False
@[go_sem ↓] theorem innV_two (P : Program) (tm : List (Nat × AV)) (ob : List (Nat × AObj)) (dst : Option Nat) (f : FuncId) (x y : Operand) (id : Nat) (K : St → Nat → Prop) (t : Tag K) :
    innV P (shp tm ob) dst f [x, y] id K t = ((shp tm ob).uc x ∧ (shp tm ob).tc (.int .i64) y ∧ innA P tm ob dst f id ((shp tm ob).ti .i64 y) K ⟨⟩ ((shp tm ob).un x)) := by
  simp only [innV, innQ]
  congr 2
  cases (shp tm ob).un x <;> simp only [innA]
  rename_i k
  show (match lkO ob k with | .name d => _ | _ => False) = _
  cases lkO ob k <;> simp only [innN]
  rename_i d
  show (match lkO ob d with | .held te t xs i fl k' => _ | _ => False) = _
  cases lkO ob d <;> simp only [innO]
  congr 3
  rename_i te t xs i fl k'
  cases lstAt t (xs.getD i t.dflt) fl with
  | none => rfl
  | some l => cases dst <;> rfl
@[go_sem] theorem innA_own (P : Program) (tm : List (Nat × AV)) (ob : List (Nat × AObj)) (dst : Option Nat) (f : FuncId) (id : Nat) (n : Int) (K : St → Nat → Prop) (t : Tag K) (k : Nat) : innA P tm ob dst f id n K t (.own k) = innN P tm ob dst f id k n K t (lkO ob k) := (rfl)
@[go_sem] theorem innN_name (P : Program) (tm : List (Nat × AV)) (ob : List (Nat × AObj)) (dst : Option Nat) (f : FuncId) (id : Nat) (k : Nat) (n : Int) (K : St → Nat → Prop) (t : Tag K) (d : Nat) : innN P tm ob dst f id k n K t (.name d) = innO P tm ob dst f id k n K t d (lkO ob d) := (rfl)
def innL (P : Program) (tm : List (Nat × AV)) (ob : List (Nat × AObj)) (dst : Option Nat) (f : FuncId) (id k d : Nat) (n : Int) (K : St → Nat → Prop) (_ : Tag K) (te : Ty → TypeId) (t : Ty) (xs : List t.den) (i fl : Nat) : Option LV → Prop
  | some l => callNQ P f te l.t l.xs n (fun n' ys' => feedS ((shp tm ((k, .dead) :: (d, .deep te t (xs.set i (lstSet t (xs.getD i t.dflt) fl ⟨l.t, ys'⟩))) :: ob)).put dst (.rd (.int .i64) n')) (id + 16) K ⟨⟩) ⟨⟩
  | none => False
@[go_sem] theorem innO_held (P : Program) (tm : List (Nat × AV)) (ob : List (Nat × AObj)) (dst : Option Nat) (f : FuncId) (id : Nat) (k : Nat) (n : Int) (K : St → Nat → Prop) (tg : Tag K) (d : Nat) (te : Ty → TypeId) (t : Ty) (xs : List t.den) (i fl k' : Nat) :
    innO P tm ob dst f id k n K tg d (.held te t xs i fl k') = (k' = k ∧ i < xs.length ∧ celC P te t fl ∧ innL P tm ob dst f id k d n K ⟨⟩ te t xs i fl (lstAt t (xs.getD i t.dflt) fl)) := by
  simp only [innO]
  cases lstAt t (xs.getD i t.dflt) fl <;> rfl
@[go_sem] theorem innL_some (P : Program) (tm : List (Nat × AV)) (ob : List (Nat × AObj)) (dst : Option Nat) (f : FuncId) (id k d : Nat) (n : Int) (K : St → Nat → Prop) (tg : Tag K) (te : Ty → TypeId) (t : Ty) (xs : List t.den) (i fl : Nat) (t' : Ty) (ys : List t'.den) :
    innL P tm ob dst f id k d n K tg te t xs i fl (some ⟨t', ys⟩) = callNQ P f te t' ys n (fun n' ys' => feedS ((shp tm ((k, .dead) :: (d, .deep te t (xs.set i (lstSet t (xs.getD i t.dflt) fl ⟨t', ys'⟩))) :: ob)).put dst (.rd (.int .i64) n')) (id + 16) K ⟨⟩) ⟨⟩ := (rfl)
@[go_sem ↓] theorem put_some' (tm : List (Nat × AV)) (ob : List (Nat × AObj)) (d : Nat) (av : AV) : (shp tm ob).put (some d) av = shp ((d, av) :: tm) ob := (rfl)
@[go_sem ↓] theorem put_none' (tm : List (Nat × AV)) (ob : List (Nat × AObj)) (av : AV) : (shp tm ob).put none av = shp tm ob := (rfl)
@[go_sem] theorem lstAt_c0 (a b : Ty) (x : (Ty.cons (.list a) b).den) : lstAt (.cons (.list a) b) x 0 = some ⟨a, x.1⟩ := (rfl)
@[go_sem] theorem lstAt_cs (a b : Ty) (x : (Ty.cons a b).den) (i : Nat) : lstAt (.cons a b) x (i + 1) = lstAt b x.2 i := by cases a <;> rfl
@[go_sem] theorem lstAt_l (a : Ty) (x : (Ty.list a).den) : lstAt (.list a) x 0 = some ⟨a, x⟩ := (rfl)
@[go_sem] theorem lstSet_c0 (a b : Ty) (x : (Ty.cons (.list a) b).den) (ys : List a.den) : lstSet (.cons (.list a) b) x 0 ⟨a, ys⟩ = (ys, x.2) := by
  simp only [lstSet]
  rw [castTo_self (.list a) ys]
@[go_sem] theorem lstSet_cs (a b : Ty) (x : (Ty.cons a b).den) (i : Nat) (l : LV) : lstSet (.cons a b) x (i + 1) l = (x.1, lstSet b x.2 i l) := by cases a <;> rfl
@[go_sem] theorem lstSet_l (a : Ty) (x : (Ty.list a).den) (ys : List a.den) : lstSet (.list a) x 0 ⟨a, ys⟩ = ys := by
  simp only [lstSet]
  exact castTo_self (.list a) ys
@[go_sem] theorem celC_cons (P : Program) (te : Ty → TypeId) (a b : Ty) (f : Nat) : celC P te (.cons a b) f = (f < (Ty.cons a b).nf ∧ TyOK P (.cons a b) (te (.cons a b))) := (rfl)
@[go_sem] theorem celC_list (P : Program) (te : Ty → TypeId) (a : Ty) (f : Nat) : celC P te (.list a) f = (f = 0) := (rfl)
@[go_sem] theorem isLst_list (P : Program) (T : TypeId) (t : Ty) : isLst P T (.list t) = TyOK P (.list t) T := (rfl)
@[go_sem] theorem fldT_l (t : Ty) : fldT (.list t) 0 = .list t := (rfl)
@[go_sem] theorem dkill_nil : dkill [] = [] := (rfl)
@[go_sem] theorem dkill_cons (k : Nat) (r : List Nat) : dkill (k :: r) = (k, .dead) :: dkill r := (rfl)
def setCA (objs : Nat → AObj) : (t : Ty) → t.den → Nat → AV → t.den
  | .cons h _, x, 0, av => (tvd objs h av, x.2)
  | .cons _ t, x, i + 1, av => (x.1, setCA objs t x.2 i av)
  | .list t, _, _, av => tvd objs (.list t) av
  | .int _, x, _, _ => x
  | .bool, x, _, _ => x
  | .str, x, _, _ => x
  | .nil, x, _, _ => x
theorem setC_eq (objs : Nat → AObj) (av : AV) : ∀ (t : Ty) (x : t.den) (i : Nat), setC t x i (tvd objs (fldT t i) av) = setCA objs t x i av
  | .cons _ _, _, 0 => rfl
  | .cons _ t, x, i + 1 => by simp only [setC, setCA]; exact congrArg _ (setC_eq objs av t x.2 i)
  | .int _, _, _ => rfl
  | .bool, _, _ => rfl
  | .str, _, _ => rfl
  | .list _, _, i => by cases i <;> rfl
  | .nil, _, _ => rfl
@[go_sem ↓] theorem setC_tv (t : Ty) (x : t.den) (i : Nat) (σ : St) (y : Operand) : setC t x i (St.tv σ (fldT t i) y) = setCA σ.objs t x i (St.un σ y) := setC_eq _ _ t x i
@[go_sem] theorem setCA_c0 (objs : Nat → AObj) (h t : Ty) (x : (Ty.cons h t).den) (av : AV) : setCA objs (.cons h t) x 0 av = (tvd objs h av, x.2) := (rfl)
@[go_sem] theorem setCA_cs (objs : Nat → AObj) (h t : Ty) (x : (Ty.cons h t).den) (i : Nat) (av : AV) : setCA objs (.cons h t) x (i + 1) av = (x.1, setCA objs t x.2 i av) := (rfl)
def dvO (o : AObj) (t : Ty) : List t.den := match o with
  | .arr _ t' xs => castTo (.list t) (.list t') xs
  | .deep _ t' xs => castTo (.list t) (.list t') xs
  | _ => []
def dcO (o : AObj) (te : Ty → TypeId) (t : Ty) : Prop := match o with
  | .arr e t' _ => t' = t ∧ e = te t ∧ t.noL = true
  | .deep te' t' _ => t' = t ∧ te' = te
  | _ => False
section
variable (objs : Nat → AObj) (te : Ty → TypeId) (h t : Ty)
@[go_sem] theorem dvd_own (k : Nat) : dvd objs (.list t) (.own k) = dvO (objs k) t := (rfl)
@[go_sem] theorem dvc_own (k : Nat) : dvc objs te (.list t) (.own k) = dcO (objs k) te t := (rfl)
@[go_sem] theorem dvO_arr (e : TypeId) (xs : List t.den) : dvO (.arr e t xs) t = xs := castTo_self (.list t) xs
@[go_sem] theorem dvO_deep (xs : List t.den) : dvO (.deep te t xs) t = xs := castTo_self (.list t) xs
@[go_sem] theorem dcO_arr (e : TypeId) (xs : List t.den) : dcO (.arr e t xs) te t = (e = te t ∧ t.noL = true) := by simp only [dcO, true_and]
@[go_sem] theorem dcO_deep (te' : Ty → TypeId) (xs : List t.den) : dcO (.deep te' t xs) te t = (te' = te) := by simp only [dcO, true_and]
@[go_sem] theorem dvd_nils : dvd objs (.list t) .nils = [] := (rfl)
@[go_sem] theorem dvc_nils : dvc objs te (.list t) .nils = (0 < t.size) := (rfl)
@[go_sem] theorem dvd_cons (c : AV) (cs : List AV) : dvd objs (.cons h t) (.agg (c :: cs)) = (dvd objs h c, dvd objs t (.agg cs)) := (rfl)
@[go_sem] theorem dvc_cons (c : AV) (cs : List AV) : dvc objs te (.cons h t) (.agg (c :: cs)) = (h.flat1 = true ∧ dvc objs te h c ∧ dvc objs te t (.agg cs)) := (rfl)
@[go_sem] theorem dvd_nil : dvd objs .nil (.agg []) = () := (rfl)
@[go_sem] theorem dvc_nil : dvc objs te .nil (.agg []) = True := by simp only [dvc]
@[go_sem] theorem dvd_rd (x : t.den) : dvd objs t (.rd t x) = x := by cases t <;> exact castTo_self _ x
@[go_sem] theorem dvc_rd (x : t.den) : dvc objs te t (.rd t x) = (t.noL = true) := by cases t <;> simp only [dvc, true_and]
end
@[go_sem] theorem dpL_one (σ : St) (p : Nat × Operand) : dpL σ [p] = (bif plV σ.objs (σ.un p.2) then false else true) := (rfl)
@[go_sem] theorem dpL_nil (σ : St) : dpL σ [] = false := (rfl)
@[go_sem] theorem dpL_two (σ : St) (p q : Nat × Operand) (r : List (Nat × Operand)) : dpL σ (p :: q :: r) = false := (rfl)
attribute [go_sem] dlE dlC dpX daE daC dids didsL
attribute [irreducible] loopQ backQ callQ callH callMQ callNQ cloV inlV

theorem wrap_i64 {n : Int} (h1 : -9223372036854775808 ≤ n) (h2 : n ≤ 9223372036854775807) : IntKind.i64.wrap n = n := by
  simp only [IntKind.wrap, IntKind.signed, IntKind.bits]
  simp
  omega

theorem WFs_cons (a : TV) (r : List TV) : WFs (a :: r) = (WF a.t a.x ∧ WFs r) := rfl
theorem i64_min : IntKind.i64.min = -9223372036854775808 := by rfl
theorem i64_max : IntKind.i64.max = 9223372036854775807 := by rfl
def mkTV (t : Ty) (objs : Nat → AObj) (av : AV) : TV := ⟨t, tvd objs t av⟩
@[go_sem ↓] theorem argD_cons (σ : St) (tb : Tb) (x : Operand) (T : TypeId) (r : List (Operand × TypeId)) : argD σ tb ((x, T) :: r) = mkTV (tb.ty T) σ.objs (σ.un x) :: argD σ tb r := (rfl)
@[go_sem ↓] theorem argD_nil (σ : St) (tb : Tb) : argD σ tb [] = [] := (rfl)
@[go_sem] theorem mkTV_rd (t : Ty) (objs : Nat → AObj) (x : t.den) : mkTV t objs (.rd t x) = ⟨t, x⟩ := by unfold mkTV; rw [tvd_rd]
@[go_sem] theorem mkTV_own (t : Ty) (objs : Nat → AObj) (i : Nat) : mkTV (.list t) objs (.own i) = ⟨.list t, rowOf objs i t⟩ := (rfl)
@[go_sem] theorem mkTV_nils (t : Ty) (objs : Nat → AObj) : mkTV (.list t) objs .nils = ⟨.list t, ([] : List t.den)⟩ := (rfl)
@[go_sem] theorem mkTV_cons (h t : Ty) (objs : Nat → AObj) (c : AV) (cs : List AV) : mkTV (.cons h t) objs (.agg (c :: cs)) = ⟨.cons h t, (tvd objs h c, tvd objs t (.agg cs))⟩ := by simp only [mkTV, tvd]
theorem eqId {α : Type} {a b : α} (h : a = b) : a = b := h
@[go_sem] theorem chkQ_eq {ops : Array Oper} {is : List Info} {k : Unit → Prop} {t1 : Tag ops} {t2 : Tag is} {t3 : Tag k} (h : chkAll ops 0 is = true) : chkQ ops is k t1 t2 t3 = k () := by simp only [chkQ, chkK, h, true_and]
def obsOne (objs : Nat → AObj) (ρ : List (Nat × Option Nat)) (r : Option (Option Nat)) (o : AObj) : Prop :=
  match r with
  | some (some i) => ObLe objs ρ (objs i) o
  | some none => match o with
    | .row _ t xs => xs = [] ∧ 0 < t.size
    | .arr _ t xs => xs = [] ∧ 0 < t.size
    | .deep _ t xs => xs = [] ∧ 0 < t.size
    | _ => False
  | none => False
section
variable (objs : Nat → AObj) (ρ : List (Nat × Option Nat)) (i j : Nat) (x : Option Nat) (o : AObj) (r : List (Nat × AObj))
@[go_sem ↓] theorem obsLe_nil : obsLe objs ρ [] = True := (rfl)
@[go_sem ↓] theorem obsLe_cons : obsLe objs ρ ((i, o) :: r) = (obsOne objs ρ (lkR ρ i) o ∧ obsLe objs ρ r) := by
  rw [obsLe]
  congr 1
@[go_sem] theorem obsOne_some : obsOne objs ρ (some (some i)) o = ObLe objs ρ (objs i) o := (rfl)
@[go_sem] theorem obsOne_arr (e : TypeId) (t : Ty) (xs : List t.den) : obsOne objs ρ (some none) (.arr e t xs) = (xs = [] ∧ 0 < t.size) := (rfl)
@[go_sem] theorem obsOne_row (e : TypeId) (t : Ty) (xs : List t.den) : obsOne objs ρ (some none) (.row e t xs) = (xs = [] ∧ 0 < t.size) := (rfl)
@[go_sem] theorem obsOne_deep (te : Ty → TypeId) (t : Ty) (xs : List t.den) : obsOne objs ρ (some none) (.deep te t xs) = (xs = [] ∧ 0 < t.size) := (rfl)
@[go_sem ↓ high] theorem lkR_hit : lkR ((j, x) :: ρ) j = some x := by simp only [lkR, Nat.beq_refl, cond_true]
@[go_sem ↓] theorem lkR_miss (h : (j == i) = false) : lkR ((i, x) :: ρ) j = lkR ρ j := by
  have : Nat.beq j i = false := by
    cases hb : Nat.beq j i with
    | false => rfl
    | true => rw [Nat.eq_of_beq_eq_true hb] at h; simp at h
  simp only [lkR, this, cond_false]
@[go_sem ↓] theorem lkR_nil : lkR [] j = none := (rfl)
end
attribute [go_sem] rhoL idAll not_true_eq_false not_false_eq_true false_implies Bool.false_eq_true Bool.true_eq_false Bool.and_self Bool.and_true Bool.true_and Nat.le_refl Int.toNat_natCast Ty.dflt imp_self tmsLe AVLe AVsLe ObLe rhoOK Option.some.injEq bne_iff_ne bne_eq_false_iff_eq beq_iff_eq beq_eq_false_iff_ne ne_eq
end Go.AL
