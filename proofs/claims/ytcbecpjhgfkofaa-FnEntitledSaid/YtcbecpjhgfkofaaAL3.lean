/- Types of a program against the typed readings; single operations on abstract frames. A general part, over any program. -/
import Derived.Test.YtcbecpjhgfkofaaAL2
set_option linter.unusedSimpArgs false
set_option linter.unusedVariables false
namespace Go.AL
open Go.RowKit

theorem wrap_in (k : IntKind) (n : Int) : k.min ≤ k.wrap n ∧ k.wrap n ≤ k.max := by
  cases k <;> simp only [IntKind.min, IntKind.max, IntKind.wrap, IntKind.signed, IntKind.bits] <;> (constructor <;> (simp; try split) <;> omega)

theorem emod_le' {a b : Int} (ha : 0 ≤ a) (hb : 0 ≤ b) : a % b ≤ a := by
  have h1 := Int.mul_ediv_add_emod a b
  have h2 : 0 ≤ b * (a / b) := Int.mul_nonneg hb (Int.ediv_nonneg ha hb)
  omega

theorem tmod_in (k : IntKind) (a b : Int) (h : k.min ≤ a ∧ a ≤ k.max) : k.min ≤ a.tmod b ∧ a.tmod b ≤ k.max := by
  have h0 : k.min ≤ 0 ∧ 0 ≤ k.max := by cases k <;> simp [IntKind.min, IntKind.max, IntKind.signed, IntKind.bits]
  rcases Int.le_total 0 a with ha | ha
  · have h1 : 0 ≤ a.tmod b := Int.tmod_nonneg b ha
    have h2 : a.tmod b ≤ a := by
      rcases Int.le_total 0 b with hb | hb
      · rw [Int.tmod_eq_emod_of_nonneg ha]
        exact emod_le' ha hb
      · have : a.tmod b = a.tmod (-b) := (Int.tmod_neg a b).symm
        rw [this, Int.tmod_eq_emod_of_nonneg ha]
        exact emod_le' ha (by omega)
    omega
  · have e : a.tmod b = -((-a).tmod b) := by rw [Int.neg_tmod]; omega
    have h1 : 0 ≤ (-a).tmod b := Int.tmod_nonneg b (by omega)
    have h2 : (-a).tmod b ≤ -a := by
      rcases Int.le_total 0 b with hb | hb
      · rw [Int.tmod_eq_emod_of_nonneg (by omega)]
        exact emod_le' (by omega) hb
      · have : (-a).tmod b = (-a).tmod (-b) := (Int.tmod_neg (-a) b).symm
        rw [this, Int.tmod_eq_emod_of_nonneg (by omega)]
        exact emod_le' (by omega) (by omega)
    omega

/-! ### Types -/

def Ty.zcells : Ty → List Value
  | .int k => [.int k 0]
  | .bool => [.bool false]
  | .str => [.string ByteArray.empty]
  | .list _ => [.slice none 0 0]
  | .nil => []
  | .cons h t => h.zcells ++ t.zcells

def Ty.dflt : (t : Ty) → t.den
  | .int _ => 0
  | .bool => false
  | .str => ByteArray.empty
  | .list _ => []
  | .nil => ()
  | .cons h t => (h.dflt, t.dflt)

def Ty.flat1 : Ty → Bool
  | .nil => false
  | .cons _ _ => false
  | _ => true

/-- What the program's table says of a type: its size, its zero, a bound on its bytes. -/
def InfOK (P : Program) (t : Ty) (T : TypeId) : Prop := ∃ i, P.info? T = some i ∧ i.size = t.size ∧ i.zero = some (mkV t t.zcells) ∧ i.bytes ≤ 256

mutual
def TyOK (P : Program) : Ty → TypeId → Prop
  | .int k, T => P.underlying T = some (.int k) ∧ InfOK P (.int k) T
  | .bool, T => P.underlying T = some .bool ∧ InfOK P .bool T
  | .str, T => P.underlying T = some .string ∧ InfOK P .str T
  | .list t, T => ∃ e, P.underlying T = some (.slice e) ∧ TyOK P t e ∧ InfOK P (.list t) T ∧ 0 < t.size
  | .nil, T => ∃ fs, P.underlying T = some (.struct fs) ∧ fs.toList = [] ∧ InfOK P .nil T
  | .cons h t, T => ∃ fs, P.underlying T = some (.struct fs) ∧ FsOK P (.cons h t) fs.toList 0 ∧ InfOK P (.cons h t) T
def FsOK (P : Program) : Ty → List Field → Nat → Prop
  | .nil, fs, _ => fs = []
  | .cons h t, fs, o => ∃ f r, fs = f :: r ∧ f.offset = o ∧ h.flat1 = true ∧ TyOK P h f.type ∧ FsOK P t r (o + 1)
  | _, _, _ => False
end

theorem flat1_size {t : Ty} (h : t.flat1 = true) : t.size = 1 ∧ t.isAgg = false := by cases t <;> simp_all [Ty.flat1, Ty.size, Ty.isAgg]

theorem TyOK.inf {P : Program} {t : Ty} {T : TypeId} (h : TyOK P t T) : InfOK P t T := by
  cases t <;> simp only [TyOK] at h
  · exact h.2
  · exact h.2
  · exact h.2
  · exact h.choose_spec.2.2.1
  · exact h.choose_spec.2.2
  · exact h.choose_spec.2.2

theorem TyOK.und {P : Program} {t : Ty} {T : TypeId} (h : TyOK P t T) : ∃ d, P.underlying T = some d ∧ (match d with | .struct _ | .array _ _ => true | _ => false) = t.isAgg := by
  cases t <;> simp only [TyOK] at h
  · exact ⟨_, h.1, rfl⟩
  · exact ⟨_, h.1, rfl⟩
  · exact ⟨_, h.1, rfl⟩
  · obtain ⟨e, h, _⟩ := h; exact ⟨_, h, rfl⟩
  · obtain ⟨e, h, _⟩ := h; exact ⟨_, h, rfl⟩
  · obtain ⟨e, h, _⟩ := h; exact ⟨_, h, rfl⟩

section
variable {P : Program}
theorem run_sizeOf' {t : Ty} {T : TypeId} (h : TyOK P t T) (w : World) : (sizeOf T).run P w = .ok t.size w := by
  obtain ⟨i, h1, h2, _⟩ := h.inf
  simp [sizeOf, typeInfo, h1, h2]
theorem run_isAgg' {t : Ty} {T : TypeId} (h : TyOK P t T) (w : World) : (isAgg T).run P w = .ok t.isAgg w := by
  obtain ⟨d, h1, h2⟩ := h.und
  unfold isAgg
  rw [Sem.run_bind, run_underlying h1 w, ← h2]
  cases d <;> simp
theorem run_zero' {t : Ty} {T : TypeId} (h : TyOK P t T) (w : World) : (zeroValue T).run P w = .ok (mkV t t.zcells) w := by
  obtain ⟨i, h1, _, h2, _⟩ := h.inf
  simp [zeroValue, typeInfo, h1, h2]

theorem zcells_len : ∀ t : Ty, t.zcells.length = t.size
  | .int _ => rfl
  | .bool => rfl
  | .str => rfl
  | .list _ => rfl
  | .nil => rfl
  | .cons h t => by simp [Ty.zcells, Ty.size, zcells_len h, zcells_len t]

theorem zcells_rd (w : World) (lim : Nat → Nat) : ∀ t : Ty, Rd w lim t t.zcells t.dflt
  | .int k => ⟨rfl, by cases k <;> simp [Ty.dflt, IntKind.min, IntKind.max, IntKind.signed, IntKind.bits]⟩
  | .bool => rfl
  | .str => ⟨rfl, Nat.zero_le _⟩
  | .list _ => ⟨none, 0, rfl, Nat.le_refl _, Nat.zero_le _, fun i hi => absurd hi (by simp [Ty.dflt])⟩
  | .nil => rfl
  | .cons h t => ⟨h.zcells, t.zcells, rfl, zcells_rd w lim h, zcells_rd w lim t⟩

theorem run_load_at {t : Ty} {T : TypeId} (h : TyOK P t T) (w : World) (a : Addr) (cs : List Value) (hl : cs.length = t.size) (hc : ∀ j u, cs[j]? = some u → w.cell? (a.add j) = some u) :
    (Instr.loadAt T (.pointer (some a))).run P w = .ok (mkV t cs) w := by
  have h1 := run_loadCells_list (P := P) w a cs hc
  rw [hl] at h1
  unfold Instr.loadAt Instr.sureAddr loadVar
  simp only [Sem.run_bind, Sem.run_pure, Result.andThen_ok, run_isAgg' h w]
  cases hg : t.isAgg with
  | true => simp [run_sizeOf' h w, h1, mkV, hg]
  | false =>
    have h2 : t.size = 1 := by cases t <;> simp_all [Ty.isAgg, Ty.size]
    match cs, hl.trans h2 with
    | [c], _ =>
      have := hc 0 c rfl
      have e : a.add 0 = a := by simp [Addr.add]
      rw [e] at this
      simp [mkV, hg, this]
end

/-! ### Operands -/

def constAV : Value → AV
  | .int k n => bif decide (k.min ≤ n) && decide (n ≤ k.max) then .rd (.int k) n else .any
  | .bool b => .rd .bool b
  | .string s => bif Nat.ble s.size 1000000 then .rd .str s else .any
  | .slice none 0 0 => .nils
  | _ => .any

theorem constAV_i64 (n : Int) (h1 : -9223372036854775808 ≤ n) (h2 : n ≤ 9223372036854775807) : constAV (.int .i64 n) = .rd (.int .i64) n := by
  have e1 : decide (IntKind.i64.min ≤ n) = true := by simp [IntKind.min, IntKind.signed, IntKind.bits]; omega
  have e2 : decide (n ≤ IntKind.i64.max) = true := by simp [IntKind.max, IntKind.signed, IntKind.bits]; omega
  simp only [constAV, e1, e2, Bool.and_self, cond_true]

def St.ev (σ : St) : Operand → AV
  | .tmp t => σ.tmps t
  | .const v => constAV v
  | _ => .any

theorem ev_ok {cx : Cx} {σ : St} {a : Act} {w : World} {lim : Nat → Nat} {G : Nat → Value} (h : Fr cx σ a w lim G) (x : Operand) : AVok w lim G σ.objs (σ.ev x) (a.eval x) := by
  cases x with
  | tmp t => exact h.tmp t
  | const v =>
    simp only [St.ev, Act.eval]
    unfold constAV
    split
    · rename_i k n
      cases hb : (decide (k.min ≤ n) && decide (n ≤ k.max)) with
      | false => simp only [cond_false, AVok]
      | true =>
        simp only [cond_true, AVok]
        simp only [Bool.and_eq_true, decide_eq_true_eq] at hb
        exact ⟨[.int k n], ⟨rfl, hb⟩, rfl⟩
    · simp only [AVok]; exact ⟨_, rfl, rfl⟩
    · rename_i s
      cases hb : Nat.ble s.size 1000000 with
      | false => simp only [cond_false, AVok]
      | true =>
        simp only [cond_true, AVok]
        have := Nat.le_of_ble_eq_true hb
        exact ⟨_, ⟨rfl, by unfold maxLen; omega⟩, rfl⟩
    · simp only [AVok]
    · simp only [AVok]
  | global g => simp only [St.ev, AVok]
  | func f => simp only [St.ev, AVok]

/-! ### The shape of an operation's soundness -/

structure Eff where
  av : AV
  upds : List (Nat × AObj)

def updAll (f : Nat → AObj) : List (Nat × AObj) → (Nat → AObj)
  | [] => f
  | u :: r => updAll (upd f u.1 u.2) r

def St.app (σ : St) (d : Option Nat) (e : Eff) : St := { tmps := (σ.put d e.av).tmps, objs := updAll σ.objs e.upds }

def OpOK (P : Program) (cx : Cx) (σ : St) (o : Oper) (e : Eff) : Prop :=
  ∀ (a : Act) (w : World) (K : Act → World → Prop) (Q : Exit → Act → World → Prop), Sat cx σ a w → (∀ a' w', Sat cx (σ.app o.dst e) a' w' → K a' w') → o.wp P a w K Q

theorem put_objs (σ : St) (d : Option Nat) (av : AV) : (σ.put d av).objs = σ.objs := by cases d <;> rfl

theorem app_nil (σ : St) (d : Option Nat) (av : AV) : σ.app d ⟨av, []⟩ = σ.put d av := by cases d <;> rfl

theorem OpOK.of_value {P : Program} {cx : Cx} {σ : St} {o : Oper} {av : AV} (hd : ∀ k, o.dst = some k → k < cx.N)
    (h : ∀ a w lim G, Hp cx σ.objs w lim G → Fr cx σ a w lim G → ∃ v, (execOp a.eval o).run P w = .ok (.value v) w ∧ AVok w lim G σ.objs av v) : OpOK P cx σ o ⟨av, []⟩ := by
  intro a w K Q hs hK
  obtain ⟨lim, G, hh, hf⟩ := hs
  obtain ⟨v, h1, h2⟩ := h a w lim G hh hf
  unfold Oper.wp
  rw [h1]
  refine hK _ _ ?_
  rw [app_nil]
  exact ⟨lim, G, by rw [put_objs]; exact hh, hf.put hd h2⟩

end Go.AL
