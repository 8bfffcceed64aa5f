/- Checks, by reckoning, that a program's table says of a type what its reading says. A general part, over any program. -/
import Derived.Test.YtcbecpjhgfkofaaALd
import Derived.KernelRfl
set_option linter.unusedSimpArgs false
set_option linter.unusedVariables false
namespace Go.AL
open Go.RowKit

def cellEq : Value → Value → Bool
  | .int k n, .int k' n' => decide (k = k') && decide (n = n')
  | .bool a, .bool b => decide (a = b)
  | .string s, .string s' => decide (s = s')
  | .slice none 0 0, .slice none 0 0 => true
  | _, _ => false

theorem cellEq_spec {a b : Value} (h : cellEq a b = true) : a = b := by
  unfold cellEq at h
  split at h
  · simp only [Bool.and_eq_true, decide_eq_true_eq] at h; rw [h.1, h.2]
  · simp only [decide_eq_true_eq] at h; rw [h]
  · simp only [decide_eq_true_eq] at h; rw [h]
  · rfl
  · cases h

def cellsEq : List Value → List Value → Bool
  | [], [] => true
  | a :: as, b :: bs => cellEq a b && cellsEq as bs
  | _, _ => false

theorem cellsEq_spec : ∀ {a b : List Value}, cellsEq a b = true → a = b
  | [], [], _ => rfl
  | a :: as, b :: bs, h => by
    simp only [cellsEq, Bool.and_eq_true] at h
    rw [cellEq_spec h.1, cellsEq_spec h.2]
  | [], _ :: _, h => by cases h
  | _ :: _, [], h => by cases h

def valEq : Value → Value → Bool
  | .agg a, .agg b => cellsEq a.toList b.toList
  | .agg _, _ => false
  | a, b => cellEq a b

theorem valEq_spec {a b : Value} (h : valEq a b = true) : a = b := by
  unfold valEq at h
  split at h
  · rename_i x y; have := cellsEq_spec h; congr 1; cases x; cases y; simpa using this
  · cases h
  · exact cellEq_spec h

def infB (P : Program) (t : Ty) (T : TypeId) : Bool :=
  match P.info? T with
  | some i => Nat.beq i.size t.size && (match i.zero with | some v => valEq v (mkV t t.zcells) | none => false) && Nat.ble i.bytes 256
  | none => false

theorem infB_spec {P : Program} {t : Ty} {T : TypeId} (h : infB P t T = true) : InfOK P t T := by
  unfold infB at h
  cases hi : P.info? T with
  | none => rw [hi] at h; cases h
  | some i =>
    rw [hi] at h
    simp only [Bool.and_eq_true] at h
    obtain ⟨⟨h1, h2⟩, h3⟩ := h
    refine ⟨i, hi, Nat.eq_of_beq_eq_true h1, ?_, Nat.le_of_ble_eq_true h3⟩
    cases hz : i.zero with
    | none => rw [hz] at h2; cases h2
    | some v => rw [hz] at h2; rw [valEq_spec h2]

mutual
def tyB (P : Program) : Ty → TypeId → Bool
  | .int k, T => (match P.underlying T with | some (.int k') => decide (k' = k) | _ => false) && infB P (.int k) T
  | .bool, T => (match P.underlying T with | some .bool => true | _ => false) && infB P .bool T
  | .str, T => (match P.underlying T with | some .string => true | _ => false) && infB P .str T
  | .list t, T => (match P.underlying T with | some (.slice e) => tyB P t e | _ => false) && infB P (.list t) T && Nat.ble 1 t.size
  | .nil, T => (match P.underlying T with | some (.struct fs) => fs.toList.isEmpty | _ => false) && infB P .nil T
  | .cons h t, T => (match P.underlying T with
    | some (.struct fs) => (match fs.toList with
      | f :: r => Nat.beq f.offset 0 && h.flat1 && tyB P h f.type && fsB P t r 1
      | [] => false)
    | _ => false) && infB P (.cons h t) T
def fsB (P : Program) : Ty → List Field → Nat → Bool
  | .nil, fs, _ => fs.isEmpty
  | .cons h t, fs, o => match fs with
    | f :: r => Nat.beq f.offset o && h.flat1 && tyB P h f.type && fsB P t r (o + 1)
    | [] => false
  | _, _, _ => false
end

mutual
theorem tyB_spec {P : Program} : ∀ {t : Ty} {T : TypeId}, tyB P t T = true → TyOK P t T
  | .int k, T, h => by
    simp only [tyB, Bool.and_eq_true] at h
    simp only [TyOK]
    refine ⟨?_, infB_spec h.2⟩
    cases hu : P.underlying T with
    | none => rw [hu] at h; exact absurd h.1 (by simp)
    | some d => rw [hu] at h; cases d <;> first | (have hq := h.1; simp only [decide_eq_true_eq] at hq; rw [hq]; done) | (exact absurd h.1 (by simp))
  | .bool, T, h => by
    simp only [tyB, Bool.and_eq_true] at h
    simp only [TyOK]
    refine ⟨?_, infB_spec h.2⟩
    cases hu : P.underlying T with
    | none => rw [hu] at h; exact absurd h.1 (by simp)
    | some d => rw [hu] at h; cases d <;> first | rfl | (exact absurd h.1 (by simp))
  | .str, T, h => by
    simp only [tyB, Bool.and_eq_true] at h
    simp only [TyOK]
    refine ⟨?_, infB_spec h.2⟩
    cases hu : P.underlying T with
    | none => rw [hu] at h; exact absurd h.1 (by simp)
    | some d => rw [hu] at h; cases d <;> first | rfl | (exact absurd h.1 (by simp))
  | .list t, T, h => by
    simp only [tyB, Bool.and_eq_true] at h
    simp only [TyOK]
    cases hu : P.underlying T with
    | none => rw [hu] at h; exact absurd h.1.1 (by simp)
    | some d =>
      rw [hu] at h
      cases d <;> first
        | exact ⟨_, rfl, tyB_spec h.1.1, infB_spec h.1.2, Nat.le_of_ble_eq_true h.2⟩
        | exact absurd h.1.1 (by simp)
  | .nil, T, h => by
    simp only [tyB, Bool.and_eq_true] at h
    simp only [TyOK]
    cases hu : P.underlying T with
    | none => rw [hu] at h; exact absurd h.1 (by simp)
    | some d =>
      rw [hu] at h
      cases d <;> first
        | exact ⟨_, rfl, by simpa using h.1, infB_spec h.2⟩
        | exact absurd h.1 (by simp)
  | .cons a b, T, h => by
    simp only [tyB, Bool.and_eq_true] at h
    simp only [TyOK]
    cases hu : P.underlying T with
    | none => rw [hu] at h; exact absurd h.1 (by simp)
    | some d =>
      rw [hu] at h
      cases d with
      | struct fs =>
        have h1 := h.1
        simp only at h1
        cases hfs : fs.toList with
        | nil => rw [hfs] at h1; cases h1
        | cons f r =>
          rw [hfs] at h1
          simp only [Bool.and_eq_true] at h1
          obtain ⟨⟨⟨q1, q2⟩, q3⟩, q4⟩ := h1
          refine ⟨_, rfl, ?_, infB_spec h.2⟩
          rw [hfs]
          simp only [FsOK]
          exact ⟨f, r, rfl, Nat.eq_of_beq_eq_true q1, q2, tyB_spec q3, fsB_spec q4⟩
      | _ => exact absurd h.1 (by simp)
theorem fsB_spec {P : Program} : ∀ {t : Ty} {fs : List Field} {o : Nat}, fsB P t fs o = true → FsOK P t fs o
  | .nil, fs, o, h => by unfold fsB at h; simp only [FsOK]; simpa using h
  | .cons a b, fs, o, h => by
    unfold fsB at h
    simp only [FsOK]
    cases fs with
    | nil => cases h
    | cons f r =>
      simp only [Bool.and_eq_true] at h
      obtain ⟨⟨⟨h1, h2⟩, h3⟩, h4⟩ := h
      exact ⟨f, r, rfl, Nat.eq_of_beq_eq_true h1, h2, tyB_spec h3, fsB_spec h4⟩
  | .int _, _, _, h => by unfold fsB at h; cases h
  | .bool, _, _, h => by unfold fsB at h; cases h
  | .str, _, _, h => by unfold fsB at h; cases h
  | .list _, _, _, h => by unfold fsB at h; cases h
end

def arrB (P : Program) (n : Nat) (T : TypeId) : Bool := match P.underlying T with
  | some (.array m e) => Nat.beq m n && tyB P (.int .i64) e && infB P (arrTy n) T
  | _ => false
theorem arrB_spec {P : Program} {n : Nat} {T : TypeId} (h : arrB P n T = true) : ArrOK P n T := by
  unfold arrB at h
  unfold ArrOK
  cases hu : P.underlying T with
  | none => rw [hu] at h; cases h
  | some d =>
    rw [hu] at h
    cases d <;> first
      | (simp only [Bool.and_eq_true] at h; obtain ⟨⟨h1, h2⟩, h3⟩ := h; rw [Nat.eq_of_beq_eq_true h1]; exact ⟨_, rfl, tyB_spec h2, infB_spec h3⟩)
      | cases h

def elB (P : Program) (T e : TypeId) : Bool := match P.underlying T with | some (.slice e') => Nat.beq e' e | _ => false
theorem elB_spec {P : Program} {T e : TypeId} (h : elB P T e = true) : ElOK P T e := by
  unfold elB at h
  unfold ElOK
  cases hu : P.underlying T with
  | none => rw [hu] at h; cases h
  | some d =>
    rw [hu] at h
    cases d <;> first
      | (simp only at h; rw [Nat.eq_of_beq_eq_true h])
      | cases h

end Go.AL
