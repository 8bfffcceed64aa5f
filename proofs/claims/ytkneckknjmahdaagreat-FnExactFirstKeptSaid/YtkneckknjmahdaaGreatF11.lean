/- What the functions of ordered lists and frames answer, on both sides. It proves nothing of a statement by itself. -/
import Derived.Test.YtkneckknjmahdaaGreatF7
set_option linter.unusedSimpArgs false
set_option linter.unusedVariables false
set_option maxRecDepth 100000
namespace Go.Proofs.YtkneckknjmahdaaGreat
open Go.AL
def ltG : Option Int → Int → Bool
  | none, _ => true
  | some m, y => decide (m < y)
def areG {α : Type} (p : α → Bool) (n : α → Int) : Option Int → List α → Bool
  | _, [] => true
  | pr, x :: xs => p x && (ltG pr (n x) && areG p n (some (n x)) xs)
theorem areG_cons {α : Type} (p : α → Bool) (n : α → Int) (pr : Option Int) (x : α) (xs : List α) : areG p n pr (x :: xs) = (p x && (ltG pr (n x) && areG p n (some (n x)) xs)) := by cases pr <;> rfl
theorem areG_nil {α : Type} (p : α → Bool) (n : α → Int) (pr : Option Int) : areG p n pr [] = true := by cases pr <;> rfl
def pvG {α : Type} (n : α → Int) (df : α) (l : List α) (k : Nat) : Option Int := if (k : Int) > 0 then some (n (l.getD ((k : Int) - 1).toNat df)) else none
theorem pvG_succ {α : Type} (n : α → Int) (df : α) (l : List α) (k : Nat) : pvG n df l (k + 1) = some (n (l.getD k df)) := by
  unfold pvG
  rw [if_pos (by omega), show (((k + 1 : Nat) : Int) - 1).toNat = k by omega]
def metB (m : tMethod.den) : Bool := inB m.1 0 99 && inB m.2.1 0 10000 && inB m.2.2.1 1 10001 && inB m.2.2.2.1 1 10001 && decide (m.2.1 < m.2.2.1) && decide (m.2.1 < m.2.2.2.1)
def autB (m : tAuthority.den) : Bool := inB m.1 0 99 && inB m.2.1 1 99 && inB m.2.2.1 0 100
def frmB (f : tFrame.den) : Bool := (areG keyB (fun x => x.1) none f.1 && decide (f.1.length ≤ 12)) && (areG autB (fun x => x.1) none f.2.1 && decide (f.2.1.length ≤ 6)) && (areG metB (fun x => x.1) none f.2.2.1 && decide (f.2.2.1.length ≤ 8)) && inB f.2.2.2.1 0 6 && inB f.2.2.2.2.1 0 10000
end Go.Proofs.YtkneckknjmahdaaGreat
