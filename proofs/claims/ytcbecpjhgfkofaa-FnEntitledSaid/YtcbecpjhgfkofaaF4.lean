/- What the functions of trees, pieces and renewals answer, on both sides. It proves nothing of a statement by itself. -/
import Derived.Test.YtcbecpjhgfkofaaF3
set_option linter.unusedSimpArgs false
set_option linter.unusedVariables false
set_option maxRecDepth 100000
namespace Go.Proofs.Ytcbecpjhgfkofaa
open Go.AL
def befF : List Int → List Int → Int → Int → Int → Int → Bool
  | x :: xs, y :: ys, k, l, m, n => if x ≠ y then decide (x < y) else befF xs ys k l m n
  | xs, ys, k, l, m, n => if xs.length ≠ ys.length then decide (xs.length < ys.length) else if k ≠ l then decide (k < l) else decide (m < n)
theorem befF_end (xs ys : List Int) (k l m n : Int) (h : xs.length = 0 ∨ ys.length = 0) : befF xs ys k l m n = if xs.length ≠ ys.length then decide (xs.length < ys.length) else if k ≠ l then decide (k < l) else decide (m < n) := by
  cases xs with
  | nil => unfold befF; rfl
  | cons x xs =>
    cases ys with
    | nil => unfold befF; rfl
    | cons y ys => simp at h
end Go.Proofs.Ytcbecpjhgfkofaa
