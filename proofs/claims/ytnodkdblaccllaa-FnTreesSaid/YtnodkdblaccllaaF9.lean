/- What the functions of renewals' digests answer, on both sides. It proves nothing of a statement by itself. -/
import Derived.Test.YtnodkdblaccllaaF5
set_option linter.unusedSimpArgs false
set_option linter.unusedVariables false
set_option maxRecDepth 100000
namespace Go.Proofs.Ytnodkdblaccllaa
open Go.AL
theorem lb1 {X Z : List Int} {y : Int} {n : Nat} (h1 : X.length ≤ 2097152) (h2 : Z.length ≤ 6291456) (hn : 100000000 ≤ n) : (X ++ y :: Z).length ≤ n := by
  simp only [List.length_append, List.length_cons]; omega
theorem lb2 {X Z W : List Int} {y : Int} {n : Nat} (h1 : X.length ≤ 2097152) (h2 : Z.length ≤ 6291456) (hw : W.length ≤ 100) (hn : 100000000 ≤ n) : (X ++ y :: Z ++ W).length ≤ n := by
  simp only [List.length_append, List.length_cons]; omega
theorem lb4 {X : List Int} {y : Int} {n : Nat} (h1 : X.length ≤ 2097152) (hn : 100000000 ≤ n) : (X ++ [y]).length ≤ n := by
  simp only [List.length_append, List.length_cons, List.length_nil]; omega
theorem lb3 {X Z : List Int} {y a b c e : Int} (h1 : X.length ≤ 2097152) (h2 : Z.length ≤ 6291456) : (a :: b :: c :: e :: (X ++ y :: Z)).length ≤ 1073741824 := by
  simp only [List.length_append, List.length_cons]; omega
end Go.Proofs.Ytnodkdblaccllaa
