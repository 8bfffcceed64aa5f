/- What the functions of digests, paths and trees answer, on both sides. It proves nothing of a statement by itself. -/
import Derived.Test.YtcbecpjhgfkofaaF4
import Derived.Test.YtcbecpjhgfkofaaHt
import Derived.Test.YtcbecpjhgfkofaaHe
import Derived.Test.YtcbecpjhgfkofaaHs
import Derived.Test.YtcbecpjhgfkofaaHm
set_option linter.unusedSimpArgs false
set_option linter.unusedVariables false
set_option maxRecDepth 100000
namespace Go.Proofs.Ytcbecpjhgfkofaa
open Go.AL
theorem map_take_succ {α β : Type} (f : α → β) {l : List α} {k : Nat} (hk : k < l.length) (d : α) : (l.take (k + 1)).map f = (l.take k).map f ++ [f (l.getD k d)] := by
  rw [take_getD hk d, List.map_append]
  rfl
def pgF (m : Int) (p : tPiece.den) : Int := digF m (p.1 :: p.2.2.1 :: p.2.1)
def pdF (m : Int) (l : List tPiece.den) : Int := digF m (2 :: l.map (pgF m))
theorem dLen {l : List tPiece.den} (hs : Small (.list tPiece) 1048576 l) {k : Nat} (hk : k < l.length) {df : tPiece.den} (x y : Int) : (x :: y :: (l.getD k df).2.1).length ≤ 1073741824 := by
  have := (hs.2 _ (getD_mem hk df)).2.1.1
  simp only [List.length_cons]
  omega
def leafF (m a : Int) (l : List tPiece.den) (b : Int) : Int := digF m [3, a, pdF m l, b]
theorem pLen {l : List tPiece.den} (hs : Small (.list tPiece) 1048576 l) {k : Nat} (hk : k < l.length) (df : tPiece.den) : (l.getD k df).2.1.length ≤ 1048576 :=
  (hs.2 _ (getD_mem hk df)).2.1.1
def fpStep (m : Int) (h : Int) (s : tStep.den) : Int := if s.2.1 then pairF m s.1 h else pairF m h s.1
def upF (m : Int) : List Int → List Int
  | a :: b :: r => pairF m a b :: upF m r
  | l => l
theorem upF_two (m : Int) {l : List Int} {k : Nat} (h : k + 1 < l.length) : upF m (l.drop k) = pairF m (l.getD k 0) (l.getD (k + 1) 0) :: upF m (l.drop (k + 2)) := by
  rw [drop_getD (show k < l.length by omega) 0, drop_getD h 0, upF]
theorem upF_one (m : Int) {l : List Int} {k : Nat} (h : k + 1 = l.length) : upF m (l.drop k) = [l.getD k 0] := by
  rw [drop_getD (show k < l.length by omega) 0, List.drop_eq_nil_of_le (by omega)]
  rfl
theorem upF_len (m : Int) : ∀ l : List Int, 2 * (upF m l).length ≤ l.length + 1
  | [] => by simp [upF]
  | [_] => by simp [upF]
  | a :: b :: r => by
    have := upF_len m r
    simp only [upF, List.length_cons]; omega
theorem upF_len2 (m : Int) : ∀ l : List Int, l.length ≤ 2 * (upF m l).length
  | [] => by simp [upF]
  | [_] => by simp [upF]
  | a :: b :: r => by
    have := upF_len2 m r
    simp only [upF, List.length_cons]; omega
def topR (m : Int) (l : List Int) : List Int := if h : l.length ≤ 1 then l else topR m (upF m l)
termination_by l.length
decreasing_by have := upF_len m l; omega
def rootF (m : Int) (l : List Int) : Int := if 1 ≤ l.length ∧ l.length ≤ 16 then (topR m l).getD 0 0 else -1
theorem renEq {a b : tRenewal.den} (h0 : a.1 = b.1) (h1 : a.2.1 = b.2.1) (h2 : a.2.2.1 = b.2.2.1) (h3 : a.2.2.2.1 = b.2.2.2.1) (h4 : a.2.2.2.2.1 = b.2.2.2.2.1) : a = b := by
  obtain ⟨a0, a1, a2, a3, a4, ⟨⟩⟩ := a
  obtain ⟨b0, b1, b2, b3, b4, ⟨⟩⟩ := b
  simp only at h0 h1 h2 h3 h4
  subst h0 h1 h2 h3 h4
  rfl
def rsF (s : tStep.den) : List Int := [s.1, if s.2.1 then 1 else 0]
def rtF (x : tStamp.den) : List Int := [103, x.1, x.2.1, x.2.2.1, x.2.2.2.1, x.2.2.2.2.1]
def rdF (m : Int) (r : tRenewal.den) : Int := digF m ([4, r.1, r.2.1, r.2.2.1] ++ r.2.2.2.1.flatMap rsF ++ [(r.2.2.2.2.1.length : Int)] ++ r.2.2.2.2.1.flatMap rtF)
theorem fm_len {α : Type} (f : α → List Int) (c : Nat) (h : ∀ x, (f x).length = c) : ∀ l : List α, (l.flatMap f).length = c * l.length
  | [] => by simp
  | x :: l => by rw [List.flatMap_cons, List.length_append, h, fm_len f c h l, List.length_cons, Nat.mul_add]; omega
theorem rs_len (l : List tStep.den) : (l.flatMap rsF).length = 2 * l.length := fm_len rsF 2 (fun _ => rfl) l
theorem rt_len (l : List tStamp.den) : (l.flatMap rtF).length = 6 * l.length := fm_len rtF 6 (fun _ => rfl) l
theorem fm_take_succ {α : Type} (f : α → List Int) {l : List α} {k : Nat} (hk : k < l.length) (d : α) : (l.take (k + 1)).flatMap f = (l.take k).flatMap f ++ f (l.getD k d) := by
  rw [take_getD hk d, List.flatMap_append]
  simp
end Go.Proofs.Ytcbecpjhgfkofaa
