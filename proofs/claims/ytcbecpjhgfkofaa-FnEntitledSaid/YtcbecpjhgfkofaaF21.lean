/- What the draws' cursor answers. It proves nothing of a statement by itself. -/
import Derived.Test.YtcbecpjhgfkofaaG
import Derived.Test.YtcbecpjhgfkofaaAL23
set_option linter.unusedSimpArgs false
set_option linter.unusedVariables false
set_option maxRecDepth 100000
namespace Go.Proofs.Ytcbecpjhgfkofaa
open Go.AL
def byH (h : Int) : Int := IntKind.i64.wrap (IntKind.i64.wrap (h * 6364136223846793005) + 1442695040888963407)
def byW (h : Int) : Int := bitI .and .i64 (bitI .xor .i64 (Int.fdiv (byH h) (2 ^ (min 33 64))) (Int.fdiv (byH h) (2 ^ (min 47 64)))) 255
def byX (b : List Int) (i h : Int) : Int := if i < (b.length : Int) then bitI .and .i64 (IntKind.i64.wrap (byW h + IntKind.i64.wrap (b.getD i.toNat 0))) 255 else byW h
def byI (b : List Int) (i : Int) : Int := if i < (b.length : Int) then IntKind.i64.wrap (i + 1) else i
theorem byI_ge {b : List Int} {i : Int} (hb : b.length ≤ maxLen) (h : 0 ≤ i) : 0 ≤ byI b i := by
  have hm : maxLen = 9223372036854775807 := rfl
  unfold byI
  split
  · rw [wrap_i64 (by omega) (by omega)]; omega
  · exact h
def blX (b : List Int) (i h n : Int) : Int := if n ≤ 0 then 0 else if n ≤ 256 then (byX b i h).tmod n else (IntKind.i64.wrap (IntKind.i64.wrap (IntKind.i64.wrap (byX b i h * 65536) + IntKind.i64.wrap (byX b (byI b i) (byH h) * 256)) + byX b (byI b (byI b i)) (byH (byH h)))).tmod n
def blI (b : List Int) (i n : Int) : Int := if n ≤ 0 then i else if n ≤ 256 then byI b i else byI b (byI b (byI b i))
def blH (h n : Int) : Int := if n ≤ 0 then h else if n ≤ 256 then byH h else byH (byH (byH h))
theorem blI_ge {b : List Int} {i n : Int} (hb : b.length ≤ maxLen) (h : 0 ≤ i) : 0 ≤ blI b i n := by
  unfold blI
  repeat' split
  · exact h
  · exact byI_ge hb h
  · exact byI_ge hb (byI_ge hb (byI_ge hb h))
theorem blX_lt {b : List Int} {i h n : Int} (hn : 1 ≤ n) : blX b i h n < n := by
  unfold blX
  rw [if_neg (by omega)]
  split <;> exact Int.tmod_lt_of_pos _ (by omega)
def nwG (h x : Int) : Int := bitI .and .i64 (IntKind.i64.wrap (IntKind.i64.wrap (IntKind.i64.wrap (h * 137) + IntKind.i64.wrap x) + 11)) 1073741823
def nwK (b : List Int) : Nat → Nat → Int → Int
  | 0, _, h => h
  | n + 1, k, h => if k < b.length ∧ k < 4000 then nwK b n (k + 1) (nwG h (b.getD k 0)) else h
theorem nwK_end {b : List Int} {k : Nat} {h : Int} (hk : ¬ (k < b.length ∧ k < 4000)) : nwK b (4000 - k) k h = h := by
  cases hn : 4000 - k with
  | zero => rfl
  | succ n => rw [nwK, if_neg hk]
def newH (b : List Int) : Int := nwK b 4000 0 (IntKind.i64.wrap (193017 + (b.length : Int)))
theorem l1Byte_ok (b : List Int) (i h : Int) (hi : 0 ≤ i) : MutOK Try.prog 38 [none] [.obj (.box 58 [.rd (.list (.int .u8)) b, .rd I i, .rd I h])] (.rd I (byX b i h)) [.box 58 [.rd (.list (.int .u8)) b, .rd I (byI b i), .rd I (byH h)]] := by
  refine fun_ofM (tb := tb) follows Try.func38 (by kernel_rfl) Try.ntmps38 rfl rfl (by simp [shOK]) rfl ?_
  intro cx hN hw
  have hm : maxLen = 9223372036854775807 := rfl
  simp (disch := exact eqId (by kernel_rfl)) only [go_sem, ↓reduceIte, Nat.reduceAdd, Nat.reduceMul, Nat.reduceLT, Nat.reduceBEq, Nat.reduceLeDiff, Nat.reduceEqDiff, Int.reduceToNat]
  repeat' (first | (refine And.intro ?_ ?_) | intro _)
  all_goals (try omega)
  all_goals (rename_i hc; first | (unfold byX byW byH; rw [if_pos hc]; done) | (unfold byX byW byH; rw [if_neg hc]; done) | (unfold byI byH; rw [if_pos hc]; done) | (unfold byI byH; rw [if_neg hc]; done))
theorem l1Below_ok (b : List Int) (i h n : Int) (hi : 0 ≤ i) (hb : b.length ≤ maxLen) : MutOK Try.prog 29 [none, none] [.obj (.box 58 [.rd (.list (.int .u8)) b, .rd I i, .rd I h]), .rd ⟨I, n⟩] (.rd I (blX b i h n)) [.box 58 [.rd (.list (.int .u8)) b, .rd I (blI b i n), .rd I (blH h n)]] := by
  refine fun_ofM (tb := tb) follows Try.func29 (by kernel_rfl) Try.ntmps29 rfl rfl (by simp [shOK]) rfl ?_
  intro cx hN hw
  simp (disch := exact eqId (by kernel_rfl)) only [go_sem, ↓reduceIte, Nat.reduceAdd, Nat.reduceMul, Nat.reduceLT, Nat.reduceBEq, Nat.reduceLeDiff, Nat.reduceEqDiff, Int.reduceToNat]
  repeat' (first | (refine And.intro ?_ ?_) | intro _ | (refine callM_intro (l1Byte_ok _ _ _ (by repeat' first | assumption | apply byI_ge | apply blI_ge | exact Int.le_refl _)) ⟨⟨trivial, by decide⟩, rfl, rfl⟩ ?_; try (simp (disch := exact eqId (by kernel_rfl)) only [go_sem, ↓reduceIte, Nat.reduceAdd, Nat.reduceMul, Nat.reduceLT, Nat.reduceBEq, Nat.reduceLeDiff, Nat.reduceEqDiff, Int.reduceToNat])))
  all_goals (try omega)
  all_goals (first | unfold blX | unfold blI blH)
  all_goals (repeat (first | rw [if_pos (by assumption)] | rw [if_neg (by assumption)]))
end Go.Proofs.Ytcbecpjhgfkofaa
