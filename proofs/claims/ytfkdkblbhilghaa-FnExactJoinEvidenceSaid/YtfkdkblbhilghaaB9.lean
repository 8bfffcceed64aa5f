/- What the functions of successions and lines of keys answer, on both sides. It proves nothing of a statement by itself. -/
import Derived.Test.YtfkdkblbhilghaaB8
set_option linter.unusedSimpArgs false
set_option linter.unusedVariables false
set_option maxRecDepth 100000
namespace Go.Proofs.Ytfkdkblbhilghaa
open Go.AL
def sucI (x : tSuccession.den) : List Int := [106, x.1, x.2.1, x.2.2.1]
theorem suc_len (x : tSuccession.den) : (sucI x).length ≤ 1073741823 := by simp [sucI]
def finK (l : List tKey.den) (n : Int) : Int := finF (fun x : tKey.den => x.1) n l 0
def ownF (l : List tKey.den) (n : Int) : Int := if 0 ≤ finK l n then (l.getD (finK l n).toNat (0, 0, 0, 0, 0, ())).2.1 else -1
theorem finF_mem (q : Int) : ∀ (l : List Int) (i : Int), 0 ≤ i → (0 ≤ finF (fun x : Int => x) q l i ↔ q ∈ l)
  | [], i, h => by simp [finF]
  | x :: xs, i, h => by
    unfold finF
    split
    · rename_i e
      simp [e, h]
    · rename_i e
      rw [finF_mem q xs (i + 1) (by omega)]
      simp only [List.mem_cons]
      exact ⟨fun h => .inr h, fun h => h.resolve_left (fun h => e h.symm)⟩
theorem impl_indexOf_ok (l : List Int) (q : Int) : FunOK Try.prog 136 [⟨(.list I), l⟩, ⟨I, q⟩] (.rd I (finF (fun x : Int => x) q l 0)) := by
  refine fun_of (tb := tb) follows Try.func136 (by kernel_rfl) Try.ntmps136 rfl rfl rfl ?_; intro cx hN hw
  simp (disch := exact eqId (by kernel_rfl)) only [go_sem, ↓reduceIte, Nat.reduceAdd, Nat.reduceMul, Nat.reduceLT, Nat.reduceBEq, Nat.reduceLeDiff, Nat.reduceEqDiff, Int.reduceToNat]
  refine loop_intro (tb := tb) follows hN (D := Nat) (fun d => shp [(1, .rd I (q : Int)), (7, .rd (.list I) (l)), (8, .rd I (((l).length : Int) : Int)), (9, .rd I (d : Int))] []) (fun d => d ≤ l.length ∧ finF (fun x : Int => x) q l 0 = finF (fun x : Int => x) q (l.drop d) d) (fun d => l.length - d) (0) ?_ (sub_shp hN [] ?_) (fun d hd => ?_)
  · exact ⟨Nat.zero_le _, rfl⟩
  · simp (disch := exact eqId (by kernel_rfl)) only [go_sem, ↓reduceIte, Nat.reduceAdd, Nat.reduceMul, Nat.reduceLT, Nat.reduceBEq, Nat.reduceLeDiff, Nat.reduceEqDiff, Int.reduceToNat]
    try rfl
  · obtain ⟨h1, h2⟩ := hd
    simp (disch := exact eqId (by kernel_rfl)) only [go_sem, ↓reduceIte, Nat.reduceAdd, Nat.reduceMul, Nat.reduceLT, Nat.reduceBEq, Nat.reduceLeDiff, Nat.reduceEqDiff, Int.reduceToNat]
    repeat' (first | (refine And.intro ?_ ?_) | intro _)
    all_goals (try omega)
    · rename_i hk he
      rw [h2, drop_getD (show d < l.length by omega) 0, finF, if_pos he]
    · rename_i hk he
      have hk : d < l.length := by omega
      refine back_intro (d + 1) ?_ ?_ (sub_shp hN [] ?_)
      · refine ⟨hk, ?_⟩
        rw [h2, drop_getD hk 0, finF, if_neg he]
        rfl
      · omega
      · simp (disch := exact eqId (by kernel_rfl)) only [go_sem, ↓reduceIte, Nat.reduceAdd, Nat.reduceMul, Nat.reduceLT, Nat.reduceBEq, Nat.reduceLeDiff, Nat.reduceEqDiff, Int.reduceToNat]
        exact wrap_succ hk hw.1.1
    · rename_i hk
      rw [h2, drop_end (show l.length ≤ d by omega)]
      rfl
def sucF (l : List tKey.den) (x : tSuccession.den) : tSuccession.den × Bool :=
  if finK l x.1 < 0 ∨ finK l x.2.1 < 0 ∨ x.1 = x.2.1 ∨ ownF l x.1 ≠ ownF l x.2.1 ∨ ¬ (0 ≤ (x.2.2.1 : Int) ∧ (x.2.2.1 : Int) ≤ 10000) then ((0, 0, 0, 0, ()), false)
  else ((x.1, x.2.1, x.2.2.1, (mbF l x.1 (sucI x)).1, ()), true)
theorem mb_f (l : List tKey.den) (n : Int) (w : List Int) : ((mbF l n w).2 = false) = (finF (fun x : tKey.den => x.1) n l 0 < 0) := by
  unfold mbF
  split
  · rename_i h; simp [h]
  · rename_i h; simp [h]
theorem mb_t (l : List tKey.den) (n : Int) (w : List Int) : ((mbF l n w).2 = true) = ¬ (finF (fun x : tKey.den => x.1) n l 0 < 0) := by
  rw [← mb_f l n w]; simp
theorem sucF_f {l : List tKey.den} {x : tSuccession.den} (h : ((((mbF l x.1 (sucI x)).2 = false ∨ finF (fun x : tKey.den => x.1) x.2.1 l 0 < 0) ∨ x.1 = x.2.1) ∨ ¬ ownF l x.1 = ownF l x.2.1) ∨ inB x.2.2.1 0 10000 = false) : sucF l x = ((0, 0, 0, 0, ()), false) := by
  unfold sucF finK
  rw [if_pos]
  rw [mb_f, inB_f] at h
  rcases h with (((h | h) | h) | h) | h
  · exact .inl h
  · exact .inr (.inl h)
  · exact .inr (.inr (.inl h))
  · exact .inr (.inr (.inr (.inl h)))
  · exact .inr (.inr (.inr (.inr h)))
theorem sucF_t {l : List tKey.den} {x : tSuccession.den} (h : ((((mbF l x.1 (sucI x)).2 = true ∧ ¬ finF (fun x : tKey.den => x.1) x.2.1 l 0 < 0) ∧ ¬ x.1 = x.2.1) ∧ ownF l x.1 = ownF l x.2.1) ∧ inB x.2.2.1 0 10000 = true) : sucF l x = ((x.1, x.2.1, x.2.2.1, (mbF l x.1 (sucI x)).1, ()), true) := by
  unfold sucF finK
  rw [if_neg]
  rw [mb_t, inB_t] at h
  rintro (k | k | k | k | k)
  · exact h.1.1.1.1 k
  · exact h.1.1.1.2 k
  · exact h.1.1.2 k
  · exact k h.1.2
  · exact k h.2
theorem ownF_at {l : List tKey.den} {n : Int} (h : ¬ finF (fun x : tKey.den => x.1) n l 0 < 0) : ownF l n = (l.getD (finF (fun x : tKey.den => x.1) n l 0).toNat (0, 0, 0, 0, 0, ())).2.1 := by
  unfold ownF finK
  rw [if_pos (by omega)]
theorem sucG_f {l : List tKey.den} {x : tSuccession.den} (h : (((finF (fun x : tKey.den => x.1) x.1 l 0 < 0 ∨ finF (fun x : tKey.den => x.1) x.2.1 l 0 < 0) ∨ x.1 = x.2.1) ∨ ¬ (l.getD (finF (fun x : tKey.den => x.1) x.1 l 0).toNat (0, 0, 0, 0, 0, ())).2.1 = (l.getD (finF (fun x : tKey.den => x.1) x.2.1 l 0).toNat (0, 0, 0, 0, 0, ())).2.1) ∨ inB x.2.2.1 0 10000 = false) : sucF l x = ((0, 0, 0, 0, ()), false) := by
  unfold sucF finK
  rw [if_pos]
  rw [inB_f] at h
  rcases h with (((h | h) | h) | h) | h
  · exact .inl h
  · exact .inr (.inl h)
  · exact .inr (.inr (.inl h))
  · by_cases f1 : finF (fun x : tKey.den => x.1) x.1 l 0 < 0
    · exact .inl f1
    · by_cases f2 : finF (fun x : tKey.den => x.1) x.2.1 l 0 < 0
      · exact .inr (.inl f2)
      · exact .inr (.inr (.inr (.inl (by rw [ownF_at f1, ownF_at f2]; exact h))))
  · exact .inr (.inr (.inr (.inr h)))
theorem sucG_t {l : List tKey.den} {x : tSuccession.den} (h : (((¬ finF (fun x : tKey.den => x.1) x.1 l 0 < 0 ∧ ¬ finF (fun x : tKey.den => x.1) x.2.1 l 0 < 0) ∧ ¬ x.1 = x.2.1) ∧ (l.getD (finF (fun x : tKey.den => x.1) x.1 l 0).toNat (0, 0, 0, 0, 0, ())).2.1 = (l.getD (finF (fun x : tKey.den => x.1) x.2.1 l 0).toNat (0, 0, 0, 0, 0, ())).2.1) ∧ inB x.2.2.1 0 10000 = true) : sucF l x = ((x.1, x.2.1, x.2.2.1, mwF (l.getD (finF (fun x : tKey.den => x.1) x.1 l 0).toNat (0, 0, 0, 0, 0, ())) (sucI x), ()), true) := by
  have e : (mbF l x.1 (sucI x)).1 = mwF (l.getD (finF (fun x : tKey.den => x.1) x.1 l 0).toNat (0, 0, 0, 0, 0, ())) (sucI x) := by
    unfold mbF
    rw [if_neg h.1.1.1.1]
  unfold sucF finK
  rw [if_neg, e]
  rw [inB_t] at h
  rintro (k | k | k | k | k)
  · exact h.1.1.1.1 k
  · exact h.1.1.1.2 k
  · exact h.1.1.2 k
  · exact k (by rw [ownF_at h.1.1.1.1, ownF_at h.1.1.1.2]; exact h.1.2)
  · exact k h.2
noncomputable def cksF (l : List tKey.den) (x : tSuccession.den) : Bool := (sucF l x).2 && eqC (sucF l x).1 x
noncomputable def nkF (ks : List tKey.den) (key t : Int) : List tSuccession.den → Int
  | [] => 0
  | x :: xs => if (x.1 : Int) = key ∧ (x.2.2.1 : Int) ≤ t ∧ cksF ks x = true then x.2.1 else nkF ks key t xs
def nwF (ls : List tSuccession.den) : List Int := ls.map (fun x => x.2.1)
theorem nkF_mem (ks : List tKey.den) (key t : Int) : ∀ ls, nkF ks key t ls = 0 ∨ nkF ks key t ls ∈ nwF ls
  | [] => .inl rfl
  | x :: xs => by
    unfold nkF
    split
    · exact .inr (by simp [nwF])
    · rcases nkF_mem ks key t xs with h | h
      · exact .inl h
      · exact .inr (by unfold nwF at h ⊢; rw [List.map_cons]; exact List.mem_cons_of_mem _ h)
noncomputable def klF (ks : List tKey.den) (ls : List tSuccession.den) (key t : Int) : List Int :=
  if finK ks key < 0 ∨ key = 0 then [] else lineF (fun k => nkF ks k t ls) (ls.length + 2) [] key
theorem klF_len (ks : List tKey.den) (ls : List tSuccession.den) (key t : Int) : (klF ks ls key t).length ≤ ls.length + 2 := by
  unfold klF
  split
  · exact Nat.zero_le _
  · simpa using lineF_len (fun k => nkF ks k t ls) (ls.length + 2) [] key
noncomputable def ckyF (ks : List tKey.den) (ls : List tSuccession.den) (key t : Int) : Int := (klF ks ls key t).getD ((klF ks ls key t).length - 1) 0
end Go.Proofs.Ytfkdkblbhilghaa
/- What the functions of renewals' digests answer, on both sides. It proves nothing of a statement by itself. -/
set_option linter.unusedSimpArgs false
set_option linter.unusedVariables false
set_option maxRecDepth 100000
namespace Go.Proofs.Ytfkdkblbhilghaa
open Go.AL
theorem lb1 {X Z : List Int} {y : Int} {n : Nat} (h1 : X.length ≤ 2097152) (h2 : Z.length ≤ 6291456) (hn : 100000000 ≤ n) : (X ++ y :: Z).length ≤ n := by
  simp only [List.length_append, List.length_cons]; omega
theorem lb2 {X Z W : List Int} {y : Int} {n : Nat} (h1 : X.length ≤ 2097152) (h2 : Z.length ≤ 6291456) (hw : W.length ≤ 100) (hn : 100000000 ≤ n) : (X ++ y :: Z ++ W).length ≤ n := by
  simp only [List.length_append, List.length_cons]; omega
theorem lb4 {X : List Int} {y : Int} {n : Nat} (h1 : X.length ≤ 2097152) (hn : 100000000 ≤ n) : (X ++ [y]).length ≤ n := by
  simp only [List.length_append, List.length_cons, List.length_nil]; omega
theorem lb3 {X Z : List Int} {y a b c e : Int} (h1 : X.length ≤ 2097152) (h2 : Z.length ≤ 6291456) : (a :: b :: c :: e :: (X ++ y :: Z)).length ≤ 1073741824 := by
  simp only [List.length_append, List.length_cons]; omega
end Go.Proofs.Ytfkdkblbhilghaa
/- What the functions of strands' leaves answer, on both sides. It proves nothing of a statement by itself. -/
set_option linter.unusedSimpArgs false
set_option linter.unusedVariables false
set_option maxRecDepth 100000
namespace Go.Proofs.Ytfkdkblbhilghaa
open Go.AL
theorem pTake {s : tStrand.den} (hs : Small tStrand 1048576 s) (n : Nat) : Small (.list tPiece) 1048576 (List.take n s.1) :=
  ⟨Nat.le_trans (List.length_take_le' n s.1) hs.1.1, fun x hx => hs.1.2 x (List.mem_of_mem_take hx)⟩
def laF (s : tStrand.den) (docs : List Int) (k : Int) : Int :=
  let r := List.getD s.2.1 k.toNat (0, 0, 0, [], [], ())
  if (0 ≤ k ∧ k < (List.length s.2.1 : Int)) ∧ (docs.length : Int) = (List.length s.2.1 : Int) ∧ (0 : Int) ≤ (r.1 : Int) ∧ (r.1 : Int) ≤ (List.length s.1 : Int) then
    leafF r.2.1 (docs.getD k.toNat 0) (List.take r.1.toNat s.1) (if 0 < k then rdF r.2.1 (List.getD s.2.1 (k.toNat - 1) (0, 0, 0, [], [], ())) else 0)
  else -1
end Go.Proofs.Ytfkdkblbhilghaa
/- What the functions of ordered lists and frames answer, on both sides. It proves nothing of a statement by itself. -/
set_option linter.unusedSimpArgs false
set_option linter.unusedVariables false
set_option maxRecDepth 100000
namespace Go.Proofs.Ytfkdkblbhilghaa
open Go.AL
def ltG : Option Int → Int → Bool
  | none, _ => true
  | some m, y => decide (m < y)
def areG {α : Type} (p : α → Bool) (n : α → Int) : Option Int → List α → Bool
  | _, [] => true
  | pr, x :: xs => p x && (ltG pr (n x) && areG p n (some (n x)) xs)
theorem areG_cons {α : Type} (p : α → Bool) (n : α → Int) (pr : Option Int) (x : α) (xs : List α) : areG p n pr (x :: xs) = (p x && (ltG pr (n x) && areG p n (some (n x)) xs)) := by cases pr <;> rfl
theorem areG_nil {α : Type} (p : α → Bool) (n : α → Int) (pr : Option Int) : areG p n pr [] = true := by cases pr <;> rfl
def pvG {α : Type} (n : α → Int) (df : α) (l : List α) (k : Nat) : Option Int := if (k : Int) > 0 then some (n (l.getD ((k : Int) - 1).toNat df)) else none
theorem pvG_succ {α : Type} (n : α → Int) (df : α) (l : List α) (k : Nat) : pvG n df l (k + 1) = some (n (l.getD k df)) := by
  unfold pvG
  rw [if_pos (by omega), show (((k + 1 : Nat) : Int) - 1).toNat = k by omega]
def metB (m : tMethod.den) : Bool := inB m.1 0 99 && inB m.2.1 0 10000 && inB m.2.2.1 1 10001 && inB m.2.2.2.1 1 10001 && decide (m.2.1 < m.2.2.1) && decide (m.2.1 < m.2.2.2.1)
def autB (m : tAuthority.den) : Bool := inB m.1 0 99 && inB m.2.1 1 99 && inB m.2.2.1 0 100
def frmB (f : tFrame.den) : Bool := (areG keyB (fun x => x.1) none f.1 && decide (f.1.length ≤ 12)) && (areG autB (fun x => x.1) none f.2.1 && decide (f.2.1.length ≤ 6)) && (areG metB (fun x => x.1) none f.2.2.1 && decide (f.2.2.1.length ≤ 8)) && inB f.2.2.2.1 0 6 && inB f.2.2.2.2.1 0 10000
end Go.Proofs.Ytfkdkblbhilghaa
/- What the functions of stamps, of agreed spans and of renewals answer, on both sides. It proves nothing of a statement by itself. -/
set_option linter.unusedSimpArgs false
set_option linter.unusedVariables false
set_option maxRecDepth 100000
namespace Go.Proofs.Ytfkdkblbhilghaa
open Go.AL
def finA (l : List tAuthority.den) (n : Int) : Int := finF (fun x : tAuthority.den => x.1) n l 0
def finM (l : List tMethod.den) (n : Int) : Int := finF (fun x : tMethod.den => x.1) n l 0
def stI (s : tStamp.den) : List Int := [103, s.1, s.2.1, s.2.2.1, s.2.2.2.1]
def mksF (ks : List tKey.den) (l : List tAuthority.den) (s : tStamp.den) : tStamp.den × Bool :=
  if finA l s.1 < 0 ∨ (s.2.1 : Int) < 0 ∨ ¬ (0 ≤ (s.2.2.1 : Int) ∧ (s.2.2.1 : Int) ≤ 10000) ∨ finF (fun x : tKey.den => x.1) (l.getD (finA l s.1).toNat (0, 0, 0, ())).2.1 ks 0 < 0 then ((0, 0, 0, 0, 0, ()), false)
  else ((s.1, s.2.1, s.2.2.1, s.2.2.2.1, (mbF ks (l.getD (finA l s.1).toNat (0, 0, 0, ())).2.1 (stI s)).1, ()), true)
noncomputable def cksS (ks : List tKey.den) (l : List tAuthority.den) (s : tStamp.den) : Bool := (mksF ks l s).2 && eqC (mksF ks l s).1 s
def sspF (l : List tAuthority.den) (s : tStamp.den) : tSpan.den × Bool :=
  if finA l s.1 < 0 ∨ ((l.getD (finA l s.1).toNat (0, 0, 0, ())).2.2.1 : Int) < 0 ∨ ¬ (0 ≤ (s.2.2.1 : Int) ∧ (s.2.2.1 : Int) ≤ 10000) then ((0, 0, ()), false)
  else mkF (IntKind.i64.wrap (s.2.2.1 - (l.getD (finA l s.1).toNat (0, 0, 0, ())).2.2.1)) (IntKind.i64.wrap (s.2.2.1 + (l.getD (finA l s.1).toNat (0, 0, 0, ())).2.2.1))
def skyF (l : List tAuthority.den) (s : tStamp.den) : Int := if 0 ≤ finA l s.1 then (l.getD (finA l s.1).toNat (0, 0, 0, ())).2.1 else 0
def brkF (l : List tMethod.den) (n : Int) : Int := if 0 ≤ finM l n then (l.getD (finM l n).toNat (0, 0, 0, 0, ())).2.2.2.1 else 0
theorem mks_f {ks : List tKey.den} {l : List tAuthority.den} {s : tStamp.den} (h : (finF (fun x : tAuthority.den => x.1) s.1 l 0 < 0 ∨ (s.2.1 : Int) < 0) ∨ inB s.2.2.1 0 10000 = false) : mksF ks l s = ((0, 0, 0, 0, 0, ()), false) := by
  unfold mksF finA
  rw [if_pos]
  rw [inB_f] at h
  rcases h with (h | h) | h
  · exact .inl h
  · exact .inr (.inl h)
  · exact .inr (.inr (.inl h))
theorem mks_k {ks : List tKey.den} {l : List tAuthority.den} {s : tStamp.den} (h : finF (fun x : tKey.den => x.1) (l.getD (finF (fun x : tAuthority.den => x.1) s.1 l 0).toNat (0, 0, 0, ())).2.1 ks 0 < 0) : mksF ks l s = ((0, 0, 0, 0, 0, ()), false) := by
  unfold mksF finA
  rw [if_pos (.inr (.inr (.inr h)))]
theorem mks_t {ks : List tKey.den} {l : List tAuthority.den} {s : tStamp.den} (h : (¬ finF (fun x : tAuthority.den => x.1) s.1 l 0 < 0 ∧ ¬ (s.2.1 : Int) < 0) ∧ inB s.2.2.1 0 10000 = true) (hk : ¬ finF (fun x : tKey.den => x.1) (l.getD (finF (fun x : tAuthority.den => x.1) s.1 l 0).toNat (0, 0, 0, ())).2.1 ks 0 < 0) :
    mksF ks l s = ((s.1, s.2.1, s.2.2.1, s.2.2.2.1, (mbF ks (l.getD (finF (fun x : tAuthority.den => x.1) s.1 l 0).toNat (0, 0, 0, ())).2.1 (stI s)).1, ()), true) := by
  unfold mksF finA
  rw [if_neg]
  rw [inB_t] at h
  rintro (k | k | k | k)
  · exact h.1.1 k
  · exact h.1.2 k
  · exact k h.2
  · exact hk k
theorem mks_u {ks : List tKey.den} {l : List tAuthority.den} {s : tStamp.den} (h : (¬ finF (fun x : tAuthority.den => x.1) s.1 l 0 < 0 ∧ ¬ (s.2.1 : Int) < 0) ∧ inB s.2.2.1 0 10000 = true) (hk : ¬ finF (fun x : tKey.den => x.1) (l.getD (finF (fun x : tAuthority.den => x.1) s.1 l 0).toNat (0, 0, 0, ())).2.1 ks 0 < 0) :
    mksF ks l s = ((s.1, s.2.1, s.2.2.1, s.2.2.2.1, mwF (ks.getD (finF (fun x : tKey.den => x.1) (l.getD (finF (fun x : tAuthority.den => x.1) s.1 l 0).toNat (0, 0, 0, ())).2.1 ks 0).toNat (0, 0, 0, 0, 0, ())) (stI s), ()), true) := by
  rw [mks_t h hk]
  have e : (mbF ks (l.getD (finF (fun x : tAuthority.den => x.1) s.1 l 0).toNat (0, 0, 0, ())).2.1 (stI s)).1 = mwF (ks.getD (finF (fun x : tKey.den => x.1) (l.getD (finF (fun x : tAuthority.den => x.1) s.1 l 0).toNat (0, 0, 0, ())).2.1 ks 0).toNat (0, 0, 0, 0, 0, ())) (stI s) := by
    unfold mbF
    rw [if_neg hk]
  rw [e]
theorem ssp_f {l : List tAuthority.den} {s : tStamp.den} (h : (finF (fun x : tAuthority.den => x.1) s.1 l 0 < 0 ∨ ((l.getD (finF (fun x : tAuthority.den => x.1) s.1 l 0).toNat (0, 0, 0, ())).2.2.1 : Int) < 0) ∨ inB s.2.2.1 0 10000 = false) : sspF l s = ((0, 0, ()), false) := by
  unfold sspF finA
  rw [if_pos]
  rw [inB_f] at h
  rcases h with (h | h) | h
  · exact .inl h
  · exact .inr (.inl h)
  · exact .inr (.inr h)
theorem ssp_t {l : List tAuthority.den} {s : tStamp.den} (h : (¬ finF (fun x : tAuthority.den => x.1) s.1 l 0 < 0 ∧ ¬ ((l.getD (finF (fun x : tAuthority.den => x.1) s.1 l 0).toNat (0, 0, 0, ())).2.2.1 : Int) < 0) ∧ inB s.2.2.1 0 10000 = true) :
    sspF l s = mkF (IntKind.i64.wrap (s.2.2.1 - (l.getD (finF (fun x : tAuthority.den => x.1) s.1 l 0).toNat (0, 0, 0, ())).2.2.1)) (IntKind.i64.wrap (s.2.2.1 + (l.getD (finF (fun x : tAuthority.den => x.1) s.1 l 0).toNat (0, 0, 0, ())).2.2.1)) := by
  unfold sspF finA
  rw [if_neg]
  rw [inB_t] at h
  rintro (k | k | k)
  · exact h.1.1 k
  · exact h.1.2 k
  · exact k h.2
theorem dec_not {p : Prop} [Decidable p] (h : ¬ p) : decide p = false := decide_eq_false h
def risF (l : List tStamp.den) : Bool := areG (fun _ => true) (fun x : tStamp.den => (x.1 : Int)) none l
noncomputable def stB (ks : List tKey.den) (l : List tAuthority.den) (root : Int) (s : tStamp.den) : Bool := decide ((s.2.2.2.1 : Int) = root) && cksS ks l s
theorem areG_all {α : Type} (p : α → Bool) (n : α → Int) : ∀ (l : List α) (pr : Option Int), areG p n pr l = (areG (fun _ => true) n pr l && l.all p)
  | [], pr => by rw [areG_nil, areG_nil]; rfl
  | x :: xs, pr => by
    rw [areG_cons, areG_cons, areG_all p n xs (some (n x)), List.all_cons]
    cases p x <;> cases ltG pr (n x) <;> simp
noncomputable def crF (ks : List tKey.den) (l : List tAuthority.den) (r : tRenewal.den) (leaf : Int) : Bool :=
  decide (r.2.2.2.1.length ≤ 4 ∧ List.foldl (fpStep r.2.1) leaf r.2.2.2.1 = (r.2.2.1 : Int) ∧ 1 ≤ r.2.2.2.2.1.length ∧ r.2.2.2.2.1.length ≤ 6) && areG (stB ks l r.2.2.1) (fun x : tStamp.den => (x.1 : Int)) none r.2.2.2.2.1
theorem crA_f {ks : List tKey.den} {l : List tAuthority.den} {r : tRenewal.den} {leaf : Int} (h : ((((List.length r.2.2.2.1 : Int) > 4) ∨ ¬ List.foldl (fpStep r.2.1) leaf r.2.2.2.1 = (r.2.2.1 : Int)) ∨ (¬ 1 ≤ (List.length r.2.2.2.2.1 : Int) ∨ ¬ (List.length r.2.2.2.2.1 : Int) ≤ 6)) ∨ risF r.2.2.2.2.1 = false) : false = crF ks l r leaf := by
  unfold crF
  rw [areG_all]
  rcases h with ((h | h) | h) | h
  · rw [decide_eq_false (by rintro ⟨h1, h2, h3, h4⟩; omega)]; rfl
  · rw [decide_eq_false (by rintro ⟨h1, h2, h3, h4⟩; exact h h2)]; rfl
  · rw [decide_eq_false (by rintro ⟨h1, h2, h3, h4⟩; omega)]; rfl
  · unfold risF at h
    rw [h, Bool.false_and, Bool.and_false]
theorem crA_t {ks : List tKey.den} {l : List tAuthority.den} {r : tRenewal.den} {leaf : Int} (h : ((¬ ((List.length r.2.2.2.1 : Int) > 4) ∧ List.foldl (fpStep r.2.1) leaf r.2.2.2.1 = (r.2.2.1 : Int)) ∧ (1 ≤ (List.length r.2.2.2.2.1 : Int) ∧ (List.length r.2.2.2.2.1 : Int) ≤ 6)) ∧ risF r.2.2.2.2.1 = true) : crF ks l r leaf = List.all r.2.2.2.2.1 (stB ks l r.2.2.1) := by
  unfold crF
  rw [areG_all, decide_eq_true (show _ from ⟨by have := h.1.1.1; omega, h.1.1.2, by have := h.1.2.1; omega, by have := h.1.2.2; omega⟩), Bool.true_and]
  have := h.2
  unfold risF at this
  rw [this, Bool.true_and]
theorem crB_f {ks : List tKey.den} {l : List tAuthority.den} {r : tRenewal.den} {leaf : Int} (h : (((List.length r.2.2.2.1 : Int) > 4) ∨ ¬ List.foldl (fpStep r.2.1) leaf r.2.2.2.1 = (r.2.2.1 : Int)) ∨ (¬ 1 ≤ (List.length r.2.2.2.2.1 : Int) ∨ ¬ (List.length r.2.2.2.2.1 : Int) ≤ 6)) : false = crF ks l r leaf := crA_f (.inl h)
theorem crB_t {ks : List tKey.den} {l : List tAuthority.den} {r : tRenewal.den} {leaf : Int} (h : (¬ ((List.length r.2.2.2.1 : Int) > 4) ∧ List.foldl (fpStep r.2.1) leaf r.2.2.2.1 = (r.2.2.1 : Int)) ∧ (1 ≤ (List.length r.2.2.2.2.1 : Int) ∧ (List.length r.2.2.2.2.1 : Int) ≤ 6)) : crF ks l r leaf = areG (stB ks l r.2.2.1) (fun x : tStamp.den => (x.1 : Int)) none r.2.2.2.2.1 := by
  unfold crF
  rw [decide_eq_true (show _ from ⟨by have := h.1.1; omega, h.1.2, by have := h.2.1; omega, by have := h.2.2; omega⟩), Bool.true_and]
theorem stB_f {ks : List tKey.den} {l : List tAuthority.den} {root : Int} {s : tStamp.den} (he : ¬ (s.2.2.2.1 : Int) = root ∨ cksS ks l s = false) : stB ks l root s = false := by
  unfold stB
  rcases he with he | he
  · rw [decide_eq_false he, Bool.false_and]
  · rw [he, Bool.and_false]
theorem stB_t {ks : List tKey.den} {l : List tAuthority.den} {root : Int} {s : tStamp.den} (he : (s.2.2.2.1 : Int) = root ∧ cksS ks l s = true) : stB ks l root s = true := by
  unfold stB
  rw [decide_eq_true he.1, he.2]
  rfl
end Go.Proofs.Ytfkdkblbhilghaa
/- What draws of stamps, mandates and pieces answer. It proves nothing of a statement by itself. -/
set_option linter.unusedSimpArgs false
set_option linter.unusedVariables false
set_option maxRecDepth 100000
namespace Go.Proofs.Ytfkdkblbhilghaa
open Go.AL
def A4 : List tAuthority.den := [(1, 31, 1, ()), (2, 32, 2, ()), (3, 33, 1, ()), (4, 34, 0, ())]
def isM (x : tMandate.den) : Bool := inB x.1 1 99 && inB x.2.1 0 99 && inB x.2.2.2.2.1 1 99 && spB (x.2.2.1, x.2.2.2.1, ())
def mmF (ks : List tKey.den) (x : tMandate.den) : tMandate.den × Bool := if isM x = false ∨ fnK ks x.2.2.2.2.1 < 0 then (tMandate.dflt, false) else ((x.1, x.2.1, x.2.2.1, x.2.2.2.1, x.2.2.2.2.1, mwF (ks.getD (fnK ks x.2.2.2.2.1).toNat tKey.dflt) [105, x.1, x.2.1, x.2.2.1, x.2.2.2.1, x.2.2.2.2.1], ()), true)
theorem mmF_y {ks : List tKey.den} {x : tMandate.den} (h : isM x = false ∨ fnK ks x.2.2.2.2.1 < 0) : mmF ks x = (tMandate.dflt, false) := if_pos h
theorem mmF_n {ks : List tKey.den} {x : tMandate.den} (h : isM x = true ∧ ¬ fnK ks x.2.2.2.2.1 < 0) : mmF ks x = ((x.1, x.2.1, x.2.2.1, x.2.2.2.1, x.2.2.2.2.1, mwF (ks.getD (fnK ks x.2.2.2.2.1).toNat tKey.dflt) [105, x.1, x.2.1, x.2.2.1, x.2.2.2.1, x.2.2.2.2.1], ()), true) := if_neg (by simp only [not_or, Bool.not_eq_false]; exact h)
def d11 (s : Cu) : tStamp.den × Cu :=
  let a := dB s 4
  let q := dB a.2 9
  let t := dB q.2 60
  let e := dB t.2 99
  ((mksF K8 A4 (IntKind.i64.wrap (1 + a.1), q.1, t.1, e.1, 0, ())).1, e.2)
def d11B (s : Cu) : tStamp.den × Cu :=
  let x := d11 s
  let k := dB x.2 9
  if k.1 = 0 then (setF tStamp x.1 0 (dB k.2 6).1, (dB k.2 6).2)
  else if k.1 = 1 then (setF tStamp x.1 1 (dI k.2 [-1, 3]).1, (dI k.2 [-1, 3]).2)
  else if k.1 = 2 then (setF tStamp x.1 2 (dR k.2).1, (dR k.2).2)
  else if k.1 = 3 then (setF tStamp x.1 3 (IntKind.i64.wrap (x.1.2.2.2.1 + 1)), k.2)
  else if k.1 = 4 then (setF tStamp x.1 4 (IntKind.i64.wrap (x.1.2.2.2.2.1 + 1)), k.2)
  else (x.1, k.2)
def d15 (s : Cu) : tMandate.den × Cu :=
  let f := dB s 40
  let p := dB f.2 2
  let t := dB p.2 30
  ((mmF K8 (50, IntKind.i64.wrap (1 + p.1), f.1, IntKind.i64.wrap (f.1 + t.1), 21, 0, ())).1, t.2)
def d15A (s : Cu) : tMandate.den × Cu :=
  let x := d15 s
  let k := dB x.2 9
  if k.1 = 0 then (setF tMandate x.1 0 (dI k.2 [0, 51, 100]).1, (dI k.2 [0, 51, 100]).2)
  else if k.1 = 1 then (setF tMandate x.1 1 (dI k.2 [-1, 2, 100]).1, (dI k.2 [-1, 2, 100]).2)
  else if k.1 = 2 then (setF tMandate x.1 3 (dR k.2).1, (dR k.2).2)
  else if k.1 = 3 then (setF tMandate x.1 4 (dN k.2).1, (dN k.2).2)
  else if k.1 = 4 then (setF tMandate x.1 5 (IntKind.i64.wrap (x.1.2.2.2.2.2.1 + 1)), k.2)
  else (x.1, k.2)
def d18D (s : Cu) : tPiece.den × Cu :=
  let k := dB s 5
  if k.1 = 0 then
    let j := dB k.2 3
    let x := C3.getD j.1.toNat tCert.dflt
    ((x.2.2.2.2.2.1, certI x, x.2.2.2.2.2.2.1, ()), j.2)
  else if k.1 = 1 then
    let x := d10D k.2
    ((x.1.2.2.2.1, [102, x.1.1, x.1.2.1, x.1.2.2.1, x.1.2.2.2.1], x.1.2.2.2.2.1, ()), x.2)
  else if k.1 = 2 then
    let x := d11 k.2
    ((skyF A4 x.1, [103, x.1.1, x.1.2.1, x.1.2.2.1, x.1.2.2.2.1], x.1.2.2.2.2.1, ()), x.2)
  else if k.1 = 3 then
    let x := d13 k.2
    ((x.1.1.1, [104, x.1.1.1, x.1.1.2.1, x.1.1.2.2.1, x.1.1.2.2.2.1, x.1.1.2.2.2.2.1, x.1.1.2.2.2.2.2.1, x.1.1.2.2.2.2.2.2.1, x.1.1.2.2.2.2.2.2.2.1], x.1.1.2.2.2.2.2.2.2.2.1, ()), x.2)
  else
    let x := d15 k.2
    ((x.1.2.2.2.2.1, [105, x.1.1, x.1.2.1, x.1.2.2.1, x.1.2.2.2.1, x.1.2.2.2.2.1], x.1.2.2.2.2.2.1, ()), x.2)
theorem d18D_len (s : Cu) : 5 ≤ (d18D s).1.2.1.length ∧ (d18D s).1.2.1.length ≤ 9 := by
  unfold d18D
  simp only
  repeat' split
  all_goals (simp only [List.length_cons, List.length_nil, certI]; omega)
def d18 (s : Cu) : tPiece.den × Cu :=
  let p := d18D s
  let k := dB p.2 8
  if k.1 = 0 then (((dN k.2).1, p.1.2.1, p.1.2.2.1, ()), (dN k.2).2)
  else if k.1 = 1 then ((p.1.1, p.1.2.1 ++ [5], p.1.2.2.1, ()), k.2)
  else if k.1 = 2 then ((p.1.1, p.1.2.1, IntKind.i64.wrap (p.1.2.2.1 + 1), ()), k.2)
  else if k.1 = 3 then ((p.1.1, p.1.2.1.set 0 (dI k.2 [100, 101, 103, 105, 106, -1]).1, p.1.2.2.1, ()), (dI k.2 [100, 101, 103, 105, 106, -1]).2)
  else if k.1 = 4 then ((p.1.1, p.1.2.1.set 1 (IntKind.i64.wrap (p.1.2.1.getD 1 0 + 1)), p.1.2.2.1, ()), k.2)
  else (p.1, k.2)
end Go.Proofs.Ytfkdkblbhilghaa
/- What draws of lists of keys, authorities and methods answer, and pieces copied and bent. It proves nothing of a statement by itself. -/
set_option linter.unusedSimpArgs false
set_option linter.unusedVariables false
set_option maxRecDepth 100000
namespace Go.Proofs.Ytfkdkblbhilghaa
open Go.AL
def M4 : List tMethod.den := [(1, 0, 40, 50, ()), (2, 20, 80, 70, ()), (3, 40, 120, 200, ()), (4, 60, 10001, 10001, ())]
def d8A (s : Cu) : List tKey.den × Cu :=
  let j := dB s 10
  let k := dB j.2 9
  if k.1 = 0 then (K8.set j.1.toNat (setF tKey (K8.getD j.1.toNat tKey.dflt) 0 (dI k.2 [0, 1, 50, 99, 100]).1), (dI k.2 [0, 1, 50, 99, 100]).2)
  else if k.1 = 1 then (K8.set j.1.toNat (setF tKey (K8.getD j.1.toNat tKey.dflt) 1 (dI k.2 [-1, 5, 100]).1), (dI k.2 [-1, 5, 100]).2)
  else if k.1 = 2 then (K8.set j.1.toNat (setF tKey (K8.getD j.1.toNat tKey.dflt) 4 (dI k.2 [0, 777]).1), (dI k.2 [0, 777]).2)
  else if k.1 = 3 then (K8.set j.1.toNat (setF tKey (K8.getD j.1.toNat tKey.dflt) 3 (dR k.2).1), (dR k.2).2)
  else if k.1 = 4 then (K8.set j.1.toNat (setF tKey (K8.getD j.1.toNat tKey.dflt) 2 (dI k.2 [-1, 0, 99, 100]).1), (dI k.2 [-1, 0, 99, 100]).2)
  else (K8, k.2)
def d11A (s : Cu) : List tAuthority.den × Cu :=
  let j := dB s 4
  let k := dB j.2 8
  if k.1 = 0 then (A4.set j.1.toNat (setF tAuthority (A4.getD j.1.toNat tAuthority.dflt) 0 (dI k.2 [-1, 2, 99, 100]).1), (dI k.2 [-1, 2, 99, 100]).2)
  else if k.1 = 1 then (A4.set j.1.toNat (setF tAuthority (A4.getD j.1.toNat tAuthority.dflt) 1 (dN k.2).1), (dN k.2).2)
  else if k.1 = 2 then (A4.set j.1.toNat (setF tAuthority (A4.getD j.1.toNat tAuthority.dflt) 2 (dI k.2 [-1, 100, 101, 9223372036854775807]).1), (dI k.2 [-1, 100, 101, 9223372036854775807]).2)
  else (A4, k.2)
def d5A (s : Cu) : List tMethod.den × Cu :=
  let j := dB s 4
  let k := dB j.2 9
  if k.1 = 0 then (M4.set j.1.toNat (setF tMethod (M4.getD j.1.toNat tMethod.dflt) 0 (dI k.2 [-1, 0, 1, 99, 100]).1), (dI k.2 [-1, 0, 1, 99, 100]).2)
  else if k.1 = 1 then (M4.set j.1.toNat (setF tMethod (M4.getD j.1.toNat tMethod.dflt) 1 (dR k.2).1), (dR k.2).2)
  else if k.1 = 2 then (M4.set j.1.toNat (setF tMethod (M4.getD j.1.toNat tMethod.dflt) 2 (dI k.2 [0, 1, 45, 10001, 10002]).1), (dI k.2 [0, 1, 45, 10001, 10002]).2)
  else if k.1 = 3 then (M4.set j.1.toNat (setF tMethod (M4.getD j.1.toNat tMethod.dflt) 3 (dI k.2 [0, 1, 45, 10001, 10002]).1), (dI k.2 [0, 1, 45, 10001, 10002]).2)
  else if k.1 = 4 then (M4.take j.1.toNat, k.2)
  else (M4, k.2)
theorem l18Copy_ok (p : tPiece.den) (hp : p.2.1.length ≤ 1048576) : FunOK Try.prog 73 [⟨tPiece, p⟩] (.agg [.rd I p.1, .own 3 I p.2.1, .rd I p.2.2.1]) := by
  refine fun_of (tb := tb) follows Try.func73 (by kernel_rfl) Try.ntmps73 rfl rfl rfl ?_; intro cx hN hw
  simp (disch := exact eqId (by kernel_rfl)) only [go_sem, ↓reduceIte, Nat.reduceAdd, Nat.reduceMul, Nat.reduceLT, Nat.reduceBEq, Nat.reduceLeDiff, Nat.reduceEqDiff, Int.reduceToNat]
  repeat' (first | (refine And.intro ?_ ?_) | intro _)
  all_goals (try omega)
theorem d18_len (s : Cu) : 5 ≤ (d18 s).1.2.1.length ∧ (d18 s).1.2.1.length ≤ 10 := by
  have hl := d18D_len s
  unfold d18
  simp only
  repeat' split
  all_goals (simp only [List.length_append, List.length_set, List.length_cons, List.length_nil]; omega)
end Go.Proofs.Ytfkdkblbhilghaa
/- What the functions of paths in trees answer, on both sides. It proves nothing of a statement by itself. -/
set_option linter.unusedSimpArgs false
set_option linter.unusedVariables false
set_option maxRecDepth 100000
namespace Go.Proofs.Ytfkdkblbhilghaa
open Go.AL
def stepR (l : List Int) (j : Nat) : List tStep.den := if j % 2 = 1 then [(l.getD (j - 1) 0, true, ())] else if j + 1 < l.length then [(l.getD (j + 1) 0, false, ())] else []
def pathR (m : Int) (l : List Int) (j : Nat) : List tStep.den := if h : l.length ≤ 1 then [] else stepR l j ++ pathR m (upF m l) (j / 2)
termination_by l.length
decreasing_by have := upF_len m l; omega
theorem pathR_step (m : Int) (h : List Int) (j : Nat) (hh : 1 < h.length) : pathR m h j = stepR h j ++ pathR m (upF m h) (j / 2) := by
  conv => lhs; unfold pathR
  rw [dif_neg (by omega)]
def pathF (m : Int) (l : List Int) (i : Int) : List tStep.den := if (0 ≤ i ∧ i < (l.length : Int)) ∧ l.length ≤ 16 then pathR m l i.toNat else []
end Go.Proofs.Ytfkdkblbhilghaa
/- Plain maths of trees: a leaf leads to the root by its path, the next number does not. It proves nothing of a statement by itself. -/
set_option linter.unusedSimpArgs false
set_option linter.unusedVariables false
namespace Go.Proofs.Ytfkdkblbhilghaa
open Go.AL
theorem tmod_eq (n : Int) : ∃ q, n = 2147483647 * q + n.tmod 2147483647 ∧ (0 ≤ n → 0 ≤ n.tmod 2147483647) ∧ (n ≤ 0 → n.tmod 2147483647 ≤ 0) ∧ -2147483647 < n.tmod 2147483647 ∧ n.tmod 2147483647 < 2147483647 := by
  refine ⟨n.tdiv 2147483647, (Int.mul_tdiv_add_tmod n 2147483647).symm, fun h => Int.tmod_nonneg _ h, fun h => ?_, ?_, Int.tmod_lt_of_pos n (by decide)⟩
  · have := Int.tmod_nonneg (a := -n) 2147483647 (by omega)
    rw [Int.neg_tmod] at this
    omega
  · have := Int.tmod_lt_of_pos (-n) (b := 2147483647) (by decide)
    rw [Int.neg_tmod] at this
    omega
theorem tmod_pos {n : Int} (h : 0 ≤ n) : n.tmod 2147483647 = n % 2147483647 := Int.tmod_eq_emod_of_nonneg h
theorem modF_eq (v : Int) : modF v 2147483647 = v % 2147483647 := by
  obtain ⟨q, h1, h2, h3, h4, h5⟩ := tmod_eq v
  unfold modF
  rw [if_pos (by decide), wrap_i64 (by omega) (by omega), tmod_pos (by omega)]
  omega
theorem step_eq {h v : Int} (h0 : 0 ≤ h) (h1 : h < 2147483647) : hashStep h v = (h * 1000003 + v % 2147483647 + 13) % 2147483647 := by
  have := Int.emod_nonneg v (b := 2147483647) (by decide)
  have := Int.emod_lt_of_pos v (b := 2147483647) (by decide)
  unfold hashStep
  rw [modF_eq, wrap_i64 (n := h * 1000003) (by omega) (by omega), wrap_i64 (n := h * 1000003 + v % 2147483647) (by omega) (by omega), wrap_i64 (by omega) (by omega), tmod_pos (by omega)]
theorem step_in {h v : Int} (h0 : 0 ≤ h) (h1 : h < 2147483647) : 0 ≤ hashStep h v ∧ hashStep h v < 2147483647 := by
  rw [step_eq h0 h1]; omega
theorem inv0 {d k : Int} (h : 1000003 * d = 2147483647 * k) (h1 : -2147483647 < d) (h2 : d < 2147483647) : d = 0 := by
  have e : d = 2147483647 * (1523789695 * k - 709572 * d) := by
    have e1 : 1523789695 * (1000003 * d) = 1523789695 * (2147483647 * k) := by rw [h]
    omega
  generalize 1523789695 * k - 709572 * d = z at e
  omega
theorem em_sub {X Y p : Int} (e : X % p = Y % p) : ∃ k, X - Y = p * k := by
  refine ⟨X / p - Y / p, ?_⟩
  have e1 := Int.mul_ediv_add_emod X p
  have e2 := Int.mul_ediv_add_emod Y p
  rw [Int.mul_sub]
  omega
theorem step_inj {h g v : Int} (h0 : 0 ≤ h) (h1 : h < 2147483647) (g0 : 0 ≤ g) (g1 : g < 2147483647) (e : hashStep h v = hashStep g v) : h = g := by
  rw [step_eq h0 h1, step_eq g0 g1] at e
  have b1 : -2147483647 < h - g := by clear e; omega
  have b2 : h - g < 2147483647 := by clear e; omega
  obtain ⟨k, hk⟩ := em_sub e
  clear e
  generalize v % 2147483647 = c at hk
  have e4 : 1000003 * (h - g) = 2147483647 * k := by
    rw [← hk]
    omega
  have := inv0 e4 b1 b2
  clear hk e4
  omega
theorem step_ne {h v u : Int} (h0 : 0 ≤ h) (h1 : h < 2147483647) (e : hashStep h v = hashStep h u) : v % 2147483647 = u % 2147483647 := by
  rw [step_eq h0 h1, step_eq h0 h1] at e
  omega
theorem fold_in : ∀ (l : List Int) (h : Int), 0 ≤ h → h < 2147483647 → 0 ≤ l.foldl hashStep h ∧ l.foldl hashStep h < 2147483647
  | [], h, h0, h1 => ⟨h0, h1⟩
  | v :: l, h, h0, h1 => fold_in l _ (step_in h0 h1).1 (step_in h0 h1).2
theorem fold_inj : ∀ (l : List Int) (h g : Int), 0 ≤ h → h < 2147483647 → 0 ≤ g → g < 2147483647 → l.foldl hashStep h = l.foldl hashStep g → h = g
  | [], h, g, _, _, _, _, e => e
  | v :: l, h, g, h0, h1, g0, g1, e => step_inj h0 h1 g0 g1 (fold_inj l _ _ (step_in h0 h1).1 (step_in h0 h1).2 (step_in g0 g1).1 (step_in g0 g1).2 e)
theorem hash_ne (a c : List Int) (v u : Int) (h : v % 2147483647 ≠ u % 2147483647) : hashF (a ++ v :: c) ≠ hashF (a ++ u :: c) := by
  intro e
  unfold hashF at e
  rw [List.foldl_append, List.foldl_append, List.foldl_cons, List.foldl_cons] at e
  obtain ⟨h0, h1⟩ := fold_in a 11 (by decide) (by decide)
  exact h (step_ne h0 h1 (fold_inj c _ _ (step_in h0 h1).1 (step_in h0 h1).2 (step_in h0 h1).1 (step_in h0 h1).2 e))
theorem hash_in (l : List Int) : 0 ≤ hashF l ∧ hashF l < 2147483647 := fold_in l 11 (by decide) (by decide)
theorem next_ne {v : Int} (h1 : -9223372036854775808 ≤ v) (h2 : v ≤ 9223372036854775807) : v % 2147483647 ≠ IntKind.i64.wrap (v + 1) % 2147483647 := by
  by_cases h : v = 9223372036854775807
  · subst h; decide
  · rw [wrap_i64 (by omega) (by omega)]; omega
theorem up_get (m : Int) : ∀ (l : List Int) (i : Nat), (upF m l).getD i 0 = if 2 * i + 1 < l.length then pairF m (l.getD (2 * i) 0) (l.getD (2 * i + 1) 0) else l.getD (2 * i) 0
  | [], i => by simp [upF]
  | [x], i => by
    cases i with
    | zero => simp [upF]
    | succ i => simp [upF]
  | a :: b :: r, i => by
    cases i with
    | zero => simp [upF]
    | succ i =>
      have ih := up_get m r i
      simp only [upF, List.length_cons, List.getD_cons_succ, show 2 * (i + 1) = 2 * i + 1 + 1 by omega] at ih ⊢
      rw [ih]
      by_cases h : 2 * i + 1 < r.length
      · rw [if_pos h, if_pos (by omega)]
      · rw [if_neg h, if_neg (by omega)]
theorem up_step (m : Int) (l : List Int) (j : Nat) (hj : j < l.length) : (stepR l j).foldl (fpStep m) (l.getD j 0) = (upF m l).getD (j / 2) 0 := by
  rw [up_get]
  unfold stepR
  by_cases h : j % 2 = 1
  · rw [if_pos h, if_pos (by omega), show 2 * (j / 2) = j - 1 by omega, show j - 1 + 1 = j by omega, List.foldl_cons, List.foldl_nil, fpStep]
    exact if_pos rfl
  · rw [if_neg h]
    by_cases h2 : j + 1 < l.length
    · rw [if_pos h2, if_pos (by omega), show 2 * (j / 2) = j by omega, List.foldl_cons, List.foldl_nil, fpStep]
      exact if_neg (by simp)
    · rw [if_neg h2, if_neg (by omega), show 2 * (j / 2) = j by omega, List.foldl_nil]
theorem follow_top (m : Int) : ∀ (n : Nat) (l : List Int) (j : Nat), l.length ≤ n → j < l.length → (pathR m l j).foldl (fpStep m) (l.getD j 0) = (topR m l).getD 0 0
  | 0, l, j, h, hj => by omega
  | n + 1, l, j, h, hj => by
    by_cases h1 : l.length ≤ 1
    · unfold pathR topR
      rw [dif_pos h1, dif_pos h1, show j = 0 by omega]
      rfl
    · have u1 := upF_len m l
      have u2 := upF_len2 m l
      rw [pathR_step m l j (by omega), List.foldl_append, up_step m l j hj, follow_top m n (upF m l) (j / 2) (by omega) (by omega)]
      conv => rhs; unfold topR
      rw [dif_neg h1]
theorem path_pow (m : Int) : ∀ (k : Nat) (l : List Int) (j : Nat), l.length ≤ 2 ^ k → (pathR m l j).length ≤ k
  | 0, l, j, h => by
    unfold pathR
    rw [dif_pos (by simpa using h)]
    exact Nat.le_refl _
  | k + 1, l, j, h => by
    by_cases h1 : l.length ≤ 1
    · unfold pathR
      rw [dif_pos h1]
      exact Nat.zero_le _
    · have u1 := upF_len m l
      have hs : (stepR l j).length ≤ 1 := by
        unfold stepR
        repeat' split
        all_goals simp
      have := path_pow m k (upF m l) (j / 2) (by rw [Nat.pow_succ] at h; omega)
      rw [pathR_step m l j (by omega), List.length_append]
      omega
def lev (n : Int) : Int := if n < 1 ∨ 16 < n then 0 else if n ≤ 1 then 0 else if n ≤ 2 then 1 else if n ≤ 4 then 2 else if n ≤ 8 then 3 else 4
def levJ (n : Int) (d : Int × Int) : Prop := (d.1 = 0 ∧ d.2 = 1) ∨ (d.1 = 1 ∧ d.2 = 2 ∧ 1 < n) ∨ (d.1 = 2 ∧ d.2 = 4 ∧ 2 < n) ∨ (d.1 = 3 ∧ d.2 = 8 ∧ 4 < n) ∨ (d.1 = 4 ∧ d.2 = 16 ∧ 8 < n)
theorem pair_ne {m a x y : Int} (h : x % 2147483647 ≠ y % 2147483647) : pairF m a x % 2147483647 ≠ pairF m a y % 2147483647 ∧ pairF m x a % 2147483647 ≠ pairF m y a % 2147483647 := by
  have e : ∀ l, hashF l % 2147483647 = hashF l := fun l => Int.emod_eq_of_lt (hash_in l).1 (hash_in l).2
  unfold pairF digF
  rw [e, e, e, e]
  exact ⟨hash_ne [7, m, 1, a] [] x y h, hash_ne [7, m, 1] [a] x y h⟩
theorem fold_ne (m : Int) : ∀ (l : List tStep.den) (x y : Int), x % 2147483647 ≠ y % 2147483647 → l.foldl (fpStep m) x % 2147483647 ≠ l.foldl (fpStep m) y % 2147483647
  | [], x, y, h => h
  | s :: l, x, y, h => by
    refine fold_ne m l _ _ ?_
    unfold fpStep
    cases s.2.1
    · exact (pair_ne (a := s.1) h).2
    · exact (pair_ne (a := s.1) h).1
theorem lev_pow {n : Nat} (h0 : 1 ≤ n) (h : n ≤ 16) : ∃ k : Nat, lev (n : Int) = (k : Int) ∧ k ≤ 4 ∧ n ≤ 2 ^ k ∧ (k = 0 ∨ 2 ^ k / 2 < n) := by
  have hc : ∀ n : Nat, n ≤ 16 → 1 ≤ n → ∃ k : Nat, k ≤ 4 ∧ lev (n : Int) = (k : Int) ∧ n ≤ 2 ^ k ∧ (k = 0 ∨ 2 ^ k / 2 < n) := by decide
  obtain ⟨k, h1, h2, h3, h4⟩ := hc n h h0
  exact ⟨k, h2, h1, h3, h4⟩
theorem tree_ok {m : Int} {l : List Int} {i : Int} (h0 : 0 ≤ i) (h1 : i < (l.length : Int)) (h2 : l.length ≤ 16) (hv : -9223372036854775808 ≤ l.getD i.toNat 0 ∧ l.getD i.toNat 0 ≤ 9223372036854775807) :
    (pathF m l i).foldl (fpStep m) (l.getD i.toNat 0) = rootF m l ∧ ¬ (pathF m l i).foldl (fpStep m) (IntKind.i64.wrap (l.getD i.toNat 0 + 1)) = rootF m l ∧ ∃ k : Nat, lev (l.length : Int) = (k : Int) ∧ k ≤ 4 ∧ (pathF m l i).length ≤ k ∧ l.length ≤ 2 ^ k ∧ (k = 0 ∨ 2 ^ k / 2 < l.length) := by
  have hp : pathF m l i = pathR m l i.toNat := by unfold pathF; exact if_pos ⟨⟨h0, h1⟩, h2⟩
  have hr : rootF m l = (topR m l).getD 0 0 := by unfold rootF; exact if_pos ⟨by omega, h2⟩
  have hf := follow_top m l.length l i.toNat (Nat.le_refl _) (by omega)
  obtain ⟨k, k1, k2, k3, k4⟩ := lev_pow (n := l.length) (by omega) h2
  rw [hp, hr]
  refine ⟨hf, fun e => ?_, k, k1, k2, path_pow m k l _ k3, k3, k4⟩
  rw [← hf] at e
  exact fold_ne m _ _ _ (next_ne hv.1 hv.2) (by rw [e])
theorem path_no {m : Int} {l : List Int} {i : Int} (h : (i < 0 ∨ i ≥ (l.length : Int)) ∨ (l.length : Int) > 16) : (pathF m l i).length = 0 := by
  unfold pathF
  rw [if_neg (by omega)]
  rfl
end Go.Proofs.Ytfkdkblbhilghaa
/- What draws of renewals answer. It proves nothing of a statement by itself. -/
set_option linter.unusedSimpArgs false
set_option linter.unusedVariables false
set_option maxRecDepth 100000
namespace Go.Proofs.Ytfkdkblbhilghaa
open Go.AL
def d99 (s : Cu) : Int × Cu := dB s 99
def d17 (s : Cu) (n : Int) : List Int × Cu := rep d99 (dB s n).1.toNat (dB s n).2
theorem d17_len (s : Cu) {n : Int} (hn : 1 ≤ n) : ((d17 s n).1.length : Int) < n := by
  have := dB_in s hn
  unfold d17
  rw [rep_len]
  omega
theorem take_flat {α β : Type} (f : α → List β) {l : List α} {k : Nat} (hk : k < l.length) (x : α) : (l.take (k + 1)).flatMap f = (l.take k).flatMap f ++ f (l.getD k x) := by
  rw [List.take_succ_eq_append_getElem hk, List.flatMap_append, List.flatMap_cons, List.flatMap_nil, List.append_nil, List.getD_eq_getElem?_getD, List.getElem?_eq_getElem hk]
  rfl
def mkT (ks : List tKey.den) (l : List tAuthority.den) (q tm root i : Int) : List tStamp.den := if (mksF ks l (i, q, tm, root, 0, ())).2 = true then [(mksF ks l (i, q, tm, root, 0, ())).1] else []
def mkR (ks : List tKey.den) (l : List tAuthority.den) (m leaf : Int) (ot : List Int) (ct : Int) (ids : List Int) (q tm : Int) : tRenewal.den :=
  (ct, m, rootF m (ot ++ [leaf]), pathF m (ot ++ [leaf]) (IntKind.i64.wrap (((ot ++ [leaf]).length : Int) - 1)), ids.flatMap (mkT ks l q tm (rootF m (ot ++ [leaf]))), ())
theorem mkT_len (ks : List tKey.den) (l : List tAuthority.den) (q tm root i : Int) : (mkT ks l q tm root i).length ≤ 1 := by
  unfold mkT
  split <;> simp
theorem mkT_all (ks : List tKey.den) (l : List tAuthority.den) (q tm root : Int) : ∀ (ids : List Int), (ids.flatMap (mkT ks l q tm root)).length ≤ ids.length
  | [] => by simp
  | i :: ids => by
    have h1 := mkT_len ks l q tm root i
    have h2 := mkT_all ks l q tm root ids
    rw [List.flatMap_cons, List.length_append, List.length_cons]
    omega
theorem path_len (m : Int) (l : List Int) (i : Int) : (pathF m l i).length ≤ 1000 := by
  unfold pathF
  split
  · rename_i h
    have := path_pow m 4 l i.toNat (Nat.le_trans h.2 (by decide))
    omega
  · simp
def d19 (s : Cu) (leaf ct tm : Int) : tRenewal.den × Cu :=
  let a := dB s 4
  let m := dB a.2 4
  let t := d17 m.2 4
  let q := dB t.2 9
  (mkR K8 A4 (IntKind.i64.wrap (1 + m.1)) leaf t.1 ct (([1, 2, 3, 4] : List Int).take (IntKind.i64.wrap (1 + a.1)).toNat) q.1 tm, q.2)
def d19B (s : Cu) (r : tRenewal.den) : tRenewal.den × Cu :=
  let k := dB s 10
  if k.1 = 0 then (setF tRenewal r 2 (IntKind.i64.wrap (r.2.2.1 + 1)), k.2)
  else if k.1 = 1 then (setF tRenewal r 1 (dB k.2 6).1, (dB k.2 6).2)
  else if k.1 = 2 then (setF tRenewal r 0 (dI k.2 [-1, 0, 3]).1, (dI k.2 [-1, 0, 3]).2)
  else if k.1 = 3 then (setF tRenewal r 3 (r.2.2.2.1 ++ [(1, false, ())]), k.2)
  else if k.1 = 4 then (setF tRenewal r 4 (r.2.2.2.2.1 ++ [(d11B k.2).1]), (d11B k.2).2)
  else if k.1 = 5 then (if (r.2.2.2.2.1.length : Int) > 0 then (setF tRenewal r 4 (r.2.2.2.2.1.set 0 (setF tStamp (r.2.2.2.2.1.getD 0 tStamp.dflt) 2 (dR k.2).1)), (dR k.2).2) else (r, k.2))
  else (r, k.2)
theorem l19Copy_ok (r : tRenewal.den) (h1 : r.2.2.2.1.length ≤ 1048576) (h2 : r.2.2.2.2.1.length ≤ 1048576) : FunOK Try.prog 82 [⟨tRenewal, r⟩] (.agg [.rd I r.1, .rd I r.2.1, .rd I r.2.2.1, .own 151 tStep r.2.2.2.1, .own 155 tStamp r.2.2.2.2.1]) := by
  refine fun_of (tb := tb) follows Try.func82 (by kernel_rfl) Try.ntmps82 rfl rfl rfl ?_; intro cx hN hw
  simp (disch := exact eqId (by kernel_rfl)) only [go_sem, ↓reduceIte, Nat.reduceAdd, Nat.reduceMul, Nat.reduceLT, Nat.reduceBEq, Nat.reduceLeDiff, Nat.reduceEqDiff, Int.reduceToNat]
  repeat' (first | (refine And.intro ?_ ?_) | intro _)
  all_goals (try omega)
theorem l19Copy_fr (r : tRenewal.den) (h1 : r.2.2.2.1.length ≤ 1048576) (h2 : r.2.2.2.2.1.length ≤ 1048576) : FunOK Try.prog 82 [⟨tRenewal, r⟩] (.agg [.rd I r.1, .rd I r.2.1, .rd I r.2.2.1, .fresh 151 tStep r.2.2.2.1, .fresh 155 tStamp r.2.2.2.2.1]) := (l19Copy_ok r h1 h2).fr rfl
end Go.Proofs.Ytfkdkblbhilghaa
/- What the functions of strands and evidence answer, on both sides. It proves nothing of a statement by itself. -/
set_option linter.unusedSimpArgs false
set_option linter.unusedVariables false
set_option maxRecDepth 100000
namespace Go.Proofs.Ytfkdkblbhilghaa
open Go.AL
theorem impl_equalPieceLists_ok (a b : List (tPiece : Ty).den) : FunOK Try.prog 141 [⟨(.list tPiece), a⟩, ⟨(.list tPiece), b⟩] (.rd .bool (eqC a b)) := by
  refine fun_of (tb := tb) follows Try.func141 (by kernel_rfl) Try.ntmps141 rfl rfl rfl ?_; intro cx hN hw
  simp (disch := exact eqId (by kernel_rfl)) only [go_sem, ↓reduceIte, Nat.reduceAdd, Nat.reduceMul, Nat.reduceLT, Nat.reduceBEq, Nat.reduceLeDiff, Nat.reduceEqDiff, Int.reduceToNat]
  repeat' (first | (refine And.intro ?_ ?_) | intro _)
  all_goals (try omega)
  · refine Eq.symm (eqC_f.mpr ?_); rintro rfl; simp_all
  · have hl : a.length = b.length := by omega
    refine loop_intro (tb := tb) follows hN (D := Nat) (fun d => shp [(0, .rd (.list tPiece) (a)), (1, .rd (.list tPiece) (b)), (12, .rd I (((a).length : Int) : Int)), (13, .rd I (d : Int))] []) (fun d => d ≤ a.length ∧ a.take d = b.take d) (fun d => a.length - d) (0) ?_ (sub_shp hN [] ?_) (fun d hd => ?_)
    · exact ⟨Nat.zero_le _, rfl⟩
    · simp (disch := exact eqId (by kernel_rfl)) only [go_sem, ↓reduceIte, Nat.reduceAdd, Nat.reduceMul, Nat.reduceLT, Nat.reduceBEq, Nat.reduceLeDiff, Nat.reduceEqDiff, Int.reduceToNat]
      rfl
    · obtain ⟨h1, h2⟩ := hd
      simp (disch := exact eqId (by kernel_rfl)) only [go_sem, ↓reduceIte, Nat.reduceAdd, Nat.reduceMul, Nat.reduceLT, Nat.reduceBEq, Nat.reduceLeDiff, Nat.reduceEqDiff, Int.reduceToNat]
      repeat' (first | (refine And.intro ?_ ?_) | intro _ | (refine callQ_intro (impl_EqualPieces_ok _ _) ?_; try (simp (disch := exact eqId (by kernel_rfl)) only [go_sem, ↓reduceIte, Nat.reduceAdd, Nat.reduceMul, Nat.reduceLT, Nat.reduceBEq, Nat.reduceLeDiff, Nat.reduceEqDiff, Int.reduceToNat])) | (refine callH_intro (fun hcc => impl_EqualPieces_ok _ _) ?_; try (simp (disch := exact eqId (by kernel_rfl)) only [go_sem, ↓reduceIte, Nat.reduceAdd, Nat.reduceMul, Nat.reduceLT, Nat.reduceBEq, Nat.reduceLeDiff, Nat.reduceEqDiff, Int.reduceToNat])))
      all_goals (try omega)
      · rename_i hk hne
        refine Eq.symm (eqC_f.mpr ?_)
        rintro rfl
        simp_all [eqC_f]
      · rename_i hk he
        have hk : d < a.length := by omega
        refine back_intro (d + 1) ?_ ?_ (sub_shp hN [] ?_)
        · refine ⟨hk, ?_⟩
          rw [take_getD hk ((0, [], 0, ()) : (tPiece : Ty).den), take_getD (show d < b.length by omega) ((0, [], 0, ()) : (tPiece : Ty).den), h2]
          try simp only [eqC_t] at he
          first | rw [he] | (simp_all; done)
        · omega
        · simp (disch := exact eqId (by kernel_rfl)) only [go_sem, ↓reduceIte, Nat.reduceAdd, Nat.reduceMul, Nat.reduceLT, Nat.reduceBEq, Nat.reduceLeDiff, Nat.reduceEqDiff, Int.reduceToNat]
          exact wrap_succ hk hw.1.1
      · have hk : d = a.length := by omega
        refine Eq.symm (eqC_t.mpr ?_)
        rw [hk, List.take_length, hl, List.take_length] at h2
        exact h2
theorem strEq {a b : tStrand.den} (h0 : a.1 = b.1) (h1 : a.2.1 = b.2.1) : a = b := by
  obtain ⟨a0, a1, ⟨⟩⟩ := a
  obtain ⟨b0, b1, ⟨⟩⟩ := b
  simp only at h0 h1
  subst h0 h1
  rfl
theorem eviEq {a b : tEvidence.den} (h0 : a.1 = b.1) (h1 : a.2.1 = b.2.1) : a = b := by
  obtain ⟨a0, a1, ⟨⟩⟩ := a
  obtain ⟨b0, b1, ⟨⟩⟩ := b
  simp only at h0 h1
  subst h0 h1
  rfl
theorem impl_EqualStrands_ok (a b : tStrand.den) : FunOK Try.prog 110 [⟨tStrand, a⟩, ⟨tStrand, b⟩] (.rd .bool (eqC a b)) := by
  refine fun_of (tb := tb) follows Try.func110 (by kernel_rfl) Try.ntmps110 rfl rfl rfl ?_; intro cx hN hw
  simp (disch := exact eqId (by kernel_rfl)) only [go_sem, ↓reduceIte, Nat.reduceAdd, Nat.reduceMul, Nat.reduceLT, Nat.reduceBEq, Nat.reduceLeDiff, Nat.reduceEqDiff, Int.reduceToNat]
  repeat' (first | (refine And.intro ?_ ?_) | intro _ | (refine callQ_intro (impl_equalPieceLists_ok _ _) ?_; try (simp (disch := exact eqId (by kernel_rfl)) only [go_sem, ↓reduceIte, Nat.reduceAdd, Nat.reduceMul, Nat.reduceLT, Nat.reduceBEq, Nat.reduceLeDiff, Nat.reduceEqDiff, Int.reduceToNat])) | (refine callH_intro (fun hcc => impl_equalPieceLists_ok _ _) ?_; try (simp (disch := exact eqId (by kernel_rfl)) only [go_sem, ↓reduceIte, Nat.reduceAdd, Nat.reduceMul, Nat.reduceLT, Nat.reduceBEq, Nat.reduceLeDiff, Nat.reduceEqDiff, Int.reduceToNat])))
  all_goals (try omega)
  · rename_i hc
    refine Eq.symm (eqC_f.mpr ?_)
    rintro rfl
    simp_all
  · rename_i hc
    obtain ⟨hh0, hl⟩ := hc
    have hl1 : List.length a.2.1 = List.length b.2.1 := by omega
    refine loop_intro (tb := tb) follows hN (D := Nat) (fun d => shp [(2, .bp 10000 0), (3, .bp 10016 0), (23, .rd I (((a.2.1).length : Int) : Int)), (24, .rd I (d : Int))] [(10000, .box 36 [.rd (.list tPiece) (a.1), .rd (.list tRenewal) (a.2.1)]), (10016, .box 36 [.rd (.list tPiece) (b.1), .rd (.list tRenewal) (b.2.1)])]) (fun d => d ≤ List.length a.2.1 ∧ List.take d a.2.1 = List.take d b.2.1) (fun d => List.length a.2.1 - d) (0) ?_ (sub_shp hN [(10000, some 10000), (10016, some 10016)] ?_) (fun d hd => ?_)
    · exact ⟨Nat.zero_le _, rfl⟩
    · simp (disch := exact eqId (by kernel_rfl)) only [go_sem, ↓reduceIte, Nat.reduceAdd, Nat.reduceMul, Nat.reduceLT, Nat.reduceBEq, Nat.reduceLeDiff, Nat.reduceEqDiff, Int.reduceToNat]
      try rfl
    · obtain ⟨h1, h2⟩ := hd
      simp (disch := exact eqId (by kernel_rfl)) only [go_sem, ↓reduceIte, Nat.reduceAdd, Nat.reduceMul, Nat.reduceLT, Nat.reduceBEq, Nat.reduceLeDiff, Nat.reduceEqDiff, Int.reduceToNat]
      repeat' (first | (refine And.intro ?_ ?_) | intro _ | (refine callQ_intro (impl_EqualRenewals_ok _ _) ?_; try (simp (disch := exact eqId (by kernel_rfl)) only [go_sem, ↓reduceIte, Nat.reduceAdd, Nat.reduceMul, Nat.reduceLT, Nat.reduceBEq, Nat.reduceLeDiff, Nat.reduceEqDiff, Int.reduceToNat])) | (refine callH_intro (fun hcc => impl_EqualRenewals_ok _ _) ?_; try (simp (disch := exact eqId (by kernel_rfl)) only [go_sem, ↓reduceIte, Nat.reduceAdd, Nat.reduceMul, Nat.reduceLT, Nat.reduceBEq, Nat.reduceLeDiff, Nat.reduceEqDiff, Int.reduceToNat])))
      all_goals (try omega)
      · rename_i hk hne
        refine Eq.symm (eqC_f.mpr ?_)
        rintro rfl
        simp_all
      · rename_i hk he
        have hk : d < List.length a.2.1 := by omega
        have hk2 : d < List.length b.2.1 := by omega
        refine back_intro (d + 1) ?_ ?_ (sub_shp hN [(10000, some 10000), (10016, some 10016)] ?_)
        · refine ⟨hk, ?_⟩
          rw [take_getD hk (0, 0, 0, [], [], ()), take_getD hk2 (0, 0, 0, [], [], ()), h2]
          first | rw [he] | (simp_all; done)
        · omega
        · simp (disch := exact eqId (by kernel_rfl)) only [go_sem, ↓reduceIte, Nat.reduceAdd, Nat.reduceMul, Nat.reduceLT, Nat.reduceBEq, Nat.reduceLeDiff, Nat.reduceEqDiff, Int.reduceToNat]
          exact wrap_succ hk hw.1.2.1.1
      · rename_i hk
        have hk : d = List.length a.2.1 := by omega
        have hh1 : a.2.1 = b.2.1 := by
          rw [hk, List.take_length, hl1, List.take_length] at h2
          exact h2
        exact Eq.symm (eqC_t.mpr (strEq hh0 hh1))
theorem spec_EqualStrands_ok (a b : tStrand.den) : FunOK Try.prog 107 [⟨tStrand, a⟩, ⟨tStrand, b⟩] (.rd .bool (eqC a b)) := by
  refine fun_of (tb := tb) follows Try.func107 (by kernel_rfl) Try.ntmps107 rfl rfl rfl ?_; intro cx hN hw
  simp (disch := exact eqId (by kernel_rfl)) only [go_sem, ↓reduceIte, Nat.reduceAdd, Nat.reduceMul, Nat.reduceLT, Nat.reduceBEq, Nat.reduceLeDiff, Nat.reduceEqDiff, Int.reduceToNat]
  repeat' (first | (refine And.intro ?_ ?_) | intro _)
  all_goals (try omega)
  · rename_i hc
    refine Eq.symm (eqC_f.mpr ?_)
    rintro rfl
    simp_all
  · rename_i hc
    obtain ⟨hl, hl'⟩ := hc
    have hl0 : List.length a.1 = List.length b.1 := by omega
    have hl1 : List.length a.2.1 = List.length b.2.1 := by omega
    refine loop_intro (tb := tb) follows hN (D := Nat) (fun d => shp [(2, .bp 10000 0), (3, .bp 10016 0), (5, .rd I (d : Int))] [(10000, .box 36 [.rd (.list tPiece) (a.1), .rd (.list tRenewal) (a.2.1)]), (10016, .box 36 [.rd (.list tPiece) (b.1), .rd (.list tRenewal) (b.2.1)])]) (fun d => d ≤ List.length a.1 ∧ List.take d a.1 = List.take d b.1) (fun d => List.length a.1 - d) (0) ?_ (sub_shp hN [(10000, some 10000), (10016, some 10016)] ?_) (fun d hd => ?_)
    · exact ⟨Nat.zero_le _, rfl⟩
    · simp (disch := exact eqId (by kernel_rfl)) only [go_sem, ↓reduceIte, Nat.reduceAdd, Nat.reduceMul, Nat.reduceLT, Nat.reduceBEq, Nat.reduceLeDiff, Nat.reduceEqDiff, Int.reduceToNat]
      try rfl
    · obtain ⟨h1, h2⟩ := hd
      simp (disch := exact eqId (by kernel_rfl)) only [go_sem, ↓reduceIte, Nat.reduceAdd, Nat.reduceMul, Nat.reduceLT, Nat.reduceBEq, Nat.reduceLeDiff, Nat.reduceEqDiff, Int.reduceToNat]
      repeat' (first | (refine And.intro ?_ ?_) | intro _ | (refine callQ_intro (spec_EqualPieces_ok _ _) ?_; try (simp (disch := exact eqId (by kernel_rfl)) only [go_sem, ↓reduceIte, Nat.reduceAdd, Nat.reduceMul, Nat.reduceLT, Nat.reduceBEq, Nat.reduceLeDiff, Nat.reduceEqDiff, Int.reduceToNat])) | (refine callH_intro (fun hcc => spec_EqualPieces_ok _ _) ?_; try (simp (disch := exact eqId (by kernel_rfl)) only [go_sem, ↓reduceIte, Nat.reduceAdd, Nat.reduceMul, Nat.reduceLT, Nat.reduceBEq, Nat.reduceLeDiff, Nat.reduceEqDiff, Int.reduceToNat])))
      all_goals (try omega)
      · rename_i hk hne
        refine Eq.symm (eqC_f.mpr ?_)
        rintro rfl
        simp_all
      · rename_i hk he
        have hk : d < List.length a.1 := by omega
        have hk2 : d < List.length b.1 := by omega
        refine back_intro (d + 1) ?_ ?_ (sub_shp hN [(10000, some 10000), (10016, some 10016)] ?_)
        · refine ⟨hk, ?_⟩
          rw [take_getD hk (0, [], 0, ()), take_getD hk2 (0, [], 0, ()), h2]
          first | rw [he] | (simp_all; done)
        · omega
        · simp (disch := exact eqId (by kernel_rfl)) only [go_sem, ↓reduceIte, Nat.reduceAdd, Nat.reduceMul, Nat.reduceLT, Nat.reduceBEq, Nat.reduceLeDiff, Nat.reduceEqDiff, Int.reduceToNat]
          exact wrap_succ hk hw.1.1.1
      · rename_i hk
        have hk : d = List.length a.1 := by omega
        have hh0 : a.1 = b.1 := by
          rw [hk, List.take_length, hl0, List.take_length] at h2
          exact h2
        refine loop_intro (tb := tb) follows hN (D := Nat) (fun d => shp [(2, .bp 10000 0), (3, .bp 10016 0), (6, .rd I (d : Int))] [(10000, .box 36 [.rd (.list tPiece) (a.1), .rd (.list tRenewal) (a.2.1)]), (10016, .box 36 [.rd (.list tPiece) (b.1), .rd (.list tRenewal) (b.2.1)])]) (fun d => d ≤ List.length a.2.1 ∧ List.take d a.2.1 = List.take d b.2.1) (fun d => List.length a.2.1 - d) (0) ?_ (sub_shp hN [(10000, some 10000), (10016, some 10016)] ?_) (fun d hd => ?_)
        · exact ⟨Nat.zero_le _, rfl⟩
        · simp (disch := exact eqId (by kernel_rfl)) only [go_sem, ↓reduceIte, Nat.reduceAdd, Nat.reduceMul, Nat.reduceLT, Nat.reduceBEq, Nat.reduceLeDiff, Nat.reduceEqDiff, Int.reduceToNat]
          try rfl
        · obtain ⟨h1, h2⟩ := hd
          simp (disch := exact eqId (by kernel_rfl)) only [go_sem, ↓reduceIte, Nat.reduceAdd, Nat.reduceMul, Nat.reduceLT, Nat.reduceBEq, Nat.reduceLeDiff, Nat.reduceEqDiff, Int.reduceToNat]
          repeat' (first | (refine And.intro ?_ ?_) | intro _ | (refine callQ_intro (spec_EqualRenewals_ok _ _) ?_; try (simp (disch := exact eqId (by kernel_rfl)) only [go_sem, ↓reduceIte, Nat.reduceAdd, Nat.reduceMul, Nat.reduceLT, Nat.reduceBEq, Nat.reduceLeDiff, Nat.reduceEqDiff, Int.reduceToNat])) | (refine callH_intro (fun hcc => spec_EqualRenewals_ok _ _) ?_; try (simp (disch := exact eqId (by kernel_rfl)) only [go_sem, ↓reduceIte, Nat.reduceAdd, Nat.reduceMul, Nat.reduceLT, Nat.reduceBEq, Nat.reduceLeDiff, Nat.reduceEqDiff, Int.reduceToNat])))
          all_goals (try omega)
          · rename_i hk hne
            refine Eq.symm (eqC_f.mpr ?_)
            rintro rfl
            simp_all
          · rename_i hk he
            have hk : d < List.length a.2.1 := by omega
            have hk2 : d < List.length b.2.1 := by omega
            refine back_intro (d + 1) ?_ ?_ (sub_shp hN [(10000, some 10000), (10016, some 10016)] ?_)
            · refine ⟨hk, ?_⟩
              rw [take_getD hk (0, 0, 0, [], [], ()), take_getD hk2 (0, 0, 0, [], [], ()), h2]
              first | rw [he] | (simp_all; done)
            · omega
            · simp (disch := exact eqId (by kernel_rfl)) only [go_sem, ↓reduceIte, Nat.reduceAdd, Nat.reduceMul, Nat.reduceLT, Nat.reduceBEq, Nat.reduceLeDiff, Nat.reduceEqDiff, Int.reduceToNat]
              exact wrap_succ hk hw.1.2.1.1
          · rename_i hk
            have hk : d = List.length a.2.1 := by omega
            have hh1 : a.2.1 = b.2.1 := by
              rw [hk, List.take_length, hl1, List.take_length] at h2
              exact h2
            exact Eq.symm (eqC_t.mpr (strEq hh0 hh1))
noncomputable def fpiF (p : tPiece.den) : List tPiece.den → Int → Int
  | [], _ => -1
  | x :: xs, i => bif eqC x p then i else fpiF p xs (i + 1)
theorem spec_FindPiece_ok (a : tStrand.den) (p : tPiece.den) : FunOK Try.prog 123 [⟨tStrand, a⟩, ⟨tPiece, p⟩] (.rd I (fpiF p a.1 0)) := by
  refine fun_of (tb := tb) follows Try.func123 (by kernel_rfl) Try.ntmps123 rfl rfl rfl ?_; intro cx hN hw
  simp (disch := exact eqId (by kernel_rfl)) only [go_sem, ↓reduceIte, Nat.reduceAdd, Nat.reduceMul, Nat.reduceLT, Nat.reduceBEq, Nat.reduceLeDiff, Nat.reduceEqDiff, Int.reduceToNat]
  refine loop_intro (tb := tb) follows hN (D := Nat) (fun d => shp [(2, .bp 10000 0), (3, .bp 10016 0), (5, .rd I (d : Int))] [(10000, .box 36 [.rd (.list tPiece) (a.1), .rd (.list tRenewal) (a.2.1)]), (10016, .box 52 [.rd I (p.1), .rd (.list I) (p.2.1), .rd I (p.2.2.1)])]) (fun d => d ≤ List.length a.1 ∧ fpiF p a.1 0 = fpiF p (List.drop d a.1) d) (fun d => List.length a.1 - d) (0) ?_ (sub_shp hN [(10000, some 10000), (10016, some 10016)] ?_) (fun d hd => ?_)
  · exact ⟨Nat.zero_le _, rfl⟩
  · simp (disch := exact eqId (by kernel_rfl)) only [go_sem, ↓reduceIte, Nat.reduceAdd, Nat.reduceMul, Nat.reduceLT, Nat.reduceBEq, Nat.reduceLeDiff, Nat.reduceEqDiff, Int.reduceToNat]
    try rfl
  · obtain ⟨h1, h2⟩ := hd
    simp (disch := exact eqId (by kernel_rfl)) only [go_sem, ↓reduceIte, Nat.reduceAdd, Nat.reduceMul, Nat.reduceLT, Nat.reduceBEq, Nat.reduceLeDiff, Nat.reduceEqDiff, Int.reduceToNat]
    repeat' (first | (refine And.intro ?_ ?_) | intro _ | (refine callQ_intro (spec_EqualPieces_ok _ _) ?_; try (simp (disch := exact eqId (by kernel_rfl)) only [go_sem, ↓reduceIte, Nat.reduceAdd, Nat.reduceMul, Nat.reduceLT, Nat.reduceBEq, Nat.reduceLeDiff, Nat.reduceEqDiff, Int.reduceToNat])) | (refine callH_intro (fun hcc => spec_EqualPieces_ok _ _) ?_; try (simp (disch := exact eqId (by kernel_rfl)) only [go_sem, ↓reduceIte, Nat.reduceAdd, Nat.reduceMul, Nat.reduceLT, Nat.reduceBEq, Nat.reduceLeDiff, Nat.reduceEqDiff, Int.reduceToNat])))
    all_goals (try omega)
    · rename_i hk he
      rw [h2, drop_getD (show d < List.length a.1 by omega) (0, [], 0, ()), fpiF, eqC_t.mpr he]
      rfl
    · rename_i hk he
      have hk : d < List.length a.1 := by omega
      refine back_intro (d + 1) ?_ ?_ (sub_shp hN [(10000, some 10000), (10016, some 10016)] ?_)
      · refine ⟨hk, ?_⟩
        rw [h2, drop_getD hk (0, [], 0, ()), fpiF, eqC_f.mpr he]
        rfl
      · omega
      · simp (disch := exact eqId (by kernel_rfl)) only [go_sem, ↓reduceIte, Nat.reduceAdd, Nat.reduceMul, Nat.reduceLT, Nat.reduceBEq, Nat.reduceLeDiff, Nat.reduceEqDiff, Int.reduceToNat]
        exact wrap_succ hk hw.1.1.1
    · rename_i hk
      rw [h2, drop_end (show List.length a.1 ≤ d by omega)]
      rfl
end Go.Proofs.Ytfkdkblbhilghaa
/- What the functions of well formed strands answer, on both sides. It proves nothing of a statement by itself. -/
set_option linter.unusedSimpArgs false
set_option linter.unusedVariables false
set_option maxRecDepth 100000
namespace Go.Proofs.Ytfkdkblbhilghaa
open Go.AL
noncomputable def hpF (p : tPiece.den) : List tPiece.den → Bool
  | [] => false
  | x :: xs => eqC x p || hpF p xs
theorem fpi_ge (p : tPiece.den) : ∀ (l : List tPiece.den) (i : Int), fpiF p l i = -1 ∨ i ≤ fpiF p l i
  | [], i => .inl rfl
  | x :: xs, i => by
    unfold fpiF
    cases eqC x p
    · simp only [cond_false]
      rcases fpi_ge p xs (i + 1) with h | h
      · exact .inl h
      · exact .inr (by omega)
    · exact .inr (Int.le_refl i)
theorem hp_fpi (p : tPiece.den) (df : tPiece.den) : ∀ (l : List tPiece.den) (k : Nat) (i : Int), k < l.length → l.getD k df = p → (hpF p (l.take k) = true ↔ fpiF p l i < i + k) ∧ i ≤ fpiF p l i
  | [], k, i, hk, _ => absurd hk (Nat.not_lt_zero k)
  | x :: xs, 0, i, hk, he => by
    have hx : eqC x p = true := eqC_t.mpr he
    simp only [List.take_zero, hpF, fpiF, hx, cond_true]
    constructor
    · constructor
      · intro h; cases h
      · intro h; omega
    · exact Int.le_refl i
  | x :: xs, k + 1, i, hk, he => by
    simp only [List.take_succ_cons, hpF, fpiF]
    cases hx : eqC x p
    · simp only [Bool.false_or, cond_false]
      obtain ⟨h1, h2⟩ := hp_fpi p df xs k (i + 1) (by simpa using hk) (by simpa using he)
      refine ⟨h1.trans ?_, by omega⟩
      constructor <;> intro h <;> omega
    · simp only [Bool.true_or, cond_true, true_iff]
      exact ⟨by omega, Int.le_refl i⟩
def leG : Option Int → Int → Bool
  | none, _ => true
  | some m, y => decide (m ≤ y)
def chG (n : Int) : Option Int → List tRenewal.den → Bool
  | _, [] => true
  | pr, x :: xs => inB x.1 1 n && (leG pr x.1 && chG n (some x.1) xs)
theorem chG_cons (n : Int) (pr : Option Int) (x : tRenewal.den) (xs : List tRenewal.den) : chG n pr (x :: xs) = (inB x.1 1 n && (leG pr x.1 && chG n (some x.1) xs)) := by cases pr <;> rfl
theorem chG_nil (n : Int) (pr : Option Int) : chG n pr [] = true := by cases pr <;> rfl
noncomputable def ndB (l : List tPiece.den) : Bool := (List.range l.length).all (fun i => !hpF (l.getD i (0, [], 0, ())) (l.take i))
noncomputable def strB (s : tStrand.den) : Bool := inB (List.length s.1 : Int) 1 12 && decide (List.length s.2.1 ≤ 8) && ndB s.1 && chG (List.length s.1 : Int) none s.2.1
theorem impl_hasPiece_ok (l : List tPiece.den) (p : tPiece.den) : FunOK Try.prog 128 [⟨(.list tPiece), l⟩, ⟨tPiece, p⟩] (.rd .bool (hpF p l)) := by
  refine fun_of (tb := tb) follows Try.func128 (by kernel_rfl) Try.ntmps128 rfl rfl rfl ?_; intro cx hN hw
  simp (disch := exact eqId (by kernel_rfl)) only [go_sem, ↓reduceIte, Nat.reduceAdd, Nat.reduceMul, Nat.reduceLT, Nat.reduceBEq, Nat.reduceLeDiff, Nat.reduceEqDiff, Int.reduceToNat]
  refine loop_intro (tb := tb) follows hN (D := Nat) (fun d => shp [(3, .bp 10000 0), (7, .rd (.list tPiece) (l)), (8, .rd I (((l).length : Int) : Int)), (9, .rd I (d : Int))] [(10000, .box 52 [.rd I (p.1), .rd (.list I) (p.2.1), .rd I (p.2.2.1)])]) (fun d => d ≤ List.length l ∧ hpF p l = hpF p (List.drop d l)) (fun d => List.length l - d) (0) ?_ (sub_shp hN [(10000, some 10000)] ?_) (fun d hd => ?_)
  · exact ⟨Nat.zero_le _, rfl⟩
  · simp (disch := exact eqId (by kernel_rfl)) only [go_sem, ↓reduceIte, Nat.reduceAdd, Nat.reduceMul, Nat.reduceLT, Nat.reduceBEq, Nat.reduceLeDiff, Nat.reduceEqDiff, Int.reduceToNat]
    try rfl
  · obtain ⟨h1, h2⟩ := hd
    simp (disch := exact eqId (by kernel_rfl)) only [go_sem, ↓reduceIte, Nat.reduceAdd, Nat.reduceMul, Nat.reduceLT, Nat.reduceBEq, Nat.reduceLeDiff, Nat.reduceEqDiff, Int.reduceToNat]
    repeat' (first | (refine And.intro ?_ ?_) | intro _ | (refine callQ_intro (impl_EqualPieces_ok _ _) ?_; try (simp (disch := exact eqId (by kernel_rfl)) only [go_sem, ↓reduceIte, Nat.reduceAdd, Nat.reduceMul, Nat.reduceLT, Nat.reduceBEq, Nat.reduceLeDiff, Nat.reduceEqDiff, Int.reduceToNat])) | (refine callH_intro (fun hcc => impl_EqualPieces_ok _ _) ?_; try (simp (disch := exact eqId (by kernel_rfl)) only [go_sem, ↓reduceIte, Nat.reduceAdd, Nat.reduceMul, Nat.reduceLT, Nat.reduceBEq, Nat.reduceLeDiff, Nat.reduceEqDiff, Int.reduceToNat])))
    all_goals (try omega)
    · rename_i hk he
      rw [h2, drop_getD (show d < List.length l by omega) (0, [], 0, ()), hpF, eqC_t.mpr he]
      rfl
    · rename_i hk he
      have hk : d < List.length l := by omega
      refine back_intro (d + 1) ?_ ?_ (sub_shp hN [(10000, some 10000)] ?_)
      · refine ⟨hk, ?_⟩
        rw [h2, drop_getD hk (0, [], 0, ()), hpF, eqC_f.mpr he]
        rfl
      · omega
      · simp (disch := exact eqId (by kernel_rfl)) only [go_sem, ↓reduceIte, Nat.reduceAdd, Nat.reduceMul, Nat.reduceLT, Nat.reduceBEq, Nat.reduceLeDiff, Nat.reduceEqDiff, Int.reduceToNat]
        exact wrap_succ hk hw.1.1
    · rename_i hk
      rw [h2, drop_end (show List.length l ≤ d by omega)]
      rfl
theorem impl_IsStrand_ok (s : tStrand.den) : FunOK Try.prog 77 [⟨tStrand, s⟩] (.rd .bool (strB s)) := by
  refine fun_of (tb := tb) follows Try.func77 (by kernel_rfl) Try.ntmps77 rfl rfl rfl ?_; intro cx hN hw
  simp (disch := exact eqId (by kernel_rfl)) only [go_sem, ↓reduceIte, Nat.reduceAdd, Nat.reduceMul, Nat.reduceLT, Nat.reduceBEq, Nat.reduceLeDiff, Nat.reduceEqDiff, Int.reduceToNat]
  repeat' (first | (refine And.intro ?_ ?_) | intro _ | (refine callQ_intro (inRange_ok _ _ _) ?_; try (simp (disch := exact eqId (by kernel_rfl)) only [go_sem, ↓reduceIte, Nat.reduceAdd, Nat.reduceMul, Nat.reduceLT, Nat.reduceBEq, Nat.reduceLeDiff, Nat.reduceEqDiff, Int.reduceToNat])) | (refine callH_intro (fun hcc => inRange_ok _ _ _) ?_; try (simp (disch := exact eqId (by kernel_rfl)) only [go_sem, ↓reduceIte, Nat.reduceAdd, Nat.reduceMul, Nat.reduceLT, Nat.reduceBEq, Nat.reduceLeDiff, Nat.reduceEqDiff, Int.reduceToNat])))
  all_goals (try omega)
  · rename_i hc
    unfold strB inB
    have : (decide (1 ≤ (List.length s.1 : Int)) && decide ((List.length s.1 : Int) ≤ 12) && decide (List.length s.2.1 ≤ 8)) = false := by
      rw [← Bool.not_eq_true]
      intro h
      simp only [Bool.and_eq_true, decide_eq_true_eq] at h
      omega
    rw [this]
    rfl
  · rename_i hb
    refine loop_intro (tb := tb) follows hN (D := Nat) (fun d => shp [(1, .bp 10000 0), (19, .rd (.list tPiece) (s.1)), (20, .rd I (((s.1).length : Int) : Int)), (21, .rd I (d : Int))] [(10000, .box 36 [.rd (.list tPiece) (s.1), .rd (.list tRenewal) (s.2.1)])]) (fun d => d ≤ List.length s.1 ∧ ∀ i, i < d → hpF (List.getD s.1 i (0, [], 0, ())) (List.take i s.1) = false) (fun d => List.length s.1 - d) (0) ?_ (sub_shp hN [(10000, some 10000)] ?_) (fun d hd => ?_)
    · exact ⟨Nat.zero_le _, fun i h => absurd h (Nat.not_lt_zero i)⟩
    · simp (disch := exact eqId (by kernel_rfl)) only [go_sem, ↓reduceIte, Nat.reduceAdd, Nat.reduceMul, Nat.reduceLT, Nat.reduceBEq, Nat.reduceLeDiff, Nat.reduceEqDiff, Int.reduceToNat]
      try rfl
    · obtain ⟨h1, h2⟩ := hd
      simp (disch := exact eqId (by kernel_rfl)) only [go_sem, ↓reduceIte, Nat.reduceAdd, Nat.reduceMul, Nat.reduceLT, Nat.reduceBEq, Nat.reduceLeDiff, Nat.reduceEqDiff, Int.reduceToNat]
      repeat' (first | (refine And.intro ?_ ?_) | intro _ | (refine callQ_intro (impl_hasPiece_ok _ _) ?_; try (simp (disch := exact eqId (by kernel_rfl)) only [go_sem, ↓reduceIte, Nat.reduceAdd, Nat.reduceMul, Nat.reduceLT, Nat.reduceBEq, Nat.reduceLeDiff, Nat.reduceEqDiff, Int.reduceToNat])) | (refine callH_intro (fun hcc => impl_hasPiece_ok _ _) ?_; try (simp (disch := exact eqId (by kernel_rfl)) only [go_sem, ↓reduceIte, Nat.reduceAdd, Nat.reduceMul, Nat.reduceLT, Nat.reduceBEq, Nat.reduceLeDiff, Nat.reduceEqDiff, Int.reduceToNat])))
      all_goals (try omega)
      · rename_i hk he
        have he' : hpF (List.getD s.1 d (0, [], 0, ())) (List.take d s.1) = true := he
        have hn : ndB s.1 = false := by
          rw [← Bool.not_eq_true]
          intro h
          have h9 := List.all_eq_true.1 h d (List.mem_range.2 (by omega))
          rw [he'] at h9
          cases h9
        unfold strB
        rw [hn]
        simp
      · rename_i hk he
        have hk : d < List.length s.1 := by omega
        refine back_intro (d + 1) ?_ ?_ (sub_shp hN [(10000, some 10000)] ?_)
        · refine ⟨hk, fun i hi => ?_⟩
          by_cases e : i = d
          · subst e; exact he
          · exact h2 i (by omega)
        · omega
        · simp (disch := exact eqId (by kernel_rfl)) only [go_sem, ↓reduceIte, Nat.reduceAdd, Nat.reduceMul, Nat.reduceLT, Nat.reduceBEq, Nat.reduceLeDiff, Nat.reduceEqDiff, Int.reduceToNat]
          exact wrap_succ hk hw.1.1.1
      · rename_i hk
        have hn : ndB s.1 = true := by
          unfold ndB
          rw [List.all_eq_true]
          intro i hi
          rw [h2 i (by have := List.mem_range.1 hi; omega)]
          rfl
        refine loop_intro (tb := tb) follows hN (D := Nat) (fun d => shp [(1, .bp 10000 0), (34, .rd (.list tRenewal) (s.2.1)), (35, .rd I (((s.2.1).length : Int) : Int)), (36, .rd I (d : Int))] [(10000, .box 36 [.rd (.list tPiece) (s.1), .rd (.list tRenewal) (s.2.1)])]) (fun d => d ≤ List.length s.2.1 ∧ chG (List.length s.1 : Int) none s.2.1 = chG (List.length s.1 : Int) (pvG (fun x : tRenewal.den => (x.1 : Int)) (0, 0, 0, [], [], ()) s.2.1 d) (List.drop d s.2.1)) (fun d => List.length s.2.1 - d) (0) ?_ (sub_shp hN [(10000, some 10000)] ?_) (fun d hd => ?_)
        · exact ⟨Nat.zero_le _, rfl⟩
        · simp (disch := exact eqId (by kernel_rfl)) only [go_sem, ↓reduceIte, Nat.reduceAdd, Nat.reduceMul, Nat.reduceLT, Nat.reduceBEq, Nat.reduceLeDiff, Nat.reduceEqDiff, Int.reduceToNat]
          try rfl
        · obtain ⟨g1, g2⟩ := hd
          have e1 : IntKind.i64.wrap ((d : Int) - 1) = (d : Int) - 1 := wrap_i64 (by omega) (by omega)
          simp (disch := exact eqId (by kernel_rfl)) only [go_sem, ↓reduceIte, Nat.reduceAdd, Nat.reduceMul, Nat.reduceLT, Nat.reduceBEq, Nat.reduceLeDiff, Nat.reduceEqDiff, Int.reduceToNat, e1]
          repeat' (first | (refine And.intro ?_ ?_) | intro _ | (refine callQ_intro (inRange_ok _ _ _) ?_; try (simp (disch := exact eqId (by kernel_rfl)) only [go_sem, ↓reduceIte, Nat.reduceAdd, Nat.reduceMul, Nat.reduceLT, Nat.reduceBEq, Nat.reduceLeDiff, Nat.reduceEqDiff, Int.reduceToNat])) | (refine callH_intro (fun hcc => inRange_ok _ _ _) ?_; try (simp (disch := exact eqId (by kernel_rfl)) only [go_sem, ↓reduceIte, Nat.reduceAdd, Nat.reduceMul, Nat.reduceLT, Nat.reduceBEq, Nat.reduceLeDiff, Nat.reduceEqDiff, Int.reduceToNat])))
          all_goals (try omega)
          · rename_i hk hc
            have hch : chG (List.length s.1 : Int) none s.2.1 = false := by
              rw [g2, drop_getD (show d < List.length s.2.1 by omega) (0, 0, 0, [], [], ()), chG_cons]
              rcases hc with hc | ⟨hd, hlt⟩
              · rw [show inB (List.getD s.2.1 d (0, 0, 0, [], [], ())).1 1 (List.length s.1 : Int) = false from by
                  rw [inB_f]
                  intro h
                  rcases hc with hc | hc
                  · exact hc h.1
                  · exact hc h.2]
                rfl
              · rw [e1] at hlt
                unfold pvG
                rw [if_pos hd, show leG (some (List.getD s.2.1 ((d : Int) - 1).toNat (0, 0, 0, [], [], ())).1) (List.getD s.2.1 d (0, 0, 0, [], [], ())).1 = false from decide_eq_false (Int.not_le.mpr hlt)]
                simp
            unfold strB
            rw [hch]
            simp
          · rename_i hk hc
            have hk : d < List.length s.2.1 := by omega
            obtain ⟨hc, hd⟩ := hc
            rw [e1] at hd
            refine back_intro (d + 1) ?_ ?_ (sub_shp hN [(10000, some 10000)] ?_)
            · refine ⟨hk, ?_⟩
              rw [g2, drop_getD hk (0, 0, 0, [], [], ()), chG_cons, pvG_succ, show inB (List.getD s.2.1 d (0, 0, 0, [], [], ())).1 1 (List.length s.1 : Int) = true from by rw [inB_t]; exact hc, Bool.true_and]
              unfold pvG
              by_cases h0 : (d : Int) > 0
              · rw [if_pos h0, show leG (some (List.getD s.2.1 ((d : Int) - 1).toNat (0, 0, 0, [], [], ())).1) (List.getD s.2.1 d (0, 0, 0, [], [], ())).1 = true from decide_eq_true (Int.not_lt.mp (hd.resolve_left (fun hx => hx h0))), Bool.true_and]
              · rw [if_neg h0]
                rfl
            · omega
            · simp (disch := exact eqId (by kernel_rfl)) only [go_sem, ↓reduceIte, Nat.reduceAdd, Nat.reduceMul, Nat.reduceLT, Nat.reduceBEq, Nat.reduceLeDiff, Nat.reduceEqDiff, Int.reduceToNat]
              exact wrap_succ hk hw.1.2.1.1
          · rename_i hk
            have hch : chG (List.length s.1 : Int) none s.2.1 = true := by rw [g2, drop_end (show List.length s.2.1 ≤ d by omega), chG_nil]
            unfold strB
            rw [hn, hch, show inB (List.length s.1 : Int) 1 12 = true from by rw [inB_t]; exact hb.1, decide_eq_true (show List.length s.2.1 ≤ 8 by omega)]
            rfl
theorem spec_IsStrand_ok (s : tStrand.den) : FunOK Try.prog 74 [⟨tStrand, s⟩] (.rd .bool (strB s)) := by
  refine fun_of (tb := tb) follows Try.func74 (by kernel_rfl) Try.ntmps74 rfl rfl rfl ?_; intro cx hN hw
  have hm : maxLen = 9223372036854775807 := rfl
  have hl : List.length s.2.1 ≤ maxLen := hw.1.2.1.1
  simp (disch := exact eqId (by kernel_rfl)) only [go_sem, ↓reduceIte, Nat.reduceAdd, Nat.reduceMul, Nat.reduceLT, Nat.reduceBEq, Nat.reduceLeDiff, Nat.reduceEqDiff, Int.reduceToNat]
  refine loop_intro (tb := tb) follows hN (D := Nat) (fun d => shp [(1, .bp 10000 0), (3, .rd I (d : Int))] [(10000, .box 36 [.rd (.list tPiece) (s.1), .rd (.list tRenewal) (s.2.1)])]) (fun d => d ≤ List.length s.1 ∧ ∀ i, i < d → hpF (List.getD s.1 i (0, [], 0, ())) (List.take i s.1) = false) (fun d => List.length s.1 - d) (0) ?_ (sub_shp hN [(10000, some 10000)] ?_) (fun d hd => ?_)
  · exact ⟨Nat.zero_le _, fun i h => absurd h (Nat.not_lt_zero i)⟩
  · simp (disch := exact eqId (by kernel_rfl)) only [go_sem, ↓reduceIte, Nat.reduceAdd, Nat.reduceMul, Nat.reduceLT, Nat.reduceBEq, Nat.reduceLeDiff, Nat.reduceEqDiff, Int.reduceToNat]
    try rfl
  · obtain ⟨h1, h2⟩ := hd
    simp (disch := exact eqId (by kernel_rfl)) only [go_sem, ↓reduceIte, Nat.reduceAdd, Nat.reduceMul, Nat.reduceLT, Nat.reduceBEq, Nat.reduceLeDiff, Nat.reduceEqDiff, Int.reduceToNat]
    repeat' (first | (refine And.intro ?_ ?_) | intro _ | (refine callQ_intro (spec_FindPiece_ok _ _) ?_; try (simp (disch := exact eqId (by kernel_rfl)) only [go_sem, ↓reduceIte, Nat.reduceAdd, Nat.reduceMul, Nat.reduceLT, Nat.reduceBEq, Nat.reduceLeDiff, Nat.reduceEqDiff, Int.reduceToNat])) | (refine callH_intro (fun hcc => spec_FindPiece_ok _ _) ?_; try (simp (disch := exact eqId (by kernel_rfl)) only [go_sem, ↓reduceIte, Nat.reduceAdd, Nat.reduceMul, Nat.reduceLT, Nat.reduceBEq, Nat.reduceLeDiff, Nat.reduceEqDiff, Int.reduceToNat])))
    all_goals (try omega)
    · rename_i hk he
      have he0 : fpiF (List.getD s.1 d (0, [], 0, ())) s.1 0 < (d : Int) := he
      have he' : hpF (List.getD s.1 d (0, [], 0, ())) (List.take d s.1) = true := ((hp_fpi _ (0, [], 0, ()) s.1 d 0 (by omega) rfl).1).mpr (by omega)
      have hn : ndB s.1 = false := by
        rw [← Bool.not_eq_true]
        intro h
        have h9 := List.all_eq_true.1 h d (List.mem_range.2 (by omega))
        rw [he'] at h9
        cases h9
      unfold strB
      rw [hn]
      simp
    · rename_i hk he
      have hk : d < List.length s.1 := by omega
      refine back_intro (d + 1) ?_ ?_ (sub_shp hN [(10000, some 10000)] ?_)
      · refine ⟨hk, fun i hi => ?_⟩
        by_cases e : i = d
        · subst e
          rw [← Bool.not_eq_true]
          intro h
          have h9 := ((hp_fpi _ (0, [], 0, ()) s.1 i 0 hk rfl).1).mp h
          exact he (show fpiF (List.getD s.1 i (0, [], 0, ())) s.1 0 < (i : Int) by omega)
        · exact h2 i (by omega)
      · omega
      · simp (disch := exact eqId (by kernel_rfl)) only [go_sem, ↓reduceIte, Nat.reduceAdd, Nat.reduceMul, Nat.reduceLT, Nat.reduceBEq, Nat.reduceLeDiff, Nat.reduceEqDiff, Int.reduceToNat]
        exact wrap_succ hk hw.1.1.1
    · rename_i hk
      have hn : ndB s.1 = true := by
        unfold ndB
        rw [List.all_eq_true]
        intro i hi
        rw [h2 i (by have := List.mem_range.1 hi; omega)]
        rfl
      refine loop_intro (tb := tb) follows hN (D := Nat) (fun d => shp [(1, .bp 10000 0), (4, .rd I (d : Int))] [(10000, .box 36 [.rd (.list tPiece) (s.1), .rd (.list tRenewal) (s.2.1)])]) (fun d => d ≤ List.length s.2.1 ∧ chG (List.length s.1 : Int) none s.2.1 = chG (List.length s.1 : Int) (pvG (fun x : tRenewal.den => (x.1 : Int)) (0, 0, 0, [], [], ()) s.2.1 d) (List.drop d s.2.1)) (fun d => List.length s.2.1 - d) (0) ?_ (sub_shp hN [(10000, some 10000)] ?_) (fun d hd => ?_)
      · exact ⟨Nat.zero_le _, rfl⟩
      · simp (disch := exact eqId (by kernel_rfl)) only [go_sem, ↓reduceIte, Nat.reduceAdd, Nat.reduceMul, Nat.reduceLT, Nat.reduceBEq, Nat.reduceLeDiff, Nat.reduceEqDiff, Int.reduceToNat]
        try rfl
      · obtain ⟨g1, g2⟩ := hd
        have e1 : IntKind.i64.wrap ((d : Int) - 1) = (d : Int) - 1 := wrap_i64 (by omega) (by omega)
        simp (disch := exact eqId (by kernel_rfl)) only [go_sem, ↓reduceIte, Nat.reduceAdd, Nat.reduceMul, Nat.reduceLT, Nat.reduceBEq, Nat.reduceLeDiff, Nat.reduceEqDiff, Int.reduceToNat, e1]
        repeat' (first | (refine And.intro ?_ ?_) | intro _ | (refine callQ_intro (l1In_ok _ _ _) ?_; try (simp (disch := exact eqId (by kernel_rfl)) only [go_sem, ↓reduceIte, Nat.reduceAdd, Nat.reduceMul, Nat.reduceLT, Nat.reduceBEq, Nat.reduceLeDiff, Nat.reduceEqDiff, Int.reduceToNat])) | (refine callH_intro (fun hcc => l1In_ok _ _ _) ?_; try (simp (disch := exact eqId (by kernel_rfl)) only [go_sem, ↓reduceIte, Nat.reduceAdd, Nat.reduceMul, Nat.reduceLT, Nat.reduceBEq, Nat.reduceLeDiff, Nat.reduceEqDiff, Int.reduceToNat])))
        all_goals (try omega)
        · rename_i hk hc
          have hch : chG (List.length s.1 : Int) none s.2.1 = false := by
            rw [g2, drop_getD (show d < List.length s.2.1 by omega) (0, 0, 0, [], [], ()), chG_cons]
            rcases hc with hc | ⟨hd, hlt⟩
            · rw [show inB (List.getD s.2.1 d (0, 0, 0, [], [], ())).1 1 (List.length s.1 : Int) = false from by
                rw [inB_f]
                intro h
                rcases hc with hc | hc
                · exact hc h.1
                · exact hc h.2]
              rfl
            · rw [e1] at hlt
              unfold pvG
              rw [if_pos hd, show leG (some (List.getD s.2.1 ((d : Int) - 1).toNat (0, 0, 0, [], [], ())).1) (List.getD s.2.1 d (0, 0, 0, [], [], ())).1 = false from decide_eq_false (Int.not_le.mpr hlt)]
              simp
          unfold strB
          rw [hch]
          simp
        · rename_i hk hc
          have hk : d < List.length s.2.1 := by omega
          obtain ⟨hc, hd⟩ := hc
          rw [e1] at hd
          refine back_intro (d + 1) ?_ ?_ (sub_shp hN [(10000, some 10000)] ?_)
          · refine ⟨hk, ?_⟩
            rw [g2, drop_getD hk (0, 0, 0, [], [], ()), chG_cons, pvG_succ, show inB (List.getD s.2.1 d (0, 0, 0, [], [], ())).1 1 (List.length s.1 : Int) = true from by rw [inB_t]; exact hc, Bool.true_and]
            unfold pvG
            by_cases h0 : (d : Int) > 0
            · rw [if_pos h0, show leG (some (List.getD s.2.1 ((d : Int) - 1).toNat (0, 0, 0, [], [], ())).1) (List.getD s.2.1 d (0, 0, 0, [], [], ())).1 = true from decide_eq_true (Int.not_lt.mp (hd.resolve_left (fun hx => hx h0))), Bool.true_and]
            · rw [if_neg h0]
              rfl
          · omega
          · simp (disch := exact eqId (by kernel_rfl)) only [go_sem, ↓reduceIte, Nat.reduceAdd, Nat.reduceMul, Nat.reduceLT, Nat.reduceBEq, Nat.reduceLeDiff, Nat.reduceEqDiff, Int.reduceToNat]
            exact wrap_succ hk hw.1.2.1.1
        · rename_i hk
          have hch : chG (List.length s.1 : Int) none s.2.1 = true := by rw [g2, drop_end (show List.length s.2.1 ≤ d by omega), chG_nil]
          unfold strB
          rw [hn, hch]
          simp [inB]
          exact congrArg _ (decide_eq_decide.mpr (by omega))
end Go.Proofs.Ytfkdkblbhilghaa
/- What functions of growing strands answer, the reference's side. It proves nothing of a statement by itself. -/
set_option linter.unusedSimpArgs false
set_option linter.unusedVariables false
set_option maxRecDepth 100000
namespace Go.Proofs.Ytfkdkblbhilghaa
open Go.AL
theorem sm_pc {s : tStrand.den} (hs : Small tStrand 1048576 s) : s.1.length ≤ 1048576 ∧ ∀ p, p ∈ s.1 → p.2.1.length ≤ 1048576 := ⟨hs.1.1, fun p hp => (hs.1.2 p hp).2.1.1⟩
theorem sm_ch {s : tStrand.den} (hs : Small tStrand 1048576 s) : s.2.1.length ≤ 1048576 ∧ ∀ r, r ∈ s.2.1 → r.2.2.2.1.length ≤ 1048576 ∧ r.2.2.2.2.1.length ≤ 1048576 := ⟨hs.2.1.1, fun r hr => ⟨(hs.2.1.2 r hr).2.2.2.1.1, (hs.2.1.2 r hr).2.2.2.2.1.1⟩⟩
theorem take_snoc {α : Type} {l : List α} {k : Nat} (hk : k < l.length) (x : α) : l.take k ++ [l.getD k x] = l.take (k + 1) := by
  rw [List.take_succ_eq_append_getElem hk, List.getD_eq_getElem?_getD, List.getElem?_eq_getElem hk]
  rfl
theorem l18All_ok (l : List tPiece.den) (hl : l.length ≤ 1048576) (hp : ∀ p, p ∈ l → p.2.1.length ≤ 1048576) : FunOK Try.prog 122 [⟨(.list tPiece), l⟩] (.own 52 tPiece l) := by
  refine fun_of (tb := tb) follows Try.func122 (by kernel_rfl) Try.ntmps122 rfl rfl rfl ?_; intro cx hN hw
  simp (disch := exact eqId (by kernel_rfl)) only [go_sem, ↓reduceIte, Nat.reduceAdd, Nat.reduceMul, Nat.reduceLT, Nat.reduceBEq, Nat.reduceLeDiff, Nat.reduceEqDiff, Int.reduceToNat]
  refine loop_intro (tb := tb) follows hN (D := Nat) (fun d => shp [(0, .rd (.list tPiece) (l)), (3, .own 20000), (4, .rd I (d : Int))] [(20000, .row 52 tPiece (l.take d))]) (fun d => d ≤ l.length) (fun d => l.length - d) (0) ?_ (sub_shp hN [(20000, some 20000)] ?_) (fun d hd => ?_)
  · exact Nat.zero_le _
  · simp (disch := exact eqId (by kernel_rfl)) only [go_sem, ↓reduceIte, Nat.reduceAdd, Nat.reduceMul, Nat.reduceLT, Nat.reduceBEq, Nat.reduceLeDiff, Nat.reduceEqDiff, Int.reduceToNat]
    try exact ⟨rfl, rfl⟩
    try rfl
  · simp (disch := exact eqId (by kernel_rfl)) only [go_sem, ↓reduceIte, Nat.reduceAdd, Nat.reduceMul, Nat.reduceLT, Nat.reduceBEq, Nat.reduceLeDiff, Nat.reduceEqDiff, Int.reduceToNat]
    repeat' (first | (refine And.intro ?_ ?_) | intro _ | (refine callQ_intro (l18Copy_ok _ (hp _ (getD_mem (by omega) _))) ?_; try (simp (disch := exact eqId (by kernel_rfl)) only [go_sem, ↓reduceIte, Nat.reduceAdd, Nat.reduceMul, Nat.reduceLT, Nat.reduceBEq, Nat.reduceLeDiff, Nat.reduceEqDiff, Int.reduceToNat])) | (refine callH_intro (fun hcc => l18Copy_ok _ (hp _ (getD_mem (by omega) _))) ?_; try (simp (disch := exact eqId (by kernel_rfl)) only [go_sem, ↓reduceIte, Nat.reduceAdd, Nat.reduceMul, Nat.reduceLT, Nat.reduceBEq, Nat.reduceLeDiff, Nat.reduceEqDiff, Int.reduceToNat])))
    all_goals (try omega)
    all_goals (try (simp only [List.length_append, List.length_cons, List.length_nil, List.length_take]; omega))
    · rename_i hk
      refine back_intro (d + 1) ?_ ?_ (sub_shp hN [(20000, some 60112)] ?_)
      · omega
      · omega
      · simp (disch := exact eqId (by kernel_rfl)) only [go_sem, ↓reduceIte, Nat.reduceAdd, Nat.reduceMul, Nat.reduceLT, Nat.reduceBEq, Nat.reduceLeDiff, Nat.reduceEqDiff, Int.reduceToNat]
        refine ⟨?_, wrap_succ' (by omega)⟩
        exact take_snoc (show d < l.length by omega) _
    · rename_i hk
      rw [List.take_of_length_le (by omega)]
theorem l20Copy_fr (s : tStrand.den) (hs : Small tStrand 1048576 s) : FunOK Try.prog 72 [⟨tStrand, s⟩] (.agg [.own 52 tPiece s.1, .fresh 66 tRenewal s.2.1]) := by
  obtain ⟨h1, h2⟩ := sm_pc hs
  obtain ⟨h3, h4⟩ := sm_ch hs
  refine fun_ofN (tb := tb) follows Try.func72 (by kernel_rfl) Try.ntmps72 rfl rfl rfl ?_; intro cx hN hw
  simp (disch := exact eqId (by kernel_rfl)) only [go_sem, ↓reduceIte, Nat.reduceAdd, Nat.reduceMul, Nat.reduceLT, Nat.reduceBEq, Nat.reduceLeDiff, Nat.reduceEqDiff, Int.reduceToNat]
  repeat' (first | (refine And.intro ?_ ?_) | intro _ | (refine callQ_intro (l18All_ok _ h1 h2) ?_; try (simp (disch := exact eqId (by kernel_rfl)) only [go_sem, ↓reduceIte, Nat.reduceAdd, Nat.reduceMul, Nat.reduceLT, Nat.reduceBEq, Nat.reduceLeDiff, Nat.reduceEqDiff, Int.reduceToNat])) | (refine callH_intro (fun hcc => l18All_ok _ h1 h2) ?_; try (simp (disch := exact eqId (by kernel_rfl)) only [go_sem, ↓reduceIte, Nat.reduceAdd, Nat.reduceMul, Nat.reduceLT, Nat.reduceBEq, Nat.reduceLeDiff, Nat.reduceEqDiff, Int.reduceToNat])))
  refine loop_intro (tb := tb) follows hN (D := Nat) (fun d => shp [(1, .bp 10000 0), (2, .bp 10016 0), (3, .bp 20064 0), (4, .rd I (d : Int))] [(10000, .box 36 [.rd (.list tPiece) s.1, .rd (.list tRenewal) s.2.1]), (10016, .box 36 [.nils, .nils]), (20032, .row 52 tPiece s.1), (20064, .box 36 [.own 20032, .own 90000]), (90000, .arr 66 tRenewal (List.take d s.2.1))]) (fun d => d ≤ List.length s.2.1) (fun d => List.length s.2.1 - d) (0) ?_ (sub_shp hN [(10000, some 10000), (10016, some 10016), (20064, some 20064), (20032, some 20032), (90000, none)] ?_) (fun d hd => ?_)
  · exact Nat.zero_le _
  · simp (disch := exact eqId (by kernel_rfl)) only [go_sem, ↓reduceIte, Nat.reduceAdd, Nat.reduceMul, Nat.reduceLT, Nat.reduceBEq, Nat.reduceLeDiff, Nat.reduceEqDiff, Int.reduceToNat]
    try exact ⟨rfl, rfl⟩
    try rfl
  · simp (disch := exact eqId (by kernel_rfl)) only [go_sem, ↓reduceIte, Nat.reduceAdd, Nat.reduceMul, Nat.reduceLT, Nat.reduceBEq, Nat.reduceLeDiff, Nat.reduceEqDiff, Int.reduceToNat]
    repeat' (first | (refine And.intro ?_ ?_) | intro _ | (refine callQ_intro (l19Copy_ok _ (h4 _ (getD_mem (by omega) _)).1 (h4 _ (getD_mem (by omega) _)).2) ?_; try (simp (disch := exact eqId (by kernel_rfl)) only [go_sem, ↓reduceIte, Nat.reduceAdd, Nat.reduceMul, Nat.reduceLT, Nat.reduceBEq, Nat.reduceLeDiff, Nat.reduceEqDiff, Int.reduceToNat])) | (refine callH_intro (fun hcc => l19Copy_ok _ (h4 _ (getD_mem (by omega) _)).1 (h4 _ (getD_mem (by omega) _)).2) ?_; try (simp (disch := exact eqId (by kernel_rfl)) only [go_sem, ↓reduceIte, Nat.reduceAdd, Nat.reduceMul, Nat.reduceLT, Nat.reduceBEq, Nat.reduceLeDiff, Nat.reduceEqDiff, Int.reduceToNat])))
    all_goals (try omega)
    all_goals (try (simp only [List.length_append, List.length_cons, List.length_nil, List.length_take]; omega))
    · rename_i hk
      refine back_intro (d + 1) ?_ ?_ (sub_shp hN [(10000, some 10000), (10016, some 10016), (20064, some 20064), (20032, some 20032), (90000, some 60144)] ?_)
      · omega
      · omega
      · simp (disch := exact eqId (by kernel_rfl)) only [go_sem, ↓reduceIte, Nat.reduceAdd, Nat.reduceMul, Nat.reduceLT, Nat.reduceBEq, Nat.reduceLeDiff, Nat.reduceEqDiff, Int.reduceToNat]
        refine ⟨?_, wrap_succ' (by omega)⟩
        exact take_snoc (show d < List.length s.2.1 by omega) _
    · rename_i hk
      rw [List.take_of_length_le (by omega)]
end Go.Proofs.Ytfkdkblbhilghaa
/- What functions of growing strands answer, the reference's side. It proves nothing of a statement by itself. -/
set_option linter.unusedSimpArgs false
set_option linter.unusedVariables false
set_option maxRecDepth 100000
namespace Go.Proofs.Ytfkdkblbhilghaa
open Go.AL
noncomputable def apF (s : tStrand.den) (p : tPiece.den) : tStrand.den × Bool := if strB (s.1 ++ [p], s.2.1, ()) = false then ((s.1, s.2.1, ()), false) else ((s.1 ++ [p], s.2.1, ()), true)
theorem apF_y {s : tStrand.den} {p : tPiece.den} (h : strB (s.1 ++ [p], s.2.1, ()) = false) : apF s p = ((s.1, s.2.1, ()), false) := if_pos h
theorem apF_n {s : tStrand.den} {p : tPiece.den} (h : strB (s.1 ++ [p], s.2.1, ()) = true) : apF s p = ((s.1 ++ [p], s.2.1, ()), true) := if_neg (by rw [h]; decide)
noncomputable def arF (s : tStrand.den) (r : tRenewal.den) : tStrand.den × Bool := if strB (s.1, s.2.1 ++ [r], ()) = false then ((s.1, s.2.1, ()), false) else ((s.1, s.2.1 ++ [r], ()), true)
theorem arF_y {s : tStrand.den} {r : tRenewal.den} (h : strB (s.1, s.2.1 ++ [r], ()) = false) : arF s r = ((s.1, s.2.1, ()), false) := if_pos h
theorem arF_n {s : tStrand.den} {r : tRenewal.den} (h : strB (s.1, s.2.1 ++ [r], ()) = true) : arF s r = ((s.1, s.2.1 ++ [r], ()), true) := if_neg (by rw [h]; decide)
def dsF (s : tStrand.den) (d : tDocument.den) : List Int := s.2.1.map (fun r => ddF r.2.1 d)
theorem spec_AddPiece_ok (s : tStrand.den) (p : tPiece.den) (hs : Small tStrand 1048576 s) (hp : p.2.1.length ≤ 1048576) : FunOK Try.prog 24 [⟨tStrand, s⟩, ⟨tPiece, p⟩] (.tup [.agg [.own 52 tPiece (apF s p).1.1, .own 66 tRenewal (apF s p).1.2.1], .rd .bool (apF s p).2]) := by
  have h1 := (sm_pc hs).1
  have h2 := (sm_ch hs).1
  refine fun_of (tb := tb) follows Try.func24 (by kernel_rfl) Try.ntmps24 rfl rfl rfl ?_; intro cx hN hw
  simp (disch := exact eqId (by kernel_rfl)) only [go_sem, ↓reduceIte, Nat.reduceAdd, Nat.reduceMul, Nat.reduceLT, Nat.reduceBEq, Nat.reduceLeDiff, Nat.reduceEqDiff, Int.reduceToNat]
  repeat' (first | (refine And.intro ?_ ?_) | intro _ | (refine callB_intro (spec_IsStrand_ok _) rfl trivial ?_; try (simp (disch := exact eqId (by kernel_rfl)) only [go_sem, ↓reduceIte, Nat.reduceAdd, Nat.reduceMul, Nat.reduceLT, Nat.reduceBEq, Nat.reduceLeDiff, Nat.reduceEqDiff, Int.reduceToNat])) | (refine callQ_intro (l20Copy_fr _ hs) ?_; try (simp (disch := exact eqId (by kernel_rfl)) only [go_sem, ↓reduceIte, Nat.reduceAdd, Nat.reduceMul, Nat.reduceLT, Nat.reduceBEq, Nat.reduceLeDiff, Nat.reduceEqDiff, Int.reduceToNat])) | (refine callH_intro (fun hcc => l20Copy_fr _ hs) ?_; try (simp (disch := exact eqId (by kernel_rfl)) only [go_sem, ↓reduceIte, Nat.reduceAdd, Nat.reduceMul, Nat.reduceLT, Nat.reduceBEq, Nat.reduceLeDiff, Nat.reduceEqDiff, Int.reduceToNat])) | (refine callQ_intro (l18Copy_ok _ hp) ?_; try (simp (disch := exact eqId (by kernel_rfl)) only [go_sem, ↓reduceIte, Nat.reduceAdd, Nat.reduceMul, Nat.reduceLT, Nat.reduceBEq, Nat.reduceLeDiff, Nat.reduceEqDiff, Int.reduceToNat])) | (refine callH_intro (fun hcc => l18Copy_ok _ hp) ?_; try (simp (disch := exact eqId (by kernel_rfl)) only [go_sem, ↓reduceIte, Nat.reduceAdd, Nat.reduceMul, Nat.reduceLT, Nat.reduceBEq, Nat.reduceLeDiff, Nat.reduceEqDiff, Int.reduceToNat])) | (refine callQ_intro (spec_IsStrand_ok _) ?_; try (simp (disch := exact eqId (by kernel_rfl)) only [go_sem, ↓reduceIte, Nat.reduceAdd, Nat.reduceMul, Nat.reduceLT, Nat.reduceBEq, Nat.reduceLeDiff, Nat.reduceEqDiff, Int.reduceToNat])) | (refine callH_intro (fun hcc => spec_IsStrand_ok _) ?_; try (simp (disch := exact eqId (by kernel_rfl)) only [go_sem, ↓reduceIte, Nat.reduceAdd, Nat.reduceMul, Nat.reduceLT, Nat.reduceBEq, Nat.reduceLeDiff, Nat.reduceEqDiff, Int.reduceToNat])))
  all_goals (try omega)
  all_goals (try (simp only [List.length_append, List.length_cons, List.length_nil]; omega))
  all_goals (rename_i hc; first | exact (congrArg (fun x => x.1.1) (apF_y hc)).symm | exact (congrArg (fun x => x.1.2.1) (apF_y hc)).symm | exact (congrArg (fun x => x.2) (apF_y hc)).symm | exact (congrArg (fun x => x.1.1) (apF_n hc)).symm | exact (congrArg (fun x => x.1.2.1) (apF_n hc)).symm | exact (congrArg (fun x => x.2) (apF_n hc)).symm | trace_state)
theorem spec_AddRenewal_fr (s : tStrand.den) (r : tRenewal.den) (hs : Small tStrand 1048576 s) (hr1 : r.2.2.2.1.length ≤ 1048576) (hr2 : r.2.2.2.2.1.length ≤ 1048576) : FunOK Try.prog 31 [⟨tStrand, s⟩, ⟨tRenewal, r⟩] (.tup [.agg [.own 52 tPiece (arF s r).1.1, .fresh 66 tRenewal (arF s r).1.2.1], .rd .bool (arF s r).2]) := by
  have h1 := (sm_pc hs).1
  have h2 := (sm_ch hs).1
  refine fun_ofN (tb := tb) follows Try.func31 (by kernel_rfl) Try.ntmps31 rfl rfl rfl ?_; intro cx hN hw
  simp (disch := exact eqId (by kernel_rfl)) only [go_sem, ↓reduceIte, Nat.reduceAdd, Nat.reduceMul, Nat.reduceLT, Nat.reduceBEq, Nat.reduceLeDiff, Nat.reduceEqDiff, Int.reduceToNat]
  repeat' (first | (refine And.intro ?_ ?_) | intro _ | (refine callB_intro (spec_IsStrand_ok _) rfl trivial ?_; try (simp (disch := exact eqId (by kernel_rfl)) only [go_sem, ↓reduceIte, Nat.reduceAdd, Nat.reduceMul, Nat.reduceLT, Nat.reduceBEq, Nat.reduceLeDiff, Nat.reduceEqDiff, Int.reduceToNat])) | (refine callQ_intro (l20Copy_fr _ hs) ?_; try (simp (disch := exact eqId (by kernel_rfl)) only [go_sem, ↓reduceIte, Nat.reduceAdd, Nat.reduceMul, Nat.reduceLT, Nat.reduceBEq, Nat.reduceLeDiff, Nat.reduceEqDiff, Int.reduceToNat])) | (refine callH_intro (fun hcc => l20Copy_fr _ hs) ?_; try (simp (disch := exact eqId (by kernel_rfl)) only [go_sem, ↓reduceIte, Nat.reduceAdd, Nat.reduceMul, Nat.reduceLT, Nat.reduceBEq, Nat.reduceLeDiff, Nat.reduceEqDiff, Int.reduceToNat])) | (refine callQ_intro (l19Copy_ok _ hr1 hr2) ?_; try (simp (disch := exact eqId (by kernel_rfl)) only [go_sem, ↓reduceIte, Nat.reduceAdd, Nat.reduceMul, Nat.reduceLT, Nat.reduceBEq, Nat.reduceLeDiff, Nat.reduceEqDiff, Int.reduceToNat])) | (refine callH_intro (fun hcc => l19Copy_ok _ hr1 hr2) ?_; try (simp (disch := exact eqId (by kernel_rfl)) only [go_sem, ↓reduceIte, Nat.reduceAdd, Nat.reduceMul, Nat.reduceLT, Nat.reduceBEq, Nat.reduceLeDiff, Nat.reduceEqDiff, Int.reduceToNat])) | (refine callQ_intro (spec_IsStrand_ok _) ?_; try (simp (disch := exact eqId (by kernel_rfl)) only [go_sem, ↓reduceIte, Nat.reduceAdd, Nat.reduceMul, Nat.reduceLT, Nat.reduceBEq, Nat.reduceLeDiff, Nat.reduceEqDiff, Int.reduceToNat])) | (refine callH_intro (fun hcc => spec_IsStrand_ok _) ?_; try (simp (disch := exact eqId (by kernel_rfl)) only [go_sem, ↓reduceIte, Nat.reduceAdd, Nat.reduceMul, Nat.reduceLT, Nat.reduceBEq, Nat.reduceLeDiff, Nat.reduceEqDiff, Int.reduceToNat])))
  all_goals (try omega)
  all_goals (try (simp only [List.length_append, List.length_cons, List.length_nil]; omega))
  all_goals (rename_i hc; first | exact (congrArg (fun x => x.1.1) (arF_y hc)).symm | exact (congrArg (fun x => x.1.2.1) (arF_y hc)).symm | exact (congrArg (fun x => x.2) (arF_y hc)).symm | exact (congrArg (fun x => x.1.1) (arF_n hc)).symm | exact (congrArg (fun x => x.1.2.1) (arF_n hc)).symm | exact (congrArg (fun x => x.2) (arF_n hc)).symm | trace_state)
theorem spec_DocDigests_ok (s : tStrand.den) (e : tDocument.den) (hs : Small tStrand 1048576 s) : FunOK Try.prog 12 [⟨tStrand, s⟩, ⟨tDocument, e⟩] (.own 3 I (dsF s e)) := by
  have h2 := (sm_ch hs).1
  refine fun_of (tb := tb) follows Try.func12 (by kernel_rfl) Try.ntmps12 rfl rfl rfl ?_; intro cx hN hw
  simp (disch := exact eqId (by kernel_rfl)) only [go_sem, ↓reduceIte, Nat.reduceAdd, Nat.reduceMul, Nat.reduceLT, Nat.reduceBEq, Nat.reduceLeDiff, Nat.reduceEqDiff, Int.reduceToNat]
  refine loop_intro (tb := tb) follows hN (D := Nat) (fun d => shp [(2, .bp 10000 0), (3, .bp 10016 0), (5, .own 20000), (6, .rd I (d : Int))] [(10000, .box 36 [.rd (.list tPiece) (s.1), .rd (.list tRenewal) (s.2.1)]), (10016, .box 38 [.rd I (e.1), .rd (.list .str) (e.2.1), .rd (.list I) (e.2.2.1)]), (20000, .row 3 I ((List.take d s.2.1).map (fun r => ddF r.2.1 e)))]) (fun d => d ≤ List.length s.2.1) (fun d => List.length s.2.1 - d) (0) ?_ (sub_shp hN [(10000, some 10000), (10016, some 10016), (20000, some 20000)] ?_) (fun d hd => ?_)
  · exact Nat.zero_le _
  · simp (disch := exact eqId (by kernel_rfl)) only [go_sem, ↓reduceIte, Nat.reduceAdd, Nat.reduceMul, Nat.reduceLT, Nat.reduceBEq, Nat.reduceLeDiff, Nat.reduceEqDiff, Int.reduceToNat]
    try exact ⟨rfl, rfl⟩
    try rfl
  · simp (disch := exact eqId (by kernel_rfl)) only [go_sem, ↓reduceIte, Nat.reduceAdd, Nat.reduceMul, Nat.reduceLT, Nat.reduceBEq, Nat.reduceLeDiff, Nat.reduceEqDiff, Int.reduceToNat]
    repeat' (first | (refine And.intro ?_ ?_) | intro _ | (refine callQ_intro (spec_DocDigest_ok _ _) ?_; try (simp (disch := exact eqId (by kernel_rfl)) only [go_sem, ↓reduceIte, Nat.reduceAdd, Nat.reduceMul, Nat.reduceLT, Nat.reduceBEq, Nat.reduceLeDiff, Nat.reduceEqDiff, Int.reduceToNat])) | (refine callH_intro (fun hcc => spec_DocDigest_ok _ _) ?_; try (simp (disch := exact eqId (by kernel_rfl)) only [go_sem, ↓reduceIte, Nat.reduceAdd, Nat.reduceMul, Nat.reduceLT, Nat.reduceBEq, Nat.reduceLeDiff, Nat.reduceEqDiff, Int.reduceToNat])))
    all_goals (try omega)
    all_goals (try (simp only [List.length_append, List.length_cons, List.length_nil, List.length_take, List.length_map]; omega))
    · rename_i hk
      refine back_intro (d + 1) ?_ ?_ (sub_shp hN [(10000, some 10000), (10016, some 10016), (20000, some 60160)] ?_)
      · omega
      · omega
      · simp (disch := exact eqId (by kernel_rfl)) only [go_sem, ↓reduceIte, Nat.reduceAdd, Nat.reduceMul, Nat.reduceLT, Nat.reduceBEq, Nat.reduceLeDiff, Nat.reduceEqDiff, Int.reduceToNat]
        refine ⟨?_, wrap_succ' (by omega)⟩
        rw [← take_snoc (show d < List.length s.2.1 by omega) (0, 0, 0, [], [], ()), List.map_append]
        rfl
    · rename_i hk
      rw [List.take_of_length_le (by omega)]
      rfl
end Go.Proofs.Ytfkdkblbhilghaa
/- What functions of documents answer, the program's side. It proves nothing of a statement by itself. -/
set_option linter.unusedSimpArgs false
set_option linter.unusedVariables false
set_option maxRecDepth 100000
namespace Go.Proofs.Ytfkdkblbhilghaa
open Go.AL
theorem impl_bytesOf_ok (l : List Int) (hl : l.length ≤ 1048576) : FunOK Try.prog 144 [⟨(.list (.int .u8)), l⟩] (.own 3 I l) := by
  refine fun_of (tb := tb) follows Try.func144 (by kernel_rfl) Try.ntmps144 rfl rfl rfl ?_; intro cx hN hw
  have hu : ∀ k, k < l.length → 0 ≤ l.getD k 0 ∧ l.getD k 0 ≤ 255 := fun k hk => by
    have h := hw.1.2 k hk
    rw [List.getD_eq_getElem?_getD, List.getElem?_eq_getElem hk]
    exact h
  simp (disch := exact eqId (by kernel_rfl)) only [go_sem, ↓reduceIte, Nat.reduceAdd, Nat.reduceMul, Nat.reduceLT, Nat.reduceBEq, Nat.reduceLeDiff, Nat.reduceEqDiff, Int.reduceToNat]
  refine loop_intro (tb := tb) follows hN (D := Nat) (fun d => shp [(3, .own 20000), (6, .rd (.list (.int .u8)) (l)), (7, .rd I (((l).length : Int) : Int)), (8, .rd I (d : Int))] [(20000, .row 3 I (l.take d))]) (fun d => d ≤ l.length) (fun d => l.length - d) (0) ?_ (sub_shp hN [(20000, none)] ?_) (fun d hd => ?_)
  · exact Nat.zero_le _
  · simp (disch := exact eqId (by kernel_rfl)) only [go_sem, ↓reduceIte, Nat.reduceAdd, Nat.reduceMul, Nat.reduceLT, Nat.reduceBEq, Nat.reduceLeDiff, Nat.reduceEqDiff, Int.reduceToNat]
    try exact ⟨rfl, rfl⟩
    try rfl
  · simp (disch := exact eqId (by kernel_rfl)) only [go_sem, ↓reduceIte, Nat.reduceAdd, Nat.reduceMul, Nat.reduceLT, Nat.reduceBEq, Nat.reduceLeDiff, Nat.reduceEqDiff, Int.reduceToNat]
    repeat' (first | (refine And.intro ?_ ?_) | intro _)
    all_goals (try omega)
    all_goals (try (simp only [List.length_append, List.length_cons, List.length_nil, List.length_take]; omega))
    · rename_i hk
      have hk : d < l.length := by omega
      refine back_intro (d + 1) ?_ ?_ (sub_shp hN [(20000, some 60064)] ?_)
      · omega
      · omega
      · simp (disch := exact eqId (by kernel_rfl)) only [go_sem, ↓reduceIte, Nat.reduceAdd, Nat.reduceMul, Nat.reduceLT, Nat.reduceBEq, Nat.reduceLeDiff, Nat.reduceEqDiff, Int.reduceToNat]
        refine ⟨?_, wrap_succ' (by omega)⟩
        have := hu d hk
        rw [wrap_i64 (by omega) (by omega)]
        exact take_snoc hk _
    · rename_i hk
      rw [List.take_of_length_le (by omega)]
theorem impl_PartDigest_ok (m : Int) (p : ByteArray) (t : Int) (hp : p.size ≤ 1000000) : FunOK Try.prog 119 [⟨I, m⟩, ⟨.str, p⟩, ⟨I, t⟩] (.rd I (ptF m p t)) := by
  refine fun_of (tb := tb) follows Try.func119 (by kernel_rfl) Try.ntmps119 rfl rfl rfl ?_; intro cx hN hw
  simp (disch := exact eqId (by kernel_rfl)) only [go_sem, ↓reduceIte, Nat.reduceAdd, Nat.reduceMul, Nat.reduceLT, Nat.reduceBEq, Nat.reduceLeDiff, Nat.reduceEqDiff, Int.reduceToNat]
  have hl : (byL p).length ≤ 1048576 := by rw [byL_len]; omega
  have hlD : (t :: byL p).length ≤ 1073741824 := by rw [List.length_cons]; omega
  repeat' (first | (refine And.intro ?_ ?_) | intro _ | (refine callQ_intro (impl_bytesOf_ok _ hl) ?_; try (simp (disch := exact eqId (by kernel_rfl)) only [go_sem, ↓reduceIte, Nat.reduceAdd, Nat.reduceMul, Nat.reduceLT, Nat.reduceBEq, Nat.reduceLeDiff, Nat.reduceEqDiff, Int.reduceToNat])) | (refine callH_intro (fun hcc => impl_bytesOf_ok _ hl) ?_; try (simp (disch := exact eqId (by kernel_rfl)) only [go_sem, ↓reduceIte, Nat.reduceAdd, Nat.reduceMul, Nat.reduceLT, Nat.reduceBEq, Nat.reduceLeDiff, Nat.reduceEqDiff, Int.reduceToNat])) | (refine callQ_intro (impl_DigestOf_ok _ _ hlD) ?_; try (simp (disch := exact eqId (by kernel_rfl)) only [go_sem, ↓reduceIte, Nat.reduceAdd, Nat.reduceMul, Nat.reduceLT, Nat.reduceBEq, Nat.reduceLeDiff, Nat.reduceEqDiff, Int.reduceToNat])) | (refine callH_intro (fun hcc => impl_DigestOf_ok _ _ hlD) ?_; try (simp (disch := exact eqId (by kernel_rfl)) only [go_sem, ↓reduceIte, Nat.reduceAdd, Nat.reduceMul, Nat.reduceLT, Nat.reduceBEq, Nat.reduceLeDiff, Nat.reduceEqDiff, Int.reduceToNat])))
  all_goals (try omega)
  all_goals (try (simp only [List.length_append, List.length_cons, List.length_nil]; omega))
  all_goals (try rfl)
theorem isD_f1 {e : tDocument.den} {k : Nat} (hk : k < e.2.1.length) (h : pOK (e.2.1.getD k ByteArray.empty) = false) : isD e = false := by
  have : e.2.1.all pOK = false := by
    rw [← Bool.not_eq_true]
    intro h9
    rw [List.all_eq_true] at h9
    rw [h9 _ (getD_mem hk _)] at h
    cases h
  unfold isD
  rw [this]
  rfl
theorem isD_f2 {e : tDocument.den} {k : Nat} (hk : k < e.2.2.1.length) (h : inB (e.2.2.1.getD k 0) 1 1000000000000 = false) : isD e = false := by
  have : e.2.2.1.all (fun x => inB x 1 1000000000000) = false := by
    rw [← Bool.not_eq_true]
    intro h9
    rw [List.all_eq_true] at h9
    rw [h9 _ (getD_mem hk _)] at h
    cases h
  unfold isD
  rw [this]
  simp
theorem isD_t {e : tDocument.den} (h1 : inB e.1 0 999 = true) (h2 : inB (e.2.1.length : Int) 1 6 = true) (h3 : e.2.2.1.length = e.2.1.length) (h : ∀ k, k < e.2.1.length → pOK (e.2.1.getD k ByteArray.empty) = true ∧ inB (e.2.2.1.getD k 0) 1 1000000000000 = true) : isD e = true := by
  have a1 : e.2.1.all pOK = true := by
    rw [List.all_eq_true]
    intro x hx
    obtain ⟨k, hk, rfl⟩ := List.mem_iff_getElem.1 hx
    have := (h k hk).1
    rwa [List.getD_eq_getElem?_getD, List.getElem?_eq_getElem hk] at this
  have a2 : e.2.2.1.all (fun x => inB x 1 1000000000000) = true := by
    rw [List.all_eq_true]
    intro x hx
    obtain ⟨k, hk, rfl⟩ := List.mem_iff_getElem.1 hx
    have := (h k (by omega)).2
    rwa [List.getD_eq_getElem?_getD, List.getElem?_eq_getElem hk] at this
  unfold isD
  rw [a1, a2, h1, h2, h3]
  simp
theorem impl_IsDocument_ok (e : tDocument.den) : FunOK Try.prog 118 [⟨tDocument, e⟩] (.rd .bool (isD e)) := by
  refine fun_of (tb := tb) follows Try.func118 (by kernel_rfl) Try.ntmps118 rfl rfl rfl ?_; intro cx hN hw
  simp (disch := exact eqId (by kernel_rfl)) only [go_sem, ↓reduceIte, Nat.reduceAdd, Nat.reduceMul, Nat.reduceLT, Nat.reduceBEq, Nat.reduceLeDiff, Nat.reduceEqDiff, Int.reduceToNat]
  have hp1 : e.2.1.length ≤ maxLen := hw.1.2.1.1
  repeat' (first | (refine And.intro ?_ ?_) | intro _ | (refine callQ_intro (inRange_ok _ _ _) ?_; try (simp (disch := exact eqId (by kernel_rfl)) only [go_sem, ↓reduceIte, Nat.reduceAdd, Nat.reduceMul, Nat.reduceLT, Nat.reduceBEq, Nat.reduceLeDiff, Nat.reduceEqDiff, Int.reduceToNat])) | (refine callH_intro (fun hcc => inRange_ok _ _ _) ?_; try (simp (disch := exact eqId (by kernel_rfl)) only [go_sem, ↓reduceIte, Nat.reduceAdd, Nat.reduceMul, Nat.reduceLT, Nat.reduceBEq, Nat.reduceLeDiff, Nat.reduceEqDiff, Int.reduceToNat])))
  all_goals (try omega)
  · rename_i hc
    have hf : (inB e.1 0 999 && inB (e.2.1.length : Int) 1 6 && ((e.2.2.1.length : Int) == (e.2.1.length : Int))) = false := by
      rw [← Bool.not_eq_true]
      intro h
      simp only [inB, Bool.and_eq_true, decide_eq_true_eq, beq_iff_eq] at h
      omega
    unfold isD
    symm
    rw [← Bool.not_eq_true] at hf ⊢
    intro h
    refine hf ?_
    simp only [Bool.and_eq_true] at h ⊢
    exact ⟨⟨h.2.2.1, h.2.2.2.1⟩, h.2.2.2.2⟩
  · rename_i hc
    refine loop_intro (tb := tb) follows hN (D := Nat) (fun d => shp [(1, .bp 10000 0), (26, .rd (.list .str) (e.2.1)), (27, .rd I (((e.2.1).length : Int) : Int)), (28, .rd I (d : Int))] [(10000, .box 38 [.rd I (e.1), .rd (.list .str) (e.2.1), .rd (.list I) (e.2.2.1)])]) (fun d => d ≤ e.2.1.length ∧ ∀ j, j < d → pOK (e.2.1.getD j ByteArray.empty) = true ∧ inB (e.2.2.1.getD j 0) 1 1000000000000 = true) (fun d => e.2.1.length - d) (0) ?_ (sub_shp hN [(10000, some 10000)] ?_) (fun d hd => ?_)
    · exact ⟨Nat.zero_le _, fun j hj => absurd hj (Nat.not_lt_zero j)⟩
    · simp (disch := exact eqId (by kernel_rfl)) only [go_sem, ↓reduceIte, Nat.reduceAdd, Nat.reduceMul, Nat.reduceLT, Nat.reduceBEq, Nat.reduceLeDiff, Nat.reduceEqDiff, Int.reduceToNat]
      try rfl
    · obtain ⟨h1, h2⟩ := hd
      simp (disch := exact eqId (by kernel_rfl)) only [go_sem, ↓reduceIte, Nat.reduceAdd, Nat.reduceMul, Nat.reduceLT, Nat.reduceBEq, Nat.reduceLeDiff, Nat.reduceEqDiff, Int.reduceToNat]
      repeat' (first | (refine And.intro ?_ ?_) | intro _ | (refine callQ_intro (inRange_ok _ _ _) ?_; try (simp (disch := exact eqId (by kernel_rfl)) only [go_sem, ↓reduceIte, Nat.reduceAdd, Nat.reduceMul, Nat.reduceLT, Nat.reduceBEq, Nat.reduceLeDiff, Nat.reduceEqDiff, Int.reduceToNat])) | (refine callH_intro (fun hcc => inRange_ok _ _ _) ?_; try (simp (disch := exact eqId (by kernel_rfl)) only [go_sem, ↓reduceIte, Nat.reduceAdd, Nat.reduceMul, Nat.reduceLT, Nat.reduceBEq, Nat.reduceLeDiff, Nat.reduceEqDiff, Int.reduceToNat])))
      all_goals (try omega)
      · rename_i hk hx
        have hk : d < e.2.1.length := by omega
        rcases hx with hx | hx
        · exact (isD_f1 hk (decide_eq_false (Int.not_le.2 hx))).symm
        · exact (isD_f2 (k := d) (by omega) (inB_f.mpr (by omega))).symm
      · rename_i hk hx
        have hk : d < e.2.1.length := by omega
        refine back_intro (d + 1) ?_ ?_ (sub_shp hN [(10000, some 10000)] ?_)
        · refine ⟨hk, fun j hj => ?_⟩
          rcases Nat.lt_or_ge j d with h | h
          · exact h2 j h
          · rw [show j = d by omega]
            exact ⟨decide_eq_true (Int.not_lt.1 hx.1), inB_t.mpr hx.2⟩
        · omega
        · simp (disch := exact eqId (by kernel_rfl)) only [go_sem, ↓reduceIte, Nat.reduceAdd, Nat.reduceMul, Nat.reduceLT, Nat.reduceBEq, Nat.reduceLeDiff, Nat.reduceEqDiff, Int.reduceToNat]
          exact wrap_succ hk hp1
      · rename_i hk
        have hd2 : d = e.2.1.length := by omega
        subst hd2
        exact (isD_t (inB_t.mpr hc.1.1) (inB_t.mpr hc.1.2) (by omega) h2).symm
      all_goals trace_state
theorem impl_DocDigest_ok (m : Int) (e : tDocument.den) : FunOK Try.prog 65 [⟨I, m⟩, ⟨tDocument, e⟩] (.rd I (ddF m e)) := by
  refine fun_of (tb := tb) follows Try.func65 (by kernel_rfl) Try.ntmps65 rfl rfl rfl ?_; intro cx hN hw
  have hm : maxLen = 9223372036854775807 := rfl
  simp (disch := exact eqId (by kernel_rfl)) only [go_sem, ↓reduceIte, Nat.reduceAdd, Nat.reduceMul, Nat.reduceLT, Nat.reduceBEq, Nat.reduceLeDiff, Nat.reduceEqDiff, Int.reduceToNat]
  repeat' (first | (refine And.intro ?_ ?_) | intro _ | (refine callQ_intro (impl_IsDocument_ok _) ?_; try (simp (disch := exact eqId (by kernel_rfl)) only [go_sem, ↓reduceIte, Nat.reduceAdd, Nat.reduceMul, Nat.reduceLT, Nat.reduceBEq, Nat.reduceLeDiff, Nat.reduceEqDiff, Int.reduceToNat])) | (refine callH_intro (fun hcc => impl_IsDocument_ok _) ?_; try (simp (disch := exact eqId (by kernel_rfl)) only [go_sem, ↓reduceIte, Nat.reduceAdd, Nat.reduceMul, Nat.reduceLT, Nat.reduceBEq, Nat.reduceLeDiff, Nat.reduceEqDiff, Int.reduceToNat])))
  · rename_i hc
    unfold ddF
    rw [if_neg (by rw [show isD e = false from hc]; decide)]
  · rename_i hc
    obtain ⟨l1, l2, l3⟩ := isD_len (d := e) hc
    refine loop_intro (tb := tb) follows hN (D := Nat) (fun d => shp [(0, .rd I (m : Int)), (3, .bp 10000 0), (5, .own 40032), (15, .rd (.list .str) (e.2.1)), (16, .rd I (((e.2.1).length : Int) : Int)), (17, .rd I (d : Int))] [(10000, .box 38 [.rd I (e.1), .rd (.list .str) (e.2.1), .rd (.list I) (e.2.2.1)]), (40032, .row 3 I (e.1 :: (ddL m e.2.1 e.2.2.1).take d))]) (fun d => d ≤ e.2.1.length) (fun d => e.2.1.length - d) (0) ?_ (sub_shp hN [(10000, some 10000), (40032, some 40032)] ?_) (fun d hd => ?_)
    · exact Nat.zero_le _
    · simp (disch := exact eqId (by kernel_rfl)) only [go_sem, ↓reduceIte, Nat.reduceAdd, Nat.reduceMul, Nat.reduceLT, Nat.reduceBEq, Nat.reduceLeDiff, Nat.reduceEqDiff, Int.reduceToNat]
      try exact ⟨rfl, rfl⟩
      try rfl
    · have hl := ddL_len m e.2.1 e.2.2.1 l2
      have hlD : ∀ k, (e.1 :: (ddL m e.2.1 e.2.2.1).take k).length ≤ 1073741824 := fun k => by simp only [List.length_cons, List.length_take]; omega
      have hps : ∀ k, k < e.2.1.length → (e.2.1.getD k ByteArray.empty).size ≤ 1000000 := fun k hk => Nat.le_trans (l3 _ (getD_mem hk _)) (by decide)
      simp (disch := exact eqId (by kernel_rfl)) only [go_sem, ↓reduceIte, Nat.reduceAdd, Nat.reduceMul, Nat.reduceLT, Nat.reduceBEq, Nat.reduceLeDiff, Nat.reduceEqDiff, Int.reduceToNat]
      repeat' (first | (refine And.intro ?_ ?_) | intro _ | (refine callQ_intro (impl_DigestOf_ok _ _ (hlD _)) ?_; try (simp (disch := exact eqId (by kernel_rfl)) only [go_sem, ↓reduceIte, Nat.reduceAdd, Nat.reduceMul, Nat.reduceLT, Nat.reduceBEq, Nat.reduceLeDiff, Nat.reduceEqDiff, Int.reduceToNat])) | (refine callH_intro (fun hcc => impl_DigestOf_ok _ _ (hlD _)) ?_; try (simp (disch := exact eqId (by kernel_rfl)) only [go_sem, ↓reduceIte, Nat.reduceAdd, Nat.reduceMul, Nat.reduceLT, Nat.reduceBEq, Nat.reduceLeDiff, Nat.reduceEqDiff, Int.reduceToNat])) | (refine callQ_intro (impl_PartDigest_ok _ _ _ (hps _ (by omega))) ?_; try (simp (disch := exact eqId (by kernel_rfl)) only [go_sem, ↓reduceIte, Nat.reduceAdd, Nat.reduceMul, Nat.reduceLT, Nat.reduceBEq, Nat.reduceLeDiff, Nat.reduceEqDiff, Int.reduceToNat])) | (refine callH_intro (fun hcc => impl_PartDigest_ok _ _ _ (hps _ (by omega))) ?_; try (simp (disch := exact eqId (by kernel_rfl)) only [go_sem, ↓reduceIte, Nat.reduceAdd, Nat.reduceMul, Nat.reduceLT, Nat.reduceBEq, Nat.reduceLeDiff, Nat.reduceEqDiff, Int.reduceToNat])))
      all_goals (try omega)
      all_goals (try (simp only [List.length_append, List.length_cons, List.length_nil, List.length_take]; omega))
      · rename_i hk
        have hk : d < e.2.1.length := by omega
        refine back_intro (d + 1) ?_ ?_ (sub_shp hN [(10000, some 10000), (40032, some 80160)] ?_)
        · omega
        · omega
        · simp (disch := exact eqId (by kernel_rfl)) only [go_sem, ↓reduceIte, Nat.reduceAdd, Nat.reduceMul, Nat.reduceLT, Nat.reduceBEq, Nat.reduceLeDiff, Nat.reduceEqDiff, Int.reduceToNat]
          refine ⟨?_, wrap_succ' (by omega)⟩
          first | exact ddL_step hk l2 | trace_state
      · rename_i hk
        have : d = e.2.1.length := by omega
        subst this
        unfold ddF
        rw [if_pos hc, List.take_of_length_le (by omega)]
      all_goals trace_state
theorem impl_DocDigests_ok (s : tStrand.den) (e : tDocument.den) (hs : Small tStrand 1048576 s) : FunOK Try.prog 15 [⟨tStrand, s⟩, ⟨tDocument, e⟩] (.own 3 I (dsF s e)) := by
  have h2 := (sm_ch hs).1
  refine fun_of (tb := tb) follows Try.func15 (by kernel_rfl) Try.ntmps15 rfl rfl rfl ?_; intro cx hN hw
  simp (disch := exact eqId (by kernel_rfl)) only [go_sem, ↓reduceIte, Nat.reduceAdd, Nat.reduceMul, Nat.reduceLT, Nat.reduceBEq, Nat.reduceLeDiff, Nat.reduceEqDiff, Int.reduceToNat]
  refine loop_intro (tb := tb) follows hN (D := Nat) (fun d => shp [(3, .bp 10016 0), (5, .own 20000), (9, .rd (.list tRenewal) (s.2.1)), (10, .rd I (((s.2.1).length : Int) : Int)), (11, .rd I (d : Int))] [(10016, .box 38 [.rd I (e.1), .rd (.list .str) (e.2.1), .rd (.list I) (e.2.2.1)]), (20000, .row 3 I ((List.take d s.2.1).map (fun r => ddF r.2.1 e)))]) (fun d => d ≤ List.length s.2.1) (fun d => List.length s.2.1 - d) (0) ?_ (sub_shp hN [(10016, some 10016), (20000, none)] ?_) (fun d hd => ?_)
  · exact Nat.zero_le _
  · simp (disch := exact eqId (by kernel_rfl)) only [go_sem, ↓reduceIte, Nat.reduceAdd, Nat.reduceMul, Nat.reduceLT, Nat.reduceBEq, Nat.reduceLeDiff, Nat.reduceEqDiff, Int.reduceToNat]
    try exact ⟨rfl, rfl⟩
    try rfl
  · simp (disch := exact eqId (by kernel_rfl)) only [go_sem, ↓reduceIte, Nat.reduceAdd, Nat.reduceMul, Nat.reduceLT, Nat.reduceBEq, Nat.reduceLeDiff, Nat.reduceEqDiff, Int.reduceToNat]
    repeat' (first | (refine And.intro ?_ ?_) | intro _ | (refine callQ_intro (impl_DocDigest_ok _ _) ?_; try (simp (disch := exact eqId (by kernel_rfl)) only [go_sem, ↓reduceIte, Nat.reduceAdd, Nat.reduceMul, Nat.reduceLT, Nat.reduceBEq, Nat.reduceLeDiff, Nat.reduceEqDiff, Int.reduceToNat])) | (refine callH_intro (fun hcc => impl_DocDigest_ok _ _) ?_; try (simp (disch := exact eqId (by kernel_rfl)) only [go_sem, ↓reduceIte, Nat.reduceAdd, Nat.reduceMul, Nat.reduceLT, Nat.reduceBEq, Nat.reduceLeDiff, Nat.reduceEqDiff, Int.reduceToNat])))
    all_goals (try omega)
    all_goals (try (simp only [List.length_append, List.length_cons, List.length_nil, List.length_take, List.length_map]; omega))
    · rename_i hk
      refine back_intro (d + 1) ?_ ?_ (sub_shp hN [(10016, some 10016), (20000, some 60096)] ?_)
      · omega
      · omega
      · simp (disch := exact eqId (by kernel_rfl)) only [go_sem, ↓reduceIte, Nat.reduceAdd, Nat.reduceMul, Nat.reduceLT, Nat.reduceBEq, Nat.reduceLeDiff, Nat.reduceEqDiff, Int.reduceToNat]
        refine ⟨?_, wrap_succ' (by omega)⟩
        rw [← take_snoc (show d < List.length s.2.1 by omega) (0, 0, 0, [], [], ()), List.map_append]
        rfl
    · rename_i hk
      rw [List.take_of_length_le (by omega)]
      rfl
end Go.Proofs.Ytfkdkblbhilghaa
/- What functions of growing strands answer, the program's side. It proves nothing of a statement by itself. -/
set_option linter.unusedSimpArgs false
set_option linter.unusedVariables false
set_option maxRecDepth 100000
namespace Go.Proofs.Ytfkdkblbhilghaa
open Go.AL
theorem copyInts_ok (l : List Int) (hl : l.length ≤ 1048576) : FunOK Try.prog 126 [⟨(.list I), l⟩] (.own 3 I l) := by
  refine fun_of (tb := tb) follows Try.func126 (by kernel_rfl) Try.ntmps126 rfl rfl rfl ?_; intro cx hN hw
  simp (disch := exact eqId (by kernel_rfl)) only [go_sem, ↓reduceIte, Nat.reduceAdd, Nat.reduceMul, Nat.reduceLT, Nat.reduceBEq, Nat.reduceLeDiff, Nat.reduceEqDiff, Int.reduceToNat]
  repeat' (first | (refine And.intro ?_ ?_) | intro _)
  all_goals (try omega)
theorem copyStamps_ok (l : List tStamp.den) (hl : l.length ≤ 1048576) : FunOK Try.prog 112 [⟨(.list tStamp), l⟩] (.own 155 tStamp l) := by
  refine fun_of (tb := tb) follows Try.func112 (by kernel_rfl) Try.ntmps112 rfl rfl rfl ?_; intro cx hN hw
  simp (disch := exact eqId (by kernel_rfl)) only [go_sem, ↓reduceIte, Nat.reduceAdd, Nat.reduceMul, Nat.reduceLT, Nat.reduceBEq, Nat.reduceLeDiff, Nat.reduceEqDiff, Int.reduceToNat]
  repeat' (first | (refine And.intro ?_ ?_) | intro _)
  all_goals (try omega)
theorem copyPiece_ok (p : tPiece.den) (hp : p.2.1.length ≤ 1048576) : FunOK Try.prog 76 [⟨tPiece, p⟩] (.agg [.rd I p.1, .own 3 I p.2.1, .rd I p.2.2.1]) := by
  refine fun_of (tb := tb) follows Try.func76 (by kernel_rfl) Try.ntmps76 rfl rfl rfl ?_; intro cx hN hw
  simp (disch := exact eqId (by kernel_rfl)) only [go_sem, ↓reduceIte, Nat.reduceAdd, Nat.reduceMul, Nat.reduceLT, Nat.reduceBEq, Nat.reduceLeDiff, Nat.reduceEqDiff, Int.reduceToNat]
  repeat' (first | (refine And.intro ?_ ?_) | intro _ | (refine callQ_intro (copyInts_ok _ hp) ?_; try (simp (disch := exact eqId (by kernel_rfl)) only [go_sem, ↓reduceIte, Nat.reduceAdd, Nat.reduceMul, Nat.reduceLT, Nat.reduceBEq, Nat.reduceLeDiff, Nat.reduceEqDiff, Int.reduceToNat])) | (refine callH_intro (fun hcc => copyInts_ok _ hp) ?_; try (simp (disch := exact eqId (by kernel_rfl)) only [go_sem, ↓reduceIte, Nat.reduceAdd, Nat.reduceMul, Nat.reduceLT, Nat.reduceBEq, Nat.reduceLeDiff, Nat.reduceEqDiff, Int.reduceToNat])))
  all_goals (try omega)
theorem copyRenewal_ok (r : tRenewal.den) (h1 : r.2.2.2.1.length ≤ 1048576) (h2 : r.2.2.2.2.1.length ≤ 1048576) : FunOK Try.prog 85 [⟨tRenewal, r⟩] (.agg [.rd I r.1, .rd I r.2.1, .rd I r.2.2.1, .own 151 tStep r.2.2.2.1, .own 155 tStamp r.2.2.2.2.1]) := by
  refine fun_of (tb := tb) follows Try.func85 (by kernel_rfl) Try.ntmps85 rfl rfl rfl ?_; intro cx hN hw
  simp (disch := exact eqId (by kernel_rfl)) only [go_sem, ↓reduceIte, Nat.reduceAdd, Nat.reduceMul, Nat.reduceLT, Nat.reduceBEq, Nat.reduceLeDiff, Nat.reduceEqDiff, Int.reduceToNat]
  repeat' (first | (refine And.intro ?_ ?_) | intro _ | (refine callQ_intro (copyStamps_ok _ h2) ?_; try (simp (disch := exact eqId (by kernel_rfl)) only [go_sem, ↓reduceIte, Nat.reduceAdd, Nat.reduceMul, Nat.reduceLT, Nat.reduceBEq, Nat.reduceLeDiff, Nat.reduceEqDiff, Int.reduceToNat])) | (refine callH_intro (fun hcc => copyStamps_ok _ h2) ?_; try (simp (disch := exact eqId (by kernel_rfl)) only [go_sem, ↓reduceIte, Nat.reduceAdd, Nat.reduceMul, Nat.reduceLT, Nat.reduceBEq, Nat.reduceLeDiff, Nat.reduceEqDiff, Int.reduceToNat])))
  all_goals (try omega)
theorem copyPieces_ok (l : List tPiece.den) (hl : l.length ≤ 1048576) (hp : ∀ p, p ∈ l → p.2.1.length ≤ 1048576) : FunOK Try.prog 125 [⟨(.list tPiece), l⟩] (.own 52 tPiece l) := by
  refine fun_of (tb := tb) follows Try.func125 (by kernel_rfl) Try.ntmps125 rfl rfl rfl ?_; intro cx hN hw
  simp (disch := exact eqId (by kernel_rfl)) only [go_sem, ↓reduceIte, Nat.reduceAdd, Nat.reduceMul, Nat.reduceLT, Nat.reduceBEq, Nat.reduceLeDiff, Nat.reduceEqDiff, Int.reduceToNat]
  refine loop_intro (tb := tb) follows hN (D := Nat) (fun d => shp [(3, .own 20000), (6, .rd (.list tPiece) (l)), (7, .rd I (((l).length : Int) : Int)), (8, .rd I (d : Int))] [(20000, .row 52 tPiece (l.take d))]) (fun d => d ≤ l.length) (fun d => l.length - d) (0) ?_ (sub_shp hN [(20000, none)] ?_) (fun d hd => ?_)
  · exact Nat.zero_le _
  · simp (disch := exact eqId (by kernel_rfl)) only [go_sem, ↓reduceIte, Nat.reduceAdd, Nat.reduceMul, Nat.reduceLT, Nat.reduceBEq, Nat.reduceLeDiff, Nat.reduceEqDiff, Int.reduceToNat]
    try exact ⟨rfl, rfl⟩
    try rfl
  · simp (disch := exact eqId (by kernel_rfl)) only [go_sem, ↓reduceIte, Nat.reduceAdd, Nat.reduceMul, Nat.reduceLT, Nat.reduceBEq, Nat.reduceLeDiff, Nat.reduceEqDiff, Int.reduceToNat]
    repeat' (first | (refine And.intro ?_ ?_) | intro _ | (refine callQ_intro (copyPiece_ok _ (hp _ (getD_mem (by omega) _))) ?_; try (simp (disch := exact eqId (by kernel_rfl)) only [go_sem, ↓reduceIte, Nat.reduceAdd, Nat.reduceMul, Nat.reduceLT, Nat.reduceBEq, Nat.reduceLeDiff, Nat.reduceEqDiff, Int.reduceToNat])) | (refine callH_intro (fun hcc => copyPiece_ok _ (hp _ (getD_mem (by omega) _))) ?_; try (simp (disch := exact eqId (by kernel_rfl)) only [go_sem, ↓reduceIte, Nat.reduceAdd, Nat.reduceMul, Nat.reduceLT, Nat.reduceBEq, Nat.reduceLeDiff, Nat.reduceEqDiff, Int.reduceToNat])))
    all_goals (try omega)
    all_goals (try (simp only [List.length_append, List.length_cons, List.length_nil, List.length_take]; omega))
    · rename_i hk
      refine back_intro (d + 1) ?_ ?_ (sub_shp hN [(20000, some 60064)] ?_)
      · omega
      · omega
      · simp (disch := exact eqId (by kernel_rfl)) only [go_sem, ↓reduceIte, Nat.reduceAdd, Nat.reduceMul, Nat.reduceLT, Nat.reduceBEq, Nat.reduceLeDiff, Nat.reduceEqDiff, Int.reduceToNat]
        refine ⟨?_, wrap_succ' (by omega)⟩
        exact take_snoc (show d < l.length by omega) _
    · rename_i hk
      rw [List.take_of_length_le (by omega)]
    all_goals trace_state
theorem copyStrand_ok (s : tStrand.den) (hs : Small tStrand 1048576 s) : FunOK Try.prog 75 [⟨tStrand, s⟩] (.agg [.own 52 tPiece s.1, .own 66 tRenewal s.2.1]) := by
  obtain ⟨h1, h2⟩ := sm_pc hs
  obtain ⟨h3, h4⟩ := sm_ch hs
  refine fun_of (tb := tb) follows Try.func75 (by kernel_rfl) Try.ntmps75 rfl rfl rfl ?_; intro cx hN hw
  simp (disch := exact eqId (by kernel_rfl)) only [go_sem, ↓reduceIte, Nat.reduceAdd, Nat.reduceMul, Nat.reduceLT, Nat.reduceBEq, Nat.reduceLeDiff, Nat.reduceEqDiff, Int.reduceToNat]
  repeat' (first | (refine And.intro ?_ ?_) | intro _ | (refine callQ_intro (copyPieces_ok _ h1 h2) ?_; try (simp (disch := exact eqId (by kernel_rfl)) only [go_sem, ↓reduceIte, Nat.reduceAdd, Nat.reduceMul, Nat.reduceLT, Nat.reduceBEq, Nat.reduceLeDiff, Nat.reduceEqDiff, Int.reduceToNat])) | (refine callH_intro (fun hcc => copyPieces_ok _ h1 h2) ?_; try (simp (disch := exact eqId (by kernel_rfl)) only [go_sem, ↓reduceIte, Nat.reduceAdd, Nat.reduceMul, Nat.reduceLT, Nat.reduceBEq, Nat.reduceLeDiff, Nat.reduceEqDiff, Int.reduceToNat])))
  refine loop_intro (tb := tb) follows hN (D := Nat) (fun d => shp [(2, .bp 10016 0), (3, .bp 20064 0), (11, .rd (.list tRenewal) (s.2.1)), (12, .rd I (((s.2.1).length : Int) : Int)), (13, .rd I (d : Int))] [(10016, .box 36 [.nils, .nils]), (20032, .row 52 tPiece s.1), (20064, .box 36 [.own 20032, .own 90000]), (90000, .row 66 tRenewal (List.take d s.2.1))]) (fun d => d ≤ List.length s.2.1) (fun d => List.length s.2.1 - d) (0) ?_ (sub_shp hN [(10016, some 10016), (20064, some 20064), (20032, some 20032), (90000, none)] ?_) (fun d hd => ?_)
  · exact Nat.zero_le _
  · simp (disch := exact eqId (by kernel_rfl)) only [go_sem, ↓reduceIte, Nat.reduceAdd, Nat.reduceMul, Nat.reduceLT, Nat.reduceBEq, Nat.reduceLeDiff, Nat.reduceEqDiff, Int.reduceToNat]
    try exact ⟨rfl, rfl⟩
    try rfl
  · simp (disch := exact eqId (by kernel_rfl)) only [go_sem, ↓reduceIte, Nat.reduceAdd, Nat.reduceMul, Nat.reduceLT, Nat.reduceBEq, Nat.reduceLeDiff, Nat.reduceEqDiff, Int.reduceToNat]
    repeat' (first | (refine And.intro ?_ ?_) | intro _ | (refine callQ_intro (copyRenewal_ok _ (h4 _ (getD_mem (by omega) _)).1 (h4 _ (getD_mem (by omega) _)).2) ?_; try (simp (disch := exact eqId (by kernel_rfl)) only [go_sem, ↓reduceIte, Nat.reduceAdd, Nat.reduceMul, Nat.reduceLT, Nat.reduceBEq, Nat.reduceLeDiff, Nat.reduceEqDiff, Int.reduceToNat])) | (refine callH_intro (fun hcc => copyRenewal_ok _ (h4 _ (getD_mem (by omega) _)).1 (h4 _ (getD_mem (by omega) _)).2) ?_; try (simp (disch := exact eqId (by kernel_rfl)) only [go_sem, ↓reduceIte, Nat.reduceAdd, Nat.reduceMul, Nat.reduceLT, Nat.reduceBEq, Nat.reduceLeDiff, Nat.reduceEqDiff, Int.reduceToNat])))
    all_goals (try omega)
    all_goals (try (simp only [List.length_append, List.length_cons, List.length_nil, List.length_take]; omega))
    · rename_i hk
      refine back_intro (d + 1) ?_ ?_ (sub_shp hN [(10016, some 10016), (20064, some 20064), (20032, some 20032), (90000, some 60080)] ?_)
      · omega
      · omega
      · simp (disch := exact eqId (by kernel_rfl)) only [go_sem, ↓reduceIte, Nat.reduceAdd, Nat.reduceMul, Nat.reduceLT, Nat.reduceBEq, Nat.reduceLeDiff, Nat.reduceEqDiff, Int.reduceToNat]
        refine ⟨?_, wrap_succ' (by omega)⟩
        exact take_snoc (show d < List.length s.2.1 by omega) _
    · rename_i hk
      rw [List.take_of_length_le (by omega)]
    all_goals trace_state
theorem impl_AddPiece_ok (s : tStrand.den) (p : tPiece.den) (hs : Small tStrand 1048576 s) (hp : p.2.1.length ≤ 1048576) : FunOK Try.prog 26 [⟨tStrand, s⟩, ⟨tPiece, p⟩] (.tup [.agg [.own 52 tPiece (apF s p).1.1, .own 66 tRenewal (apF s p).1.2.1], .rd .bool (apF s p).2]) := by
  have h1 := (sm_pc hs).1
  have h2 := (sm_ch hs).1
  refine fun_of (tb := tb) follows Try.func26 (by kernel_rfl) Try.ntmps26 rfl rfl rfl ?_; intro cx hN hw
  simp (disch := exact eqId (by kernel_rfl)) only [go_sem, ↓reduceIte, Nat.reduceAdd, Nat.reduceMul, Nat.reduceLT, Nat.reduceBEq, Nat.reduceLeDiff, Nat.reduceEqDiff, Int.reduceToNat]
  repeat' (first | (refine And.intro ?_ ?_) | intro _ | (refine callQ_intro (copyStrand_ok _ hs) ?_; try (simp (disch := exact eqId (by kernel_rfl)) only [go_sem, ↓reduceIte, Nat.reduceAdd, Nat.reduceMul, Nat.reduceLT, Nat.reduceBEq, Nat.reduceLeDiff, Nat.reduceEqDiff, Int.reduceToNat])) | (refine callH_intro (fun hcc => copyStrand_ok _ hs) ?_; try (simp (disch := exact eqId (by kernel_rfl)) only [go_sem, ↓reduceIte, Nat.reduceAdd, Nat.reduceMul, Nat.reduceLT, Nat.reduceBEq, Nat.reduceLeDiff, Nat.reduceEqDiff, Int.reduceToNat])) | (refine callQ_intro (copyPiece_ok _ hp) ?_; try (simp (disch := exact eqId (by kernel_rfl)) only [go_sem, ↓reduceIte, Nat.reduceAdd, Nat.reduceMul, Nat.reduceLT, Nat.reduceBEq, Nat.reduceLeDiff, Nat.reduceEqDiff, Int.reduceToNat])) | (refine callH_intro (fun hcc => copyPiece_ok _ hp) ?_; try (simp (disch := exact eqId (by kernel_rfl)) only [go_sem, ↓reduceIte, Nat.reduceAdd, Nat.reduceMul, Nat.reduceLT, Nat.reduceBEq, Nat.reduceLeDiff, Nat.reduceEqDiff, Int.reduceToNat])) | (refine callQ_intro (impl_IsStrand_ok _) ?_; try (simp (disch := exact eqId (by kernel_rfl)) only [go_sem, ↓reduceIte, Nat.reduceAdd, Nat.reduceMul, Nat.reduceLT, Nat.reduceBEq, Nat.reduceLeDiff, Nat.reduceEqDiff, Int.reduceToNat])) | (refine callH_intro (fun hcc => impl_IsStrand_ok _) ?_; try (simp (disch := exact eqId (by kernel_rfl)) only [go_sem, ↓reduceIte, Nat.reduceAdd, Nat.reduceMul, Nat.reduceLT, Nat.reduceBEq, Nat.reduceLeDiff, Nat.reduceEqDiff, Int.reduceToNat])))
  all_goals (try omega)
  all_goals (try (simp only [List.length_append, List.length_cons, List.length_nil]; omega))
  all_goals (rename_i hc; first | exact (congrArg (fun x => x.1.1) (apF_y hc)).symm | exact (congrArg (fun x => x.1.2.1) (apF_y hc)).symm | exact (congrArg (fun x => x.2) (apF_y hc)).symm | exact (congrArg (fun x => x.1.1) (apF_n hc)).symm | exact (congrArg (fun x => x.1.2.1) (apF_n hc)).symm | exact (congrArg (fun x => x.2) (apF_n hc)).symm | trace_state)
theorem impl_AddRenewal_ok (s : tStrand.den) (r : tRenewal.den) (hs : Small tStrand 1048576 s) (hr1 : r.2.2.2.1.length ≤ 1048576) (hr2 : r.2.2.2.2.1.length ≤ 1048576) : FunOK Try.prog 33 [⟨tStrand, s⟩, ⟨tRenewal, r⟩] (.tup [.agg [.own 52 tPiece (arF s r).1.1, .own 66 tRenewal (arF s r).1.2.1], .rd .bool (arF s r).2]) := by
  have h1 := (sm_pc hs).1
  have h2 := (sm_ch hs).1
  refine fun_of (tb := tb) follows Try.func33 (by kernel_rfl) Try.ntmps33 rfl rfl rfl ?_; intro cx hN hw
  simp (disch := exact eqId (by kernel_rfl)) only [go_sem, ↓reduceIte, Nat.reduceAdd, Nat.reduceMul, Nat.reduceLT, Nat.reduceBEq, Nat.reduceLeDiff, Nat.reduceEqDiff, Int.reduceToNat]
  repeat' (first | (refine And.intro ?_ ?_) | intro _ | (refine callQ_intro (copyStrand_ok _ hs) ?_; try (simp (disch := exact eqId (by kernel_rfl)) only [go_sem, ↓reduceIte, Nat.reduceAdd, Nat.reduceMul, Nat.reduceLT, Nat.reduceBEq, Nat.reduceLeDiff, Nat.reduceEqDiff, Int.reduceToNat])) | (refine callH_intro (fun hcc => copyStrand_ok _ hs) ?_; try (simp (disch := exact eqId (by kernel_rfl)) only [go_sem, ↓reduceIte, Nat.reduceAdd, Nat.reduceMul, Nat.reduceLT, Nat.reduceBEq, Nat.reduceLeDiff, Nat.reduceEqDiff, Int.reduceToNat])) | (refine callQ_intro (copyRenewal_ok _ hr1 hr2) ?_; try (simp (disch := exact eqId (by kernel_rfl)) only [go_sem, ↓reduceIte, Nat.reduceAdd, Nat.reduceMul, Nat.reduceLT, Nat.reduceBEq, Nat.reduceLeDiff, Nat.reduceEqDiff, Int.reduceToNat])) | (refine callH_intro (fun hcc => copyRenewal_ok _ hr1 hr2) ?_; try (simp (disch := exact eqId (by kernel_rfl)) only [go_sem, ↓reduceIte, Nat.reduceAdd, Nat.reduceMul, Nat.reduceLT, Nat.reduceBEq, Nat.reduceLeDiff, Nat.reduceEqDiff, Int.reduceToNat])) | (refine callQ_intro (impl_IsStrand_ok _) ?_; try (simp (disch := exact eqId (by kernel_rfl)) only [go_sem, ↓reduceIte, Nat.reduceAdd, Nat.reduceMul, Nat.reduceLT, Nat.reduceBEq, Nat.reduceLeDiff, Nat.reduceEqDiff, Int.reduceToNat])) | (refine callH_intro (fun hcc => impl_IsStrand_ok _) ?_; try (simp (disch := exact eqId (by kernel_rfl)) only [go_sem, ↓reduceIte, Nat.reduceAdd, Nat.reduceMul, Nat.reduceLT, Nat.reduceBEq, Nat.reduceLeDiff, Nat.reduceEqDiff, Int.reduceToNat])))
  all_goals (try omega)
  all_goals (try (simp only [List.length_append, List.length_cons, List.length_nil]; omega))
  all_goals (rename_i hc; first | exact (congrArg (fun x => x.1.1) (arF_y hc)).symm | exact (congrArg (fun x => x.1.2.1) (arF_y hc)).symm | exact (congrArg (fun x => x.2) (arF_y hc)).symm | exact (congrArg (fun x => x.1.1) (arF_n hc)).symm | exact (congrArg (fun x => x.1.2.1) (arF_n hc)).symm | exact (congrArg (fun x => x.2) (arF_n hc)).symm | trace_state)
end Go.Proofs.Ytfkdkblbhilghaa
/- What the laws' own helpers answer: marks of pieces. It proves nothing of a statement by itself. -/
set_option linter.unusedSimpArgs false
set_option linter.unusedVariables false
set_option maxRecDepth 100000
namespace Go.Proofs.Ytfkdkblbhilghaa
open Go.AL
theorem markPiece_ok (a c : Int) (l : List Int) (n : Int) (h0 : 0 ≤ n) (h1 : n ≤ 1152921504606846976) (hs : l.length ≤ 1073741824) : MutOK Try.prog 28 [some 3, none] [.rd ⟨I, a⟩, .obj (.arr 3 I l), .rd ⟨I, c⟩, .rd ⟨I, n⟩] (.rd I (n + l.length * 1 : Int)) [.arr 3 I (markL I n l.length)] := by
  refine fun_ofM (tb := tb) follows Try.func28 (by kernel_rfl) Try.ntmps28 rfl rfl (by simp [shOK]) rfl ?_; intro cx hN hw
  simp (disch := exact eqId (by kernel_rfl)) only [go_sem, ↓reduceIte, Nat.reduceAdd, Nat.reduceMul, Nat.reduceLT, Nat.reduceBEq, Nat.reduceLeDiff, Nat.reduceEqDiff, Int.reduceToNat]
  refine callM_intro (markIntS_ok l n h0 h1 hs) ⟨⟨trivial, by decide⟩, rfl, rfl⟩ ?_
  simp (disch := exact eqId (by kernel_rfl)) only [go_sem, ↓reduceIte, Nat.reduceAdd, Nat.reduceMul, Nat.reduceLT, Nat.reduceBEq, Nat.reduceLeDiff, Nat.reduceEqDiff, Int.reduceToNat]
end Go.Proofs.Ytfkdkblbhilghaa
/- Plain facts about marks of nested lists. It proves nothing of a statement by itself. -/
set_option linter.unusedSimpArgs false
set_option linter.unusedVariables false
namespace Go.AL

def mrkL {α : Type} (f : α → Int → α × Int) : List α → Int → List α × Int
  | [], k => ([], k)
  | x :: xs, k => ((f x k).1 :: (mrkL f xs (f x k).2).1, (mrkL f xs (f x k).2).2)
/-- A value marked from k on; the next mark. -/
def mrk : (t : Ty) → t.den → Int → t.den × Int
  | .int q, _, k => (q.wrap k, k + 1)
  | .bool, _, k => (decide (k.tmod 3 = 0), k + 1)
  | .str, x, k => (x, k + 1)
  | .list t, xs, k => mrkL (mrk t) xs k
  | .nil, x, k => (x, k)
  | .cons h t, x, k => (((mrk h x.1 k).1, (mrk t x.2 (mrk h x.1 k).2).1), (mrk t x.2 (mrk h x.1 k).2).2)
/-- How many marks. -/
def cnv : (t : Ty) → t.den → Nat
  | .list t, xs => (xs.map (cnv t)).sum
  | .nil, _ => 0
  | .cons h t, x => cnv h x.1 + cnv t x.2
  | .int _, _ => 1
  | .bool, _ => 1
  | .str, _ => 1
/-- How many elements all lists within have. -/
def tot : (t : Ty) → t.den → Nat
  | .list t, xs => xs.length + (xs.map (tot t)).sum
  | .cons h t, x => tot h x.1 + tot t x.2
  | _, _ => 0
def flc : Ty → Nat
  | .list _ => 0
  | .cons h t => flc h + flc t
  | .nil => 0
  | _ => 1
def okc (C : Nat) : Ty → Bool
  | .list t => Nat.ble (flc t) C && okc C t
  | .cons h t => okc C h && okc C t
  | _ => true

theorem mrk_c (h t : Ty) (x : (Ty.cons h t).den) (k : Int) : mrk (.cons h t) x k = (((mrk h x.1 k).1, (mrk t x.2 (mrk h x.1 k).2).1), (mrk t x.2 (mrk h x.1 k).2).2) := (rfl)
theorem mrk_i (q : IntKind) (x : (Ty.int q).den) (k : Int) : mrk (.int q) x k = (q.wrap k, k + 1) := (rfl)
theorem mrk_b (x : Ty.bool.den) (k : Int) : mrk .bool x k = (decide (k.tmod 3 = 0), k + 1) := (rfl)
theorem mrk_n (x : Ty.nil.den) (k : Int) : mrk .nil x k = (x, k) := (rfl)
theorem mrk_l (t : Ty) (xs : List t.den) (k : Int) : mrk (.list t) xs k = mrkL (mrk t) xs k := (rfl)
theorem cnv_c (h t : Ty) (x : (Ty.cons h t).den) : cnv (.cons h t) x = cnv h x.1 + cnv t x.2 := (rfl)
theorem cnv_i (q : IntKind) (x : (Ty.int q).den) : cnv (.int q) x = 1 := (rfl)
theorem cnv_n (x : Ty.nil.den) : cnv .nil x = 0 := (rfl)

theorem cnv_le (C : Nat) : ∀ (t : Ty) (x : t.den), okc C t = true → cnv t x ≤ flc t + C * tot t x := by
  intro t
  induction t with
  | list t ih =>
    intro xs h
    simp only [okc, Bool.and_eq_true] at h
    have hf := Nat.le_of_ble_eq_true h.1
    have key : ∀ l : List t.den, (l.map (cnv t)).sum ≤ C * (l.length + (l.map (tot t)).sum) := by
      intro l
      induction l with
      | nil => simp
      | cons x l ihl =>
        have h1 := ih x h.2
        simp only [List.map_cons, List.sum_cons, List.length_cons, Nat.mul_add] at ihl ⊢
        omega
    have := key xs
    simp only [cnv, tot, flc]
    omega
  | cons a b iha ihb =>
    intro x h
    simp only [okc, Bool.and_eq_true] at h
    have h1 := iha x.1 h.1
    have h2 := ihb x.2 h.2
    simp only [cnv, tot, flc, Nat.mul_add]
    omega
  | _ => intro x _; simp [cnv, tot, flc]

theorem mrk_snd : ∀ (t : Ty) (x : t.den) (k : Int), (mrk t x k).2 = k + cnv t x := by
  intro t
  induction t with
  | list t ih =>
    intro xs
    have key : ∀ (l : List t.den) (k : Int), (mrkL (mrk t) l k).2 = k + ((l.map (cnv t)).sum : Nat) := by
      intro l
      induction l with
      | nil => intro k; simp [mrkL]
      | cons x l ihl =>
        intro k
        simp only [mrkL, List.map_cons, List.sum_cons]
        rw [ihl, ih]
        omega
    exact key xs
  | cons a b iha ihb =>
    intro x k
    simp only [mrk, cnv]
    rw [ihb, iha]
    omega
  | nil => intro x k; simp [mrk, cnv]
  | _ => intro x k; simp [mrk, cnv]

theorem mrk_plain : ∀ (t : Ty), t.plain = true → ∀ (x : t.den) (k : Int), mrk t x k = (markF t k, k + cntF t)
  | .int q, _, x, k => by simp [mrk, markF, cntF]
  | .bool, _, x, k => by simp [mrk, markF, cntF]
  | .nil, _, x, k => by cases x; simp [mrk, markF, cntF]
  | .str, h, _, _ => by cases h
  | .list _, h, _, _ => by cases h
  | .cons a b, h, x, k => by
    simp only [Ty.plain, Bool.and_eq_true] at h
    simp only [mrk, markF, cntF, mrk_plain a h.1, mrk_plain b h.2]
    refine Prod.ext rfl ?_
    simp only
    omega
theorem mrk_list (t : Ty) (h : t.plain = true) : ∀ (l : List t.den) (k : Int), mrk (.list t) l k = (markL t k l.length, k + l.length * cntF t)
  | [], k => by simp [mrk, mrkL, markL]
  | x :: l, k => by
    have ih := mrk_list t h l (k + cntF t)
    simp only [mrk, mrkL, mrk_plain t h, List.length_cons, markL] at ih ⊢
    rw [ih]
    refine Prod.ext rfl ?_
    simp only [Int.natCast_add, Int.add_mul]
    omega

theorem mrkL_len {α : Type} (f : α → Int → α × Int) : ∀ (l : List α) (k : Int), (mrkL f l k).1.length = l.length
  | [], _ => rfl
  | x :: l, k => by simp only [mrkL, List.length_cons, mrkL_len f l]
theorem mrkL_app {α : Type} (f : α → Int → α × Int) : ∀ (l : List α) (x : α) (k : Int), mrkL f (l ++ [x]) k = ((mrkL f l k).1 ++ [(f x (mrkL f l k).2).1], (f x (mrkL f l k).2).2)
  | [], x, k => rfl
  | y :: l, x, k => by simp only [List.cons_append, mrkL, mrkL_app f l x]
theorem mrkL_take {α : Type} (f : α → Int → α × Int) {l : List α} {d : Nat} (h : d < l.length) (z : α) (k : Int) :
    mrkL f (l.take (d + 1)) k = ((mrkL f (l.take d) k).1 ++ [(f (l.getD d z) (mrkL f (l.take d) k).2).1], (f (l.getD d z) (mrkL f (l.take d) k).2).2) := by
  rw [take_getD h z, mrkL_app]
theorem mrkL_set {α : Type} (f : α → Int → α × Int) {l : List α} {d : Nat} (h : d < l.length) (z : α) (k : Int) :
    ((mrkL f (l.take d) k).1 ++ l.drop d).set d (f (l.getD d z) (mrkL f (l.take d) k).2).1 = (mrkL f (l.take (d + 1)) k).1 ++ l.drop (d + 1) := by
  have ht : (mrkL f (l.take d) k).1.length = d := by rw [mrkL_len, List.length_take]; omega
  rw [List.set_append_right _ _ (by omega), ht, Nat.sub_self, drop_getD h z, List.set_cons_zero, mrkL_take f h z, List.append_assoc]
  rfl
theorem mrkL_at {α : Type} (f : α → Int → α × Int) {l : List α} {d : Nat} (h : d < l.length) (z : α) (k : Int) : ((mrkL f (l.take d) k).1 ++ l.drop d).getD d z = l.getD d z := by
  have ht : (mrkL f (l.take d) k).1.length = d := by rw [mrkL_len, List.length_take]; omega
  rw [List.getD_eq_getElem?_getD, List.getElem?_append_right (by omega), ht, Nat.sub_self, List.getElem?_drop, Nat.add_zero, ← List.getD_eq_getElem?_getD]
theorem mrkL_get {α : Type} (f : α → Int → α × Int) (z : α) : ∀ {l : List α} {d : Nat} (k : Int), d < l.length → (mrkL f l k).1.getD d z = (f (l.getD d z) (mrkL f (l.take d) k).2).1
  | [], d, k, h => absurd h (by simp)
  | x :: l, 0, k, _ => rfl
  | x :: l, d + 1, k, h => by
    simp only [mrkL, List.getD_cons_succ, List.take_succ_cons]
    exact mrkL_get f z _ (by simpa using h)
theorem mrkL_ll {α : Type} (f : α → Int → α × Int) {l : List α} {d : Nat} (h : d ≤ l.length) (k : Int) : ((mrkL f (l.take d) k).1 ++ l.drop d).length = l.length := by
  rw [List.length_append, mrkL_len, List.length_take, List.length_drop]; omega
theorem sum_take {α : Type} (f : α → Nat) {l : List α} {d : Nat} (h : d < l.length) (z : α) : ((l.take d).map f).sum + f (l.getD d z) ≤ (l.map f).sum := by
  have e : l = l.take d ++ (l.getD d z :: l.drop (d + 1)) := by rw [← drop_getD h z, List.take_append_drop]
  conv => rhs; rw [e]
  rw [List.map_append, List.sum_append, List.map_cons, List.sum_cons]
  omega
theorem sum_mem {α : Type} (f : α → Nat) {l : List α} {x : α} (h : x ∈ l) : f x ≤ (l.map f).sum := by
  obtain ⟨i, hi, rfl⟩ := List.mem_iff_getElem.1 h
  have := sum_take f hi l[i]
  rw [List.getD_eq_getElem?_getD, List.getElem?_eq_getElem hi] at this
  simp only [Option.getD_some] at this
  omega
theorem len_cnv {t : Ty} (l : List t.den) (h : ∀ x : t.den, 1 ≤ cnv t x) : l.length ≤ cnv (.list t) l := by
  simp only [cnv]
  induction l with
  | nil => simp
  | cons x l ih => have := h x; simp only [List.map_cons, List.sum_cons, List.length_cons]; omega

theorem sz_tot : ∀ (t : Ty) (x : t.den) (l : Int), 0 ≤ l → 0 ≤ szD t x l → (tot t x : Int) ≤ l - szD t x l := by
  intro t
  induction t with
  | list t ih =>
    intro xs l hl h
    simp only [szD] at h ⊢
    by_cases hn : l - (xs.length : Int) < 0
    · rw [if_pos hn] at h; omega
    · rw [if_neg hn] at h ⊢
      have loop : ∀ (ys : List t.den) (m : Int), 0 ≤ m → 0 ≤ szLoop (szD t) ys m → (((ys.map (tot t)).sum : Nat) : Int) ≤ m - szLoop (szD t) ys m := by
        intro ys
        induction ys with
        | nil => intro m hm _; simp [szLoop]
        | cons y ys ihy =>
          intro m hm h
          simp only [szLoop] at h ⊢
          by_cases hq : szD t y m < 0
          · rw [if_pos hq] at h; omega
          · rw [if_neg hq] at h ⊢
            have h1 := ih y m hm (by omega)
            have h2 := ihy (szD t y m) (by omega) h
            simp only [List.map_cons, List.sum_cons]
            omega
      have := loop xs _ (by omega) h
      simp only [tot]
      omega
  | cons a b iha ihb =>
    intro x l hl h
    simp only [szD] at h ⊢
    by_cases hn : szD a x.1 l < 0
    · rw [if_pos hn] at h; omega
    · rw [if_neg hn] at h ⊢
      have h1 := iha x.1 l hl (by omega)
      have h2 := ihb x.2 _ (by omega) h
      simp only [tot]
      omega
  | str =>
    intro s l hl h
    simp only [szD] at h ⊢
    split at h
    · omega
    · rename_i hn; rw [if_neg hn]; simp only [tot]; omega
  | _ => intro x l hl h; simp only [szD, tot]; omega
end Go.AL
/- What the laws' own helpers answer over nested lists. It proves nothing of a statement by itself. -/
set_option linter.unusedSimpArgs false
set_option linter.unusedVariables false
set_option maxRecDepth 100000
namespace Go.Proofs.Ytfkdkblbhilghaa
open Go.AL
theorem toIntS_fr (l : List (I : Ty).den) (hs : Small (.list I) 1073741824 l) : FunOK Try.prog 64 [⟨(.list I), l⟩] (.fresh 3 I l) := (toIntS_ok l hs).fr rfl
theorem toStringS_fr (l : List (.str : Ty).den) (hs : Small (.list .str) 1073741824 l) : FunOK Try.prog 63 [⟨(.list .str), l⟩] (.fresh 9 .str l) := (toStringS_ok l hs).fr rfl
theorem toBoolS_fr (l : List (.bool : Ty).den) (hs : Small (.list .bool) 1073741824 l) : FunOK Try.prog 101 [⟨(.list .bool), l⟩] (.fresh 4 .bool l) := (toBoolS_ok l hs).fr rfl
theorem toStepS_fr (l : List (tStep : Ty).den) (hs : Small (.list tStep) 1073741824 l) : FunOK Try.prog 83 [⟨(.list tStep), l⟩] (.fresh 151 tStep l) := (toStepS_ok l hs).fr rfl
theorem toStampS_fr (l : List (tStamp : Ty).den) (hs : Small (.list tStamp) 1073741824 l) : FunOK Try.prog 84 [⟨(.list tStamp), l⟩] (.fresh 155 tStamp l) := (toStampS_ok l hs).fr rfl
theorem toPiece_fr (a : tPiece.den) (hs : Small tPiece 1073741824 a) : FunOK Try.prog 25 [⟨tPiece, a⟩] (.agg [.rd I a.1, .fresh 3 I a.2.1, .rd I a.2.2.1]) := (toPiece_ok a hs).fr rfl
theorem toRenewal_fr (a : tRenewal.den) (hs : Small tRenewal 1073741824 a) : FunOK Try.prog 32 [⟨tRenewal, a⟩] (.agg [.rd I a.1, .rd I a.2.1, .rd I a.2.2.1, .fresh 151 tStep a.2.2.2.1, .fresh 155 tStamp a.2.2.2.2.1]) := (toRenewal_ok a hs).fr rfl
theorem toDocument_fr (a : tDocument.den) (hs : Small tDocument 1073741824 a) : FunOK Try.prog 14 [⟨tDocument, a⟩] (.agg [.rd I a.1, .fresh 9 .str a.2.1, .fresh 3 I a.2.2.1]) := (toDocument_ok a hs).fr rfl
theorem toPieceS_d (l : List (tPiece : Ty).den) (hs : Small (.list tPiece) 1073741824 l) : FunOK Try.prog 61 [⟨(.list tPiece), l⟩] (.deep TE tPiece l) := by
  have hs1 : l.length ≤ 1073741824 := hs.1
  refine fun_ofN (tb := tbd) follows Try.func61 (by kernel_rfl) Try.ntmps61 rfl rfl rfl ?_; intro cx hN hw
  simp (disch := exact eqId (by kernel_rfl)) only [go_sem, ↓reduceIte, Nat.reduceAdd, Nat.reduceMul, Nat.reduceLT, Nat.reduceBEq, Nat.reduceLeDiff, Nat.reduceEqDiff, Int.reduceToNat]
  repeat' (first | (refine And.intro ?_ ?_) | intro _)
  all_goals (try omega)
  refine loop_intro (tb := tbd) follows hN (D := Nat) (fun d => shp [(0, .rd (.list tPiece) (l)), (3, .own 1), (4, .rd I (d : Int))] [(1, .bld TE tPiece (l.take d ++ List.replicate (l.length - d) (tPiece : Ty).dflt))]) (fun d => d ≤ l.length) (fun d => l.length - d) (0) ?_ (sub_shp hN [(1, some 20032)] ?_) (fun d hd => ?_)
  · exact Nat.zero_le _
  · simp (disch := exact eqId (by kernel_rfl)) only [go_sem, ↓reduceIte, Nat.reduceAdd, Nat.reduceMul, Nat.reduceLT, Nat.reduceBEq, Nat.reduceLeDiff, Nat.reduceEqDiff, Int.reduceToNat]
    exact ⟨rfl, rfl⟩
  · simp (disch := exact eqId (by kernel_rfl)) only [go_sem, ↓reduceIte, Nat.reduceAdd, Nat.reduceMul, Nat.reduceLT, Nat.reduceBEq, Nat.reduceLeDiff, Nat.reduceEqDiff, Int.reduceToNat]
    repeat' (first | (refine And.intro ?_ ?_) | intro _ | (refine callQ_intro (toPiece_fr _ (hs.2 _ (getD_mem (by omega) _))) ?_; try (simp (disch := exact eqId (by kernel_rfl)) only [go_sem, ↓reduceIte, Nat.reduceAdd, Nat.reduceMul, Nat.reduceLT, Nat.reduceBEq, Nat.reduceLeDiff, Nat.reduceEqDiff, Int.reduceToNat])) | (refine callH_intro (fun hcc => toPiece_fr _ (hs.2 _ (getD_mem (by omega) _))) ?_; try (simp (disch := exact eqId (by kernel_rfl)) only [go_sem, ↓reduceIte, Nat.reduceAdd, Nat.reduceMul, Nat.reduceLT, Nat.reduceBEq, Nat.reduceLeDiff, Nat.reduceEqDiff, Int.reduceToNat])))
    all_goals (try simp only [List.length_append, List.length_take, List.length_replicate])
    all_goals (try omega)
    · have hk : d < l.length := by omega
      refine back_intro (d + 1) ?_ ?_ (sub_shp hN [(1, some 1)] ?_)
      · exact hk
      · omega
      · simp (disch := exact eqId (by kernel_rfl)) only [go_sem, ↓reduceIte, Nat.reduceAdd, Nat.reduceMul, Nat.reduceLT, Nat.reduceBEq, Nat.reduceLeDiff, Nat.reduceEqDiff, Int.reduceToNat]
        exact ⟨set_take_rep hk rfl _ _, wrap_succ' (by omega)⟩
    · have hk : d = l.length := by omega
      simp [hk]
theorem toRenewalS_d (l : List (tRenewal : Ty).den) (hs : Small (.list tRenewal) 1073741824 l) : FunOK Try.prog 62 [⟨(.list tRenewal), l⟩] (.deep TE tRenewal l) := by
  have hs1 : l.length ≤ 1073741824 := hs.1
  refine fun_ofN (tb := tbd) follows Try.func62 (by kernel_rfl) Try.ntmps62 rfl rfl rfl ?_; intro cx hN hw
  simp (disch := exact eqId (by kernel_rfl)) only [go_sem, ↓reduceIte, Nat.reduceAdd, Nat.reduceMul, Nat.reduceLT, Nat.reduceBEq, Nat.reduceLeDiff, Nat.reduceEqDiff, Int.reduceToNat]
  repeat' (first | (refine And.intro ?_ ?_) | intro _)
  all_goals (try omega)
  refine loop_intro (tb := tbd) follows hN (D := Nat) (fun d => shp [(0, .rd (.list tRenewal) (l)), (3, .own 1), (4, .rd I (d : Int))] [(1, .bld TE tRenewal (l.take d ++ List.replicate (l.length - d) (tRenewal : Ty).dflt))]) (fun d => d ≤ l.length) (fun d => l.length - d) (0) ?_ (sub_shp hN [(1, some 20032)] ?_) (fun d hd => ?_)
  · exact Nat.zero_le _
  · simp (disch := exact eqId (by kernel_rfl)) only [go_sem, ↓reduceIte, Nat.reduceAdd, Nat.reduceMul, Nat.reduceLT, Nat.reduceBEq, Nat.reduceLeDiff, Nat.reduceEqDiff, Int.reduceToNat]
    exact ⟨rfl, rfl⟩
  · simp (disch := exact eqId (by kernel_rfl)) only [go_sem, ↓reduceIte, Nat.reduceAdd, Nat.reduceMul, Nat.reduceLT, Nat.reduceBEq, Nat.reduceLeDiff, Nat.reduceEqDiff, Int.reduceToNat]
    repeat' (first | (refine And.intro ?_ ?_) | intro _ | (refine callQ_intro (toRenewal_fr _ (hs.2 _ (getD_mem (by omega) _))) ?_; try (simp (disch := exact eqId (by kernel_rfl)) only [go_sem, ↓reduceIte, Nat.reduceAdd, Nat.reduceMul, Nat.reduceLT, Nat.reduceBEq, Nat.reduceLeDiff, Nat.reduceEqDiff, Int.reduceToNat])) | (refine callH_intro (fun hcc => toRenewal_fr _ (hs.2 _ (getD_mem (by omega) _))) ?_; try (simp (disch := exact eqId (by kernel_rfl)) only [go_sem, ↓reduceIte, Nat.reduceAdd, Nat.reduceMul, Nat.reduceLT, Nat.reduceBEq, Nat.reduceLeDiff, Nat.reduceEqDiff, Int.reduceToNat])))
    all_goals (try simp only [List.length_append, List.length_take, List.length_replicate])
    all_goals (try omega)
    · have hk : d < l.length := by omega
      refine back_intro (d + 1) ?_ ?_ (sub_shp hN [(1, some 1)] ?_)
      · exact hk
      · omega
      · simp (disch := exact eqId (by kernel_rfl)) only [go_sem, ↓reduceIte, Nat.reduceAdd, Nat.reduceMul, Nat.reduceLT, Nat.reduceBEq, Nat.reduceLeDiff, Nat.reduceEqDiff, Int.reduceToNat]
        exact ⟨set_take_rep hk rfl _ _, wrap_succ' (by omega)⟩
    · have hk : d = l.length := by omega
      simp [hk]
theorem toStrand_d (a : tStrand.den) (hs : Small tStrand 1073741824 a) : FunOK Try.prog 13 [⟨tStrand, a⟩] (.agg [.deep TE tPiece a.1, .deep TE tRenewal a.2.1]) := by
  refine fun_ofN (tb := tbd) follows Try.func13 (by kernel_rfl) Try.ntmps13 rfl rfl rfl ?_; intro cx hN hw
  simp (disch := exact eqId (by kernel_rfl)) only [go_sem, ↓reduceIte, Nat.reduceAdd, Nat.reduceMul, Nat.reduceLT, Nat.reduceBEq, Nat.reduceLeDiff, Nat.reduceEqDiff, Int.reduceToNat]
  repeat' (first | (refine And.intro ?_ ?_) | intro _ | (refine callQ_intro (toPieceS_d _ hs.1) ?_; try (simp (disch := exact eqId (by kernel_rfl)) only [go_sem, ↓reduceIte, Nat.reduceAdd, Nat.reduceMul, Nat.reduceLT, Nat.reduceBEq, Nat.reduceLeDiff, Nat.reduceEqDiff, Int.reduceToNat])) | (refine callH_intro (fun hcc => toPieceS_d _ hs.1) ?_; try (simp (disch := exact eqId (by kernel_rfl)) only [go_sem, ↓reduceIte, Nat.reduceAdd, Nat.reduceMul, Nat.reduceLT, Nat.reduceBEq, Nat.reduceLeDiff, Nat.reduceEqDiff, Int.reduceToNat])) | (refine callQ_intro (toRenewalS_d _ hs.2.1) ?_; try (simp (disch := exact eqId (by kernel_rfl)) only [go_sem, ↓reduceIte, Nat.reduceAdd, Nat.reduceMul, Nat.reduceLT, Nat.reduceBEq, Nat.reduceLeDiff, Nat.reduceEqDiff, Int.reduceToNat])) | (refine callH_intro (fun hcc => toRenewalS_d _ hs.2.1) ?_; try (simp (disch := exact eqId (by kernel_rfl)) only [go_sem, ↓reduceIte, Nat.reduceAdd, Nat.reduceMul, Nat.reduceLT, Nat.reduceBEq, Nat.reduceLeDiff, Nat.reduceEqDiff, Int.reduceToNat])))
  all_goals (try rfl)
theorem toStrandS_d (l : List (tStrand : Ty).den) (hs : Small (.list tStrand) 1073741824 l) : FunOK Try.prog 92 [⟨(.list tStrand), l⟩] (.deep TE tStrand l) := by
  have hs1 : l.length ≤ 1073741824 := hs.1
  refine fun_ofN (tb := tbd) follows Try.func92 (by kernel_rfl) Try.ntmps92 rfl rfl rfl ?_; intro cx hN hw
  simp (disch := exact eqId (by kernel_rfl)) only [go_sem, ↓reduceIte, Nat.reduceAdd, Nat.reduceMul, Nat.reduceLT, Nat.reduceBEq, Nat.reduceLeDiff, Nat.reduceEqDiff, Int.reduceToNat]
  repeat' (first | (refine And.intro ?_ ?_) | intro _)
  all_goals (try omega)
  refine loop_intro (tb := tbd) follows hN (D := Nat) (fun d => shp [(0, .rd (.list tStrand) (l)), (3, .own 1), (4, .rd I (d : Int))] [(1, .bld TE tStrand (l.take d ++ List.replicate (l.length - d) (tStrand : Ty).dflt))]) (fun d => d ≤ l.length) (fun d => l.length - d) (0) ?_ (sub_shp hN [(1, some 20032)] ?_) (fun d hd => ?_)
  · exact Nat.zero_le _
  · simp (disch := exact eqId (by kernel_rfl)) only [go_sem, ↓reduceIte, Nat.reduceAdd, Nat.reduceMul, Nat.reduceLT, Nat.reduceBEq, Nat.reduceLeDiff, Nat.reduceEqDiff, Int.reduceToNat]
    exact ⟨rfl, rfl⟩
  · simp (disch := exact eqId (by kernel_rfl)) only [go_sem, ↓reduceIte, Nat.reduceAdd, Nat.reduceMul, Nat.reduceLT, Nat.reduceBEq, Nat.reduceLeDiff, Nat.reduceEqDiff, Int.reduceToNat]
    repeat' (first | (refine And.intro ?_ ?_) | intro _ | (refine callQ_intro (toStrand_d _ (hs.2 _ (getD_mem (by omega) _))) ?_; try (simp (disch := exact eqId (by kernel_rfl)) only [go_sem, ↓reduceIte, Nat.reduceAdd, Nat.reduceMul, Nat.reduceLT, Nat.reduceBEq, Nat.reduceLeDiff, Nat.reduceEqDiff, Int.reduceToNat])) | (refine callH_intro (fun hcc => toStrand_d _ (hs.2 _ (getD_mem (by omega) _))) ?_; try (simp (disch := exact eqId (by kernel_rfl)) only [go_sem, ↓reduceIte, Nat.reduceAdd, Nat.reduceMul, Nat.reduceLT, Nat.reduceBEq, Nat.reduceLeDiff, Nat.reduceEqDiff, Int.reduceToNat])))
    all_goals (try simp only [List.length_append, List.length_take, List.length_replicate])
    all_goals (try omega)
    · have hk : d < l.length := by omega
      refine back_intro (d + 1) ?_ ?_ (sub_shp hN [(1, some 1)] ?_)
      · exact hk
      · omega
      · simp (disch := exact eqId (by kernel_rfl)) only [go_sem, ↓reduceIte, Nat.reduceAdd, Nat.reduceMul, Nat.reduceLT, Nat.reduceBEq, Nat.reduceLeDiff, Nat.reduceEqDiff, Int.reduceToNat]
        exact ⟨set_take_rep hk rfl _ _, wrap_succ' (by omega)⟩
    · have hk : d = l.length := by omega
      simp [hk]
theorem toStampSS_d (l : List ((.list tStamp) : Ty).den) (hs : Small (.list (.list tStamp)) 1073741824 l) : FunOK Try.prog 93 [⟨(.list (.list tStamp)), l⟩] (.deep TE (.list tStamp) l) := by
  have hs1 : l.length ≤ 1073741824 := hs.1
  refine fun_ofN (tb := tbd) follows Try.func93 (by kernel_rfl) Try.ntmps93 rfl rfl rfl ?_; intro cx hN hw
  simp (disch := exact eqId (by kernel_rfl)) only [go_sem, ↓reduceIte, Nat.reduceAdd, Nat.reduceMul, Nat.reduceLT, Nat.reduceBEq, Nat.reduceLeDiff, Nat.reduceEqDiff, Int.reduceToNat]
  repeat' (first | (refine And.intro ?_ ?_) | intro _)
  all_goals (try omega)
  refine loop_intro (tb := tbd) follows hN (D := Nat) (fun d => shp [(0, .rd (.list (.list tStamp)) (l)), (3, .own 1), (4, .rd I (d : Int))] [(1, .bld TE (.list tStamp) (l.take d ++ List.replicate (l.length - d) ((.list tStamp) : Ty).dflt))]) (fun d => d ≤ l.length) (fun d => l.length - d) (0) ?_ (sub_shp hN [(1, some 20032)] ?_) (fun d hd => ?_)
  · exact Nat.zero_le _
  · simp (disch := exact eqId (by kernel_rfl)) only [go_sem, ↓reduceIte, Nat.reduceAdd, Nat.reduceMul, Nat.reduceLT, Nat.reduceBEq, Nat.reduceLeDiff, Nat.reduceEqDiff, Int.reduceToNat]
    exact ⟨rfl, rfl⟩
  · simp (disch := exact eqId (by kernel_rfl)) only [go_sem, ↓reduceIte, Nat.reduceAdd, Nat.reduceMul, Nat.reduceLT, Nat.reduceBEq, Nat.reduceLeDiff, Nat.reduceEqDiff, Int.reduceToNat]
    repeat' (first | (refine And.intro ?_ ?_) | intro _ | (refine callQ_intro (toStampS_fr _ (hs.2 _ (getD_mem (by omega) _))) ?_; try (simp (disch := exact eqId (by kernel_rfl)) only [go_sem, ↓reduceIte, Nat.reduceAdd, Nat.reduceMul, Nat.reduceLT, Nat.reduceBEq, Nat.reduceLeDiff, Nat.reduceEqDiff, Int.reduceToNat])) | (refine callH_intro (fun hcc => toStampS_fr _ (hs.2 _ (getD_mem (by omega) _))) ?_; try (simp (disch := exact eqId (by kernel_rfl)) only [go_sem, ↓reduceIte, Nat.reduceAdd, Nat.reduceMul, Nat.reduceLT, Nat.reduceBEq, Nat.reduceLeDiff, Nat.reduceEqDiff, Int.reduceToNat])))
    all_goals (try simp only [List.length_append, List.length_take, List.length_replicate])
    all_goals (try omega)
    · have hk : d < l.length := by omega
      refine back_intro (d + 1) ?_ ?_ (sub_shp hN [(1, some 1)] ?_)
      · exact hk
      · omega
      · simp (disch := exact eqId (by kernel_rfl)) only [go_sem, ↓reduceIte, Nat.reduceAdd, Nat.reduceMul, Nat.reduceLT, Nat.reduceBEq, Nat.reduceLeDiff, Nat.reduceEqDiff, Int.reduceToNat]
        exact ⟨set_take_rep hk rfl _ _, wrap_succ' (by omega)⟩
    · have hk : d = l.length := by omega
      simp [hk]
theorem toIntSS_d (l : List ((.list I) : Ty).den) (hs : Small (.list (.list I)) 1073741824 l) : FunOK Try.prog 102 [⟨(.list (.list I)), l⟩] (.deep TE (.list I) l) := by
  have hs1 : l.length ≤ 1073741824 := hs.1
  refine fun_ofN (tb := tbd) follows Try.func102 (by kernel_rfl) Try.ntmps102 rfl rfl rfl ?_; intro cx hN hw
  simp (disch := exact eqId (by kernel_rfl)) only [go_sem, ↓reduceIte, Nat.reduceAdd, Nat.reduceMul, Nat.reduceLT, Nat.reduceBEq, Nat.reduceLeDiff, Nat.reduceEqDiff, Int.reduceToNat]
  repeat' (first | (refine And.intro ?_ ?_) | intro _)
  all_goals (try omega)
  refine loop_intro (tb := tbd) follows hN (D := Nat) (fun d => shp [(0, .rd (.list (.list I)) (l)), (3, .own 1), (4, .rd I (d : Int))] [(1, .bld TE (.list I) (l.take d ++ List.replicate (l.length - d) ((.list I) : Ty).dflt))]) (fun d => d ≤ l.length) (fun d => l.length - d) (0) ?_ (sub_shp hN [(1, some 20032)] ?_) (fun d hd => ?_)
  · exact Nat.zero_le _
  · simp (disch := exact eqId (by kernel_rfl)) only [go_sem, ↓reduceIte, Nat.reduceAdd, Nat.reduceMul, Nat.reduceLT, Nat.reduceBEq, Nat.reduceLeDiff, Nat.reduceEqDiff, Int.reduceToNat]
    exact ⟨rfl, rfl⟩
  · simp (disch := exact eqId (by kernel_rfl)) only [go_sem, ↓reduceIte, Nat.reduceAdd, Nat.reduceMul, Nat.reduceLT, Nat.reduceBEq, Nat.reduceLeDiff, Nat.reduceEqDiff, Int.reduceToNat]
    repeat' (first | (refine And.intro ?_ ?_) | intro _ | (refine callQ_intro (toIntS_fr _ (hs.2 _ (getD_mem (by omega) _))) ?_; try (simp (disch := exact eqId (by kernel_rfl)) only [go_sem, ↓reduceIte, Nat.reduceAdd, Nat.reduceMul, Nat.reduceLT, Nat.reduceBEq, Nat.reduceLeDiff, Nat.reduceEqDiff, Int.reduceToNat])) | (refine callH_intro (fun hcc => toIntS_fr _ (hs.2 _ (getD_mem (by omega) _))) ?_; try (simp (disch := exact eqId (by kernel_rfl)) only [go_sem, ↓reduceIte, Nat.reduceAdd, Nat.reduceMul, Nat.reduceLT, Nat.reduceBEq, Nat.reduceLeDiff, Nat.reduceEqDiff, Int.reduceToNat])))
    all_goals (try simp only [List.length_append, List.length_take, List.length_replicate])
    all_goals (try omega)
    · have hk : d < l.length := by omega
      refine back_intro (d + 1) ?_ ?_ (sub_shp hN [(1, some 1)] ?_)
      · exact hk
      · omega
      · simp (disch := exact eqId (by kernel_rfl)) only [go_sem, ↓reduceIte, Nat.reduceAdd, Nat.reduceMul, Nat.reduceLT, Nat.reduceBEq, Nat.reduceLeDiff, Nat.reduceEqDiff, Int.reduceToNat]
        exact ⟨set_take_rep hk rfl _ _, wrap_succ' (by omega)⟩
    · have hk : d = l.length := by omega
      simp [hk]
theorem toEvidence_d (a : tEvidence.den) (hs : Small tEvidence 1073741824 a) : FunOK Try.prog 38 [⟨tEvidence, a⟩] (.agg [.deep TE tStrand a.1, .deep TE (.list tStamp) a.2.1]) := by
  refine fun_ofN (tb := tbd) follows Try.func38 (by kernel_rfl) Try.ntmps38 rfl rfl rfl ?_; intro cx hN hw
  simp (disch := exact eqId (by kernel_rfl)) only [go_sem, ↓reduceIte, Nat.reduceAdd, Nat.reduceMul, Nat.reduceLT, Nat.reduceBEq, Nat.reduceLeDiff, Nat.reduceEqDiff, Int.reduceToNat]
  repeat' (first | (refine And.intro ?_ ?_) | intro _ | (refine callQ_intro (toStrandS_d _ hs.1) ?_; try (simp (disch := exact eqId (by kernel_rfl)) only [go_sem, ↓reduceIte, Nat.reduceAdd, Nat.reduceMul, Nat.reduceLT, Nat.reduceBEq, Nat.reduceLeDiff, Nat.reduceEqDiff, Int.reduceToNat])) | (refine callH_intro (fun hcc => toStrandS_d _ hs.1) ?_; try (simp (disch := exact eqId (by kernel_rfl)) only [go_sem, ↓reduceIte, Nat.reduceAdd, Nat.reduceMul, Nat.reduceLT, Nat.reduceBEq, Nat.reduceLeDiff, Nat.reduceEqDiff, Int.reduceToNat])) | (refine callQ_intro (toStampSS_d _ hs.2.1) ?_; try (simp (disch := exact eqId (by kernel_rfl)) only [go_sem, ↓reduceIte, Nat.reduceAdd, Nat.reduceMul, Nat.reduceLT, Nat.reduceBEq, Nat.reduceLeDiff, Nat.reduceEqDiff, Int.reduceToNat])) | (refine callH_intro (fun hcc => toStampSS_d _ hs.2.1) ?_; try (simp (disch := exact eqId (by kernel_rfl)) only [go_sem, ↓reduceIte, Nat.reduceAdd, Nat.reduceMul, Nat.reduceLT, Nat.reduceBEq, Nat.reduceLeDiff, Nat.reduceEqDiff, Int.reduceToNat])))
  all_goals (try rfl)
theorem toRedacted_d (a : tRedacted.den) (hs : Small tRedacted 1073741824 a) : FunOK Try.prog 47 [⟨tRedacted, a⟩] (.agg [.rd I a.1, .fresh 3 I a.2.1, .fresh 4 .bool a.2.2.1, .fresh 9 .str a.2.2.2.1, .fresh 3 I a.2.2.2.2.1, .deep TE (.list I) a.2.2.2.2.2.1]) := by
  refine fun_ofN (tb := tbd) follows Try.func47 (by kernel_rfl) Try.ntmps47 rfl rfl rfl ?_; intro cx hN hw
  simp (disch := exact eqId (by kernel_rfl)) only [go_sem, ↓reduceIte, Nat.reduceAdd, Nat.reduceMul, Nat.reduceLT, Nat.reduceBEq, Nat.reduceLeDiff, Nat.reduceEqDiff, Int.reduceToNat]
  repeat' (first | (refine And.intro ?_ ?_) | intro _ | (refine callQ_intro (toIntS_fr _ hs.2.1) ?_; try (simp (disch := exact eqId (by kernel_rfl)) only [go_sem, ↓reduceIte, Nat.reduceAdd, Nat.reduceMul, Nat.reduceLT, Nat.reduceBEq, Nat.reduceLeDiff, Nat.reduceEqDiff, Int.reduceToNat])) | (refine callH_intro (fun hcc => toIntS_fr _ hs.2.1) ?_; try (simp (disch := exact eqId (by kernel_rfl)) only [go_sem, ↓reduceIte, Nat.reduceAdd, Nat.reduceMul, Nat.reduceLT, Nat.reduceBEq, Nat.reduceLeDiff, Nat.reduceEqDiff, Int.reduceToNat])) | (refine callQ_intro (toBoolS_fr _ hs.2.2.1) ?_; try (simp (disch := exact eqId (by kernel_rfl)) only [go_sem, ↓reduceIte, Nat.reduceAdd, Nat.reduceMul, Nat.reduceLT, Nat.reduceBEq, Nat.reduceLeDiff, Nat.reduceEqDiff, Int.reduceToNat])) | (refine callH_intro (fun hcc => toBoolS_fr _ hs.2.2.1) ?_; try (simp (disch := exact eqId (by kernel_rfl)) only [go_sem, ↓reduceIte, Nat.reduceAdd, Nat.reduceMul, Nat.reduceLT, Nat.reduceBEq, Nat.reduceLeDiff, Nat.reduceEqDiff, Int.reduceToNat])) | (refine callQ_intro (toStringS_fr _ hs.2.2.2.1) ?_; try (simp (disch := exact eqId (by kernel_rfl)) only [go_sem, ↓reduceIte, Nat.reduceAdd, Nat.reduceMul, Nat.reduceLT, Nat.reduceBEq, Nat.reduceLeDiff, Nat.reduceEqDiff, Int.reduceToNat])) | (refine callH_intro (fun hcc => toStringS_fr _ hs.2.2.2.1) ?_; try (simp (disch := exact eqId (by kernel_rfl)) only [go_sem, ↓reduceIte, Nat.reduceAdd, Nat.reduceMul, Nat.reduceLT, Nat.reduceBEq, Nat.reduceLeDiff, Nat.reduceEqDiff, Int.reduceToNat])) | (refine callQ_intro (toIntS_fr _ hs.2.2.2.2.1) ?_; try (simp (disch := exact eqId (by kernel_rfl)) only [go_sem, ↓reduceIte, Nat.reduceAdd, Nat.reduceMul, Nat.reduceLT, Nat.reduceBEq, Nat.reduceLeDiff, Nat.reduceEqDiff, Int.reduceToNat])) | (refine callH_intro (fun hcc => toIntS_fr _ hs.2.2.2.2.1) ?_; try (simp (disch := exact eqId (by kernel_rfl)) only [go_sem, ↓reduceIte, Nat.reduceAdd, Nat.reduceMul, Nat.reduceLT, Nat.reduceBEq, Nat.reduceLeDiff, Nat.reduceEqDiff, Int.reduceToNat])) | (refine callQ_intro (toIntSS_d _ hs.2.2.2.2.2.1) ?_; try (simp (disch := exact eqId (by kernel_rfl)) only [go_sem, ↓reduceIte, Nat.reduceAdd, Nat.reduceMul, Nat.reduceLT, Nat.reduceBEq, Nat.reduceLeDiff, Nat.reduceEqDiff, Int.reduceToNat])) | (refine callH_intro (fun hcc => toIntSS_d _ hs.2.2.2.2.2.1) ?_; try (simp (disch := exact eqId (by kernel_rfl)) only [go_sem, ↓reduceIte, Nat.reduceAdd, Nat.reduceMul, Nat.reduceLT, Nat.reduceBEq, Nat.reduceLeDiff, Nat.reduceEqDiff, Int.reduceToNat])))
  all_goals (try rfl)
theorem markIntS_m (l : List (I : Ty).den) (n : Int) (h0 : 0 ≤ n) (h1 : n ≤ 1152921504606846976) (hs : l.length ≤ 1073741824) : MutOK Try.prog 21 [none, none] [.obj (.arr 3 I l), .rd ⟨I, n⟩] (.rd I (mrk (.list I) l n).2) [.arr 3 I (mrk (.list I) l n).1] := by
  rw [show mrk (.list I) l n = _ from mrk_list I rfl l n]
  exact markIntS_ok l n h0 h1 hs
theorem markStepS_m (l : List (tStep : Ty).den) (n : Int) (h0 : 0 ≤ n) (h1 : n ≤ 1152921504606846976) (hs : l.length ≤ 1073741824) : MutOK Try.prog 88 [none, none] [.obj (.arr 151 tStep l), .rd ⟨I, n⟩] (.rd I (mrk (.list tStep) l n).2) [.arr 151 tStep (mrk (.list tStep) l n).1] := by
  rw [show mrk (.list tStep) l n = _ from mrk_list tStep rfl l n]
  exact markStepS_ok l n h0 h1 hs
theorem markStampS_m (l : List (tStamp : Ty).den) (n : Int) (h0 : 0 ≤ n) (h1 : n ≤ 1152921504606846976) (hs : l.length ≤ 1073741824) : MutOK Try.prog 89 [none, none] [.obj (.arr 155 tStamp l), .rd ⟨I, n⟩] (.rd I (mrk (.list tStamp) l n).2) [.arr 155 tStamp (mrk (.list tStamp) l n).1] := by
  rw [show mrk (.list tStamp) l n = _ from mrk_list tStamp rfl l n]
  exact markStampS_ok l n h0 h1 hs
theorem markPieceS_d (l : List (tPiece : Ty).den) (n : Int) (h0 : 0 ≤ n) (h1 : n + cnv (.list tPiece) l ≤ 1152921504606846976) (hs : Small (.list tPiece) 1073741824 l) : MutOK Try.prog 69 [none, none] [.obj (.deep TE tPiece l), .rd ⟨I, n⟩] (.rd I (mrk (.list tPiece) l n).2) [.deep TE tPiece (mrk (.list tPiece) l n).1] := by
  have hl : l.length ≤ 1073741824 := hs.1
  have hq : ∀ d : Nat, (mrkL (mrk tPiece) (l.take d) n).2 = n + (((l.take d).map (cnv tPiece)).sum : Nat) := fun d => mrk_snd (.list tPiece) (l.take d) n
  have hc : ∀ d : Nat, d < l.length → n + (((l.take d).map (cnv tPiece)).sum : Nat) + cnv tPiece (l.getD d (tPiece : Ty).dflt) ≤ 1152921504606846976 := fun d hd => by
    have := sum_take (cnv tPiece) hd (tPiece : Ty).dflt
    simp only [cnv] at h1 this ⊢
    omega
  refine fun_ofM (tb := tbd) follows Try.func69 (by kernel_rfl) Try.ntmps69 rfl rfl (by simp [shOK]) rfl ?_; intro cx hN hw
  simp (disch := exact eqId (by kernel_rfl)) only [go_sem, ↓reduceIte, Nat.reduceAdd, Nat.reduceMul, Nat.reduceLT, Nat.reduceBEq, Nat.reduceLeDiff, Nat.reduceEqDiff, Int.reduceToNat]
  refine loop_intro (tb := tbd) follows hN (D := Nat) (fun d => shp [(0, .own 0), (1, .rd I ((mrkL (mrk tPiece) (l.take d) n).2 : Int)), (5, .rd I (d : Int))] [(0, .deep TE tPiece ((mrkL (mrk tPiece) (l.take d) n).1 ++ l.drop d))]) (fun d => d ≤ l.length) (fun d => l.length - d) (0) ?_ (sub_shp hN [(0, some 0)] ?_) (fun d hd => ?_)
  · exact Nat.zero_le _
  · simp (disch := exact eqId (by kernel_rfl)) only [go_sem, ↓reduceIte, Nat.reduceAdd, Nat.reduceMul, Nat.reduceLT, Nat.reduceBEq, Nat.reduceLeDiff, Nat.reduceEqDiff, Int.reduceToNat]
    simp [mrkL]
  · have hll := mrkL_ll (mrk tPiece) hd n
    simp (disch := exact eqId (by kernel_rfl)) only [go_sem, ↓reduceIte, Nat.reduceAdd, Nat.reduceMul, Nat.reduceLT, Nat.reduceBEq, Nat.reduceLeDiff, Nat.reduceEqDiff, Int.reduceToNat]
    rw [hll]
    refine ⟨fun hk => ?_, fun hk => ?_⟩
    · have hk : d < l.length := by omega
      have hat : ((mrkL (mrk tPiece) (l.take d) n).1 ++ l.drop d).getD d ((0, [], 0, ()) : (tPiece : Ty).den) = l.getD d (0, [], 0, ()) := mrkL_at (mrk tPiece) hk _ n
      have hst := mrkL_set (mrk tPiece) hk ((0, [], 0, ()) : (tPiece : Ty).den) n
      have htk := congrArg Prod.snd (mrkL_take (mrk tPiece) hk ((0, [], 0, ()) : (tPiece : Ty).den) n)
      have hK : 0 ≤ (mrkL (mrk tPiece) (l.take d) n).2 := by rw [hq d]; omega
      have c : (mrkL (mrk tPiece) (l.take d) n).2 + cnv tPiece (l.getD d (0, [], 0, ())) ≤ 1152921504606846976 := by rw [hq d]; exact hc d hk
      have hm : Small tPiece 1073741824 (l.getD d (0, [], 0, ())) := hs.2 _ (getD_mem hk _)
      generalize (mrkL (mrk tPiece) (l.take d) n).1 ++ l.drop d = A at *
      generalize (mrkL (mrk tPiece) (l.take d) n).2 = K at *
      generalize l.getD d (0, [], 0, ()) = y at *
      have hin : d < A.length := by omega
      simp only [List.length_set, hll, set_getD hin, hat, List.set_set]
      try simp only [cnv_c, cnv_i, cnv_n] at c
      have := mrk_snd (.list I) y.2.1 (K + 1)
      try simp only [List.length_set, hll, List.set_set, set_getD hin, hat]
      try simp (disch := omega) only [wrap_i64]
      repeat' (refine And.intro ?_ ?_)
      all_goals (try omega)
      all_goals (try exact hk)
      refine callN_intro (markIntS_m _ _ (by omega) (by omega) hm.2.1.1) rfl rfl ?_
      simp (disch := exact eqId (by kernel_rfl)) only [go_sem, ↓reduceIte, Nat.reduceAdd, Nat.reduceMul, Nat.reduceLT, Nat.reduceBEq, Nat.reduceLeDiff, Nat.reduceEqDiff, Int.reduceToNat]
      try simp only [List.length_set, hll, List.set_set, set_getD hin, hat]
      try simp (disch := omega) only [wrap_i64]
      repeat' (refine And.intro ?_ ?_)
      all_goals (try omega)
      all_goals (try exact hk)
      refine back_intro (d + 1) ?_ ?_ (sub_shp hN [(0, some 0)] ?_)
      · exact hk
      · omega
      · simp (disch := exact eqId (by kernel_rfl)) only [go_sem, ↓reduceIte, Nat.reduceAdd, Nat.reduceMul, Nat.reduceLT, Nat.reduceBEq, Nat.reduceLeDiff, Nat.reduceEqDiff, Int.reduceToNat]
        rw [htk, ← hst]
        simp only [mrk_c, mrk_i, mrk_n]
        try simp (disch := omega) only [wrap_i64]
        repeat' (refine And.intro ?_ ?_)
        all_goals first | trivial | rfl | omega | (exact I_eq (by omega))
    · have hk : d = l.length := by omega
      subst hk
      simp [mrk]
theorem markRenewalS_d (l : List (tRenewal : Ty).den) (n : Int) (h0 : 0 ≤ n) (h1 : n + cnv (.list tRenewal) l ≤ 1152921504606846976) (hs : Small (.list tRenewal) 1073741824 l) : MutOK Try.prog 70 [none, none] [.obj (.deep TE tRenewal l), .rd ⟨I, n⟩] (.rd I (mrk (.list tRenewal) l n).2) [.deep TE tRenewal (mrk (.list tRenewal) l n).1] := by
  have hl : l.length ≤ 1073741824 := hs.1
  have hq : ∀ d : Nat, (mrkL (mrk tRenewal) (l.take d) n).2 = n + (((l.take d).map (cnv tRenewal)).sum : Nat) := fun d => mrk_snd (.list tRenewal) (l.take d) n
  have hc : ∀ d : Nat, d < l.length → n + (((l.take d).map (cnv tRenewal)).sum : Nat) + cnv tRenewal (l.getD d (tRenewal : Ty).dflt) ≤ 1152921504606846976 := fun d hd => by
    have := sum_take (cnv tRenewal) hd (tRenewal : Ty).dflt
    simp only [cnv] at h1 this ⊢
    omega
  refine fun_ofM (tb := tbd) follows Try.func70 (by kernel_rfl) Try.ntmps70 rfl rfl (by simp [shOK]) rfl ?_; intro cx hN hw
  simp (disch := exact eqId (by kernel_rfl)) only [go_sem, ↓reduceIte, Nat.reduceAdd, Nat.reduceMul, Nat.reduceLT, Nat.reduceBEq, Nat.reduceLeDiff, Nat.reduceEqDiff, Int.reduceToNat]
  refine loop_intro (tb := tbd) follows hN (D := Nat) (fun d => shp [(0, .own 0), (1, .rd I ((mrkL (mrk tRenewal) (l.take d) n).2 : Int)), (5, .rd I (d : Int))] [(0, .deep TE tRenewal ((mrkL (mrk tRenewal) (l.take d) n).1 ++ l.drop d))]) (fun d => d ≤ l.length) (fun d => l.length - d) (0) ?_ (sub_shp hN [(0, some 0)] ?_) (fun d hd => ?_)
  · exact Nat.zero_le _
  · simp (disch := exact eqId (by kernel_rfl)) only [go_sem, ↓reduceIte, Nat.reduceAdd, Nat.reduceMul, Nat.reduceLT, Nat.reduceBEq, Nat.reduceLeDiff, Nat.reduceEqDiff, Int.reduceToNat]
    simp [mrkL]
  · have hll := mrkL_ll (mrk tRenewal) hd n
    simp (disch := exact eqId (by kernel_rfl)) only [go_sem, ↓reduceIte, Nat.reduceAdd, Nat.reduceMul, Nat.reduceLT, Nat.reduceBEq, Nat.reduceLeDiff, Nat.reduceEqDiff, Int.reduceToNat]
    rw [hll]
    refine ⟨fun hk => ?_, fun hk => ?_⟩
    · have hk : d < l.length := by omega
      have hat : ((mrkL (mrk tRenewal) (l.take d) n).1 ++ l.drop d).getD d ((0, 0, 0, [], [], ()) : (tRenewal : Ty).den) = l.getD d (0, 0, 0, [], [], ()) := mrkL_at (mrk tRenewal) hk _ n
      have hst := mrkL_set (mrk tRenewal) hk ((0, 0, 0, [], [], ()) : (tRenewal : Ty).den) n
      have htk := congrArg Prod.snd (mrkL_take (mrk tRenewal) hk ((0, 0, 0, [], [], ()) : (tRenewal : Ty).den) n)
      have hK : 0 ≤ (mrkL (mrk tRenewal) (l.take d) n).2 := by rw [hq d]; omega
      have c : (mrkL (mrk tRenewal) (l.take d) n).2 + cnv tRenewal (l.getD d (0, 0, 0, [], [], ())) ≤ 1152921504606846976 := by rw [hq d]; exact hc d hk
      have hm : Small tRenewal 1073741824 (l.getD d (0, 0, 0, [], [], ())) := hs.2 _ (getD_mem hk _)
      generalize (mrkL (mrk tRenewal) (l.take d) n).1 ++ l.drop d = A at *
      generalize (mrkL (mrk tRenewal) (l.take d) n).2 = K at *
      generalize l.getD d (0, 0, 0, [], [], ()) = y at *
      have hin : d < A.length := by omega
      simp only [List.length_set, hll, set_getD hin, hat, List.set_set]
      try simp only [cnv_c, cnv_i, cnv_n] at c
      have := mrk_snd (.list tStep) y.2.2.2.1 (K + 1 + 1 + 1)
      have := mrk_snd (.list tStamp) y.2.2.2.2.1 (mrk (.list tStep) y.2.2.2.1 (K + 1 + 1 + 1)).2
      try simp only [List.length_set, hll, List.set_set, set_getD hin, hat]
      try simp (disch := omega) only [wrap_i64]
      repeat' (refine And.intro ?_ ?_)
      all_goals (try omega)
      all_goals (try exact hk)
      refine callN_intro (markStepS_m _ _ (by omega) (by omega) hm.2.2.2.1.1) rfl rfl ?_
      simp (disch := exact eqId (by kernel_rfl)) only [go_sem, ↓reduceIte, Nat.reduceAdd, Nat.reduceMul, Nat.reduceLT, Nat.reduceBEq, Nat.reduceLeDiff, Nat.reduceEqDiff, Int.reduceToNat]
      try simp only [List.length_set, hll, List.set_set, set_getD hin, hat]
      try simp (disch := omega) only [wrap_i64]
      repeat' (refine And.intro ?_ ?_)
      all_goals (try omega)
      all_goals (try exact hk)
      refine callN_intro (markStampS_m _ _ (by omega) (by omega) hm.2.2.2.2.1.1) rfl rfl ?_
      simp (disch := exact eqId (by kernel_rfl)) only [go_sem, ↓reduceIte, Nat.reduceAdd, Nat.reduceMul, Nat.reduceLT, Nat.reduceBEq, Nat.reduceLeDiff, Nat.reduceEqDiff, Int.reduceToNat]
      try simp only [List.length_set, hll, List.set_set, set_getD hin, hat]
      try simp (disch := omega) only [wrap_i64]
      repeat' (refine And.intro ?_ ?_)
      all_goals (try omega)
      all_goals (try exact hk)
      refine back_intro (d + 1) ?_ ?_ (sub_shp hN [(0, some 0)] ?_)
      · exact hk
      · omega
      · simp (disch := exact eqId (by kernel_rfl)) only [go_sem, ↓reduceIte, Nat.reduceAdd, Nat.reduceMul, Nat.reduceLT, Nat.reduceBEq, Nat.reduceLeDiff, Nat.reduceEqDiff, Int.reduceToNat]
        rw [htk, ← hst]
        simp only [mrk_c, mrk_i, mrk_n]
        try simp (disch := omega) only [wrap_i64]
        repeat' (refine And.intro ?_ ?_)
        all_goals first | trivial | rfl | omega | (exact I_eq (by omega))
    · have hk : d = l.length := by omega
      subst hk
      simp [mrk]
theorem markStrandS_d (l : List (tStrand : Ty).den) (n : Int) (h0 : 0 ≤ n) (h1 : n + cnv (.list tStrand) l ≤ 1152921504606846976) (hs : Small (.list tStrand) 1073741824 l) : MutOK Try.prog 96 [none, none] [.obj (.deep TE tStrand l), .rd ⟨I, n⟩] (.rd I (mrk (.list tStrand) l n).2) [.deep TE tStrand (mrk (.list tStrand) l n).1] := by
  have hl : l.length ≤ 1073741824 := hs.1
  have hq : ∀ d : Nat, (mrkL (mrk tStrand) (l.take d) n).2 = n + (((l.take d).map (cnv tStrand)).sum : Nat) := fun d => mrk_snd (.list tStrand) (l.take d) n
  have hc : ∀ d : Nat, d < l.length → n + (((l.take d).map (cnv tStrand)).sum : Nat) + cnv tStrand (l.getD d (tStrand : Ty).dflt) ≤ 1152921504606846976 := fun d hd => by
    have := sum_take (cnv tStrand) hd (tStrand : Ty).dflt
    simp only [cnv] at h1 this ⊢
    omega
  refine fun_ofM (tb := tbd) follows Try.func96 (by kernel_rfl) Try.ntmps96 rfl rfl (by simp [shOK]) rfl ?_; intro cx hN hw
  simp (disch := exact eqId (by kernel_rfl)) only [go_sem, ↓reduceIte, Nat.reduceAdd, Nat.reduceMul, Nat.reduceLT, Nat.reduceBEq, Nat.reduceLeDiff, Nat.reduceEqDiff, Int.reduceToNat]
  refine loop_intro (tb := tbd) follows hN (D := Nat) (fun d => shp [(0, .own 0), (1, .rd I ((mrkL (mrk tStrand) (l.take d) n).2 : Int)), (5, .rd I (d : Int))] [(0, .deep TE tStrand ((mrkL (mrk tStrand) (l.take d) n).1 ++ l.drop d))]) (fun d => d ≤ l.length) (fun d => l.length - d) (0) ?_ (sub_shp hN [(0, some 0)] ?_) (fun d hd => ?_)
  · exact Nat.zero_le _
  · simp (disch := exact eqId (by kernel_rfl)) only [go_sem, ↓reduceIte, Nat.reduceAdd, Nat.reduceMul, Nat.reduceLT, Nat.reduceBEq, Nat.reduceLeDiff, Nat.reduceEqDiff, Int.reduceToNat]
    simp [mrkL]
  · have hll := mrkL_ll (mrk tStrand) hd n
    simp (disch := exact eqId (by kernel_rfl)) only [go_sem, ↓reduceIte, Nat.reduceAdd, Nat.reduceMul, Nat.reduceLT, Nat.reduceBEq, Nat.reduceLeDiff, Nat.reduceEqDiff, Int.reduceToNat]
    rw [hll]
    refine ⟨fun hk => ?_, fun hk => ?_⟩
    · have hk : d < l.length := by omega
      have hat : ((mrkL (mrk tStrand) (l.take d) n).1 ++ l.drop d).getD d (([], [], ()) : (tStrand : Ty).den) = l.getD d ([], [], ()) := mrkL_at (mrk tStrand) hk _ n
      have hst := mrkL_set (mrk tStrand) hk (([], [], ()) : (tStrand : Ty).den) n
      have htk := congrArg Prod.snd (mrkL_take (mrk tStrand) hk (([], [], ()) : (tStrand : Ty).den) n)
      have hK : 0 ≤ (mrkL (mrk tStrand) (l.take d) n).2 := by rw [hq d]; omega
      have c : (mrkL (mrk tStrand) (l.take d) n).2 + cnv tStrand (l.getD d ([], [], ())) ≤ 1152921504606846976 := by rw [hq d]; exact hc d hk
      have hm : Small tStrand 1073741824 (l.getD d ([], [], ())) := hs.2 _ (getD_mem hk _)
      generalize (mrkL (mrk tStrand) (l.take d) n).1 ++ l.drop d = A at *
      generalize (mrkL (mrk tStrand) (l.take d) n).2 = K at *
      generalize l.getD d ([], [], ()) = y at *
      have hin : d < A.length := by omega
      simp only [List.length_set, hll, set_getD hin, hat, List.set_set]
      try simp only [cnv_c, cnv_i, cnv_n] at c
      have := mrk_snd (.list tPiece) y.1 K
      have := mrk_snd (.list tRenewal) y.2.1 (mrk (.list tPiece) y.1 K).2
      try simp only [List.length_set, hll, List.set_set, set_getD hin, hat]
      try simp (disch := omega) only [wrap_i64]
      repeat' (refine And.intro ?_ ?_)
      all_goals (try omega)
      all_goals (try exact hk)
      refine callN_intro (markPieceS_d _ _ (by omega) (by omega) hm.1) rfl rfl ?_
      simp (disch := exact eqId (by kernel_rfl)) only [go_sem, ↓reduceIte, Nat.reduceAdd, Nat.reduceMul, Nat.reduceLT, Nat.reduceBEq, Nat.reduceLeDiff, Nat.reduceEqDiff, Int.reduceToNat]
      try simp only [List.length_set, hll, List.set_set, set_getD hin, hat]
      try simp (disch := omega) only [wrap_i64]
      repeat' (refine And.intro ?_ ?_)
      all_goals (try omega)
      all_goals (try exact hk)
      refine callN_intro (markRenewalS_d _ _ (by omega) (by omega) hm.2.1) rfl rfl ?_
      simp (disch := exact eqId (by kernel_rfl)) only [go_sem, ↓reduceIte, Nat.reduceAdd, Nat.reduceMul, Nat.reduceLT, Nat.reduceBEq, Nat.reduceLeDiff, Nat.reduceEqDiff, Int.reduceToNat]
      try simp only [List.length_set, hll, List.set_set, set_getD hin, hat]
      try simp (disch := omega) only [wrap_i64]
      repeat' (refine And.intro ?_ ?_)
      all_goals (try omega)
      all_goals (try exact hk)
      refine back_intro (d + 1) ?_ ?_ (sub_shp hN [(0, some 0)] ?_)
      · exact hk
      · omega
      · simp (disch := exact eqId (by kernel_rfl)) only [go_sem, ↓reduceIte, Nat.reduceAdd, Nat.reduceMul, Nat.reduceLT, Nat.reduceBEq, Nat.reduceLeDiff, Nat.reduceEqDiff, Int.reduceToNat]
        rw [htk, ← hst]
        simp only [mrk_c, mrk_i, mrk_n]
        try simp (disch := omega) only [wrap_i64]
        repeat' (refine And.intro ?_ ?_)
        all_goals first | trivial | rfl | omega | (exact I_eq (by omega))
    · have hk : d = l.length := by omega
      subst hk
      simp [mrk]
theorem markStampSS_d (l : List ((.list tStamp) : Ty).den) (n : Int) (h0 : 0 ≤ n) (h1 : n + cnv (.list (.list tStamp)) l ≤ 1152921504606846976) (hs : Small (.list (.list tStamp)) 1073741824 l) : MutOK Try.prog 97 [none, none] [.obj (.deep TE (.list tStamp) l), .rd ⟨I, n⟩] (.rd I (mrk (.list (.list tStamp)) l n).2) [.deep TE (.list tStamp) (mrk (.list (.list tStamp)) l n).1] := by
  have hl : l.length ≤ 1073741824 := hs.1
  have hq : ∀ d : Nat, (mrkL (mrk (.list tStamp)) (l.take d) n).2 = n + (((l.take d).map (cnv (.list tStamp))).sum : Nat) := fun d => mrk_snd (.list (.list tStamp)) (l.take d) n
  have hc : ∀ d : Nat, d < l.length → n + (((l.take d).map (cnv (.list tStamp))).sum : Nat) + cnv (.list tStamp) (l.getD d ((.list tStamp) : Ty).dflt) ≤ 1152921504606846976 := fun d hd => by
    have := sum_take (cnv (.list tStamp)) hd ((.list tStamp) : Ty).dflt
    simp only [cnv] at h1 this ⊢
    omega
  refine fun_ofM (tb := tbd) follows Try.func97 (by kernel_rfl) Try.ntmps97 rfl rfl (by simp [shOK]) rfl ?_; intro cx hN hw
  simp (disch := exact eqId (by kernel_rfl)) only [go_sem, ↓reduceIte, Nat.reduceAdd, Nat.reduceMul, Nat.reduceLT, Nat.reduceBEq, Nat.reduceLeDiff, Nat.reduceEqDiff, Int.reduceToNat]
  refine loop_intro (tb := tbd) follows hN (D := Nat) (fun d => shp [(0, .own 0), (1, .rd I ((mrkL (mrk (.list tStamp)) (l.take d) n).2 : Int)), (5, .rd I (d : Int))] [(0, .deep TE (.list tStamp) ((mrkL (mrk (.list tStamp)) (l.take d) n).1 ++ l.drop d))]) (fun d => d ≤ l.length) (fun d => l.length - d) (0) ?_ (sub_shp hN [(0, some 0)] ?_) (fun d hd => ?_)
  · exact Nat.zero_le _
  · simp (disch := exact eqId (by kernel_rfl)) only [go_sem, ↓reduceIte, Nat.reduceAdd, Nat.reduceMul, Nat.reduceLT, Nat.reduceBEq, Nat.reduceLeDiff, Nat.reduceEqDiff, Int.reduceToNat]
    simp [mrkL]
  · have hll := mrkL_ll (mrk (.list tStamp)) hd n
    simp (disch := exact eqId (by kernel_rfl)) only [go_sem, ↓reduceIte, Nat.reduceAdd, Nat.reduceMul, Nat.reduceLT, Nat.reduceBEq, Nat.reduceLeDiff, Nat.reduceEqDiff, Int.reduceToNat]
    rw [hll]
    refine ⟨fun hk => ?_, fun hk => ?_⟩
    · have hk : d < l.length := by omega
      have hat : ((mrkL (mrk (.list tStamp)) (l.take d) n).1 ++ l.drop d).getD d ([] : ((.list tStamp) : Ty).den) = l.getD d [] := mrkL_at (mrk (.list tStamp)) hk _ n
      have hst := mrkL_set (mrk (.list tStamp)) hk ([] : ((.list tStamp) : Ty).den) n
      have htk := congrArg Prod.snd (mrkL_take (mrk (.list tStamp)) hk ([] : ((.list tStamp) : Ty).den) n)
      have hK : 0 ≤ (mrkL (mrk (.list tStamp)) (l.take d) n).2 := by rw [hq d]; omega
      have c : (mrkL (mrk (.list tStamp)) (l.take d) n).2 + cnv (.list tStamp) (l.getD d []) ≤ 1152921504606846976 := by rw [hq d]; exact hc d hk
      have hm : Small (.list tStamp) 1073741824 (l.getD d []) := hs.2 _ (getD_mem hk _)
      generalize (mrkL (mrk (.list tStamp)) (l.take d) n).1 ++ l.drop d = A at *
      generalize (mrkL (mrk (.list tStamp)) (l.take d) n).2 = K at *
      generalize l.getD d [] = y at *
      have hin : d < A.length := by omega
      simp only [List.length_set, hll, set_getD hin, hat, List.set_set]
      try simp only [cnv_c, cnv_i, cnv_n] at c
      have := mrk_snd (.list tStamp) y K
      try simp only [List.length_set, hll, List.set_set, set_getD hin, hat]
      try simp (disch := omega) only [wrap_i64]
      repeat' (refine And.intro ?_ ?_)
      all_goals (try omega)
      all_goals (try exact hk)
      refine callN_intro (markStampS_m _ _ (by omega) (by omega) hm.1) rfl rfl ?_
      simp (disch := exact eqId (by kernel_rfl)) only [go_sem, ↓reduceIte, Nat.reduceAdd, Nat.reduceMul, Nat.reduceLT, Nat.reduceBEq, Nat.reduceLeDiff, Nat.reduceEqDiff, Int.reduceToNat]
      try simp only [List.length_set, hll, List.set_set, set_getD hin, hat]
      try simp (disch := omega) only [wrap_i64]
      repeat' (refine And.intro ?_ ?_)
      all_goals (try omega)
      all_goals (try exact hk)
      refine back_intro (d + 1) ?_ ?_ (sub_shp hN [(0, some 0)] ?_)
      · exact hk
      · omega
      · simp (disch := exact eqId (by kernel_rfl)) only [go_sem, ↓reduceIte, Nat.reduceAdd, Nat.reduceMul, Nat.reduceLT, Nat.reduceBEq, Nat.reduceLeDiff, Nat.reduceEqDiff, Int.reduceToNat]
        rw [htk, ← hst]
        simp only [mrk_c, mrk_i, mrk_n]
        try simp (disch := omega) only [wrap_i64]
        repeat' (refine And.intro ?_ ?_)
        all_goals first | trivial | rfl | omega | (exact I_eq (by omega))
    · have hk : d = l.length := by omega
      subst hk
      simp [mrk]
theorem markIntSS_d (l : List ((.list I) : Ty).den) (n : Int) (h0 : 0 ≤ n) (h1 : n + cnv (.list (.list I)) l ≤ 1152921504606846976) (hs : Small (.list (.list I)) 1073741824 l) : MutOK Try.prog 43 [none, none] [.obj (.deep TE (.list I) l), .rd ⟨I, n⟩] (.rd I (mrk (.list (.list I)) l n).2) [.deep TE (.list I) (mrk (.list (.list I)) l n).1] := by
  have hl : l.length ≤ 1073741824 := hs.1
  have hq : ∀ d : Nat, (mrkL (mrk (.list I)) (l.take d) n).2 = n + (((l.take d).map (cnv (.list I))).sum : Nat) := fun d => mrk_snd (.list (.list I)) (l.take d) n
  have hc : ∀ d : Nat, d < l.length → n + (((l.take d).map (cnv (.list I))).sum : Nat) + cnv (.list I) (l.getD d ((.list I) : Ty).dflt) ≤ 1152921504606846976 := fun d hd => by
    have := sum_take (cnv (.list I)) hd ((.list I) : Ty).dflt
    simp only [cnv] at h1 this ⊢
    omega
  refine fun_ofM (tb := tbd) follows Try.func43 (by kernel_rfl) Try.ntmps43 rfl rfl (by simp [shOK]) rfl ?_; intro cx hN hw
  simp (disch := exact eqId (by kernel_rfl)) only [go_sem, ↓reduceIte, Nat.reduceAdd, Nat.reduceMul, Nat.reduceLT, Nat.reduceBEq, Nat.reduceLeDiff, Nat.reduceEqDiff, Int.reduceToNat]
  refine loop_intro (tb := tbd) follows hN (D := Nat) (fun d => shp [(0, .own 0), (1, .rd I ((mrkL (mrk (.list I)) (l.take d) n).2 : Int)), (5, .rd I (d : Int))] [(0, .deep TE (.list I) ((mrkL (mrk (.list I)) (l.take d) n).1 ++ l.drop d))]) (fun d => d ≤ l.length) (fun d => l.length - d) (0) ?_ (sub_shp hN [(0, some 0)] ?_) (fun d hd => ?_)
  · exact Nat.zero_le _
  · simp (disch := exact eqId (by kernel_rfl)) only [go_sem, ↓reduceIte, Nat.reduceAdd, Nat.reduceMul, Nat.reduceLT, Nat.reduceBEq, Nat.reduceLeDiff, Nat.reduceEqDiff, Int.reduceToNat]
    simp [mrkL]
  · have hll := mrkL_ll (mrk (.list I)) hd n
    simp (disch := exact eqId (by kernel_rfl)) only [go_sem, ↓reduceIte, Nat.reduceAdd, Nat.reduceMul, Nat.reduceLT, Nat.reduceBEq, Nat.reduceLeDiff, Nat.reduceEqDiff, Int.reduceToNat]
    rw [hll]
    refine ⟨fun hk => ?_, fun hk => ?_⟩
    · have hk : d < l.length := by omega
      have hat : ((mrkL (mrk (.list I)) (l.take d) n).1 ++ l.drop d).getD d ([] : ((.list I) : Ty).den) = l.getD d [] := mrkL_at (mrk (.list I)) hk _ n
      have hst := mrkL_set (mrk (.list I)) hk ([] : ((.list I) : Ty).den) n
      have htk := congrArg Prod.snd (mrkL_take (mrk (.list I)) hk ([] : ((.list I) : Ty).den) n)
      have hK : 0 ≤ (mrkL (mrk (.list I)) (l.take d) n).2 := by rw [hq d]; omega
      have c : (mrkL (mrk (.list I)) (l.take d) n).2 + cnv (.list I) (l.getD d []) ≤ 1152921504606846976 := by rw [hq d]; exact hc d hk
      have hm : Small (.list I) 1073741824 (l.getD d []) := hs.2 _ (getD_mem hk _)
      generalize (mrkL (mrk (.list I)) (l.take d) n).1 ++ l.drop d = A at *
      generalize (mrkL (mrk (.list I)) (l.take d) n).2 = K at *
      generalize l.getD d [] = y at *
      have hin : d < A.length := by omega
      simp only [List.length_set, hll, set_getD hin, hat, List.set_set]
      try simp only [cnv_c, cnv_i, cnv_n] at c
      have := mrk_snd (.list I) y K
      try simp only [List.length_set, hll, List.set_set, set_getD hin, hat]
      try simp (disch := omega) only [wrap_i64]
      repeat' (refine And.intro ?_ ?_)
      all_goals (try omega)
      all_goals (try exact hk)
      refine callN_intro (markIntS_m _ _ (by omega) (by omega) hm.1) rfl rfl ?_
      simp (disch := exact eqId (by kernel_rfl)) only [go_sem, ↓reduceIte, Nat.reduceAdd, Nat.reduceMul, Nat.reduceLT, Nat.reduceBEq, Nat.reduceLeDiff, Nat.reduceEqDiff, Int.reduceToNat]
      try simp only [List.length_set, hll, List.set_set, set_getD hin, hat]
      try simp (disch := omega) only [wrap_i64]
      repeat' (refine And.intro ?_ ?_)
      all_goals (try omega)
      all_goals (try exact hk)
      refine back_intro (d + 1) ?_ ?_ (sub_shp hN [(0, some 0)] ?_)
      · exact hk
      · omega
      · simp (disch := exact eqId (by kernel_rfl)) only [go_sem, ↓reduceIte, Nat.reduceAdd, Nat.reduceMul, Nat.reduceLT, Nat.reduceBEq, Nat.reduceLeDiff, Nat.reduceEqDiff, Int.reduceToNat]
        rw [htk, ← hst]
        simp only [mrk_c, mrk_i, mrk_n]
        try simp (disch := omega) only [wrap_i64]
        repeat' (refine And.intro ?_ ?_)
        all_goals first | trivial | rfl | omega | (exact I_eq (by omega))
    · have hk : d = l.length := by omega
      subst hk
      simp [mrk]
end Go.Proofs.Ytfkdkblbhilghaa
/- What the laws' own looks at marks answer over nested lists. It proves nothing of a statement by itself. -/
set_option linter.unusedSimpArgs false
set_option linter.unusedVariables false
set_option maxRecDepth 100000
namespace Go.Proofs.Ytfkdkblbhilghaa
open Go.AL
theorem heldIntS_m (l : List (I : Ty).den) (n : Int) (h0 : 0 ≤ n) (h1 : n ≤ 1152921504606846976) (hs : l.length ≤ 1073741824) : FunOK Try.prog 22 [⟨(.list I), (mrk (.list I) l n).1⟩, ⟨I, n⟩] (.rd I (mrk (.list I) l n).2) := by
  rw [show mrk (.list I) l n = _ from mrk_list I rfl l n]
  exact heldIntS_ok l.length n h0 h1 hs
theorem heldStepS_m (l : List (tStep : Ty).den) (n : Int) (h0 : 0 ≤ n) (h1 : n ≤ 1152921504606846976) (hs : l.length ≤ 1073741824) : FunOK Try.prog 129 [⟨(.list tStep), (mrk (.list tStep) l n).1⟩, ⟨I, n⟩] (.rd I (mrk (.list tStep) l n).2) := by
  rw [show mrk (.list tStep) l n = _ from mrk_list tStep rfl l n]
  exact heldStepS_ok l.length n h0 h1 hs
theorem heldStampS_m (l : List (tStamp : Ty).den) (n : Int) (h0 : 0 ≤ n) (h1 : n ≤ 1152921504606846976) (hs : l.length ≤ 1073741824) : FunOK Try.prog 130 [⟨(.list tStamp), (mrk (.list tStamp) l n).1⟩, ⟨I, n⟩] (.rd I (mrk (.list tStamp) l n).2) := by
  rw [show mrk (.list tStamp) l n = _ from mrk_list tStamp rfl l n]
  exact heldStampS_ok l.length n h0 h1 hs
theorem heldPieceS_d (l : List (tPiece : Ty).den) (n : Int) (h0 : 0 ≤ n) (h1 : n + cnv (.list tPiece) l ≤ 1152921504606846976) (hs : Small (.list tPiece) 1073741824 l) : FunOK Try.prog 78 [⟨(.list tPiece), (mrk (.list tPiece) l n).1⟩, ⟨I, n⟩] (.rd I (mrk (.list tPiece) l n).2) := by
  have hl : l.length ≤ 1073741824 := hs.1
  have hml : (mrk (.list tPiece) l n).1.length = l.length := mrkL_len _ l n
  have hq : ∀ d : Nat, (mrkL (mrk tPiece) (l.take d) n).2 = n + (((l.take d).map (cnv tPiece)).sum : Nat) := fun d => mrk_snd (.list tPiece) (l.take d) n
  have hc : ∀ d : Nat, d < l.length → n + (((l.take d).map (cnv tPiece)).sum : Nat) + cnv tPiece (l.getD d (tPiece : Ty).dflt) ≤ 1152921504606846976 := fun d hd => by
    have := sum_take (cnv tPiece) hd (tPiece : Ty).dflt
    simp only [cnv] at h1 this ⊢
    omega
  have hg : ∀ d : Nat, d < l.length → (mrk (.list tPiece) l n).1.getD d ((0, [], 0, ()) : (tPiece : Ty).den) = (mrk tPiece (l.getD d (0, [], 0, ())) (mrkL (mrk tPiece) (l.take d) n).2).1 := fun d hd => mrkL_get (mrk tPiece) _ n hd
  have hend : mrk (.list tPiece) l n = mrkL (mrk tPiece) (l.take l.length) n := by rw [List.take_length]; rfl
  refine fun_of (tb := tb) follows Try.func78 (by kernel_rfl) Try.ntmps78 rfl rfl rfl ?_; intro cx hN hw
  simp (disch := exact eqId (by kernel_rfl)) only [go_sem, ↓reduceIte, Nat.reduceAdd, Nat.reduceMul, Nat.reduceLT, Nat.reduceBEq, Nat.reduceLeDiff, Nat.reduceEqDiff, Int.reduceToNat]
  refine loop_intro (tb := tb) follows hN (D := Nat) (fun d => shp [(0, .rd (.list tPiece) ((mrk (.list tPiece) l n).1)), (1, .rd I ((mrkL (mrk tPiece) (l.take d) n).2 : Int)), (5, .rd I (d : Int))] []) (fun d => d ≤ l.length) (fun d => l.length - d) (0) ?_ (sub_shp hN [] ?_) (fun d hd => ?_)
  · exact Nat.zero_le _
  · simp (disch := exact eqId (by kernel_rfl)) only [go_sem, ↓reduceIte, Nat.reduceAdd, Nat.reduceMul, Nat.reduceLT, Nat.reduceBEq, Nat.reduceLeDiff, Nat.reduceEqDiff, Int.reduceToNat]
    simp [mrkL]
  · simp (disch := exact eqId (by kernel_rfl)) only [go_sem, ↓reduceIte, Nat.reduceAdd, Nat.reduceMul, Nat.reduceLT, Nat.reduceBEq, Nat.reduceLeDiff, Nat.reduceEqDiff, Int.reduceToNat]
    rw [hml]
    refine ⟨fun hk => ?_, fun hk => ?_⟩
    · have hk : d < l.length := by omega
      have htk := congrArg Prod.snd (mrkL_take (mrk tPiece) hk ((0, [], 0, ()) : (tPiece : Ty).den) n)
      have hK : 0 ≤ (mrkL (mrk tPiece) (l.take d) n).2 := by rw [hq d]; omega
      have c : (mrkL (mrk tPiece) (l.take d) n).2 + cnv tPiece (l.getD d (0, [], 0, ())) ≤ 1152921504606846976 := by rw [hq d]; exact hc d hk
      have hm : Small tPiece 1073741824 (l.getD d (0, [], 0, ())) := hs.2 _ (getD_mem hk _)
      have hgd := hg d hk
      generalize (mrk (.list tPiece) l n).1 = A at *
      generalize (mrkL (mrk tPiece) (l.take d) n).2 = K at *
      generalize l.getD d (0, [], 0, ()) = y at *
      try simp only [cnv_c, cnv_i, cnv_n] at c
      have := mrk_snd (.list I) y.2.1 (K + 1)
      try simp only [mrk_c, mrk_i, mrk_n] at hgd
      try simp (disch := omega) only [wrap_i64] at hgd
      simp only [hml, hgd]
      try simp (disch := omega) only [wrap_i64]
      repeat' (first | (refine And.intro ?_ ?_) | intro _ | (refine callQ_intro (heldIntS_m _ _ (by omega) (by omega) hm.2.1.1) ?_; try (simp (disch := exact eqId (by kernel_rfl)) only [go_sem, ↓reduceIte, Nat.reduceAdd, Nat.reduceMul, Nat.reduceLT, Nat.reduceBEq, Nat.reduceLeDiff, Nat.reduceEqDiff, Int.reduceToNat])) | (refine callH_intro (fun hcc => heldIntS_m _ _ (by omega) (by omega) hm.2.1.1) ?_; try (simp (disch := exact eqId (by kernel_rfl)) only [go_sem, ↓reduceIte, Nat.reduceAdd, Nat.reduceMul, Nat.reduceLT, Nat.reduceBEq, Nat.reduceLeDiff, Nat.reduceEqDiff, Int.reduceToNat])))
      all_goals (try simp only [hgd])
      all_goals (try simp (disch := omega) only [wrap_i64])
      repeat' (first | (refine And.intro ?_ ?_) | intro _ | (refine callQ_intro (heldIntS_m _ _ (by omega) (by omega) hm.2.1.1) ?_; try (simp (disch := exact eqId (by kernel_rfl)) only [go_sem, ↓reduceIte, Nat.reduceAdd, Nat.reduceMul, Nat.reduceLT, Nat.reduceBEq, Nat.reduceLeDiff, Nat.reduceEqDiff, Int.reduceToNat])) | (refine callH_intro (fun hcc => heldIntS_m _ _ (by omega) (by omega) hm.2.1.1) ?_; try (simp (disch := exact eqId (by kernel_rfl)) only [go_sem, ↓reduceIte, Nat.reduceAdd, Nat.reduceMul, Nat.reduceLT, Nat.reduceBEq, Nat.reduceLeDiff, Nat.reduceEqDiff, Int.reduceToNat])))
      all_goals (try simp only [hgd] at *)
      all_goals (try simp (disch := omega) only [wrap_i64] at *)
      all_goals (try omega)
      all_goals (try (exfalso; rename_i hx; first | exact hx rfl | exact hx trivial))
      · refine back_intro (d + 1) ?_ ?_ (sub_shp hN [] ?_)
        · exact hk
        · omega
        · simp (disch := exact eqId (by kernel_rfl)) only [go_sem, ↓reduceIte, Nat.reduceAdd, Nat.reduceMul, Nat.reduceLT, Nat.reduceBEq, Nat.reduceLeDiff, Nat.reduceEqDiff, Int.reduceToNat]
          rw [htk]
          simp only [mrk_c, mrk_i, mrk_n]
          try simp (disch := omega) only [wrap_i64]
          repeat' (refine And.intro ?_ ?_)
          all_goals first | trivial | rfl | omega | (exact I_eq (by omega))
    · have hk : d = l.length := by omega
      rw [hend, hk]
theorem heldRenewalS_d (l : List (tRenewal : Ty).den) (n : Int) (h0 : 0 ≤ n) (h1 : n + cnv (.list tRenewal) l ≤ 1152921504606846976) (hs : Small (.list tRenewal) 1073741824 l) : FunOK Try.prog 79 [⟨(.list tRenewal), (mrk (.list tRenewal) l n).1⟩, ⟨I, n⟩] (.rd I (mrk (.list tRenewal) l n).2) := by
  have hl : l.length ≤ 1073741824 := hs.1
  have hml : (mrk (.list tRenewal) l n).1.length = l.length := mrkL_len _ l n
  have hq : ∀ d : Nat, (mrkL (mrk tRenewal) (l.take d) n).2 = n + (((l.take d).map (cnv tRenewal)).sum : Nat) := fun d => mrk_snd (.list tRenewal) (l.take d) n
  have hc : ∀ d : Nat, d < l.length → n + (((l.take d).map (cnv tRenewal)).sum : Nat) + cnv tRenewal (l.getD d (tRenewal : Ty).dflt) ≤ 1152921504606846976 := fun d hd => by
    have := sum_take (cnv tRenewal) hd (tRenewal : Ty).dflt
    simp only [cnv] at h1 this ⊢
    omega
  have hg : ∀ d : Nat, d < l.length → (mrk (.list tRenewal) l n).1.getD d ((0, 0, 0, [], [], ()) : (tRenewal : Ty).den) = (mrk tRenewal (l.getD d (0, 0, 0, [], [], ())) (mrkL (mrk tRenewal) (l.take d) n).2).1 := fun d hd => mrkL_get (mrk tRenewal) _ n hd
  have hend : mrk (.list tRenewal) l n = mrkL (mrk tRenewal) (l.take l.length) n := by rw [List.take_length]; rfl
  refine fun_of (tb := tb) follows Try.func79 (by kernel_rfl) Try.ntmps79 rfl rfl rfl ?_; intro cx hN hw
  simp (disch := exact eqId (by kernel_rfl)) only [go_sem, ↓reduceIte, Nat.reduceAdd, Nat.reduceMul, Nat.reduceLT, Nat.reduceBEq, Nat.reduceLeDiff, Nat.reduceEqDiff, Int.reduceToNat]
  refine loop_intro (tb := tb) follows hN (D := Nat) (fun d => shp [(0, .rd (.list tRenewal) ((mrk (.list tRenewal) l n).1)), (1, .rd I ((mrkL (mrk tRenewal) (l.take d) n).2 : Int)), (5, .rd I (d : Int))] []) (fun d => d ≤ l.length) (fun d => l.length - d) (0) ?_ (sub_shp hN [] ?_) (fun d hd => ?_)
  · exact Nat.zero_le _
  · simp (disch := exact eqId (by kernel_rfl)) only [go_sem, ↓reduceIte, Nat.reduceAdd, Nat.reduceMul, Nat.reduceLT, Nat.reduceBEq, Nat.reduceLeDiff, Nat.reduceEqDiff, Int.reduceToNat]
    simp [mrkL]
  · simp (disch := exact eqId (by kernel_rfl)) only [go_sem, ↓reduceIte, Nat.reduceAdd, Nat.reduceMul, Nat.reduceLT, Nat.reduceBEq, Nat.reduceLeDiff, Nat.reduceEqDiff, Int.reduceToNat]
    rw [hml]
    refine ⟨fun hk => ?_, fun hk => ?_⟩
    · have hk : d < l.length := by omega
      have htk := congrArg Prod.snd (mrkL_take (mrk tRenewal) hk ((0, 0, 0, [], [], ()) : (tRenewal : Ty).den) n)
      have hK : 0 ≤ (mrkL (mrk tRenewal) (l.take d) n).2 := by rw [hq d]; omega
      have c : (mrkL (mrk tRenewal) (l.take d) n).2 + cnv tRenewal (l.getD d (0, 0, 0, [], [], ())) ≤ 1152921504606846976 := by rw [hq d]; exact hc d hk
      have hm : Small tRenewal 1073741824 (l.getD d (0, 0, 0, [], [], ())) := hs.2 _ (getD_mem hk _)
      have hgd := hg d hk
      generalize (mrk (.list tRenewal) l n).1 = A at *
      generalize (mrkL (mrk tRenewal) (l.take d) n).2 = K at *
      generalize l.getD d (0, 0, 0, [], [], ()) = y at *
      try simp only [cnv_c, cnv_i, cnv_n] at c
      have := mrk_snd (.list tStep) y.2.2.2.1 (K + 1 + 1 + 1)
      have := mrk_snd (.list tStamp) y.2.2.2.2.1 (mrk (.list tStep) y.2.2.2.1 (K + 1 + 1 + 1)).2
      try simp only [mrk_c, mrk_i, mrk_n] at hgd
      try simp (disch := omega) only [wrap_i64] at hgd
      simp only [hml, hgd]
      try simp (disch := omega) only [wrap_i64]
      repeat' (first | (refine And.intro ?_ ?_) | intro _ | (refine callQ_intro (heldStepS_m _ _ (by omega) (by omega) hm.2.2.2.1.1) ?_; try (simp (disch := exact eqId (by kernel_rfl)) only [go_sem, ↓reduceIte, Nat.reduceAdd, Nat.reduceMul, Nat.reduceLT, Nat.reduceBEq, Nat.reduceLeDiff, Nat.reduceEqDiff, Int.reduceToNat])) | (refine callH_intro (fun hcc => heldStepS_m _ _ (by omega) (by omega) hm.2.2.2.1.1) ?_; try (simp (disch := exact eqId (by kernel_rfl)) only [go_sem, ↓reduceIte, Nat.reduceAdd, Nat.reduceMul, Nat.reduceLT, Nat.reduceBEq, Nat.reduceLeDiff, Nat.reduceEqDiff, Int.reduceToNat])) | (refine callQ_intro (heldStampS_m _ _ (by omega) (by omega) hm.2.2.2.2.1.1) ?_; try (simp (disch := exact eqId (by kernel_rfl)) only [go_sem, ↓reduceIte, Nat.reduceAdd, Nat.reduceMul, Nat.reduceLT, Nat.reduceBEq, Nat.reduceLeDiff, Nat.reduceEqDiff, Int.reduceToNat])) | (refine callH_intro (fun hcc => heldStampS_m _ _ (by omega) (by omega) hm.2.2.2.2.1.1) ?_; try (simp (disch := exact eqId (by kernel_rfl)) only [go_sem, ↓reduceIte, Nat.reduceAdd, Nat.reduceMul, Nat.reduceLT, Nat.reduceBEq, Nat.reduceLeDiff, Nat.reduceEqDiff, Int.reduceToNat])))
      all_goals (try simp only [hgd])
      all_goals (try simp (disch := omega) only [wrap_i64])
      repeat' (first | (refine And.intro ?_ ?_) | intro _ | (refine callQ_intro (heldStepS_m _ _ (by omega) (by omega) hm.2.2.2.1.1) ?_; try (simp (disch := exact eqId (by kernel_rfl)) only [go_sem, ↓reduceIte, Nat.reduceAdd, Nat.reduceMul, Nat.reduceLT, Nat.reduceBEq, Nat.reduceLeDiff, Nat.reduceEqDiff, Int.reduceToNat])) | (refine callH_intro (fun hcc => heldStepS_m _ _ (by omega) (by omega) hm.2.2.2.1.1) ?_; try (simp (disch := exact eqId (by kernel_rfl)) only [go_sem, ↓reduceIte, Nat.reduceAdd, Nat.reduceMul, Nat.reduceLT, Nat.reduceBEq, Nat.reduceLeDiff, Nat.reduceEqDiff, Int.reduceToNat])) | (refine callQ_intro (heldStampS_m _ _ (by omega) (by omega) hm.2.2.2.2.1.1) ?_; try (simp (disch := exact eqId (by kernel_rfl)) only [go_sem, ↓reduceIte, Nat.reduceAdd, Nat.reduceMul, Nat.reduceLT, Nat.reduceBEq, Nat.reduceLeDiff, Nat.reduceEqDiff, Int.reduceToNat])) | (refine callH_intro (fun hcc => heldStampS_m _ _ (by omega) (by omega) hm.2.2.2.2.1.1) ?_; try (simp (disch := exact eqId (by kernel_rfl)) only [go_sem, ↓reduceIte, Nat.reduceAdd, Nat.reduceMul, Nat.reduceLT, Nat.reduceBEq, Nat.reduceLeDiff, Nat.reduceEqDiff, Int.reduceToNat])))
      all_goals (try simp only [hgd] at *)
      all_goals (try simp (disch := omega) only [wrap_i64] at *)
      all_goals (try omega)
      all_goals (try (exfalso; rename_i hx; first | exact hx rfl | exact hx trivial))
      · refine back_intro (d + 1) ?_ ?_ (sub_shp hN [] ?_)
        · exact hk
        · omega
        · simp (disch := exact eqId (by kernel_rfl)) only [go_sem, ↓reduceIte, Nat.reduceAdd, Nat.reduceMul, Nat.reduceLT, Nat.reduceBEq, Nat.reduceLeDiff, Nat.reduceEqDiff, Int.reduceToNat]
          rw [htk]
          simp only [mrk_c, mrk_i, mrk_n]
          try simp (disch := omega) only [wrap_i64]
          repeat' (refine And.intro ?_ ?_)
          all_goals first | trivial | rfl | omega | (exact I_eq (by omega))
    · have hk : d = l.length := by omega
      rw [hend, hk]
theorem heldStrandS_d (l : List (tStrand : Ty).den) (n : Int) (h0 : 0 ≤ n) (h1 : n + cnv (.list tStrand) l ≤ 1152921504606846976) (hs : Small (.list tStrand) 1073741824 l) : FunOK Try.prog 113 [⟨(.list tStrand), (mrk (.list tStrand) l n).1⟩, ⟨I, n⟩] (.rd I (mrk (.list tStrand) l n).2) := by
  have hl : l.length ≤ 1073741824 := hs.1
  have hml : (mrk (.list tStrand) l n).1.length = l.length := mrkL_len _ l n
  have hq : ∀ d : Nat, (mrkL (mrk tStrand) (l.take d) n).2 = n + (((l.take d).map (cnv tStrand)).sum : Nat) := fun d => mrk_snd (.list tStrand) (l.take d) n
  have hc : ∀ d : Nat, d < l.length → n + (((l.take d).map (cnv tStrand)).sum : Nat) + cnv tStrand (l.getD d (tStrand : Ty).dflt) ≤ 1152921504606846976 := fun d hd => by
    have := sum_take (cnv tStrand) hd (tStrand : Ty).dflt
    simp only [cnv] at h1 this ⊢
    omega
  have hg : ∀ d : Nat, d < l.length → (mrk (.list tStrand) l n).1.getD d (([], [], ()) : (tStrand : Ty).den) = (mrk tStrand (l.getD d ([], [], ())) (mrkL (mrk tStrand) (l.take d) n).2).1 := fun d hd => mrkL_get (mrk tStrand) _ n hd
  have hend : mrk (.list tStrand) l n = mrkL (mrk tStrand) (l.take l.length) n := by rw [List.take_length]; rfl
  refine fun_of (tb := tb) follows Try.func113 (by kernel_rfl) Try.ntmps113 rfl rfl rfl ?_; intro cx hN hw
  simp (disch := exact eqId (by kernel_rfl)) only [go_sem, ↓reduceIte, Nat.reduceAdd, Nat.reduceMul, Nat.reduceLT, Nat.reduceBEq, Nat.reduceLeDiff, Nat.reduceEqDiff, Int.reduceToNat]
  refine loop_intro (tb := tb) follows hN (D := Nat) (fun d => shp [(0, .rd (.list tStrand) ((mrk (.list tStrand) l n).1)), (1, .rd I ((mrkL (mrk tStrand) (l.take d) n).2 : Int)), (5, .rd I (d : Int))] []) (fun d => d ≤ l.length) (fun d => l.length - d) (0) ?_ (sub_shp hN [] ?_) (fun d hd => ?_)
  · exact Nat.zero_le _
  · simp (disch := exact eqId (by kernel_rfl)) only [go_sem, ↓reduceIte, Nat.reduceAdd, Nat.reduceMul, Nat.reduceLT, Nat.reduceBEq, Nat.reduceLeDiff, Nat.reduceEqDiff, Int.reduceToNat]
    simp [mrkL]
  · simp (disch := exact eqId (by kernel_rfl)) only [go_sem, ↓reduceIte, Nat.reduceAdd, Nat.reduceMul, Nat.reduceLT, Nat.reduceBEq, Nat.reduceLeDiff, Nat.reduceEqDiff, Int.reduceToNat]
    rw [hml]
    refine ⟨fun hk => ?_, fun hk => ?_⟩
    · have hk : d < l.length := by omega
      have htk := congrArg Prod.snd (mrkL_take (mrk tStrand) hk (([], [], ()) : (tStrand : Ty).den) n)
      have hK : 0 ≤ (mrkL (mrk tStrand) (l.take d) n).2 := by rw [hq d]; omega
      have c : (mrkL (mrk tStrand) (l.take d) n).2 + cnv tStrand (l.getD d ([], [], ())) ≤ 1152921504606846976 := by rw [hq d]; exact hc d hk
      have hm : Small tStrand 1073741824 (l.getD d ([], [], ())) := hs.2 _ (getD_mem hk _)
      have hgd := hg d hk
      generalize (mrk (.list tStrand) l n).1 = A at *
      generalize (mrkL (mrk tStrand) (l.take d) n).2 = K at *
      generalize l.getD d ([], [], ()) = y at *
      try simp only [cnv_c, cnv_i, cnv_n] at c
      have := mrk_snd (.list tPiece) y.1 K
      have := mrk_snd (.list tRenewal) y.2.1 (mrk (.list tPiece) y.1 K).2
      try simp only [mrk_c, mrk_i, mrk_n] at hgd
      try simp (disch := omega) only [wrap_i64] at hgd
      simp only [hml, hgd]
      try simp (disch := omega) only [wrap_i64]
      repeat' (first | (refine And.intro ?_ ?_) | intro _ | (refine callQ_intro (heldPieceS_d _ _ (by omega) (by omega) hm.1) ?_; try (simp (disch := exact eqId (by kernel_rfl)) only [go_sem, ↓reduceIte, Nat.reduceAdd, Nat.reduceMul, Nat.reduceLT, Nat.reduceBEq, Nat.reduceLeDiff, Nat.reduceEqDiff, Int.reduceToNat])) | (refine callH_intro (fun hcc => heldPieceS_d _ _ (by omega) (by omega) hm.1) ?_; try (simp (disch := exact eqId (by kernel_rfl)) only [go_sem, ↓reduceIte, Nat.reduceAdd, Nat.reduceMul, Nat.reduceLT, Nat.reduceBEq, Nat.reduceLeDiff, Nat.reduceEqDiff, Int.reduceToNat])) | (refine callQ_intro (heldRenewalS_d _ _ (by omega) (by omega) hm.2.1) ?_; try (simp (disch := exact eqId (by kernel_rfl)) only [go_sem, ↓reduceIte, Nat.reduceAdd, Nat.reduceMul, Nat.reduceLT, Nat.reduceBEq, Nat.reduceLeDiff, Nat.reduceEqDiff, Int.reduceToNat])) | (refine callH_intro (fun hcc => heldRenewalS_d _ _ (by omega) (by omega) hm.2.1) ?_; try (simp (disch := exact eqId (by kernel_rfl)) only [go_sem, ↓reduceIte, Nat.reduceAdd, Nat.reduceMul, Nat.reduceLT, Nat.reduceBEq, Nat.reduceLeDiff, Nat.reduceEqDiff, Int.reduceToNat])))
      all_goals (try simp only [hgd])
      all_goals (try simp (disch := omega) only [wrap_i64])
      repeat' (first | (refine And.intro ?_ ?_) | intro _ | (refine callQ_intro (heldPieceS_d _ _ (by omega) (by omega) hm.1) ?_; try (simp (disch := exact eqId (by kernel_rfl)) only [go_sem, ↓reduceIte, Nat.reduceAdd, Nat.reduceMul, Nat.reduceLT, Nat.reduceBEq, Nat.reduceLeDiff, Nat.reduceEqDiff, Int.reduceToNat])) | (refine callH_intro (fun hcc => heldPieceS_d _ _ (by omega) (by omega) hm.1) ?_; try (simp (disch := exact eqId (by kernel_rfl)) only [go_sem, ↓reduceIte, Nat.reduceAdd, Nat.reduceMul, Nat.reduceLT, Nat.reduceBEq, Nat.reduceLeDiff, Nat.reduceEqDiff, Int.reduceToNat])) | (refine callQ_intro (heldRenewalS_d _ _ (by omega) (by omega) hm.2.1) ?_; try (simp (disch := exact eqId (by kernel_rfl)) only [go_sem, ↓reduceIte, Nat.reduceAdd, Nat.reduceMul, Nat.reduceLT, Nat.reduceBEq, Nat.reduceLeDiff, Nat.reduceEqDiff, Int.reduceToNat])) | (refine callH_intro (fun hcc => heldRenewalS_d _ _ (by omega) (by omega) hm.2.1) ?_; try (simp (disch := exact eqId (by kernel_rfl)) only [go_sem, ↓reduceIte, Nat.reduceAdd, Nat.reduceMul, Nat.reduceLT, Nat.reduceBEq, Nat.reduceLeDiff, Nat.reduceEqDiff, Int.reduceToNat])))
      all_goals (try simp only [hgd] at *)
      all_goals (try simp (disch := omega) only [wrap_i64] at *)
      all_goals (try omega)
      all_goals (try (exfalso; rename_i hx; first | exact hx rfl | exact hx trivial))
      · refine back_intro (d + 1) ?_ ?_ (sub_shp hN [] ?_)
        · exact hk
        · omega
        · simp (disch := exact eqId (by kernel_rfl)) only [go_sem, ↓reduceIte, Nat.reduceAdd, Nat.reduceMul, Nat.reduceLT, Nat.reduceBEq, Nat.reduceLeDiff, Nat.reduceEqDiff, Int.reduceToNat]
          rw [htk]
          simp only [mrk_c, mrk_i, mrk_n]
          try simp (disch := omega) only [wrap_i64]
          repeat' (refine And.intro ?_ ?_)
          all_goals first | trivial | rfl | omega | (exact I_eq (by omega))
    · have hk : d = l.length := by omega
      rw [hend, hk]
theorem heldStampSS_d (l : List ((.list tStamp) : Ty).den) (n : Int) (h0 : 0 ≤ n) (h1 : n + cnv (.list (.list tStamp)) l ≤ 1152921504606846976) (hs : Small (.list (.list tStamp)) 1073741824 l) : FunOK Try.prog 114 [⟨(.list (.list tStamp)), (mrk (.list (.list tStamp)) l n).1⟩, ⟨I, n⟩] (.rd I (mrk (.list (.list tStamp)) l n).2) := by
  have hl : l.length ≤ 1073741824 := hs.1
  have hml : (mrk (.list (.list tStamp)) l n).1.length = l.length := mrkL_len _ l n
  have hq : ∀ d : Nat, (mrkL (mrk (.list tStamp)) (l.take d) n).2 = n + (((l.take d).map (cnv (.list tStamp))).sum : Nat) := fun d => mrk_snd (.list (.list tStamp)) (l.take d) n
  have hc : ∀ d : Nat, d < l.length → n + (((l.take d).map (cnv (.list tStamp))).sum : Nat) + cnv (.list tStamp) (l.getD d ((.list tStamp) : Ty).dflt) ≤ 1152921504606846976 := fun d hd => by
    have := sum_take (cnv (.list tStamp)) hd ((.list tStamp) : Ty).dflt
    simp only [cnv] at h1 this ⊢
    omega
  have hg : ∀ d : Nat, d < l.length → (mrk (.list (.list tStamp)) l n).1.getD d ([] : ((.list tStamp) : Ty).den) = (mrk (.list tStamp) (l.getD d []) (mrkL (mrk (.list tStamp)) (l.take d) n).2).1 := fun d hd => mrkL_get (mrk (.list tStamp)) _ n hd
  have hend : mrk (.list (.list tStamp)) l n = mrkL (mrk (.list tStamp)) (l.take l.length) n := by rw [List.take_length]; rfl
  refine fun_of (tb := tb) follows Try.func114 (by kernel_rfl) Try.ntmps114 rfl rfl rfl ?_; intro cx hN hw
  simp (disch := exact eqId (by kernel_rfl)) only [go_sem, ↓reduceIte, Nat.reduceAdd, Nat.reduceMul, Nat.reduceLT, Nat.reduceBEq, Nat.reduceLeDiff, Nat.reduceEqDiff, Int.reduceToNat]
  refine loop_intro (tb := tb) follows hN (D := Nat) (fun d => shp [(0, .rd (.list (.list tStamp)) ((mrk (.list (.list tStamp)) l n).1)), (1, .rd I ((mrkL (mrk (.list tStamp)) (l.take d) n).2 : Int)), (5, .rd I (d : Int))] []) (fun d => d ≤ l.length) (fun d => l.length - d) (0) ?_ (sub_shp hN [] ?_) (fun d hd => ?_)
  · exact Nat.zero_le _
  · simp (disch := exact eqId (by kernel_rfl)) only [go_sem, ↓reduceIte, Nat.reduceAdd, Nat.reduceMul, Nat.reduceLT, Nat.reduceBEq, Nat.reduceLeDiff, Nat.reduceEqDiff, Int.reduceToNat]
    simp [mrkL]
  · simp (disch := exact eqId (by kernel_rfl)) only [go_sem, ↓reduceIte, Nat.reduceAdd, Nat.reduceMul, Nat.reduceLT, Nat.reduceBEq, Nat.reduceLeDiff, Nat.reduceEqDiff, Int.reduceToNat]
    rw [hml]
    refine ⟨fun hk => ?_, fun hk => ?_⟩
    · have hk : d < l.length := by omega
      have htk := congrArg Prod.snd (mrkL_take (mrk (.list tStamp)) hk ([] : ((.list tStamp) : Ty).den) n)
      have hK : 0 ≤ (mrkL (mrk (.list tStamp)) (l.take d) n).2 := by rw [hq d]; omega
      have c : (mrkL (mrk (.list tStamp)) (l.take d) n).2 + cnv (.list tStamp) (l.getD d []) ≤ 1152921504606846976 := by rw [hq d]; exact hc d hk
      have hm : Small (.list tStamp) 1073741824 (l.getD d []) := hs.2 _ (getD_mem hk _)
      have hgd := hg d hk
      generalize (mrk (.list (.list tStamp)) l n).1 = A at *
      generalize (mrkL (mrk (.list tStamp)) (l.take d) n).2 = K at *
      generalize l.getD d [] = y at *
      try simp only [cnv_c, cnv_i, cnv_n] at c
      have := mrk_snd (.list tStamp) y K
      try simp only [mrk_c, mrk_i, mrk_n] at hgd
      try simp (disch := omega) only [wrap_i64] at hgd
      simp only [hml, hgd]
      try simp (disch := omega) only [wrap_i64]
      repeat' (first | (refine And.intro ?_ ?_) | intro _ | (refine callQ_intro (heldStampS_m _ _ (by omega) (by omega) hm.1) ?_; try (simp (disch := exact eqId (by kernel_rfl)) only [go_sem, ↓reduceIte, Nat.reduceAdd, Nat.reduceMul, Nat.reduceLT, Nat.reduceBEq, Nat.reduceLeDiff, Nat.reduceEqDiff, Int.reduceToNat])) | (refine callH_intro (fun hcc => heldStampS_m _ _ (by omega) (by omega) hm.1) ?_; try (simp (disch := exact eqId (by kernel_rfl)) only [go_sem, ↓reduceIte, Nat.reduceAdd, Nat.reduceMul, Nat.reduceLT, Nat.reduceBEq, Nat.reduceLeDiff, Nat.reduceEqDiff, Int.reduceToNat])))
      all_goals (try simp only [hgd])
      all_goals (try simp (disch := omega) only [wrap_i64])
      repeat' (first | (refine And.intro ?_ ?_) | intro _ | (refine callQ_intro (heldStampS_m _ _ (by omega) (by omega) hm.1) ?_; try (simp (disch := exact eqId (by kernel_rfl)) only [go_sem, ↓reduceIte, Nat.reduceAdd, Nat.reduceMul, Nat.reduceLT, Nat.reduceBEq, Nat.reduceLeDiff, Nat.reduceEqDiff, Int.reduceToNat])) | (refine callH_intro (fun hcc => heldStampS_m _ _ (by omega) (by omega) hm.1) ?_; try (simp (disch := exact eqId (by kernel_rfl)) only [go_sem, ↓reduceIte, Nat.reduceAdd, Nat.reduceMul, Nat.reduceLT, Nat.reduceBEq, Nat.reduceLeDiff, Nat.reduceEqDiff, Int.reduceToNat])))
      all_goals (try simp only [hgd] at *)
      all_goals (try simp (disch := omega) only [wrap_i64] at *)
      all_goals (try omega)
      all_goals (try (exfalso; rename_i hx; first | exact hx rfl | exact hx trivial))
      · refine back_intro (d + 1) ?_ ?_ (sub_shp hN [] ?_)
        · exact hk
        · omega
        · simp (disch := exact eqId (by kernel_rfl)) only [go_sem, ↓reduceIte, Nat.reduceAdd, Nat.reduceMul, Nat.reduceLT, Nat.reduceBEq, Nat.reduceLeDiff, Nat.reduceEqDiff, Int.reduceToNat]
          rw [htk]
          simp only [mrk_c, mrk_i, mrk_n]
          try simp (disch := omega) only [wrap_i64]
          repeat' (refine And.intro ?_ ?_)
          all_goals first | trivial | rfl | omega | (exact I_eq (by omega))
    · have hk : d = l.length := by omega
      rw [hend, hk]
theorem heldIntSS_d (l : List ((.list I) : Ty).den) (n : Int) (h0 : 0 ≤ n) (h1 : n + cnv (.list (.list I)) l ≤ 1152921504606846976) (hs : Small (.list (.list I)) 1073741824 l) : FunOK Try.prog 44 [⟨(.list (.list I)), (mrk (.list (.list I)) l n).1⟩, ⟨I, n⟩] (.rd I (mrk (.list (.list I)) l n).2) := by
  have hl : l.length ≤ 1073741824 := hs.1
  have hml : (mrk (.list (.list I)) l n).1.length = l.length := mrkL_len _ l n
  have hq : ∀ d : Nat, (mrkL (mrk (.list I)) (l.take d) n).2 = n + (((l.take d).map (cnv (.list I))).sum : Nat) := fun d => mrk_snd (.list (.list I)) (l.take d) n
  have hc : ∀ d : Nat, d < l.length → n + (((l.take d).map (cnv (.list I))).sum : Nat) + cnv (.list I) (l.getD d ((.list I) : Ty).dflt) ≤ 1152921504606846976 := fun d hd => by
    have := sum_take (cnv (.list I)) hd ((.list I) : Ty).dflt
    simp only [cnv] at h1 this ⊢
    omega
  have hg : ∀ d : Nat, d < l.length → (mrk (.list (.list I)) l n).1.getD d ([] : ((.list I) : Ty).den) = (mrk (.list I) (l.getD d []) (mrkL (mrk (.list I)) (l.take d) n).2).1 := fun d hd => mrkL_get (mrk (.list I)) _ n hd
  have hend : mrk (.list (.list I)) l n = mrkL (mrk (.list I)) (l.take l.length) n := by rw [List.take_length]; rfl
  refine fun_of (tb := tb) follows Try.func44 (by kernel_rfl) Try.ntmps44 rfl rfl rfl ?_; intro cx hN hw
  simp (disch := exact eqId (by kernel_rfl)) only [go_sem, ↓reduceIte, Nat.reduceAdd, Nat.reduceMul, Nat.reduceLT, Nat.reduceBEq, Nat.reduceLeDiff, Nat.reduceEqDiff, Int.reduceToNat]
  refine loop_intro (tb := tb) follows hN (D := Nat) (fun d => shp [(0, .rd (.list (.list I)) ((mrk (.list (.list I)) l n).1)), (1, .rd I ((mrkL (mrk (.list I)) (l.take d) n).2 : Int)), (5, .rd I (d : Int))] []) (fun d => d ≤ l.length) (fun d => l.length - d) (0) ?_ (sub_shp hN [] ?_) (fun d hd => ?_)
  · exact Nat.zero_le _
  · simp (disch := exact eqId (by kernel_rfl)) only [go_sem, ↓reduceIte, Nat.reduceAdd, Nat.reduceMul, Nat.reduceLT, Nat.reduceBEq, Nat.reduceLeDiff, Nat.reduceEqDiff, Int.reduceToNat]
    simp [mrkL]
  · simp (disch := exact eqId (by kernel_rfl)) only [go_sem, ↓reduceIte, Nat.reduceAdd, Nat.reduceMul, Nat.reduceLT, Nat.reduceBEq, Nat.reduceLeDiff, Nat.reduceEqDiff, Int.reduceToNat]
    rw [hml]
    refine ⟨fun hk => ?_, fun hk => ?_⟩
    · have hk : d < l.length := by omega
      have htk := congrArg Prod.snd (mrkL_take (mrk (.list I)) hk ([] : ((.list I) : Ty).den) n)
      have hK : 0 ≤ (mrkL (mrk (.list I)) (l.take d) n).2 := by rw [hq d]; omega
      have c : (mrkL (mrk (.list I)) (l.take d) n).2 + cnv (.list I) (l.getD d []) ≤ 1152921504606846976 := by rw [hq d]; exact hc d hk
      have hm : Small (.list I) 1073741824 (l.getD d []) := hs.2 _ (getD_mem hk _)
      have hgd := hg d hk
      generalize (mrk (.list (.list I)) l n).1 = A at *
      generalize (mrkL (mrk (.list I)) (l.take d) n).2 = K at *
      generalize l.getD d [] = y at *
      try simp only [cnv_c, cnv_i, cnv_n] at c
      have := mrk_snd (.list I) y K
      try simp only [mrk_c, mrk_i, mrk_n] at hgd
      try simp (disch := omega) only [wrap_i64] at hgd
      simp only [hml, hgd]
      try simp (disch := omega) only [wrap_i64]
      repeat' (first | (refine And.intro ?_ ?_) | intro _ | (refine callQ_intro (heldIntS_m _ _ (by omega) (by omega) hm.1) ?_; try (simp (disch := exact eqId (by kernel_rfl)) only [go_sem, ↓reduceIte, Nat.reduceAdd, Nat.reduceMul, Nat.reduceLT, Nat.reduceBEq, Nat.reduceLeDiff, Nat.reduceEqDiff, Int.reduceToNat])) | (refine callH_intro (fun hcc => heldIntS_m _ _ (by omega) (by omega) hm.1) ?_; try (simp (disch := exact eqId (by kernel_rfl)) only [go_sem, ↓reduceIte, Nat.reduceAdd, Nat.reduceMul, Nat.reduceLT, Nat.reduceBEq, Nat.reduceLeDiff, Nat.reduceEqDiff, Int.reduceToNat])))
      all_goals (try simp only [hgd])
      all_goals (try simp (disch := omega) only [wrap_i64])
      repeat' (first | (refine And.intro ?_ ?_) | intro _ | (refine callQ_intro (heldIntS_m _ _ (by omega) (by omega) hm.1) ?_; try (simp (disch := exact eqId (by kernel_rfl)) only [go_sem, ↓reduceIte, Nat.reduceAdd, Nat.reduceMul, Nat.reduceLT, Nat.reduceBEq, Nat.reduceLeDiff, Nat.reduceEqDiff, Int.reduceToNat])) | (refine callH_intro (fun hcc => heldIntS_m _ _ (by omega) (by omega) hm.1) ?_; try (simp (disch := exact eqId (by kernel_rfl)) only [go_sem, ↓reduceIte, Nat.reduceAdd, Nat.reduceMul, Nat.reduceLT, Nat.reduceBEq, Nat.reduceLeDiff, Nat.reduceEqDiff, Int.reduceToNat])))
      all_goals (try simp only [hgd] at *)
      all_goals (try simp (disch := omega) only [wrap_i64] at *)
      all_goals (try omega)
      all_goals (try (exfalso; rename_i hx; first | exact hx rfl | exact hx trivial))
      · refine back_intro (d + 1) ?_ ?_ (sub_shp hN [] ?_)
        · exact hk
        · omega
        · simp (disch := exact eqId (by kernel_rfl)) only [go_sem, ↓reduceIte, Nat.reduceAdd, Nat.reduceMul, Nat.reduceLT, Nat.reduceBEq, Nat.reduceLeDiff, Nat.reduceEqDiff, Int.reduceToNat]
          rw [htk]
          simp only [mrk_c, mrk_i, mrk_n]
          try simp (disch := omega) only [wrap_i64]
          repeat' (refine And.intro ?_ ?_)
          all_goals first | trivial | rfl | omega | (exact I_eq (by omega))
    · have hk : d = l.length := by omega
      rw [hend, hk]
theorem markStrand_d (a : tStrand.den) (n : Int) (h0 : 0 ≤ n) (h1 : n + cnv tStrand a ≤ 1152921504606846976) (hs : Small tStrand 1073741824 a) : MutOK Try.prog 19 [some 2, none] [.obj (.deep TE tPiece a.1), .obj (.deep TE tRenewal a.2.1), .rd ⟨I, n⟩] (.rd I (mrk tStrand a n).2) [.deep TE tPiece (mrk tStrand a n).1.1, .deep TE tRenewal (mrk tStrand a n).1.2.1] := by
  have f1 := mrk_snd (.list tPiece) a.1 n
  have f2 := mrk_snd (.list tRenewal) a.2.1 (mrk (.list tPiece) a.1 n).2
  simp only [cnv_c, cnv_n] at h1
  refine fun_ofM (tb := tb) follows Try.func19 (by kernel_rfl) Try.ntmps19 rfl rfl (by simp [shOK]) rfl ?_; intro cx hN hw
  simp (disch := exact eqId (by kernel_rfl)) only [go_sem, ↓reduceIte, Nat.reduceAdd, Nat.reduceMul, Nat.reduceLT, Nat.reduceBEq, Nat.reduceLeDiff, Nat.reduceEqDiff, Int.reduceToNat]
  refine callM_intro (markPieceS_d a.1 n h0 (by omega) hs.1) ⟨⟨trivial, by decide⟩, rfl, rfl⟩ ?_
  simp (disch := exact eqId (by kernel_rfl)) only [go_sem, ↓reduceIte, Nat.reduceAdd, Nat.reduceMul, Nat.reduceLT, Nat.reduceBEq, Nat.reduceLeDiff, Nat.reduceEqDiff, Int.reduceToNat]
  refine callM_intro (markRenewalS_d a.2.1 _ (by omega) (by omega) hs.2.1) ⟨⟨trivial, by decide⟩, rfl, rfl⟩ ?_
  simp (disch := exact eqId (by kernel_rfl)) only [go_sem, ↓reduceIte, Nat.reduceAdd, Nat.reduceMul, Nat.reduceLT, Nat.reduceBEq, Nat.reduceLeDiff, Nat.reduceEqDiff, Int.reduceToNat]
  try simp only [mrk_c, mrk_n]
  try exact ⟨trivial, trivial, trivial⟩
theorem heldStrand_d (a : tStrand.den) (n : Int) (h0 : 0 ≤ n) (h1 : n + cnv tStrand a ≤ 1152921504606846976) (hs : Small tStrand 1073741824 a) : FunOK Try.prog 29 [⟨tStrand, (mrk tStrand a n).1⟩, ⟨I, n⟩] (.rd I (mrk tStrand a n).2) := by
  have f1 := mrk_snd (.list tPiece) a.1 n
  have f2 := mrk_snd (.list tRenewal) a.2.1 (mrk (.list tPiece) a.1 n).2
  simp only [cnv_c, cnv_n] at h1
  simp only [mrk_c, mrk_n]
  refine fun_of (tb := tb) follows Try.func29 (by kernel_rfl) Try.ntmps29 rfl rfl rfl ?_; intro cx hN hw
  simp (disch := exact eqId (by kernel_rfl)) only [go_sem, ↓reduceIte, Nat.reduceAdd, Nat.reduceMul, Nat.reduceLT, Nat.reduceBEq, Nat.reduceLeDiff, Nat.reduceEqDiff, Int.reduceToNat]
  repeat' (first | (refine And.intro ?_ ?_) | intro _ | (refine callQ_intro (heldPieceS_d a.1 n h0 (by omega) hs.1) ?_; try (simp (disch := exact eqId (by kernel_rfl)) only [go_sem, ↓reduceIte, Nat.reduceAdd, Nat.reduceMul, Nat.reduceLT, Nat.reduceBEq, Nat.reduceLeDiff, Nat.reduceEqDiff, Int.reduceToNat])) | (refine callH_intro (fun hcc => heldPieceS_d a.1 n h0 (by omega) hs.1) ?_; try (simp (disch := exact eqId (by kernel_rfl)) only [go_sem, ↓reduceIte, Nat.reduceAdd, Nat.reduceMul, Nat.reduceLT, Nat.reduceBEq, Nat.reduceLeDiff, Nat.reduceEqDiff, Int.reduceToNat])) | (refine callQ_intro (heldRenewalS_d a.2.1 _ (by omega) (by omega) hs.2.1) ?_; try (simp (disch := exact eqId (by kernel_rfl)) only [go_sem, ↓reduceIte, Nat.reduceAdd, Nat.reduceMul, Nat.reduceLT, Nat.reduceBEq, Nat.reduceLeDiff, Nat.reduceEqDiff, Int.reduceToNat])) | (refine callH_intro (fun hcc => heldRenewalS_d a.2.1 _ (by omega) (by omega) hs.2.1) ?_; try (simp (disch := exact eqId (by kernel_rfl)) only [go_sem, ↓reduceIte, Nat.reduceAdd, Nat.reduceMul, Nat.reduceLT, Nat.reduceBEq, Nat.reduceLeDiff, Nat.reduceEqDiff, Int.reduceToNat])))
  all_goals (try omega)
theorem markRenewal_d (a : tRenewal.den) (n : Int) (h0 : 0 ≤ n) (h1 : n + cnv (.list tStep) a.2.2.2.1 + cnv (.list tStamp) a.2.2.2.2.1 ≤ 1152921504606846976) (hs : Small tRenewal 1073741824 a) : MutOK Try.prog 35 [some 5, none] [.rd ⟨I, a.1⟩, .rd ⟨I, a.2.1⟩, .rd ⟨I, a.2.2.1⟩, .obj (.arr 151 tStep a.2.2.2.1), .obj (.arr 155 tStamp a.2.2.2.2.1), .rd ⟨I, n⟩] (.rd I (n + cnv (.list tStep) a.2.2.2.1 + cnv (.list tStamp) a.2.2.2.2.1 : Int)) [.arr 151 tStep (mrk (.list tStep) a.2.2.2.1 n).1, .arr 155 tStamp (mrk (.list tStamp) a.2.2.2.2.1 (mrk (.list tStep) a.2.2.2.1 n).2).1] := by
  have f1 := mrk_snd (.list tStep) a.2.2.2.1 n
  have f2 := mrk_snd (.list tStamp) a.2.2.2.2.1 (mrk (.list tStep) a.2.2.2.1 n).2
  refine fun_ofM (tb := tb) follows Try.func35 (by kernel_rfl) Try.ntmps35 rfl rfl (by simp [shOK]) rfl ?_; intro cx hN hw
  simp (disch := exact eqId (by kernel_rfl)) only [go_sem, ↓reduceIte, Nat.reduceAdd, Nat.reduceMul, Nat.reduceLT, Nat.reduceBEq, Nat.reduceLeDiff, Nat.reduceEqDiff, Int.reduceToNat]
  refine callM_intro (markStepS_m a.2.2.2.1 n h0 (by omega) hs.2.2.2.1.1) ⟨⟨trivial, by decide⟩, rfl, rfl⟩ ?_
  simp (disch := exact eqId (by kernel_rfl)) only [go_sem, ↓reduceIte, Nat.reduceAdd, Nat.reduceMul, Nat.reduceLT, Nat.reduceBEq, Nat.reduceLeDiff, Nat.reduceEqDiff, Int.reduceToNat]
  refine callM_intro (markStampS_m a.2.2.2.2.1 _ (by omega) (by omega) hs.2.2.2.2.1.1) ⟨⟨trivial, by decide⟩, rfl, rfl⟩ ?_
  simp (disch := exact eqId (by kernel_rfl)) only [go_sem, ↓reduceIte, Nat.reduceAdd, Nat.reduceMul, Nat.reduceLT, Nat.reduceBEq, Nat.reduceLeDiff, Nat.reduceEqDiff, Int.reduceToNat]
  first | (rw [f2, f1]; done) | exact I_eq (by rw [f2, f1]) | omega
theorem markEvidence_d (a : tEvidence.den) (n : Int) (h0 : 0 ≤ n) (h1 : n + cnv tEvidence a ≤ 1152921504606846976) (hs : Small tEvidence 1073741824 a) : MutOK Try.prog 42 [some 2, none] [.obj (.deep TE tStrand a.1), .obj (.deep TE (.list tStamp) a.2.1), .rd ⟨I, n⟩] (.rd I (mrk tEvidence a n).2) [.deep TE tStrand (mrk tEvidence a n).1.1, .deep TE (.list tStamp) (mrk tEvidence a n).1.2.1] := by
  have f1 := mrk_snd (.list tStrand) a.1 n
  have f2 := mrk_snd (.list (.list tStamp)) a.2.1 (mrk (.list tStrand) a.1 n).2
  simp only [cnv_c (.list tStrand), cnv_c (.list (.list tStamp)), cnv_n] at h1
  refine fun_ofM (tb := tb) follows Try.func42 (by kernel_rfl) Try.ntmps42 rfl rfl (by simp [shOK]) rfl ?_; intro cx hN hw
  simp (disch := exact eqId (by kernel_rfl)) only [go_sem, ↓reduceIte, Nat.reduceAdd, Nat.reduceMul, Nat.reduceLT, Nat.reduceBEq, Nat.reduceLeDiff, Nat.reduceEqDiff, Int.reduceToNat]
  refine callM_intro (markStrandS_d a.1 n h0 (by omega) hs.1) ⟨⟨trivial, by decide⟩, rfl, rfl⟩ ?_
  simp (disch := exact eqId (by kernel_rfl)) only [go_sem, ↓reduceIte, Nat.reduceAdd, Nat.reduceMul, Nat.reduceLT, Nat.reduceBEq, Nat.reduceLeDiff, Nat.reduceEqDiff, Int.reduceToNat]
  refine callM_intro (markStampSS_d a.2.1 _ (by omega) (by omega) hs.2.1) ⟨⟨trivial, by decide⟩, rfl, rfl⟩ ?_
  simp (disch := exact eqId (by kernel_rfl)) only [go_sem, ↓reduceIte, Nat.reduceAdd, Nat.reduceMul, Nat.reduceLT, Nat.reduceBEq, Nat.reduceLeDiff, Nat.reduceEqDiff, Int.reduceToNat]
  try simp only [mrk_c (.list tStrand), mrk_c (.list (.list tStamp)), mrk_n]
  try exact ⟨trivial, trivial, trivial⟩
theorem heldEvidence_d (a : tEvidence.den) (n : Int) (h0 : 0 ≤ n) (h1 : n + cnv tEvidence a ≤ 1152921504606846976) (hs : Small tEvidence 1073741824 a) : FunOK Try.prog 53 [⟨tEvidence, (mrk tEvidence a n).1⟩, ⟨I, n⟩] (.rd I (mrk tEvidence a n).2) := by
  have f1 := mrk_snd (.list tStrand) a.1 n
  have f2 := mrk_snd (.list (.list tStamp)) a.2.1 (mrk (.list tStrand) a.1 n).2
  simp only [cnv_c (.list tStrand), cnv_c (.list (.list tStamp)), cnv_n] at h1
  simp only [mrk_c (.list tStrand), mrk_c (.list (.list tStamp)), mrk_n]
  refine fun_of (tb := tb) follows Try.func53 (by kernel_rfl) Try.ntmps53 rfl rfl rfl ?_; intro cx hN hw
  simp (disch := exact eqId (by kernel_rfl)) only [go_sem, ↓reduceIte, Nat.reduceAdd, Nat.reduceMul, Nat.reduceLT, Nat.reduceBEq, Nat.reduceLeDiff, Nat.reduceEqDiff, Int.reduceToNat]
  repeat' (first | (refine And.intro ?_ ?_) | intro _ | (refine callQ_intro (heldStrandS_d a.1 n h0 (by omega) hs.1) ?_; try (simp (disch := exact eqId (by kernel_rfl)) only [go_sem, ↓reduceIte, Nat.reduceAdd, Nat.reduceMul, Nat.reduceLT, Nat.reduceBEq, Nat.reduceLeDiff, Nat.reduceEqDiff, Int.reduceToNat])) | (refine callH_intro (fun hcc => heldStrandS_d a.1 n h0 (by omega) hs.1) ?_; try (simp (disch := exact eqId (by kernel_rfl)) only [go_sem, ↓reduceIte, Nat.reduceAdd, Nat.reduceMul, Nat.reduceLT, Nat.reduceBEq, Nat.reduceLeDiff, Nat.reduceEqDiff, Int.reduceToNat])) | (refine callQ_intro (heldStampSS_d a.2.1 _ (by omega) (by omega) hs.2.1) ?_; try (simp (disch := exact eqId (by kernel_rfl)) only [go_sem, ↓reduceIte, Nat.reduceAdd, Nat.reduceMul, Nat.reduceLT, Nat.reduceBEq, Nat.reduceLeDiff, Nat.reduceEqDiff, Int.reduceToNat])) | (refine callH_intro (fun hcc => heldStampSS_d a.2.1 _ (by omega) (by omega) hs.2.1) ?_; try (simp (disch := exact eqId (by kernel_rfl)) only [go_sem, ↓reduceIte, Nat.reduceAdd, Nat.reduceMul, Nat.reduceLT, Nat.reduceBEq, Nat.reduceLeDiff, Nat.reduceEqDiff, Int.reduceToNat])))
  all_goals (try omega)
end Go.Proofs.Ytfkdkblbhilghaa
/- What functions of growing strands answer, with all rows their own. It proves nothing of a statement by itself. -/
set_option linter.unusedSimpArgs false
set_option linter.unusedVariables false
set_option maxRecDepth 100000
namespace Go.Proofs.Ytfkdkblbhilghaa
open Go.AL
theorem copyPiece_fr (p : tPiece.den) (hp : p.2.1.length ≤ 1048576) : FunOK Try.prog 76 [⟨tPiece, p⟩] (.agg [.rd I p.1, .fresh 3 I p.2.1, .rd I p.2.2.1]) := (copyPiece_ok p hp).fr rfl
theorem copyStamps_fr (l : List tStamp.den) (hl : l.length ≤ 1048576) : FunOK Try.prog 112 [⟨(.list tStamp), l⟩] (.fresh 155 tStamp l) := (copyStamps_ok l hl).fr rfl
theorem copyRenewal_fr (r : tRenewal.den) (h1 : r.2.2.2.1.length ≤ 1048576) (h2 : r.2.2.2.2.1.length ≤ 1048576) : FunOK Try.prog 85 [⟨tRenewal, r⟩] (.agg [.rd I r.1, .rd I r.2.1, .rd I r.2.2.1, .fresh 151 tStep r.2.2.2.1, .fresh 155 tStamp r.2.2.2.2.1]) := (copyRenewal_ok r h1 h2).fr rfl
theorem copyPieces_d (l : List tPiece.den) (hl : l.length ≤ 1048576) (hp : ∀ p, p ∈ l → p.2.1.length ≤ 1048576) : FunOK Try.prog 125 [⟨(.list tPiece), l⟩] (.deep TE tPiece l) := by
  refine fun_ofN (tb := tbd) follows Try.func125 (by kernel_rfl) Try.ntmps125 rfl rfl rfl ?_; intro cx hN hw
  simp (disch := exact eqId (by kernel_rfl)) only [go_sem, ↓reduceIte, Nat.reduceAdd, Nat.reduceMul, Nat.reduceLT, Nat.reduceBEq, Nat.reduceLeDiff, Nat.reduceEqDiff, Int.reduceToNat]
  refine loop_intro (tb := tbd) follows hN (D := Nat) (fun d => shp [(3, .own 20000), (6, .rd (.list tPiece) (l)), (7, .rd I (((l).length : Int) : Int)), (8, .rd I (d : Int))] [(20000, .deep TE tPiece (l.take d))]) (fun d => d ≤ l.length) (fun d => l.length - d) (0) ?_ (sub_shp hN [(20000, none)] ?_) (fun d hd => ?_)
  · exact Nat.zero_le _
  · simp (disch := exact eqId (by kernel_rfl)) only [go_sem, ↓reduceIte, Nat.reduceAdd, Nat.reduceMul, Nat.reduceLT, Nat.reduceBEq, Nat.reduceLeDiff, Nat.reduceEqDiff, Int.reduceToNat]
    try exact ⟨rfl, rfl⟩
    try rfl
  · simp (disch := exact eqId (by kernel_rfl)) only [go_sem, ↓reduceIte, Nat.reduceAdd, Nat.reduceMul, Nat.reduceLT, Nat.reduceBEq, Nat.reduceLeDiff, Nat.reduceEqDiff, Int.reduceToNat]
    repeat' (first | (refine And.intro ?_ ?_) | intro _ | (refine callQ_intro (copyPiece_fr _ (hp _ (getD_mem (by omega) _))) ?_; try (simp (disch := exact eqId (by kernel_rfl)) only [go_sem, ↓reduceIte, Nat.reduceAdd, Nat.reduceMul, Nat.reduceLT, Nat.reduceBEq, Nat.reduceLeDiff, Nat.reduceEqDiff, Int.reduceToNat])) | (refine callH_intro (fun hcc => copyPiece_fr _ (hp _ (getD_mem (by omega) _))) ?_; try (simp (disch := exact eqId (by kernel_rfl)) only [go_sem, ↓reduceIte, Nat.reduceAdd, Nat.reduceMul, Nat.reduceLT, Nat.reduceBEq, Nat.reduceLeDiff, Nat.reduceEqDiff, Int.reduceToNat])))
    all_goals (try omega)
    all_goals (try (simp only [List.length_append, List.length_cons, List.length_nil, List.length_take]; omega))
    · rename_i hk
      refine back_intro (d + 1) ?_ ?_ (sub_shp hN [(20000, some 60064)] ?_)
      · omega
      · omega
      · simp (disch := exact eqId (by kernel_rfl)) only [go_sem, ↓reduceIte, Nat.reduceAdd, Nat.reduceMul, Nat.reduceLT, Nat.reduceBEq, Nat.reduceLeDiff, Nat.reduceEqDiff, Int.reduceToNat]
        refine ⟨?_, wrap_succ' (by omega)⟩
        exact take_snoc (show d < l.length by omega) _
    · rename_i hk
      rw [List.take_of_length_le (by omega)]
      try exact .inl rfl
    all_goals trace_state
theorem copyStrand_d (s : tStrand.den) (hs : Small tStrand 1048576 s) : FunOK Try.prog 75 [⟨tStrand, s⟩] (.agg [.deep TE tPiece s.1, .deep TE tRenewal s.2.1]) := by
  obtain ⟨h1, h2⟩ := sm_pc hs
  obtain ⟨h3, h4⟩ := sm_ch hs
  refine fun_ofN (tb := tbd) follows Try.func75 (by kernel_rfl) Try.ntmps75 rfl rfl rfl ?_; intro cx hN hw
  simp (disch := exact eqId (by kernel_rfl)) only [go_sem, ↓reduceIte, Nat.reduceAdd, Nat.reduceMul, Nat.reduceLT, Nat.reduceBEq, Nat.reduceLeDiff, Nat.reduceEqDiff, Int.reduceToNat]
  repeat' (first | (refine And.intro ?_ ?_) | intro _ | (refine callQ_intro (copyPieces_d _ h1 h2) ?_; try (simp (disch := exact eqId (by kernel_rfl)) only [go_sem, ↓reduceIte, Nat.reduceAdd, Nat.reduceMul, Nat.reduceLT, Nat.reduceBEq, Nat.reduceLeDiff, Nat.reduceEqDiff, Int.reduceToNat])) | (refine callH_intro (fun hcc => copyPieces_d _ h1 h2) ?_; try (simp (disch := exact eqId (by kernel_rfl)) only [go_sem, ↓reduceIte, Nat.reduceAdd, Nat.reduceMul, Nat.reduceLT, Nat.reduceBEq, Nat.reduceLeDiff, Nat.reduceEqDiff, Int.reduceToNat])))
  refine loop_intro (tb := tbd) follows hN (D := Nat) (fun d => shp [(2, .bp 10016 0), (3, .bp 20064 0), (11, .rd (.list tRenewal) (s.2.1)), (12, .rd I (((s.2.1).length : Int) : Int)), (13, .rd I (d : Int))] [(10016, .box 36 [.nils, .nils]), (20032, .deep TE tPiece s.1), (20064, .box 36 [.own 20032, .own 90000]), (90000, .deep TE tRenewal (List.take d s.2.1))]) (fun d => d ≤ List.length s.2.1) (fun d => List.length s.2.1 - d) (0) ?_ (sub_shp hN [(10016, some 10016), (20064, some 20064), (20032, some 20032), (90000, none)] ?_) (fun d hd => ?_)
  · exact Nat.zero_le _
  · simp (disch := exact eqId (by kernel_rfl)) only [go_sem, ↓reduceIte, Nat.reduceAdd, Nat.reduceMul, Nat.reduceLT, Nat.reduceBEq, Nat.reduceLeDiff, Nat.reduceEqDiff, Int.reduceToNat]
    try exact ⟨rfl, rfl⟩
    try rfl
  · simp (disch := exact eqId (by kernel_rfl)) only [go_sem, ↓reduceIte, Nat.reduceAdd, Nat.reduceMul, Nat.reduceLT, Nat.reduceBEq, Nat.reduceLeDiff, Nat.reduceEqDiff, Int.reduceToNat]
    repeat' (first | (refine And.intro ?_ ?_) | intro _ | (refine callQ_intro (copyRenewal_fr _ (h4 _ (getD_mem (by omega) _)).1 (h4 _ (getD_mem (by omega) _)).2) ?_; try (simp (disch := exact eqId (by kernel_rfl)) only [go_sem, ↓reduceIte, Nat.reduceAdd, Nat.reduceMul, Nat.reduceLT, Nat.reduceBEq, Nat.reduceLeDiff, Nat.reduceEqDiff, Int.reduceToNat])) | (refine callH_intro (fun hcc => copyRenewal_fr _ (h4 _ (getD_mem (by omega) _)).1 (h4 _ (getD_mem (by omega) _)).2) ?_; try (simp (disch := exact eqId (by kernel_rfl)) only [go_sem, ↓reduceIte, Nat.reduceAdd, Nat.reduceMul, Nat.reduceLT, Nat.reduceBEq, Nat.reduceLeDiff, Nat.reduceEqDiff, Int.reduceToNat])))
    all_goals (try omega)
    all_goals (try (simp only [List.length_append, List.length_cons, List.length_nil, List.length_take]; omega))
    · rename_i hk
      refine back_intro (d + 1) ?_ ?_ (sub_shp hN [(10016, some 10016), (20064, some 20064), (20032, some 20032), (90000, some 60080)] ?_)
      · omega
      · omega
      · simp (disch := exact eqId (by kernel_rfl)) only [go_sem, ↓reduceIte, Nat.reduceAdd, Nat.reduceMul, Nat.reduceLT, Nat.reduceBEq, Nat.reduceLeDiff, Nat.reduceEqDiff, Int.reduceToNat]
        refine ⟨?_, wrap_succ' (by omega)⟩
        exact take_snoc (show d < List.length s.2.1 by omega) _
    · rename_i hk
      rw [List.take_of_length_le (by omega)]
      try exact .inl rfl
    all_goals trace_state
theorem impl_AddPiece_d (s : tStrand.den) (p : tPiece.den) (hs : Small tStrand 1048576 s) (hp : p.2.1.length ≤ 1048576) : FunOK Try.prog 26 [⟨tStrand, s⟩, ⟨tPiece, p⟩] (.tup [.agg [.deep TE tPiece (apF s p).1.1, .deep TE tRenewal (apF s p).1.2.1], .rd .bool (apF s p).2]) := by
  have h1 := (sm_pc hs).1
  have h2 := (sm_ch hs).1
  refine fun_ofN (tb := tbd) follows Try.func26 (by kernel_rfl) Try.ntmps26 rfl rfl rfl ?_; intro cx hN hw
  simp (disch := exact eqId (by kernel_rfl)) only [go_sem, ↓reduceIte, Nat.reduceAdd, Nat.reduceMul, Nat.reduceLT, Nat.reduceBEq, Nat.reduceLeDiff, Nat.reduceEqDiff, Int.reduceToNat]
  repeat' (first | (refine And.intro ?_ ?_) | intro _ | (refine callB_intro (impl_IsStrand_ok _) rfl trivial ?_; try (simp (disch := exact eqId (by kernel_rfl)) only [go_sem, ↓reduceIte, Nat.reduceAdd, Nat.reduceMul, Nat.reduceLT, Nat.reduceBEq, Nat.reduceLeDiff, Nat.reduceEqDiff, Int.reduceToNat])) | (refine callQ_intro (copyStrand_d _ hs) ?_; try (simp (disch := exact eqId (by kernel_rfl)) only [go_sem, ↓reduceIte, Nat.reduceAdd, Nat.reduceMul, Nat.reduceLT, Nat.reduceBEq, Nat.reduceLeDiff, Nat.reduceEqDiff, Int.reduceToNat])) | (refine callH_intro (fun hcc => copyStrand_d _ hs) ?_; try (simp (disch := exact eqId (by kernel_rfl)) only [go_sem, ↓reduceIte, Nat.reduceAdd, Nat.reduceMul, Nat.reduceLT, Nat.reduceBEq, Nat.reduceLeDiff, Nat.reduceEqDiff, Int.reduceToNat])) | (refine callQ_intro (copyPiece_fr _ hp) ?_; try (simp (disch := exact eqId (by kernel_rfl)) only [go_sem, ↓reduceIte, Nat.reduceAdd, Nat.reduceMul, Nat.reduceLT, Nat.reduceBEq, Nat.reduceLeDiff, Nat.reduceEqDiff, Int.reduceToNat])) | (refine callH_intro (fun hcc => copyPiece_fr _ hp) ?_; try (simp (disch := exact eqId (by kernel_rfl)) only [go_sem, ↓reduceIte, Nat.reduceAdd, Nat.reduceMul, Nat.reduceLT, Nat.reduceBEq, Nat.reduceLeDiff, Nat.reduceEqDiff, Int.reduceToNat])))
  all_goals (try refine .inl ?_)
  all_goals (try omega)
  all_goals (try (simp only [List.length_append, List.length_cons, List.length_nil]; omega))
  all_goals (rename_i hc; first | exact (congrArg (fun x => x.1.1) (apF_y hc)).symm | exact (congrArg (fun x => x.1.2.1) (apF_y hc)).symm | exact (congrArg (fun x => x.2) (apF_y hc)).symm | exact (congrArg (fun x => x.1.1) (apF_n hc)).symm | exact (congrArg (fun x => x.1.2.1) (apF_n hc)).symm | exact (congrArg (fun x => x.2) (apF_n hc)).symm | trace_state)
theorem impl_AddRenewal_d (s : tStrand.den) (r : tRenewal.den) (hs : Small tStrand 1048576 s) (hr1 : r.2.2.2.1.length ≤ 1048576) (hr2 : r.2.2.2.2.1.length ≤ 1048576) : FunOK Try.prog 33 [⟨tStrand, s⟩, ⟨tRenewal, r⟩] (.tup [.agg [.deep TE tPiece (arF s r).1.1, .deep TE tRenewal (arF s r).1.2.1], .rd .bool (arF s r).2]) := by
  have h1 := (sm_pc hs).1
  have h2 := (sm_ch hs).1
  refine fun_ofN (tb := tbd) follows Try.func33 (by kernel_rfl) Try.ntmps33 rfl rfl rfl ?_; intro cx hN hw
  simp (disch := exact eqId (by kernel_rfl)) only [go_sem, ↓reduceIte, Nat.reduceAdd, Nat.reduceMul, Nat.reduceLT, Nat.reduceBEq, Nat.reduceLeDiff, Nat.reduceEqDiff, Int.reduceToNat]
  repeat' (first | (refine And.intro ?_ ?_) | intro _ | (refine callB_intro (impl_IsStrand_ok _) rfl trivial ?_; try (simp (disch := exact eqId (by kernel_rfl)) only [go_sem, ↓reduceIte, Nat.reduceAdd, Nat.reduceMul, Nat.reduceLT, Nat.reduceBEq, Nat.reduceLeDiff, Nat.reduceEqDiff, Int.reduceToNat])) | (refine callQ_intro (copyStrand_d _ hs) ?_; try (simp (disch := exact eqId (by kernel_rfl)) only [go_sem, ↓reduceIte, Nat.reduceAdd, Nat.reduceMul, Nat.reduceLT, Nat.reduceBEq, Nat.reduceLeDiff, Nat.reduceEqDiff, Int.reduceToNat])) | (refine callH_intro (fun hcc => copyStrand_d _ hs) ?_; try (simp (disch := exact eqId (by kernel_rfl)) only [go_sem, ↓reduceIte, Nat.reduceAdd, Nat.reduceMul, Nat.reduceLT, Nat.reduceBEq, Nat.reduceLeDiff, Nat.reduceEqDiff, Int.reduceToNat])) | (refine callQ_intro (copyRenewal_fr _ hr1 hr2) ?_; try (simp (disch := exact eqId (by kernel_rfl)) only [go_sem, ↓reduceIte, Nat.reduceAdd, Nat.reduceMul, Nat.reduceLT, Nat.reduceBEq, Nat.reduceLeDiff, Nat.reduceEqDiff, Int.reduceToNat])) | (refine callH_intro (fun hcc => copyRenewal_fr _ hr1 hr2) ?_; try (simp (disch := exact eqId (by kernel_rfl)) only [go_sem, ↓reduceIte, Nat.reduceAdd, Nat.reduceMul, Nat.reduceLT, Nat.reduceBEq, Nat.reduceLeDiff, Nat.reduceEqDiff, Int.reduceToNat])))
  all_goals (try refine .inl ?_)
  all_goals (try omega)
  all_goals (try (simp only [List.length_append, List.length_cons, List.length_nil]; omega))
  all_goals (rename_i hc; first | exact (congrArg (fun x => x.1.1) (arF_y hc)).symm | exact (congrArg (fun x => x.1.2.1) (arF_y hc)).symm | exact (congrArg (fun x => x.2) (arF_y hc)).symm | exact (congrArg (fun x => x.1.1) (arF_n hc)).symm | exact (congrArg (fun x => x.1.2.1) (arF_n hc)).symm | exact (congrArg (fun x => x.2) (arF_n hc)).symm | trace_state)
end Go.Proofs.Ytfkdkblbhilghaa
