/- What the functions of successions and lines of keys answer, on both sides. It proves nothing of a statement by itself. -/
import Derived.Test.YtkneckknjmahdaaGreatPm
set_option linter.unusedSimpArgs false
set_option linter.unusedVariables false
set_option maxRecDepth 100000
namespace Go.Proofs.YtkneckknjmahdaaGreat
open Go.AL
def sucI (x : tSuccession.den) : List Int := [106, x.1, x.2.1, x.2.2.1]
theorem suc_len (x : tSuccession.den) : (sucI x).length ≤ 1073741823 := by simp [sucI]
def finK (l : List tKey.den) (n : Int) : Int := finF (fun x : tKey.den => x.1) n l 0
def ownF (l : List tKey.den) (n : Int) : Int := if 0 ≤ finK l n then (l.getD (finK l n).toNat (0, 0, 0, 0, 0, ())).2.1 else -1
theorem finF_mem (q : Int) : ∀ (l : List Int) (i : Int), 0 ≤ i → (0 ≤ finF (fun x : Int => x) q l i ↔ q ∈ l)
  | [], i, h => by simp [finF]
  | x :: xs, i, h => by
    unfold finF
    split
    · rename_i e
      simp [e, h]
    · rename_i e
      rw [finF_mem q xs (i + 1) (by omega)]
      simp only [List.mem_cons]
      exact ⟨fun h => .inr h, fun h => h.resolve_left (fun h => e h.symm)⟩
def sucF (l : List tKey.den) (x : tSuccession.den) : tSuccession.den × Bool :=
  if finK l x.1 < 0 ∨ finK l x.2.1 < 0 ∨ x.1 = x.2.1 ∨ ownF l x.1 ≠ ownF l x.2.1 ∨ ¬ (0 ≤ (x.2.2.1 : Int) ∧ (x.2.2.1 : Int) ≤ 10000) then ((0, 0, 0, 0, ()), false)
  else ((x.1, x.2.1, x.2.2.1, (mbF l x.1 (sucI x)).1, ()), true)
theorem mb_f (l : List tKey.den) (n : Int) (w : List Int) : ((mbF l n w).2 = false) = (finF (fun x : tKey.den => x.1) n l 0 < 0) := by
  unfold mbF
  split
  · rename_i h; simp [h]
  · rename_i h; simp [h]
theorem mb_t (l : List tKey.den) (n : Int) (w : List Int) : ((mbF l n w).2 = true) = ¬ (finF (fun x : tKey.den => x.1) n l 0 < 0) := by
  rw [← mb_f l n w]; simp
theorem sucF_f {l : List tKey.den} {x : tSuccession.den} (h : ((((mbF l x.1 (sucI x)).2 = false ∨ finF (fun x : tKey.den => x.1) x.2.1 l 0 < 0) ∨ x.1 = x.2.1) ∨ ¬ ownF l x.1 = ownF l x.2.1) ∨ inB x.2.2.1 0 10000 = false) : sucF l x = ((0, 0, 0, 0, ()), false) := by
  unfold sucF finK
  rw [if_pos]
  rw [mb_f, inB_f] at h
  rcases h with (((h | h) | h) | h) | h
  · exact .inl h
  · exact .inr (.inl h)
  · exact .inr (.inr (.inl h))
  · exact .inr (.inr (.inr (.inl h)))
  · exact .inr (.inr (.inr (.inr h)))
theorem sucF_t {l : List tKey.den} {x : tSuccession.den} (h : ((((mbF l x.1 (sucI x)).2 = true ∧ ¬ finF (fun x : tKey.den => x.1) x.2.1 l 0 < 0) ∧ ¬ x.1 = x.2.1) ∧ ownF l x.1 = ownF l x.2.1) ∧ inB x.2.2.1 0 10000 = true) : sucF l x = ((x.1, x.2.1, x.2.2.1, (mbF l x.1 (sucI x)).1, ()), true) := by
  unfold sucF finK
  rw [if_neg]
  rw [mb_t, inB_t] at h
  rintro (k | k | k | k | k)
  · exact h.1.1.1.1 k
  · exact h.1.1.1.2 k
  · exact h.1.1.2 k
  · exact k h.1.2
  · exact k h.2
theorem ownF_at {l : List tKey.den} {n : Int} (h : ¬ finF (fun x : tKey.den => x.1) n l 0 < 0) : ownF l n = (l.getD (finF (fun x : tKey.den => x.1) n l 0).toNat (0, 0, 0, 0, 0, ())).2.1 := by
  unfold ownF finK
  rw [if_pos (by omega)]
theorem sucG_f {l : List tKey.den} {x : tSuccession.den} (h : (((finF (fun x : tKey.den => x.1) x.1 l 0 < 0 ∨ finF (fun x : tKey.den => x.1) x.2.1 l 0 < 0) ∨ x.1 = x.2.1) ∨ ¬ (l.getD (finF (fun x : tKey.den => x.1) x.1 l 0).toNat (0, 0, 0, 0, 0, ())).2.1 = (l.getD (finF (fun x : tKey.den => x.1) x.2.1 l 0).toNat (0, 0, 0, 0, 0, ())).2.1) ∨ inB x.2.2.1 0 10000 = false) : sucF l x = ((0, 0, 0, 0, ()), false) := by
  unfold sucF finK
  rw [if_pos]
  rw [inB_f] at h
  rcases h with (((h | h) | h) | h) | h
  · exact .inl h
  · exact .inr (.inl h)
  · exact .inr (.inr (.inl h))
  · by_cases f1 : finF (fun x : tKey.den => x.1) x.1 l 0 < 0
    · exact .inl f1
    · by_cases f2 : finF (fun x : tKey.den => x.1) x.2.1 l 0 < 0
      · exact .inr (.inl f2)
      · exact .inr (.inr (.inr (.inl (by rw [ownF_at f1, ownF_at f2]; exact h))))
  · exact .inr (.inr (.inr (.inr h)))
theorem sucG_t {l : List tKey.den} {x : tSuccession.den} (h : (((¬ finF (fun x : tKey.den => x.1) x.1 l 0 < 0 ∧ ¬ finF (fun x : tKey.den => x.1) x.2.1 l 0 < 0) ∧ ¬ x.1 = x.2.1) ∧ (l.getD (finF (fun x : tKey.den => x.1) x.1 l 0).toNat (0, 0, 0, 0, 0, ())).2.1 = (l.getD (finF (fun x : tKey.den => x.1) x.2.1 l 0).toNat (0, 0, 0, 0, 0, ())).2.1) ∧ inB x.2.2.1 0 10000 = true) : sucF l x = ((x.1, x.2.1, x.2.2.1, mwF (l.getD (finF (fun x : tKey.den => x.1) x.1 l 0).toNat (0, 0, 0, 0, 0, ())) (sucI x), ()), true) := by
  have e : (mbF l x.1 (sucI x)).1 = mwF (l.getD (finF (fun x : tKey.den => x.1) x.1 l 0).toNat (0, 0, 0, 0, 0, ())) (sucI x) := by
    unfold mbF
    rw [if_neg h.1.1.1.1]
  unfold sucF finK
  rw [if_neg, e]
  rw [inB_t] at h
  rintro (k | k | k | k | k)
  · exact h.1.1.1.1 k
  · exact h.1.1.1.2 k
  · exact h.1.1.2 k
  · exact k (by rw [ownF_at h.1.1.1.1, ownF_at h.1.1.1.2]; exact h.1.2)
  · exact k h.2
noncomputable def cksF (l : List tKey.den) (x : tSuccession.den) : Bool := (sucF l x).2 && eqC (sucF l x).1 x
noncomputable def nkF (ks : List tKey.den) (key t : Int) : List tSuccession.den → Int
  | [] => 0
  | x :: xs => if (x.1 : Int) = key ∧ (x.2.2.1 : Int) ≤ t ∧ cksF ks x = true then x.2.1 else nkF ks key t xs
def nwF (ls : List tSuccession.den) : List Int := ls.map (fun x => x.2.1)
theorem nkF_mem (ks : List tKey.den) (key t : Int) : ∀ ls, nkF ks key t ls = 0 ∨ nkF ks key t ls ∈ nwF ls
  | [] => .inl rfl
  | x :: xs => by
    unfold nkF
    split
    · exact .inr (by simp [nwF])
    · rcases nkF_mem ks key t xs with h | h
      · exact .inl h
      · exact .inr (by unfold nwF at h ⊢; rw [List.map_cons]; exact List.mem_cons_of_mem _ h)
noncomputable def klF (ks : List tKey.den) (ls : List tSuccession.den) (key t : Int) : List Int :=
  if finK ks key < 0 ∨ key = 0 then [] else lineF (fun k => nkF ks k t ls) (ls.length + 2) [] key
theorem klF_len (ks : List tKey.den) (ls : List tSuccession.den) (key t : Int) : (klF ks ls key t).length ≤ ls.length + 2 := by
  unfold klF
  split
  · exact Nat.zero_le _
  · simpa using lineF_len (fun k => nkF ks k t ls) (ls.length + 2) [] key
noncomputable def ckyF (ks : List tKey.den) (ls : List tSuccession.den) (key t : Int) : Int := (klF ks ls key t).getD ((klF ks ls key t).length - 1) 0
end Go.Proofs.YtkneckknjmahdaaGreat
