/- Plain facts about lists, numbers and readings, for the contracts. It proves nothing of a statement by itself. -/
import Derived.Test.YtcbecpjhgfkofaaAL23
import Derived.Test.YtcbecpjhgfkofaaTb
set_option linter.unusedSimpArgs false
set_option linter.unusedVariables false
namespace Go.AL

theorem eqC_pair {α β : Type} (a c : α) (b d : β) : eqC (a, b) (c, d) = (eqC a c && eqC b d) := by
  rw [Bool.eq_iff_iff, Bool.and_eq_true, eqC_t, eqC_t, eqC_t]; exact Prod.mk.injEq a b c d ▸ Iff.rfl
theorem eqC_unit (a b : Unit) : eqC a b = true := by rw [eqC_t]
theorem eqC_int (a b : Int) : eqC a b = (a == b) := by rw [Bool.eq_iff_iff, eqC_t, beq_iff_eq]
theorem eqC_bool (a b : Bool) : eqC a b = (a == b) := by rw [Bool.eq_iff_iff, eqC_t, beq_iff_eq]

theorem drop_getD {α : Type} {l : List α} {k : Nat} (h : k < l.length) (d : α) : l.drop k = l.getD k d :: l.drop (k + 1) := by
  rw [List.drop_eq_getElem_cons h, List.getD_eq_getElem?_getD, List.getElem?_eq_getElem h]; rfl
theorem drop_end {α : Type} {l : List α} {k : Nat} (h : l.length ≤ k) : l.drop k = [] := List.drop_of_length_le h
theorem take_getD {α : Type} {l : List α} {k : Nat} (h : k < l.length) (d : α) : l.take (k + 1) = l.take k ++ [l.getD k d] := by
  rw [List.take_add_one, List.getElem?_eq_getElem h, List.getD_eq_getElem?_getD, List.getElem?_eq_getElem h]; rfl

theorem wrap_succ {k n : Nat} (h : k < n) (hn : n ≤ maxLen) : IntKind.i64.wrap ((k : Int) + 1) = ((k + 1 : Nat) : Int) := by
  rw [wrap_i64] <;> simp only [maxLen] at hn <;> omega
theorem wrap_succ' {k : Nat} (h : k ≤ 4611686018427387904) : IntKind.i64.wrap ((k : Int) + 1) = ((k + 1 : Nat) : Int) := by
  rw [wrap_i64] <;> omega

theorem getD_mem {α : Type} {l : List α} {k : Nat} (h : k < l.length) (d : α) : l.getD k d ∈ l := by
  rw [List.getD_eq_getElem?_getD, List.getElem?_eq_getElem h]; exact List.getElem_mem h

/-- All lists within have at most n elements, all strings at most n bytes. -/
def Small : (t : Ty) → Nat → t.den → Prop
  | .list t, n, xs => xs.length ≤ n ∧ ∀ x ∈ xs, Small t n x
  | .str, n, s => s.size ≤ n
  | .cons h t, n, x => Small h n x.1 ∧ Small t n x.2
  | _, _, _ => True

theorem Small.mono {m n : Nat} (h : m ≤ n) : ∀ {t : Ty} {x : t.den}, Small t m x → Small t n x
  | .list t, xs, hx => ⟨Nat.le_trans hx.1 h, fun x hm => (hx.2 x hm).mono h⟩
  | .str, s, hx => Nat.le_trans hx h
  | .cons a b, x, hx => ⟨hx.1.mono h, hx.2.mono h⟩
  | .int _, _, _ => trivial
  | .bool, _, _ => trivial
  | .nil, _, _ => trivial

/-- The look at a size: what is left. -/
def szLoop {α : Type} (f : α → Int → Int) : List α → Int → Int
  | [], l => l
  | x :: xs, l => if f x l < 0 then -1 else szLoop f xs (f x l)
def szD : (t : Ty) → t.den → Int → Int
  | .list t, xs, l => if l - (xs.length : Int) < 0 then -1 else szLoop (szD t) xs (l - xs.length)
  | .str, s, l => if l - (s.size : Int) < 0 then -1 else l - s.size
  | .cons h t, x, l => if szD h x.1 l < 0 then -1 else szD t x.2 (szD h x.1 l)
  | _, _, l => l

theorem szD_cons (h t : Ty) (x : (Ty.cons h t).den) (l : Int) : szD (.cons h t) x l = if szD h x.1 l < 0 then -1 else szD t x.2 (szD h x.1 l) := (rfl)
theorem szD_int (k : IntKind) (x : (Ty.int k).den) (l : Int) : szD (.int k) x l = l := (rfl)
theorem szD_bool (x : Ty.bool.den) (l : Int) : szD .bool x l = l := (rfl)
theorem szD_nil (x : Ty.nil.den) (l : Int) : szD .nil x l = l := (rfl)
theorem szD_le : ∀ (t : Ty) (x : t.den) (l : Int), 0 ≤ l → szD t x l ≤ l ∧ (0 ≤ szD t x l → ∀ n : Nat, l ≤ n → Small t n x) := by
  intro t
  induction t with
  | list t ih =>
    intro xs l hl
    simp only [szD]
    by_cases h : l - (xs.length : Int) < 0
    · rw [if_pos h]; exact ⟨by omega, fun h => by omega⟩
    · rw [if_neg h]
      have loop : ∀ (ys : List t.den) (m : Int), 0 ≤ m → szLoop (szD t) ys m ≤ m ∧ (0 ≤ szLoop (szD t) ys m → ∀ n : Nat, m ≤ n → ∀ y ∈ ys, Small t n y) := by
        intro ys
        induction ys with
        | nil => intro m hm; exact ⟨Int.le_refl _, fun _ _ _ y hy => by cases hy⟩
        | cons y ys ihy =>
          intro m hm
          simp only [szLoop]
          obtain ⟨h1, h2⟩ := ih y m hm
          by_cases hn : szD t y m < 0
          · rw [if_pos hn]; exact ⟨by omega, fun h => by omega⟩
          · rw [if_neg hn]
            obtain ⟨h3, h4⟩ := ihy (szD t y m) (by omega)
            refine ⟨by omega, fun hp n hmn z hz => ?_⟩
            rcases List.mem_cons.1 hz with rfl | hz
            · exact h2 (by omega) n hmn
            · exact h4 hp n (by omega) z hz
      obtain ⟨h1, h2⟩ := loop xs (l - xs.length) (by omega)
      exact ⟨by omega, fun hp n hln => ⟨by omega, h2 hp n (by omega)⟩⟩
  | str =>
    intro s l hl
    simp only [szD]
    by_cases h : l - (ByteArray.size s : Int) < 0
    · rw [if_pos h]; exact ⟨by omega, fun h => by omega⟩
    · rw [if_neg h]; exact ⟨by omega, fun _ n hn => by show ByteArray.size s ≤ n; omega⟩
  | cons a b iha ihb =>
    intro x l hl
    simp only [szD]
    obtain ⟨h1, h2⟩ := iha x.1 l hl
    by_cases h : szD a x.1 l < 0
    · rw [if_pos h]; exact ⟨by omega, fun h => by omega⟩
    · rw [if_neg h]
      obtain ⟨h3, h4⟩ := ihb x.2 (szD a x.1 l) (by omega)
      exact ⟨by omega, fun hp n hn => ⟨h2 (by omega) n hn, h4 hp n (by omega)⟩⟩
  | int k => intro x l hl; exact ⟨Int.le_refl _, fun _ _ _ => trivial⟩
  | bool => intro x l hl; exact ⟨Int.le_refl _, fun _ _ _ => trivial⟩
  | nil => intro x l hl; exact ⟨Int.le_refl _, fun _ _ _ => trivial⟩

theorem szLoop_id {α : Type} {f : α → Int → Int} (hf : ∀ x l, 0 ≤ l → f x l = l) : ∀ (xs : List α) (l : Int), 0 ≤ l → szLoop f xs l = l
  | [], l, _ => rfl
  | x :: xs, l, h => by simp only [szLoop, hf x l h]; rw [if_neg (by omega)]; exact szLoop_id hf xs l h

/-- No lists and no strings. -/
def Ty.plain : Ty → Bool
  | .list _ => false
  | .str => false
  | .cons h t => h.plain && t.plain
  | _ => true
theorem szD_plain : ∀ (t : Ty), t.plain = true → ∀ (x : t.den) (l : Int), 0 ≤ l → szD t x l = l
  | .list _, h, _, _, _ => by cases h
  | .str, h, _, _, _ => by cases h
  | .cons a b, h, x, l, hl => by
    simp only [Ty.plain, Bool.and_eq_true] at h
    simp only [szD]
    rw [szD_plain a h.1 x.1 l hl, if_neg (by omega), szD_plain b h.2 x.2 l hl]
  | .int _, _, _, _, _ => rfl
  | .bool, _, _, _, _ => rfl
  | .nil, _, _, _, _ => rfl
theorem szD_flat (t : Ty) (h : t.plain = true) (xs : List t.den) (n : Int) : szD (.list t) xs n = if n - (xs.length : Int) < 0 then -1 else n - xs.length := by
  simp only [szD]
  split
  · rfl
  · rw [szLoop_id (szD_plain t h) xs _ (by omega)]

/-- The marks that are laid into memory. -/
def cntF : Ty → Nat
  | .cons h t => cntF h + cntF t
  | .nil => 0
  | _ => 1
def markF : (t : Ty) → Int → t.den
  | .int k, n => k.wrap n
  | .bool, n => decide (n.tmod 3 = 0)
  | .cons h t, n => (markF h n, markF t (n + cntF h))
  | .str, _ => ByteArray.empty
  | .list _, _ => []
  | .nil, _ => ()
def markL (t : Ty) (k : Int) : Nat → List t.den
  | 0 => []
  | n + 1 => markF t k :: markL t (k + cntF t) n

theorem markL_len (t : Ty) : ∀ (n : Nat) (k : Int), (markL t k n).length = n
  | 0, _ => rfl
  | n + 1, k => by simp only [markL, List.length_cons, markL_len t n]
theorem markL_get (t : Ty) (d : t.den) : ∀ (n : Nat) (k : Int) (i : Nat), i < n → (markL t k n).getD i d = markF t (k + i * cntF t)
  | 0, _, i, h => absurd h (by omega)
  | n + 1, k, 0, _ => by simp [markL]
  | n + 1, k, i + 1, h => by
    simp only [markL, List.getD_cons_succ]
    rw [markL_get t d n (k + cntF t) i (by omega)]
    congr 1
    rw [Int.natCast_add, Int.add_mul]
    simp only [Int.natCast_one, Int.one_mul]
    omega

theorem set_take_rep {α : Type} {l : List α} {k n : Nat} (h : k < l.length) (hn : l.length = n) (z d : α) : (l.take k ++ List.replicate (n - k) z).set k (l.getD k d) = l.take (k + 1) ++ List.replicate (n - (k + 1)) z := by
  subst hn
  have ht : (l.take k).length = k := by rw [List.length_take]; omega
  rw [List.set_append_right _ _ (show (l.take k).length ≤ k by omega), ht, Nat.sub_self, take_getD h d, List.append_assoc]
  congr 1
  have : l.length - k = (l.length - (k + 1)) + 1 := by omega
  rw [this, List.replicate_succ]
  rfl

theorem I_eq {a b : Int} (h : a = b) : @Eq (Ty.den (.int .i64)) a b := h
theorem boolEq {a b : Int} (h : a = b) : (a.tmod 3 == 0) = decide (b.tmod 3 = 0) := by subst h; rfl
theorem set_getD {α : Type} {l : List α} {k : Nat} (h : k < l.length) (x d : α) : (l.set k x).getD k d = x := by
  rw [List.getD_eq_getElem?_getD, List.getElem?_set_self h]; rfl
theorem set_mark {t : Ty} {xs : List t.den} {k : Nat} {n : Int} (h : k < xs.length) : (markL t n k ++ xs.drop k).set k (markF t (n + k * cntF t)) = markL t n (k + 1) ++ xs.drop (k + 1) := by
  have ht := markL_len t k n
  rw [List.set_append_right _ _ (show (markL t n k).length ≤ k by omega), ht, Nat.sub_self, List.drop_eq_getElem_cons h, List.set_cons_zero]
  have e : ∀ (k : Nat) (n : Int), markL t n (k + 1) = markL t n k ++ [markF t (n + k * cntF t)] := by
    intro k
    induction k with
    | zero => intro n; simp [markL]
    | succ k ih =>
      intro n
      have e2 : n + (cntF t : Int) + (k : Int) * cntF t = n + ((k + 1 : Nat) : Int) * cntF t := by
        rw [Int.natCast_add, Int.add_mul, Int.natCast_one, Int.one_mul]; omega
      rw [markL, ih (n + cntF t), e2]
      rfl
  rw [e k n, List.append_assoc]
  rfl

end Go.AL
