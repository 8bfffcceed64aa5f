/- The readings of this seat's types. It proves nothing of a statement by itself. -/
import Derived.Test.YtfkdkblbhilghaaB7
import Derived.Test.YtfkdkblbhilghaaRows
set_option linter.unusedSimpArgs false
set_option linter.unusedVariables false
namespace Go.Proofs.Ytfkdkblbhilghaa
open Go.AL
abbrev I : Ty := .int .i64
abbrev tSpan : Ty := .cons I (.cons I .nil)
abbrev tl1Cur : Ty := .cons (.list (.int .u8)) (.cons I (.cons I .nil))
abbrev tStamp : Ty := .cons I (.cons I (.cons I (.cons I (.cons I .nil))))
abbrev tStatus : Ty := .cons I (.cons I (.cons I (.cons I (.cons I .nil))))
abbrev tMandate : Ty := .cons I (.cons I (.cons I (.cons I (.cons I (.cons I .nil)))))
abbrev tCert : Ty := .cons I (.cons I (.cons I (.cons I (.cons I (.cons I (.cons I .nil))))))
abbrev tSignature : Ty := .cons I (.cons I (.cons I (.cons I (.cons I (.cons I (.cons I (.cons I (.cons I .nil))))))))
abbrev tSuccession : Ty := .cons I (.cons I (.cons I (.cons I .nil)))
abbrev tKey : Ty := .cons I (.cons I (.cons I (.cons I (.cons I .nil))))
abbrev tAuthority : Ty := .cons I (.cons I (.cons I .nil))
abbrev tMethod : Ty := .cons I (.cons I (.cons I (.cons I .nil)))
abbrev tStep : Ty := .cons I (.cons .bool .nil)
abbrev tPiece : Ty := .cons I (.cons (.list I) (.cons I .nil))
abbrev tRenewal : Ty := .cons I (.cons I (.cons I (.cons (.list tStep) (.cons (.list tStamp) .nil))))
abbrev tStrand : Ty := .cons (.list tPiece) (.cons (.list tRenewal) .nil)
abbrev tEvidence : Ty := .cons (.list tStrand) (.cons (.list (.list tStamp)) .nil)
abbrev tFrame : Ty := .cons (.list tKey) (.cons (.list tAuthority) (.cons (.list tMethod) (.cons I (.cons I .nil))))
abbrev tDocument : Ty := .cons I (.cons (.list .str) (.cons (.list I) .nil))
abbrev tRedacted : Ty := .cons I (.cons (.list I) (.cons (.list .bool) (.cons (.list .str) (.cons (.list I) (.cons (.list (.list I)) .nil)))))
def tyTab : List (Nat × Ty) := [
  (3, I),
  (4, .bool),
  (9, .str),
  (5, (.int .u8)),
  (27, (.list I)),
  (164, (.list (.int .u8))),
  (26, (.list .str)),
  (88, (.list .bool)),
  (76, (.list (.list I))),
  (155, tStamp),
  (64, (.list tStamp)),
  (157, tStamp),
  (58, (.list tStamp)),
  (151, tStep),
  (63, (.list tStep)),
  (153, tStep),
  (57, (.list tStep)),
  (52, tPiece),
  (33, (.list tPiece)),
  (48, tPiece),
  (22, (.list tPiece)),
  (66, tRenewal),
  (34, (.list tRenewal)),
  (60, tRenewal),
  (23, (.list tRenewal)),
  (36, tStrand),
  (78, (.list tStrand)),
  (25, tStrand),
  (71, (.list tStrand)),
  (81, tEvidence),
  (74, tEvidence),
  (38, tDocument),
  (29, tDocument),
  (93, tRedacted),
  (90, tRedacted),
  (79, (.list (.list tStamp))),
  (72, (.list (.list tStamp))),
  (100000, .nil)]
def elTab : List (Nat × Nat) := [
  (27, 3),
  (164, 5),
  (26, 9),
  (88, 4),
  (76, 27),
  (64, 155),
  (58, 157),
  (63, 151),
  (57, 153),
  (33, 52),
  (22, 48),
  (34, 66),
  (23, 60),
  (78, 36),
  (71, 25),
  (79, 64),
  (72, 58),
  (100000, 0)]
def lkTy : List (Nat × Ty) → Nat → Ty
  | [], _ => .nil
  | p :: r, T => bif Nat.beq T p.1 then p.2 else lkTy r T
def lkEl : List (Nat × Nat) → Nat → Nat
  | [], _ => 0
  | p :: r, T => bif Nat.beq T p.1 then p.2 else lkEl r T
def inlTab : List Nat := [
  4294967295]
def teTab : List (Ty × Nat) := [
  (I, 3),
  (.bool, 4),
  (.str, 9),
  (.list I, 27),
  (tStep, 151),
  (tStamp, 155),
  (.list tStamp, 64),
  (tPiece, 52),
  (tRenewal, 66),
  (tStrand, 36),
  (.nil, 0)]
def lkTe : List (Ty × Nat) → Ty → Nat
  | [], _ => 0
  | p :: r, t => if p.1 = t then p.2 else lkTe r t
def TE : Ty → TypeId := lkTe teTab
def innTab : List Nat := [
  21,
  88,
  89,
  69,
  70,
  4294967295]
def tb : Tb := { ty := lkTy tyTab, el := lkEl elTab, inl := fun f => anyL f inlTab, off := 0, te := TE }
/-- Where rows that are made own their nested rows, and nested rows are lent. -/
def tbd : Tb := { tb with inn := fun f => anyL f innTab, dp := true }
@[go_sem] theorem tb_inn (f : FuncId) : tb.inn f = false := (rfl)
@[go_sem] theorem tb_dp : tb.dp = false := (rfl)
@[go_sem] theorem tb_te : tb.te = TE := (rfl)
@[go_sem] theorem tbd_ty (T : TypeId) : tbd.ty T = tb.ty T := (rfl)
@[go_sem] theorem tbd_el (T : TypeId) : tbd.el T = tb.el T := (rfl)
@[go_sem] theorem tbd_inl (f : FuncId) : tbd.inl f = anyL f inlTab := (rfl)
@[go_sem] theorem tbd_off : tbd.off = 0 := (rfl)
@[go_sem] theorem tbd_inn (f : FuncId) : tbd.inn f = anyL f innTab := (rfl)
@[go_sem] theorem tbd_dp : tbd.dp = true := (rfl)
@[go_sem] theorem tbd_te : tbd.te = TE := (rfl)
attribute [go_sem] innTab
@[go_sem] theorem te_int : TE I = 3 := by decide
@[go_sem] theorem te_bool : TE .bool = 4 := by decide
@[go_sem] theorem te_string : TE .str = 9 := by decide
@[go_sem] theorem te_ints : TE (.list I) = 27 := by decide
@[go_sem] theorem te_step : TE tStep = 151 := by decide
@[go_sem] theorem te_stamp : TE tStamp = 155 := by decide
@[go_sem] theorem te_stamps : TE (.list tStamp) = 64 := by decide
@[go_sem] theorem te_piece : TE tPiece = 52 := by decide
@[go_sem] theorem te_renewal : TE tRenewal = 66 := by decide
@[go_sem] theorem te_strand : TE tStrand = 36 := by decide
@[go_sem] theorem tb_inl (f : FuncId) : tb.inl f = anyL f inlTab := (rfl)
@[go_sem] theorem tb_off : tb.off = 0 := (rfl)
attribute [go_sem] inlTab
theorem laidOut : laidOutB Try.prog = true := by kernel_rfl
theorem follows : Try.prog.follows .mixedOrders = true := by kernel_rfl
@[go_sem] theorem ty_int : tb.ty 3 = I := by kernel_rfl
@[go_sem] theorem ok_int : TyOK Try.prog I 3 := tyB_spec (by kernel_rfl)
@[go_sem] theorem ty_bool : tb.ty 4 = .bool := by kernel_rfl
@[go_sem] theorem ok_bool : TyOK Try.prog .bool 4 := tyB_spec (by kernel_rfl)
@[go_sem] theorem ty_string : tb.ty 9 = .str := by kernel_rfl
@[go_sem] theorem ok_string : TyOK Try.prog .str 9 := tyB_spec (by kernel_rfl)
@[go_sem] theorem ty_uint8 : tb.ty 5 = (.int .u8) := by kernel_rfl
@[go_sem] theorem ok_uint8 : TyOK Try.prog (.int .u8) 5 := tyB_spec (by kernel_rfl)
@[go_sem] theorem ty_s_int : tb.ty 27 = (.list I) := by kernel_rfl
@[go_sem] theorem ok_s_int : TyOK Try.prog (.list I) 27 := tyB_spec (by kernel_rfl)
@[go_sem] theorem ty_s_uint8 : tb.ty 164 = (.list (.int .u8)) := by kernel_rfl
@[go_sem] theorem ok_s_uint8 : TyOK Try.prog (.list (.int .u8)) 164 := tyB_spec (by kernel_rfl)
@[go_sem] theorem ty_s_string : tb.ty 26 = (.list .str) := by kernel_rfl
@[go_sem] theorem ok_s_string : TyOK Try.prog (.list .str) 26 := tyB_spec (by kernel_rfl)
@[go_sem] theorem ty_s_bool : tb.ty 88 = (.list .bool) := by kernel_rfl
@[go_sem] theorem ok_s_bool : TyOK Try.prog (.list .bool) 88 := tyB_spec (by kernel_rfl)
@[go_sem] theorem ty_s_s_int : tb.ty 76 = (.list (.list I)) := by kernel_rfl
@[go_sem] theorem ok_s_s_int : TyOK Try.prog (.list (.list I)) 76 := tyB_spec (by kernel_rfl)
@[go_sem] theorem ty_implStamp : tb.ty 155 = tStamp := by kernel_rfl
@[go_sem] theorem ok_implStamp : TyOK Try.prog tStamp 155 := tyB_spec (by kernel_rfl)
@[go_sem] theorem ty_implStampS : tb.ty 64 = (.list tStamp) := by kernel_rfl
@[go_sem] theorem ok_implStampS : TyOK Try.prog (.list tStamp) 64 := tyB_spec (by kernel_rfl)
@[go_sem] theorem ty_lawsStamp : tb.ty 157 = tStamp := by kernel_rfl
@[go_sem] theorem ok_lawsStamp : TyOK Try.prog tStamp 157 := tyB_spec (by kernel_rfl)
@[go_sem] theorem ty_lawsStampS : tb.ty 58 = (.list tStamp) := by kernel_rfl
@[go_sem] theorem ok_lawsStampS : TyOK Try.prog (.list tStamp) 58 := tyB_spec (by kernel_rfl)
@[go_sem] theorem ty_implStep : tb.ty 151 = tStep := by kernel_rfl
@[go_sem] theorem ok_implStep : TyOK Try.prog tStep 151 := tyB_spec (by kernel_rfl)
@[go_sem] theorem ty_implStepS : tb.ty 63 = (.list tStep) := by kernel_rfl
@[go_sem] theorem ok_implStepS : TyOK Try.prog (.list tStep) 63 := tyB_spec (by kernel_rfl)
@[go_sem] theorem ty_lawsStep : tb.ty 153 = tStep := by kernel_rfl
@[go_sem] theorem ok_lawsStep : TyOK Try.prog tStep 153 := tyB_spec (by kernel_rfl)
@[go_sem] theorem ty_lawsStepS : tb.ty 57 = (.list tStep) := by kernel_rfl
@[go_sem] theorem ok_lawsStepS : TyOK Try.prog (.list tStep) 57 := tyB_spec (by kernel_rfl)
@[go_sem] theorem ty_implPiece : tb.ty 52 = tPiece := by kernel_rfl
@[go_sem] theorem ok_implPiece : TyOK Try.prog tPiece 52 := tyB_spec (by kernel_rfl)
@[go_sem] theorem ty_implPieceS : tb.ty 33 = (.list tPiece) := by kernel_rfl
@[go_sem] theorem ok_implPieceS : TyOK Try.prog (.list tPiece) 33 := tyB_spec (by kernel_rfl)
@[go_sem] theorem ty_lawsPiece : tb.ty 48 = tPiece := by kernel_rfl
@[go_sem] theorem ok_lawsPiece : TyOK Try.prog tPiece 48 := tyB_spec (by kernel_rfl)
@[go_sem] theorem ty_lawsPieceS : tb.ty 22 = (.list tPiece) := by kernel_rfl
@[go_sem] theorem ok_lawsPieceS : TyOK Try.prog (.list tPiece) 22 := tyB_spec (by kernel_rfl)
@[go_sem] theorem ty_implRenewal : tb.ty 66 = tRenewal := by kernel_rfl
@[go_sem] theorem ok_implRenewal : TyOK Try.prog tRenewal 66 := tyB_spec (by kernel_rfl)
@[go_sem] theorem ty_implRenewalS : tb.ty 34 = (.list tRenewal) := by kernel_rfl
@[go_sem] theorem ok_implRenewalS : TyOK Try.prog (.list tRenewal) 34 := tyB_spec (by kernel_rfl)
@[go_sem] theorem ty_lawsRenewal : tb.ty 60 = tRenewal := by kernel_rfl
@[go_sem] theorem ok_lawsRenewal : TyOK Try.prog tRenewal 60 := tyB_spec (by kernel_rfl)
@[go_sem] theorem ty_lawsRenewalS : tb.ty 23 = (.list tRenewal) := by kernel_rfl
@[go_sem] theorem ok_lawsRenewalS : TyOK Try.prog (.list tRenewal) 23 := tyB_spec (by kernel_rfl)
@[go_sem] theorem ty_implStrand : tb.ty 36 = tStrand := by kernel_rfl
@[go_sem] theorem ok_implStrand : TyOK Try.prog tStrand 36 := tyB_spec (by kernel_rfl)
@[go_sem] theorem ty_implStrandS : tb.ty 78 = (.list tStrand) := by kernel_rfl
@[go_sem] theorem ok_implStrandS : TyOK Try.prog (.list tStrand) 78 := tyB_spec (by kernel_rfl)
@[go_sem] theorem ty_lawsStrand : tb.ty 25 = tStrand := by kernel_rfl
@[go_sem] theorem ok_lawsStrand : TyOK Try.prog tStrand 25 := tyB_spec (by kernel_rfl)
@[go_sem] theorem ty_lawsStrandS : tb.ty 71 = (.list tStrand) := by kernel_rfl
@[go_sem] theorem ok_lawsStrandS : TyOK Try.prog (.list tStrand) 71 := tyB_spec (by kernel_rfl)
@[go_sem] theorem ty_implEvidence : tb.ty 81 = tEvidence := by kernel_rfl
@[go_sem] theorem ok_implEvidence : TyOK Try.prog tEvidence 81 := tyB_spec (by kernel_rfl)
@[go_sem] theorem ty_lawsEvidence : tb.ty 74 = tEvidence := by kernel_rfl
@[go_sem] theorem ok_lawsEvidence : TyOK Try.prog tEvidence 74 := tyB_spec (by kernel_rfl)
@[go_sem] theorem ty_implDocument : tb.ty 38 = tDocument := by kernel_rfl
@[go_sem] theorem ok_implDocument : TyOK Try.prog tDocument 38 := tyB_spec (by kernel_rfl)
@[go_sem] theorem ty_lawsDocument : tb.ty 29 = tDocument := by kernel_rfl
@[go_sem] theorem ok_lawsDocument : TyOK Try.prog tDocument 29 := tyB_spec (by kernel_rfl)
@[go_sem] theorem ty_implRedacted : tb.ty 93 = tRedacted := by kernel_rfl
@[go_sem] theorem ok_implRedacted : TyOK Try.prog tRedacted 93 := tyB_spec (by kernel_rfl)
@[go_sem] theorem ty_lawsRedacted : tb.ty 90 = tRedacted := by kernel_rfl
@[go_sem] theorem ok_lawsRedacted : TyOK Try.prog tRedacted 90 := tyB_spec (by kernel_rfl)
@[go_sem] theorem ty_implStampSS : tb.ty 79 = (.list (.list tStamp)) := by kernel_rfl
@[go_sem] theorem ok_implStampSS : TyOK Try.prog (.list (.list tStamp)) 79 := tyB_spec (by kernel_rfl)
@[go_sem] theorem ty_lawsStampSS : tb.ty 72 = (.list (.list tStamp)) := by kernel_rfl
@[go_sem] theorem ok_lawsStampSS : TyOK Try.prog (.list (.list tStamp)) 72 := tyB_spec (by kernel_rfl)
@[go_sem] theorem el_s_int : tb.el 27 = 3 := by kernel_rfl
@[go_sem] theorem eo_s_int : ElOK Try.prog 27 3 := elB_spec (by kernel_rfl)
@[go_sem] theorem el_s_uint8 : tb.el 164 = 5 := by kernel_rfl
@[go_sem] theorem eo_s_uint8 : ElOK Try.prog 164 5 := elB_spec (by kernel_rfl)
@[go_sem] theorem el_s_string : tb.el 26 = 9 := by kernel_rfl
@[go_sem] theorem eo_s_string : ElOK Try.prog 26 9 := elB_spec (by kernel_rfl)
@[go_sem] theorem el_s_bool : tb.el 88 = 4 := by kernel_rfl
@[go_sem] theorem eo_s_bool : ElOK Try.prog 88 4 := elB_spec (by kernel_rfl)
@[go_sem] theorem el_s_s_int : tb.el 76 = 27 := by kernel_rfl
@[go_sem] theorem eo_s_s_int : ElOK Try.prog 76 27 := elB_spec (by kernel_rfl)
@[go_sem] theorem el_s_impl_Stamp : tb.el 64 = 155 := by kernel_rfl
@[go_sem] theorem eo_s_impl_Stamp : ElOK Try.prog 64 155 := elB_spec (by kernel_rfl)
@[go_sem] theorem el_s_laws_Stamp : tb.el 58 = 157 := by kernel_rfl
@[go_sem] theorem eo_s_laws_Stamp : ElOK Try.prog 58 157 := elB_spec (by kernel_rfl)
@[go_sem] theorem el_s_impl_Step : tb.el 63 = 151 := by kernel_rfl
@[go_sem] theorem eo_s_impl_Step : ElOK Try.prog 63 151 := elB_spec (by kernel_rfl)
@[go_sem] theorem el_s_laws_Step : tb.el 57 = 153 := by kernel_rfl
@[go_sem] theorem eo_s_laws_Step : ElOK Try.prog 57 153 := elB_spec (by kernel_rfl)
@[go_sem] theorem el_s_impl_Piece : tb.el 33 = 52 := by kernel_rfl
@[go_sem] theorem eo_s_impl_Piece : ElOK Try.prog 33 52 := elB_spec (by kernel_rfl)
@[go_sem] theorem el_s_laws_Piece : tb.el 22 = 48 := by kernel_rfl
@[go_sem] theorem eo_s_laws_Piece : ElOK Try.prog 22 48 := elB_spec (by kernel_rfl)
@[go_sem] theorem el_s_impl_Renewal : tb.el 34 = 66 := by kernel_rfl
@[go_sem] theorem eo_s_impl_Renewal : ElOK Try.prog 34 66 := elB_spec (by kernel_rfl)
@[go_sem] theorem el_s_laws_Renewal : tb.el 23 = 60 := by kernel_rfl
@[go_sem] theorem eo_s_laws_Renewal : ElOK Try.prog 23 60 := elB_spec (by kernel_rfl)
@[go_sem] theorem el_s_impl_Strand : tb.el 78 = 36 := by kernel_rfl
@[go_sem] theorem eo_s_impl_Strand : ElOK Try.prog 78 36 := elB_spec (by kernel_rfl)
@[go_sem] theorem el_s_laws_Strand : tb.el 71 = 25 := by kernel_rfl
@[go_sem] theorem eo_s_laws_Strand : ElOK Try.prog 71 25 := elB_spec (by kernel_rfl)
@[go_sem] theorem el_s_s_impl_Stamp : tb.el 79 = 64 := by kernel_rfl
@[go_sem] theorem eo_s_s_impl_Stamp : ElOK Try.prog 79 64 := elB_spec (by kernel_rfl)
@[go_sem] theorem el_s_s_laws_Stamp : tb.el 72 = 58 := by kernel_rfl
@[go_sem] theorem eo_s_s_laws_Stamp : ElOK Try.prog 72 58 := elB_spec (by kernel_rfl)
@[go_sem] theorem es_Stamp : EqSt Try.prog 155 := ⟨by kernel_rfl, by kernel_rfl, by kernel_rfl⟩
@[go_sem] theorem es_Step : EqSt Try.prog 151 := ⟨by kernel_rfl, by kernel_rfl, by kernel_rfl⟩
end Go.Proofs.Ytfkdkblbhilghaa
/- Plain facts about lists, numbers and readings, for the contracts. It proves nothing of a statement by itself. -/
set_option linter.unusedSimpArgs false
set_option linter.unusedVariables false
namespace Go.AL

theorem eqC_pair {α β : Type} (a c : α) (b d : β) : eqC (a, b) (c, d) = (eqC a c && eqC b d) := by
  rw [Bool.eq_iff_iff, Bool.and_eq_true, eqC_t, eqC_t, eqC_t]; exact Prod.mk.injEq a b c d ▸ Iff.rfl
theorem eqC_unit (a b : Unit) : eqC a b = true := by rw [eqC_t]
theorem eqC_int (a b : Int) : eqC a b = (a == b) := by rw [Bool.eq_iff_iff, eqC_t, beq_iff_eq]
theorem eqC_bool (a b : Bool) : eqC a b = (a == b) := by rw [Bool.eq_iff_iff, eqC_t, beq_iff_eq]

theorem drop_getD {α : Type} {l : List α} {k : Nat} (h : k < l.length) (d : α) : l.drop k = l.getD k d :: l.drop (k + 1) := by
  rw [List.drop_eq_getElem_cons h, List.getD_eq_getElem?_getD, List.getElem?_eq_getElem h]; rfl
theorem drop_end {α : Type} {l : List α} {k : Nat} (h : l.length ≤ k) : l.drop k = [] := List.drop_of_length_le h
theorem take_getD {α : Type} {l : List α} {k : Nat} (h : k < l.length) (d : α) : l.take (k + 1) = l.take k ++ [l.getD k d] := by
  rw [List.take_add_one, List.getElem?_eq_getElem h, List.getD_eq_getElem?_getD, List.getElem?_eq_getElem h]; rfl

theorem wrap_succ {k n : Nat} (h : k < n) (hn : n ≤ maxLen) : IntKind.i64.wrap ((k : Int) + 1) = ((k + 1 : Nat) : Int) := by
  rw [wrap_i64] <;> simp only [maxLen] at hn <;> omega
theorem wrap_succ' {k : Nat} (h : k ≤ 4611686018427387904) : IntKind.i64.wrap ((k : Int) + 1) = ((k + 1 : Nat) : Int) := by
  rw [wrap_i64] <;> omega

theorem getD_mem {α : Type} {l : List α} {k : Nat} (h : k < l.length) (d : α) : l.getD k d ∈ l := by
  rw [List.getD_eq_getElem?_getD, List.getElem?_eq_getElem h]; exact List.getElem_mem h

/-- All lists within have at most n elements, all strings at most n bytes. -/
def Small : (t : Ty) → Nat → t.den → Prop
  | .list t, n, xs => xs.length ≤ n ∧ ∀ x ∈ xs, Small t n x
  | .str, n, s => s.size ≤ n
  | .cons h t, n, x => Small h n x.1 ∧ Small t n x.2
  | _, _, _ => True

theorem Small.mono {m n : Nat} (h : m ≤ n) : ∀ {t : Ty} {x : t.den}, Small t m x → Small t n x
  | .list t, xs, hx => ⟨Nat.le_trans hx.1 h, fun x hm => (hx.2 x hm).mono h⟩
  | .str, s, hx => Nat.le_trans hx h
  | .cons a b, x, hx => ⟨hx.1.mono h, hx.2.mono h⟩
  | .int _, _, _ => trivial
  | .bool, _, _ => trivial
  | .nil, _, _ => trivial

/-- The look at a size: what is left. -/
def szLoop {α : Type} (f : α → Int → Int) : List α → Int → Int
  | [], l => l
  | x :: xs, l => if f x l < 0 then -1 else szLoop f xs (f x l)
def szD : (t : Ty) → t.den → Int → Int
  | .list t, xs, l => if l - (xs.length : Int) < 0 then -1 else szLoop (szD t) xs (l - xs.length)
  | .str, s, l => if l - (s.size : Int) < 0 then -1 else l - s.size
  | .cons h t, x, l => if szD h x.1 l < 0 then -1 else szD t x.2 (szD h x.1 l)
  | _, _, l => l

theorem szD_cons (h t : Ty) (x : (Ty.cons h t).den) (l : Int) : szD (.cons h t) x l = if szD h x.1 l < 0 then -1 else szD t x.2 (szD h x.1 l) := (rfl)
theorem szD_int (k : IntKind) (x : (Ty.int k).den) (l : Int) : szD (.int k) x l = l := (rfl)
theorem szD_bool (x : Ty.bool.den) (l : Int) : szD .bool x l = l := (rfl)
theorem szD_nil (x : Ty.nil.den) (l : Int) : szD .nil x l = l := (rfl)
theorem szD_le : ∀ (t : Ty) (x : t.den) (l : Int), 0 ≤ l → szD t x l ≤ l ∧ (0 ≤ szD t x l → ∀ n : Nat, l ≤ n → Small t n x) := by
  intro t
  induction t with
  | list t ih =>
    intro xs l hl
    simp only [szD]
    by_cases h : l - (xs.length : Int) < 0
    · rw [if_pos h]; exact ⟨by omega, fun h => by omega⟩
    · rw [if_neg h]
      have loop : ∀ (ys : List t.den) (m : Int), 0 ≤ m → szLoop (szD t) ys m ≤ m ∧ (0 ≤ szLoop (szD t) ys m → ∀ n : Nat, m ≤ n → ∀ y ∈ ys, Small t n y) := by
        intro ys
        induction ys with
        | nil => intro m hm; exact ⟨Int.le_refl _, fun _ _ _ y hy => by cases hy⟩
        | cons y ys ihy =>
          intro m hm
          simp only [szLoop]
          obtain ⟨h1, h2⟩ := ih y m hm
          by_cases hn : szD t y m < 0
          · rw [if_pos hn]; exact ⟨by omega, fun h => by omega⟩
          · rw [if_neg hn]
            obtain ⟨h3, h4⟩ := ihy (szD t y m) (by omega)
            refine ⟨by omega, fun hp n hmn z hz => ?_⟩
            rcases List.mem_cons.1 hz with rfl | hz
            · exact h2 (by omega) n hmn
            · exact h4 hp n (by omega) z hz
      obtain ⟨h1, h2⟩ := loop xs (l - xs.length) (by omega)
      exact ⟨by omega, fun hp n hln => ⟨by omega, h2 hp n (by omega)⟩⟩
  | str =>
    intro s l hl
    simp only [szD]
    by_cases h : l - (ByteArray.size s : Int) < 0
    · rw [if_pos h]; exact ⟨by omega, fun h => by omega⟩
    · rw [if_neg h]; exact ⟨by omega, fun _ n hn => by show ByteArray.size s ≤ n; omega⟩
  | cons a b iha ihb =>
    intro x l hl
    simp only [szD]
    obtain ⟨h1, h2⟩ := iha x.1 l hl
    by_cases h : szD a x.1 l < 0
    · rw [if_pos h]; exact ⟨by omega, fun h => by omega⟩
    · rw [if_neg h]
      obtain ⟨h3, h4⟩ := ihb x.2 (szD a x.1 l) (by omega)
      exact ⟨by omega, fun hp n hn => ⟨h2 (by omega) n hn, h4 hp n (by omega)⟩⟩
  | int k => intro x l hl; exact ⟨Int.le_refl _, fun _ _ _ => trivial⟩
  | bool => intro x l hl; exact ⟨Int.le_refl _, fun _ _ _ => trivial⟩
  | nil => intro x l hl; exact ⟨Int.le_refl _, fun _ _ _ => trivial⟩

theorem szLoop_id {α : Type} {f : α → Int → Int} (hf : ∀ x l, 0 ≤ l → f x l = l) : ∀ (xs : List α) (l : Int), 0 ≤ l → szLoop f xs l = l
  | [], l, _ => rfl
  | x :: xs, l, h => by simp only [szLoop, hf x l h]; rw [if_neg (by omega)]; exact szLoop_id hf xs l h

/-- No lists and no strings. -/
def Ty.plain : Ty → Bool
  | .list _ => false
  | .str => false
  | .cons h t => h.plain && t.plain
  | _ => true
theorem szD_plain : ∀ (t : Ty), t.plain = true → ∀ (x : t.den) (l : Int), 0 ≤ l → szD t x l = l
  | .list _, h, _, _, _ => by cases h
  | .str, h, _, _, _ => by cases h
  | .cons a b, h, x, l, hl => by
    simp only [Ty.plain, Bool.and_eq_true] at h
    simp only [szD]
    rw [szD_plain a h.1 x.1 l hl, if_neg (by omega), szD_plain b h.2 x.2 l hl]
  | .int _, _, _, _, _ => rfl
  | .bool, _, _, _, _ => rfl
  | .nil, _, _, _, _ => rfl
theorem szD_flat (t : Ty) (h : t.plain = true) (xs : List t.den) (n : Int) : szD (.list t) xs n = if n - (xs.length : Int) < 0 then -1 else n - xs.length := by
  simp only [szD]
  split
  · rfl
  · rw [szLoop_id (szD_plain t h) xs _ (by omega)]

/-- The marks that are laid into memory. -/
def cntF : Ty → Nat
  | .cons h t => cntF h + cntF t
  | .nil => 0
  | _ => 1
def markF : (t : Ty) → Int → t.den
  | .int k, n => k.wrap n
  | .bool, n => decide (n.tmod 3 = 0)
  | .cons h t, n => (markF h n, markF t (n + cntF h))
  | .str, _ => ByteArray.empty
  | .list _, _ => []
  | .nil, _ => ()
def markL (t : Ty) (k : Int) : Nat → List t.den
  | 0 => []
  | n + 1 => markF t k :: markL t (k + cntF t) n

theorem markL_len (t : Ty) : ∀ (n : Nat) (k : Int), (markL t k n).length = n
  | 0, _ => rfl
  | n + 1, k => by simp only [markL, List.length_cons, markL_len t n]
theorem markL_get (t : Ty) (d : t.den) : ∀ (n : Nat) (k : Int) (i : Nat), i < n → (markL t k n).getD i d = markF t (k + i * cntF t)
  | 0, _, i, h => absurd h (by omega)
  | n + 1, k, 0, _ => by simp [markL]
  | n + 1, k, i + 1, h => by
    simp only [markL, List.getD_cons_succ]
    rw [markL_get t d n (k + cntF t) i (by omega)]
    congr 1
    rw [Int.natCast_add, Int.add_mul]
    simp only [Int.natCast_one, Int.one_mul]
    omega

theorem set_take_rep {α : Type} {l : List α} {k n : Nat} (h : k < l.length) (hn : l.length = n) (z d : α) : (l.take k ++ List.replicate (n - k) z).set k (l.getD k d) = l.take (k + 1) ++ List.replicate (n - (k + 1)) z := by
  subst hn
  have ht : (l.take k).length = k := by rw [List.length_take]; omega
  rw [List.set_append_right _ _ (show (l.take k).length ≤ k by omega), ht, Nat.sub_self, take_getD h d, List.append_assoc]
  congr 1
  have : l.length - k = (l.length - (k + 1)) + 1 := by omega
  rw [this, List.replicate_succ]
  rfl

theorem I_eq {a b : Int} (h : a = b) : @Eq (Ty.den (.int .i64)) a b := h
theorem boolEq {a b : Int} (h : a = b) : (a.tmod 3 == 0) = decide (b.tmod 3 = 0) := by subst h; rfl
theorem set_getD {α : Type} {l : List α} {k : Nat} (h : k < l.length) (x d : α) : (l.set k x).getD k d = x := by
  rw [List.getD_eq_getElem?_getD, List.getElem?_set_self h]; rfl
theorem set_mark {t : Ty} {xs : List t.den} {k : Nat} {n : Int} (h : k < xs.length) : (markL t n k ++ xs.drop k).set k (markF t (n + k * cntF t)) = markL t n (k + 1) ++ xs.drop (k + 1) := by
  have ht := markL_len t k n
  rw [List.set_append_right _ _ (show (markL t n k).length ≤ k by omega), ht, Nat.sub_self, List.drop_eq_getElem_cons h, List.set_cons_zero]
  have e : ∀ (k : Nat) (n : Int), markL t n (k + 1) = markL t n k ++ [markF t (n + k * cntF t)] := by
    intro k
    induction k with
    | zero => intro n; simp [markL]
    | succ k ih =>
      intro n
      have e2 : n + (cntF t : Int) + (k : Int) * cntF t = n + ((k + 1 : Nat) : Int) * cntF t := by
        rw [Int.natCast_add, Int.add_mul, Int.natCast_one, Int.one_mul]; omega
      rw [markL, ih (n + cntF t), e2]
      rfl
  rw [e k n, List.append_assoc]
  rfl

end Go.AL
/- What the functions of numbers, digests, trees and pieces answer, on both sides. It proves nothing of a statement by itself. -/
set_option linter.unusedSimpArgs false
set_option linter.unusedVariables false
set_option maxRecDepth 100000
namespace Go.Proofs.Ytfkdkblbhilghaa
open Go.AL
def modF (n m : Int) : Int := if 1 ≤ m ∧ m ≤ 1000000000000 then (IntKind.i64.wrap (n.tmod m + m)).tmod m else 0
def hashStep (h v : Int) : Int := (IntKind.i64.wrap (IntKind.i64.wrap (IntKind.i64.wrap (h * 1000003) + modF v 2147483647) + 13)).tmod 2147483647
def hashF (l : List Int) : Int := l.foldl hashStep 11
def digF (m : Int) (l : List Int) : Int := hashF (7 :: m :: l)
def pairF (m a b : Int) : Int := digF m [1, a, b]
theorem l1In_ok (a b c : Int) : FunOK Try.prog 124 [⟨I, a⟩, ⟨I, b⟩, ⟨I, c⟩] (.rd .bool (decide (b ≤ a) && decide (a ≤ c))) := by
  refine fun_of (tb := tb) follows Try.func124 (by kernel_rfl) Try.ntmps124 rfl rfl rfl ?_; intro cx hN hw
  simp (disch := exact eqId (by kernel_rfl)) only [go_sem, ↓reduceIte, Nat.reduceAdd, Nat.reduceMul, Nat.reduceLT, Nat.reduceBEq, Nat.reduceLeDiff, Nat.reduceEqDiff, Int.reduceToNat, ge_iff_le]
theorem inRange_ok (a b c : Int) : FunOK Try.prog 127 [⟨I, a⟩, ⟨I, b⟩, ⟨I, c⟩] (.rd .bool (decide (b ≤ a) && decide (a ≤ c))) := by
  refine fun_of (tb := tb) follows Try.func127 (by kernel_rfl) Try.ntmps127 rfl rfl rfl ?_; intro cx hN hw
  simp (disch := exact eqId (by kernel_rfl)) only [go_sem, ↓reduceIte, Nat.reduceAdd, Nat.reduceMul, Nat.reduceLT, Nat.reduceBEq, Nat.reduceLeDiff, Nat.reduceEqDiff, Int.reduceToNat]
theorem impl_Mod_ok (n m : Int) : FunOK Try.prog 149 [⟨I, n⟩, ⟨I, m⟩] (.rd I (modF n m)) := by
  refine fun_of (tb := tb) follows Try.func149 (by kernel_rfl) Try.ntmps149 rfl rfl rfl ?_; intro cx hN hw
  simp (disch := exact eqId (by kernel_rfl)) only [go_sem, ↓reduceIte, Nat.reduceAdd, Nat.reduceMul, Nat.reduceLT, Nat.reduceBEq, Nat.reduceLeDiff, Nat.reduceEqDiff, Int.reduceToNat]
  repeat' (first | (refine And.intro ?_ ?_) | intro _ | (refine callQ_intro (inRange_ok _ _ _) ?_; try (simp (disch := exact eqId (by kernel_rfl)) only [go_sem, ↓reduceIte, Nat.reduceAdd, Nat.reduceMul, Nat.reduceLT, Nat.reduceBEq, Nat.reduceLeDiff, Nat.reduceEqDiff, Int.reduceToNat])) | (refine callH_intro (fun hcc => inRange_ok _ _ _) ?_; try (simp (disch := exact eqId (by kernel_rfl)) only [go_sem, ↓reduceIte, Nat.reduceAdd, Nat.reduceMul, Nat.reduceLT, Nat.reduceBEq, Nat.reduceLeDiff, Nat.reduceEqDiff, Int.reduceToNat])))
  all_goals simp_all [modF]
  all_goals omega
theorem spec_Mod_ok (n m : Int) : FunOK Try.prog 148 [⟨I, n⟩, ⟨I, m⟩] (.rd I (modF n m)) := by
  refine fun_of (tb := tb) follows Try.func148 (by kernel_rfl) Try.ntmps148 rfl rfl rfl ?_; intro cx hN hw
  simp (disch := exact eqId (by kernel_rfl)) only [go_sem, ↓reduceIte, Nat.reduceAdd, Nat.reduceMul, Nat.reduceLT, Nat.reduceBEq, Nat.reduceLeDiff, Nat.reduceEqDiff, Int.reduceToNat]
  repeat' (first | (refine And.intro ?_ ?_) | intro _ | (refine callQ_intro (l1In_ok _ _ _) ?_; try (simp (disch := exact eqId (by kernel_rfl)) only [go_sem, ↓reduceIte, Nat.reduceAdd, Nat.reduceMul, Nat.reduceLT, Nat.reduceBEq, Nat.reduceLeDiff, Nat.reduceEqDiff, Int.reduceToNat])) | (refine callH_intro (fun hcc => l1In_ok _ _ _) ?_; try (simp (disch := exact eqId (by kernel_rfl)) only [go_sem, ↓reduceIte, Nat.reduceAdd, Nat.reduceMul, Nat.reduceLT, Nat.reduceBEq, Nat.reduceLeDiff, Nat.reduceEqDiff, Int.reduceToNat])))
  all_goals simp_all [modF]
  all_goals omega
theorem impl_Hash_ok (l : List Int) : FunOK Try.prog 145 [⟨(.list I), l⟩] (.rd I (hashF l)) := by
  refine fun_of (tb := tb) follows Try.func145 (by kernel_rfl) Try.ntmps145 rfl rfl rfl ?_; intro cx hN hw
  simp (disch := exact eqId (by kernel_rfl)) only [go_sem, ↓reduceIte, Nat.reduceAdd, Nat.reduceMul, Nat.reduceLT, Nat.reduceBEq, Nat.reduceLeDiff, Nat.reduceEqDiff, Int.reduceToNat]
  refine loop_intro (tb := tb) follows hN (D := Nat × Int) (fun d => shp [(3, .rd I d.2), (6, .rd (.list I) (l)), (7, .rd I (((l).length : Int) : Int)), (8, .rd I (d.1 : Int))] []) (fun d => d.1 ≤ l.length ∧ hashF l = (l.drop d.1).foldl hashStep d.2) (fun d => l.length - d.1) (0, 11) ?_ (sub_shp hN [] ?_) (fun d hd => ?_)
  · exact ⟨Nat.zero_le _, rfl⟩
  · simp (disch := exact eqId (by kernel_rfl)) only [go_sem, ↓reduceIte, Nat.reduceAdd, Nat.reduceMul, Nat.reduceLT, Nat.reduceBEq, Nat.reduceLeDiff, Nat.reduceEqDiff, Int.reduceToNat]
    rfl
  · obtain ⟨k, h⟩ := d
    obtain ⟨h1, h2⟩ := hd
    simp (disch := exact eqId (by kernel_rfl)) only [go_sem, ↓reduceIte, Nat.reduceAdd, Nat.reduceMul, Nat.reduceLT, Nat.reduceBEq, Nat.reduceLeDiff, Nat.reduceEqDiff, Int.reduceToNat]
    repeat' (first | (refine And.intro ?_ ?_) | intro _ | (refine callQ_intro (impl_Mod_ok _ _) ?_; try (simp (disch := exact eqId (by kernel_rfl)) only [go_sem, ↓reduceIte, Nat.reduceAdd, Nat.reduceMul, Nat.reduceLT, Nat.reduceBEq, Nat.reduceLeDiff, Nat.reduceEqDiff, Int.reduceToNat])) | (refine callH_intro (fun hcc => impl_Mod_ok _ _) ?_; try (simp (disch := exact eqId (by kernel_rfl)) only [go_sem, ↓reduceIte, Nat.reduceAdd, Nat.reduceMul, Nat.reduceLT, Nat.reduceBEq, Nat.reduceLeDiff, Nat.reduceEqDiff, Int.reduceToNat])))
    all_goals (try omega)
    · have hk : k < l.length := by omega
      simp only [drop_getD hk 0, List.foldl_cons] at h2
      refine back_intro (k + 1, hashStep h (l.getD k 0)) ?_ ?_ (sub_shp hN [] ?_)
      · exact ⟨hk, h2⟩
      · simp only; omega
      · simp (disch := exact eqId (by kernel_rfl)) only [go_sem, ↓reduceIte, Nat.reduceAdd, Nat.reduceMul, Nat.reduceLT, Nat.reduceBEq, Nat.reduceLeDiff, Nat.reduceEqDiff, Int.reduceToNat]
        exact ⟨rfl, wrap_succ hk hw.1.1⟩
    · have hk : l.length ≤ k := by omega
      simp only [drop_end hk] at h2
      exact h2.symm
theorem spec_Hash_ok (l : List Int) : FunOK Try.prog 143 [⟨(.list I), l⟩] (.rd I (hashF l)) := by
  refine fun_of (tb := tb) follows Try.func143 (by kernel_rfl) Try.ntmps143 rfl rfl rfl ?_; intro cx hN hw
  simp (disch := exact eqId (by kernel_rfl)) only [go_sem, ↓reduceIte, Nat.reduceAdd, Nat.reduceMul, Nat.reduceLT, Nat.reduceBEq, Nat.reduceLeDiff, Nat.reduceEqDiff, Int.reduceToNat]
  refine loop_intro (tb := tb) follows hN (D := Nat × Int) (fun d => shp [(0, .rd (.list I) (l)), (3, .rd I d.2), (4, .rd I (d.1 : Int))] []) (fun d => d.1 ≤ l.length ∧ hashF l = (l.drop d.1).foldl hashStep d.2) (fun d => l.length - d.1) (0, 11) ?_ (sub_shp hN [] ?_) (fun d hd => ?_)
  · exact ⟨Nat.zero_le _, rfl⟩
  · simp (disch := exact eqId (by kernel_rfl)) only [go_sem, ↓reduceIte, Nat.reduceAdd, Nat.reduceMul, Nat.reduceLT, Nat.reduceBEq, Nat.reduceLeDiff, Nat.reduceEqDiff, Int.reduceToNat]
    rfl
  · obtain ⟨k, h⟩ := d
    obtain ⟨h1, h2⟩ := hd
    simp (disch := exact eqId (by kernel_rfl)) only [go_sem, ↓reduceIte, Nat.reduceAdd, Nat.reduceMul, Nat.reduceLT, Nat.reduceBEq, Nat.reduceLeDiff, Nat.reduceEqDiff, Int.reduceToNat]
    repeat' (first | (refine And.intro ?_ ?_) | intro _ | (refine callQ_intro (spec_Mod_ok _ _) ?_; try (simp (disch := exact eqId (by kernel_rfl)) only [go_sem, ↓reduceIte, Nat.reduceAdd, Nat.reduceMul, Nat.reduceLT, Nat.reduceBEq, Nat.reduceLeDiff, Nat.reduceEqDiff, Int.reduceToNat])) | (refine callH_intro (fun hcc => spec_Mod_ok _ _) ?_; try (simp (disch := exact eqId (by kernel_rfl)) only [go_sem, ↓reduceIte, Nat.reduceAdd, Nat.reduceMul, Nat.reduceLT, Nat.reduceBEq, Nat.reduceLeDiff, Nat.reduceEqDiff, Int.reduceToNat])))
    all_goals (try omega)
    · have hk : k < l.length := by omega
      simp only [drop_getD hk 0, List.foldl_cons] at h2
      refine back_intro (k + 1, hashStep h (l.getD k 0)) ?_ ?_ (sub_shp hN [] ?_)
      · exact ⟨hk, h2⟩
      · simp only; omega
      · simp (disch := exact eqId (by kernel_rfl)) only [go_sem, ↓reduceIte, Nat.reduceAdd, Nat.reduceMul, Nat.reduceLT, Nat.reduceBEq, Nat.reduceLeDiff, Nat.reduceEqDiff, Int.reduceToNat]
        exact ⟨rfl, wrap_succ hk hw.1.1⟩
    · have hk : l.length ≤ k := by omega
      simp only [drop_end hk] at h2
      exact h2.symm
theorem impl_DigestOf_ok (m : Int) (l : List Int) (hl : l.length ≤ 1073741824) : FunOK Try.prog 120 [⟨I, m⟩, ⟨(.list I), l⟩] (.rd I (digF m l)) := by
  refine fun_of (tb := tb) follows Try.func120 (by kernel_rfl) Try.ntmps120 rfl rfl rfl ?_; intro cx hN hw
  simp (disch := exact eqId (by kernel_rfl)) only [go_sem, ↓reduceIte, Nat.reduceAdd, Nat.reduceMul, Nat.reduceLT, Nat.reduceBEq, Nat.reduceLeDiff, Nat.reduceEqDiff, Int.reduceToNat]
  repeat' (first | (refine And.intro ?_ ?_) | intro _ | (refine callQ_intro (impl_Hash_ok _) ?_; try (simp (disch := exact eqId (by kernel_rfl)) only [go_sem, ↓reduceIte, Nat.reduceAdd, Nat.reduceMul, Nat.reduceLT, Nat.reduceBEq, Nat.reduceLeDiff, Nat.reduceEqDiff, Int.reduceToNat])) | (refine callH_intro (fun hcc => impl_Hash_ok _) ?_; try (simp (disch := exact eqId (by kernel_rfl)) only [go_sem, ↓reduceIte, Nat.reduceAdd, Nat.reduceMul, Nat.reduceLT, Nat.reduceBEq, Nat.reduceLeDiff, Nat.reduceEqDiff, Int.reduceToNat])))
  all_goals first | omega | (simp only [List.length_cons, List.length_nil]; omega) | rfl
theorem spec_DigestOf_ok (m : Int) (l : List Int) (hl : l.length ≤ 1073741824) : FunOK Try.prog 117 [⟨I, m⟩, ⟨(.list I), l⟩] (.rd I (digF m l)) := by
  refine fun_of (tb := tb) follows Try.func117 (by kernel_rfl) Try.ntmps117 rfl rfl rfl ?_; intro cx hN hw
  simp (disch := exact eqId (by kernel_rfl)) only [go_sem, ↓reduceIte, Nat.reduceAdd, Nat.reduceMul, Nat.reduceLT, Nat.reduceBEq, Nat.reduceLeDiff, Nat.reduceEqDiff, Int.reduceToNat]
  repeat' (first | (refine And.intro ?_ ?_) | intro _ | (refine callQ_intro (spec_Hash_ok _) ?_; try (simp (disch := exact eqId (by kernel_rfl)) only [go_sem, ↓reduceIte, Nat.reduceAdd, Nat.reduceMul, Nat.reduceLT, Nat.reduceBEq, Nat.reduceLeDiff, Nat.reduceEqDiff, Int.reduceToNat])) | (refine callH_intro (fun hcc => spec_Hash_ok _) ?_; try (simp (disch := exact eqId (by kernel_rfl)) only [go_sem, ↓reduceIte, Nat.reduceAdd, Nat.reduceMul, Nat.reduceLT, Nat.reduceBEq, Nat.reduceLeDiff, Nat.reduceEqDiff, Int.reduceToNat])))
  all_goals first | omega | (simp only [List.length_cons, List.length_nil]; omega) | rfl
end Go.Proofs.Ytfkdkblbhilghaa
/- What the functions of pieces answer, on both sides. It proves nothing of a statement by itself. -/
set_option linter.unusedSimpArgs false
set_option linter.unusedVariables false
set_option maxRecDepth 100000
namespace Go.Proofs.Ytfkdkblbhilghaa
open Go.AL
def kindC (l : List Int) : Prop := l.length ≠ 0 ∧ 101 ≤ l.getD 0 0 ∧ l.getD 0 0 ≤ 105 ∧ (l.length : Int) = [7, 5, 5, 9, 6].getD (l.getD 0 0 - 101).toNat 0
instance (l : List Int) : Decidable (kindC l) := by unfold kindC; infer_instance
def kindF (l : List Int) : Int := if kindC l then l.getD 0 0 else 0
theorem kind_len {l : List Int} {c : Int} (h : kindF l = c) (hc : c ≠ 0) : (l.length : Int) = [7, 5, 5, 9, 6].getD (c - 101).toNat 0 ∧ 101 ≤ c ∧ c ≤ 105 ∧ l.getD 0 0 = c := by
  unfold kindF at h
  by_cases hk : kindC l
  · rw [if_pos hk] at h
    obtain ⟨_, h2, h3, h4⟩ := hk
    rw [h] at h4 h2 h3
    exact ⟨h4, h2, h3, h⟩
  · rw [if_neg hk] at h; exact absurd h.symm hc
theorem kind101 {l : List Int} (h : kindF l = 101) : (l.length : Int) = 7 := (kind_len h (by decide)).1
theorem kind102 {l : List Int} (h : kindF l = 102) : (l.length : Int) = 5 := (kind_len h (by decide)).1
theorem kind103 {l : List Int} (h : kindF l = 103) : (l.length : Int) = 5 := (kind_len h (by decide)).1
theorem kind104 {l : List Int} (h : kindF l = 104) : (l.length : Int) = 9 := (kind_len h (by decide)).1
theorem kind105 {l : List Int} (h : kindF l = 105) : (l.length : Int) = 6 := (kind_len h (by decide)).1
end Go.Proofs.Ytfkdkblbhilghaa
/- What the functions of trees, pieces and renewals answer, on both sides. It proves nothing of a statement by itself. -/
set_option linter.unusedSimpArgs false
set_option linter.unusedVariables false
set_option maxRecDepth 100000
namespace Go.Proofs.Ytfkdkblbhilghaa
open Go.AL
theorem impl_EqualInts_ok (a b : List (I : Ty).den) : FunOK Try.prog 150 [⟨(.list I), a⟩, ⟨(.list I), b⟩] (.rd .bool (eqC a b)) := by
  refine fun_of (tb := tb) follows Try.func150 (by kernel_rfl) Try.ntmps150 rfl rfl rfl ?_; intro cx hN hw
  simp (disch := exact eqId (by kernel_rfl)) only [go_sem, ↓reduceIte, Nat.reduceAdd, Nat.reduceMul, Nat.reduceLT, Nat.reduceBEq, Nat.reduceLeDiff, Nat.reduceEqDiff, Int.reduceToNat]
  repeat' (first | (refine And.intro ?_ ?_) | intro _)
  all_goals (try omega)
  · refine Eq.symm (eqC_f.mpr ?_); rintro rfl; simp_all
  · have hl : a.length = b.length := by omega
    refine loop_intro (tb := tb) follows hN (D := Nat) (fun d => shp [(0, .rd (.list I) (a)), (1, .rd (.list I) (b)), (12, .rd I (((a).length : Int) : Int)), (13, .rd I (d : Int))] []) (fun d => d ≤ a.length ∧ a.take d = b.take d) (fun d => a.length - d) (0) ?_ (sub_shp hN [] ?_) (fun d hd => ?_)
    · exact ⟨Nat.zero_le _, rfl⟩
    · simp (disch := exact eqId (by kernel_rfl)) only [go_sem, ↓reduceIte, Nat.reduceAdd, Nat.reduceMul, Nat.reduceLT, Nat.reduceBEq, Nat.reduceLeDiff, Nat.reduceEqDiff, Int.reduceToNat]
      rfl
    · obtain ⟨h1, h2⟩ := hd
      simp (disch := exact eqId (by kernel_rfl)) only [go_sem, ↓reduceIte, Nat.reduceAdd, Nat.reduceMul, Nat.reduceLT, Nat.reduceBEq, Nat.reduceLeDiff, Nat.reduceEqDiff, Int.reduceToNat]
      repeat' (first | (refine And.intro ?_ ?_) | intro _)
      all_goals (try omega)
      · rename_i hk hne
        refine Eq.symm (eqC_f.mpr ?_)
        rintro rfl
        simp_all [eqC_f]
      · rename_i hk he
        have hk : d < a.length := by omega
        refine back_intro (d + 1) ?_ ?_ (sub_shp hN [] ?_)
        · refine ⟨hk, ?_⟩
          rw [take_getD hk (0 : (I : Ty).den), take_getD (show d < b.length by omega) (0 : (I : Ty).den), h2]
          try simp only [eqC_t] at he
          first | rw [he] | (simp_all; done)
        · omega
        · simp (disch := exact eqId (by kernel_rfl)) only [go_sem, ↓reduceIte, Nat.reduceAdd, Nat.reduceMul, Nat.reduceLT, Nat.reduceBEq, Nat.reduceLeDiff, Nat.reduceEqDiff, Int.reduceToNat]
          exact wrap_succ hk hw.1.1
      · have hk : d = a.length := by omega
        refine Eq.symm (eqC_t.mpr ?_)
        rw [hk, List.take_length, hl, List.take_length] at h2
        exact h2
theorem spec_EqualInts_ok (a b : List (I : Ty).den) : FunOK Try.prog 147 [⟨(.list I), a⟩, ⟨(.list I), b⟩] (.rd .bool (eqC a b)) := by
  refine fun_of (tb := tb) follows Try.func147 (by kernel_rfl) Try.ntmps147 rfl rfl rfl ?_; intro cx hN hw
  simp (disch := exact eqId (by kernel_rfl)) only [go_sem, ↓reduceIte, Nat.reduceAdd, Nat.reduceMul, Nat.reduceLT, Nat.reduceBEq, Nat.reduceLeDiff, Nat.reduceEqDiff, Int.reduceToNat]
  repeat' (first | (refine And.intro ?_ ?_) | intro _)
  all_goals (try omega)
  · refine Eq.symm (eqC_f.mpr ?_); rintro rfl; simp_all
  · have hl : a.length = b.length := by omega
    refine loop_intro (tb := tb) follows hN (D := Nat) (fun d => shp [(0, .rd (.list I) (a)), (1, .rd (.list I) (b)), (5, .rd I (d : Int))] []) (fun d => d ≤ a.length ∧ a.take d = b.take d) (fun d => a.length - d) (0) ?_ (sub_shp hN [] ?_) (fun d hd => ?_)
    · exact ⟨Nat.zero_le _, rfl⟩
    · simp (disch := exact eqId (by kernel_rfl)) only [go_sem, ↓reduceIte, Nat.reduceAdd, Nat.reduceMul, Nat.reduceLT, Nat.reduceBEq, Nat.reduceLeDiff, Nat.reduceEqDiff, Int.reduceToNat]
      rfl
    · obtain ⟨h1, h2⟩ := hd
      simp (disch := exact eqId (by kernel_rfl)) only [go_sem, ↓reduceIte, Nat.reduceAdd, Nat.reduceMul, Nat.reduceLT, Nat.reduceBEq, Nat.reduceLeDiff, Nat.reduceEqDiff, Int.reduceToNat]
      repeat' (first | (refine And.intro ?_ ?_) | intro _)
      all_goals (try omega)
      · rename_i hk hne
        refine Eq.symm (eqC_f.mpr ?_)
        rintro rfl
        simp_all [eqC_f]
      · rename_i hk he
        have hk : d < a.length := by omega
        refine back_intro (d + 1) ?_ ?_ (sub_shp hN [] ?_)
        · refine ⟨hk, ?_⟩
          rw [take_getD hk (0 : (I : Ty).den), take_getD (show d < b.length by omega) (0 : (I : Ty).den), h2]
          try simp only [eqC_t] at he
          first | rw [he] | (simp_all; done)
        · omega
        · simp (disch := exact eqId (by kernel_rfl)) only [go_sem, ↓reduceIte, Nat.reduceAdd, Nat.reduceMul, Nat.reduceLT, Nat.reduceBEq, Nat.reduceLeDiff, Nat.reduceEqDiff, Int.reduceToNat]
          exact wrap_succ hk hw.1.1
      · have hk : d = a.length := by omega
        refine Eq.symm (eqC_t.mpr ?_)
        rw [hk, List.take_length, hl, List.take_length] at h2
        exact h2
theorem impl_equalStamps_ok (a b : List (tStamp : Ty).den) : FunOK Try.prog 111 [⟨(.list tStamp), a⟩, ⟨(.list tStamp), b⟩] (.rd .bool (eqC a b)) := by
  refine fun_of (tb := tb) follows Try.func111 (by kernel_rfl) Try.ntmps111 rfl rfl rfl ?_; intro cx hN hw
  simp (disch := exact eqId (by kernel_rfl)) only [go_sem, ↓reduceIte, Nat.reduceAdd, Nat.reduceMul, Nat.reduceLT, Nat.reduceBEq, Nat.reduceLeDiff, Nat.reduceEqDiff, Int.reduceToNat]
  repeat' (first | (refine And.intro ?_ ?_) | intro _)
  all_goals (try omega)
  · refine Eq.symm (eqC_f.mpr ?_); rintro rfl; simp_all
  · have hl : a.length = b.length := by omega
    refine loop_intro (tb := tb) follows hN (D := Nat) (fun d => shp [(0, .rd (.list tStamp) (a)), (1, .rd (.list tStamp) (b)), (12, .rd I (((a).length : Int) : Int)), (13, .rd I (d : Int))] []) (fun d => d ≤ a.length ∧ a.take d = b.take d) (fun d => a.length - d) (0) ?_ (sub_shp hN [] ?_) (fun d hd => ?_)
    · exact ⟨Nat.zero_le _, rfl⟩
    · simp (disch := exact eqId (by kernel_rfl)) only [go_sem, ↓reduceIte, Nat.reduceAdd, Nat.reduceMul, Nat.reduceLT, Nat.reduceBEq, Nat.reduceLeDiff, Nat.reduceEqDiff, Int.reduceToNat]
      rfl
    · obtain ⟨h1, h2⟩ := hd
      simp (disch := exact eqId (by kernel_rfl)) only [go_sem, ↓reduceIte, Nat.reduceAdd, Nat.reduceMul, Nat.reduceLT, Nat.reduceBEq, Nat.reduceLeDiff, Nat.reduceEqDiff, Int.reduceToNat]
      repeat' (first | (refine And.intro ?_ ?_) | intro _)
      all_goals (try omega)
      · rename_i hk hne
        refine Eq.symm (eqC_f.mpr ?_)
        rintro rfl
        simp_all [eqC_f]
      · rename_i hk he
        have hk : d < a.length := by omega
        refine back_intro (d + 1) ?_ ?_ (sub_shp hN [] ?_)
        · refine ⟨hk, ?_⟩
          rw [take_getD hk ((0, 0, 0, 0, 0, ()) : (tStamp : Ty).den), take_getD (show d < b.length by omega) ((0, 0, 0, 0, 0, ()) : (tStamp : Ty).den), h2]
          try simp only [eqC_t] at he
          first | rw [he] | (simp_all; done)
        · omega
        · simp (disch := exact eqId (by kernel_rfl)) only [go_sem, ↓reduceIte, Nat.reduceAdd, Nat.reduceMul, Nat.reduceLT, Nat.reduceBEq, Nat.reduceLeDiff, Nat.reduceEqDiff, Int.reduceToNat]
          exact wrap_succ hk hw.1.1
      · have hk : d = a.length := by omega
        refine Eq.symm (eqC_t.mpr ?_)
        rw [hk, List.take_length, hl, List.take_length] at h2
        exact h2
theorem spec_l23Stamps_ok (a b : List (tStamp : Ty).den) : FunOK Try.prog 108 [⟨(.list tStamp), a⟩, ⟨(.list tStamp), b⟩] (.rd .bool (eqC a b)) := by
  refine fun_of (tb := tb) follows Try.func108 (by kernel_rfl) Try.ntmps108 rfl rfl rfl ?_; intro cx hN hw
  simp (disch := exact eqId (by kernel_rfl)) only [go_sem, ↓reduceIte, Nat.reduceAdd, Nat.reduceMul, Nat.reduceLT, Nat.reduceBEq, Nat.reduceLeDiff, Nat.reduceEqDiff, Int.reduceToNat]
  repeat' (first | (refine And.intro ?_ ?_) | intro _)
  all_goals (try omega)
  · refine Eq.symm (eqC_f.mpr ?_); rintro rfl; simp_all
  · have hl : a.length = b.length := by omega
    refine loop_intro (tb := tb) follows hN (D := Nat) (fun d => shp [(0, .rd (.list tStamp) (a)), (1, .rd (.list tStamp) (b)), (5, .rd I (d : Int))] []) (fun d => d ≤ a.length ∧ a.take d = b.take d) (fun d => a.length - d) (0) ?_ (sub_shp hN [] ?_) (fun d hd => ?_)
    · exact ⟨Nat.zero_le _, rfl⟩
    · simp (disch := exact eqId (by kernel_rfl)) only [go_sem, ↓reduceIte, Nat.reduceAdd, Nat.reduceMul, Nat.reduceLT, Nat.reduceBEq, Nat.reduceLeDiff, Nat.reduceEqDiff, Int.reduceToNat]
      rfl
    · obtain ⟨h1, h2⟩ := hd
      simp (disch := exact eqId (by kernel_rfl)) only [go_sem, ↓reduceIte, Nat.reduceAdd, Nat.reduceMul, Nat.reduceLT, Nat.reduceBEq, Nat.reduceLeDiff, Nat.reduceEqDiff, Int.reduceToNat]
      repeat' (first | (refine And.intro ?_ ?_) | intro _)
      all_goals (try omega)
      · rename_i hk hne
        refine Eq.symm (eqC_f.mpr ?_)
        rintro rfl
        simp_all [eqC_f]
      · rename_i hk he
        have hk : d < a.length := by omega
        refine back_intro (d + 1) ?_ ?_ (sub_shp hN [] ?_)
        · refine ⟨hk, ?_⟩
          rw [take_getD hk ((0, 0, 0, 0, 0, ()) : (tStamp : Ty).den), take_getD (show d < b.length by omega) ((0, 0, 0, 0, 0, ()) : (tStamp : Ty).den), h2]
          try simp only [eqC_t] at he
          first | rw [he] | (simp_all; done)
        · omega
        · simp (disch := exact eqId (by kernel_rfl)) only [go_sem, ↓reduceIte, Nat.reduceAdd, Nat.reduceMul, Nat.reduceLT, Nat.reduceBEq, Nat.reduceLeDiff, Nat.reduceEqDiff, Int.reduceToNat]
          exact wrap_succ hk hw.1.1
      · have hk : d = a.length := by omega
        refine Eq.symm (eqC_t.mpr ?_)
        rw [hk, List.take_length, hl, List.take_length] at h2
        exact h2
theorem impl_EqualPieces_ok (a b : tPiece.den) : FunOK Try.prog 146 [⟨tPiece, a⟩, ⟨tPiece, b⟩] (.rd .bool (eqC a b)) := by
  obtain ⟨a0, a1, a2, au⟩ := a
  obtain ⟨b0, b1, b2, bu⟩ := b
  refine fun_of (tb := tb) follows Try.func146 (by kernel_rfl) Try.ntmps146 rfl rfl rfl ?_; intro cx hN hw
  simp (disch := exact eqId (by kernel_rfl)) only [go_sem, ↓reduceIte, Nat.reduceAdd, Nat.reduceMul, Nat.reduceLT, Nat.reduceBEq, Nat.reduceLeDiff, Nat.reduceEqDiff, Int.reduceToNat]
  repeat' (first | (refine And.intro ?_ ?_) | intro _ | (refine callQ_intro (impl_EqualInts_ok _ _) ?_; try (simp (disch := exact eqId (by kernel_rfl)) only [go_sem, ↓reduceIte, Nat.reduceAdd, Nat.reduceMul, Nat.reduceLT, Nat.reduceBEq, Nat.reduceLeDiff, Nat.reduceEqDiff, Int.reduceToNat])) | (refine callH_intro (fun hcc => impl_EqualInts_ok _ _) ?_; try (simp (disch := exact eqId (by kernel_rfl)) only [go_sem, ↓reduceIte, Nat.reduceAdd, Nat.reduceMul, Nat.reduceLT, Nat.reduceBEq, Nat.reduceLeDiff, Nat.reduceEqDiff, Int.reduceToNat])))
  rw [eqC_prod, eqC_prod, eqC_prod, eqC_unit, eqC_beq_int, eqC_beq_int]
  simp only [Bool.and_true, Bool.and_assoc]
  cases (a0 == b0) <;> cases (a2 == b2) <;> simp
theorem spec_EqualPieces_ok (a b : tPiece.den) : FunOK Try.prog 139 [⟨tPiece, a⟩, ⟨tPiece, b⟩] (.rd .bool (eqC a b)) := by
  obtain ⟨a0, a1, a2, au⟩ := a
  obtain ⟨b0, b1, b2, bu⟩ := b
  refine fun_of (tb := tb) follows Try.func139 (by kernel_rfl) Try.ntmps139 rfl rfl rfl ?_; intro cx hN hw
  simp (disch := exact eqId (by kernel_rfl)) only [go_sem, ↓reduceIte, Nat.reduceAdd, Nat.reduceMul, Nat.reduceLT, Nat.reduceBEq, Nat.reduceLeDiff, Nat.reduceEqDiff, Int.reduceToNat]
  repeat' (first | (refine And.intro ?_ ?_) | intro _ | (refine callQ_intro (spec_EqualInts_ok _ _) ?_; try (simp (disch := exact eqId (by kernel_rfl)) only [go_sem, ↓reduceIte, Nat.reduceAdd, Nat.reduceMul, Nat.reduceLT, Nat.reduceBEq, Nat.reduceLeDiff, Nat.reduceEqDiff, Int.reduceToNat])) | (refine callH_intro (fun hcc => spec_EqualInts_ok _ _) ?_; try (simp (disch := exact eqId (by kernel_rfl)) only [go_sem, ↓reduceIte, Nat.reduceAdd, Nat.reduceMul, Nat.reduceLT, Nat.reduceBEq, Nat.reduceLeDiff, Nat.reduceEqDiff, Int.reduceToNat])))
  rw [eqC_prod, eqC_prod, eqC_prod, eqC_unit, eqC_beq_int, eqC_beq_int]
  simp only [Bool.and_true, Bool.and_assoc]
  cases (a0 == b0) <;> cases (a2 == b2) <;> simp
def befF : List Int → List Int → Int → Int → Int → Int → Bool
  | x :: xs, y :: ys, k, l, m, n => if x ≠ y then decide (x < y) else befF xs ys k l m n
  | xs, ys, k, l, m, n => if xs.length ≠ ys.length then decide (xs.length < ys.length) else if k ≠ l then decide (k < l) else decide (m < n)
theorem befF_end (xs ys : List Int) (k l m n : Int) (h : xs.length = 0 ∨ ys.length = 0) : befF xs ys k l m n = if xs.length ≠ ys.length then decide (xs.length < ys.length) else if k ≠ l then decide (k < l) else decide (m < n) := by
  cases xs with
  | nil => unfold befF; rfl
  | cons x xs =>
    cases ys with
    | nil => unfold befF; rfl
    | cons y ys => simp at h
end Go.Proofs.Ytfkdkblbhilghaa
/- What the laws' own helpers answer: copies. It proves nothing of a statement by itself. -/
set_option linter.unusedSimpArgs false
set_option linter.unusedVariables false
set_option maxRecDepth 100000
namespace Go.Proofs.Ytfkdkblbhilghaa
open Go.AL
theorem toIntS_ok (l : List (I : Ty).den) (hs : Small (.list I) 1073741824 l) : FunOK Try.prog 64 [⟨(.list I), l⟩] (.own 3 I l) := by
  have hs1 : l.length ≤ 1073741824 := hs.1
  refine fun_of (tb := tb) follows Try.func64 (by kernel_rfl) Try.ntmps64 rfl rfl rfl ?_; intro cx hN hw
  simp (disch := exact eqId (by kernel_rfl)) only [go_sem, ↓reduceIte, Nat.reduceAdd, Nat.reduceMul, Nat.reduceLT, Nat.reduceBEq, Nat.reduceLeDiff, Nat.reduceEqDiff, Int.reduceToNat]
  repeat' (first | (refine And.intro ?_ ?_) | intro _)
  all_goals (try omega)
  refine loop_intro (tb := tb) follows hN (D := Nat) (fun d => shp [(0, .rd (.list I) (l)), (3, .own 1), (4, .rd I (d : Int))] [(1, .arr 3 I (l.take d ++ List.replicate (l.length - d) (I : Ty).dflt))]) (fun d => d ≤ l.length) (fun d => l.length - d) (0) ?_ (sub_shp hN [(1, some 20032)] ?_) (fun d hd => ?_)
  · exact Nat.zero_le _
  · simp (disch := exact eqId (by kernel_rfl)) only [go_sem, ↓reduceIte, Nat.reduceAdd, Nat.reduceMul, Nat.reduceLT, Nat.reduceBEq, Nat.reduceLeDiff, Nat.reduceEqDiff, Int.reduceToNat]
    exact ⟨rfl, rfl⟩
  · simp (disch := exact eqId (by kernel_rfl)) only [go_sem, ↓reduceIte, Nat.reduceAdd, Nat.reduceMul, Nat.reduceLT, Nat.reduceBEq, Nat.reduceLeDiff, Nat.reduceEqDiff, Int.reduceToNat]
    repeat' (first | (refine And.intro ?_ ?_) | intro _)
    all_goals (try simp only [List.length_append, List.length_take, List.length_replicate])
    all_goals (try omega)
    · have hk : d < l.length := by omega
      refine back_intro (d + 1) ?_ ?_ (sub_shp hN [(1, some 1)] ?_)
      · exact hk
      · omega
      · simp (disch := exact eqId (by kernel_rfl)) only [go_sem, ↓reduceIte, Nat.reduceAdd, Nat.reduceMul, Nat.reduceLT, Nat.reduceBEq, Nat.reduceLeDiff, Nat.reduceEqDiff, Int.reduceToNat]
        exact ⟨set_take_rep hk rfl _ _, wrap_succ' (by omega)⟩
    · have hk : d = l.length := by omega
      simp [hk]
theorem toBoolS_ok (l : List (.bool : Ty).den) (hs : Small (.list .bool) 1073741824 l) : FunOK Try.prog 101 [⟨(.list .bool), l⟩] (.own 4 .bool l) := by
  have hs1 : l.length ≤ 1073741824 := hs.1
  refine fun_of (tb := tb) follows Try.func101 (by kernel_rfl) Try.ntmps101 rfl rfl rfl ?_; intro cx hN hw
  simp (disch := exact eqId (by kernel_rfl)) only [go_sem, ↓reduceIte, Nat.reduceAdd, Nat.reduceMul, Nat.reduceLT, Nat.reduceBEq, Nat.reduceLeDiff, Nat.reduceEqDiff, Int.reduceToNat]
  repeat' (first | (refine And.intro ?_ ?_) | intro _)
  all_goals (try omega)
  refine loop_intro (tb := tb) follows hN (D := Nat) (fun d => shp [(0, .rd (.list .bool) (l)), (3, .own 1), (4, .rd I (d : Int))] [(1, .arr 4 .bool (l.take d ++ List.replicate (l.length - d) (.bool : Ty).dflt))]) (fun d => d ≤ l.length) (fun d => l.length - d) (0) ?_ (sub_shp hN [(1, some 20032)] ?_) (fun d hd => ?_)
  · exact Nat.zero_le _
  · simp (disch := exact eqId (by kernel_rfl)) only [go_sem, ↓reduceIte, Nat.reduceAdd, Nat.reduceMul, Nat.reduceLT, Nat.reduceBEq, Nat.reduceLeDiff, Nat.reduceEqDiff, Int.reduceToNat]
    exact ⟨rfl, rfl⟩
  · simp (disch := exact eqId (by kernel_rfl)) only [go_sem, ↓reduceIte, Nat.reduceAdd, Nat.reduceMul, Nat.reduceLT, Nat.reduceBEq, Nat.reduceLeDiff, Nat.reduceEqDiff, Int.reduceToNat]
    repeat' (first | (refine And.intro ?_ ?_) | intro _)
    all_goals (try simp only [List.length_append, List.length_take, List.length_replicate])
    all_goals (try omega)
    · have hk : d < l.length := by omega
      refine back_intro (d + 1) ?_ ?_ (sub_shp hN [(1, some 1)] ?_)
      · exact hk
      · omega
      · simp (disch := exact eqId (by kernel_rfl)) only [go_sem, ↓reduceIte, Nat.reduceAdd, Nat.reduceMul, Nat.reduceLT, Nat.reduceBEq, Nat.reduceLeDiff, Nat.reduceEqDiff, Int.reduceToNat]
        exact ⟨set_take_rep hk rfl _ _, wrap_succ' (by omega)⟩
    · have hk : d = l.length := by omega
      simp [hk]
theorem toStringS_ok (l : List (.str : Ty).den) (hs : Small (.list .str) 1073741824 l) : FunOK Try.prog 63 [⟨(.list .str), l⟩] (.own 9 .str l) := by
  have hs1 : l.length ≤ 1073741824 := hs.1
  refine fun_of (tb := tb) follows Try.func63 (by kernel_rfl) Try.ntmps63 rfl rfl rfl ?_; intro cx hN hw
  simp (disch := exact eqId (by kernel_rfl)) only [go_sem, ↓reduceIte, Nat.reduceAdd, Nat.reduceMul, Nat.reduceLT, Nat.reduceBEq, Nat.reduceLeDiff, Nat.reduceEqDiff, Int.reduceToNat]
  repeat' (first | (refine And.intro ?_ ?_) | intro _)
  all_goals (try omega)
  refine loop_intro (tb := tb) follows hN (D := Nat) (fun d => shp [(0, .rd (.list .str) (l)), (3, .own 1), (4, .rd I (d : Int))] [(1, .arr 9 .str (l.take d ++ List.replicate (l.length - d) (.str : Ty).dflt))]) (fun d => d ≤ l.length) (fun d => l.length - d) (0) ?_ (sub_shp hN [(1, some 20032)] ?_) (fun d hd => ?_)
  · exact Nat.zero_le _
  · simp (disch := exact eqId (by kernel_rfl)) only [go_sem, ↓reduceIte, Nat.reduceAdd, Nat.reduceMul, Nat.reduceLT, Nat.reduceBEq, Nat.reduceLeDiff, Nat.reduceEqDiff, Int.reduceToNat]
    exact ⟨rfl, rfl⟩
  · simp (disch := exact eqId (by kernel_rfl)) only [go_sem, ↓reduceIte, Nat.reduceAdd, Nat.reduceMul, Nat.reduceLT, Nat.reduceBEq, Nat.reduceLeDiff, Nat.reduceEqDiff, Int.reduceToNat]
    repeat' (first | (refine And.intro ?_ ?_) | intro _)
    all_goals (try simp only [List.length_append, List.length_take, List.length_replicate])
    all_goals (try omega)
    · have hk : d < l.length := by omega
      refine back_intro (d + 1) ?_ ?_ (sub_shp hN [(1, some 1)] ?_)
      · exact hk
      · omega
      · simp (disch := exact eqId (by kernel_rfl)) only [go_sem, ↓reduceIte, Nat.reduceAdd, Nat.reduceMul, Nat.reduceLT, Nat.reduceBEq, Nat.reduceLeDiff, Nat.reduceEqDiff, Int.reduceToNat]
        exact ⟨set_take_rep hk rfl _ _, wrap_succ' (by omega)⟩
    · have hk : d = l.length := by omega
      simp [hk]
theorem toIntSS_ok (l : List ((.list I) : Ty).den) (hs : Small (.list (.list I)) 1073741824 l) : FunOK Try.prog 102 [⟨(.list (.list I)), l⟩] (.own 27 (.list I) l) := by
  have hs1 : l.length ≤ 1073741824 := hs.1
  refine fun_of (tb := tb) follows Try.func102 (by kernel_rfl) Try.ntmps102 rfl rfl rfl ?_; intro cx hN hw
  simp (disch := exact eqId (by kernel_rfl)) only [go_sem, ↓reduceIte, Nat.reduceAdd, Nat.reduceMul, Nat.reduceLT, Nat.reduceBEq, Nat.reduceLeDiff, Nat.reduceEqDiff, Int.reduceToNat]
  repeat' (first | (refine And.intro ?_ ?_) | intro _)
  all_goals (try omega)
  refine loop_intro (tb := tb) follows hN (D := Nat) (fun d => shp [(0, .rd (.list (.list I)) (l)), (3, .own 1), (4, .rd I (d : Int))] [(1, .arr 27 (.list I) (l.take d ++ List.replicate (l.length - d) ((.list I) : Ty).dflt))]) (fun d => d ≤ l.length) (fun d => l.length - d) (0) ?_ (sub_shp hN [(1, some 20032)] ?_) (fun d hd => ?_)
  · exact Nat.zero_le _
  · simp (disch := exact eqId (by kernel_rfl)) only [go_sem, ↓reduceIte, Nat.reduceAdd, Nat.reduceMul, Nat.reduceLT, Nat.reduceBEq, Nat.reduceLeDiff, Nat.reduceEqDiff, Int.reduceToNat]
    exact ⟨rfl, rfl⟩
  · simp (disch := exact eqId (by kernel_rfl)) only [go_sem, ↓reduceIte, Nat.reduceAdd, Nat.reduceMul, Nat.reduceLT, Nat.reduceBEq, Nat.reduceLeDiff, Nat.reduceEqDiff, Int.reduceToNat]
    repeat' (first | (refine And.intro ?_ ?_) | intro _ | (refine callQ_intro (toIntS_ok _ (hs.2 _ (getD_mem (by omega) _))) ?_; try (simp (disch := exact eqId (by kernel_rfl)) only [go_sem, ↓reduceIte, Nat.reduceAdd, Nat.reduceMul, Nat.reduceLT, Nat.reduceBEq, Nat.reduceLeDiff, Nat.reduceEqDiff, Int.reduceToNat])) | (refine callH_intro (fun hcc => toIntS_ok _ (hs.2 _ (getD_mem (by omega) _))) ?_; try (simp (disch := exact eqId (by kernel_rfl)) only [go_sem, ↓reduceIte, Nat.reduceAdd, Nat.reduceMul, Nat.reduceLT, Nat.reduceBEq, Nat.reduceLeDiff, Nat.reduceEqDiff, Int.reduceToNat])))
    all_goals (try simp only [List.length_append, List.length_take, List.length_replicate])
    all_goals (try omega)
    · have hk : d < l.length := by omega
      refine back_intro (d + 1) ?_ ?_ (sub_shp hN [(1, some 1)] ?_)
      · exact hk
      · omega
      · simp (disch := exact eqId (by kernel_rfl)) only [go_sem, ↓reduceIte, Nat.reduceAdd, Nat.reduceMul, Nat.reduceLT, Nat.reduceBEq, Nat.reduceLeDiff, Nat.reduceEqDiff, Int.reduceToNat]
        exact ⟨set_take_rep hk rfl _ _, wrap_succ' (by omega)⟩
    · have hk : d = l.length := by omega
      simp [hk]
theorem toStamp_ok (a : tStamp.den) : FunOK Try.prog 132 [⟨tStamp, a⟩] (.rd tStamp a) := by
  obtain ⟨a0, a1, a2, a3, a4, _⟩ := a
  refine fun_of (tb := tb) follows Try.func132 (by kernel_rfl) Try.ntmps132 rfl rfl rfl ?_; intro cx hN hw
  simp (disch := exact eqId (by kernel_rfl)) only [go_sem, ↓reduceIte, Nat.reduceAdd, Nat.reduceMul, Nat.reduceLT, Nat.reduceBEq, Nat.reduceLeDiff, Nat.reduceEqDiff, Int.reduceToNat]
  skip
  all_goals (try rfl)
theorem toStampS_ok (l : List (tStamp : Ty).den) (hs : Small (.list tStamp) 1073741824 l) : FunOK Try.prog 84 [⟨(.list tStamp), l⟩] (.own 155 tStamp l) := by
  have hs1 : l.length ≤ 1073741824 := hs.1
  refine fun_of (tb := tb) follows Try.func84 (by kernel_rfl) Try.ntmps84 rfl rfl rfl ?_; intro cx hN hw
  simp (disch := exact eqId (by kernel_rfl)) only [go_sem, ↓reduceIte, Nat.reduceAdd, Nat.reduceMul, Nat.reduceLT, Nat.reduceBEq, Nat.reduceLeDiff, Nat.reduceEqDiff, Int.reduceToNat]
  repeat' (first | (refine And.intro ?_ ?_) | intro _)
  all_goals (try omega)
  refine loop_intro (tb := tb) follows hN (D := Nat) (fun d => shp [(0, .rd (.list tStamp) (l)), (3, .own 1), (4, .rd I (d : Int))] [(1, .arr 155 tStamp (l.take d ++ List.replicate (l.length - d) (tStamp : Ty).dflt))]) (fun d => d ≤ l.length) (fun d => l.length - d) (0) ?_ (sub_shp hN [(1, some 20032)] ?_) (fun d hd => ?_)
  · exact Nat.zero_le _
  · simp (disch := exact eqId (by kernel_rfl)) only [go_sem, ↓reduceIte, Nat.reduceAdd, Nat.reduceMul, Nat.reduceLT, Nat.reduceBEq, Nat.reduceLeDiff, Nat.reduceEqDiff, Int.reduceToNat]
    exact ⟨rfl, rfl⟩
  · simp (disch := exact eqId (by kernel_rfl)) only [go_sem, ↓reduceIte, Nat.reduceAdd, Nat.reduceMul, Nat.reduceLT, Nat.reduceBEq, Nat.reduceLeDiff, Nat.reduceEqDiff, Int.reduceToNat]
    repeat' (first | (refine And.intro ?_ ?_) | intro _ | (refine callQ_intro (toStamp_ok _) ?_; try (simp (disch := exact eqId (by kernel_rfl)) only [go_sem, ↓reduceIte, Nat.reduceAdd, Nat.reduceMul, Nat.reduceLT, Nat.reduceBEq, Nat.reduceLeDiff, Nat.reduceEqDiff, Int.reduceToNat])) | (refine callH_intro (fun hcc => toStamp_ok _) ?_; try (simp (disch := exact eqId (by kernel_rfl)) only [go_sem, ↓reduceIte, Nat.reduceAdd, Nat.reduceMul, Nat.reduceLT, Nat.reduceBEq, Nat.reduceLeDiff, Nat.reduceEqDiff, Int.reduceToNat])))
    all_goals (try simp only [List.length_append, List.length_take, List.length_replicate])
    all_goals (try omega)
    · have hk : d < l.length := by omega
      refine back_intro (d + 1) ?_ ?_ (sub_shp hN [(1, some 1)] ?_)
      · exact hk
      · omega
      · simp (disch := exact eqId (by kernel_rfl)) only [go_sem, ↓reduceIte, Nat.reduceAdd, Nat.reduceMul, Nat.reduceLT, Nat.reduceBEq, Nat.reduceLeDiff, Nat.reduceEqDiff, Int.reduceToNat]
        exact ⟨set_take_rep hk rfl _ _, wrap_succ' (by omega)⟩
    · have hk : d = l.length := by omega
      simp [hk]
theorem toStep_ok (a : tStep.den) : FunOK Try.prog 131 [⟨tStep, a⟩] (.rd tStep a) := by
  obtain ⟨a0, a1, _⟩ := a
  refine fun_of (tb := tb) follows Try.func131 (by kernel_rfl) Try.ntmps131 rfl rfl rfl ?_; intro cx hN hw
  simp (disch := exact eqId (by kernel_rfl)) only [go_sem, ↓reduceIte, Nat.reduceAdd, Nat.reduceMul, Nat.reduceLT, Nat.reduceBEq, Nat.reduceLeDiff, Nat.reduceEqDiff, Int.reduceToNat]
  skip
  all_goals (try rfl)
theorem toStepS_ok (l : List (tStep : Ty).den) (hs : Small (.list tStep) 1073741824 l) : FunOK Try.prog 83 [⟨(.list tStep), l⟩] (.own 151 tStep l) := by
  have hs1 : l.length ≤ 1073741824 := hs.1
  refine fun_of (tb := tb) follows Try.func83 (by kernel_rfl) Try.ntmps83 rfl rfl rfl ?_; intro cx hN hw
  simp (disch := exact eqId (by kernel_rfl)) only [go_sem, ↓reduceIte, Nat.reduceAdd, Nat.reduceMul, Nat.reduceLT, Nat.reduceBEq, Nat.reduceLeDiff, Nat.reduceEqDiff, Int.reduceToNat]
  repeat' (first | (refine And.intro ?_ ?_) | intro _)
  all_goals (try omega)
  refine loop_intro (tb := tb) follows hN (D := Nat) (fun d => shp [(0, .rd (.list tStep) (l)), (3, .own 1), (4, .rd I (d : Int))] [(1, .arr 151 tStep (l.take d ++ List.replicate (l.length - d) (tStep : Ty).dflt))]) (fun d => d ≤ l.length) (fun d => l.length - d) (0) ?_ (sub_shp hN [(1, some 20032)] ?_) (fun d hd => ?_)
  · exact Nat.zero_le _
  · simp (disch := exact eqId (by kernel_rfl)) only [go_sem, ↓reduceIte, Nat.reduceAdd, Nat.reduceMul, Nat.reduceLT, Nat.reduceBEq, Nat.reduceLeDiff, Nat.reduceEqDiff, Int.reduceToNat]
    exact ⟨rfl, rfl⟩
  · simp (disch := exact eqId (by kernel_rfl)) only [go_sem, ↓reduceIte, Nat.reduceAdd, Nat.reduceMul, Nat.reduceLT, Nat.reduceBEq, Nat.reduceLeDiff, Nat.reduceEqDiff, Int.reduceToNat]
    repeat' (first | (refine And.intro ?_ ?_) | intro _ | (refine callQ_intro (toStep_ok _) ?_; try (simp (disch := exact eqId (by kernel_rfl)) only [go_sem, ↓reduceIte, Nat.reduceAdd, Nat.reduceMul, Nat.reduceLT, Nat.reduceBEq, Nat.reduceLeDiff, Nat.reduceEqDiff, Int.reduceToNat])) | (refine callH_intro (fun hcc => toStep_ok _) ?_; try (simp (disch := exact eqId (by kernel_rfl)) only [go_sem, ↓reduceIte, Nat.reduceAdd, Nat.reduceMul, Nat.reduceLT, Nat.reduceBEq, Nat.reduceLeDiff, Nat.reduceEqDiff, Int.reduceToNat])))
    all_goals (try simp only [List.length_append, List.length_take, List.length_replicate])
    all_goals (try omega)
    · have hk : d < l.length := by omega
      refine back_intro (d + 1) ?_ ?_ (sub_shp hN [(1, some 1)] ?_)
      · exact hk
      · omega
      · simp (disch := exact eqId (by kernel_rfl)) only [go_sem, ↓reduceIte, Nat.reduceAdd, Nat.reduceMul, Nat.reduceLT, Nat.reduceBEq, Nat.reduceLeDiff, Nat.reduceEqDiff, Int.reduceToNat]
        exact ⟨set_take_rep hk rfl _ _, wrap_succ' (by omega)⟩
    · have hk : d = l.length := by omega
      simp [hk]
theorem toStampSS_ok (l : List ((.list tStamp) : Ty).den) (hs : Small (.list (.list tStamp)) 1073741824 l) : FunOK Try.prog 93 [⟨(.list (.list tStamp)), l⟩] (.own 64 (.list tStamp) l) := by
  have hs1 : l.length ≤ 1073741824 := hs.1
  refine fun_of (tb := tb) follows Try.func93 (by kernel_rfl) Try.ntmps93 rfl rfl rfl ?_; intro cx hN hw
  simp (disch := exact eqId (by kernel_rfl)) only [go_sem, ↓reduceIte, Nat.reduceAdd, Nat.reduceMul, Nat.reduceLT, Nat.reduceBEq, Nat.reduceLeDiff, Nat.reduceEqDiff, Int.reduceToNat]
  repeat' (first | (refine And.intro ?_ ?_) | intro _)
  all_goals (try omega)
  refine loop_intro (tb := tb) follows hN (D := Nat) (fun d => shp [(0, .rd (.list (.list tStamp)) (l)), (3, .own 1), (4, .rd I (d : Int))] [(1, .arr 64 (.list tStamp) (l.take d ++ List.replicate (l.length - d) ((.list tStamp) : Ty).dflt))]) (fun d => d ≤ l.length) (fun d => l.length - d) (0) ?_ (sub_shp hN [(1, some 20032)] ?_) (fun d hd => ?_)
  · exact Nat.zero_le _
  · simp (disch := exact eqId (by kernel_rfl)) only [go_sem, ↓reduceIte, Nat.reduceAdd, Nat.reduceMul, Nat.reduceLT, Nat.reduceBEq, Nat.reduceLeDiff, Nat.reduceEqDiff, Int.reduceToNat]
    exact ⟨rfl, rfl⟩
  · simp (disch := exact eqId (by kernel_rfl)) only [go_sem, ↓reduceIte, Nat.reduceAdd, Nat.reduceMul, Nat.reduceLT, Nat.reduceBEq, Nat.reduceLeDiff, Nat.reduceEqDiff, Int.reduceToNat]
    repeat' (first | (refine And.intro ?_ ?_) | intro _ | (refine callQ_intro (toStampS_ok _ (hs.2 _ (getD_mem (by omega) _))) ?_; try (simp (disch := exact eqId (by kernel_rfl)) only [go_sem, ↓reduceIte, Nat.reduceAdd, Nat.reduceMul, Nat.reduceLT, Nat.reduceBEq, Nat.reduceLeDiff, Nat.reduceEqDiff, Int.reduceToNat])) | (refine callH_intro (fun hcc => toStampS_ok _ (hs.2 _ (getD_mem (by omega) _))) ?_; try (simp (disch := exact eqId (by kernel_rfl)) only [go_sem, ↓reduceIte, Nat.reduceAdd, Nat.reduceMul, Nat.reduceLT, Nat.reduceBEq, Nat.reduceLeDiff, Nat.reduceEqDiff, Int.reduceToNat])))
    all_goals (try simp only [List.length_append, List.length_take, List.length_replicate])
    all_goals (try omega)
    · have hk : d < l.length := by omega
      refine back_intro (d + 1) ?_ ?_ (sub_shp hN [(1, some 1)] ?_)
      · exact hk
      · omega
      · simp (disch := exact eqId (by kernel_rfl)) only [go_sem, ↓reduceIte, Nat.reduceAdd, Nat.reduceMul, Nat.reduceLT, Nat.reduceBEq, Nat.reduceLeDiff, Nat.reduceEqDiff, Int.reduceToNat]
        exact ⟨set_take_rep hk rfl _ _, wrap_succ' (by omega)⟩
    · have hk : d = l.length := by omega
      simp [hk]
theorem toPiece_ok (a : tPiece.den) (hs : Small tPiece 1073741824 a) : FunOK Try.prog 25 [⟨tPiece, a⟩] (.agg [.rd I a.1, .own 3 I a.2.1, .rd I a.2.2.1]) := by
  skip
  refine fun_of (tb := tb) follows Try.func25 (by kernel_rfl) Try.ntmps25 rfl rfl rfl ?_; intro cx hN hw
  simp (disch := exact eqId (by kernel_rfl)) only [go_sem, ↓reduceIte, Nat.reduceAdd, Nat.reduceMul, Nat.reduceLT, Nat.reduceBEq, Nat.reduceLeDiff, Nat.reduceEqDiff, Int.reduceToNat]
  repeat' (first | (refine And.intro ?_ ?_) | intro _ | (refine callQ_intro (toIntS_ok _ hs.2.1) ?_; try (simp (disch := exact eqId (by kernel_rfl)) only [go_sem, ↓reduceIte, Nat.reduceAdd, Nat.reduceMul, Nat.reduceLT, Nat.reduceBEq, Nat.reduceLeDiff, Nat.reduceEqDiff, Int.reduceToNat])) | (refine callH_intro (fun hcc => toIntS_ok _ hs.2.1) ?_; try (simp (disch := exact eqId (by kernel_rfl)) only [go_sem, ↓reduceIte, Nat.reduceAdd, Nat.reduceMul, Nat.reduceLT, Nat.reduceBEq, Nat.reduceLeDiff, Nat.reduceEqDiff, Int.reduceToNat])))
  all_goals (try rfl)
theorem toPieceS_ok (l : List (tPiece : Ty).den) (hs : Small (.list tPiece) 1073741824 l) : FunOK Try.prog 61 [⟨(.list tPiece), l⟩] (.own 52 tPiece l) := by
  have hs1 : l.length ≤ 1073741824 := hs.1
  refine fun_of (tb := tb) follows Try.func61 (by kernel_rfl) Try.ntmps61 rfl rfl rfl ?_; intro cx hN hw
  simp (disch := exact eqId (by kernel_rfl)) only [go_sem, ↓reduceIte, Nat.reduceAdd, Nat.reduceMul, Nat.reduceLT, Nat.reduceBEq, Nat.reduceLeDiff, Nat.reduceEqDiff, Int.reduceToNat]
  repeat' (first | (refine And.intro ?_ ?_) | intro _)
  all_goals (try omega)
  refine loop_intro (tb := tb) follows hN (D := Nat) (fun d => shp [(0, .rd (.list tPiece) (l)), (3, .own 1), (4, .rd I (d : Int))] [(1, .arr 52 tPiece (l.take d ++ List.replicate (l.length - d) (tPiece : Ty).dflt))]) (fun d => d ≤ l.length) (fun d => l.length - d) (0) ?_ (sub_shp hN [(1, some 20032)] ?_) (fun d hd => ?_)
  · exact Nat.zero_le _
  · simp (disch := exact eqId (by kernel_rfl)) only [go_sem, ↓reduceIte, Nat.reduceAdd, Nat.reduceMul, Nat.reduceLT, Nat.reduceBEq, Nat.reduceLeDiff, Nat.reduceEqDiff, Int.reduceToNat]
    exact ⟨rfl, rfl⟩
  · simp (disch := exact eqId (by kernel_rfl)) only [go_sem, ↓reduceIte, Nat.reduceAdd, Nat.reduceMul, Nat.reduceLT, Nat.reduceBEq, Nat.reduceLeDiff, Nat.reduceEqDiff, Int.reduceToNat]
    repeat' (first | (refine And.intro ?_ ?_) | intro _ | (refine callQ_intro (toPiece_ok _ (hs.2 _ (getD_mem (by omega) _))) ?_; try (simp (disch := exact eqId (by kernel_rfl)) only [go_sem, ↓reduceIte, Nat.reduceAdd, Nat.reduceMul, Nat.reduceLT, Nat.reduceBEq, Nat.reduceLeDiff, Nat.reduceEqDiff, Int.reduceToNat])) | (refine callH_intro (fun hcc => toPiece_ok _ (hs.2 _ (getD_mem (by omega) _))) ?_; try (simp (disch := exact eqId (by kernel_rfl)) only [go_sem, ↓reduceIte, Nat.reduceAdd, Nat.reduceMul, Nat.reduceLT, Nat.reduceBEq, Nat.reduceLeDiff, Nat.reduceEqDiff, Int.reduceToNat])))
    all_goals (try simp only [List.length_append, List.length_take, List.length_replicate])
    all_goals (try omega)
    · have hk : d < l.length := by omega
      refine back_intro (d + 1) ?_ ?_ (sub_shp hN [(1, some 1)] ?_)
      · exact hk
      · omega
      · simp (disch := exact eqId (by kernel_rfl)) only [go_sem, ↓reduceIte, Nat.reduceAdd, Nat.reduceMul, Nat.reduceLT, Nat.reduceBEq, Nat.reduceLeDiff, Nat.reduceEqDiff, Int.reduceToNat]
        exact ⟨set_take_rep hk rfl _ _, wrap_succ' (by omega)⟩
    · have hk : d = l.length := by omega
      simp [hk]
theorem toRenewal_ok (a : tRenewal.den) (hs : Small tRenewal 1073741824 a) : FunOK Try.prog 32 [⟨tRenewal, a⟩] (.agg [.rd I a.1, .rd I a.2.1, .rd I a.2.2.1, .own 151 tStep a.2.2.2.1, .own 155 tStamp a.2.2.2.2.1]) := by
  skip
  refine fun_of (tb := tb) follows Try.func32 (by kernel_rfl) Try.ntmps32 rfl rfl rfl ?_; intro cx hN hw
  simp (disch := exact eqId (by kernel_rfl)) only [go_sem, ↓reduceIte, Nat.reduceAdd, Nat.reduceMul, Nat.reduceLT, Nat.reduceBEq, Nat.reduceLeDiff, Nat.reduceEqDiff, Int.reduceToNat]
  repeat' (first | (refine And.intro ?_ ?_) | intro _ | (refine callQ_intro (toStepS_ok _ hs.2.2.2.1) ?_; try (simp (disch := exact eqId (by kernel_rfl)) only [go_sem, ↓reduceIte, Nat.reduceAdd, Nat.reduceMul, Nat.reduceLT, Nat.reduceBEq, Nat.reduceLeDiff, Nat.reduceEqDiff, Int.reduceToNat])) | (refine callH_intro (fun hcc => toStepS_ok _ hs.2.2.2.1) ?_; try (simp (disch := exact eqId (by kernel_rfl)) only [go_sem, ↓reduceIte, Nat.reduceAdd, Nat.reduceMul, Nat.reduceLT, Nat.reduceBEq, Nat.reduceLeDiff, Nat.reduceEqDiff, Int.reduceToNat])) | (refine callQ_intro (toStampS_ok _ hs.2.2.2.2.1) ?_; try (simp (disch := exact eqId (by kernel_rfl)) only [go_sem, ↓reduceIte, Nat.reduceAdd, Nat.reduceMul, Nat.reduceLT, Nat.reduceBEq, Nat.reduceLeDiff, Nat.reduceEqDiff, Int.reduceToNat])) | (refine callH_intro (fun hcc => toStampS_ok _ hs.2.2.2.2.1) ?_; try (simp (disch := exact eqId (by kernel_rfl)) only [go_sem, ↓reduceIte, Nat.reduceAdd, Nat.reduceMul, Nat.reduceLT, Nat.reduceBEq, Nat.reduceLeDiff, Nat.reduceEqDiff, Int.reduceToNat])))
  all_goals (try rfl)
theorem toRenewalS_ok (l : List (tRenewal : Ty).den) (hs : Small (.list tRenewal) 1073741824 l) : FunOK Try.prog 62 [⟨(.list tRenewal), l⟩] (.own 66 tRenewal l) := by
  have hs1 : l.length ≤ 1073741824 := hs.1
  refine fun_of (tb := tb) follows Try.func62 (by kernel_rfl) Try.ntmps62 rfl rfl rfl ?_; intro cx hN hw
  simp (disch := exact eqId (by kernel_rfl)) only [go_sem, ↓reduceIte, Nat.reduceAdd, Nat.reduceMul, Nat.reduceLT, Nat.reduceBEq, Nat.reduceLeDiff, Nat.reduceEqDiff, Int.reduceToNat]
  repeat' (first | (refine And.intro ?_ ?_) | intro _)
  all_goals (try omega)
  refine loop_intro (tb := tb) follows hN (D := Nat) (fun d => shp [(0, .rd (.list tRenewal) (l)), (3, .own 1), (4, .rd I (d : Int))] [(1, .arr 66 tRenewal (l.take d ++ List.replicate (l.length - d) (tRenewal : Ty).dflt))]) (fun d => d ≤ l.length) (fun d => l.length - d) (0) ?_ (sub_shp hN [(1, some 20032)] ?_) (fun d hd => ?_)
  · exact Nat.zero_le _
  · simp (disch := exact eqId (by kernel_rfl)) only [go_sem, ↓reduceIte, Nat.reduceAdd, Nat.reduceMul, Nat.reduceLT, Nat.reduceBEq, Nat.reduceLeDiff, Nat.reduceEqDiff, Int.reduceToNat]
    exact ⟨rfl, rfl⟩
  · simp (disch := exact eqId (by kernel_rfl)) only [go_sem, ↓reduceIte, Nat.reduceAdd, Nat.reduceMul, Nat.reduceLT, Nat.reduceBEq, Nat.reduceLeDiff, Nat.reduceEqDiff, Int.reduceToNat]
    repeat' (first | (refine And.intro ?_ ?_) | intro _ | (refine callQ_intro (toRenewal_ok _ (hs.2 _ (getD_mem (by omega) _))) ?_; try (simp (disch := exact eqId (by kernel_rfl)) only [go_sem, ↓reduceIte, Nat.reduceAdd, Nat.reduceMul, Nat.reduceLT, Nat.reduceBEq, Nat.reduceLeDiff, Nat.reduceEqDiff, Int.reduceToNat])) | (refine callH_intro (fun hcc => toRenewal_ok _ (hs.2 _ (getD_mem (by omega) _))) ?_; try (simp (disch := exact eqId (by kernel_rfl)) only [go_sem, ↓reduceIte, Nat.reduceAdd, Nat.reduceMul, Nat.reduceLT, Nat.reduceBEq, Nat.reduceLeDiff, Nat.reduceEqDiff, Int.reduceToNat])))
    all_goals (try simp only [List.length_append, List.length_take, List.length_replicate])
    all_goals (try omega)
    · have hk : d < l.length := by omega
      refine back_intro (d + 1) ?_ ?_ (sub_shp hN [(1, some 1)] ?_)
      · exact hk
      · omega
      · simp (disch := exact eqId (by kernel_rfl)) only [go_sem, ↓reduceIte, Nat.reduceAdd, Nat.reduceMul, Nat.reduceLT, Nat.reduceBEq, Nat.reduceLeDiff, Nat.reduceEqDiff, Int.reduceToNat]
        exact ⟨set_take_rep hk rfl _ _, wrap_succ' (by omega)⟩
    · have hk : d = l.length := by omega
      simp [hk]
theorem toStrand_ok (a : tStrand.den) (hs : Small tStrand 1073741824 a) : FunOK Try.prog 13 [⟨tStrand, a⟩] (.agg [.own 52 tPiece a.1, .own 66 tRenewal a.2.1]) := by
  skip
  refine fun_of (tb := tb) follows Try.func13 (by kernel_rfl) Try.ntmps13 rfl rfl rfl ?_; intro cx hN hw
  simp (disch := exact eqId (by kernel_rfl)) only [go_sem, ↓reduceIte, Nat.reduceAdd, Nat.reduceMul, Nat.reduceLT, Nat.reduceBEq, Nat.reduceLeDiff, Nat.reduceEqDiff, Int.reduceToNat]
  repeat' (first | (refine And.intro ?_ ?_) | intro _ | (refine callQ_intro (toPieceS_ok _ hs.1) ?_; try (simp (disch := exact eqId (by kernel_rfl)) only [go_sem, ↓reduceIte, Nat.reduceAdd, Nat.reduceMul, Nat.reduceLT, Nat.reduceBEq, Nat.reduceLeDiff, Nat.reduceEqDiff, Int.reduceToNat])) | (refine callH_intro (fun hcc => toPieceS_ok _ hs.1) ?_; try (simp (disch := exact eqId (by kernel_rfl)) only [go_sem, ↓reduceIte, Nat.reduceAdd, Nat.reduceMul, Nat.reduceLT, Nat.reduceBEq, Nat.reduceLeDiff, Nat.reduceEqDiff, Int.reduceToNat])) | (refine callQ_intro (toRenewalS_ok _ hs.2.1) ?_; try (simp (disch := exact eqId (by kernel_rfl)) only [go_sem, ↓reduceIte, Nat.reduceAdd, Nat.reduceMul, Nat.reduceLT, Nat.reduceBEq, Nat.reduceLeDiff, Nat.reduceEqDiff, Int.reduceToNat])) | (refine callH_intro (fun hcc => toRenewalS_ok _ hs.2.1) ?_; try (simp (disch := exact eqId (by kernel_rfl)) only [go_sem, ↓reduceIte, Nat.reduceAdd, Nat.reduceMul, Nat.reduceLT, Nat.reduceBEq, Nat.reduceLeDiff, Nat.reduceEqDiff, Int.reduceToNat])))
  all_goals (try rfl)
theorem toStrandS_ok (l : List (tStrand : Ty).den) (hs : Small (.list tStrand) 1073741824 l) : FunOK Try.prog 92 [⟨(.list tStrand), l⟩] (.own 36 tStrand l) := by
  have hs1 : l.length ≤ 1073741824 := hs.1
  refine fun_of (tb := tb) follows Try.func92 (by kernel_rfl) Try.ntmps92 rfl rfl rfl ?_; intro cx hN hw
  simp (disch := exact eqId (by kernel_rfl)) only [go_sem, ↓reduceIte, Nat.reduceAdd, Nat.reduceMul, Nat.reduceLT, Nat.reduceBEq, Nat.reduceLeDiff, Nat.reduceEqDiff, Int.reduceToNat]
  repeat' (first | (refine And.intro ?_ ?_) | intro _)
  all_goals (try omega)
  refine loop_intro (tb := tb) follows hN (D := Nat) (fun d => shp [(0, .rd (.list tStrand) (l)), (3, .own 1), (4, .rd I (d : Int))] [(1, .arr 36 tStrand (l.take d ++ List.replicate (l.length - d) (tStrand : Ty).dflt))]) (fun d => d ≤ l.length) (fun d => l.length - d) (0) ?_ (sub_shp hN [(1, some 20032)] ?_) (fun d hd => ?_)
  · exact Nat.zero_le _
  · simp (disch := exact eqId (by kernel_rfl)) only [go_sem, ↓reduceIte, Nat.reduceAdd, Nat.reduceMul, Nat.reduceLT, Nat.reduceBEq, Nat.reduceLeDiff, Nat.reduceEqDiff, Int.reduceToNat]
    exact ⟨rfl, rfl⟩
  · simp (disch := exact eqId (by kernel_rfl)) only [go_sem, ↓reduceIte, Nat.reduceAdd, Nat.reduceMul, Nat.reduceLT, Nat.reduceBEq, Nat.reduceLeDiff, Nat.reduceEqDiff, Int.reduceToNat]
    repeat' (first | (refine And.intro ?_ ?_) | intro _ | (refine callQ_intro (toStrand_ok _ (hs.2 _ (getD_mem (by omega) _))) ?_; try (simp (disch := exact eqId (by kernel_rfl)) only [go_sem, ↓reduceIte, Nat.reduceAdd, Nat.reduceMul, Nat.reduceLT, Nat.reduceBEq, Nat.reduceLeDiff, Nat.reduceEqDiff, Int.reduceToNat])) | (refine callH_intro (fun hcc => toStrand_ok _ (hs.2 _ (getD_mem (by omega) _))) ?_; try (simp (disch := exact eqId (by kernel_rfl)) only [go_sem, ↓reduceIte, Nat.reduceAdd, Nat.reduceMul, Nat.reduceLT, Nat.reduceBEq, Nat.reduceLeDiff, Nat.reduceEqDiff, Int.reduceToNat])))
    all_goals (try simp only [List.length_append, List.length_take, List.length_replicate])
    all_goals (try omega)
    · have hk : d < l.length := by omega
      refine back_intro (d + 1) ?_ ?_ (sub_shp hN [(1, some 1)] ?_)
      · exact hk
      · omega
      · simp (disch := exact eqId (by kernel_rfl)) only [go_sem, ↓reduceIte, Nat.reduceAdd, Nat.reduceMul, Nat.reduceLT, Nat.reduceBEq, Nat.reduceLeDiff, Nat.reduceEqDiff, Int.reduceToNat]
        exact ⟨set_take_rep hk rfl _ _, wrap_succ' (by omega)⟩
    · have hk : d = l.length := by omega
      simp [hk]
theorem toEvidence_ok (a : tEvidence.den) (hs : Small tEvidence 1073741824 a) : FunOK Try.prog 38 [⟨tEvidence, a⟩] (.agg [.own 36 tStrand a.1, .own 64 (.list tStamp) a.2.1]) := by
  skip
  refine fun_of (tb := tb) follows Try.func38 (by kernel_rfl) Try.ntmps38 rfl rfl rfl ?_; intro cx hN hw
  simp (disch := exact eqId (by kernel_rfl)) only [go_sem, ↓reduceIte, Nat.reduceAdd, Nat.reduceMul, Nat.reduceLT, Nat.reduceBEq, Nat.reduceLeDiff, Nat.reduceEqDiff, Int.reduceToNat]
  repeat' (first | (refine And.intro ?_ ?_) | intro _ | (refine callQ_intro (toStrandS_ok _ hs.1) ?_; try (simp (disch := exact eqId (by kernel_rfl)) only [go_sem, ↓reduceIte, Nat.reduceAdd, Nat.reduceMul, Nat.reduceLT, Nat.reduceBEq, Nat.reduceLeDiff, Nat.reduceEqDiff, Int.reduceToNat])) | (refine callH_intro (fun hcc => toStrandS_ok _ hs.1) ?_; try (simp (disch := exact eqId (by kernel_rfl)) only [go_sem, ↓reduceIte, Nat.reduceAdd, Nat.reduceMul, Nat.reduceLT, Nat.reduceBEq, Nat.reduceLeDiff, Nat.reduceEqDiff, Int.reduceToNat])) | (refine callQ_intro (toStampSS_ok _ hs.2.1) ?_; try (simp (disch := exact eqId (by kernel_rfl)) only [go_sem, ↓reduceIte, Nat.reduceAdd, Nat.reduceMul, Nat.reduceLT, Nat.reduceBEq, Nat.reduceLeDiff, Nat.reduceEqDiff, Int.reduceToNat])) | (refine callH_intro (fun hcc => toStampSS_ok _ hs.2.1) ?_; try (simp (disch := exact eqId (by kernel_rfl)) only [go_sem, ↓reduceIte, Nat.reduceAdd, Nat.reduceMul, Nat.reduceLT, Nat.reduceBEq, Nat.reduceLeDiff, Nat.reduceEqDiff, Int.reduceToNat])))
  all_goals (try rfl)
theorem toDocument_ok (a : tDocument.den) (hs : Small tDocument 1073741824 a) : FunOK Try.prog 14 [⟨tDocument, a⟩] (.agg [.rd I a.1, .own 9 .str a.2.1, .own 3 I a.2.2.1]) := by
  skip
  refine fun_of (tb := tb) follows Try.func14 (by kernel_rfl) Try.ntmps14 rfl rfl rfl ?_; intro cx hN hw
  simp (disch := exact eqId (by kernel_rfl)) only [go_sem, ↓reduceIte, Nat.reduceAdd, Nat.reduceMul, Nat.reduceLT, Nat.reduceBEq, Nat.reduceLeDiff, Nat.reduceEqDiff, Int.reduceToNat]
  repeat' (first | (refine And.intro ?_ ?_) | intro _ | (refine callQ_intro (toStringS_ok _ hs.2.1) ?_; try (simp (disch := exact eqId (by kernel_rfl)) only [go_sem, ↓reduceIte, Nat.reduceAdd, Nat.reduceMul, Nat.reduceLT, Nat.reduceBEq, Nat.reduceLeDiff, Nat.reduceEqDiff, Int.reduceToNat])) | (refine callH_intro (fun hcc => toStringS_ok _ hs.2.1) ?_; try (simp (disch := exact eqId (by kernel_rfl)) only [go_sem, ↓reduceIte, Nat.reduceAdd, Nat.reduceMul, Nat.reduceLT, Nat.reduceBEq, Nat.reduceLeDiff, Nat.reduceEqDiff, Int.reduceToNat])) | (refine callQ_intro (toIntS_ok _ hs.2.2.1) ?_; try (simp (disch := exact eqId (by kernel_rfl)) only [go_sem, ↓reduceIte, Nat.reduceAdd, Nat.reduceMul, Nat.reduceLT, Nat.reduceBEq, Nat.reduceLeDiff, Nat.reduceEqDiff, Int.reduceToNat])) | (refine callH_intro (fun hcc => toIntS_ok _ hs.2.2.1) ?_; try (simp (disch := exact eqId (by kernel_rfl)) only [go_sem, ↓reduceIte, Nat.reduceAdd, Nat.reduceMul, Nat.reduceLT, Nat.reduceBEq, Nat.reduceLeDiff, Nat.reduceEqDiff, Int.reduceToNat])))
  all_goals (try rfl)
theorem toRedacted_ok (a : tRedacted.den) (hs : Small tRedacted 1073741824 a) : FunOK Try.prog 47 [⟨tRedacted, a⟩] (.agg [.rd I a.1, .own 3 I a.2.1, .own 4 .bool a.2.2.1, .own 9 .str a.2.2.2.1, .own 3 I a.2.2.2.2.1, .own 27 (.list I) a.2.2.2.2.2.1]) := by
  skip
  refine fun_of (tb := tb) follows Try.func47 (by kernel_rfl) Try.ntmps47 rfl rfl rfl ?_; intro cx hN hw
  simp (disch := exact eqId (by kernel_rfl)) only [go_sem, ↓reduceIte, Nat.reduceAdd, Nat.reduceMul, Nat.reduceLT, Nat.reduceBEq, Nat.reduceLeDiff, Nat.reduceEqDiff, Int.reduceToNat]
  repeat' (first | (refine And.intro ?_ ?_) | intro _ | (refine callQ_intro (toIntS_ok _ hs.2.1) ?_; try (simp (disch := exact eqId (by kernel_rfl)) only [go_sem, ↓reduceIte, Nat.reduceAdd, Nat.reduceMul, Nat.reduceLT, Nat.reduceBEq, Nat.reduceLeDiff, Nat.reduceEqDiff, Int.reduceToNat])) | (refine callH_intro (fun hcc => toIntS_ok _ hs.2.1) ?_; try (simp (disch := exact eqId (by kernel_rfl)) only [go_sem, ↓reduceIte, Nat.reduceAdd, Nat.reduceMul, Nat.reduceLT, Nat.reduceBEq, Nat.reduceLeDiff, Nat.reduceEqDiff, Int.reduceToNat])) | (refine callQ_intro (toBoolS_ok _ hs.2.2.1) ?_; try (simp (disch := exact eqId (by kernel_rfl)) only [go_sem, ↓reduceIte, Nat.reduceAdd, Nat.reduceMul, Nat.reduceLT, Nat.reduceBEq, Nat.reduceLeDiff, Nat.reduceEqDiff, Int.reduceToNat])) | (refine callH_intro (fun hcc => toBoolS_ok _ hs.2.2.1) ?_; try (simp (disch := exact eqId (by kernel_rfl)) only [go_sem, ↓reduceIte, Nat.reduceAdd, Nat.reduceMul, Nat.reduceLT, Nat.reduceBEq, Nat.reduceLeDiff, Nat.reduceEqDiff, Int.reduceToNat])) | (refine callQ_intro (toStringS_ok _ hs.2.2.2.1) ?_; try (simp (disch := exact eqId (by kernel_rfl)) only [go_sem, ↓reduceIte, Nat.reduceAdd, Nat.reduceMul, Nat.reduceLT, Nat.reduceBEq, Nat.reduceLeDiff, Nat.reduceEqDiff, Int.reduceToNat])) | (refine callH_intro (fun hcc => toStringS_ok _ hs.2.2.2.1) ?_; try (simp (disch := exact eqId (by kernel_rfl)) only [go_sem, ↓reduceIte, Nat.reduceAdd, Nat.reduceMul, Nat.reduceLT, Nat.reduceBEq, Nat.reduceLeDiff, Nat.reduceEqDiff, Int.reduceToNat])) | (refine callQ_intro (toIntS_ok _ hs.2.2.2.2.1) ?_; try (simp (disch := exact eqId (by kernel_rfl)) only [go_sem, ↓reduceIte, Nat.reduceAdd, Nat.reduceMul, Nat.reduceLT, Nat.reduceBEq, Nat.reduceLeDiff, Nat.reduceEqDiff, Int.reduceToNat])) | (refine callH_intro (fun hcc => toIntS_ok _ hs.2.2.2.2.1) ?_; try (simp (disch := exact eqId (by kernel_rfl)) only [go_sem, ↓reduceIte, Nat.reduceAdd, Nat.reduceMul, Nat.reduceLT, Nat.reduceBEq, Nat.reduceLeDiff, Nat.reduceEqDiff, Int.reduceToNat])) | (refine callQ_intro (toIntSS_ok _ hs.2.2.2.2.2.1) ?_; try (simp (disch := exact eqId (by kernel_rfl)) only [go_sem, ↓reduceIte, Nat.reduceAdd, Nat.reduceMul, Nat.reduceLT, Nat.reduceBEq, Nat.reduceLeDiff, Nat.reduceEqDiff, Int.reduceToNat])) | (refine callH_intro (fun hcc => toIntSS_ok _ hs.2.2.2.2.2.1) ?_; try (simp (disch := exact eqId (by kernel_rfl)) only [go_sem, ↓reduceIte, Nat.reduceAdd, Nat.reduceMul, Nat.reduceLT, Nat.reduceBEq, Nat.reduceLeDiff, Nat.reduceEqDiff, Int.reduceToNat])))
  all_goals (try rfl)
end Go.Proofs.Ytfkdkblbhilghaa
/- What the laws' own helpers answer: comparisons. It proves nothing of a statement by itself. -/
set_option linter.unusedSimpArgs false
set_option linter.unusedVariables false
set_option maxRecDepth 100000
namespace Go.Proofs.Ytfkdkblbhilghaa
open Go.AL
theorem eqIntS_ok (a b : List (I : Ty).den) : FunOK Try.prog 16 [⟨(.list I), a⟩, ⟨(.list I), b⟩] (.rd .bool (eqC a b)) := by
  refine fun_of (tb := tb) follows Try.func16 (by kernel_rfl) Try.ntmps16 rfl rfl rfl ?_; intro cx hN hw
  simp (disch := exact eqId (by kernel_rfl)) only [go_sem, ↓reduceIte, Nat.reduceAdd, Nat.reduceMul, Nat.reduceLT, Nat.reduceBEq, Nat.reduceLeDiff, Nat.reduceEqDiff, Int.reduceToNat]
  repeat' (first | (refine And.intro ?_ ?_) | intro _)
  all_goals (try omega)
  · refine Eq.symm (eqC_f.mpr ?_); rintro rfl; simp_all
  · have hl : a.length = b.length := by omega
    refine loop_intro (tb := tb) follows hN (D := Nat) (fun d => shp [(0, .rd (.list I) (a)), (1, .rd (.list I) (b)), (5, .rd I (d : Int))] []) (fun d => d ≤ a.length ∧ a.take d = b.take d) (fun d => a.length - d) (0) ?_ (sub_shp hN [] ?_) (fun d hd => ?_)
    · exact ⟨Nat.zero_le _, rfl⟩
    · simp (disch := exact eqId (by kernel_rfl)) only [go_sem, ↓reduceIte, Nat.reduceAdd, Nat.reduceMul, Nat.reduceLT, Nat.reduceBEq, Nat.reduceLeDiff, Nat.reduceEqDiff, Int.reduceToNat]
      rfl
    · obtain ⟨h1, h2⟩ := hd
      simp (disch := exact eqId (by kernel_rfl)) only [go_sem, ↓reduceIte, Nat.reduceAdd, Nat.reduceMul, Nat.reduceLT, Nat.reduceBEq, Nat.reduceLeDiff, Nat.reduceEqDiff, Int.reduceToNat]
      repeat' (first | (refine And.intro ?_ ?_) | intro _)
      all_goals (try omega)
      · rename_i hk _ hne
        refine Eq.symm (eqC_f.mpr ?_)
        rintro rfl
        simp_all [eqC_f]
      · rename_i hk _ he
        have hk : d < a.length := by omega
        refine back_intro (d + 1) ?_ ?_ (sub_shp hN [] ?_)
        · refine ⟨hk, ?_⟩
          rw [take_getD hk ((I : Ty).dflt), take_getD (show d < b.length by omega) ((I : Ty).dflt), h2]
          try simp only [eqC_t] at he
          first | rw [he] | (simp_all; done)
        · omega
        · simp (disch := exact eqId (by kernel_rfl)) only [go_sem, ↓reduceIte, Nat.reduceAdd, Nat.reduceMul, Nat.reduceLT, Nat.reduceBEq, Nat.reduceLeDiff, Nat.reduceEqDiff, Int.reduceToNat]
          exact wrap_succ hk hw.1.1
      · have hk : d = a.length := by omega
        refine Eq.symm (eqC_t.mpr ?_)
        rw [hk, List.take_length, hl, List.take_length] at h2
        exact h2
theorem eqBoolS_ok (a b : List (.bool : Ty).den) : FunOK Try.prog 104 [⟨(.list .bool), a⟩, ⟨(.list .bool), b⟩] (.rd .bool (eqC a b)) := by
  refine fun_of (tb := tb) follows Try.func104 (by kernel_rfl) Try.ntmps104 rfl rfl rfl ?_; intro cx hN hw
  simp (disch := exact eqId (by kernel_rfl)) only [go_sem, ↓reduceIte, Nat.reduceAdd, Nat.reduceMul, Nat.reduceLT, Nat.reduceBEq, Nat.reduceLeDiff, Nat.reduceEqDiff, Int.reduceToNat]
  repeat' (first | (refine And.intro ?_ ?_) | intro _)
  all_goals (try omega)
  · refine Eq.symm (eqC_f.mpr ?_); rintro rfl; simp_all
  · have hl : a.length = b.length := by omega
    refine loop_intro (tb := tb) follows hN (D := Nat) (fun d => shp [(0, .rd (.list .bool) (a)), (1, .rd (.list .bool) (b)), (5, .rd I (d : Int))] []) (fun d => d ≤ a.length ∧ a.take d = b.take d) (fun d => a.length - d) (0) ?_ (sub_shp hN [] ?_) (fun d hd => ?_)
    · exact ⟨Nat.zero_le _, rfl⟩
    · simp (disch := exact eqId (by kernel_rfl)) only [go_sem, ↓reduceIte, Nat.reduceAdd, Nat.reduceMul, Nat.reduceLT, Nat.reduceBEq, Nat.reduceLeDiff, Nat.reduceEqDiff, Int.reduceToNat]
      rfl
    · obtain ⟨h1, h2⟩ := hd
      simp (disch := exact eqId (by kernel_rfl)) only [go_sem, ↓reduceIte, Nat.reduceAdd, Nat.reduceMul, Nat.reduceLT, Nat.reduceBEq, Nat.reduceLeDiff, Nat.reduceEqDiff, Int.reduceToNat]
      repeat' (first | (refine And.intro ?_ ?_) | intro _)
      all_goals (try omega)
      · rename_i hk _ hne
        refine Eq.symm (eqC_f.mpr ?_)
        rintro rfl
        simp_all [eqC_f]
      · rename_i hk _ he
        have hk : d < a.length := by omega
        refine back_intro (d + 1) ?_ ?_ (sub_shp hN [] ?_)
        · refine ⟨hk, ?_⟩
          rw [take_getD hk ((.bool : Ty).dflt), take_getD (show d < b.length by omega) ((.bool : Ty).dflt), h2]
          try simp only [eqC_t] at he
          first | rw [he] | (simp_all; done)
        · omega
        · simp (disch := exact eqId (by kernel_rfl)) only [go_sem, ↓reduceIte, Nat.reduceAdd, Nat.reduceMul, Nat.reduceLT, Nat.reduceBEq, Nat.reduceLeDiff, Nat.reduceEqDiff, Int.reduceToNat]
          exact wrap_succ hk hw.1.1
      · have hk : d = a.length := by omega
        refine Eq.symm (eqC_t.mpr ?_)
        rw [hk, List.take_length, hl, List.take_length] at h2
        exact h2
theorem eqIntSS_ok (a b : List ((.list I) : Ty).den) : FunOK Try.prog 40 [⟨(.list (.list I)), a⟩, ⟨(.list (.list I)), b⟩] (.rd .bool (eqC a b)) := by
  refine fun_of (tb := tb) follows Try.func40 (by kernel_rfl) Try.ntmps40 rfl rfl rfl ?_; intro cx hN hw
  simp (disch := exact eqId (by kernel_rfl)) only [go_sem, ↓reduceIte, Nat.reduceAdd, Nat.reduceMul, Nat.reduceLT, Nat.reduceBEq, Nat.reduceLeDiff, Nat.reduceEqDiff, Int.reduceToNat]
  repeat' (first | (refine And.intro ?_ ?_) | intro _)
  all_goals (try omega)
  · refine Eq.symm (eqC_f.mpr ?_); rintro rfl; simp_all
  · have hl : a.length = b.length := by omega
    refine loop_intro (tb := tb) follows hN (D := Nat) (fun d => shp [(0, .rd (.list (.list I)) (a)), (1, .rd (.list (.list I)) (b)), (5, .rd I (d : Int))] []) (fun d => d ≤ a.length ∧ a.take d = b.take d) (fun d => a.length - d) (0) ?_ (sub_shp hN [] ?_) (fun d hd => ?_)
    · exact ⟨Nat.zero_le _, rfl⟩
    · simp (disch := exact eqId (by kernel_rfl)) only [go_sem, ↓reduceIte, Nat.reduceAdd, Nat.reduceMul, Nat.reduceLT, Nat.reduceBEq, Nat.reduceLeDiff, Nat.reduceEqDiff, Int.reduceToNat]
      rfl
    · obtain ⟨h1, h2⟩ := hd
      simp (disch := exact eqId (by kernel_rfl)) only [go_sem, ↓reduceIte, Nat.reduceAdd, Nat.reduceMul, Nat.reduceLT, Nat.reduceBEq, Nat.reduceLeDiff, Nat.reduceEqDiff, Int.reduceToNat]
      repeat' (first | (refine And.intro ?_ ?_) | intro _ | (refine callQ_intro (eqIntS_ok _ _) ?_; try (simp (disch := exact eqId (by kernel_rfl)) only [go_sem, ↓reduceIte, Nat.reduceAdd, Nat.reduceMul, Nat.reduceLT, Nat.reduceBEq, Nat.reduceLeDiff, Nat.reduceEqDiff, Int.reduceToNat])) | (refine callH_intro (fun hcc => eqIntS_ok _ _) ?_; try (simp (disch := exact eqId (by kernel_rfl)) only [go_sem, ↓reduceIte, Nat.reduceAdd, Nat.reduceMul, Nat.reduceLT, Nat.reduceBEq, Nat.reduceLeDiff, Nat.reduceEqDiff, Int.reduceToNat])))
      all_goals (try omega)
      · rename_i hk _ hne
        refine Eq.symm (eqC_f.mpr ?_)
        rintro rfl
        simp_all [eqC_f]
      · rename_i hk _ he
        have hk : d < a.length := by omega
        refine back_intro (d + 1) ?_ ?_ (sub_shp hN [] ?_)
        · refine ⟨hk, ?_⟩
          rw [take_getD hk (((.list I) : Ty).dflt), take_getD (show d < b.length by omega) (((.list I) : Ty).dflt), h2]
          try simp only [eqC_t] at he
          first | rw [he] | (simp_all; done)
        · omega
        · simp (disch := exact eqId (by kernel_rfl)) only [go_sem, ↓reduceIte, Nat.reduceAdd, Nat.reduceMul, Nat.reduceLT, Nat.reduceBEq, Nat.reduceLeDiff, Nat.reduceEqDiff, Int.reduceToNat]
          exact wrap_succ hk hw.1.1
      · have hk : d = a.length := by omega
        refine Eq.symm (eqC_t.mpr ?_)
        rw [hk, List.take_length, hl, List.take_length] at h2
        exact h2
theorem eqStamp_ok (a b : tStamp.den) : FunOK Try.prog 134 [⟨tStamp, a⟩, ⟨tStamp, b⟩] (.rd .bool (eqC a b)) := by
  refine fun_of (tb := tb) follows Try.func134 (by kernel_rfl) Try.ntmps134 rfl rfl rfl ?_; intro cx hN hw
  simp (disch := exact eqId (by kernel_rfl)) only [go_sem, ↓reduceIte, Nat.reduceAdd, Nat.reduceMul, Nat.reduceLT, Nat.reduceBEq, Nat.reduceLeDiff, Nat.reduceEqDiff, Int.reduceToNat]
  repeat' (first | (refine And.intro ?_ ?_) | intro _)
  all_goals (try simp only [eqC_t, eqC_f] at *)
  all_goals first
    | (refine Eq.symm (eqC_f.mpr ?_); rintro rfl; simp_all; done)
    | (refine Eq.symm (eqC_t.mpr ?_); obtain ⟨a0, a1, a2, a3, a4, _⟩ := a; obtain ⟨b0, b1, b2, b3, b4, _⟩ := b; simp_all; done)
theorem eqStampS_ok (a b : List (tStamp : Ty).den) : FunOK Try.prog 87 [⟨(.list tStamp), a⟩, ⟨(.list tStamp), b⟩] (.rd .bool (eqC a b)) := by
  refine fun_of (tb := tb) follows Try.func87 (by kernel_rfl) Try.ntmps87 rfl rfl rfl ?_; intro cx hN hw
  simp (disch := exact eqId (by kernel_rfl)) only [go_sem, ↓reduceIte, Nat.reduceAdd, Nat.reduceMul, Nat.reduceLT, Nat.reduceBEq, Nat.reduceLeDiff, Nat.reduceEqDiff, Int.reduceToNat]
  repeat' (first | (refine And.intro ?_ ?_) | intro _)
  all_goals (try omega)
  · refine Eq.symm (eqC_f.mpr ?_); rintro rfl; simp_all
  · have hl : a.length = b.length := by omega
    refine loop_intro (tb := tb) follows hN (D := Nat) (fun d => shp [(0, .rd (.list tStamp) (a)), (1, .rd (.list tStamp) (b)), (5, .rd I (d : Int))] []) (fun d => d ≤ a.length ∧ a.take d = b.take d) (fun d => a.length - d) (0) ?_ (sub_shp hN [] ?_) (fun d hd => ?_)
    · exact ⟨Nat.zero_le _, rfl⟩
    · simp (disch := exact eqId (by kernel_rfl)) only [go_sem, ↓reduceIte, Nat.reduceAdd, Nat.reduceMul, Nat.reduceLT, Nat.reduceBEq, Nat.reduceLeDiff, Nat.reduceEqDiff, Int.reduceToNat]
      rfl
    · obtain ⟨h1, h2⟩ := hd
      simp (disch := exact eqId (by kernel_rfl)) only [go_sem, ↓reduceIte, Nat.reduceAdd, Nat.reduceMul, Nat.reduceLT, Nat.reduceBEq, Nat.reduceLeDiff, Nat.reduceEqDiff, Int.reduceToNat]
      repeat' (first | (refine And.intro ?_ ?_) | intro _ | (refine callQ_intro (eqStamp_ok _ _) ?_; try (simp (disch := exact eqId (by kernel_rfl)) only [go_sem, ↓reduceIte, Nat.reduceAdd, Nat.reduceMul, Nat.reduceLT, Nat.reduceBEq, Nat.reduceLeDiff, Nat.reduceEqDiff, Int.reduceToNat])) | (refine callH_intro (fun hcc => eqStamp_ok _ _) ?_; try (simp (disch := exact eqId (by kernel_rfl)) only [go_sem, ↓reduceIte, Nat.reduceAdd, Nat.reduceMul, Nat.reduceLT, Nat.reduceBEq, Nat.reduceLeDiff, Nat.reduceEqDiff, Int.reduceToNat])))
      all_goals (try omega)
      · rename_i hk _ hne
        refine Eq.symm (eqC_f.mpr ?_)
        rintro rfl
        simp_all [eqC_f]
      · rename_i hk _ he
        have hk : d < a.length := by omega
        refine back_intro (d + 1) ?_ ?_ (sub_shp hN [] ?_)
        · refine ⟨hk, ?_⟩
          rw [take_getD hk ((tStamp : Ty).dflt), take_getD (show d < b.length by omega) ((tStamp : Ty).dflt), h2]
          try simp only [eqC_t] at he
          first | rw [he] | (simp_all; done)
        · omega
        · simp (disch := exact eqId (by kernel_rfl)) only [go_sem, ↓reduceIte, Nat.reduceAdd, Nat.reduceMul, Nat.reduceLT, Nat.reduceBEq, Nat.reduceLeDiff, Nat.reduceEqDiff, Int.reduceToNat]
          exact wrap_succ hk hw.1.1
      · have hk : d = a.length := by omega
        refine Eq.symm (eqC_t.mpr ?_)
        rw [hk, List.take_length, hl, List.take_length] at h2
        exact h2
theorem eqStep_ok (a b : tStep.den) : FunOK Try.prog 133 [⟨tStep, a⟩, ⟨tStep, b⟩] (.rd .bool (eqC a b)) := by
  refine fun_of (tb := tb) follows Try.func133 (by kernel_rfl) Try.ntmps133 rfl rfl rfl ?_; intro cx hN hw
  simp (disch := exact eqId (by kernel_rfl)) only [go_sem, ↓reduceIte, Nat.reduceAdd, Nat.reduceMul, Nat.reduceLT, Nat.reduceBEq, Nat.reduceLeDiff, Nat.reduceEqDiff, Int.reduceToNat]
  repeat' (first | (refine And.intro ?_ ?_) | intro _)
  all_goals (try simp only [eqC_t, eqC_f] at *)
  all_goals first
    | (refine Eq.symm (eqC_f.mpr ?_); rintro rfl; simp_all; done)
    | (refine Eq.symm (eqC_t.mpr ?_); obtain ⟨a0, a1, _⟩ := a; obtain ⟨b0, b1, _⟩ := b; simp_all; done)
theorem eqStepS_ok (a b : List (tStep : Ty).den) : FunOK Try.prog 86 [⟨(.list tStep), a⟩, ⟨(.list tStep), b⟩] (.rd .bool (eqC a b)) := by
  refine fun_of (tb := tb) follows Try.func86 (by kernel_rfl) Try.ntmps86 rfl rfl rfl ?_; intro cx hN hw
  simp (disch := exact eqId (by kernel_rfl)) only [go_sem, ↓reduceIte, Nat.reduceAdd, Nat.reduceMul, Nat.reduceLT, Nat.reduceBEq, Nat.reduceLeDiff, Nat.reduceEqDiff, Int.reduceToNat]
  repeat' (first | (refine And.intro ?_ ?_) | intro _)
  all_goals (try omega)
  · refine Eq.symm (eqC_f.mpr ?_); rintro rfl; simp_all
  · have hl : a.length = b.length := by omega
    refine loop_intro (tb := tb) follows hN (D := Nat) (fun d => shp [(0, .rd (.list tStep) (a)), (1, .rd (.list tStep) (b)), (5, .rd I (d : Int))] []) (fun d => d ≤ a.length ∧ a.take d = b.take d) (fun d => a.length - d) (0) ?_ (sub_shp hN [] ?_) (fun d hd => ?_)
    · exact ⟨Nat.zero_le _, rfl⟩
    · simp (disch := exact eqId (by kernel_rfl)) only [go_sem, ↓reduceIte, Nat.reduceAdd, Nat.reduceMul, Nat.reduceLT, Nat.reduceBEq, Nat.reduceLeDiff, Nat.reduceEqDiff, Int.reduceToNat]
      rfl
    · obtain ⟨h1, h2⟩ := hd
      simp (disch := exact eqId (by kernel_rfl)) only [go_sem, ↓reduceIte, Nat.reduceAdd, Nat.reduceMul, Nat.reduceLT, Nat.reduceBEq, Nat.reduceLeDiff, Nat.reduceEqDiff, Int.reduceToNat]
      repeat' (first | (refine And.intro ?_ ?_) | intro _ | (refine callQ_intro (eqStep_ok _ _) ?_; try (simp (disch := exact eqId (by kernel_rfl)) only [go_sem, ↓reduceIte, Nat.reduceAdd, Nat.reduceMul, Nat.reduceLT, Nat.reduceBEq, Nat.reduceLeDiff, Nat.reduceEqDiff, Int.reduceToNat])) | (refine callH_intro (fun hcc => eqStep_ok _ _) ?_; try (simp (disch := exact eqId (by kernel_rfl)) only [go_sem, ↓reduceIte, Nat.reduceAdd, Nat.reduceMul, Nat.reduceLT, Nat.reduceBEq, Nat.reduceLeDiff, Nat.reduceEqDiff, Int.reduceToNat])))
      all_goals (try omega)
      · rename_i hk _ hne
        refine Eq.symm (eqC_f.mpr ?_)
        rintro rfl
        simp_all [eqC_f]
      · rename_i hk _ he
        have hk : d < a.length := by omega
        refine back_intro (d + 1) ?_ ?_ (sub_shp hN [] ?_)
        · refine ⟨hk, ?_⟩
          rw [take_getD hk ((tStep : Ty).dflt), take_getD (show d < b.length by omega) ((tStep : Ty).dflt), h2]
          try simp only [eqC_t] at he
          first | rw [he] | (simp_all; done)
        · omega
        · simp (disch := exact eqId (by kernel_rfl)) only [go_sem, ↓reduceIte, Nat.reduceAdd, Nat.reduceMul, Nat.reduceLT, Nat.reduceBEq, Nat.reduceLeDiff, Nat.reduceEqDiff, Int.reduceToNat]
          exact wrap_succ hk hw.1.1
      · have hk : d = a.length := by omega
        refine Eq.symm (eqC_t.mpr ?_)
        rw [hk, List.take_length, hl, List.take_length] at h2
        exact h2
theorem eqStampSS_ok (a b : List ((.list tStamp) : Ty).den) : FunOK Try.prog 95 [⟨(.list (.list tStamp)), a⟩, ⟨(.list (.list tStamp)), b⟩] (.rd .bool (eqC a b)) := by
  refine fun_of (tb := tb) follows Try.func95 (by kernel_rfl) Try.ntmps95 rfl rfl rfl ?_; intro cx hN hw
  simp (disch := exact eqId (by kernel_rfl)) only [go_sem, ↓reduceIte, Nat.reduceAdd, Nat.reduceMul, Nat.reduceLT, Nat.reduceBEq, Nat.reduceLeDiff, Nat.reduceEqDiff, Int.reduceToNat]
  repeat' (first | (refine And.intro ?_ ?_) | intro _)
  all_goals (try omega)
  · refine Eq.symm (eqC_f.mpr ?_); rintro rfl; simp_all
  · have hl : a.length = b.length := by omega
    refine loop_intro (tb := tb) follows hN (D := Nat) (fun d => shp [(0, .rd (.list (.list tStamp)) (a)), (1, .rd (.list (.list tStamp)) (b)), (5, .rd I (d : Int))] []) (fun d => d ≤ a.length ∧ a.take d = b.take d) (fun d => a.length - d) (0) ?_ (sub_shp hN [] ?_) (fun d hd => ?_)
    · exact ⟨Nat.zero_le _, rfl⟩
    · simp (disch := exact eqId (by kernel_rfl)) only [go_sem, ↓reduceIte, Nat.reduceAdd, Nat.reduceMul, Nat.reduceLT, Nat.reduceBEq, Nat.reduceLeDiff, Nat.reduceEqDiff, Int.reduceToNat]
      rfl
    · obtain ⟨h1, h2⟩ := hd
      simp (disch := exact eqId (by kernel_rfl)) only [go_sem, ↓reduceIte, Nat.reduceAdd, Nat.reduceMul, Nat.reduceLT, Nat.reduceBEq, Nat.reduceLeDiff, Nat.reduceEqDiff, Int.reduceToNat]
      repeat' (first | (refine And.intro ?_ ?_) | intro _ | (refine callQ_intro (eqStampS_ok _ _) ?_; try (simp (disch := exact eqId (by kernel_rfl)) only [go_sem, ↓reduceIte, Nat.reduceAdd, Nat.reduceMul, Nat.reduceLT, Nat.reduceBEq, Nat.reduceLeDiff, Nat.reduceEqDiff, Int.reduceToNat])) | (refine callH_intro (fun hcc => eqStampS_ok _ _) ?_; try (simp (disch := exact eqId (by kernel_rfl)) only [go_sem, ↓reduceIte, Nat.reduceAdd, Nat.reduceMul, Nat.reduceLT, Nat.reduceBEq, Nat.reduceLeDiff, Nat.reduceEqDiff, Int.reduceToNat])))
      all_goals (try omega)
      · rename_i hk _ hne
        refine Eq.symm (eqC_f.mpr ?_)
        rintro rfl
        simp_all [eqC_f]
      · rename_i hk _ he
        have hk : d < a.length := by omega
        refine back_intro (d + 1) ?_ ?_ (sub_shp hN [] ?_)
        · refine ⟨hk, ?_⟩
          rw [take_getD hk (((.list tStamp) : Ty).dflt), take_getD (show d < b.length by omega) (((.list tStamp) : Ty).dflt), h2]
          try simp only [eqC_t] at he
          first | rw [he] | (simp_all; done)
        · omega
        · simp (disch := exact eqId (by kernel_rfl)) only [go_sem, ↓reduceIte, Nat.reduceAdd, Nat.reduceMul, Nat.reduceLT, Nat.reduceBEq, Nat.reduceLeDiff, Nat.reduceEqDiff, Int.reduceToNat]
          exact wrap_succ hk hw.1.1
      · have hk : d = a.length := by omega
        refine Eq.symm (eqC_t.mpr ?_)
        rw [hk, List.take_length, hl, List.take_length] at h2
        exact h2
theorem eqPiece_ok (a b : tPiece.den) : FunOK Try.prog 27 [⟨tPiece, a⟩, ⟨tPiece, b⟩] (.rd .bool (eqC a b)) := by
  refine fun_of (tb := tb) follows Try.func27 (by kernel_rfl) Try.ntmps27 rfl rfl rfl ?_; intro cx hN hw
  simp (disch := exact eqId (by kernel_rfl)) only [go_sem, ↓reduceIte, Nat.reduceAdd, Nat.reduceMul, Nat.reduceLT, Nat.reduceBEq, Nat.reduceLeDiff, Nat.reduceEqDiff, Int.reduceToNat]
  repeat' (first | (refine And.intro ?_ ?_) | intro _ | (refine callQ_intro (eqIntS_ok _ _) ?_; try (simp (disch := exact eqId (by kernel_rfl)) only [go_sem, ↓reduceIte, Nat.reduceAdd, Nat.reduceMul, Nat.reduceLT, Nat.reduceBEq, Nat.reduceLeDiff, Nat.reduceEqDiff, Int.reduceToNat])) | (refine callH_intro (fun hcc => eqIntS_ok _ _) ?_; try (simp (disch := exact eqId (by kernel_rfl)) only [go_sem, ↓reduceIte, Nat.reduceAdd, Nat.reduceMul, Nat.reduceLT, Nat.reduceBEq, Nat.reduceLeDiff, Nat.reduceEqDiff, Int.reduceToNat])))
  all_goals (try simp only [eqC_t, eqC_f] at *)
  all_goals first
    | (refine Eq.symm (eqC_f.mpr ?_); rintro rfl; simp_all; done)
    | (refine Eq.symm (eqC_t.mpr ?_); obtain ⟨a0, a1, a2, _⟩ := a; obtain ⟨b0, b1, b2, _⟩ := b; simp_all; done)
theorem eqPieceS_ok (a b : List (tPiece : Ty).den) : FunOK Try.prog 66 [⟨(.list tPiece), a⟩, ⟨(.list tPiece), b⟩] (.rd .bool (eqC a b)) := by
  refine fun_of (tb := tb) follows Try.func66 (by kernel_rfl) Try.ntmps66 rfl rfl rfl ?_; intro cx hN hw
  simp (disch := exact eqId (by kernel_rfl)) only [go_sem, ↓reduceIte, Nat.reduceAdd, Nat.reduceMul, Nat.reduceLT, Nat.reduceBEq, Nat.reduceLeDiff, Nat.reduceEqDiff, Int.reduceToNat]
  repeat' (first | (refine And.intro ?_ ?_) | intro _)
  all_goals (try omega)
  · refine Eq.symm (eqC_f.mpr ?_); rintro rfl; simp_all
  · have hl : a.length = b.length := by omega
    refine loop_intro (tb := tb) follows hN (D := Nat) (fun d => shp [(0, .rd (.list tPiece) (a)), (1, .rd (.list tPiece) (b)), (5, .rd I (d : Int))] []) (fun d => d ≤ a.length ∧ a.take d = b.take d) (fun d => a.length - d) (0) ?_ (sub_shp hN [] ?_) (fun d hd => ?_)
    · exact ⟨Nat.zero_le _, rfl⟩
    · simp (disch := exact eqId (by kernel_rfl)) only [go_sem, ↓reduceIte, Nat.reduceAdd, Nat.reduceMul, Nat.reduceLT, Nat.reduceBEq, Nat.reduceLeDiff, Nat.reduceEqDiff, Int.reduceToNat]
      rfl
    · obtain ⟨h1, h2⟩ := hd
      simp (disch := exact eqId (by kernel_rfl)) only [go_sem, ↓reduceIte, Nat.reduceAdd, Nat.reduceMul, Nat.reduceLT, Nat.reduceBEq, Nat.reduceLeDiff, Nat.reduceEqDiff, Int.reduceToNat]
      repeat' (first | (refine And.intro ?_ ?_) | intro _ | (refine callQ_intro (eqPiece_ok _ _) ?_; try (simp (disch := exact eqId (by kernel_rfl)) only [go_sem, ↓reduceIte, Nat.reduceAdd, Nat.reduceMul, Nat.reduceLT, Nat.reduceBEq, Nat.reduceLeDiff, Nat.reduceEqDiff, Int.reduceToNat])) | (refine callH_intro (fun hcc => eqPiece_ok _ _) ?_; try (simp (disch := exact eqId (by kernel_rfl)) only [go_sem, ↓reduceIte, Nat.reduceAdd, Nat.reduceMul, Nat.reduceLT, Nat.reduceBEq, Nat.reduceLeDiff, Nat.reduceEqDiff, Int.reduceToNat])))
      all_goals (try omega)
      · rename_i hk _ hne
        refine Eq.symm (eqC_f.mpr ?_)
        rintro rfl
        simp_all [eqC_f]
      · rename_i hk _ he
        have hk : d < a.length := by omega
        refine back_intro (d + 1) ?_ ?_ (sub_shp hN [] ?_)
        · refine ⟨hk, ?_⟩
          rw [take_getD hk ((tPiece : Ty).dflt), take_getD (show d < b.length by omega) ((tPiece : Ty).dflt), h2]
          try simp only [eqC_t] at he
          first | rw [he] | (simp_all; done)
        · omega
        · simp (disch := exact eqId (by kernel_rfl)) only [go_sem, ↓reduceIte, Nat.reduceAdd, Nat.reduceMul, Nat.reduceLT, Nat.reduceBEq, Nat.reduceLeDiff, Nat.reduceEqDiff, Int.reduceToNat]
          exact wrap_succ hk hw.1.1
      · have hk : d = a.length := by omega
        refine Eq.symm (eqC_t.mpr ?_)
        rw [hk, List.take_length, hl, List.take_length] at h2
        exact h2
theorem eqRenewal_ok (a b : tRenewal.den) : FunOK Try.prog 34 [⟨tRenewal, a⟩, ⟨tRenewal, b⟩] (.rd .bool (eqC a b)) := by
  refine fun_of (tb := tb) follows Try.func34 (by kernel_rfl) Try.ntmps34 rfl rfl rfl ?_; intro cx hN hw
  simp (disch := exact eqId (by kernel_rfl)) only [go_sem, ↓reduceIte, Nat.reduceAdd, Nat.reduceMul, Nat.reduceLT, Nat.reduceBEq, Nat.reduceLeDiff, Nat.reduceEqDiff, Int.reduceToNat]
  repeat' (first | (refine And.intro ?_ ?_) | intro _ | (refine callQ_intro (eqStepS_ok _ _) ?_; try (simp (disch := exact eqId (by kernel_rfl)) only [go_sem, ↓reduceIte, Nat.reduceAdd, Nat.reduceMul, Nat.reduceLT, Nat.reduceBEq, Nat.reduceLeDiff, Nat.reduceEqDiff, Int.reduceToNat])) | (refine callH_intro (fun hcc => eqStepS_ok _ _) ?_; try (simp (disch := exact eqId (by kernel_rfl)) only [go_sem, ↓reduceIte, Nat.reduceAdd, Nat.reduceMul, Nat.reduceLT, Nat.reduceBEq, Nat.reduceLeDiff, Nat.reduceEqDiff, Int.reduceToNat])) | (refine callQ_intro (eqStampS_ok _ _) ?_; try (simp (disch := exact eqId (by kernel_rfl)) only [go_sem, ↓reduceIte, Nat.reduceAdd, Nat.reduceMul, Nat.reduceLT, Nat.reduceBEq, Nat.reduceLeDiff, Nat.reduceEqDiff, Int.reduceToNat])) | (refine callH_intro (fun hcc => eqStampS_ok _ _) ?_; try (simp (disch := exact eqId (by kernel_rfl)) only [go_sem, ↓reduceIte, Nat.reduceAdd, Nat.reduceMul, Nat.reduceLT, Nat.reduceBEq, Nat.reduceLeDiff, Nat.reduceEqDiff, Int.reduceToNat])))
  all_goals (try simp only [eqC_t, eqC_f] at *)
  all_goals first
    | (refine Eq.symm (eqC_f.mpr ?_); rintro rfl; simp_all; done)
    | (refine Eq.symm (eqC_t.mpr ?_); obtain ⟨a0, a1, a2, a3, a4, _⟩ := a; obtain ⟨b0, b1, b2, b3, b4, _⟩ := b; simp_all; done)
theorem eqRenewalS_ok (a b : List (tRenewal : Ty).den) : FunOK Try.prog 67 [⟨(.list tRenewal), a⟩, ⟨(.list tRenewal), b⟩] (.rd .bool (eqC a b)) := by
  refine fun_of (tb := tb) follows Try.func67 (by kernel_rfl) Try.ntmps67 rfl rfl rfl ?_; intro cx hN hw
  simp (disch := exact eqId (by kernel_rfl)) only [go_sem, ↓reduceIte, Nat.reduceAdd, Nat.reduceMul, Nat.reduceLT, Nat.reduceBEq, Nat.reduceLeDiff, Nat.reduceEqDiff, Int.reduceToNat]
  repeat' (first | (refine And.intro ?_ ?_) | intro _)
  all_goals (try omega)
  · refine Eq.symm (eqC_f.mpr ?_); rintro rfl; simp_all
  · have hl : a.length = b.length := by omega
    refine loop_intro (tb := tb) follows hN (D := Nat) (fun d => shp [(0, .rd (.list tRenewal) (a)), (1, .rd (.list tRenewal) (b)), (5, .rd I (d : Int))] []) (fun d => d ≤ a.length ∧ a.take d = b.take d) (fun d => a.length - d) (0) ?_ (sub_shp hN [] ?_) (fun d hd => ?_)
    · exact ⟨Nat.zero_le _, rfl⟩
    · simp (disch := exact eqId (by kernel_rfl)) only [go_sem, ↓reduceIte, Nat.reduceAdd, Nat.reduceMul, Nat.reduceLT, Nat.reduceBEq, Nat.reduceLeDiff, Nat.reduceEqDiff, Int.reduceToNat]
      rfl
    · obtain ⟨h1, h2⟩ := hd
      simp (disch := exact eqId (by kernel_rfl)) only [go_sem, ↓reduceIte, Nat.reduceAdd, Nat.reduceMul, Nat.reduceLT, Nat.reduceBEq, Nat.reduceLeDiff, Nat.reduceEqDiff, Int.reduceToNat]
      repeat' (first | (refine And.intro ?_ ?_) | intro _ | (refine callQ_intro (eqRenewal_ok _ _) ?_; try (simp (disch := exact eqId (by kernel_rfl)) only [go_sem, ↓reduceIte, Nat.reduceAdd, Nat.reduceMul, Nat.reduceLT, Nat.reduceBEq, Nat.reduceLeDiff, Nat.reduceEqDiff, Int.reduceToNat])) | (refine callH_intro (fun hcc => eqRenewal_ok _ _) ?_; try (simp (disch := exact eqId (by kernel_rfl)) only [go_sem, ↓reduceIte, Nat.reduceAdd, Nat.reduceMul, Nat.reduceLT, Nat.reduceBEq, Nat.reduceLeDiff, Nat.reduceEqDiff, Int.reduceToNat])))
      all_goals (try omega)
      · rename_i hk _ hne
        refine Eq.symm (eqC_f.mpr ?_)
        rintro rfl
        simp_all [eqC_f]
      · rename_i hk _ he
        have hk : d < a.length := by omega
        refine back_intro (d + 1) ?_ ?_ (sub_shp hN [] ?_)
        · refine ⟨hk, ?_⟩
          rw [take_getD hk ((tRenewal : Ty).dflt), take_getD (show d < b.length by omega) ((tRenewal : Ty).dflt), h2]
          try simp only [eqC_t] at he
          first | rw [he] | (simp_all; done)
        · omega
        · simp (disch := exact eqId (by kernel_rfl)) only [go_sem, ↓reduceIte, Nat.reduceAdd, Nat.reduceMul, Nat.reduceLT, Nat.reduceBEq, Nat.reduceLeDiff, Nat.reduceEqDiff, Int.reduceToNat]
          exact wrap_succ hk hw.1.1
      · have hk : d = a.length := by omega
        refine Eq.symm (eqC_t.mpr ?_)
        rw [hk, List.take_length, hl, List.take_length] at h2
        exact h2
theorem eqStrand_ok (a b : tStrand.den) : FunOK Try.prog 17 [⟨tStrand, a⟩, ⟨tStrand, b⟩] (.rd .bool (eqC a b)) := by
  refine fun_of (tb := tb) follows Try.func17 (by kernel_rfl) Try.ntmps17 rfl rfl rfl ?_; intro cx hN hw
  simp (disch := exact eqId (by kernel_rfl)) only [go_sem, ↓reduceIte, Nat.reduceAdd, Nat.reduceMul, Nat.reduceLT, Nat.reduceBEq, Nat.reduceLeDiff, Nat.reduceEqDiff, Int.reduceToNat]
  repeat' (first | (refine And.intro ?_ ?_) | intro _ | (refine callQ_intro (eqPieceS_ok _ _) ?_; try (simp (disch := exact eqId (by kernel_rfl)) only [go_sem, ↓reduceIte, Nat.reduceAdd, Nat.reduceMul, Nat.reduceLT, Nat.reduceBEq, Nat.reduceLeDiff, Nat.reduceEqDiff, Int.reduceToNat])) | (refine callH_intro (fun hcc => eqPieceS_ok _ _) ?_; try (simp (disch := exact eqId (by kernel_rfl)) only [go_sem, ↓reduceIte, Nat.reduceAdd, Nat.reduceMul, Nat.reduceLT, Nat.reduceBEq, Nat.reduceLeDiff, Nat.reduceEqDiff, Int.reduceToNat])) | (refine callQ_intro (eqRenewalS_ok _ _) ?_; try (simp (disch := exact eqId (by kernel_rfl)) only [go_sem, ↓reduceIte, Nat.reduceAdd, Nat.reduceMul, Nat.reduceLT, Nat.reduceBEq, Nat.reduceLeDiff, Nat.reduceEqDiff, Int.reduceToNat])) | (refine callH_intro (fun hcc => eqRenewalS_ok _ _) ?_; try (simp (disch := exact eqId (by kernel_rfl)) only [go_sem, ↓reduceIte, Nat.reduceAdd, Nat.reduceMul, Nat.reduceLT, Nat.reduceBEq, Nat.reduceLeDiff, Nat.reduceEqDiff, Int.reduceToNat])))
  all_goals (try simp only [eqC_t, eqC_f] at *)
  all_goals first
    | (refine Eq.symm (eqC_f.mpr ?_); rintro rfl; simp_all; done)
    | (refine Eq.symm (eqC_t.mpr ?_); obtain ⟨a0, a1, _⟩ := a; obtain ⟨b0, b1, _⟩ := b; simp_all; done)
theorem eqStrandS_ok (a b : List (tStrand : Ty).den) : FunOK Try.prog 94 [⟨(.list tStrand), a⟩, ⟨(.list tStrand), b⟩] (.rd .bool (eqC a b)) := by
  refine fun_of (tb := tb) follows Try.func94 (by kernel_rfl) Try.ntmps94 rfl rfl rfl ?_; intro cx hN hw
  simp (disch := exact eqId (by kernel_rfl)) only [go_sem, ↓reduceIte, Nat.reduceAdd, Nat.reduceMul, Nat.reduceLT, Nat.reduceBEq, Nat.reduceLeDiff, Nat.reduceEqDiff, Int.reduceToNat]
  repeat' (first | (refine And.intro ?_ ?_) | intro _)
  all_goals (try omega)
  · refine Eq.symm (eqC_f.mpr ?_); rintro rfl; simp_all
  · have hl : a.length = b.length := by omega
    refine loop_intro (tb := tb) follows hN (D := Nat) (fun d => shp [(0, .rd (.list tStrand) (a)), (1, .rd (.list tStrand) (b)), (5, .rd I (d : Int))] []) (fun d => d ≤ a.length ∧ a.take d = b.take d) (fun d => a.length - d) (0) ?_ (sub_shp hN [] ?_) (fun d hd => ?_)
    · exact ⟨Nat.zero_le _, rfl⟩
    · simp (disch := exact eqId (by kernel_rfl)) only [go_sem, ↓reduceIte, Nat.reduceAdd, Nat.reduceMul, Nat.reduceLT, Nat.reduceBEq, Nat.reduceLeDiff, Nat.reduceEqDiff, Int.reduceToNat]
      rfl
    · obtain ⟨h1, h2⟩ := hd
      simp (disch := exact eqId (by kernel_rfl)) only [go_sem, ↓reduceIte, Nat.reduceAdd, Nat.reduceMul, Nat.reduceLT, Nat.reduceBEq, Nat.reduceLeDiff, Nat.reduceEqDiff, Int.reduceToNat]
      repeat' (first | (refine And.intro ?_ ?_) | intro _ | (refine callQ_intro (eqStrand_ok _ _) ?_; try (simp (disch := exact eqId (by kernel_rfl)) only [go_sem, ↓reduceIte, Nat.reduceAdd, Nat.reduceMul, Nat.reduceLT, Nat.reduceBEq, Nat.reduceLeDiff, Nat.reduceEqDiff, Int.reduceToNat])) | (refine callH_intro (fun hcc => eqStrand_ok _ _) ?_; try (simp (disch := exact eqId (by kernel_rfl)) only [go_sem, ↓reduceIte, Nat.reduceAdd, Nat.reduceMul, Nat.reduceLT, Nat.reduceBEq, Nat.reduceLeDiff, Nat.reduceEqDiff, Int.reduceToNat])))
      all_goals (try omega)
      · rename_i hk _ hne
        refine Eq.symm (eqC_f.mpr ?_)
        rintro rfl
        simp_all [eqC_f]
      · rename_i hk _ he
        have hk : d < a.length := by omega
        refine back_intro (d + 1) ?_ ?_ (sub_shp hN [] ?_)
        · refine ⟨hk, ?_⟩
          rw [take_getD hk ((tStrand : Ty).dflt), take_getD (show d < b.length by omega) ((tStrand : Ty).dflt), h2]
          try simp only [eqC_t] at he
          first | rw [he] | (simp_all; done)
        · omega
        · simp (disch := exact eqId (by kernel_rfl)) only [go_sem, ↓reduceIte, Nat.reduceAdd, Nat.reduceMul, Nat.reduceLT, Nat.reduceBEq, Nat.reduceLeDiff, Nat.reduceEqDiff, Int.reduceToNat]
          exact wrap_succ hk hw.1.1
      · have hk : d = a.length := by omega
        refine Eq.symm (eqC_t.mpr ?_)
        rw [hk, List.take_length, hl, List.take_length] at h2
        exact h2
theorem eqEvidence_ok (a b : tEvidence.den) : FunOK Try.prog 41 [⟨tEvidence, a⟩, ⟨tEvidence, b⟩] (.rd .bool (eqC a b)) := by
  refine fun_of (tb := tb) follows Try.func41 (by kernel_rfl) Try.ntmps41 rfl rfl rfl ?_; intro cx hN hw
  simp (disch := exact eqId (by kernel_rfl)) only [go_sem, ↓reduceIte, Nat.reduceAdd, Nat.reduceMul, Nat.reduceLT, Nat.reduceBEq, Nat.reduceLeDiff, Nat.reduceEqDiff, Int.reduceToNat]
  repeat' (first | (refine And.intro ?_ ?_) | intro _ | (refine callQ_intro (eqStrandS_ok _ _) ?_; try (simp (disch := exact eqId (by kernel_rfl)) only [go_sem, ↓reduceIte, Nat.reduceAdd, Nat.reduceMul, Nat.reduceLT, Nat.reduceBEq, Nat.reduceLeDiff, Nat.reduceEqDiff, Int.reduceToNat])) | (refine callH_intro (fun hcc => eqStrandS_ok _ _) ?_; try (simp (disch := exact eqId (by kernel_rfl)) only [go_sem, ↓reduceIte, Nat.reduceAdd, Nat.reduceMul, Nat.reduceLT, Nat.reduceBEq, Nat.reduceLeDiff, Nat.reduceEqDiff, Int.reduceToNat])) | (refine callQ_intro (eqStampSS_ok _ _) ?_; try (simp (disch := exact eqId (by kernel_rfl)) only [go_sem, ↓reduceIte, Nat.reduceAdd, Nat.reduceMul, Nat.reduceLT, Nat.reduceBEq, Nat.reduceLeDiff, Nat.reduceEqDiff, Int.reduceToNat])) | (refine callH_intro (fun hcc => eqStampSS_ok _ _) ?_; try (simp (disch := exact eqId (by kernel_rfl)) only [go_sem, ↓reduceIte, Nat.reduceAdd, Nat.reduceMul, Nat.reduceLT, Nat.reduceBEq, Nat.reduceLeDiff, Nat.reduceEqDiff, Int.reduceToNat])))
  all_goals (try simp only [eqC_t, eqC_f] at *)
  all_goals first
    | (refine Eq.symm (eqC_f.mpr ?_); rintro rfl; simp_all; done)
    | (refine Eq.symm (eqC_t.mpr ?_); obtain ⟨a0, a1, _⟩ := a; obtain ⟨b0, b1, _⟩ := b; simp_all; done)
end Go.Proofs.Ytfkdkblbhilghaa
/- What the laws' own helpers answer: sizes. It proves nothing of a statement by itself. -/
set_option linter.unusedSimpArgs false
set_option linter.unusedVariables false
set_option maxRecDepth 100000
namespace Go.Proofs.Ytfkdkblbhilghaa
open Go.AL
theorem szIntS_ok (l : List (I : Ty).den) (n : Int) (h0 : 0 ≤ n) (h1 : n ≤ 1048576) : FunOK Try.prog 59 [⟨(.list I), l⟩, ⟨I, n⟩] (.rd I (szD (.list I) l n)) := by
  refine fun_of (tb := tb) follows Try.func59 (by kernel_rfl) Try.ntmps59 rfl rfl rfl ?_; intro cx hN hw
  have hl : l.length ≤ maxLen := hw.1.1
  have hm : maxLen = 9223372036854775807 := rfl
  have e : IntKind.i64.wrap (n - (l.length : Int)) = n - l.length := wrap_i64 (by omega) (by omega)
  simp (disch := exact eqId (by kernel_rfl)) only [go_sem, ↓reduceIte, Nat.reduceAdd, Nat.reduceMul, Nat.reduceLT, Nat.reduceBEq, Nat.reduceLeDiff, Nat.reduceEqDiff, Int.reduceToNat]
  rw [e, szD_flat I rfl l n]
  repeat' (first | (refine And.intro ?_ ?_) | intro _)
  · rw [if_pos (by omega)]
  · rw [if_neg (by omega)]
theorem szBoolS_ok (l : List (.bool : Ty).den) (n : Int) (h0 : 0 ≤ n) (h1 : n ≤ 1048576) : FunOK Try.prog 98 [⟨(.list .bool), l⟩, ⟨I, n⟩] (.rd I (szD (.list .bool) l n)) := by
  refine fun_of (tb := tb) follows Try.func98 (by kernel_rfl) Try.ntmps98 rfl rfl rfl ?_; intro cx hN hw
  have hl : l.length ≤ maxLen := hw.1.1
  have hm : maxLen = 9223372036854775807 := rfl
  have e : IntKind.i64.wrap (n - (l.length : Int)) = n - l.length := wrap_i64 (by omega) (by omega)
  simp (disch := exact eqId (by kernel_rfl)) only [go_sem, ↓reduceIte, Nat.reduceAdd, Nat.reduceMul, Nat.reduceLT, Nat.reduceBEq, Nat.reduceLeDiff, Nat.reduceEqDiff, Int.reduceToNat]
  rw [e, szD_flat .bool rfl l n]
  repeat' (first | (refine And.intro ?_ ?_) | intro _)
  · rw [if_pos (by omega)]
  · rw [if_neg (by omega)]
theorem szIntSS_ok (l : List ((.list I) : Ty).den) (n : Int) (h0 : 0 ≤ n) (h1 : n ≤ 1048576) : FunOK Try.prog 99 [⟨(.list (.list I)), l⟩, ⟨I, n⟩] (.rd I (szD (.list (.list I)) l n)) := by
  refine fun_of (tb := tb) follows Try.func99 (by kernel_rfl) Try.ntmps99 rfl rfl rfl ?_; intro cx hN hw
  have hl : l.length ≤ maxLen := hw.1.1
  have hm : maxLen = 9223372036854775807 := rfl
  have e : IntKind.i64.wrap (n - (l.length : Int)) = n - l.length := wrap_i64 (by omega) (by omega)
  simp (disch := exact eqId (by kernel_rfl)) only [go_sem, ↓reduceIte, Nat.reduceAdd, Nat.reduceMul, Nat.reduceLT, Nat.reduceBEq, Nat.reduceLeDiff, Nat.reduceEqDiff, Int.reduceToNat]
  rw [e]
  refine ⟨fun hn => ?_, fun hn => ?_⟩
  · simp only [szD]; rw [if_pos hn]
  · refine loop_intro (tb := tb) follows hN (D := Nat × Int) (fun d => shp [(0, .rd (.list (.list I)) (l)), (1, .rd I d.2), (5, .rd I (d.1 : Int))] []) (fun d => d.1 ≤ l.length ∧ 0 ≤ d.2 ∧ d.2 ≤ n ∧ szD (.list (.list I)) l n = szLoop (szD (.list I)) (l.drop d.1) d.2) (fun d => l.length - d.1) (0, n - l.length) ?_ (sub_shp hN [] ?_) (fun d hd => ?_)
    · refine ⟨Nat.zero_le _, by omega, by omega, ?_⟩
      simp only [szD]; rw [if_neg hn]; rfl
    · simp (disch := exact eqId (by kernel_rfl)) only [go_sem, ↓reduceIte, Nat.reduceAdd, Nat.reduceMul, Nat.reduceLT, Nat.reduceBEq, Nat.reduceLeDiff, Nat.reduceEqDiff, Int.reduceToNat]
      first | trivial | (exact ⟨rfl, rfl⟩) | rfl
    · obtain ⟨h2, h3, h4, h5⟩ := hd
      simp (disch := exact eqId (by kernel_rfl)) only [go_sem, ↓reduceIte, Nat.reduceAdd, Nat.reduceMul, Nat.reduceLT, Nat.reduceBEq, Nat.reduceLeDiff, Nat.reduceEqDiff, Int.reduceToNat]
      repeat' (first | (refine And.intro ?_ ?_) | intro _ | (refine callQ_intro (szIntS_ok _ _ (by omega) (by omega)) ?_; try (simp (disch := exact eqId (by kernel_rfl)) only [go_sem, ↓reduceIte, Nat.reduceAdd, Nat.reduceMul, Nat.reduceLT, Nat.reduceBEq, Nat.reduceLeDiff, Nat.reduceEqDiff, Int.reduceToNat])) | (refine callH_intro (fun hcc => szIntS_ok _ _ (by omega) (by omega)) ?_; try (simp (disch := exact eqId (by kernel_rfl)) only [go_sem, ↓reduceIte, Nat.reduceAdd, Nat.reduceMul, Nat.reduceLT, Nat.reduceBEq, Nat.reduceLeDiff, Nat.reduceEqDiff, Int.reduceToNat])))
      all_goals (try omega)
      · rename_i hk hq
        have hk : d.1 < l.length := by omega
        rw [drop_getD hk ([] : ((.list I) : Ty).den), szLoop] at h5
        rw [if_pos hq] at h5
        exact h5.symm
      · rename_i hk hq
        have hk : d.1 < l.length := by omega
        rw [drop_getD hk ([] : ((.list I) : Ty).den), szLoop] at h5
        rw [if_neg hq] at h5
        have hb := (szD_le (.list I) (l.getD d.1 ([] : ((.list I) : Ty).den)) d.2 h3).1
        refine back_intro (d.1 + 1, szD (.list I) (l.getD d.1 ([] : ((.list I) : Ty).den)) d.2) ?_ ?_ (sub_shp hN [] ?_)
        · exact ⟨hk, by simp only; omega, by simp only; omega, h5⟩
        · simp only; omega
        · simp (disch := exact eqId (by kernel_rfl)) only [go_sem, ↓reduceIte, Nat.reduceAdd, Nat.reduceMul, Nat.reduceLT, Nat.reduceBEq, Nat.reduceLeDiff, Nat.reduceEqDiff, Int.reduceToNat]
          first | exact wrap_succ hk hl | exact ⟨rfl, wrap_succ hk hl⟩ | exact ⟨wrap_succ hk hl, rfl⟩
      · rw [drop_end (by omega)] at h5
        exact h5.symm
theorem szStampS_ok (l : List (tStamp : Ty).den) (n : Int) (h0 : 0 ≤ n) (h1 : n ≤ 1048576) : FunOK Try.prog 81 [⟨(.list tStamp), l⟩, ⟨I, n⟩] (.rd I (szD (.list tStamp) l n)) := by
  refine fun_of (tb := tb) follows Try.func81 (by kernel_rfl) Try.ntmps81 rfl rfl rfl ?_; intro cx hN hw
  have hl : l.length ≤ maxLen := hw.1.1
  have hm : maxLen = 9223372036854775807 := rfl
  have e : IntKind.i64.wrap (n - (l.length : Int)) = n - l.length := wrap_i64 (by omega) (by omega)
  simp (disch := exact eqId (by kernel_rfl)) only [go_sem, ↓reduceIte, Nat.reduceAdd, Nat.reduceMul, Nat.reduceLT, Nat.reduceBEq, Nat.reduceLeDiff, Nat.reduceEqDiff, Int.reduceToNat]
  rw [e, szD_flat tStamp rfl l n]
  repeat' (first | (refine And.intro ?_ ?_) | intro _)
  · rw [if_pos (by omega)]
  · rw [if_neg (by omega)]
theorem szStepS_ok (l : List (tStep : Ty).den) (n : Int) (h0 : 0 ≤ n) (h1 : n ≤ 1048576) : FunOK Try.prog 80 [⟨(.list tStep), l⟩, ⟨I, n⟩] (.rd I (szD (.list tStep) l n)) := by
  refine fun_of (tb := tb) follows Try.func80 (by kernel_rfl) Try.ntmps80 rfl rfl rfl ?_; intro cx hN hw
  have hl : l.length ≤ maxLen := hw.1.1
  have hm : maxLen = 9223372036854775807 := rfl
  have e : IntKind.i64.wrap (n - (l.length : Int)) = n - l.length := wrap_i64 (by omega) (by omega)
  simp (disch := exact eqId (by kernel_rfl)) only [go_sem, ↓reduceIte, Nat.reduceAdd, Nat.reduceMul, Nat.reduceLT, Nat.reduceBEq, Nat.reduceLeDiff, Nat.reduceEqDiff, Int.reduceToNat]
  rw [e, szD_flat tStep rfl l n]
  repeat' (first | (refine And.intro ?_ ?_) | intro _)
  · rw [if_pos (by omega)]
  · rw [if_neg (by omega)]
theorem szStampSS_ok (l : List ((.list tStamp) : Ty).den) (n : Int) (h0 : 0 ≤ n) (h1 : n ≤ 1048576) : FunOK Try.prog 91 [⟨(.list (.list tStamp)), l⟩, ⟨I, n⟩] (.rd I (szD (.list (.list tStamp)) l n)) := by
  refine fun_of (tb := tb) follows Try.func91 (by kernel_rfl) Try.ntmps91 rfl rfl rfl ?_; intro cx hN hw
  have hl : l.length ≤ maxLen := hw.1.1
  have hm : maxLen = 9223372036854775807 := rfl
  have e : IntKind.i64.wrap (n - (l.length : Int)) = n - l.length := wrap_i64 (by omega) (by omega)
  simp (disch := exact eqId (by kernel_rfl)) only [go_sem, ↓reduceIte, Nat.reduceAdd, Nat.reduceMul, Nat.reduceLT, Nat.reduceBEq, Nat.reduceLeDiff, Nat.reduceEqDiff, Int.reduceToNat]
  rw [e]
  refine ⟨fun hn => ?_, fun hn => ?_⟩
  · simp only [szD]; rw [if_pos hn]
  · refine loop_intro (tb := tb) follows hN (D := Nat × Int) (fun d => shp [(0, .rd (.list (.list tStamp)) (l)), (1, .rd I d.2), (5, .rd I (d.1 : Int))] []) (fun d => d.1 ≤ l.length ∧ 0 ≤ d.2 ∧ d.2 ≤ n ∧ szD (.list (.list tStamp)) l n = szLoop (szD (.list tStamp)) (l.drop d.1) d.2) (fun d => l.length - d.1) (0, n - l.length) ?_ (sub_shp hN [] ?_) (fun d hd => ?_)
    · refine ⟨Nat.zero_le _, by omega, by omega, ?_⟩
      simp only [szD]; rw [if_neg hn]; rfl
    · simp (disch := exact eqId (by kernel_rfl)) only [go_sem, ↓reduceIte, Nat.reduceAdd, Nat.reduceMul, Nat.reduceLT, Nat.reduceBEq, Nat.reduceLeDiff, Nat.reduceEqDiff, Int.reduceToNat]
      first | trivial | (exact ⟨rfl, rfl⟩) | rfl
    · obtain ⟨h2, h3, h4, h5⟩ := hd
      simp (disch := exact eqId (by kernel_rfl)) only [go_sem, ↓reduceIte, Nat.reduceAdd, Nat.reduceMul, Nat.reduceLT, Nat.reduceBEq, Nat.reduceLeDiff, Nat.reduceEqDiff, Int.reduceToNat]
      repeat' (first | (refine And.intro ?_ ?_) | intro _ | (refine callQ_intro (szStampS_ok _ _ (by omega) (by omega)) ?_; try (simp (disch := exact eqId (by kernel_rfl)) only [go_sem, ↓reduceIte, Nat.reduceAdd, Nat.reduceMul, Nat.reduceLT, Nat.reduceBEq, Nat.reduceLeDiff, Nat.reduceEqDiff, Int.reduceToNat])) | (refine callH_intro (fun hcc => szStampS_ok _ _ (by omega) (by omega)) ?_; try (simp (disch := exact eqId (by kernel_rfl)) only [go_sem, ↓reduceIte, Nat.reduceAdd, Nat.reduceMul, Nat.reduceLT, Nat.reduceBEq, Nat.reduceLeDiff, Nat.reduceEqDiff, Int.reduceToNat])))
      all_goals (try omega)
      · rename_i hk hq
        have hk : d.1 < l.length := by omega
        rw [drop_getD hk ([] : ((.list tStamp) : Ty).den), szLoop] at h5
        rw [if_pos hq] at h5
        exact h5.symm
      · rename_i hk hq
        have hk : d.1 < l.length := by omega
        rw [drop_getD hk ([] : ((.list tStamp) : Ty).den), szLoop] at h5
        rw [if_neg hq] at h5
        have hb := (szD_le (.list tStamp) (l.getD d.1 ([] : ((.list tStamp) : Ty).den)) d.2 h3).1
        refine back_intro (d.1 + 1, szD (.list tStamp) (l.getD d.1 ([] : ((.list tStamp) : Ty).den)) d.2) ?_ ?_ (sub_shp hN [] ?_)
        · exact ⟨hk, by simp only; omega, by simp only; omega, h5⟩
        · simp only; omega
        · simp (disch := exact eqId (by kernel_rfl)) only [go_sem, ↓reduceIte, Nat.reduceAdd, Nat.reduceMul, Nat.reduceLT, Nat.reduceBEq, Nat.reduceLeDiff, Nat.reduceEqDiff, Int.reduceToNat]
          first | exact wrap_succ hk hl | exact ⟨rfl, wrap_succ hk hl⟩ | exact ⟨wrap_succ hk hl, rfl⟩
      · rw [drop_end (by omega)] at h5
        exact h5.symm
theorem szPiece_ok (a : tPiece.den) (n : Int) (h0 : 0 ≤ n) (h1 : n ≤ 1048576) : FunOK Try.prog 23 [⟨tPiece, a⟩, ⟨I, n⟩] (.rd I (szD tPiece a n)) := by
  obtain ⟨a0, a1, a2, _⟩ := a
  simp only [szD_cons, szD_int, szD_bool, szD_nil]
  rw [if_neg (show ¬ n < 0 by omega)]
  refine fun_of (tb := tb) follows Try.func23 (by kernel_rfl) Try.ntmps23 rfl rfl rfl ?_; intro cx hN hw
  simp (disch := exact eqId (by kernel_rfl)) only [go_sem, ↓reduceIte, Nat.reduceAdd, Nat.reduceMul, Nat.reduceLT, Nat.reduceBEq, Nat.reduceLeDiff, Nat.reduceEqDiff, Int.reduceToNat]
  refine callQ_intro (szIntS_ok a1 _ (by omega) (by omega)) ?_
  have b1 := (szD_le (.list I) a1 (n) (by omega)).1
  simp (disch := exact eqId (by kernel_rfl)) only [go_sem, ↓reduceIte, Nat.reduceAdd, Nat.reduceMul, Nat.reduceLT, Nat.reduceBEq, Nat.reduceLeDiff, Nat.reduceEqDiff, Int.reduceToNat]
  refine ⟨fun h => ?_, fun h1 => ?_⟩
  · repeat' split
    all_goals first | rfl | omega
  repeat' split
  all_goals first | rfl | omega
theorem szPieceS_ok (l : List (tPiece : Ty).den) (n : Int) (h0 : 0 ≤ n) (h1 : n ≤ 1048576) : FunOK Try.prog 56 [⟨(.list tPiece), l⟩, ⟨I, n⟩] (.rd I (szD (.list tPiece) l n)) := by
  refine fun_of (tb := tb) follows Try.func56 (by kernel_rfl) Try.ntmps56 rfl rfl rfl ?_; intro cx hN hw
  have hl : l.length ≤ maxLen := hw.1.1
  have hm : maxLen = 9223372036854775807 := rfl
  have e : IntKind.i64.wrap (n - (l.length : Int)) = n - l.length := wrap_i64 (by omega) (by omega)
  simp (disch := exact eqId (by kernel_rfl)) only [go_sem, ↓reduceIte, Nat.reduceAdd, Nat.reduceMul, Nat.reduceLT, Nat.reduceBEq, Nat.reduceLeDiff, Nat.reduceEqDiff, Int.reduceToNat]
  rw [e]
  refine ⟨fun hn => ?_, fun hn => ?_⟩
  · simp only [szD]; rw [if_pos hn]
  · refine loop_intro (tb := tb) follows hN (D := Nat × Int) (fun d => shp [(0, .rd (.list tPiece) (l)), (1, .rd I d.2), (5, .rd I (d.1 : Int))] []) (fun d => d.1 ≤ l.length ∧ 0 ≤ d.2 ∧ d.2 ≤ n ∧ szD (.list tPiece) l n = szLoop (szD tPiece) (l.drop d.1) d.2) (fun d => l.length - d.1) (0, n - l.length) ?_ (sub_shp hN [] ?_) (fun d hd => ?_)
    · refine ⟨Nat.zero_le _, by omega, by omega, ?_⟩
      simp only [szD]; rw [if_neg hn]; rfl
    · simp (disch := exact eqId (by kernel_rfl)) only [go_sem, ↓reduceIte, Nat.reduceAdd, Nat.reduceMul, Nat.reduceLT, Nat.reduceBEq, Nat.reduceLeDiff, Nat.reduceEqDiff, Int.reduceToNat]
      first | trivial | (exact ⟨rfl, rfl⟩) | rfl
    · obtain ⟨h2, h3, h4, h5⟩ := hd
      simp (disch := exact eqId (by kernel_rfl)) only [go_sem, ↓reduceIte, Nat.reduceAdd, Nat.reduceMul, Nat.reduceLT, Nat.reduceBEq, Nat.reduceLeDiff, Nat.reduceEqDiff, Int.reduceToNat]
      repeat' (first | (refine And.intro ?_ ?_) | intro _ | (refine callQ_intro (szPiece_ok _ _ (by omega) (by omega)) ?_; try (simp (disch := exact eqId (by kernel_rfl)) only [go_sem, ↓reduceIte, Nat.reduceAdd, Nat.reduceMul, Nat.reduceLT, Nat.reduceBEq, Nat.reduceLeDiff, Nat.reduceEqDiff, Int.reduceToNat])) | (refine callH_intro (fun hcc => szPiece_ok _ _ (by omega) (by omega)) ?_; try (simp (disch := exact eqId (by kernel_rfl)) only [go_sem, ↓reduceIte, Nat.reduceAdd, Nat.reduceMul, Nat.reduceLT, Nat.reduceBEq, Nat.reduceLeDiff, Nat.reduceEqDiff, Int.reduceToNat])))
      all_goals (try omega)
      · rename_i hk hq
        have hk : d.1 < l.length := by omega
        rw [drop_getD hk ((0, [], 0, ()) : (tPiece : Ty).den), szLoop] at h5
        rw [if_pos hq] at h5
        exact h5.symm
      · rename_i hk hq
        have hk : d.1 < l.length := by omega
        rw [drop_getD hk ((0, [], 0, ()) : (tPiece : Ty).den), szLoop] at h5
        rw [if_neg hq] at h5
        have hb := (szD_le tPiece (l.getD d.1 ((0, [], 0, ()) : (tPiece : Ty).den)) d.2 h3).1
        refine back_intro (d.1 + 1, szD tPiece (l.getD d.1 ((0, [], 0, ()) : (tPiece : Ty).den)) d.2) ?_ ?_ (sub_shp hN [] ?_)
        · exact ⟨hk, by simp only; omega, by simp only; omega, h5⟩
        · simp only; omega
        · simp (disch := exact eqId (by kernel_rfl)) only [go_sem, ↓reduceIte, Nat.reduceAdd, Nat.reduceMul, Nat.reduceLT, Nat.reduceBEq, Nat.reduceLeDiff, Nat.reduceEqDiff, Int.reduceToNat]
          first | exact wrap_succ hk hl | exact ⟨rfl, wrap_succ hk hl⟩ | exact ⟨wrap_succ hk hl, rfl⟩
      · rw [drop_end (by omega)] at h5
        exact h5.symm
theorem szRenewal_ok (a : tRenewal.den) (n : Int) (h0 : 0 ≤ n) (h1 : n ≤ 1048576) : FunOK Try.prog 30 [⟨tRenewal, a⟩, ⟨I, n⟩] (.rd I (szD tRenewal a n)) := by
  obtain ⟨a0, a1, a2, a3, a4, _⟩ := a
  simp only [szD_cons, szD_int, szD_bool, szD_nil]
  rw [if_neg (show ¬ n < 0 by omega)]
  refine fun_of (tb := tb) follows Try.func30 (by kernel_rfl) Try.ntmps30 rfl rfl rfl ?_; intro cx hN hw
  simp (disch := exact eqId (by kernel_rfl)) only [go_sem, ↓reduceIte, Nat.reduceAdd, Nat.reduceMul, Nat.reduceLT, Nat.reduceBEq, Nat.reduceLeDiff, Nat.reduceEqDiff, Int.reduceToNat]
  refine callQ_intro (szStepS_ok a3 _ (by omega) (by omega)) ?_
  have b3 := (szD_le (.list tStep) a3 (n) (by omega)).1
  simp (disch := exact eqId (by kernel_rfl)) only [go_sem, ↓reduceIte, Nat.reduceAdd, Nat.reduceMul, Nat.reduceLT, Nat.reduceBEq, Nat.reduceLeDiff, Nat.reduceEqDiff, Int.reduceToNat]
  refine ⟨fun h => ?_, fun h3 => ?_⟩
  · repeat' split
    all_goals first | rfl | omega
  refine callQ_intro (szStampS_ok a4 _ (by omega) (by omega)) ?_
  have b4 := (szD_le (.list tStamp) a4 (szD (.list tStep) a3 (n)) (by omega)).1
  simp (disch := exact eqId (by kernel_rfl)) only [go_sem, ↓reduceIte, Nat.reduceAdd, Nat.reduceMul, Nat.reduceLT, Nat.reduceBEq, Nat.reduceLeDiff, Nat.reduceEqDiff, Int.reduceToNat]
  refine ⟨fun h => ?_, fun h4 => ?_⟩
  · repeat' split
    all_goals first | rfl | omega
  repeat' split
  all_goals first | rfl | omega
theorem szRenewalS_ok (l : List (tRenewal : Ty).den) (n : Int) (h0 : 0 ≤ n) (h1 : n ≤ 1048576) : FunOK Try.prog 57 [⟨(.list tRenewal), l⟩, ⟨I, n⟩] (.rd I (szD (.list tRenewal) l n)) := by
  refine fun_of (tb := tb) follows Try.func57 (by kernel_rfl) Try.ntmps57 rfl rfl rfl ?_; intro cx hN hw
  have hl : l.length ≤ maxLen := hw.1.1
  have hm : maxLen = 9223372036854775807 := rfl
  have e : IntKind.i64.wrap (n - (l.length : Int)) = n - l.length := wrap_i64 (by omega) (by omega)
  simp (disch := exact eqId (by kernel_rfl)) only [go_sem, ↓reduceIte, Nat.reduceAdd, Nat.reduceMul, Nat.reduceLT, Nat.reduceBEq, Nat.reduceLeDiff, Nat.reduceEqDiff, Int.reduceToNat]
  rw [e]
  refine ⟨fun hn => ?_, fun hn => ?_⟩
  · simp only [szD]; rw [if_pos hn]
  · refine loop_intro (tb := tb) follows hN (D := Nat × Int) (fun d => shp [(0, .rd (.list tRenewal) (l)), (1, .rd I d.2), (5, .rd I (d.1 : Int))] []) (fun d => d.1 ≤ l.length ∧ 0 ≤ d.2 ∧ d.2 ≤ n ∧ szD (.list tRenewal) l n = szLoop (szD tRenewal) (l.drop d.1) d.2) (fun d => l.length - d.1) (0, n - l.length) ?_ (sub_shp hN [] ?_) (fun d hd => ?_)
    · refine ⟨Nat.zero_le _, by omega, by omega, ?_⟩
      simp only [szD]; rw [if_neg hn]; rfl
    · simp (disch := exact eqId (by kernel_rfl)) only [go_sem, ↓reduceIte, Nat.reduceAdd, Nat.reduceMul, Nat.reduceLT, Nat.reduceBEq, Nat.reduceLeDiff, Nat.reduceEqDiff, Int.reduceToNat]
      first | trivial | (exact ⟨rfl, rfl⟩) | rfl
    · obtain ⟨h2, h3, h4, h5⟩ := hd
      simp (disch := exact eqId (by kernel_rfl)) only [go_sem, ↓reduceIte, Nat.reduceAdd, Nat.reduceMul, Nat.reduceLT, Nat.reduceBEq, Nat.reduceLeDiff, Nat.reduceEqDiff, Int.reduceToNat]
      repeat' (first | (refine And.intro ?_ ?_) | intro _ | (refine callQ_intro (szRenewal_ok _ _ (by omega) (by omega)) ?_; try (simp (disch := exact eqId (by kernel_rfl)) only [go_sem, ↓reduceIte, Nat.reduceAdd, Nat.reduceMul, Nat.reduceLT, Nat.reduceBEq, Nat.reduceLeDiff, Nat.reduceEqDiff, Int.reduceToNat])) | (refine callH_intro (fun hcc => szRenewal_ok _ _ (by omega) (by omega)) ?_; try (simp (disch := exact eqId (by kernel_rfl)) only [go_sem, ↓reduceIte, Nat.reduceAdd, Nat.reduceMul, Nat.reduceLT, Nat.reduceBEq, Nat.reduceLeDiff, Nat.reduceEqDiff, Int.reduceToNat])))
      all_goals (try omega)
      · rename_i hk hq
        have hk : d.1 < l.length := by omega
        rw [drop_getD hk ((0, 0, 0, [], [], ()) : (tRenewal : Ty).den), szLoop] at h5
        rw [if_pos hq] at h5
        exact h5.symm
      · rename_i hk hq
        have hk : d.1 < l.length := by omega
        rw [drop_getD hk ((0, 0, 0, [], [], ()) : (tRenewal : Ty).den), szLoop] at h5
        rw [if_neg hq] at h5
        have hb := (szD_le tRenewal (l.getD d.1 ((0, 0, 0, [], [], ()) : (tRenewal : Ty).den)) d.2 h3).1
        refine back_intro (d.1 + 1, szD tRenewal (l.getD d.1 ((0, 0, 0, [], [], ()) : (tRenewal : Ty).den)) d.2) ?_ ?_ (sub_shp hN [] ?_)
        · exact ⟨hk, by simp only; omega, by simp only; omega, h5⟩
        · simp only; omega
        · simp (disch := exact eqId (by kernel_rfl)) only [go_sem, ↓reduceIte, Nat.reduceAdd, Nat.reduceMul, Nat.reduceLT, Nat.reduceBEq, Nat.reduceLeDiff, Nat.reduceEqDiff, Int.reduceToNat]
          first | exact wrap_succ hk hl | exact ⟨rfl, wrap_succ hk hl⟩ | exact ⟨wrap_succ hk hl, rfl⟩
      · rw [drop_end (by omega)] at h5
        exact h5.symm
theorem szStrand_ok (a : tStrand.den) (n : Int) (h0 : 0 ≤ n) (h1 : n ≤ 1048576) : FunOK Try.prog 10 [⟨tStrand, a⟩, ⟨I, n⟩] (.rd I (szD tStrand a n)) := by
  obtain ⟨a0, a1, _⟩ := a
  simp only [szD_cons, szD_int, szD_bool, szD_nil]
  refine fun_of (tb := tb) follows Try.func10 (by kernel_rfl) Try.ntmps10 rfl rfl rfl ?_; intro cx hN hw
  simp (disch := exact eqId (by kernel_rfl)) only [go_sem, ↓reduceIte, Nat.reduceAdd, Nat.reduceMul, Nat.reduceLT, Nat.reduceBEq, Nat.reduceLeDiff, Nat.reduceEqDiff, Int.reduceToNat]
  refine callQ_intro (szPieceS_ok a0 _ (by omega) (by omega)) ?_
  have b0 := (szD_le (.list tPiece) a0 (n) (by omega)).1
  simp (disch := exact eqId (by kernel_rfl)) only [go_sem, ↓reduceIte, Nat.reduceAdd, Nat.reduceMul, Nat.reduceLT, Nat.reduceBEq, Nat.reduceLeDiff, Nat.reduceEqDiff, Int.reduceToNat]
  refine ⟨fun h => ?_, fun h0 => ?_⟩
  · repeat' split
    all_goals first | rfl | omega
  refine callQ_intro (szRenewalS_ok a1 _ (by omega) (by omega)) ?_
  have b1 := (szD_le (.list tRenewal) a1 (szD (.list tPiece) a0 (n)) (by omega)).1
  simp (disch := exact eqId (by kernel_rfl)) only [go_sem, ↓reduceIte, Nat.reduceAdd, Nat.reduceMul, Nat.reduceLT, Nat.reduceBEq, Nat.reduceLeDiff, Nat.reduceEqDiff, Int.reduceToNat]
  refine ⟨fun h => ?_, fun h1 => ?_⟩
  · repeat' split
    all_goals first | rfl | omega
  repeat' split
  all_goals first | rfl | omega
theorem szStrandS_ok (l : List (tStrand : Ty).den) (n : Int) (h0 : 0 ≤ n) (h1 : n ≤ 1048576) : FunOK Try.prog 90 [⟨(.list tStrand), l⟩, ⟨I, n⟩] (.rd I (szD (.list tStrand) l n)) := by
  refine fun_of (tb := tb) follows Try.func90 (by kernel_rfl) Try.ntmps90 rfl rfl rfl ?_; intro cx hN hw
  have hl : l.length ≤ maxLen := hw.1.1
  have hm : maxLen = 9223372036854775807 := rfl
  have e : IntKind.i64.wrap (n - (l.length : Int)) = n - l.length := wrap_i64 (by omega) (by omega)
  simp (disch := exact eqId (by kernel_rfl)) only [go_sem, ↓reduceIte, Nat.reduceAdd, Nat.reduceMul, Nat.reduceLT, Nat.reduceBEq, Nat.reduceLeDiff, Nat.reduceEqDiff, Int.reduceToNat]
  rw [e]
  refine ⟨fun hn => ?_, fun hn => ?_⟩
  · simp only [szD]; rw [if_pos hn]
  · refine loop_intro (tb := tb) follows hN (D := Nat × Int) (fun d => shp [(0, .rd (.list tStrand) (l)), (1, .rd I d.2), (5, .rd I (d.1 : Int))] []) (fun d => d.1 ≤ l.length ∧ 0 ≤ d.2 ∧ d.2 ≤ n ∧ szD (.list tStrand) l n = szLoop (szD tStrand) (l.drop d.1) d.2) (fun d => l.length - d.1) (0, n - l.length) ?_ (sub_shp hN [] ?_) (fun d hd => ?_)
    · refine ⟨Nat.zero_le _, by omega, by omega, ?_⟩
      simp only [szD]; rw [if_neg hn]; rfl
    · simp (disch := exact eqId (by kernel_rfl)) only [go_sem, ↓reduceIte, Nat.reduceAdd, Nat.reduceMul, Nat.reduceLT, Nat.reduceBEq, Nat.reduceLeDiff, Nat.reduceEqDiff, Int.reduceToNat]
      first | trivial | (exact ⟨rfl, rfl⟩) | rfl
    · obtain ⟨h2, h3, h4, h5⟩ := hd
      simp (disch := exact eqId (by kernel_rfl)) only [go_sem, ↓reduceIte, Nat.reduceAdd, Nat.reduceMul, Nat.reduceLT, Nat.reduceBEq, Nat.reduceLeDiff, Nat.reduceEqDiff, Int.reduceToNat]
      repeat' (first | (refine And.intro ?_ ?_) | intro _ | (refine callQ_intro (szStrand_ok _ _ (by omega) (by omega)) ?_; try (simp (disch := exact eqId (by kernel_rfl)) only [go_sem, ↓reduceIte, Nat.reduceAdd, Nat.reduceMul, Nat.reduceLT, Nat.reduceBEq, Nat.reduceLeDiff, Nat.reduceEqDiff, Int.reduceToNat])) | (refine callH_intro (fun hcc => szStrand_ok _ _ (by omega) (by omega)) ?_; try (simp (disch := exact eqId (by kernel_rfl)) only [go_sem, ↓reduceIte, Nat.reduceAdd, Nat.reduceMul, Nat.reduceLT, Nat.reduceBEq, Nat.reduceLeDiff, Nat.reduceEqDiff, Int.reduceToNat])))
      all_goals (try omega)
      · rename_i hk hq
        have hk : d.1 < l.length := by omega
        rw [drop_getD hk (([], [], ()) : (tStrand : Ty).den), szLoop] at h5
        rw [if_pos hq] at h5
        exact h5.symm
      · rename_i hk hq
        have hk : d.1 < l.length := by omega
        rw [drop_getD hk (([], [], ()) : (tStrand : Ty).den), szLoop] at h5
        rw [if_neg hq] at h5
        have hb := (szD_le tStrand (l.getD d.1 (([], [], ()) : (tStrand : Ty).den)) d.2 h3).1
        refine back_intro (d.1 + 1, szD tStrand (l.getD d.1 (([], [], ()) : (tStrand : Ty).den)) d.2) ?_ ?_ (sub_shp hN [] ?_)
        · exact ⟨hk, by simp only; omega, by simp only; omega, h5⟩
        · simp only; omega
        · simp (disch := exact eqId (by kernel_rfl)) only [go_sem, ↓reduceIte, Nat.reduceAdd, Nat.reduceMul, Nat.reduceLT, Nat.reduceBEq, Nat.reduceLeDiff, Nat.reduceEqDiff, Int.reduceToNat]
          first | exact wrap_succ hk hl | exact ⟨rfl, wrap_succ hk hl⟩ | exact ⟨wrap_succ hk hl, rfl⟩
      · rw [drop_end (by omega)] at h5
        exact h5.symm
theorem szEvidence_ok (a : tEvidence.den) (n : Int) (h0 : 0 ≤ n) (h1 : n ≤ 1048576) : FunOK Try.prog 36 [⟨tEvidence, a⟩, ⟨I, n⟩] (.rd I (szD tEvidence a n)) := by
  obtain ⟨a0, a1, _⟩ := a
  simp only [szD_cons, szD_int, szD_bool, szD_nil]
  refine fun_of (tb := tb) follows Try.func36 (by kernel_rfl) Try.ntmps36 rfl rfl rfl ?_; intro cx hN hw
  simp (disch := exact eqId (by kernel_rfl)) only [go_sem, ↓reduceIte, Nat.reduceAdd, Nat.reduceMul, Nat.reduceLT, Nat.reduceBEq, Nat.reduceLeDiff, Nat.reduceEqDiff, Int.reduceToNat]
  refine callQ_intro (szStrandS_ok a0 _ (by omega) (by omega)) ?_
  have b0 := (szD_le (.list tStrand) a0 (n) (by omega)).1
  simp (disch := exact eqId (by kernel_rfl)) only [go_sem, ↓reduceIte, Nat.reduceAdd, Nat.reduceMul, Nat.reduceLT, Nat.reduceBEq, Nat.reduceLeDiff, Nat.reduceEqDiff, Int.reduceToNat]
  refine ⟨fun h => ?_, fun h0 => ?_⟩
  · repeat' split
    all_goals first | rfl | omega
  refine callQ_intro (szStampSS_ok a1 _ (by omega) (by omega)) ?_
  have b1 := (szD_le (.list (.list tStamp)) a1 (szD (.list tStrand) a0 (n)) (by omega)).1
  simp (disch := exact eqId (by kernel_rfl)) only [go_sem, ↓reduceIte, Nat.reduceAdd, Nat.reduceMul, Nat.reduceLT, Nat.reduceBEq, Nat.reduceLeDiff, Nat.reduceEqDiff, Int.reduceToNat]
  refine ⟨fun h => ?_, fun h1 => ?_⟩
  · repeat' split
    all_goals first | rfl | omega
  repeat' split
  all_goals first | rfl | omega
end Go.Proofs.Ytfkdkblbhilghaa
/- What the laws' own helpers answer: marks. It proves nothing of a statement by itself. -/
set_option linter.unusedSimpArgs false
set_option linter.unusedVariables false
set_option maxRecDepth 100000
namespace Go.Proofs.Ytfkdkblbhilghaa
open Go.AL
theorem markIntS_ok (l : List (I : Ty).den) (n : Int) (h0 : 0 ≤ n) (h1 : n ≤ 1152921504606846976) (hs : l.length ≤ 1073741824) : MutOK Try.prog 21 [none, none] [.obj (.arr 3 I l), .rd ⟨I, n⟩] (.rd I (n + l.length * 1 : Int)) [.arr 3 I (markL I n l.length)] := by
  have hm : ∀ k, (markL I n k ++ l.drop k).length = k + (l.length - k) := fun k => by rw [List.length_append, markL_len, List.length_drop]
  refine fun_ofM (tb := tb) follows Try.func21 (by kernel_rfl) Try.ntmps21 rfl rfl (by simp [shOK]) rfl ?_; intro cx hN hw
  simp (disch := exact eqId (by kernel_rfl)) only [go_sem, ↓reduceIte, Nat.reduceAdd, Nat.reduceMul, Nat.reduceLT, Nat.reduceBEq, Nat.reduceLeDiff, Nat.reduceEqDiff, Int.reduceToNat]
  refine loop_intro (tb := tb) follows hN (D := Nat) (fun d => shp [(0, .own 0), (1, .rd I (n + d * 1 : Int)), (5, .rd I (d : Int))] [(0, .arr 3 I (markL I n d ++ l.drop d))]) (fun d => d ≤ l.length) (fun d => l.length - d) (0) ?_ (sub_shp hN [(0, some 0)] ?_) (fun d hd => ?_)
  · exact Nat.zero_le _
  · simp (disch := exact eqId (by kernel_rfl)) only [go_sem, ↓reduceIte, Nat.reduceAdd, Nat.reduceMul, Nat.reduceLT, Nat.reduceBEq, Nat.reduceLeDiff, Nat.reduceEqDiff, Int.reduceToNat]
    simp [markL]
  · simp (disch := exact eqId (by kernel_rfl)) only [go_sem, ↓reduceIte, Nat.reduceAdd, Nat.reduceMul, Nat.reduceLT, Nat.reduceBEq, Nat.reduceLeDiff, Nat.reduceEqDiff, Int.reduceToNat]
    rw [hm]
    repeat' (first | (refine And.intro ?_ ?_) | intro _)
    all_goals (try simp only [List.length_set, hm])
    all_goals (try omega)
    · have hk : d < l.length := by omega
      refine back_intro (d + 1) ?_ ?_ (sub_shp hN [(0, some 0)] ?_)
      · exact hk
      · omega
      · simp (disch := exact eqId (by kernel_rfl)) only [go_sem, ↓reduceIte, Nat.reduceAdd, Nat.reduceMul, Nat.reduceLT, Nat.reduceBEq, Nat.reduceLeDiff, Nat.reduceEqDiff, Int.reduceToNat]
        simp (disch := omega) only [wrap_i64, List.set_set, set_getD (show d < (markL I n d ++ l.drop d).length by rw [hm]; omega)]
        rw [← set_mark hk]
        simp only [markF, cntF]
        refine ⟨congrArg _ ?_, I_eq (by omega), I_eq (by omega)⟩
        simp (disch := omega) only [wrap_i64]
        repeat' (first | refine Prod.ext ?_ ?_ | rfl | omega | exact I_eq (by omega) | (simp only; omega) | exact boolEq (by omega))
    · have hk : d = l.length := by omega
      rw [hk]
    · have hk : d = l.length := by omega
      simp [hk]
theorem markStampS_ok (l : List (tStamp : Ty).den) (n : Int) (h0 : 0 ≤ n) (h1 : n ≤ 1152921504606846976) (hs : l.length ≤ 1073741824) : MutOK Try.prog 89 [none, none] [.obj (.arr 155 tStamp l), .rd ⟨I, n⟩] (.rd I (n + l.length * 5 : Int)) [.arr 155 tStamp (markL tStamp n l.length)] := by
  have hm : ∀ k, (markL tStamp n k ++ l.drop k).length = k + (l.length - k) := fun k => by rw [List.length_append, markL_len, List.length_drop]
  refine fun_ofM (tb := tb) follows Try.func89 (by kernel_rfl) Try.ntmps89 rfl rfl (by simp [shOK]) rfl ?_; intro cx hN hw
  simp (disch := exact eqId (by kernel_rfl)) only [go_sem, ↓reduceIte, Nat.reduceAdd, Nat.reduceMul, Nat.reduceLT, Nat.reduceBEq, Nat.reduceLeDiff, Nat.reduceEqDiff, Int.reduceToNat]
  refine loop_intro (tb := tb) follows hN (D := Nat) (fun d => shp [(0, .own 0), (1, .rd I (n + d * 5 : Int)), (5, .rd I (d : Int))] [(0, .arr 155 tStamp (markL tStamp n d ++ l.drop d))]) (fun d => d ≤ l.length) (fun d => l.length - d) (0) ?_ (sub_shp hN [(0, some 0)] ?_) (fun d hd => ?_)
  · exact Nat.zero_le _
  · simp (disch := exact eqId (by kernel_rfl)) only [go_sem, ↓reduceIte, Nat.reduceAdd, Nat.reduceMul, Nat.reduceLT, Nat.reduceBEq, Nat.reduceLeDiff, Nat.reduceEqDiff, Int.reduceToNat]
    simp [markL]
  · simp (disch := exact eqId (by kernel_rfl)) only [go_sem, ↓reduceIte, Nat.reduceAdd, Nat.reduceMul, Nat.reduceLT, Nat.reduceBEq, Nat.reduceLeDiff, Nat.reduceEqDiff, Int.reduceToNat]
    rw [hm]
    repeat' (first | (refine And.intro ?_ ?_) | intro _)
    all_goals (try simp only [List.length_set, hm])
    all_goals (try omega)
    · have hk : d < l.length := by omega
      refine back_intro (d + 1) ?_ ?_ (sub_shp hN [(0, some 0)] ?_)
      · exact hk
      · omega
      · simp (disch := exact eqId (by kernel_rfl)) only [go_sem, ↓reduceIte, Nat.reduceAdd, Nat.reduceMul, Nat.reduceLT, Nat.reduceBEq, Nat.reduceLeDiff, Nat.reduceEqDiff, Int.reduceToNat]
        simp (disch := omega) only [wrap_i64, List.set_set, set_getD (show d < (markL tStamp n d ++ l.drop d).length by rw [hm]; omega)]
        rw [← set_mark hk]
        simp only [markF, cntF]
        refine ⟨congrArg _ ?_, I_eq (by omega), I_eq (by omega)⟩
        simp (disch := omega) only [wrap_i64]
        repeat' (first | refine Prod.ext ?_ ?_ | rfl | omega | exact I_eq (by omega) | (simp only; omega) | exact boolEq (by omega))
    · have hk : d = l.length := by omega
      rw [hk]
    · have hk : d = l.length := by omega
      simp [hk]
theorem markStepS_ok (l : List (tStep : Ty).den) (n : Int) (h0 : 0 ≤ n) (h1 : n ≤ 1152921504606846976) (hs : l.length ≤ 1073741824) : MutOK Try.prog 88 [none, none] [.obj (.arr 151 tStep l), .rd ⟨I, n⟩] (.rd I (n + l.length * 2 : Int)) [.arr 151 tStep (markL tStep n l.length)] := by
  have hm : ∀ k, (markL tStep n k ++ l.drop k).length = k + (l.length - k) := fun k => by rw [List.length_append, markL_len, List.length_drop]
  refine fun_ofM (tb := tb) follows Try.func88 (by kernel_rfl) Try.ntmps88 rfl rfl (by simp [shOK]) rfl ?_; intro cx hN hw
  simp (disch := exact eqId (by kernel_rfl)) only [go_sem, ↓reduceIte, Nat.reduceAdd, Nat.reduceMul, Nat.reduceLT, Nat.reduceBEq, Nat.reduceLeDiff, Nat.reduceEqDiff, Int.reduceToNat]
  refine loop_intro (tb := tb) follows hN (D := Nat) (fun d => shp [(0, .own 0), (1, .rd I (n + d * 2 : Int)), (5, .rd I (d : Int))] [(0, .arr 151 tStep (markL tStep n d ++ l.drop d))]) (fun d => d ≤ l.length) (fun d => l.length - d) (0) ?_ (sub_shp hN [(0, some 0)] ?_) (fun d hd => ?_)
  · exact Nat.zero_le _
  · simp (disch := exact eqId (by kernel_rfl)) only [go_sem, ↓reduceIte, Nat.reduceAdd, Nat.reduceMul, Nat.reduceLT, Nat.reduceBEq, Nat.reduceLeDiff, Nat.reduceEqDiff, Int.reduceToNat]
    simp [markL]
  · simp (disch := exact eqId (by kernel_rfl)) only [go_sem, ↓reduceIte, Nat.reduceAdd, Nat.reduceMul, Nat.reduceLT, Nat.reduceBEq, Nat.reduceLeDiff, Nat.reduceEqDiff, Int.reduceToNat]
    rw [hm]
    repeat' (first | (refine And.intro ?_ ?_) | intro _)
    all_goals (try simp only [List.length_set, hm])
    all_goals (try omega)
    · have hk : d < l.length := by omega
      refine back_intro (d + 1) ?_ ?_ (sub_shp hN [(0, some 0)] ?_)
      · exact hk
      · omega
      · simp (disch := exact eqId (by kernel_rfl)) only [go_sem, ↓reduceIte, Nat.reduceAdd, Nat.reduceMul, Nat.reduceLT, Nat.reduceBEq, Nat.reduceLeDiff, Nat.reduceEqDiff, Int.reduceToNat]
        simp (disch := omega) only [wrap_i64, List.set_set, set_getD (show d < (markL tStep n d ++ l.drop d).length by rw [hm]; omega)]
        rw [← set_mark hk]
        simp only [markF, cntF]
        refine ⟨congrArg _ ?_, I_eq (by omega), I_eq (by omega)⟩
        simp (disch := omega) only [wrap_i64]
        repeat' (first | refine Prod.ext ?_ ?_ | rfl | omega | exact I_eq (by omega) | (simp only; omega) | exact boolEq (by omega))
    · have hk : d = l.length := by omega
      rw [hk]
    · have hk : d = l.length := by omega
      simp [hk]
theorem heldIntS_ok (m : Nat) (n : Int) (h0 : 0 ≤ n) (h1 : n ≤ 1152921504606846976) (hs : m ≤ 1073741824) : FunOK Try.prog 22 [⟨(.list I), markL I n m⟩, ⟨I, n⟩] (.rd I (n + m * 1 : Int)) := by
  have hm := markL_len I m n
  refine fun_of (tb := tb) follows Try.func22 (by kernel_rfl) Try.ntmps22 rfl rfl rfl ?_; intro cx hN hw
  simp (disch := exact eqId (by kernel_rfl)) only [go_sem, ↓reduceIte, Nat.reduceAdd, Nat.reduceMul, Nat.reduceLT, Nat.reduceBEq, Nat.reduceLeDiff, Nat.reduceEqDiff, Int.reduceToNat]
  refine loop_intro (tb := tb) follows hN (D := Nat) (fun d => shp [(0, .rd (.list I) (markL I n m)), (1, .rd I (n + d * 1 : Int)), (5, .rd I (d : Int))] []) (fun d => d ≤ m) (fun d => m - d) (0) ?_ (sub_shp hN [] ?_) (fun d hd => ?_)
  · exact Nat.zero_le _
  · simp (disch := exact eqId (by kernel_rfl)) only [go_sem, ↓reduceIte, Nat.reduceAdd, Nat.reduceMul, Nat.reduceLT, Nat.reduceBEq, Nat.reduceLeDiff, Nat.reduceEqDiff, Int.reduceToNat]
    simp
  · simp (disch := exact eqId (by kernel_rfl)) only [go_sem, ↓reduceIte, Nat.reduceAdd, Nat.reduceMul, Nat.reduceLT, Nat.reduceBEq, Nat.reduceLeDiff, Nat.reduceEqDiff, Int.reduceToNat]
    rw [hm]
    rcases Nat.lt_or_ge d m with hk | hk
    · rw [markL_get I _ m n d hk]
      simp only [markF, cntF]
      simp (disch := omega) only [wrap_i64]
      repeat' (first | (refine And.intro ?_ ?_) | intro _)
      all_goals (try omega)
      all_goals (try (exfalso; rename_i hx; exact hx boolEq'))
      all_goals (try (rename_i hx; exact absurd (boolEq (by omega)).symm hx))
      · refine back_intro (d + 1) ?_ ?_ (sub_shp hN [] ?_)
        · exact hk
        · omega
        · simp (disch := exact eqId (by kernel_rfl)) only [go_sem, ↓reduceIte, Nat.reduceAdd, Nat.reduceMul, Nat.reduceLT, Nat.reduceBEq, Nat.reduceLeDiff, Nat.reduceEqDiff, Int.reduceToNat]
          try simp (disch := omega) only [wrap_i64]
          exact ⟨I_eq (by omega), I_eq (by omega)⟩
    · repeat' (first | (refine And.intro ?_ ?_) | intro _)
      all_goals first | omega | exact I_eq (by omega)
theorem heldStampS_ok (m : Nat) (n : Int) (h0 : 0 ≤ n) (h1 : n ≤ 1152921504606846976) (hs : m ≤ 1073741824) : FunOK Try.prog 130 [⟨(.list tStamp), markL tStamp n m⟩, ⟨I, n⟩] (.rd I (n + m * 5 : Int)) := by
  have hm := markL_len tStamp m n
  refine fun_of (tb := tb) follows Try.func130 (by kernel_rfl) Try.ntmps130 rfl rfl rfl ?_; intro cx hN hw
  simp (disch := exact eqId (by kernel_rfl)) only [go_sem, ↓reduceIte, Nat.reduceAdd, Nat.reduceMul, Nat.reduceLT, Nat.reduceBEq, Nat.reduceLeDiff, Nat.reduceEqDiff, Int.reduceToNat]
  refine loop_intro (tb := tb) follows hN (D := Nat) (fun d => shp [(0, .rd (.list tStamp) (markL tStamp n m)), (1, .rd I (n + d * 5 : Int)), (5, .rd I (d : Int))] []) (fun d => d ≤ m) (fun d => m - d) (0) ?_ (sub_shp hN [] ?_) (fun d hd => ?_)
  · exact Nat.zero_le _
  · simp (disch := exact eqId (by kernel_rfl)) only [go_sem, ↓reduceIte, Nat.reduceAdd, Nat.reduceMul, Nat.reduceLT, Nat.reduceBEq, Nat.reduceLeDiff, Nat.reduceEqDiff, Int.reduceToNat]
    simp
  · simp (disch := exact eqId (by kernel_rfl)) only [go_sem, ↓reduceIte, Nat.reduceAdd, Nat.reduceMul, Nat.reduceLT, Nat.reduceBEq, Nat.reduceLeDiff, Nat.reduceEqDiff, Int.reduceToNat]
    rw [hm]
    rcases Nat.lt_or_ge d m with hk | hk
    · rw [markL_get tStamp _ m n d hk]
      simp only [markF, cntF]
      simp (disch := omega) only [wrap_i64]
      repeat' (first | (refine And.intro ?_ ?_) | intro _)
      all_goals (try omega)
      all_goals (try (exfalso; rename_i hx; exact hx boolEq'))
      all_goals (try (rename_i hx; exact absurd (boolEq (by omega)).symm hx))
      · refine back_intro (d + 1) ?_ ?_ (sub_shp hN [] ?_)
        · exact hk
        · omega
        · simp (disch := exact eqId (by kernel_rfl)) only [go_sem, ↓reduceIte, Nat.reduceAdd, Nat.reduceMul, Nat.reduceLT, Nat.reduceBEq, Nat.reduceLeDiff, Nat.reduceEqDiff, Int.reduceToNat]
          try simp (disch := omega) only [wrap_i64]
          exact ⟨I_eq (by omega), I_eq (by omega)⟩
    · repeat' (first | (refine And.intro ?_ ?_) | intro _)
      all_goals first | omega | exact I_eq (by omega)
theorem heldStepS_ok (m : Nat) (n : Int) (h0 : 0 ≤ n) (h1 : n ≤ 1152921504606846976) (hs : m ≤ 1073741824) : FunOK Try.prog 129 [⟨(.list tStep), markL tStep n m⟩, ⟨I, n⟩] (.rd I (n + m * 2 : Int)) := by
  have hm := markL_len tStep m n
  refine fun_of (tb := tb) follows Try.func129 (by kernel_rfl) Try.ntmps129 rfl rfl rfl ?_; intro cx hN hw
  simp (disch := exact eqId (by kernel_rfl)) only [go_sem, ↓reduceIte, Nat.reduceAdd, Nat.reduceMul, Nat.reduceLT, Nat.reduceBEq, Nat.reduceLeDiff, Nat.reduceEqDiff, Int.reduceToNat]
  refine loop_intro (tb := tb) follows hN (D := Nat) (fun d => shp [(0, .rd (.list tStep) (markL tStep n m)), (1, .rd I (n + d * 2 : Int)), (5, .rd I (d : Int))] []) (fun d => d ≤ m) (fun d => m - d) (0) ?_ (sub_shp hN [] ?_) (fun d hd => ?_)
  · exact Nat.zero_le _
  · simp (disch := exact eqId (by kernel_rfl)) only [go_sem, ↓reduceIte, Nat.reduceAdd, Nat.reduceMul, Nat.reduceLT, Nat.reduceBEq, Nat.reduceLeDiff, Nat.reduceEqDiff, Int.reduceToNat]
    simp
  · simp (disch := exact eqId (by kernel_rfl)) only [go_sem, ↓reduceIte, Nat.reduceAdd, Nat.reduceMul, Nat.reduceLT, Nat.reduceBEq, Nat.reduceLeDiff, Nat.reduceEqDiff, Int.reduceToNat]
    rw [hm]
    rcases Nat.lt_or_ge d m with hk | hk
    · rw [markL_get tStep _ m n d hk]
      simp only [markF, cntF]
      simp (disch := omega) only [wrap_i64]
      repeat' (first | (refine And.intro ?_ ?_) | intro _)
      all_goals (try omega)
      all_goals (try (exfalso; rename_i hx; exact hx boolEq'))
      all_goals (try (rename_i hx; exact absurd (boolEq (by omega)).symm hx))
      · refine back_intro (d + 1) ?_ ?_ (sub_shp hN [] ?_)
        · exact hk
        · omega
        · simp (disch := exact eqId (by kernel_rfl)) only [go_sem, ↓reduceIte, Nat.reduceAdd, Nat.reduceMul, Nat.reduceLT, Nat.reduceBEq, Nat.reduceLeDiff, Nat.reduceEqDiff, Int.reduceToNat]
          try simp (disch := omega) only [wrap_i64]
          exact ⟨I_eq (by omega), I_eq (by omega)⟩
    · repeat' (first | (refine And.intro ?_ ?_) | intro _)
      all_goals first | omega | exact I_eq (by omega)
end Go.Proofs.Ytfkdkblbhilghaa
/- What the laws' own helpers answer: marks of pieces. It proves nothing of a statement by itself. -/
set_option linter.unusedSimpArgs false
set_option linter.unusedVariables false
set_option maxRecDepth 100000
namespace Go.Proofs.Ytfkdkblbhilghaa
open Go.AL
theorem markPiece_ok (a c : Int) (l : List Int) (n : Int) (h0 : 0 ≤ n) (h1 : n ≤ 1152921504606846976) (hs : l.length ≤ 1073741824) : MutOK Try.prog 28 [some 3, none] [.rd ⟨I, a⟩, .obj (.arr 3 I l), .rd ⟨I, c⟩, .rd ⟨I, n⟩] (.rd I (n + l.length * 1 : Int)) [.arr 3 I (markL I n l.length)] := by
  refine fun_ofM (tb := tb) follows Try.func28 (by kernel_rfl) Try.ntmps28 rfl rfl (by simp [shOK]) rfl ?_; intro cx hN hw
  simp (disch := exact eqId (by kernel_rfl)) only [go_sem, ↓reduceIte, Nat.reduceAdd, Nat.reduceMul, Nat.reduceLT, Nat.reduceBEq, Nat.reduceLeDiff, Nat.reduceEqDiff, Int.reduceToNat]
  refine callM_intro (markIntS_ok l n h0 h1 hs) ⟨⟨trivial, by decide⟩, rfl, rfl⟩ ?_
  simp (disch := exact eqId (by kernel_rfl)) only [go_sem, ↓reduceIte, Nat.reduceAdd, Nat.reduceMul, Nat.reduceLT, Nat.reduceBEq, Nat.reduceLeDiff, Nat.reduceEqDiff, Int.reduceToNat]
end Go.Proofs.Ytfkdkblbhilghaa
/- What a frame that is met at all tells of the values it names. A general part, over any program. -/
set_option linter.unusedSimpArgs false
set_option linter.unusedVariables false
namespace Go.AL
open Go.RowKit

/-- The values that stand in a frame are such as their types allow. -/
structure WFσ (σ : St) : Prop where
  rd : ∀ k t x, σ.tmps k = .rd t x → WF t x
  row : ∀ id e t xs, σ.objs id = .row e t xs → WF (.list t) xs

theorem RowOK.wf {w : World} {lim : Nat → Nat} {B : Nat} {e : TypeId} {t : Ty} {xs : List t.den} {v : Value} (h : RowOK w lim B e t xs v) : WF (.list t) xs := by
  obtain ⟨vs, ⟨h1, h2⟩, h3, h4⟩ := h
  refine ⟨?_, fun i hi => (h4 i hi).wf⟩
  rcases h2 with ⟨_, h0⟩ | ⟨g, cap, cur, _, _, _, hle, hcm, _⟩
  · rw [h0]; exact Nat.zero_le _
  · exact Nat.le_trans hle hcm

theorem Sat.wf {cx : Cx} {σ : St} {a : Act} {w : World} (h : Sat cx σ a w) : WFσ σ := by
  obtain ⟨lim, G, hh, hf⟩ := h
  refine ⟨fun k t x hk => ?_, fun id e t xs hk => ?_⟩
  · have := hf.tmp k
    rw [hk] at this
    simp only [AVok] at this
    obtain ⟨cs, h1, _⟩ := this
    exact h1.wf
  · have := hh.obj id
    rw [hk] at this
    simp only [ObjOK] at this
    exact this.1.wf

theorem loopQ_wf {P : Program} {cx : Cx} {c : Code} {Q : Exit → St → Prop} {σ : St} (h : WFσ σ → loopQ P cx c Q σ ⟨⟩ ⟨⟩ ⟨⟩) : loopQ P cx c Q σ ⟨⟩ ⟨⟩ ⟨⟩ :=
  loopQ_intro fun a w hs => by
    have h2 := h hs.wf
    unfold loopQ at h2
    exact h2 a w hs

theorem WF.at {t : Ty} {xs : List t.den} (h : WF (.list t) xs) {x : t.den} (hx : x ∈ xs) : WF t x := by
  obtain ⟨i, hi, rfl⟩ := List.mem_iff_getElem.1 hx
  exact h.2 i hi
@[go_sem] theorem constAV_str (s : ByteArray) (h : Nat.ble s.size 1000000 = true) : constAV (.string s) = .rd .str s := by
  show (bif Nat.ble s.size 1000000 then AV.rd .str s else .any) = _
  rw [h]
  rfl

/-! ### Settling what is not lent -/

def AObj.settleN (n i : Nat) (o : AObj) : AObj := if n ≤ i then o.settle else o
theorem settleN_live (n i : Nat) (o : AObj) : (o.settleN n i).live = o.live := by unfold AObj.settleN; split; exact settle_live o; rfl
theorem settleN_born (n i : Nat) (o : AObj) : (o.settleN n i).born = o.born := by unfold AObj.settleN; split; exact settle_born o; rfl
def St.settleN (n : Nat) (σ : St) : St := ⟨σ.tmps, fun i => (σ.objs i).settleN n i⟩

theorem sat_settleN (n : Nat) {cx : Cx} {σ : St} {a : Act} {w : World} (h : Sat cx σ a w) : Sat cx (σ.settleN n) a w := by
  have h2 := sat_settleP (fun i => decide (n ≤ i)) h
  have e : σ.settleP (fun i => decide (n ≤ i)) = σ.settleN n := by
    unfold St.settleP St.settleN
    congr 1
    funext i
    unfold AObj.settleN
    by_cases hn : n ≤ i
    · simp [hn]
    · simp [hn]
  rwa [e] at h2

def setLN (n : Nat) : List (Nat × AObj) → List (Nat × AObj)
  | [] => []
  | p :: r => (p.1, if n ≤ p.1 then p.2.settle else p.2) :: setLN n r
@[go_sem] theorem setLN_nil (n : Nat) : setLN n [] = [] := (rfl)
@[go_sem] theorem setLN_cons (n i : Nat) (o : AObj) (r : List (Nat × AObj)) : setLN n ((i, o) :: r) = (i, if n ≤ i then o.settle else o) :: setLN n r := (rfl)
theorem setLN_lk (n i : Nat) : ∀ ob : List (Nat × AObj), lkO (setLN n ob) i = (lkO ob i).settleN n i
  | [] => by unfold AObj.settleN; split <;> rfl
  | p :: r => by
    simp only [setLN, lkO]
    cases hb : Nat.beq i p.1 with
    | true =>
      have := Nat.eq_of_beq_eq_true hb
      subst this
      rfl
    | false => exact setLN_lk n i r
@[go_sem ↓] theorem settleN_shp (n : Nat) (tm : List (Nat × AV)) (ob : List (Nat × AObj)) : (shp tm ob).settleN n = shp tm (setLN n ob) := by
  unfold shp St.settleN
  congr 1
  funext i
  exact (setLN_lk n i ob).symm

/-- As 'retM', with what is not lent settled. -/
def retMS (P : Program) (tb : Tb) (rs : List ResultVar) (n : Nat) (ms : List MA) (rv : RV) (outs : List AObj) (σ : St) : Prop := retM P tb rs n ms rv outs (σ.settleN n)

attribute [go_sem] retMS
theorem fun_ofMS {P : Program} {tb : Tb} {f : FuncId} {fn : Func} {c : Code} {N : Nat} {rs : List ResultVar} {s : List (Option Nat)} {ms : List MA} {rv : RV} {outs : List AObj} (hm : P.follows .mixedOrders = true) (hf : P.funcs[f]? = some fn) (hn : (fn.name == "runtime.NumGoroutine") = false)
    (hN : fn.ntmps = N) (hr : fn.results = rs.toArray) (hb : fn.body = some c)
    (hs : shOK s ms.length) (hl : Nat.ble s.length N = true)
    (h : ∀ cx : Cx, cx.is N (initI 0 ms) → WFm ms → aCode P tb cx N c (finQ (retMS P tb rs ms.length ms rv outs)) (shp (initM 0 0 s ms) (initO 0 ms))) : MutOK P f s ms rv outs := by
  subst hN
  refine fun_ofTM (tb := tb) hf hn hb hs (Nat.le_of_ble_eq_true hl) fun cx hN hw => ?_
  have h1 := h cx hN hw
  rw [← hN.1] at h1
  refine fun a w hsat => wp_mono (aCode_sound (cx := cx) hm h1 a w hsat) fun e a' w' ⟨σ, hq, hs'⟩ => ?_
  have fin : retMS P tb rs ms.length ms rv outs σ → RetQM P tb fn.results.toList ms.length ms rv outs (σ.settleN ms.length) := by
    rintro ⟨⟨q1, q2, q3⟩, q4, q5⟩
    rw [hr]
    exact ⟨q1, ⟨_, q2, fun i hi => Nat.le_of_ble_eq_true (List.all_eq_true.1 q4 i hi), rvC_le (σ.settleN ms.length).objs rv _ q3⟩, q5⟩
  refine ⟨σ.settleN ms.length, ?_, sat_settleN _ hs'⟩
  cases e with
  | normal => exact fin hq
  | ret => exact fin hq
  | _ => exact hq

/-- A function, by its body, what it makes left as it is. -/
theorem fun_ofN {P : Program} {tb : Tb} {f : FuncId} {fn : Func} {c : Code} {N : Nat} {rs : List ResultVar} {args : List TV} {rv : RV} (hm : P.follows .mixedOrders = true) (hf : P.funcs[f]? = some fn) (hn : (fn.name == "runtime.NumGoroutine") = false)
    (hN : fn.ntmps = N) (hr : fn.results = rs.toArray) (hb : fn.body = some c)
    (hl : Nat.ble args.length N = true)
    (h : ∀ cx : Cx, cx.is N [] → WFs args → aCode P tb cx N c (finQ (retS P tb rs rv)) (shp (initL 0 args) [])) : FunOK P f args rv := by
  subst hN
  refine fun_ofT (tb := tb) hf hn hb (Nat.le_of_ble_eq_true hl) fun cx hN hw => ?_
  have h1 := h cx hN hw
  rw [← hN.1] at h1
  refine T_mono (aCode_sound (cx := cx) hm h1) fun e σ hq => ?_
  have fin : retS P tb rs rv σ → RetQ P tb fn.results.toList rv σ := by
    rintro ⟨q1, q2, q3⟩
    rw [hr]
    exact ⟨q1, _, q2, rvC_le σ.objs rv _ q3⟩
  cases e with
  | normal => exact fin hq
  | ret => exact fin hq
  | _ => exact hq
attribute [go_sem] retS

theorem sub_settle {cx : Cx} {σ σ' : St} (h : Sub cx σ.settle σ') : Sub cx σ σ' := fun a w hs => h a w (sat_settle hs)
end Go.AL
/- Plain facts about marks of nested lists. It proves nothing of a statement by itself. -/
set_option linter.unusedSimpArgs false
set_option linter.unusedVariables false
namespace Go.AL

def mrkL {α : Type} (f : α → Int → α × Int) : List α → Int → List α × Int
  | [], k => ([], k)
  | x :: xs, k => ((f x k).1 :: (mrkL f xs (f x k).2).1, (mrkL f xs (f x k).2).2)
/-- A value marked from k on; the next mark. -/
def mrk : (t : Ty) → t.den → Int → t.den × Int
  | .int q, _, k => (q.wrap k, k + 1)
  | .bool, _, k => (decide (k.tmod 3 = 0), k + 1)
  | .str, x, k => (x, k + 1)
  | .list t, xs, k => mrkL (mrk t) xs k
  | .nil, x, k => (x, k)
  | .cons h t, x, k => (((mrk h x.1 k).1, (mrk t x.2 (mrk h x.1 k).2).1), (mrk t x.2 (mrk h x.1 k).2).2)
/-- How many marks. -/
def cnv : (t : Ty) → t.den → Nat
  | .list t, xs => (xs.map (cnv t)).sum
  | .nil, _ => 0
  | .cons h t, x => cnv h x.1 + cnv t x.2
  | .int _, _ => 1
  | .bool, _ => 1
  | .str, _ => 1
/-- How many elements all lists within have. -/
def tot : (t : Ty) → t.den → Nat
  | .list t, xs => xs.length + (xs.map (tot t)).sum
  | .cons h t, x => tot h x.1 + tot t x.2
  | _, _ => 0
def flc : Ty → Nat
  | .list _ => 0
  | .cons h t => flc h + flc t
  | .nil => 0
  | _ => 1
def okc (C : Nat) : Ty → Bool
  | .list t => Nat.ble (flc t) C && okc C t
  | .cons h t => okc C h && okc C t
  | _ => true

theorem mrk_c (h t : Ty) (x : (Ty.cons h t).den) (k : Int) : mrk (.cons h t) x k = (((mrk h x.1 k).1, (mrk t x.2 (mrk h x.1 k).2).1), (mrk t x.2 (mrk h x.1 k).2).2) := (rfl)
theorem mrk_i (q : IntKind) (x : (Ty.int q).den) (k : Int) : mrk (.int q) x k = (q.wrap k, k + 1) := (rfl)
theorem mrk_b (x : Ty.bool.den) (k : Int) : mrk .bool x k = (decide (k.tmod 3 = 0), k + 1) := (rfl)
theorem mrk_n (x : Ty.nil.den) (k : Int) : mrk .nil x k = (x, k) := (rfl)
theorem mrk_l (t : Ty) (xs : List t.den) (k : Int) : mrk (.list t) xs k = mrkL (mrk t) xs k := (rfl)
theorem cnv_c (h t : Ty) (x : (Ty.cons h t).den) : cnv (.cons h t) x = cnv h x.1 + cnv t x.2 := (rfl)
theorem cnv_i (q : IntKind) (x : (Ty.int q).den) : cnv (.int q) x = 1 := (rfl)
theorem cnv_n (x : Ty.nil.den) : cnv .nil x = 0 := (rfl)

theorem cnv_le (C : Nat) : ∀ (t : Ty) (x : t.den), okc C t = true → cnv t x ≤ flc t + C * tot t x := by
  intro t
  induction t with
  | list t ih =>
    intro xs h
    simp only [okc, Bool.and_eq_true] at h
    have hf := Nat.le_of_ble_eq_true h.1
    have key : ∀ l : List t.den, (l.map (cnv t)).sum ≤ C * (l.length + (l.map (tot t)).sum) := by
      intro l
      induction l with
      | nil => simp
      | cons x l ihl =>
        have h1 := ih x h.2
        simp only [List.map_cons, List.sum_cons, List.length_cons, Nat.mul_add] at ihl ⊢
        omega
    have := key xs
    simp only [cnv, tot, flc]
    omega
  | cons a b iha ihb =>
    intro x h
    simp only [okc, Bool.and_eq_true] at h
    have h1 := iha x.1 h.1
    have h2 := ihb x.2 h.2
    simp only [cnv, tot, flc, Nat.mul_add]
    omega
  | _ => intro x _; simp [cnv, tot, flc]

theorem mrk_snd : ∀ (t : Ty) (x : t.den) (k : Int), (mrk t x k).2 = k + cnv t x := by
  intro t
  induction t with
  | list t ih =>
    intro xs
    have key : ∀ (l : List t.den) (k : Int), (mrkL (mrk t) l k).2 = k + ((l.map (cnv t)).sum : Nat) := by
      intro l
      induction l with
      | nil => intro k; simp [mrkL]
      | cons x l ihl =>
        intro k
        simp only [mrkL, List.map_cons, List.sum_cons]
        rw [ihl, ih]
        omega
    exact key xs
  | cons a b iha ihb =>
    intro x k
    simp only [mrk, cnv]
    rw [ihb, iha]
    omega
  | nil => intro x k; simp [mrk, cnv]
  | _ => intro x k; simp [mrk, cnv]

theorem mrk_plain : ∀ (t : Ty), t.plain = true → ∀ (x : t.den) (k : Int), mrk t x k = (markF t k, k + cntF t)
  | .int q, _, x, k => by simp [mrk, markF, cntF]
  | .bool, _, x, k => by simp [mrk, markF, cntF]
  | .nil, _, x, k => by cases x; simp [mrk, markF, cntF]
  | .str, h, _, _ => by cases h
  | .list _, h, _, _ => by cases h
  | .cons a b, h, x, k => by
    simp only [Ty.plain, Bool.and_eq_true] at h
    simp only [mrk, markF, cntF, mrk_plain a h.1, mrk_plain b h.2]
    refine Prod.ext rfl ?_
    simp only
    omega
theorem mrk_list (t : Ty) (h : t.plain = true) : ∀ (l : List t.den) (k : Int), mrk (.list t) l k = (markL t k l.length, k + l.length * cntF t)
  | [], k => by simp [mrk, mrkL, markL]
  | x :: l, k => by
    have ih := mrk_list t h l (k + cntF t)
    simp only [mrk, mrkL, mrk_plain t h, List.length_cons, markL] at ih ⊢
    rw [ih]
    refine Prod.ext rfl ?_
    simp only [Int.natCast_add, Int.add_mul]
    omega

theorem mrkL_len {α : Type} (f : α → Int → α × Int) : ∀ (l : List α) (k : Int), (mrkL f l k).1.length = l.length
  | [], _ => rfl
  | x :: l, k => by simp only [mrkL, List.length_cons, mrkL_len f l]
theorem mrkL_app {α : Type} (f : α → Int → α × Int) : ∀ (l : List α) (x : α) (k : Int), mrkL f (l ++ [x]) k = ((mrkL f l k).1 ++ [(f x (mrkL f l k).2).1], (f x (mrkL f l k).2).2)
  | [], x, k => rfl
  | y :: l, x, k => by simp only [List.cons_append, mrkL, mrkL_app f l x]
theorem mrkL_take {α : Type} (f : α → Int → α × Int) {l : List α} {d : Nat} (h : d < l.length) (z : α) (k : Int) :
    mrkL f (l.take (d + 1)) k = ((mrkL f (l.take d) k).1 ++ [(f (l.getD d z) (mrkL f (l.take d) k).2).1], (f (l.getD d z) (mrkL f (l.take d) k).2).2) := by
  rw [take_getD h z, mrkL_app]
theorem mrkL_set {α : Type} (f : α → Int → α × Int) {l : List α} {d : Nat} (h : d < l.length) (z : α) (k : Int) :
    ((mrkL f (l.take d) k).1 ++ l.drop d).set d (f (l.getD d z) (mrkL f (l.take d) k).2).1 = (mrkL f (l.take (d + 1)) k).1 ++ l.drop (d + 1) := by
  have ht : (mrkL f (l.take d) k).1.length = d := by rw [mrkL_len, List.length_take]; omega
  rw [List.set_append_right _ _ (by omega), ht, Nat.sub_self, drop_getD h z, List.set_cons_zero, mrkL_take f h z, List.append_assoc]
  rfl
theorem mrkL_at {α : Type} (f : α → Int → α × Int) {l : List α} {d : Nat} (h : d < l.length) (z : α) (k : Int) : ((mrkL f (l.take d) k).1 ++ l.drop d).getD d z = l.getD d z := by
  have ht : (mrkL f (l.take d) k).1.length = d := by rw [mrkL_len, List.length_take]; omega
  rw [List.getD_eq_getElem?_getD, List.getElem?_append_right (by omega), ht, Nat.sub_self, List.getElem?_drop, Nat.add_zero, ← List.getD_eq_getElem?_getD]
theorem mrkL_get {α : Type} (f : α → Int → α × Int) (z : α) : ∀ {l : List α} {d : Nat} (k : Int), d < l.length → (mrkL f l k).1.getD d z = (f (l.getD d z) (mrkL f (l.take d) k).2).1
  | [], d, k, h => absurd h (by simp)
  | x :: l, 0, k, _ => rfl
  | x :: l, d + 1, k, h => by
    simp only [mrkL, List.getD_cons_succ, List.take_succ_cons]
    exact mrkL_get f z _ (by simpa using h)
theorem mrkL_ll {α : Type} (f : α → Int → α × Int) {l : List α} {d : Nat} (h : d ≤ l.length) (k : Int) : ((mrkL f (l.take d) k).1 ++ l.drop d).length = l.length := by
  rw [List.length_append, mrkL_len, List.length_take, List.length_drop]; omega
theorem sum_take {α : Type} (f : α → Nat) {l : List α} {d : Nat} (h : d < l.length) (z : α) : ((l.take d).map f).sum + f (l.getD d z) ≤ (l.map f).sum := by
  have e : l = l.take d ++ (l.getD d z :: l.drop (d + 1)) := by rw [← drop_getD h z, List.take_append_drop]
  conv => rhs; rw [e]
  rw [List.map_append, List.sum_append, List.map_cons, List.sum_cons]
  omega
theorem sum_mem {α : Type} (f : α → Nat) {l : List α} {x : α} (h : x ∈ l) : f x ≤ (l.map f).sum := by
  obtain ⟨i, hi, rfl⟩ := List.mem_iff_getElem.1 h
  have := sum_take f hi l[i]
  rw [List.getD_eq_getElem?_getD, List.getElem?_eq_getElem hi] at this
  simp only [Option.getD_some] at this
  omega
theorem len_cnv {t : Ty} (l : List t.den) (h : ∀ x : t.den, 1 ≤ cnv t x) : l.length ≤ cnv (.list t) l := by
  simp only [cnv]
  induction l with
  | nil => simp
  | cons x l ih => have := h x; simp only [List.map_cons, List.sum_cons, List.length_cons]; omega

theorem sz_tot : ∀ (t : Ty) (x : t.den) (l : Int), 0 ≤ l → 0 ≤ szD t x l → (tot t x : Int) ≤ l - szD t x l := by
  intro t
  induction t with
  | list t ih =>
    intro xs l hl h
    simp only [szD] at h ⊢
    by_cases hn : l - (xs.length : Int) < 0
    · rw [if_pos hn] at h; omega
    · rw [if_neg hn] at h ⊢
      have loop : ∀ (ys : List t.den) (m : Int), 0 ≤ m → 0 ≤ szLoop (szD t) ys m → (((ys.map (tot t)).sum : Nat) : Int) ≤ m - szLoop (szD t) ys m := by
        intro ys
        induction ys with
        | nil => intro m hm _; simp [szLoop]
        | cons y ys ihy =>
          intro m hm h
          simp only [szLoop] at h ⊢
          by_cases hq : szD t y m < 0
          · rw [if_pos hq] at h; omega
          · rw [if_neg hq] at h ⊢
            have h1 := ih y m hm (by omega)
            have h2 := ihy (szD t y m) (by omega) h
            simp only [List.map_cons, List.sum_cons]
            omega
      have := loop xs _ (by omega) h
      simp only [tot]
      omega
  | cons a b iha ihb =>
    intro x l hl h
    simp only [szD] at h ⊢
    by_cases hn : szD a x.1 l < 0
    · rw [if_pos hn] at h; omega
    · rw [if_neg hn] at h ⊢
      have h1 := iha x.1 l hl (by omega)
      have h2 := ihb x.2 _ (by omega) h
      simp only [tot]
      omega
  | str =>
    intro s l hl h
    simp only [szD] at h ⊢
    split at h
    · omega
    · rename_i hn; rw [if_neg hn]; simp only [tot]; omega
  | _ => intro x l hl h; simp only [szD, tot]; omega
end Go.AL
/- What the laws' own helpers answer over nested lists. It proves nothing of a statement by itself. -/
set_option linter.unusedSimpArgs false
set_option linter.unusedVariables false
set_option maxRecDepth 100000
namespace Go.Proofs.Ytfkdkblbhilghaa
open Go.AL
theorem toIntS_fr (l : List (I : Ty).den) (hs : Small (.list I) 1073741824 l) : FunOK Try.prog 64 [⟨(.list I), l⟩] (.fresh 3 I l) := (toIntS_ok l hs).fr rfl
theorem toStringS_fr (l : List (.str : Ty).den) (hs : Small (.list .str) 1073741824 l) : FunOK Try.prog 63 [⟨(.list .str), l⟩] (.fresh 9 .str l) := (toStringS_ok l hs).fr rfl
theorem toBoolS_fr (l : List (.bool : Ty).den) (hs : Small (.list .bool) 1073741824 l) : FunOK Try.prog 101 [⟨(.list .bool), l⟩] (.fresh 4 .bool l) := (toBoolS_ok l hs).fr rfl
theorem toStepS_fr (l : List (tStep : Ty).den) (hs : Small (.list tStep) 1073741824 l) : FunOK Try.prog 83 [⟨(.list tStep), l⟩] (.fresh 151 tStep l) := (toStepS_ok l hs).fr rfl
theorem toStampS_fr (l : List (tStamp : Ty).den) (hs : Small (.list tStamp) 1073741824 l) : FunOK Try.prog 84 [⟨(.list tStamp), l⟩] (.fresh 155 tStamp l) := (toStampS_ok l hs).fr rfl
theorem toPiece_fr (a : tPiece.den) (hs : Small tPiece 1073741824 a) : FunOK Try.prog 25 [⟨tPiece, a⟩] (.agg [.rd I a.1, .fresh 3 I a.2.1, .rd I a.2.2.1]) := (toPiece_ok a hs).fr rfl
theorem toRenewal_fr (a : tRenewal.den) (hs : Small tRenewal 1073741824 a) : FunOK Try.prog 32 [⟨tRenewal, a⟩] (.agg [.rd I a.1, .rd I a.2.1, .rd I a.2.2.1, .fresh 151 tStep a.2.2.2.1, .fresh 155 tStamp a.2.2.2.2.1]) := (toRenewal_ok a hs).fr rfl
theorem toDocument_fr (a : tDocument.den) (hs : Small tDocument 1073741824 a) : FunOK Try.prog 14 [⟨tDocument, a⟩] (.agg [.rd I a.1, .fresh 9 .str a.2.1, .fresh 3 I a.2.2.1]) := (toDocument_ok a hs).fr rfl
theorem toPieceS_d (l : List (tPiece : Ty).den) (hs : Small (.list tPiece) 1073741824 l) : FunOK Try.prog 61 [⟨(.list tPiece), l⟩] (.deep TE tPiece l) := by
  have hs1 : l.length ≤ 1073741824 := hs.1
  refine fun_ofN (tb := tbd) follows Try.func61 (by kernel_rfl) Try.ntmps61 rfl rfl rfl ?_; intro cx hN hw
  simp (disch := exact eqId (by kernel_rfl)) only [go_sem, ↓reduceIte, Nat.reduceAdd, Nat.reduceMul, Nat.reduceLT, Nat.reduceBEq, Nat.reduceLeDiff, Nat.reduceEqDiff, Int.reduceToNat]
  repeat' (first | (refine And.intro ?_ ?_) | intro _)
  all_goals (try omega)
  refine loop_intro (tb := tbd) follows hN (D := Nat) (fun d => shp [(0, .rd (.list tPiece) (l)), (3, .own 1), (4, .rd I (d : Int))] [(1, .bld TE tPiece (l.take d ++ List.replicate (l.length - d) (tPiece : Ty).dflt))]) (fun d => d ≤ l.length) (fun d => l.length - d) (0) ?_ (sub_shp hN [(1, some 20032)] ?_) (fun d hd => ?_)
  · exact Nat.zero_le _
  · simp (disch := exact eqId (by kernel_rfl)) only [go_sem, ↓reduceIte, Nat.reduceAdd, Nat.reduceMul, Nat.reduceLT, Nat.reduceBEq, Nat.reduceLeDiff, Nat.reduceEqDiff, Int.reduceToNat]
    exact ⟨rfl, rfl⟩
  · simp (disch := exact eqId (by kernel_rfl)) only [go_sem, ↓reduceIte, Nat.reduceAdd, Nat.reduceMul, Nat.reduceLT, Nat.reduceBEq, Nat.reduceLeDiff, Nat.reduceEqDiff, Int.reduceToNat]
    repeat' (first | (refine And.intro ?_ ?_) | intro _ | (refine callQ_intro (toPiece_fr _ (hs.2 _ (getD_mem (by omega) _))) ?_; try (simp (disch := exact eqId (by kernel_rfl)) only [go_sem, ↓reduceIte, Nat.reduceAdd, Nat.reduceMul, Nat.reduceLT, Nat.reduceBEq, Nat.reduceLeDiff, Nat.reduceEqDiff, Int.reduceToNat])) | (refine callH_intro (fun hcc => toPiece_fr _ (hs.2 _ (getD_mem (by omega) _))) ?_; try (simp (disch := exact eqId (by kernel_rfl)) only [go_sem, ↓reduceIte, Nat.reduceAdd, Nat.reduceMul, Nat.reduceLT, Nat.reduceBEq, Nat.reduceLeDiff, Nat.reduceEqDiff, Int.reduceToNat])))
    all_goals (try simp only [List.length_append, List.length_take, List.length_replicate])
    all_goals (try omega)
    · have hk : d < l.length := by omega
      refine back_intro (d + 1) ?_ ?_ (sub_shp hN [(1, some 1)] ?_)
      · exact hk
      · omega
      · simp (disch := exact eqId (by kernel_rfl)) only [go_sem, ↓reduceIte, Nat.reduceAdd, Nat.reduceMul, Nat.reduceLT, Nat.reduceBEq, Nat.reduceLeDiff, Nat.reduceEqDiff, Int.reduceToNat]
        exact ⟨set_take_rep hk rfl _ _, wrap_succ' (by omega)⟩
    · have hk : d = l.length := by omega
      simp [hk]
theorem toRenewalS_d (l : List (tRenewal : Ty).den) (hs : Small (.list tRenewal) 1073741824 l) : FunOK Try.prog 62 [⟨(.list tRenewal), l⟩] (.deep TE tRenewal l) := by
  have hs1 : l.length ≤ 1073741824 := hs.1
  refine fun_ofN (tb := tbd) follows Try.func62 (by kernel_rfl) Try.ntmps62 rfl rfl rfl ?_; intro cx hN hw
  simp (disch := exact eqId (by kernel_rfl)) only [go_sem, ↓reduceIte, Nat.reduceAdd, Nat.reduceMul, Nat.reduceLT, Nat.reduceBEq, Nat.reduceLeDiff, Nat.reduceEqDiff, Int.reduceToNat]
  repeat' (first | (refine And.intro ?_ ?_) | intro _)
  all_goals (try omega)
  refine loop_intro (tb := tbd) follows hN (D := Nat) (fun d => shp [(0, .rd (.list tRenewal) (l)), (3, .own 1), (4, .rd I (d : Int))] [(1, .bld TE tRenewal (l.take d ++ List.replicate (l.length - d) (tRenewal : Ty).dflt))]) (fun d => d ≤ l.length) (fun d => l.length - d) (0) ?_ (sub_shp hN [(1, some 20032)] ?_) (fun d hd => ?_)
  · exact Nat.zero_le _
  · simp (disch := exact eqId (by kernel_rfl)) only [go_sem, ↓reduceIte, Nat.reduceAdd, Nat.reduceMul, Nat.reduceLT, Nat.reduceBEq, Nat.reduceLeDiff, Nat.reduceEqDiff, Int.reduceToNat]
    exact ⟨rfl, rfl⟩
  · simp (disch := exact eqId (by kernel_rfl)) only [go_sem, ↓reduceIte, Nat.reduceAdd, Nat.reduceMul, Nat.reduceLT, Nat.reduceBEq, Nat.reduceLeDiff, Nat.reduceEqDiff, Int.reduceToNat]
    repeat' (first | (refine And.intro ?_ ?_) | intro _ | (refine callQ_intro (toRenewal_fr _ (hs.2 _ (getD_mem (by omega) _))) ?_; try (simp (disch := exact eqId (by kernel_rfl)) only [go_sem, ↓reduceIte, Nat.reduceAdd, Nat.reduceMul, Nat.reduceLT, Nat.reduceBEq, Nat.reduceLeDiff, Nat.reduceEqDiff, Int.reduceToNat])) | (refine callH_intro (fun hcc => toRenewal_fr _ (hs.2 _ (getD_mem (by omega) _))) ?_; try (simp (disch := exact eqId (by kernel_rfl)) only [go_sem, ↓reduceIte, Nat.reduceAdd, Nat.reduceMul, Nat.reduceLT, Nat.reduceBEq, Nat.reduceLeDiff, Nat.reduceEqDiff, Int.reduceToNat])))
    all_goals (try simp only [List.length_append, List.length_take, List.length_replicate])
    all_goals (try omega)
    · have hk : d < l.length := by omega
      refine back_intro (d + 1) ?_ ?_ (sub_shp hN [(1, some 1)] ?_)
      · exact hk
      · omega
      · simp (disch := exact eqId (by kernel_rfl)) only [go_sem, ↓reduceIte, Nat.reduceAdd, Nat.reduceMul, Nat.reduceLT, Nat.reduceBEq, Nat.reduceLeDiff, Nat.reduceEqDiff, Int.reduceToNat]
        exact ⟨set_take_rep hk rfl _ _, wrap_succ' (by omega)⟩
    · have hk : d = l.length := by omega
      simp [hk]
theorem toStrand_d (a : tStrand.den) (hs : Small tStrand 1073741824 a) : FunOK Try.prog 13 [⟨tStrand, a⟩] (.agg [.deep TE tPiece a.1, .deep TE tRenewal a.2.1]) := by
  refine fun_ofN (tb := tbd) follows Try.func13 (by kernel_rfl) Try.ntmps13 rfl rfl rfl ?_; intro cx hN hw
  simp (disch := exact eqId (by kernel_rfl)) only [go_sem, ↓reduceIte, Nat.reduceAdd, Nat.reduceMul, Nat.reduceLT, Nat.reduceBEq, Nat.reduceLeDiff, Nat.reduceEqDiff, Int.reduceToNat]
  repeat' (first | (refine And.intro ?_ ?_) | intro _ | (refine callQ_intro (toPieceS_d _ hs.1) ?_; try (simp (disch := exact eqId (by kernel_rfl)) only [go_sem, ↓reduceIte, Nat.reduceAdd, Nat.reduceMul, Nat.reduceLT, Nat.reduceBEq, Nat.reduceLeDiff, Nat.reduceEqDiff, Int.reduceToNat])) | (refine callH_intro (fun hcc => toPieceS_d _ hs.1) ?_; try (simp (disch := exact eqId (by kernel_rfl)) only [go_sem, ↓reduceIte, Nat.reduceAdd, Nat.reduceMul, Nat.reduceLT, Nat.reduceBEq, Nat.reduceLeDiff, Nat.reduceEqDiff, Int.reduceToNat])) | (refine callQ_intro (toRenewalS_d _ hs.2.1) ?_; try (simp (disch := exact eqId (by kernel_rfl)) only [go_sem, ↓reduceIte, Nat.reduceAdd, Nat.reduceMul, Nat.reduceLT, Nat.reduceBEq, Nat.reduceLeDiff, Nat.reduceEqDiff, Int.reduceToNat])) | (refine callH_intro (fun hcc => toRenewalS_d _ hs.2.1) ?_; try (simp (disch := exact eqId (by kernel_rfl)) only [go_sem, ↓reduceIte, Nat.reduceAdd, Nat.reduceMul, Nat.reduceLT, Nat.reduceBEq, Nat.reduceLeDiff, Nat.reduceEqDiff, Int.reduceToNat])))
  all_goals (try rfl)
theorem toStrandS_d (l : List (tStrand : Ty).den) (hs : Small (.list tStrand) 1073741824 l) : FunOK Try.prog 92 [⟨(.list tStrand), l⟩] (.deep TE tStrand l) := by
  have hs1 : l.length ≤ 1073741824 := hs.1
  refine fun_ofN (tb := tbd) follows Try.func92 (by kernel_rfl) Try.ntmps92 rfl rfl rfl ?_; intro cx hN hw
  simp (disch := exact eqId (by kernel_rfl)) only [go_sem, ↓reduceIte, Nat.reduceAdd, Nat.reduceMul, Nat.reduceLT, Nat.reduceBEq, Nat.reduceLeDiff, Nat.reduceEqDiff, Int.reduceToNat]
  repeat' (first | (refine And.intro ?_ ?_) | intro _)
  all_goals (try omega)
  refine loop_intro (tb := tbd) follows hN (D := Nat) (fun d => shp [(0, .rd (.list tStrand) (l)), (3, .own 1), (4, .rd I (d : Int))] [(1, .bld TE tStrand (l.take d ++ List.replicate (l.length - d) (tStrand : Ty).dflt))]) (fun d => d ≤ l.length) (fun d => l.length - d) (0) ?_ (sub_shp hN [(1, some 20032)] ?_) (fun d hd => ?_)
  · exact Nat.zero_le _
  · simp (disch := exact eqId (by kernel_rfl)) only [go_sem, ↓reduceIte, Nat.reduceAdd, Nat.reduceMul, Nat.reduceLT, Nat.reduceBEq, Nat.reduceLeDiff, Nat.reduceEqDiff, Int.reduceToNat]
    exact ⟨rfl, rfl⟩
  · simp (disch := exact eqId (by kernel_rfl)) only [go_sem, ↓reduceIte, Nat.reduceAdd, Nat.reduceMul, Nat.reduceLT, Nat.reduceBEq, Nat.reduceLeDiff, Nat.reduceEqDiff, Int.reduceToNat]
    repeat' (first | (refine And.intro ?_ ?_) | intro _ | (refine callQ_intro (toStrand_d _ (hs.2 _ (getD_mem (by omega) _))) ?_; try (simp (disch := exact eqId (by kernel_rfl)) only [go_sem, ↓reduceIte, Nat.reduceAdd, Nat.reduceMul, Nat.reduceLT, Nat.reduceBEq, Nat.reduceLeDiff, Nat.reduceEqDiff, Int.reduceToNat])) | (refine callH_intro (fun hcc => toStrand_d _ (hs.2 _ (getD_mem (by omega) _))) ?_; try (simp (disch := exact eqId (by kernel_rfl)) only [go_sem, ↓reduceIte, Nat.reduceAdd, Nat.reduceMul, Nat.reduceLT, Nat.reduceBEq, Nat.reduceLeDiff, Nat.reduceEqDiff, Int.reduceToNat])))
    all_goals (try simp only [List.length_append, List.length_take, List.length_replicate])
    all_goals (try omega)
    · have hk : d < l.length := by omega
      refine back_intro (d + 1) ?_ ?_ (sub_shp hN [(1, some 1)] ?_)
      · exact hk
      · omega
      · simp (disch := exact eqId (by kernel_rfl)) only [go_sem, ↓reduceIte, Nat.reduceAdd, Nat.reduceMul, Nat.reduceLT, Nat.reduceBEq, Nat.reduceLeDiff, Nat.reduceEqDiff, Int.reduceToNat]
        exact ⟨set_take_rep hk rfl _ _, wrap_succ' (by omega)⟩
    · have hk : d = l.length := by omega
      simp [hk]
theorem toStampSS_d (l : List ((.list tStamp) : Ty).den) (hs : Small (.list (.list tStamp)) 1073741824 l) : FunOK Try.prog 93 [⟨(.list (.list tStamp)), l⟩] (.deep TE (.list tStamp) l) := by
  have hs1 : l.length ≤ 1073741824 := hs.1
  refine fun_ofN (tb := tbd) follows Try.func93 (by kernel_rfl) Try.ntmps93 rfl rfl rfl ?_; intro cx hN hw
  simp (disch := exact eqId (by kernel_rfl)) only [go_sem, ↓reduceIte, Nat.reduceAdd, Nat.reduceMul, Nat.reduceLT, Nat.reduceBEq, Nat.reduceLeDiff, Nat.reduceEqDiff, Int.reduceToNat]
  repeat' (first | (refine And.intro ?_ ?_) | intro _)
  all_goals (try omega)
  refine loop_intro (tb := tbd) follows hN (D := Nat) (fun d => shp [(0, .rd (.list (.list tStamp)) (l)), (3, .own 1), (4, .rd I (d : Int))] [(1, .bld TE (.list tStamp) (l.take d ++ List.replicate (l.length - d) ((.list tStamp) : Ty).dflt))]) (fun d => d ≤ l.length) (fun d => l.length - d) (0) ?_ (sub_shp hN [(1, some 20032)] ?_) (fun d hd => ?_)
  · exact Nat.zero_le _
  · simp (disch := exact eqId (by kernel_rfl)) only [go_sem, ↓reduceIte, Nat.reduceAdd, Nat.reduceMul, Nat.reduceLT, Nat.reduceBEq, Nat.reduceLeDiff, Nat.reduceEqDiff, Int.reduceToNat]
    exact ⟨rfl, rfl⟩
  · simp (disch := exact eqId (by kernel_rfl)) only [go_sem, ↓reduceIte, Nat.reduceAdd, Nat.reduceMul, Nat.reduceLT, Nat.reduceBEq, Nat.reduceLeDiff, Nat.reduceEqDiff, Int.reduceToNat]
    repeat' (first | (refine And.intro ?_ ?_) | intro _ | (refine callQ_intro (toStampS_fr _ (hs.2 _ (getD_mem (by omega) _))) ?_; try (simp (disch := exact eqId (by kernel_rfl)) only [go_sem, ↓reduceIte, Nat.reduceAdd, Nat.reduceMul, Nat.reduceLT, Nat.reduceBEq, Nat.reduceLeDiff, Nat.reduceEqDiff, Int.reduceToNat])) | (refine callH_intro (fun hcc => toStampS_fr _ (hs.2 _ (getD_mem (by omega) _))) ?_; try (simp (disch := exact eqId (by kernel_rfl)) only [go_sem, ↓reduceIte, Nat.reduceAdd, Nat.reduceMul, Nat.reduceLT, Nat.reduceBEq, Nat.reduceLeDiff, Nat.reduceEqDiff, Int.reduceToNat])))
    all_goals (try simp only [List.length_append, List.length_take, List.length_replicate])
    all_goals (try omega)
    · have hk : d < l.length := by omega
      refine back_intro (d + 1) ?_ ?_ (sub_shp hN [(1, some 1)] ?_)
      · exact hk
      · omega
      · simp (disch := exact eqId (by kernel_rfl)) only [go_sem, ↓reduceIte, Nat.reduceAdd, Nat.reduceMul, Nat.reduceLT, Nat.reduceBEq, Nat.reduceLeDiff, Nat.reduceEqDiff, Int.reduceToNat]
        exact ⟨set_take_rep hk rfl _ _, wrap_succ' (by omega)⟩
    · have hk : d = l.length := by omega
      simp [hk]
theorem toIntSS_d (l : List ((.list I) : Ty).den) (hs : Small (.list (.list I)) 1073741824 l) : FunOK Try.prog 102 [⟨(.list (.list I)), l⟩] (.deep TE (.list I) l) := by
  have hs1 : l.length ≤ 1073741824 := hs.1
  refine fun_ofN (tb := tbd) follows Try.func102 (by kernel_rfl) Try.ntmps102 rfl rfl rfl ?_; intro cx hN hw
  simp (disch := exact eqId (by kernel_rfl)) only [go_sem, ↓reduceIte, Nat.reduceAdd, Nat.reduceMul, Nat.reduceLT, Nat.reduceBEq, Nat.reduceLeDiff, Nat.reduceEqDiff, Int.reduceToNat]
  repeat' (first | (refine And.intro ?_ ?_) | intro _)
  all_goals (try omega)
  refine loop_intro (tb := tbd) follows hN (D := Nat) (fun d => shp [(0, .rd (.list (.list I)) (l)), (3, .own 1), (4, .rd I (d : Int))] [(1, .bld TE (.list I) (l.take d ++ List.replicate (l.length - d) ((.list I) : Ty).dflt))]) (fun d => d ≤ l.length) (fun d => l.length - d) (0) ?_ (sub_shp hN [(1, some 20032)] ?_) (fun d hd => ?_)
  · exact Nat.zero_le _
  · simp (disch := exact eqId (by kernel_rfl)) only [go_sem, ↓reduceIte, Nat.reduceAdd, Nat.reduceMul, Nat.reduceLT, Nat.reduceBEq, Nat.reduceLeDiff, Nat.reduceEqDiff, Int.reduceToNat]
    exact ⟨rfl, rfl⟩
  · simp (disch := exact eqId (by kernel_rfl)) only [go_sem, ↓reduceIte, Nat.reduceAdd, Nat.reduceMul, Nat.reduceLT, Nat.reduceBEq, Nat.reduceLeDiff, Nat.reduceEqDiff, Int.reduceToNat]
    repeat' (first | (refine And.intro ?_ ?_) | intro _ | (refine callQ_intro (toIntS_fr _ (hs.2 _ (getD_mem (by omega) _))) ?_; try (simp (disch := exact eqId (by kernel_rfl)) only [go_sem, ↓reduceIte, Nat.reduceAdd, Nat.reduceMul, Nat.reduceLT, Nat.reduceBEq, Nat.reduceLeDiff, Nat.reduceEqDiff, Int.reduceToNat])) | (refine callH_intro (fun hcc => toIntS_fr _ (hs.2 _ (getD_mem (by omega) _))) ?_; try (simp (disch := exact eqId (by kernel_rfl)) only [go_sem, ↓reduceIte, Nat.reduceAdd, Nat.reduceMul, Nat.reduceLT, Nat.reduceBEq, Nat.reduceLeDiff, Nat.reduceEqDiff, Int.reduceToNat])))
    all_goals (try simp only [List.length_append, List.length_take, List.length_replicate])
    all_goals (try omega)
    · have hk : d < l.length := by omega
      refine back_intro (d + 1) ?_ ?_ (sub_shp hN [(1, some 1)] ?_)
      · exact hk
      · omega
      · simp (disch := exact eqId (by kernel_rfl)) only [go_sem, ↓reduceIte, Nat.reduceAdd, Nat.reduceMul, Nat.reduceLT, Nat.reduceBEq, Nat.reduceLeDiff, Nat.reduceEqDiff, Int.reduceToNat]
        exact ⟨set_take_rep hk rfl _ _, wrap_succ' (by omega)⟩
    · have hk : d = l.length := by omega
      simp [hk]
theorem toEvidence_d (a : tEvidence.den) (hs : Small tEvidence 1073741824 a) : FunOK Try.prog 38 [⟨tEvidence, a⟩] (.agg [.deep TE tStrand a.1, .deep TE (.list tStamp) a.2.1]) := by
  refine fun_ofN (tb := tbd) follows Try.func38 (by kernel_rfl) Try.ntmps38 rfl rfl rfl ?_; intro cx hN hw
  simp (disch := exact eqId (by kernel_rfl)) only [go_sem, ↓reduceIte, Nat.reduceAdd, Nat.reduceMul, Nat.reduceLT, Nat.reduceBEq, Nat.reduceLeDiff, Nat.reduceEqDiff, Int.reduceToNat]
  repeat' (first | (refine And.intro ?_ ?_) | intro _ | (refine callQ_intro (toStrandS_d _ hs.1) ?_; try (simp (disch := exact eqId (by kernel_rfl)) only [go_sem, ↓reduceIte, Nat.reduceAdd, Nat.reduceMul, Nat.reduceLT, Nat.reduceBEq, Nat.reduceLeDiff, Nat.reduceEqDiff, Int.reduceToNat])) | (refine callH_intro (fun hcc => toStrandS_d _ hs.1) ?_; try (simp (disch := exact eqId (by kernel_rfl)) only [go_sem, ↓reduceIte, Nat.reduceAdd, Nat.reduceMul, Nat.reduceLT, Nat.reduceBEq, Nat.reduceLeDiff, Nat.reduceEqDiff, Int.reduceToNat])) | (refine callQ_intro (toStampSS_d _ hs.2.1) ?_; try (simp (disch := exact eqId (by kernel_rfl)) only [go_sem, ↓reduceIte, Nat.reduceAdd, Nat.reduceMul, Nat.reduceLT, Nat.reduceBEq, Nat.reduceLeDiff, Nat.reduceEqDiff, Int.reduceToNat])) | (refine callH_intro (fun hcc => toStampSS_d _ hs.2.1) ?_; try (simp (disch := exact eqId (by kernel_rfl)) only [go_sem, ↓reduceIte, Nat.reduceAdd, Nat.reduceMul, Nat.reduceLT, Nat.reduceBEq, Nat.reduceLeDiff, Nat.reduceEqDiff, Int.reduceToNat])))
  all_goals (try rfl)
theorem toRedacted_d (a : tRedacted.den) (hs : Small tRedacted 1073741824 a) : FunOK Try.prog 47 [⟨tRedacted, a⟩] (.agg [.rd I a.1, .fresh 3 I a.2.1, .fresh 4 .bool a.2.2.1, .fresh 9 .str a.2.2.2.1, .fresh 3 I a.2.2.2.2.1, .deep TE (.list I) a.2.2.2.2.2.1]) := by
  refine fun_ofN (tb := tbd) follows Try.func47 (by kernel_rfl) Try.ntmps47 rfl rfl rfl ?_; intro cx hN hw
  simp (disch := exact eqId (by kernel_rfl)) only [go_sem, ↓reduceIte, Nat.reduceAdd, Nat.reduceMul, Nat.reduceLT, Nat.reduceBEq, Nat.reduceLeDiff, Nat.reduceEqDiff, Int.reduceToNat]
  repeat' (first | (refine And.intro ?_ ?_) | intro _ | (refine callQ_intro (toIntS_fr _ hs.2.1) ?_; try (simp (disch := exact eqId (by kernel_rfl)) only [go_sem, ↓reduceIte, Nat.reduceAdd, Nat.reduceMul, Nat.reduceLT, Nat.reduceBEq, Nat.reduceLeDiff, Nat.reduceEqDiff, Int.reduceToNat])) | (refine callH_intro (fun hcc => toIntS_fr _ hs.2.1) ?_; try (simp (disch := exact eqId (by kernel_rfl)) only [go_sem, ↓reduceIte, Nat.reduceAdd, Nat.reduceMul, Nat.reduceLT, Nat.reduceBEq, Nat.reduceLeDiff, Nat.reduceEqDiff, Int.reduceToNat])) | (refine callQ_intro (toBoolS_fr _ hs.2.2.1) ?_; try (simp (disch := exact eqId (by kernel_rfl)) only [go_sem, ↓reduceIte, Nat.reduceAdd, Nat.reduceMul, Nat.reduceLT, Nat.reduceBEq, Nat.reduceLeDiff, Nat.reduceEqDiff, Int.reduceToNat])) | (refine callH_intro (fun hcc => toBoolS_fr _ hs.2.2.1) ?_; try (simp (disch := exact eqId (by kernel_rfl)) only [go_sem, ↓reduceIte, Nat.reduceAdd, Nat.reduceMul, Nat.reduceLT, Nat.reduceBEq, Nat.reduceLeDiff, Nat.reduceEqDiff, Int.reduceToNat])) | (refine callQ_intro (toStringS_fr _ hs.2.2.2.1) ?_; try (simp (disch := exact eqId (by kernel_rfl)) only [go_sem, ↓reduceIte, Nat.reduceAdd, Nat.reduceMul, Nat.reduceLT, Nat.reduceBEq, Nat.reduceLeDiff, Nat.reduceEqDiff, Int.reduceToNat])) | (refine callH_intro (fun hcc => toStringS_fr _ hs.2.2.2.1) ?_; try (simp (disch := exact eqId (by kernel_rfl)) only [go_sem, ↓reduceIte, Nat.reduceAdd, Nat.reduceMul, Nat.reduceLT, Nat.reduceBEq, Nat.reduceLeDiff, Nat.reduceEqDiff, Int.reduceToNat])) | (refine callQ_intro (toIntS_fr _ hs.2.2.2.2.1) ?_; try (simp (disch := exact eqId (by kernel_rfl)) only [go_sem, ↓reduceIte, Nat.reduceAdd, Nat.reduceMul, Nat.reduceLT, Nat.reduceBEq, Nat.reduceLeDiff, Nat.reduceEqDiff, Int.reduceToNat])) | (refine callH_intro (fun hcc => toIntS_fr _ hs.2.2.2.2.1) ?_; try (simp (disch := exact eqId (by kernel_rfl)) only [go_sem, ↓reduceIte, Nat.reduceAdd, Nat.reduceMul, Nat.reduceLT, Nat.reduceBEq, Nat.reduceLeDiff, Nat.reduceEqDiff, Int.reduceToNat])) | (refine callQ_intro (toIntSS_d _ hs.2.2.2.2.2.1) ?_; try (simp (disch := exact eqId (by kernel_rfl)) only [go_sem, ↓reduceIte, Nat.reduceAdd, Nat.reduceMul, Nat.reduceLT, Nat.reduceBEq, Nat.reduceLeDiff, Nat.reduceEqDiff, Int.reduceToNat])) | (refine callH_intro (fun hcc => toIntSS_d _ hs.2.2.2.2.2.1) ?_; try (simp (disch := exact eqId (by kernel_rfl)) only [go_sem, ↓reduceIte, Nat.reduceAdd, Nat.reduceMul, Nat.reduceLT, Nat.reduceBEq, Nat.reduceLeDiff, Nat.reduceEqDiff, Int.reduceToNat])))
  all_goals (try rfl)
theorem markIntS_m (l : List (I : Ty).den) (n : Int) (h0 : 0 ≤ n) (h1 : n ≤ 1152921504606846976) (hs : l.length ≤ 1073741824) : MutOK Try.prog 21 [none, none] [.obj (.arr 3 I l), .rd ⟨I, n⟩] (.rd I (mrk (.list I) l n).2) [.arr 3 I (mrk (.list I) l n).1] := by
  rw [show mrk (.list I) l n = _ from mrk_list I rfl l n]
  exact markIntS_ok l n h0 h1 hs
theorem markStepS_m (l : List (tStep : Ty).den) (n : Int) (h0 : 0 ≤ n) (h1 : n ≤ 1152921504606846976) (hs : l.length ≤ 1073741824) : MutOK Try.prog 88 [none, none] [.obj (.arr 151 tStep l), .rd ⟨I, n⟩] (.rd I (mrk (.list tStep) l n).2) [.arr 151 tStep (mrk (.list tStep) l n).1] := by
  rw [show mrk (.list tStep) l n = _ from mrk_list tStep rfl l n]
  exact markStepS_ok l n h0 h1 hs
theorem markStampS_m (l : List (tStamp : Ty).den) (n : Int) (h0 : 0 ≤ n) (h1 : n ≤ 1152921504606846976) (hs : l.length ≤ 1073741824) : MutOK Try.prog 89 [none, none] [.obj (.arr 155 tStamp l), .rd ⟨I, n⟩] (.rd I (mrk (.list tStamp) l n).2) [.arr 155 tStamp (mrk (.list tStamp) l n).1] := by
  rw [show mrk (.list tStamp) l n = _ from mrk_list tStamp rfl l n]
  exact markStampS_ok l n h0 h1 hs
theorem markPieceS_d (l : List (tPiece : Ty).den) (n : Int) (h0 : 0 ≤ n) (h1 : n + cnv (.list tPiece) l ≤ 1152921504606846976) (hs : Small (.list tPiece) 1073741824 l) : MutOK Try.prog 69 [none, none] [.obj (.deep TE tPiece l), .rd ⟨I, n⟩] (.rd I (mrk (.list tPiece) l n).2) [.deep TE tPiece (mrk (.list tPiece) l n).1] := by
  have hl : l.length ≤ 1073741824 := hs.1
  have hq : ∀ d : Nat, (mrkL (mrk tPiece) (l.take d) n).2 = n + (((l.take d).map (cnv tPiece)).sum : Nat) := fun d => mrk_snd (.list tPiece) (l.take d) n
  have hc : ∀ d : Nat, d < l.length → n + (((l.take d).map (cnv tPiece)).sum : Nat) + cnv tPiece (l.getD d (tPiece : Ty).dflt) ≤ 1152921504606846976 := fun d hd => by
    have := sum_take (cnv tPiece) hd (tPiece : Ty).dflt
    simp only [cnv] at h1 this ⊢
    omega
  refine fun_ofM (tb := tbd) follows Try.func69 (by kernel_rfl) Try.ntmps69 rfl rfl (by simp [shOK]) rfl ?_; intro cx hN hw
  simp (disch := exact eqId (by kernel_rfl)) only [go_sem, ↓reduceIte, Nat.reduceAdd, Nat.reduceMul, Nat.reduceLT, Nat.reduceBEq, Nat.reduceLeDiff, Nat.reduceEqDiff, Int.reduceToNat]
  refine loop_intro (tb := tbd) follows hN (D := Nat) (fun d => shp [(0, .own 0), (1, .rd I ((mrkL (mrk tPiece) (l.take d) n).2 : Int)), (5, .rd I (d : Int))] [(0, .deep TE tPiece ((mrkL (mrk tPiece) (l.take d) n).1 ++ l.drop d))]) (fun d => d ≤ l.length) (fun d => l.length - d) (0) ?_ (sub_shp hN [(0, some 0)] ?_) (fun d hd => ?_)
  · exact Nat.zero_le _
  · simp (disch := exact eqId (by kernel_rfl)) only [go_sem, ↓reduceIte, Nat.reduceAdd, Nat.reduceMul, Nat.reduceLT, Nat.reduceBEq, Nat.reduceLeDiff, Nat.reduceEqDiff, Int.reduceToNat]
    simp [mrkL]
  · have hll := mrkL_ll (mrk tPiece) hd n
    simp (disch := exact eqId (by kernel_rfl)) only [go_sem, ↓reduceIte, Nat.reduceAdd, Nat.reduceMul, Nat.reduceLT, Nat.reduceBEq, Nat.reduceLeDiff, Nat.reduceEqDiff, Int.reduceToNat]
    rw [hll]
    refine ⟨fun hk => ?_, fun hk => ?_⟩
    · have hk : d < l.length := by omega
      have hat : ((mrkL (mrk tPiece) (l.take d) n).1 ++ l.drop d).getD d ((0, [], 0, ()) : (tPiece : Ty).den) = l.getD d (0, [], 0, ()) := mrkL_at (mrk tPiece) hk _ n
      have hst := mrkL_set (mrk tPiece) hk ((0, [], 0, ()) : (tPiece : Ty).den) n
      have htk := congrArg Prod.snd (mrkL_take (mrk tPiece) hk ((0, [], 0, ()) : (tPiece : Ty).den) n)
      have hK : 0 ≤ (mrkL (mrk tPiece) (l.take d) n).2 := by rw [hq d]; omega
      have c : (mrkL (mrk tPiece) (l.take d) n).2 + cnv tPiece (l.getD d (0, [], 0, ())) ≤ 1152921504606846976 := by rw [hq d]; exact hc d hk
      have hm : Small tPiece 1073741824 (l.getD d (0, [], 0, ())) := hs.2 _ (getD_mem hk _)
      generalize (mrkL (mrk tPiece) (l.take d) n).1 ++ l.drop d = A at *
      generalize (mrkL (mrk tPiece) (l.take d) n).2 = K at *
      generalize l.getD d (0, [], 0, ()) = y at *
      have hin : d < A.length := by omega
      simp only [List.length_set, hll, set_getD hin, hat, List.set_set]
      try simp only [cnv_c, cnv_i, cnv_n] at c
      have := mrk_snd (.list I) y.2.1 (K + 1)
      try simp only [List.length_set, hll, List.set_set, set_getD hin, hat]
      try simp (disch := omega) only [wrap_i64]
      repeat' (refine And.intro ?_ ?_)
      all_goals (try omega)
      all_goals (try exact hk)
      refine callN_intro (markIntS_m _ _ (by omega) (by omega) hm.2.1.1) rfl rfl ?_
      simp (disch := exact eqId (by kernel_rfl)) only [go_sem, ↓reduceIte, Nat.reduceAdd, Nat.reduceMul, Nat.reduceLT, Nat.reduceBEq, Nat.reduceLeDiff, Nat.reduceEqDiff, Int.reduceToNat]
      try simp only [List.length_set, hll, List.set_set, set_getD hin, hat]
      try simp (disch := omega) only [wrap_i64]
      repeat' (refine And.intro ?_ ?_)
      all_goals (try omega)
      all_goals (try exact hk)
      refine back_intro (d + 1) ?_ ?_ (sub_shp hN [(0, some 0)] ?_)
      · exact hk
      · omega
      · simp (disch := exact eqId (by kernel_rfl)) only [go_sem, ↓reduceIte, Nat.reduceAdd, Nat.reduceMul, Nat.reduceLT, Nat.reduceBEq, Nat.reduceLeDiff, Nat.reduceEqDiff, Int.reduceToNat]
        rw [htk, ← hst]
        simp only [mrk_c, mrk_i, mrk_n]
        try simp (disch := omega) only [wrap_i64]
        repeat' (refine And.intro ?_ ?_)
        all_goals first | trivial | rfl | omega | (exact I_eq (by omega))
    · have hk : d = l.length := by omega
      subst hk
      simp [mrk]
theorem markRenewalS_d (l : List (tRenewal : Ty).den) (n : Int) (h0 : 0 ≤ n) (h1 : n + cnv (.list tRenewal) l ≤ 1152921504606846976) (hs : Small (.list tRenewal) 1073741824 l) : MutOK Try.prog 70 [none, none] [.obj (.deep TE tRenewal l), .rd ⟨I, n⟩] (.rd I (mrk (.list tRenewal) l n).2) [.deep TE tRenewal (mrk (.list tRenewal) l n).1] := by
  have hl : l.length ≤ 1073741824 := hs.1
  have hq : ∀ d : Nat, (mrkL (mrk tRenewal) (l.take d) n).2 = n + (((l.take d).map (cnv tRenewal)).sum : Nat) := fun d => mrk_snd (.list tRenewal) (l.take d) n
  have hc : ∀ d : Nat, d < l.length → n + (((l.take d).map (cnv tRenewal)).sum : Nat) + cnv tRenewal (l.getD d (tRenewal : Ty).dflt) ≤ 1152921504606846976 := fun d hd => by
    have := sum_take (cnv tRenewal) hd (tRenewal : Ty).dflt
    simp only [cnv] at h1 this ⊢
    omega
  refine fun_ofM (tb := tbd) follows Try.func70 (by kernel_rfl) Try.ntmps70 rfl rfl (by simp [shOK]) rfl ?_; intro cx hN hw
  simp (disch := exact eqId (by kernel_rfl)) only [go_sem, ↓reduceIte, Nat.reduceAdd, Nat.reduceMul, Nat.reduceLT, Nat.reduceBEq, Nat.reduceLeDiff, Nat.reduceEqDiff, Int.reduceToNat]
  refine loop_intro (tb := tbd) follows hN (D := Nat) (fun d => shp [(0, .own 0), (1, .rd I ((mrkL (mrk tRenewal) (l.take d) n).2 : Int)), (5, .rd I (d : Int))] [(0, .deep TE tRenewal ((mrkL (mrk tRenewal) (l.take d) n).1 ++ l.drop d))]) (fun d => d ≤ l.length) (fun d => l.length - d) (0) ?_ (sub_shp hN [(0, some 0)] ?_) (fun d hd => ?_)
  · exact Nat.zero_le _
  · simp (disch := exact eqId (by kernel_rfl)) only [go_sem, ↓reduceIte, Nat.reduceAdd, Nat.reduceMul, Nat.reduceLT, Nat.reduceBEq, Nat.reduceLeDiff, Nat.reduceEqDiff, Int.reduceToNat]
    simp [mrkL]
  · have hll := mrkL_ll (mrk tRenewal) hd n
    simp (disch := exact eqId (by kernel_rfl)) only [go_sem, ↓reduceIte, Nat.reduceAdd, Nat.reduceMul, Nat.reduceLT, Nat.reduceBEq, Nat.reduceLeDiff, Nat.reduceEqDiff, Int.reduceToNat]
    rw [hll]
    refine ⟨fun hk => ?_, fun hk => ?_⟩
    · have hk : d < l.length := by omega
      have hat : ((mrkL (mrk tRenewal) (l.take d) n).1 ++ l.drop d).getD d ((0, 0, 0, [], [], ()) : (tRenewal : Ty).den) = l.getD d (0, 0, 0, [], [], ()) := mrkL_at (mrk tRenewal) hk _ n
      have hst := mrkL_set (mrk tRenewal) hk ((0, 0, 0, [], [], ()) : (tRenewal : Ty).den) n
      have htk := congrArg Prod.snd (mrkL_take (mrk tRenewal) hk ((0, 0, 0, [], [], ()) : (tRenewal : Ty).den) n)
      have hK : 0 ≤ (mrkL (mrk tRenewal) (l.take d) n).2 := by rw [hq d]; omega
      have c : (mrkL (mrk tRenewal) (l.take d) n).2 + cnv tRenewal (l.getD d (0, 0, 0, [], [], ())) ≤ 1152921504606846976 := by rw [hq d]; exact hc d hk
      have hm : Small tRenewal 1073741824 (l.getD d (0, 0, 0, [], [], ())) := hs.2 _ (getD_mem hk _)
      generalize (mrkL (mrk tRenewal) (l.take d) n).1 ++ l.drop d = A at *
      generalize (mrkL (mrk tRenewal) (l.take d) n).2 = K at *
      generalize l.getD d (0, 0, 0, [], [], ()) = y at *
      have hin : d < A.length := by omega
      simp only [List.length_set, hll, set_getD hin, hat, List.set_set]
      try simp only [cnv_c, cnv_i, cnv_n] at c
      have := mrk_snd (.list tStep) y.2.2.2.1 (K + 1 + 1 + 1)
      have := mrk_snd (.list tStamp) y.2.2.2.2.1 (mrk (.list tStep) y.2.2.2.1 (K + 1 + 1 + 1)).2
      try simp only [List.length_set, hll, List.set_set, set_getD hin, hat]
      try simp (disch := omega) only [wrap_i64]
      repeat' (refine And.intro ?_ ?_)
      all_goals (try omega)
      all_goals (try exact hk)
      refine callN_intro (markStepS_m _ _ (by omega) (by omega) hm.2.2.2.1.1) rfl rfl ?_
      simp (disch := exact eqId (by kernel_rfl)) only [go_sem, ↓reduceIte, Nat.reduceAdd, Nat.reduceMul, Nat.reduceLT, Nat.reduceBEq, Nat.reduceLeDiff, Nat.reduceEqDiff, Int.reduceToNat]
      try simp only [List.length_set, hll, List.set_set, set_getD hin, hat]
      try simp (disch := omega) only [wrap_i64]
      repeat' (refine And.intro ?_ ?_)
      all_goals (try omega)
      all_goals (try exact hk)
      refine callN_intro (markStampS_m _ _ (by omega) (by omega) hm.2.2.2.2.1.1) rfl rfl ?_
      simp (disch := exact eqId (by kernel_rfl)) only [go_sem, ↓reduceIte, Nat.reduceAdd, Nat.reduceMul, Nat.reduceLT, Nat.reduceBEq, Nat.reduceLeDiff, Nat.reduceEqDiff, Int.reduceToNat]
      try simp only [List.length_set, hll, List.set_set, set_getD hin, hat]
      try simp (disch := omega) only [wrap_i64]
      repeat' (refine And.intro ?_ ?_)
      all_goals (try omega)
      all_goals (try exact hk)
      refine back_intro (d + 1) ?_ ?_ (sub_shp hN [(0, some 0)] ?_)
      · exact hk
      · omega
      · simp (disch := exact eqId (by kernel_rfl)) only [go_sem, ↓reduceIte, Nat.reduceAdd, Nat.reduceMul, Nat.reduceLT, Nat.reduceBEq, Nat.reduceLeDiff, Nat.reduceEqDiff, Int.reduceToNat]
        rw [htk, ← hst]
        simp only [mrk_c, mrk_i, mrk_n]
        try simp (disch := omega) only [wrap_i64]
        repeat' (refine And.intro ?_ ?_)
        all_goals first | trivial | rfl | omega | (exact I_eq (by omega))
    · have hk : d = l.length := by omega
      subst hk
      simp [mrk]
theorem markStrandS_d (l : List (tStrand : Ty).den) (n : Int) (h0 : 0 ≤ n) (h1 : n + cnv (.list tStrand) l ≤ 1152921504606846976) (hs : Small (.list tStrand) 1073741824 l) : MutOK Try.prog 96 [none, none] [.obj (.deep TE tStrand l), .rd ⟨I, n⟩] (.rd I (mrk (.list tStrand) l n).2) [.deep TE tStrand (mrk (.list tStrand) l n).1] := by
  have hl : l.length ≤ 1073741824 := hs.1
  have hq : ∀ d : Nat, (mrkL (mrk tStrand) (l.take d) n).2 = n + (((l.take d).map (cnv tStrand)).sum : Nat) := fun d => mrk_snd (.list tStrand) (l.take d) n
  have hc : ∀ d : Nat, d < l.length → n + (((l.take d).map (cnv tStrand)).sum : Nat) + cnv tStrand (l.getD d (tStrand : Ty).dflt) ≤ 1152921504606846976 := fun d hd => by
    have := sum_take (cnv tStrand) hd (tStrand : Ty).dflt
    simp only [cnv] at h1 this ⊢
    omega
  refine fun_ofM (tb := tbd) follows Try.func96 (by kernel_rfl) Try.ntmps96 rfl rfl (by simp [shOK]) rfl ?_; intro cx hN hw
  simp (disch := exact eqId (by kernel_rfl)) only [go_sem, ↓reduceIte, Nat.reduceAdd, Nat.reduceMul, Nat.reduceLT, Nat.reduceBEq, Nat.reduceLeDiff, Nat.reduceEqDiff, Int.reduceToNat]
  refine loop_intro (tb := tbd) follows hN (D := Nat) (fun d => shp [(0, .own 0), (1, .rd I ((mrkL (mrk tStrand) (l.take d) n).2 : Int)), (5, .rd I (d : Int))] [(0, .deep TE tStrand ((mrkL (mrk tStrand) (l.take d) n).1 ++ l.drop d))]) (fun d => d ≤ l.length) (fun d => l.length - d) (0) ?_ (sub_shp hN [(0, some 0)] ?_) (fun d hd => ?_)
  · exact Nat.zero_le _
  · simp (disch := exact eqId (by kernel_rfl)) only [go_sem, ↓reduceIte, Nat.reduceAdd, Nat.reduceMul, Nat.reduceLT, Nat.reduceBEq, Nat.reduceLeDiff, Nat.reduceEqDiff, Int.reduceToNat]
    simp [mrkL]
  · have hll := mrkL_ll (mrk tStrand) hd n
    simp (disch := exact eqId (by kernel_rfl)) only [go_sem, ↓reduceIte, Nat.reduceAdd, Nat.reduceMul, Nat.reduceLT, Nat.reduceBEq, Nat.reduceLeDiff, Nat.reduceEqDiff, Int.reduceToNat]
    rw [hll]
    refine ⟨fun hk => ?_, fun hk => ?_⟩
    · have hk : d < l.length := by omega
      have hat : ((mrkL (mrk tStrand) (l.take d) n).1 ++ l.drop d).getD d (([], [], ()) : (tStrand : Ty).den) = l.getD d ([], [], ()) := mrkL_at (mrk tStrand) hk _ n
      have hst := mrkL_set (mrk tStrand) hk (([], [], ()) : (tStrand : Ty).den) n
      have htk := congrArg Prod.snd (mrkL_take (mrk tStrand) hk (([], [], ()) : (tStrand : Ty).den) n)
      have hK : 0 ≤ (mrkL (mrk tStrand) (l.take d) n).2 := by rw [hq d]; omega
      have c : (mrkL (mrk tStrand) (l.take d) n).2 + cnv tStrand (l.getD d ([], [], ())) ≤ 1152921504606846976 := by rw [hq d]; exact hc d hk
      have hm : Small tStrand 1073741824 (l.getD d ([], [], ())) := hs.2 _ (getD_mem hk _)
      generalize (mrkL (mrk tStrand) (l.take d) n).1 ++ l.drop d = A at *
      generalize (mrkL (mrk tStrand) (l.take d) n).2 = K at *
      generalize l.getD d ([], [], ()) = y at *
      have hin : d < A.length := by omega
      simp only [List.length_set, hll, set_getD hin, hat, List.set_set]
      try simp only [cnv_c, cnv_i, cnv_n] at c
      have := mrk_snd (.list tPiece) y.1 K
      have := mrk_snd (.list tRenewal) y.2.1 (mrk (.list tPiece) y.1 K).2
      try simp only [List.length_set, hll, List.set_set, set_getD hin, hat]
      try simp (disch := omega) only [wrap_i64]
      repeat' (refine And.intro ?_ ?_)
      all_goals (try omega)
      all_goals (try exact hk)
      refine callN_intro (markPieceS_d _ _ (by omega) (by omega) hm.1) rfl rfl ?_
      simp (disch := exact eqId (by kernel_rfl)) only [go_sem, ↓reduceIte, Nat.reduceAdd, Nat.reduceMul, Nat.reduceLT, Nat.reduceBEq, Nat.reduceLeDiff, Nat.reduceEqDiff, Int.reduceToNat]
      try simp only [List.length_set, hll, List.set_set, set_getD hin, hat]
      try simp (disch := omega) only [wrap_i64]
      repeat' (refine And.intro ?_ ?_)
      all_goals (try omega)
      all_goals (try exact hk)
      refine callN_intro (markRenewalS_d _ _ (by omega) (by omega) hm.2.1) rfl rfl ?_
      simp (disch := exact eqId (by kernel_rfl)) only [go_sem, ↓reduceIte, Nat.reduceAdd, Nat.reduceMul, Nat.reduceLT, Nat.reduceBEq, Nat.reduceLeDiff, Nat.reduceEqDiff, Int.reduceToNat]
      try simp only [List.length_set, hll, List.set_set, set_getD hin, hat]
      try simp (disch := omega) only [wrap_i64]
      repeat' (refine And.intro ?_ ?_)
      all_goals (try omega)
      all_goals (try exact hk)
      refine back_intro (d + 1) ?_ ?_ (sub_shp hN [(0, some 0)] ?_)
      · exact hk
      · omega
      · simp (disch := exact eqId (by kernel_rfl)) only [go_sem, ↓reduceIte, Nat.reduceAdd, Nat.reduceMul, Nat.reduceLT, Nat.reduceBEq, Nat.reduceLeDiff, Nat.reduceEqDiff, Int.reduceToNat]
        rw [htk, ← hst]
        simp only [mrk_c, mrk_i, mrk_n]
        try simp (disch := omega) only [wrap_i64]
        repeat' (refine And.intro ?_ ?_)
        all_goals first | trivial | rfl | omega | (exact I_eq (by omega))
    · have hk : d = l.length := by omega
      subst hk
      simp [mrk]
theorem markStampSS_d (l : List ((.list tStamp) : Ty).den) (n : Int) (h0 : 0 ≤ n) (h1 : n + cnv (.list (.list tStamp)) l ≤ 1152921504606846976) (hs : Small (.list (.list tStamp)) 1073741824 l) : MutOK Try.prog 97 [none, none] [.obj (.deep TE (.list tStamp) l), .rd ⟨I, n⟩] (.rd I (mrk (.list (.list tStamp)) l n).2) [.deep TE (.list tStamp) (mrk (.list (.list tStamp)) l n).1] := by
  have hl : l.length ≤ 1073741824 := hs.1
  have hq : ∀ d : Nat, (mrkL (mrk (.list tStamp)) (l.take d) n).2 = n + (((l.take d).map (cnv (.list tStamp))).sum : Nat) := fun d => mrk_snd (.list (.list tStamp)) (l.take d) n
  have hc : ∀ d : Nat, d < l.length → n + (((l.take d).map (cnv (.list tStamp))).sum : Nat) + cnv (.list tStamp) (l.getD d ((.list tStamp) : Ty).dflt) ≤ 1152921504606846976 := fun d hd => by
    have := sum_take (cnv (.list tStamp)) hd ((.list tStamp) : Ty).dflt
    simp only [cnv] at h1 this ⊢
    omega
  refine fun_ofM (tb := tbd) follows Try.func97 (by kernel_rfl) Try.ntmps97 rfl rfl (by simp [shOK]) rfl ?_; intro cx hN hw
  simp (disch := exact eqId (by kernel_rfl)) only [go_sem, ↓reduceIte, Nat.reduceAdd, Nat.reduceMul, Nat.reduceLT, Nat.reduceBEq, Nat.reduceLeDiff, Nat.reduceEqDiff, Int.reduceToNat]
  refine loop_intro (tb := tbd) follows hN (D := Nat) (fun d => shp [(0, .own 0), (1, .rd I ((mrkL (mrk (.list tStamp)) (l.take d) n).2 : Int)), (5, .rd I (d : Int))] [(0, .deep TE (.list tStamp) ((mrkL (mrk (.list tStamp)) (l.take d) n).1 ++ l.drop d))]) (fun d => d ≤ l.length) (fun d => l.length - d) (0) ?_ (sub_shp hN [(0, some 0)] ?_) (fun d hd => ?_)
  · exact Nat.zero_le _
  · simp (disch := exact eqId (by kernel_rfl)) only [go_sem, ↓reduceIte, Nat.reduceAdd, Nat.reduceMul, Nat.reduceLT, Nat.reduceBEq, Nat.reduceLeDiff, Nat.reduceEqDiff, Int.reduceToNat]
    simp [mrkL]
  · have hll := mrkL_ll (mrk (.list tStamp)) hd n
    simp (disch := exact eqId (by kernel_rfl)) only [go_sem, ↓reduceIte, Nat.reduceAdd, Nat.reduceMul, Nat.reduceLT, Nat.reduceBEq, Nat.reduceLeDiff, Nat.reduceEqDiff, Int.reduceToNat]
    rw [hll]
    refine ⟨fun hk => ?_, fun hk => ?_⟩
    · have hk : d < l.length := by omega
      have hat : ((mrkL (mrk (.list tStamp)) (l.take d) n).1 ++ l.drop d).getD d ([] : ((.list tStamp) : Ty).den) = l.getD d [] := mrkL_at (mrk (.list tStamp)) hk _ n
      have hst := mrkL_set (mrk (.list tStamp)) hk ([] : ((.list tStamp) : Ty).den) n
      have htk := congrArg Prod.snd (mrkL_take (mrk (.list tStamp)) hk ([] : ((.list tStamp) : Ty).den) n)
      have hK : 0 ≤ (mrkL (mrk (.list tStamp)) (l.take d) n).2 := by rw [hq d]; omega
      have c : (mrkL (mrk (.list tStamp)) (l.take d) n).2 + cnv (.list tStamp) (l.getD d []) ≤ 1152921504606846976 := by rw [hq d]; exact hc d hk
      have hm : Small (.list tStamp) 1073741824 (l.getD d []) := hs.2 _ (getD_mem hk _)
      generalize (mrkL (mrk (.list tStamp)) (l.take d) n).1 ++ l.drop d = A at *
      generalize (mrkL (mrk (.list tStamp)) (l.take d) n).2 = K at *
      generalize l.getD d [] = y at *
      have hin : d < A.length := by omega
      simp only [List.length_set, hll, set_getD hin, hat, List.set_set]
      try simp only [cnv_c, cnv_i, cnv_n] at c
      have := mrk_snd (.list tStamp) y K
      try simp only [List.length_set, hll, List.set_set, set_getD hin, hat]
      try simp (disch := omega) only [wrap_i64]
      repeat' (refine And.intro ?_ ?_)
      all_goals (try omega)
      all_goals (try exact hk)
      refine callN_intro (markStampS_m _ _ (by omega) (by omega) hm.1) rfl rfl ?_
      simp (disch := exact eqId (by kernel_rfl)) only [go_sem, ↓reduceIte, Nat.reduceAdd, Nat.reduceMul, Nat.reduceLT, Nat.reduceBEq, Nat.reduceLeDiff, Nat.reduceEqDiff, Int.reduceToNat]
      try simp only [List.length_set, hll, List.set_set, set_getD hin, hat]
      try simp (disch := omega) only [wrap_i64]
      repeat' (refine And.intro ?_ ?_)
      all_goals (try omega)
      all_goals (try exact hk)
      refine back_intro (d + 1) ?_ ?_ (sub_shp hN [(0, some 0)] ?_)
      · exact hk
      · omega
      · simp (disch := exact eqId (by kernel_rfl)) only [go_sem, ↓reduceIte, Nat.reduceAdd, Nat.reduceMul, Nat.reduceLT, Nat.reduceBEq, Nat.reduceLeDiff, Nat.reduceEqDiff, Int.reduceToNat]
        rw [htk, ← hst]
        simp only [mrk_c, mrk_i, mrk_n]
        try simp (disch := omega) only [wrap_i64]
        repeat' (refine And.intro ?_ ?_)
        all_goals first | trivial | rfl | omega | (exact I_eq (by omega))
    · have hk : d = l.length := by omega
      subst hk
      simp [mrk]
theorem markIntSS_d (l : List ((.list I) : Ty).den) (n : Int) (h0 : 0 ≤ n) (h1 : n + cnv (.list (.list I)) l ≤ 1152921504606846976) (hs : Small (.list (.list I)) 1073741824 l) : MutOK Try.prog 43 [none, none] [.obj (.deep TE (.list I) l), .rd ⟨I, n⟩] (.rd I (mrk (.list (.list I)) l n).2) [.deep TE (.list I) (mrk (.list (.list I)) l n).1] := by
  have hl : l.length ≤ 1073741824 := hs.1
  have hq : ∀ d : Nat, (mrkL (mrk (.list I)) (l.take d) n).2 = n + (((l.take d).map (cnv (.list I))).sum : Nat) := fun d => mrk_snd (.list (.list I)) (l.take d) n
  have hc : ∀ d : Nat, d < l.length → n + (((l.take d).map (cnv (.list I))).sum : Nat) + cnv (.list I) (l.getD d ((.list I) : Ty).dflt) ≤ 1152921504606846976 := fun d hd => by
    have := sum_take (cnv (.list I)) hd ((.list I) : Ty).dflt
    simp only [cnv] at h1 this ⊢
    omega
  refine fun_ofM (tb := tbd) follows Try.func43 (by kernel_rfl) Try.ntmps43 rfl rfl (by simp [shOK]) rfl ?_; intro cx hN hw
  simp (disch := exact eqId (by kernel_rfl)) only [go_sem, ↓reduceIte, Nat.reduceAdd, Nat.reduceMul, Nat.reduceLT, Nat.reduceBEq, Nat.reduceLeDiff, Nat.reduceEqDiff, Int.reduceToNat]
  refine loop_intro (tb := tbd) follows hN (D := Nat) (fun d => shp [(0, .own 0), (1, .rd I ((mrkL (mrk (.list I)) (l.take d) n).2 : Int)), (5, .rd I (d : Int))] [(0, .deep TE (.list I) ((mrkL (mrk (.list I)) (l.take d) n).1 ++ l.drop d))]) (fun d => d ≤ l.length) (fun d => l.length - d) (0) ?_ (sub_shp hN [(0, some 0)] ?_) (fun d hd => ?_)
  · exact Nat.zero_le _
  · simp (disch := exact eqId (by kernel_rfl)) only [go_sem, ↓reduceIte, Nat.reduceAdd, Nat.reduceMul, Nat.reduceLT, Nat.reduceBEq, Nat.reduceLeDiff, Nat.reduceEqDiff, Int.reduceToNat]
    simp [mrkL]
  · have hll := mrkL_ll (mrk (.list I)) hd n
    simp (disch := exact eqId (by kernel_rfl)) only [go_sem, ↓reduceIte, Nat.reduceAdd, Nat.reduceMul, Nat.reduceLT, Nat.reduceBEq, Nat.reduceLeDiff, Nat.reduceEqDiff, Int.reduceToNat]
    rw [hll]
    refine ⟨fun hk => ?_, fun hk => ?_⟩
    · have hk : d < l.length := by omega
      have hat : ((mrkL (mrk (.list I)) (l.take d) n).1 ++ l.drop d).getD d ([] : ((.list I) : Ty).den) = l.getD d [] := mrkL_at (mrk (.list I)) hk _ n
      have hst := mrkL_set (mrk (.list I)) hk ([] : ((.list I) : Ty).den) n
      have htk := congrArg Prod.snd (mrkL_take (mrk (.list I)) hk ([] : ((.list I) : Ty).den) n)
      have hK : 0 ≤ (mrkL (mrk (.list I)) (l.take d) n).2 := by rw [hq d]; omega
      have c : (mrkL (mrk (.list I)) (l.take d) n).2 + cnv (.list I) (l.getD d []) ≤ 1152921504606846976 := by rw [hq d]; exact hc d hk
      have hm : Small (.list I) 1073741824 (l.getD d []) := hs.2 _ (getD_mem hk _)
      generalize (mrkL (mrk (.list I)) (l.take d) n).1 ++ l.drop d = A at *
      generalize (mrkL (mrk (.list I)) (l.take d) n).2 = K at *
      generalize l.getD d [] = y at *
      have hin : d < A.length := by omega
      simp only [List.length_set, hll, set_getD hin, hat, List.set_set]
      try simp only [cnv_c, cnv_i, cnv_n] at c
      have := mrk_snd (.list I) y K
      try simp only [List.length_set, hll, List.set_set, set_getD hin, hat]
      try simp (disch := omega) only [wrap_i64]
      repeat' (refine And.intro ?_ ?_)
      all_goals (try omega)
      all_goals (try exact hk)
      refine callN_intro (markIntS_m _ _ (by omega) (by omega) hm.1) rfl rfl ?_
      simp (disch := exact eqId (by kernel_rfl)) only [go_sem, ↓reduceIte, Nat.reduceAdd, Nat.reduceMul, Nat.reduceLT, Nat.reduceBEq, Nat.reduceLeDiff, Nat.reduceEqDiff, Int.reduceToNat]
      try simp only [List.length_set, hll, List.set_set, set_getD hin, hat]
      try simp (disch := omega) only [wrap_i64]
      repeat' (refine And.intro ?_ ?_)
      all_goals (try omega)
      all_goals (try exact hk)
      refine back_intro (d + 1) ?_ ?_ (sub_shp hN [(0, some 0)] ?_)
      · exact hk
      · omega
      · simp (disch := exact eqId (by kernel_rfl)) only [go_sem, ↓reduceIte, Nat.reduceAdd, Nat.reduceMul, Nat.reduceLT, Nat.reduceBEq, Nat.reduceLeDiff, Nat.reduceEqDiff, Int.reduceToNat]
        rw [htk, ← hst]
        simp only [mrk_c, mrk_i, mrk_n]
        try simp (disch := omega) only [wrap_i64]
        repeat' (refine And.intro ?_ ?_)
        all_goals first | trivial | rfl | omega | (exact I_eq (by omega))
    · have hk : d = l.length := by omega
      subst hk
      simp [mrk]
end Go.Proofs.Ytfkdkblbhilghaa
