/- The readings of this seat's types. It proves nothing of a statement by itself. -/
import Derived.Test.YtaeieogcibhhkaaAL22
import Derived.Test.YtaeieogcibhhkaaRows
set_option linter.unusedSimpArgs false
set_option linter.unusedVariables false
namespace Go.Proofs.Ytaeieogcibhhkaa
open Go.AL
abbrev I : Ty := .int .i64
abbrev tSpan : Ty := .cons I (.cons I .nil)
abbrev tStamp : Ty := .cons I (.cons I (.cons I (.cons I (.cons I .nil))))
abbrev tStatus : Ty := .cons I (.cons I (.cons I (.cons I (.cons I .nil))))
abbrev tMandate : Ty := .cons I (.cons I (.cons I (.cons I (.cons I (.cons I .nil)))))
abbrev tCert : Ty := .cons I (.cons I (.cons I (.cons I (.cons I (.cons I (.cons I .nil))))))
abbrev tSignature : Ty := .cons I (.cons I (.cons I (.cons I (.cons I (.cons I (.cons I (.cons I (.cons I .nil))))))))
abbrev tSuccession : Ty := .cons I (.cons I (.cons I (.cons I .nil)))
abbrev tKey : Ty := .cons I (.cons I (.cons I (.cons I (.cons I .nil))))
abbrev tAuthority : Ty := .cons I (.cons I (.cons I .nil))
abbrev tMethod : Ty := .cons I (.cons I (.cons I (.cons I .nil)))
abbrev tStep : Ty := .cons I (.cons .bool .nil)
abbrev tPiece : Ty := .cons I (.cons (.list I) (.cons I .nil))
abbrev tRenewal : Ty := .cons I (.cons I (.cons I (.cons (.list tStep) (.cons (.list tStamp) .nil))))
abbrev tStrand : Ty := .cons (.list tPiece) (.cons (.list tRenewal) .nil)
abbrev tEvidence : Ty := .cons (.list tStrand) (.cons (.list (.list tStamp)) .nil)
abbrev tFrame : Ty := .cons (.list tKey) (.cons (.list tAuthority) (.cons (.list tMethod) (.cons I (.cons I .nil))))
abbrev tDocument : Ty := .cons I (.cons (.list .str) (.cons (.list I) .nil))
abbrev tRedacted : Ty := .cons I (.cons (.list I) (.cons (.list .bool) (.cons (.list .str) (.cons (.list I) (.cons (.list (.list I)) .nil)))))
def tyTab : List (Nat × Ty) := [
  (3, I),
  (4, .bool),
  (9, .str),
  (5, (.int .u8)),
  (122, (.int .u64)),
  (28, (.list I)),
  (93, (.list (.int .u8))),
  (32, tStamp),
  (115, (.list tStamp)),
  (27, tStamp),
  (110, (.list tStamp)),
  (40, tStatus),
  (38, tStatus),
  (46, tMandate),
  (44, tMandate),
  (57, tCert),
  (55, tCert),
  (63, tSignature),
  (61, tSignature),
  (131, tStep),
  (74, (.list tStep)),
  (133, tStep),
  (71, (.list tStep)),
  (30, tPiece),
  (101, (.list tPiece)),
  (49, tPiece),
  (98, (.list tPiece)),
  (117, tRenewal),
  (112, tRenewal),
  (126, .cons I (.cons I (.cons I (.cons I (.cons I .nil))))),
  (100000, .nil)]
def elTab : List (Nat × Nat) := [
  (28, 3),
  (93, 5),
  (115, 32),
  (110, 27),
  (74, 131),
  (71, 133),
  (101, 30),
  (98, 49),
  (100000, 0)]
def lkTy : List (Nat × Ty) → Nat → Ty
  | [], _ => .nil
  | p :: r, T => bif Nat.beq T p.1 then p.2 else lkTy r T
def lkEl : List (Nat × Nat) → Nat → Nat
  | [], _ => 0
  | p :: r, T => bif Nat.beq T p.1 then p.2 else lkEl r T
def tb : Tb := ⟨lkTy tyTab, lkEl elTab⟩
theorem laidOut : laidOutB Try.prog = true := by kernel_rfl
theorem follows : Try.prog.follows .mixedOrders = true := by kernel_rfl
@[go_sem] theorem ty_int : tb.ty 3 = I := by kernel_rfl
@[go_sem] theorem ok_int : TyOK Try.prog I 3 := tyB_spec (by kernel_rfl)
@[go_sem] theorem ty_bool : tb.ty 4 = .bool := by kernel_rfl
@[go_sem] theorem ok_bool : TyOK Try.prog .bool 4 := tyB_spec (by kernel_rfl)
@[go_sem] theorem ty_string : tb.ty 9 = .str := by kernel_rfl
@[go_sem] theorem ok_string : TyOK Try.prog .str 9 := tyB_spec (by kernel_rfl)
@[go_sem] theorem ty_uint8 : tb.ty 5 = (.int .u8) := by kernel_rfl
@[go_sem] theorem ok_uint8 : TyOK Try.prog (.int .u8) 5 := tyB_spec (by kernel_rfl)
@[go_sem] theorem ty_uint : tb.ty 122 = (.int .u64) := by kernel_rfl
@[go_sem] theorem ok_uint : TyOK Try.prog (.int .u64) 122 := tyB_spec (by kernel_rfl)
@[go_sem] theorem ty_s_int : tb.ty 28 = (.list I) := by kernel_rfl
@[go_sem] theorem ok_s_int : TyOK Try.prog (.list I) 28 := tyB_spec (by kernel_rfl)
@[go_sem] theorem ty_s_uint8 : tb.ty 93 = (.list (.int .u8)) := by kernel_rfl
@[go_sem] theorem ok_s_uint8 : TyOK Try.prog (.list (.int .u8)) 93 := tyB_spec (by kernel_rfl)
@[go_sem] theorem ty_implStamp : tb.ty 32 = tStamp := by kernel_rfl
@[go_sem] theorem ok_implStamp : TyOK Try.prog tStamp 32 := tyB_spec (by kernel_rfl)
@[go_sem] theorem ty_implStampS : tb.ty 115 = (.list tStamp) := by kernel_rfl
@[go_sem] theorem ok_implStampS : TyOK Try.prog (.list tStamp) 115 := tyB_spec (by kernel_rfl)
@[go_sem] theorem ty_lawsStamp : tb.ty 27 = tStamp := by kernel_rfl
@[go_sem] theorem ok_lawsStamp : TyOK Try.prog tStamp 27 := tyB_spec (by kernel_rfl)
@[go_sem] theorem ty_lawsStampS : tb.ty 110 = (.list tStamp) := by kernel_rfl
@[go_sem] theorem ok_lawsStampS : TyOK Try.prog (.list tStamp) 110 := tyB_spec (by kernel_rfl)
@[go_sem] theorem ty_implStatus : tb.ty 40 = tStatus := by kernel_rfl
@[go_sem] theorem ok_implStatus : TyOK Try.prog tStatus 40 := tyB_spec (by kernel_rfl)
@[go_sem] theorem ty_lawsStatus : tb.ty 38 = tStatus := by kernel_rfl
@[go_sem] theorem ok_lawsStatus : TyOK Try.prog tStatus 38 := tyB_spec (by kernel_rfl)
@[go_sem] theorem ty_implMandate : tb.ty 46 = tMandate := by kernel_rfl
@[go_sem] theorem ok_implMandate : TyOK Try.prog tMandate 46 := tyB_spec (by kernel_rfl)
@[go_sem] theorem ty_lawsMandate : tb.ty 44 = tMandate := by kernel_rfl
@[go_sem] theorem ok_lawsMandate : TyOK Try.prog tMandate 44 := tyB_spec (by kernel_rfl)
@[go_sem] theorem ty_implCert : tb.ty 57 = tCert := by kernel_rfl
@[go_sem] theorem ok_implCert : TyOK Try.prog tCert 57 := tyB_spec (by kernel_rfl)
@[go_sem] theorem ty_lawsCert : tb.ty 55 = tCert := by kernel_rfl
@[go_sem] theorem ok_lawsCert : TyOK Try.prog tCert 55 := tyB_spec (by kernel_rfl)
@[go_sem] theorem ty_implSignature : tb.ty 63 = tSignature := by kernel_rfl
@[go_sem] theorem ok_implSignature : TyOK Try.prog tSignature 63 := tyB_spec (by kernel_rfl)
@[go_sem] theorem ty_lawsSignature : tb.ty 61 = tSignature := by kernel_rfl
@[go_sem] theorem ok_lawsSignature : TyOK Try.prog tSignature 61 := tyB_spec (by kernel_rfl)
@[go_sem] theorem ty_implStep : tb.ty 131 = tStep := by kernel_rfl
@[go_sem] theorem ok_implStep : TyOK Try.prog tStep 131 := tyB_spec (by kernel_rfl)
@[go_sem] theorem ty_implStepS : tb.ty 74 = (.list tStep) := by kernel_rfl
@[go_sem] theorem ok_implStepS : TyOK Try.prog (.list tStep) 74 := tyB_spec (by kernel_rfl)
@[go_sem] theorem ty_lawsStep : tb.ty 133 = tStep := by kernel_rfl
@[go_sem] theorem ok_lawsStep : TyOK Try.prog tStep 133 := tyB_spec (by kernel_rfl)
@[go_sem] theorem ty_lawsStepS : tb.ty 71 = (.list tStep) := by kernel_rfl
@[go_sem] theorem ok_lawsStepS : TyOK Try.prog (.list tStep) 71 := tyB_spec (by kernel_rfl)
@[go_sem] theorem ty_implPiece : tb.ty 30 = tPiece := by kernel_rfl
@[go_sem] theorem ok_implPiece : TyOK Try.prog tPiece 30 := tyB_spec (by kernel_rfl)
@[go_sem] theorem ty_implPieceS : tb.ty 101 = (.list tPiece) := by kernel_rfl
@[go_sem] theorem ok_implPieceS : TyOK Try.prog (.list tPiece) 101 := tyB_spec (by kernel_rfl)
@[go_sem] theorem ty_lawsPiece : tb.ty 49 = tPiece := by kernel_rfl
@[go_sem] theorem ok_lawsPiece : TyOK Try.prog tPiece 49 := tyB_spec (by kernel_rfl)
@[go_sem] theorem ty_lawsPieceS : tb.ty 98 = (.list tPiece) := by kernel_rfl
@[go_sem] theorem ok_lawsPieceS : TyOK Try.prog (.list tPiece) 98 := tyB_spec (by kernel_rfl)
@[go_sem] theorem ty_implRenewal : tb.ty 117 = tRenewal := by kernel_rfl
@[go_sem] theorem ok_implRenewal : TyOK Try.prog tRenewal 117 := tyB_spec (by kernel_rfl)
@[go_sem] theorem ty_lawsRenewal : tb.ty 112 = tRenewal := by kernel_rfl
@[go_sem] theorem ok_lawsRenewal : TyOK Try.prog tRenewal 112 := tyB_spec (by kernel_rfl)
@[go_sem] theorem el_s_int : tb.el 28 = 3 := by kernel_rfl
@[go_sem] theorem eo_s_int : ElOK Try.prog 28 3 := elB_spec (by kernel_rfl)
@[go_sem] theorem el_s_uint8 : tb.el 93 = 5 := by kernel_rfl
@[go_sem] theorem eo_s_uint8 : ElOK Try.prog 93 5 := elB_spec (by kernel_rfl)
@[go_sem] theorem el_s_impl_Stamp : tb.el 115 = 32 := by kernel_rfl
@[go_sem] theorem eo_s_impl_Stamp : ElOK Try.prog 115 32 := elB_spec (by kernel_rfl)
@[go_sem] theorem el_s_laws_Stamp : tb.el 110 = 27 := by kernel_rfl
@[go_sem] theorem eo_s_laws_Stamp : ElOK Try.prog 110 27 := elB_spec (by kernel_rfl)
@[go_sem] theorem el_s_impl_Step : tb.el 74 = 131 := by kernel_rfl
@[go_sem] theorem eo_s_impl_Step : ElOK Try.prog 74 131 := elB_spec (by kernel_rfl)
@[go_sem] theorem el_s_laws_Step : tb.el 71 = 133 := by kernel_rfl
@[go_sem] theorem eo_s_laws_Step : ElOK Try.prog 71 133 := elB_spec (by kernel_rfl)
@[go_sem] theorem el_s_impl_Piece : tb.el 101 = 30 := by kernel_rfl
@[go_sem] theorem eo_s_impl_Piece : ElOK Try.prog 101 30 := elB_spec (by kernel_rfl)
@[go_sem] theorem el_s_laws_Piece : tb.el 98 = 49 := by kernel_rfl
@[go_sem] theorem eo_s_laws_Piece : ElOK Try.prog 98 49 := elB_spec (by kernel_rfl)
@[go_sem] theorem ty_a5 : tb.ty 126 = .cons I (.cons I (.cons I (.cons I (.cons I .nil)))) := by kernel_rfl
@[go_sem] theorem ok_a5 : ArrOK Try.prog 5 126 := arrB_spec (by kernel_rfl)
@[go_sem] theorem es_Stamp : EqSt Try.prog 32 := ⟨by kernel_rfl, by kernel_rfl, by kernel_rfl⟩
@[go_sem] theorem es_Status : EqSt Try.prog 40 := ⟨by kernel_rfl, by kernel_rfl, by kernel_rfl⟩
@[go_sem] theorem es_Mandate : EqSt Try.prog 46 := ⟨by kernel_rfl, by kernel_rfl, by kernel_rfl⟩
@[go_sem] theorem es_Cert : EqSt Try.prog 57 := ⟨by kernel_rfl, by kernel_rfl, by kernel_rfl⟩
@[go_sem] theorem es_Signature : EqSt Try.prog 63 := ⟨by kernel_rfl, by kernel_rfl, by kernel_rfl⟩
@[go_sem] theorem es_Step : EqSt Try.prog 131 := ⟨by kernel_rfl, by kernel_rfl, by kernel_rfl⟩
end Go.Proofs.Ytaeieogcibhhkaa
