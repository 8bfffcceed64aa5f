/- The readings of this seat's types. It proves nothing of a statement by itself. -/
import Derived.Test.YtkneckknjmahdaaAL22
import Derived.Test.YtkneckknjmahdaaRows
set_option linter.unusedSimpArgs false
set_option linter.unusedVariables false
namespace Go.Proofs.Ytkneckknjmahdaa
open Go.AL
abbrev I : Ty := .int .i64
abbrev tSpan : Ty := .cons I (.cons I .nil)
abbrev tStamp : Ty := .cons I (.cons I (.cons I (.cons I (.cons I .nil))))
abbrev tStatus : Ty := .cons I (.cons I (.cons I (.cons I (.cons I .nil))))
abbrev tMandate : Ty := .cons I (.cons I (.cons I (.cons I (.cons I (.cons I .nil)))))
abbrev tCert : Ty := .cons I (.cons I (.cons I (.cons I (.cons I (.cons I (.cons I .nil))))))
abbrev tSignature : Ty := .cons I (.cons I (.cons I (.cons I (.cons I (.cons I (.cons I (.cons I (.cons I .nil))))))))
abbrev tSuccession : Ty := .cons I (.cons I (.cons I (.cons I .nil)))
abbrev tKey : Ty := .cons I (.cons I (.cons I (.cons I (.cons I .nil))))
abbrev tAuthority : Ty := .cons I (.cons I (.cons I .nil))
abbrev tMethod : Ty := .cons I (.cons I (.cons I (.cons I .nil)))
abbrev tStep : Ty := .cons I (.cons .bool .nil)
abbrev tPiece : Ty := .cons I (.cons (.list I) (.cons I .nil))
abbrev tRenewal : Ty := .cons I (.cons I (.cons I (.cons (.list tStep) (.cons (.list tStamp) .nil))))
abbrev tStrand : Ty := .cons (.list tPiece) (.cons (.list tRenewal) .nil)
abbrev tEvidence : Ty := .cons (.list tStrand) (.cons (.list (.list tStamp)) .nil)
abbrev tFrame : Ty := .cons (.list tKey) (.cons (.list tAuthority) (.cons (.list tMethod) (.cons I (.cons I .nil))))
abbrev tDocument : Ty := .cons I (.cons (.list .str) (.cons (.list I) .nil))
abbrev tRedacted : Ty := .cons I (.cons (.list I) (.cons (.list .bool) (.cons (.list .str) (.cons (.list I) (.cons (.list (.list I)) .nil)))))
def tyTab : List (Nat × Ty) := [
  (3, I),
  (4, .bool),
  (9, .str),
  (5, (.int .u8)),
  (55, (.list I)),
  (293, (.list (.int .u8))),
  (94, (.list .str)),
  (145, (.list .bool)),
  (133, (.list (.list I))),
  (33, tSpan),
  (49, (.list tSpan)),
  (26, tSpan),
  (195, tStamp),
  (73, (.list tStamp)),
  (268, tStamp),
  (63, (.list tStamp)),
  (170, tStatus),
  (31, (.list tStatus)),
  (172, tStatus),
  (24, (.list tStatus)),
  (29, tCert),
  (23, tCert),
  (179, tSuccession),
  (44, (.list tSuccession)),
  (181, tSuccession),
  (38, (.list tSuccession)),
  (175, tKey),
  (42, (.list tKey)),
  (177, tKey),
  (37, (.list tKey)),
  (198, tAuthority),
  (70, (.list tAuthority)),
  (200, tAuthority),
  (61, (.list tAuthority)),
  (211, tMethod),
  (84, (.list tMethod)),
  (213, tMethod),
  (81, (.list tMethod)),
  (264, tStep),
  (72, (.list tStep)),
  (266, tStep),
  (62, (.list tStep)),
  (117, tPiece),
  (100, (.list tPiece)),
  (113, tPiece),
  (90, (.list tPiece)),
  (75, tRenewal),
  (101, (.list tRenewal)),
  (65, tRenewal),
  (91, (.list tRenewal)),
  (103, tStrand),
  (135, (.list tStrand)),
  (93, tStrand),
  (128, (.list tStrand)),
  (138, tEvidence),
  (131, tEvidence),
  (160, tFrame),
  (156, tFrame),
  (105, tDocument),
  (96, tDocument),
  (150, tRedacted),
  (147, tRedacted),
  (136, (.list (.list tStamp))),
  (129, (.list (.list tStamp))),
  (100000, .nil)]
def elTab : List (Nat × Nat) := [
  (55, 3),
  (293, 5),
  (94, 9),
  (145, 4),
  (133, 55),
  (49, 33),
  (73, 195),
  (63, 268),
  (31, 170),
  (24, 172),
  (44, 179),
  (38, 181),
  (42, 175),
  (37, 177),
  (70, 198),
  (61, 200),
  (84, 211),
  (81, 213),
  (72, 264),
  (62, 266),
  (100, 117),
  (90, 113),
  (101, 75),
  (91, 65),
  (135, 103),
  (128, 93),
  (136, 73),
  (129, 63),
  (100000, 0)]
def lkTy : List (Nat × Ty) → Nat → Ty
  | [], _ => .nil
  | p :: r, T => bif Nat.beq T p.1 then p.2 else lkTy r T
def lkEl : List (Nat × Nat) → Nat → Nat
  | [], _ => 0
  | p :: r, T => bif Nat.beq T p.1 then p.2 else lkEl r T
def inlTab : List Nat := [
  128,
  4294967295]
def tb : Tb := ⟨lkTy tyTab, lkEl elTab, fun f => anyL f inlTab, 0⟩
@[go_sem] theorem tb_inl (f : FuncId) : tb.inl f = anyL f inlTab := (rfl)
@[go_sem] theorem tb_off : tb.off = 0 := (rfl)
attribute [go_sem] inlTab
theorem laidOut : laidOutB Try.prog = true := by kernel_rfl
theorem follows : Try.prog.follows .mixedOrders = true := by kernel_rfl
@[go_sem] theorem ty_int : tb.ty 3 = I := by kernel_rfl
@[go_sem] theorem ok_int : TyOK Try.prog I 3 := tyB_spec (by kernel_rfl)
@[go_sem] theorem ty_bool : tb.ty 4 = .bool := by kernel_rfl
@[go_sem] theorem ok_bool : TyOK Try.prog .bool 4 := tyB_spec (by kernel_rfl)
@[go_sem] theorem ty_string : tb.ty 9 = .str := by kernel_rfl
@[go_sem] theorem ok_string : TyOK Try.prog .str 9 := tyB_spec (by kernel_rfl)
@[go_sem] theorem ty_uint8 : tb.ty 5 = (.int .u8) := by kernel_rfl
@[go_sem] theorem ok_uint8 : TyOK Try.prog (.int .u8) 5 := tyB_spec (by kernel_rfl)
@[go_sem] theorem ty_s_int : tb.ty 55 = (.list I) := by kernel_rfl
@[go_sem] theorem ok_s_int : TyOK Try.prog (.list I) 55 := tyB_spec (by kernel_rfl)
@[go_sem] theorem ty_s_uint8 : tb.ty 293 = (.list (.int .u8)) := by kernel_rfl
@[go_sem] theorem ok_s_uint8 : TyOK Try.prog (.list (.int .u8)) 293 := tyB_spec (by kernel_rfl)
@[go_sem] theorem ty_s_string : tb.ty 94 = (.list .str) := by kernel_rfl
@[go_sem] theorem ok_s_string : TyOK Try.prog (.list .str) 94 := tyB_spec (by kernel_rfl)
@[go_sem] theorem ty_s_bool : tb.ty 145 = (.list .bool) := by kernel_rfl
@[go_sem] theorem ok_s_bool : TyOK Try.prog (.list .bool) 145 := tyB_spec (by kernel_rfl)
@[go_sem] theorem ty_s_s_int : tb.ty 133 = (.list (.list I)) := by kernel_rfl
@[go_sem] theorem ok_s_s_int : TyOK Try.prog (.list (.list I)) 133 := tyB_spec (by kernel_rfl)
@[go_sem] theorem ty_implSpan : tb.ty 33 = tSpan := by kernel_rfl
@[go_sem] theorem ok_implSpan : TyOK Try.prog tSpan 33 := tyB_spec (by kernel_rfl)
@[go_sem] theorem ty_implSpanS : tb.ty 49 = (.list tSpan) := by kernel_rfl
@[go_sem] theorem ok_implSpanS : TyOK Try.prog (.list tSpan) 49 := tyB_spec (by kernel_rfl)
@[go_sem] theorem ty_lawsSpan : tb.ty 26 = tSpan := by kernel_rfl
@[go_sem] theorem ok_lawsSpan : TyOK Try.prog tSpan 26 := tyB_spec (by kernel_rfl)
@[go_sem] theorem ty_implStamp : tb.ty 195 = tStamp := by kernel_rfl
@[go_sem] theorem ok_implStamp : TyOK Try.prog tStamp 195 := tyB_spec (by kernel_rfl)
@[go_sem] theorem ty_implStampS : tb.ty 73 = (.list tStamp) := by kernel_rfl
@[go_sem] theorem ok_implStampS : TyOK Try.prog (.list tStamp) 73 := tyB_spec (by kernel_rfl)
@[go_sem] theorem ty_lawsStamp : tb.ty 268 = tStamp := by kernel_rfl
@[go_sem] theorem ok_lawsStamp : TyOK Try.prog tStamp 268 := tyB_spec (by kernel_rfl)
@[go_sem] theorem ty_lawsStampS : tb.ty 63 = (.list tStamp) := by kernel_rfl
@[go_sem] theorem ok_lawsStampS : TyOK Try.prog (.list tStamp) 63 := tyB_spec (by kernel_rfl)
@[go_sem] theorem ty_implStatus : tb.ty 170 = tStatus := by kernel_rfl
@[go_sem] theorem ok_implStatus : TyOK Try.prog tStatus 170 := tyB_spec (by kernel_rfl)
@[go_sem] theorem ty_implStatusS : tb.ty 31 = (.list tStatus) := by kernel_rfl
@[go_sem] theorem ok_implStatusS : TyOK Try.prog (.list tStatus) 31 := tyB_spec (by kernel_rfl)
@[go_sem] theorem ty_lawsStatus : tb.ty 172 = tStatus := by kernel_rfl
@[go_sem] theorem ok_lawsStatus : TyOK Try.prog tStatus 172 := tyB_spec (by kernel_rfl)
@[go_sem] theorem ty_lawsStatusS : tb.ty 24 = (.list tStatus) := by kernel_rfl
@[go_sem] theorem ok_lawsStatusS : TyOK Try.prog (.list tStatus) 24 := tyB_spec (by kernel_rfl)
@[go_sem] theorem ty_implCert : tb.ty 29 = tCert := by kernel_rfl
@[go_sem] theorem ok_implCert : TyOK Try.prog tCert 29 := tyB_spec (by kernel_rfl)
@[go_sem] theorem ty_lawsCert : tb.ty 23 = tCert := by kernel_rfl
@[go_sem] theorem ok_lawsCert : TyOK Try.prog tCert 23 := tyB_spec (by kernel_rfl)
@[go_sem] theorem ty_implSuccession : tb.ty 179 = tSuccession := by kernel_rfl
@[go_sem] theorem ok_implSuccession : TyOK Try.prog tSuccession 179 := tyB_spec (by kernel_rfl)
@[go_sem] theorem ty_implSuccessionS : tb.ty 44 = (.list tSuccession) := by kernel_rfl
@[go_sem] theorem ok_implSuccessionS : TyOK Try.prog (.list tSuccession) 44 := tyB_spec (by kernel_rfl)
@[go_sem] theorem ty_lawsSuccession : tb.ty 181 = tSuccession := by kernel_rfl
@[go_sem] theorem ok_lawsSuccession : TyOK Try.prog tSuccession 181 := tyB_spec (by kernel_rfl)
@[go_sem] theorem ty_lawsSuccessionS : tb.ty 38 = (.list tSuccession) := by kernel_rfl
@[go_sem] theorem ok_lawsSuccessionS : TyOK Try.prog (.list tSuccession) 38 := tyB_spec (by kernel_rfl)
@[go_sem] theorem ty_implKey : tb.ty 175 = tKey := by kernel_rfl
@[go_sem] theorem ok_implKey : TyOK Try.prog tKey 175 := tyB_spec (by kernel_rfl)
@[go_sem] theorem ty_implKeyS : tb.ty 42 = (.list tKey) := by kernel_rfl
@[go_sem] theorem ok_implKeyS : TyOK Try.prog (.list tKey) 42 := tyB_spec (by kernel_rfl)
@[go_sem] theorem ty_lawsKey : tb.ty 177 = tKey := by kernel_rfl
@[go_sem] theorem ok_lawsKey : TyOK Try.prog tKey 177 := tyB_spec (by kernel_rfl)
@[go_sem] theorem ty_lawsKeyS : tb.ty 37 = (.list tKey) := by kernel_rfl
@[go_sem] theorem ok_lawsKeyS : TyOK Try.prog (.list tKey) 37 := tyB_spec (by kernel_rfl)
@[go_sem] theorem ty_implAuthority : tb.ty 198 = tAuthority := by kernel_rfl
@[go_sem] theorem ok_implAuthority : TyOK Try.prog tAuthority 198 := tyB_spec (by kernel_rfl)
@[go_sem] theorem ty_implAuthorityS : tb.ty 70 = (.list tAuthority) := by kernel_rfl
@[go_sem] theorem ok_implAuthorityS : TyOK Try.prog (.list tAuthority) 70 := tyB_spec (by kernel_rfl)
@[go_sem] theorem ty_lawsAuthority : tb.ty 200 = tAuthority := by kernel_rfl
@[go_sem] theorem ok_lawsAuthority : TyOK Try.prog tAuthority 200 := tyB_spec (by kernel_rfl)
@[go_sem] theorem ty_lawsAuthorityS : tb.ty 61 = (.list tAuthority) := by kernel_rfl
@[go_sem] theorem ok_lawsAuthorityS : TyOK Try.prog (.list tAuthority) 61 := tyB_spec (by kernel_rfl)
@[go_sem] theorem ty_implMethod : tb.ty 211 = tMethod := by kernel_rfl
@[go_sem] theorem ok_implMethod : TyOK Try.prog tMethod 211 := tyB_spec (by kernel_rfl)
@[go_sem] theorem ty_implMethodS : tb.ty 84 = (.list tMethod) := by kernel_rfl
@[go_sem] theorem ok_implMethodS : TyOK Try.prog (.list tMethod) 84 := tyB_spec (by kernel_rfl)
@[go_sem] theorem ty_lawsMethod : tb.ty 213 = tMethod := by kernel_rfl
@[go_sem] theorem ok_lawsMethod : TyOK Try.prog tMethod 213 := tyB_spec (by kernel_rfl)
@[go_sem] theorem ty_lawsMethodS : tb.ty 81 = (.list tMethod) := by kernel_rfl
@[go_sem] theorem ok_lawsMethodS : TyOK Try.prog (.list tMethod) 81 := tyB_spec (by kernel_rfl)
@[go_sem] theorem ty_implStep : tb.ty 264 = tStep := by kernel_rfl
@[go_sem] theorem ok_implStep : TyOK Try.prog tStep 264 := tyB_spec (by kernel_rfl)
@[go_sem] theorem ty_implStepS : tb.ty 72 = (.list tStep) := by kernel_rfl
@[go_sem] theorem ok_implStepS : TyOK Try.prog (.list tStep) 72 := tyB_spec (by kernel_rfl)
@[go_sem] theorem ty_lawsStep : tb.ty 266 = tStep := by kernel_rfl
@[go_sem] theorem ok_lawsStep : TyOK Try.prog tStep 266 := tyB_spec (by kernel_rfl)
@[go_sem] theorem ty_lawsStepS : tb.ty 62 = (.list tStep) := by kernel_rfl
@[go_sem] theorem ok_lawsStepS : TyOK Try.prog (.list tStep) 62 := tyB_spec (by kernel_rfl)
@[go_sem] theorem ty_implPiece : tb.ty 117 = tPiece := by kernel_rfl
@[go_sem] theorem ok_implPiece : TyOK Try.prog tPiece 117 := tyB_spec (by kernel_rfl)
@[go_sem] theorem ty_implPieceS : tb.ty 100 = (.list tPiece) := by kernel_rfl
@[go_sem] theorem ok_implPieceS : TyOK Try.prog (.list tPiece) 100 := tyB_spec (by kernel_rfl)
@[go_sem] theorem ty_lawsPiece : tb.ty 113 = tPiece := by kernel_rfl
@[go_sem] theorem ok_lawsPiece : TyOK Try.prog tPiece 113 := tyB_spec (by kernel_rfl)
@[go_sem] theorem ty_lawsPieceS : tb.ty 90 = (.list tPiece) := by kernel_rfl
@[go_sem] theorem ok_lawsPieceS : TyOK Try.prog (.list tPiece) 90 := tyB_spec (by kernel_rfl)
@[go_sem] theorem ty_implRenewal : tb.ty 75 = tRenewal := by kernel_rfl
@[go_sem] theorem ok_implRenewal : TyOK Try.prog tRenewal 75 := tyB_spec (by kernel_rfl)
@[go_sem] theorem ty_implRenewalS : tb.ty 101 = (.list tRenewal) := by kernel_rfl
@[go_sem] theorem ok_implRenewalS : TyOK Try.prog (.list tRenewal) 101 := tyB_spec (by kernel_rfl)
@[go_sem] theorem ty_lawsRenewal : tb.ty 65 = tRenewal := by kernel_rfl
@[go_sem] theorem ok_lawsRenewal : TyOK Try.prog tRenewal 65 := tyB_spec (by kernel_rfl)
@[go_sem] theorem ty_lawsRenewalS : tb.ty 91 = (.list tRenewal) := by kernel_rfl
@[go_sem] theorem ok_lawsRenewalS : TyOK Try.prog (.list tRenewal) 91 := tyB_spec (by kernel_rfl)
@[go_sem] theorem ty_implStrand : tb.ty 103 = tStrand := by kernel_rfl
@[go_sem] theorem ok_implStrand : TyOK Try.prog tStrand 103 := tyB_spec (by kernel_rfl)
@[go_sem] theorem ty_implStrandS : tb.ty 135 = (.list tStrand) := by kernel_rfl
@[go_sem] theorem ok_implStrandS : TyOK Try.prog (.list tStrand) 135 := tyB_spec (by kernel_rfl)
@[go_sem] theorem ty_lawsStrand : tb.ty 93 = tStrand := by kernel_rfl
@[go_sem] theorem ok_lawsStrand : TyOK Try.prog tStrand 93 := tyB_spec (by kernel_rfl)
@[go_sem] theorem ty_lawsStrandS : tb.ty 128 = (.list tStrand) := by kernel_rfl
@[go_sem] theorem ok_lawsStrandS : TyOK Try.prog (.list tStrand) 128 := tyB_spec (by kernel_rfl)
@[go_sem] theorem ty_implEvidence : tb.ty 138 = tEvidence := by kernel_rfl
@[go_sem] theorem ok_implEvidence : TyOK Try.prog tEvidence 138 := tyB_spec (by kernel_rfl)
@[go_sem] theorem ty_lawsEvidence : tb.ty 131 = tEvidence := by kernel_rfl
@[go_sem] theorem ok_lawsEvidence : TyOK Try.prog tEvidence 131 := tyB_spec (by kernel_rfl)
@[go_sem] theorem ty_implFrame : tb.ty 160 = tFrame := by kernel_rfl
@[go_sem] theorem ok_implFrame : TyOK Try.prog tFrame 160 := tyB_spec (by kernel_rfl)
@[go_sem] theorem ty_lawsFrame : tb.ty 156 = tFrame := by kernel_rfl
@[go_sem] theorem ok_lawsFrame : TyOK Try.prog tFrame 156 := tyB_spec (by kernel_rfl)
@[go_sem] theorem ty_implDocument : tb.ty 105 = tDocument := by kernel_rfl
@[go_sem] theorem ok_implDocument : TyOK Try.prog tDocument 105 := tyB_spec (by kernel_rfl)
@[go_sem] theorem ty_lawsDocument : tb.ty 96 = tDocument := by kernel_rfl
@[go_sem] theorem ok_lawsDocument : TyOK Try.prog tDocument 96 := tyB_spec (by kernel_rfl)
@[go_sem] theorem ty_implRedacted : tb.ty 150 = tRedacted := by kernel_rfl
@[go_sem] theorem ok_implRedacted : TyOK Try.prog tRedacted 150 := tyB_spec (by kernel_rfl)
@[go_sem] theorem ty_lawsRedacted : tb.ty 147 = tRedacted := by kernel_rfl
@[go_sem] theorem ok_lawsRedacted : TyOK Try.prog tRedacted 147 := tyB_spec (by kernel_rfl)
@[go_sem] theorem ty_implStampSS : tb.ty 136 = (.list (.list tStamp)) := by kernel_rfl
@[go_sem] theorem ok_implStampSS : TyOK Try.prog (.list (.list tStamp)) 136 := tyB_spec (by kernel_rfl)
@[go_sem] theorem ty_lawsStampSS : tb.ty 129 = (.list (.list tStamp)) := by kernel_rfl
@[go_sem] theorem ok_lawsStampSS : TyOK Try.prog (.list (.list tStamp)) 129 := tyB_spec (by kernel_rfl)
@[go_sem] theorem el_s_int : tb.el 55 = 3 := by kernel_rfl
@[go_sem] theorem eo_s_int : ElOK Try.prog 55 3 := elB_spec (by kernel_rfl)
@[go_sem] theorem el_s_uint8 : tb.el 293 = 5 := by kernel_rfl
@[go_sem] theorem eo_s_uint8 : ElOK Try.prog 293 5 := elB_spec (by kernel_rfl)
@[go_sem] theorem el_s_string : tb.el 94 = 9 := by kernel_rfl
@[go_sem] theorem eo_s_string : ElOK Try.prog 94 9 := elB_spec (by kernel_rfl)
@[go_sem] theorem el_s_bool : tb.el 145 = 4 := by kernel_rfl
@[go_sem] theorem eo_s_bool : ElOK Try.prog 145 4 := elB_spec (by kernel_rfl)
@[go_sem] theorem el_s_s_int : tb.el 133 = 55 := by kernel_rfl
@[go_sem] theorem eo_s_s_int : ElOK Try.prog 133 55 := elB_spec (by kernel_rfl)
@[go_sem] theorem el_s_impl_Span : tb.el 49 = 33 := by kernel_rfl
@[go_sem] theorem eo_s_impl_Span : ElOK Try.prog 49 33 := elB_spec (by kernel_rfl)
@[go_sem] theorem el_s_impl_Stamp : tb.el 73 = 195 := by kernel_rfl
@[go_sem] theorem eo_s_impl_Stamp : ElOK Try.prog 73 195 := elB_spec (by kernel_rfl)
@[go_sem] theorem el_s_laws_Stamp : tb.el 63 = 268 := by kernel_rfl
@[go_sem] theorem eo_s_laws_Stamp : ElOK Try.prog 63 268 := elB_spec (by kernel_rfl)
@[go_sem] theorem el_s_impl_Status : tb.el 31 = 170 := by kernel_rfl
@[go_sem] theorem eo_s_impl_Status : ElOK Try.prog 31 170 := elB_spec (by kernel_rfl)
@[go_sem] theorem el_s_laws_Status : tb.el 24 = 172 := by kernel_rfl
@[go_sem] theorem eo_s_laws_Status : ElOK Try.prog 24 172 := elB_spec (by kernel_rfl)
@[go_sem] theorem el_s_impl_Succession : tb.el 44 = 179 := by kernel_rfl
@[go_sem] theorem eo_s_impl_Succession : ElOK Try.prog 44 179 := elB_spec (by kernel_rfl)
@[go_sem] theorem el_s_laws_Succession : tb.el 38 = 181 := by kernel_rfl
@[go_sem] theorem eo_s_laws_Succession : ElOK Try.prog 38 181 := elB_spec (by kernel_rfl)
@[go_sem] theorem el_s_impl_Key : tb.el 42 = 175 := by kernel_rfl
@[go_sem] theorem eo_s_impl_Key : ElOK Try.prog 42 175 := elB_spec (by kernel_rfl)
@[go_sem] theorem el_s_laws_Key : tb.el 37 = 177 := by kernel_rfl
@[go_sem] theorem eo_s_laws_Key : ElOK Try.prog 37 177 := elB_spec (by kernel_rfl)
@[go_sem] theorem el_s_impl_Authority : tb.el 70 = 198 := by kernel_rfl
@[go_sem] theorem eo_s_impl_Authority : ElOK Try.prog 70 198 := elB_spec (by kernel_rfl)
@[go_sem] theorem el_s_laws_Authority : tb.el 61 = 200 := by kernel_rfl
@[go_sem] theorem eo_s_laws_Authority : ElOK Try.prog 61 200 := elB_spec (by kernel_rfl)
@[go_sem] theorem el_s_impl_Method : tb.el 84 = 211 := by kernel_rfl
@[go_sem] theorem eo_s_impl_Method : ElOK Try.prog 84 211 := elB_spec (by kernel_rfl)
@[go_sem] theorem el_s_laws_Method : tb.el 81 = 213 := by kernel_rfl
@[go_sem] theorem eo_s_laws_Method : ElOK Try.prog 81 213 := elB_spec (by kernel_rfl)
@[go_sem] theorem el_s_impl_Step : tb.el 72 = 264 := by kernel_rfl
@[go_sem] theorem eo_s_impl_Step : ElOK Try.prog 72 264 := elB_spec (by kernel_rfl)
@[go_sem] theorem el_s_laws_Step : tb.el 62 = 266 := by kernel_rfl
@[go_sem] theorem eo_s_laws_Step : ElOK Try.prog 62 266 := elB_spec (by kernel_rfl)
@[go_sem] theorem el_s_impl_Piece : tb.el 100 = 117 := by kernel_rfl
@[go_sem] theorem eo_s_impl_Piece : ElOK Try.prog 100 117 := elB_spec (by kernel_rfl)
@[go_sem] theorem el_s_laws_Piece : tb.el 90 = 113 := by kernel_rfl
@[go_sem] theorem eo_s_laws_Piece : ElOK Try.prog 90 113 := elB_spec (by kernel_rfl)
@[go_sem] theorem el_s_impl_Renewal : tb.el 101 = 75 := by kernel_rfl
@[go_sem] theorem eo_s_impl_Renewal : ElOK Try.prog 101 75 := elB_spec (by kernel_rfl)
@[go_sem] theorem el_s_laws_Renewal : tb.el 91 = 65 := by kernel_rfl
@[go_sem] theorem eo_s_laws_Renewal : ElOK Try.prog 91 65 := elB_spec (by kernel_rfl)
@[go_sem] theorem el_s_impl_Strand : tb.el 135 = 103 := by kernel_rfl
@[go_sem] theorem eo_s_impl_Strand : ElOK Try.prog 135 103 := elB_spec (by kernel_rfl)
@[go_sem] theorem el_s_laws_Strand : tb.el 128 = 93 := by kernel_rfl
@[go_sem] theorem eo_s_laws_Strand : ElOK Try.prog 128 93 := elB_spec (by kernel_rfl)
@[go_sem] theorem el_s_s_impl_Stamp : tb.el 136 = 73 := by kernel_rfl
@[go_sem] theorem eo_s_s_impl_Stamp : ElOK Try.prog 136 73 := elB_spec (by kernel_rfl)
@[go_sem] theorem el_s_s_laws_Stamp : tb.el 129 = 63 := by kernel_rfl
@[go_sem] theorem eo_s_s_laws_Stamp : ElOK Try.prog 129 63 := elB_spec (by kernel_rfl)
@[go_sem] theorem es_Span : EqSt Try.prog 33 := ⟨by kernel_rfl, by kernel_rfl, by kernel_rfl⟩
@[go_sem] theorem es_Stamp : EqSt Try.prog 195 := ⟨by kernel_rfl, by kernel_rfl, by kernel_rfl⟩
@[go_sem] theorem es_Status : EqSt Try.prog 170 := ⟨by kernel_rfl, by kernel_rfl, by kernel_rfl⟩
@[go_sem] theorem es_Cert : EqSt Try.prog 29 := ⟨by kernel_rfl, by kernel_rfl, by kernel_rfl⟩
@[go_sem] theorem es_Succession : EqSt Try.prog 179 := ⟨by kernel_rfl, by kernel_rfl, by kernel_rfl⟩
@[go_sem] theorem es_Step : EqSt Try.prog 264 := ⟨by kernel_rfl, by kernel_rfl, by kernel_rfl⟩
end Go.Proofs.Ytkneckknjmahdaa
