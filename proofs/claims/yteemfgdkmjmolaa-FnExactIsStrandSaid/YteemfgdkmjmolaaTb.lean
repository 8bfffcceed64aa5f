/- The readings of this seat's types. It proves nothing of a statement by itself. -/
import Derived.Test.YteemfgdkmjmolaaAL22
import Derived.Test.YteemfgdkmjmolaaRows
set_option linter.unusedSimpArgs false
set_option linter.unusedVariables false
namespace Go.Proofs.Yteemfgdkmjmolaa
open Go.AL
abbrev I : Ty := .int .i64
abbrev tSpan : Ty := .cons I (.cons I .nil)
abbrev tStamp : Ty := .cons I (.cons I (.cons I (.cons I (.cons I .nil))))
abbrev tStatus : Ty := .cons I (.cons I (.cons I (.cons I (.cons I .nil))))
abbrev tMandate : Ty := .cons I (.cons I (.cons I (.cons I (.cons I (.cons I .nil)))))
abbrev tCert : Ty := .cons I (.cons I (.cons I (.cons I (.cons I (.cons I (.cons I .nil))))))
abbrev tSignature : Ty := .cons I (.cons I (.cons I (.cons I (.cons I (.cons I (.cons I (.cons I (.cons I .nil))))))))
abbrev tSuccession : Ty := .cons I (.cons I (.cons I (.cons I .nil)))
abbrev tKey : Ty := .cons I (.cons I (.cons I (.cons I (.cons I .nil))))
abbrev tAuthority : Ty := .cons I (.cons I (.cons I .nil))
abbrev tMethod : Ty := .cons I (.cons I (.cons I (.cons I .nil)))
abbrev tStep : Ty := .cons I (.cons .bool .nil)
abbrev tPiece : Ty := .cons I (.cons (.list I) (.cons I .nil))
abbrev tRenewal : Ty := .cons I (.cons I (.cons I (.cons (.list tStep) (.cons (.list tStamp) .nil))))
abbrev tStrand : Ty := .cons (.list tPiece) (.cons (.list tRenewal) .nil)
abbrev tEvidence : Ty := .cons (.list tStrand) (.cons (.list (.list tStamp)) .nil)
abbrev tFrame : Ty := .cons (.list tKey) (.cons (.list tAuthority) (.cons (.list tMethod) (.cons I (.cons I .nil))))
abbrev tDocument : Ty := .cons I (.cons (.list .str) (.cons (.list I) .nil))
abbrev tRedacted : Ty := .cons I (.cons (.list I) (.cons (.list .bool) (.cons (.list .str) (.cons (.list I) (.cons (.list (.list I)) .nil)))))
def tyTab : List (Nat × Ty) := [
  (3, I),
  (4, .bool),
  (9, .str),
  (5, (.int .u8)),
  (68, (.list I)),
  (33, tSpan),
  (62, (.list tSpan)),
  (26, tSpan),
  (171, tStamp),
  (105, (.list tStamp)),
  (244, tStamp),
  (96, (.list tStamp)),
  (140, tStatus),
  (31, (.list tStatus)),
  (142, tStatus),
  (24, (.list tStatus)),
  (179, tMandate),
  (29, tCert),
  (23, tCert),
  (175, tSignature),
  (154, tSuccession),
  (57, (.list tSuccession)),
  (156, tSuccession),
  (52, (.list tSuccession)),
  (150, tKey),
  (44, (.list tKey)),
  (152, tKey),
  (37, (.list tKey)),
  (196, tAuthority),
  (45, (.list tAuthority)),
  (198, tAuthority),
  (38, (.list tAuthority)),
  (212, tMethod),
  (46, (.list tMethod)),
  (214, tMethod),
  (39, (.list tMethod)),
  (240, tStep),
  (104, (.list tStep)),
  (242, tStep),
  (95, (.list tStep)),
  (73, tPiece),
  (88, (.list tPiece)),
  (70, tPiece),
  (82, (.list tPiece)),
  (107, tRenewal),
  (89, (.list tRenewal)),
  (98, tRenewal),
  (83, (.list tRenewal)),
  (91, tStrand),
  (132, (.list tStrand)),
  (85, tStrand),
  (126, (.list tStrand)),
  (135, tEvidence),
  (129, tEvidence),
  (48, tFrame),
  (41, tFrame),
  (133, (.list (.list tStamp))),
  (127, (.list (.list tStamp))),
  (232, .cons I (.cons I (.cons I (.cons I (.cons I .nil))))),
  (100000, .nil)]
def elTab : List (Nat × Nat) := [
  (68, 3),
  (62, 33),
  (105, 171),
  (96, 244),
  (31, 140),
  (24, 142),
  (57, 154),
  (52, 156),
  (44, 150),
  (37, 152),
  (45, 196),
  (38, 198),
  (46, 212),
  (39, 214),
  (104, 240),
  (95, 242),
  (88, 73),
  (82, 70),
  (89, 107),
  (83, 98),
  (132, 91),
  (126, 85),
  (133, 105),
  (127, 96),
  (100000, 0)]
def lkTy : List (Nat × Ty) → Nat → Ty
  | [], _ => .nil
  | p :: r, T => bif Nat.beq T p.1 then p.2 else lkTy r T
def lkEl : List (Nat × Nat) → Nat → Nat
  | [], _ => 0
  | p :: r, T => bif Nat.beq T p.1 then p.2 else lkEl r T
def tb : Tb := ⟨lkTy tyTab, lkEl elTab⟩
theorem laidOut : laidOutB Try.prog = true := by kernel_rfl
theorem follows : Try.prog.follows .mixedOrders = true := by kernel_rfl
@[go_sem] theorem ty_int : tb.ty 3 = I := by kernel_rfl
@[go_sem] theorem ok_int : TyOK Try.prog I 3 := tyB_spec (by kernel_rfl)
@[go_sem] theorem ty_bool : tb.ty 4 = .bool := by kernel_rfl
@[go_sem] theorem ok_bool : TyOK Try.prog .bool 4 := tyB_spec (by kernel_rfl)
@[go_sem] theorem ty_string : tb.ty 9 = .str := by kernel_rfl
@[go_sem] theorem ok_string : TyOK Try.prog .str 9 := tyB_spec (by kernel_rfl)
@[go_sem] theorem ty_uint8 : tb.ty 5 = (.int .u8) := by kernel_rfl
@[go_sem] theorem ok_uint8 : TyOK Try.prog (.int .u8) 5 := tyB_spec (by kernel_rfl)
@[go_sem] theorem ty_s_int : tb.ty 68 = (.list I) := by kernel_rfl
@[go_sem] theorem ok_s_int : TyOK Try.prog (.list I) 68 := tyB_spec (by kernel_rfl)
@[go_sem] theorem ty_implSpan : tb.ty 33 = tSpan := by kernel_rfl
@[go_sem] theorem ok_implSpan : TyOK Try.prog tSpan 33 := tyB_spec (by kernel_rfl)
@[go_sem] theorem ty_implSpanS : tb.ty 62 = (.list tSpan) := by kernel_rfl
@[go_sem] theorem ok_implSpanS : TyOK Try.prog (.list tSpan) 62 := tyB_spec (by kernel_rfl)
@[go_sem] theorem ty_lawsSpan : tb.ty 26 = tSpan := by kernel_rfl
@[go_sem] theorem ok_lawsSpan : TyOK Try.prog tSpan 26 := tyB_spec (by kernel_rfl)
@[go_sem] theorem ty_implStamp : tb.ty 171 = tStamp := by kernel_rfl
@[go_sem] theorem ok_implStamp : TyOK Try.prog tStamp 171 := tyB_spec (by kernel_rfl)
@[go_sem] theorem ty_implStampS : tb.ty 105 = (.list tStamp) := by kernel_rfl
@[go_sem] theorem ok_implStampS : TyOK Try.prog (.list tStamp) 105 := tyB_spec (by kernel_rfl)
@[go_sem] theorem ty_lawsStamp : tb.ty 244 = tStamp := by kernel_rfl
@[go_sem] theorem ok_lawsStamp : TyOK Try.prog tStamp 244 := tyB_spec (by kernel_rfl)
@[go_sem] theorem ty_lawsStampS : tb.ty 96 = (.list tStamp) := by kernel_rfl
@[go_sem] theorem ok_lawsStampS : TyOK Try.prog (.list tStamp) 96 := tyB_spec (by kernel_rfl)
@[go_sem] theorem ty_implStatus : tb.ty 140 = tStatus := by kernel_rfl
@[go_sem] theorem ok_implStatus : TyOK Try.prog tStatus 140 := tyB_spec (by kernel_rfl)
@[go_sem] theorem ty_implStatusS : tb.ty 31 = (.list tStatus) := by kernel_rfl
@[go_sem] theorem ok_implStatusS : TyOK Try.prog (.list tStatus) 31 := tyB_spec (by kernel_rfl)
@[go_sem] theorem ty_lawsStatus : tb.ty 142 = tStatus := by kernel_rfl
@[go_sem] theorem ok_lawsStatus : TyOK Try.prog tStatus 142 := tyB_spec (by kernel_rfl)
@[go_sem] theorem ty_lawsStatusS : tb.ty 24 = (.list tStatus) := by kernel_rfl
@[go_sem] theorem ok_lawsStatusS : TyOK Try.prog (.list tStatus) 24 := tyB_spec (by kernel_rfl)
@[go_sem] theorem ty_implMandate : tb.ty 179 = tMandate := by kernel_rfl
@[go_sem] theorem ok_implMandate : TyOK Try.prog tMandate 179 := tyB_spec (by kernel_rfl)
@[go_sem] theorem ty_implCert : tb.ty 29 = tCert := by kernel_rfl
@[go_sem] theorem ok_implCert : TyOK Try.prog tCert 29 := tyB_spec (by kernel_rfl)
@[go_sem] theorem ty_lawsCert : tb.ty 23 = tCert := by kernel_rfl
@[go_sem] theorem ok_lawsCert : TyOK Try.prog tCert 23 := tyB_spec (by kernel_rfl)
@[go_sem] theorem ty_implSignature : tb.ty 175 = tSignature := by kernel_rfl
@[go_sem] theorem ok_implSignature : TyOK Try.prog tSignature 175 := tyB_spec (by kernel_rfl)
@[go_sem] theorem ty_implSuccession : tb.ty 154 = tSuccession := by kernel_rfl
@[go_sem] theorem ok_implSuccession : TyOK Try.prog tSuccession 154 := tyB_spec (by kernel_rfl)
@[go_sem] theorem ty_implSuccessionS : tb.ty 57 = (.list tSuccession) := by kernel_rfl
@[go_sem] theorem ok_implSuccessionS : TyOK Try.prog (.list tSuccession) 57 := tyB_spec (by kernel_rfl)
@[go_sem] theorem ty_lawsSuccession : tb.ty 156 = tSuccession := by kernel_rfl
@[go_sem] theorem ok_lawsSuccession : TyOK Try.prog tSuccession 156 := tyB_spec (by kernel_rfl)
@[go_sem] theorem ty_lawsSuccessionS : tb.ty 52 = (.list tSuccession) := by kernel_rfl
@[go_sem] theorem ok_lawsSuccessionS : TyOK Try.prog (.list tSuccession) 52 := tyB_spec (by kernel_rfl)
@[go_sem] theorem ty_implKey : tb.ty 150 = tKey := by kernel_rfl
@[go_sem] theorem ok_implKey : TyOK Try.prog tKey 150 := tyB_spec (by kernel_rfl)
@[go_sem] theorem ty_implKeyS : tb.ty 44 = (.list tKey) := by kernel_rfl
@[go_sem] theorem ok_implKeyS : TyOK Try.prog (.list tKey) 44 := tyB_spec (by kernel_rfl)
@[go_sem] theorem ty_lawsKey : tb.ty 152 = tKey := by kernel_rfl
@[go_sem] theorem ok_lawsKey : TyOK Try.prog tKey 152 := tyB_spec (by kernel_rfl)
@[go_sem] theorem ty_lawsKeyS : tb.ty 37 = (.list tKey) := by kernel_rfl
@[go_sem] theorem ok_lawsKeyS : TyOK Try.prog (.list tKey) 37 := tyB_spec (by kernel_rfl)
@[go_sem] theorem ty_implAuthority : tb.ty 196 = tAuthority := by kernel_rfl
@[go_sem] theorem ok_implAuthority : TyOK Try.prog tAuthority 196 := tyB_spec (by kernel_rfl)
@[go_sem] theorem ty_implAuthorityS : tb.ty 45 = (.list tAuthority) := by kernel_rfl
@[go_sem] theorem ok_implAuthorityS : TyOK Try.prog (.list tAuthority) 45 := tyB_spec (by kernel_rfl)
@[go_sem] theorem ty_lawsAuthority : tb.ty 198 = tAuthority := by kernel_rfl
@[go_sem] theorem ok_lawsAuthority : TyOK Try.prog tAuthority 198 := tyB_spec (by kernel_rfl)
@[go_sem] theorem ty_lawsAuthorityS : tb.ty 38 = (.list tAuthority) := by kernel_rfl
@[go_sem] theorem ok_lawsAuthorityS : TyOK Try.prog (.list tAuthority) 38 := tyB_spec (by kernel_rfl)
@[go_sem] theorem ty_implMethod : tb.ty 212 = tMethod := by kernel_rfl
@[go_sem] theorem ok_implMethod : TyOK Try.prog tMethod 212 := tyB_spec (by kernel_rfl)
@[go_sem] theorem ty_implMethodS : tb.ty 46 = (.list tMethod) := by kernel_rfl
@[go_sem] theorem ok_implMethodS : TyOK Try.prog (.list tMethod) 46 := tyB_spec (by kernel_rfl)
@[go_sem] theorem ty_lawsMethod : tb.ty 214 = tMethod := by kernel_rfl
@[go_sem] theorem ok_lawsMethod : TyOK Try.prog tMethod 214 := tyB_spec (by kernel_rfl)
@[go_sem] theorem ty_lawsMethodS : tb.ty 39 = (.list tMethod) := by kernel_rfl
@[go_sem] theorem ok_lawsMethodS : TyOK Try.prog (.list tMethod) 39 := tyB_spec (by kernel_rfl)
@[go_sem] theorem ty_implStep : tb.ty 240 = tStep := by kernel_rfl
@[go_sem] theorem ok_implStep : TyOK Try.prog tStep 240 := tyB_spec (by kernel_rfl)
@[go_sem] theorem ty_implStepS : tb.ty 104 = (.list tStep) := by kernel_rfl
@[go_sem] theorem ok_implStepS : TyOK Try.prog (.list tStep) 104 := tyB_spec (by kernel_rfl)
@[go_sem] theorem ty_lawsStep : tb.ty 242 = tStep := by kernel_rfl
@[go_sem] theorem ok_lawsStep : TyOK Try.prog tStep 242 := tyB_spec (by kernel_rfl)
@[go_sem] theorem ty_lawsStepS : tb.ty 95 = (.list tStep) := by kernel_rfl
@[go_sem] theorem ok_lawsStepS : TyOK Try.prog (.list tStep) 95 := tyB_spec (by kernel_rfl)
@[go_sem] theorem ty_implPiece : tb.ty 73 = tPiece := by kernel_rfl
@[go_sem] theorem ok_implPiece : TyOK Try.prog tPiece 73 := tyB_spec (by kernel_rfl)
@[go_sem] theorem ty_implPieceS : tb.ty 88 = (.list tPiece) := by kernel_rfl
@[go_sem] theorem ok_implPieceS : TyOK Try.prog (.list tPiece) 88 := tyB_spec (by kernel_rfl)
@[go_sem] theorem ty_lawsPiece : tb.ty 70 = tPiece := by kernel_rfl
@[go_sem] theorem ok_lawsPiece : TyOK Try.prog tPiece 70 := tyB_spec (by kernel_rfl)
@[go_sem] theorem ty_lawsPieceS : tb.ty 82 = (.list tPiece) := by kernel_rfl
@[go_sem] theorem ok_lawsPieceS : TyOK Try.prog (.list tPiece) 82 := tyB_spec (by kernel_rfl)
@[go_sem] theorem ty_implRenewal : tb.ty 107 = tRenewal := by kernel_rfl
@[go_sem] theorem ok_implRenewal : TyOK Try.prog tRenewal 107 := tyB_spec (by kernel_rfl)
@[go_sem] theorem ty_implRenewalS : tb.ty 89 = (.list tRenewal) := by kernel_rfl
@[go_sem] theorem ok_implRenewalS : TyOK Try.prog (.list tRenewal) 89 := tyB_spec (by kernel_rfl)
@[go_sem] theorem ty_lawsRenewal : tb.ty 98 = tRenewal := by kernel_rfl
@[go_sem] theorem ok_lawsRenewal : TyOK Try.prog tRenewal 98 := tyB_spec (by kernel_rfl)
@[go_sem] theorem ty_lawsRenewalS : tb.ty 83 = (.list tRenewal) := by kernel_rfl
@[go_sem] theorem ok_lawsRenewalS : TyOK Try.prog (.list tRenewal) 83 := tyB_spec (by kernel_rfl)
@[go_sem] theorem ty_implStrand : tb.ty 91 = tStrand := by kernel_rfl
@[go_sem] theorem ok_implStrand : TyOK Try.prog tStrand 91 := tyB_spec (by kernel_rfl)
@[go_sem] theorem ty_implStrandS : tb.ty 132 = (.list tStrand) := by kernel_rfl
@[go_sem] theorem ok_implStrandS : TyOK Try.prog (.list tStrand) 132 := tyB_spec (by kernel_rfl)
@[go_sem] theorem ty_lawsStrand : tb.ty 85 = tStrand := by kernel_rfl
@[go_sem] theorem ok_lawsStrand : TyOK Try.prog tStrand 85 := tyB_spec (by kernel_rfl)
@[go_sem] theorem ty_lawsStrandS : tb.ty 126 = (.list tStrand) := by kernel_rfl
@[go_sem] theorem ok_lawsStrandS : TyOK Try.prog (.list tStrand) 126 := tyB_spec (by kernel_rfl)
@[go_sem] theorem ty_implEvidence : tb.ty 135 = tEvidence := by kernel_rfl
@[go_sem] theorem ok_implEvidence : TyOK Try.prog tEvidence 135 := tyB_spec (by kernel_rfl)
@[go_sem] theorem ty_lawsEvidence : tb.ty 129 = tEvidence := by kernel_rfl
@[go_sem] theorem ok_lawsEvidence : TyOK Try.prog tEvidence 129 := tyB_spec (by kernel_rfl)
@[go_sem] theorem ty_implFrame : tb.ty 48 = tFrame := by kernel_rfl
@[go_sem] theorem ok_implFrame : TyOK Try.prog tFrame 48 := tyB_spec (by kernel_rfl)
@[go_sem] theorem ty_lawsFrame : tb.ty 41 = tFrame := by kernel_rfl
@[go_sem] theorem ok_lawsFrame : TyOK Try.prog tFrame 41 := tyB_spec (by kernel_rfl)
@[go_sem] theorem ty_implStampSS : tb.ty 133 = (.list (.list tStamp)) := by kernel_rfl
@[go_sem] theorem ok_implStampSS : TyOK Try.prog (.list (.list tStamp)) 133 := tyB_spec (by kernel_rfl)
@[go_sem] theorem ty_lawsStampSS : tb.ty 127 = (.list (.list tStamp)) := by kernel_rfl
@[go_sem] theorem ok_lawsStampSS : TyOK Try.prog (.list (.list tStamp)) 127 := tyB_spec (by kernel_rfl)
@[go_sem] theorem el_s_int : tb.el 68 = 3 := by kernel_rfl
@[go_sem] theorem eo_s_int : ElOK Try.prog 68 3 := elB_spec (by kernel_rfl)
@[go_sem] theorem el_s_impl_Span : tb.el 62 = 33 := by kernel_rfl
@[go_sem] theorem eo_s_impl_Span : ElOK Try.prog 62 33 := elB_spec (by kernel_rfl)
@[go_sem] theorem el_s_impl_Stamp : tb.el 105 = 171 := by kernel_rfl
@[go_sem] theorem eo_s_impl_Stamp : ElOK Try.prog 105 171 := elB_spec (by kernel_rfl)
@[go_sem] theorem el_s_laws_Stamp : tb.el 96 = 244 := by kernel_rfl
@[go_sem] theorem eo_s_laws_Stamp : ElOK Try.prog 96 244 := elB_spec (by kernel_rfl)
@[go_sem] theorem el_s_impl_Status : tb.el 31 = 140 := by kernel_rfl
@[go_sem] theorem eo_s_impl_Status : ElOK Try.prog 31 140 := elB_spec (by kernel_rfl)
@[go_sem] theorem el_s_laws_Status : tb.el 24 = 142 := by kernel_rfl
@[go_sem] theorem eo_s_laws_Status : ElOK Try.prog 24 142 := elB_spec (by kernel_rfl)
@[go_sem] theorem el_s_impl_Succession : tb.el 57 = 154 := by kernel_rfl
@[go_sem] theorem eo_s_impl_Succession : ElOK Try.prog 57 154 := elB_spec (by kernel_rfl)
@[go_sem] theorem el_s_laws_Succession : tb.el 52 = 156 := by kernel_rfl
@[go_sem] theorem eo_s_laws_Succession : ElOK Try.prog 52 156 := elB_spec (by kernel_rfl)
@[go_sem] theorem el_s_impl_Key : tb.el 44 = 150 := by kernel_rfl
@[go_sem] theorem eo_s_impl_Key : ElOK Try.prog 44 150 := elB_spec (by kernel_rfl)
@[go_sem] theorem el_s_laws_Key : tb.el 37 = 152 := by kernel_rfl
@[go_sem] theorem eo_s_laws_Key : ElOK Try.prog 37 152 := elB_spec (by kernel_rfl)
@[go_sem] theorem el_s_impl_Authority : tb.el 45 = 196 := by kernel_rfl
@[go_sem] theorem eo_s_impl_Authority : ElOK Try.prog 45 196 := elB_spec (by kernel_rfl)
@[go_sem] theorem el_s_laws_Authority : tb.el 38 = 198 := by kernel_rfl
@[go_sem] theorem eo_s_laws_Authority : ElOK Try.prog 38 198 := elB_spec (by kernel_rfl)
@[go_sem] theorem el_s_impl_Method : tb.el 46 = 212 := by kernel_rfl
@[go_sem] theorem eo_s_impl_Method : ElOK Try.prog 46 212 := elB_spec (by kernel_rfl)
@[go_sem] theorem el_s_laws_Method : tb.el 39 = 214 := by kernel_rfl
@[go_sem] theorem eo_s_laws_Method : ElOK Try.prog 39 214 := elB_spec (by kernel_rfl)
@[go_sem] theorem el_s_impl_Step : tb.el 104 = 240 := by kernel_rfl
@[go_sem] theorem eo_s_impl_Step : ElOK Try.prog 104 240 := elB_spec (by kernel_rfl)
@[go_sem] theorem el_s_laws_Step : tb.el 95 = 242 := by kernel_rfl
@[go_sem] theorem eo_s_laws_Step : ElOK Try.prog 95 242 := elB_spec (by kernel_rfl)
@[go_sem] theorem el_s_impl_Piece : tb.el 88 = 73 := by kernel_rfl
@[go_sem] theorem eo_s_impl_Piece : ElOK Try.prog 88 73 := elB_spec (by kernel_rfl)
@[go_sem] theorem el_s_laws_Piece : tb.el 82 = 70 := by kernel_rfl
@[go_sem] theorem eo_s_laws_Piece : ElOK Try.prog 82 70 := elB_spec (by kernel_rfl)
@[go_sem] theorem el_s_impl_Renewal : tb.el 89 = 107 := by kernel_rfl
@[go_sem] theorem eo_s_impl_Renewal : ElOK Try.prog 89 107 := elB_spec (by kernel_rfl)
@[go_sem] theorem el_s_laws_Renewal : tb.el 83 = 98 := by kernel_rfl
@[go_sem] theorem eo_s_laws_Renewal : ElOK Try.prog 83 98 := elB_spec (by kernel_rfl)
@[go_sem] theorem el_s_impl_Strand : tb.el 132 = 91 := by kernel_rfl
@[go_sem] theorem eo_s_impl_Strand : ElOK Try.prog 132 91 := elB_spec (by kernel_rfl)
@[go_sem] theorem el_s_laws_Strand : tb.el 126 = 85 := by kernel_rfl
@[go_sem] theorem eo_s_laws_Strand : ElOK Try.prog 126 85 := elB_spec (by kernel_rfl)
@[go_sem] theorem el_s_s_impl_Stamp : tb.el 133 = 105 := by kernel_rfl
@[go_sem] theorem eo_s_s_impl_Stamp : ElOK Try.prog 133 105 := elB_spec (by kernel_rfl)
@[go_sem] theorem el_s_s_laws_Stamp : tb.el 127 = 96 := by kernel_rfl
@[go_sem] theorem eo_s_s_laws_Stamp : ElOK Try.prog 127 96 := elB_spec (by kernel_rfl)
@[go_sem] theorem ty_a5 : tb.ty 232 = .cons I (.cons I (.cons I (.cons I (.cons I .nil)))) := by kernel_rfl
@[go_sem] theorem ok_a5 : ArrOK Try.prog 5 232 := arrB_spec (by kernel_rfl)
@[go_sem] theorem es_Span : EqSt Try.prog 33 := ⟨by kernel_rfl, by kernel_rfl, by kernel_rfl⟩
@[go_sem] theorem es_Stamp : EqSt Try.prog 171 := ⟨by kernel_rfl, by kernel_rfl, by kernel_rfl⟩
@[go_sem] theorem es_Status : EqSt Try.prog 140 := ⟨by kernel_rfl, by kernel_rfl, by kernel_rfl⟩
@[go_sem] theorem es_Mandate : EqSt Try.prog 179 := ⟨by kernel_rfl, by kernel_rfl, by kernel_rfl⟩
@[go_sem] theorem es_Cert : EqSt Try.prog 29 := ⟨by kernel_rfl, by kernel_rfl, by kernel_rfl⟩
@[go_sem] theorem es_Signature : EqSt Try.prog 175 := ⟨by kernel_rfl, by kernel_rfl, by kernel_rfl⟩
@[go_sem] theorem es_Succession : EqSt Try.prog 154 := ⟨by kernel_rfl, by kernel_rfl, by kernel_rfl⟩
@[go_sem] theorem es_Step : EqSt Try.prog 240 := ⟨by kernel_rfl, by kernel_rfl, by kernel_rfl⟩
end Go.Proofs.Yteemfgdkmjmolaa
