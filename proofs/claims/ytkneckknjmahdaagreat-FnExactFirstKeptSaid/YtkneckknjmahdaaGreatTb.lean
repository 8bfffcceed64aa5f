/- The readings of this seat's types. It proves nothing of a statement by itself. -/
import Derived.Test.YtkneckknjmahdaaGreatAL22
import Derived.Test.YtkneckknjmahdaaGreatRows
set_option linter.unusedSimpArgs false
set_option linter.unusedVariables false
namespace Go.Proofs.YtkneckknjmahdaaGreat
open Go.AL
abbrev I : Ty := .int .i64
abbrev tSpan : Ty := .cons I (.cons I .nil)
abbrev tStamp : Ty := .cons I (.cons I (.cons I (.cons I (.cons I .nil))))
abbrev tStatus : Ty := .cons I (.cons I (.cons I (.cons I (.cons I .nil))))
abbrev tMandate : Ty := .cons I (.cons I (.cons I (.cons I (.cons I (.cons I .nil)))))
abbrev tCert : Ty := .cons I (.cons I (.cons I (.cons I (.cons I (.cons I (.cons I .nil))))))
abbrev tSignature : Ty := .cons I (.cons I (.cons I (.cons I (.cons I (.cons I (.cons I (.cons I (.cons I .nil))))))))
abbrev tSuccession : Ty := .cons I (.cons I (.cons I (.cons I .nil)))
abbrev tKey : Ty := .cons I (.cons I (.cons I (.cons I (.cons I .nil))))
abbrev tAuthority : Ty := .cons I (.cons I (.cons I .nil))
abbrev tMethod : Ty := .cons I (.cons I (.cons I (.cons I .nil)))
abbrev tStep : Ty := .cons I (.cons .bool .nil)
abbrev tPiece : Ty := .cons I (.cons (.list I) (.cons I .nil))
abbrev tRenewal : Ty := .cons I (.cons I (.cons I (.cons (.list tStep) (.cons (.list tStamp) .nil))))
abbrev tStrand : Ty := .cons (.list tPiece) (.cons (.list tRenewal) .nil)
abbrev tEvidence : Ty := .cons (.list tStrand) (.cons (.list (.list tStamp)) .nil)
abbrev tFrame : Ty := .cons (.list tKey) (.cons (.list tAuthority) (.cons (.list tMethod) (.cons I (.cons I .nil))))
abbrev tDocument : Ty := .cons I (.cons (.list .str) (.cons (.list I) .nil))
abbrev tRedacted : Ty := .cons I (.cons (.list I) (.cons (.list .bool) (.cons (.list .str) (.cons (.list I) (.cons (.list (.list I)) .nil)))))
def tyTab : List (Nat × Ty) := [
  (3, I),
  (4, .bool),
  (9, .str),
  (5, (.int .u8)),
  (31, (.list I)),
  (99, tSpan),
  (149, (.list tSpan)),
  (118, tStamp),
  (95, (.list tStamp)),
  (173, tStamp),
  (131, (.list tStamp)),
  (76, tSignature),
  (66, tSignature),
  (110, tKey),
  (35, (.list tKey)),
  (135, tKey),
  (22, (.list tKey)),
  (137, tAuthority),
  (36, (.list tAuthority)),
  (139, tAuthority),
  (23, (.list tAuthority)),
  (141, tMethod),
  (37, (.list tMethod)),
  (143, tMethod),
  (24, (.list tMethod)),
  (176, tStep),
  (94, (.list tStep)),
  (183, tStep),
  (130, (.list tStep)),
  (57, tPiece),
  (41, (.list tPiece)),
  (54, tPiece),
  (27, (.list tPiece)),
  (97, tRenewal),
  (42, (.list tRenewal)),
  (133, tRenewal),
  (28, (.list tRenewal)),
  (44, tStrand),
  (70, (.list tStrand)),
  (30, tStrand),
  (61, (.list tStrand)),
  (73, tEvidence),
  (64, tEvidence),
  (39, tFrame),
  (26, tFrame),
  (71, (.list (.list tStamp))),
  (62, (.list (.list tStamp))),
  (100000, .nil)]
def elTab : List (Nat × Nat) := [
  (31, 3),
  (149, 99),
  (95, 118),
  (131, 173),
  (35, 110),
  (22, 135),
  (36, 137),
  (23, 139),
  (37, 141),
  (24, 143),
  (94, 176),
  (130, 183),
  (41, 57),
  (27, 54),
  (42, 97),
  (28, 133),
  (70, 44),
  (61, 30),
  (71, 95),
  (62, 131),
  (100000, 0)]
def lkTy : List (Nat × Ty) → Nat → Ty
  | [], _ => .nil
  | p :: r, T => bif Nat.beq T p.1 then p.2 else lkTy r T
def lkEl : List (Nat × Nat) → Nat → Nat
  | [], _ => 0
  | p :: r, T => bif Nat.beq T p.1 then p.2 else lkEl r T
def inlTab : List Nat := [
  4294967295]
def tb : Tb := ⟨lkTy tyTab, lkEl elTab, fun f => anyL f inlTab, 0⟩
@[go_sem] theorem tb_inl (f : FuncId) : tb.inl f = anyL f inlTab := (rfl)
@[go_sem] theorem tb_off : tb.off = 0 := (rfl)
attribute [go_sem] inlTab
theorem laidOut : laidOutB Tryz.prog = true := by kernel_rfl
theorem follows : Tryz.prog.follows .mixedOrders = true := by kernel_rfl
@[go_sem] theorem ty_int : tb.ty 3 = I := by kernel_rfl
@[go_sem] theorem ok_int : TyOK Tryz.prog I 3 := tyB_spec (by kernel_rfl)
@[go_sem] theorem ty_bool : tb.ty 4 = .bool := by kernel_rfl
@[go_sem] theorem ok_bool : TyOK Tryz.prog .bool 4 := tyB_spec (by kernel_rfl)
@[go_sem] theorem ty_string : tb.ty 9 = .str := by kernel_rfl
@[go_sem] theorem ok_string : TyOK Tryz.prog .str 9 := tyB_spec (by kernel_rfl)
@[go_sem] theorem ty_uint8 : tb.ty 5 = (.int .u8) := by kernel_rfl
@[go_sem] theorem ok_uint8 : TyOK Tryz.prog (.int .u8) 5 := tyB_spec (by kernel_rfl)
@[go_sem] theorem ty_s_int : tb.ty 31 = (.list I) := by kernel_rfl
@[go_sem] theorem ok_s_int : TyOK Tryz.prog (.list I) 31 := tyB_spec (by kernel_rfl)
@[go_sem] theorem ty_implSpan : tb.ty 99 = tSpan := by kernel_rfl
@[go_sem] theorem ok_implSpan : TyOK Tryz.prog tSpan 99 := tyB_spec (by kernel_rfl)
@[go_sem] theorem ty_implSpanS : tb.ty 149 = (.list tSpan) := by kernel_rfl
@[go_sem] theorem ok_implSpanS : TyOK Tryz.prog (.list tSpan) 149 := tyB_spec (by kernel_rfl)
@[go_sem] theorem ty_implStamp : tb.ty 118 = tStamp := by kernel_rfl
@[go_sem] theorem ok_implStamp : TyOK Tryz.prog tStamp 118 := tyB_spec (by kernel_rfl)
@[go_sem] theorem ty_implStampS : tb.ty 95 = (.list tStamp) := by kernel_rfl
@[go_sem] theorem ok_implStampS : TyOK Tryz.prog (.list tStamp) 95 := tyB_spec (by kernel_rfl)
@[go_sem] theorem ty_lawsStamp : tb.ty 173 = tStamp := by kernel_rfl
@[go_sem] theorem ok_lawsStamp : TyOK Tryz.prog tStamp 173 := tyB_spec (by kernel_rfl)
@[go_sem] theorem ty_lawsStampS : tb.ty 131 = (.list tStamp) := by kernel_rfl
@[go_sem] theorem ok_lawsStampS : TyOK Tryz.prog (.list tStamp) 131 := tyB_spec (by kernel_rfl)
@[go_sem] theorem ty_implSignature : tb.ty 76 = tSignature := by kernel_rfl
@[go_sem] theorem ok_implSignature : TyOK Tryz.prog tSignature 76 := tyB_spec (by kernel_rfl)
@[go_sem] theorem ty_lawsSignature : tb.ty 66 = tSignature := by kernel_rfl
@[go_sem] theorem ok_lawsSignature : TyOK Tryz.prog tSignature 66 := tyB_spec (by kernel_rfl)
@[go_sem] theorem ty_implKey : tb.ty 110 = tKey := by kernel_rfl
@[go_sem] theorem ok_implKey : TyOK Tryz.prog tKey 110 := tyB_spec (by kernel_rfl)
@[go_sem] theorem ty_implKeyS : tb.ty 35 = (.list tKey) := by kernel_rfl
@[go_sem] theorem ok_implKeyS : TyOK Tryz.prog (.list tKey) 35 := tyB_spec (by kernel_rfl)
@[go_sem] theorem ty_lawsKey : tb.ty 135 = tKey := by kernel_rfl
@[go_sem] theorem ok_lawsKey : TyOK Tryz.prog tKey 135 := tyB_spec (by kernel_rfl)
@[go_sem] theorem ty_lawsKeyS : tb.ty 22 = (.list tKey) := by kernel_rfl
@[go_sem] theorem ok_lawsKeyS : TyOK Tryz.prog (.list tKey) 22 := tyB_spec (by kernel_rfl)
@[go_sem] theorem ty_implAuthority : tb.ty 137 = tAuthority := by kernel_rfl
@[go_sem] theorem ok_implAuthority : TyOK Tryz.prog tAuthority 137 := tyB_spec (by kernel_rfl)
@[go_sem] theorem ty_implAuthorityS : tb.ty 36 = (.list tAuthority) := by kernel_rfl
@[go_sem] theorem ok_implAuthorityS : TyOK Tryz.prog (.list tAuthority) 36 := tyB_spec (by kernel_rfl)
@[go_sem] theorem ty_lawsAuthority : tb.ty 139 = tAuthority := by kernel_rfl
@[go_sem] theorem ok_lawsAuthority : TyOK Tryz.prog tAuthority 139 := tyB_spec (by kernel_rfl)
@[go_sem] theorem ty_lawsAuthorityS : tb.ty 23 = (.list tAuthority) := by kernel_rfl
@[go_sem] theorem ok_lawsAuthorityS : TyOK Tryz.prog (.list tAuthority) 23 := tyB_spec (by kernel_rfl)
@[go_sem] theorem ty_implMethod : tb.ty 141 = tMethod := by kernel_rfl
@[go_sem] theorem ok_implMethod : TyOK Tryz.prog tMethod 141 := tyB_spec (by kernel_rfl)
@[go_sem] theorem ty_implMethodS : tb.ty 37 = (.list tMethod) := by kernel_rfl
@[go_sem] theorem ok_implMethodS : TyOK Tryz.prog (.list tMethod) 37 := tyB_spec (by kernel_rfl)
@[go_sem] theorem ty_lawsMethod : tb.ty 143 = tMethod := by kernel_rfl
@[go_sem] theorem ok_lawsMethod : TyOK Tryz.prog tMethod 143 := tyB_spec (by kernel_rfl)
@[go_sem] theorem ty_lawsMethodS : tb.ty 24 = (.list tMethod) := by kernel_rfl
@[go_sem] theorem ok_lawsMethodS : TyOK Tryz.prog (.list tMethod) 24 := tyB_spec (by kernel_rfl)
@[go_sem] theorem ty_implStep : tb.ty 176 = tStep := by kernel_rfl
@[go_sem] theorem ok_implStep : TyOK Tryz.prog tStep 176 := tyB_spec (by kernel_rfl)
@[go_sem] theorem ty_implStepS : tb.ty 94 = (.list tStep) := by kernel_rfl
@[go_sem] theorem ok_implStepS : TyOK Tryz.prog (.list tStep) 94 := tyB_spec (by kernel_rfl)
@[go_sem] theorem ty_lawsStep : tb.ty 183 = tStep := by kernel_rfl
@[go_sem] theorem ok_lawsStep : TyOK Tryz.prog tStep 183 := tyB_spec (by kernel_rfl)
@[go_sem] theorem ty_lawsStepS : tb.ty 130 = (.list tStep) := by kernel_rfl
@[go_sem] theorem ok_lawsStepS : TyOK Tryz.prog (.list tStep) 130 := tyB_spec (by kernel_rfl)
@[go_sem] theorem ty_implPiece : tb.ty 57 = tPiece := by kernel_rfl
@[go_sem] theorem ok_implPiece : TyOK Tryz.prog tPiece 57 := tyB_spec (by kernel_rfl)
@[go_sem] theorem ty_implPieceS : tb.ty 41 = (.list tPiece) := by kernel_rfl
@[go_sem] theorem ok_implPieceS : TyOK Tryz.prog (.list tPiece) 41 := tyB_spec (by kernel_rfl)
@[go_sem] theorem ty_lawsPiece : tb.ty 54 = tPiece := by kernel_rfl
@[go_sem] theorem ok_lawsPiece : TyOK Tryz.prog tPiece 54 := tyB_spec (by kernel_rfl)
@[go_sem] theorem ty_lawsPieceS : tb.ty 27 = (.list tPiece) := by kernel_rfl
@[go_sem] theorem ok_lawsPieceS : TyOK Tryz.prog (.list tPiece) 27 := tyB_spec (by kernel_rfl)
@[go_sem] theorem ty_implRenewal : tb.ty 97 = tRenewal := by kernel_rfl
@[go_sem] theorem ok_implRenewal : TyOK Tryz.prog tRenewal 97 := tyB_spec (by kernel_rfl)
@[go_sem] theorem ty_implRenewalS : tb.ty 42 = (.list tRenewal) := by kernel_rfl
@[go_sem] theorem ok_implRenewalS : TyOK Tryz.prog (.list tRenewal) 42 := tyB_spec (by kernel_rfl)
@[go_sem] theorem ty_lawsRenewal : tb.ty 133 = tRenewal := by kernel_rfl
@[go_sem] theorem ok_lawsRenewal : TyOK Tryz.prog tRenewal 133 := tyB_spec (by kernel_rfl)
@[go_sem] theorem ty_lawsRenewalS : tb.ty 28 = (.list tRenewal) := by kernel_rfl
@[go_sem] theorem ok_lawsRenewalS : TyOK Tryz.prog (.list tRenewal) 28 := tyB_spec (by kernel_rfl)
@[go_sem] theorem ty_implStrand : tb.ty 44 = tStrand := by kernel_rfl
@[go_sem] theorem ok_implStrand : TyOK Tryz.prog tStrand 44 := tyB_spec (by kernel_rfl)
@[go_sem] theorem ty_implStrandS : tb.ty 70 = (.list tStrand) := by kernel_rfl
@[go_sem] theorem ok_implStrandS : TyOK Tryz.prog (.list tStrand) 70 := tyB_spec (by kernel_rfl)
@[go_sem] theorem ty_lawsStrand : tb.ty 30 = tStrand := by kernel_rfl
@[go_sem] theorem ok_lawsStrand : TyOK Tryz.prog tStrand 30 := tyB_spec (by kernel_rfl)
@[go_sem] theorem ty_lawsStrandS : tb.ty 61 = (.list tStrand) := by kernel_rfl
@[go_sem] theorem ok_lawsStrandS : TyOK Tryz.prog (.list tStrand) 61 := tyB_spec (by kernel_rfl)
@[go_sem] theorem ty_implEvidence : tb.ty 73 = tEvidence := by kernel_rfl
@[go_sem] theorem ok_implEvidence : TyOK Tryz.prog tEvidence 73 := tyB_spec (by kernel_rfl)
@[go_sem] theorem ty_lawsEvidence : tb.ty 64 = tEvidence := by kernel_rfl
@[go_sem] theorem ok_lawsEvidence : TyOK Tryz.prog tEvidence 64 := tyB_spec (by kernel_rfl)
@[go_sem] theorem ty_implFrame : tb.ty 39 = tFrame := by kernel_rfl
@[go_sem] theorem ok_implFrame : TyOK Tryz.prog tFrame 39 := tyB_spec (by kernel_rfl)
@[go_sem] theorem ty_lawsFrame : tb.ty 26 = tFrame := by kernel_rfl
@[go_sem] theorem ok_lawsFrame : TyOK Tryz.prog tFrame 26 := tyB_spec (by kernel_rfl)
@[go_sem] theorem ty_implStampSS : tb.ty 71 = (.list (.list tStamp)) := by kernel_rfl
@[go_sem] theorem ok_implStampSS : TyOK Tryz.prog (.list (.list tStamp)) 71 := tyB_spec (by kernel_rfl)
@[go_sem] theorem ty_lawsStampSS : tb.ty 62 = (.list (.list tStamp)) := by kernel_rfl
@[go_sem] theorem ok_lawsStampSS : TyOK Tryz.prog (.list (.list tStamp)) 62 := tyB_spec (by kernel_rfl)
@[go_sem] theorem el_s_int : tb.el 31 = 3 := by kernel_rfl
@[go_sem] theorem eo_s_int : ElOK Tryz.prog 31 3 := elB_spec (by kernel_rfl)
@[go_sem] theorem el_s_impl_Span : tb.el 149 = 99 := by kernel_rfl
@[go_sem] theorem eo_s_impl_Span : ElOK Tryz.prog 149 99 := elB_spec (by kernel_rfl)
@[go_sem] theorem el_s_impl_Stamp : tb.el 95 = 118 := by kernel_rfl
@[go_sem] theorem eo_s_impl_Stamp : ElOK Tryz.prog 95 118 := elB_spec (by kernel_rfl)
@[go_sem] theorem el_s_laws_Stamp : tb.el 131 = 173 := by kernel_rfl
@[go_sem] theorem eo_s_laws_Stamp : ElOK Tryz.prog 131 173 := elB_spec (by kernel_rfl)
@[go_sem] theorem el_s_impl_Key : tb.el 35 = 110 := by kernel_rfl
@[go_sem] theorem eo_s_impl_Key : ElOK Tryz.prog 35 110 := elB_spec (by kernel_rfl)
@[go_sem] theorem el_s_laws_Key : tb.el 22 = 135 := by kernel_rfl
@[go_sem] theorem eo_s_laws_Key : ElOK Tryz.prog 22 135 := elB_spec (by kernel_rfl)
@[go_sem] theorem el_s_impl_Authority : tb.el 36 = 137 := by kernel_rfl
@[go_sem] theorem eo_s_impl_Authority : ElOK Tryz.prog 36 137 := elB_spec (by kernel_rfl)
@[go_sem] theorem el_s_laws_Authority : tb.el 23 = 139 := by kernel_rfl
@[go_sem] theorem eo_s_laws_Authority : ElOK Tryz.prog 23 139 := elB_spec (by kernel_rfl)
@[go_sem] theorem el_s_impl_Method : tb.el 37 = 141 := by kernel_rfl
@[go_sem] theorem eo_s_impl_Method : ElOK Tryz.prog 37 141 := elB_spec (by kernel_rfl)
@[go_sem] theorem el_s_laws_Method : tb.el 24 = 143 := by kernel_rfl
@[go_sem] theorem eo_s_laws_Method : ElOK Tryz.prog 24 143 := elB_spec (by kernel_rfl)
@[go_sem] theorem el_s_impl_Step : tb.el 94 = 176 := by kernel_rfl
@[go_sem] theorem eo_s_impl_Step : ElOK Tryz.prog 94 176 := elB_spec (by kernel_rfl)
@[go_sem] theorem el_s_laws_Step : tb.el 130 = 183 := by kernel_rfl
@[go_sem] theorem eo_s_laws_Step : ElOK Tryz.prog 130 183 := elB_spec (by kernel_rfl)
@[go_sem] theorem el_s_impl_Piece : tb.el 41 = 57 := by kernel_rfl
@[go_sem] theorem eo_s_impl_Piece : ElOK Tryz.prog 41 57 := elB_spec (by kernel_rfl)
@[go_sem] theorem el_s_laws_Piece : tb.el 27 = 54 := by kernel_rfl
@[go_sem] theorem eo_s_laws_Piece : ElOK Tryz.prog 27 54 := elB_spec (by kernel_rfl)
@[go_sem] theorem el_s_impl_Renewal : tb.el 42 = 97 := by kernel_rfl
@[go_sem] theorem eo_s_impl_Renewal : ElOK Tryz.prog 42 97 := elB_spec (by kernel_rfl)
@[go_sem] theorem el_s_laws_Renewal : tb.el 28 = 133 := by kernel_rfl
@[go_sem] theorem eo_s_laws_Renewal : ElOK Tryz.prog 28 133 := elB_spec (by kernel_rfl)
@[go_sem] theorem el_s_impl_Strand : tb.el 70 = 44 := by kernel_rfl
@[go_sem] theorem eo_s_impl_Strand : ElOK Tryz.prog 70 44 := elB_spec (by kernel_rfl)
@[go_sem] theorem el_s_laws_Strand : tb.el 61 = 30 := by kernel_rfl
@[go_sem] theorem eo_s_laws_Strand : ElOK Tryz.prog 61 30 := elB_spec (by kernel_rfl)
@[go_sem] theorem el_s_s_impl_Stamp : tb.el 71 = 95 := by kernel_rfl
@[go_sem] theorem eo_s_s_impl_Stamp : ElOK Tryz.prog 71 95 := elB_spec (by kernel_rfl)
@[go_sem] theorem el_s_s_laws_Stamp : tb.el 62 = 131 := by kernel_rfl
@[go_sem] theorem eo_s_s_laws_Stamp : ElOK Tryz.prog 62 131 := elB_spec (by kernel_rfl)
@[go_sem] theorem es_Span : EqSt Tryz.prog 99 := ⟨by kernel_rfl, by kernel_rfl, by kernel_rfl⟩
@[go_sem] theorem es_Stamp : EqSt Tryz.prog 118 := ⟨by kernel_rfl, by kernel_rfl, by kernel_rfl⟩
@[go_sem] theorem es_Signature : EqSt Tryz.prog 76 := ⟨by kernel_rfl, by kernel_rfl, by kernel_rfl⟩
@[go_sem] theorem es_Step : EqSt Tryz.prog 176 := ⟨by kernel_rfl, by kernel_rfl, by kernel_rfl⟩
end Go.Proofs.YtkneckknjmahdaaGreat
