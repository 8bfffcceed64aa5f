/- The readings of this seat's types. It proves nothing of a statement by itself. -/
import Derived.Test.YtcbecpjhgfkofaaAL22
import Derived.Test.YtcbecpjhgfkofaaRows
set_option linter.unusedSimpArgs false
set_option linter.unusedVariables false
namespace Go.Proofs.Ytcbecpjhgfkofaa
open Go.AL
abbrev I : Ty := .int .i64
abbrev tSpan : Ty := .cons I (.cons I .nil)
abbrev tl1Cur : Ty := .cons (.list (.int .u8)) (.cons I (.cons I .nil))
abbrev tStamp : Ty := .cons I (.cons I (.cons I (.cons I (.cons I .nil))))
abbrev tStatus : Ty := .cons I (.cons I (.cons I (.cons I (.cons I .nil))))
abbrev tMandate : Ty := .cons I (.cons I (.cons I (.cons I (.cons I (.cons I .nil)))))
abbrev tCert : Ty := .cons I (.cons I (.cons I (.cons I (.cons I (.cons I (.cons I .nil))))))
abbrev tSignature : Ty := .cons I (.cons I (.cons I (.cons I (.cons I (.cons I (.cons I (.cons I (.cons I .nil))))))))
abbrev tSuccession : Ty := .cons I (.cons I (.cons I (.cons I .nil)))
abbrev tKey : Ty := .cons I (.cons I (.cons I (.cons I (.cons I .nil))))
abbrev tAuthority : Ty := .cons I (.cons I (.cons I .nil))
abbrev tMethod : Ty := .cons I (.cons I (.cons I (.cons I .nil)))
abbrev tStep : Ty := .cons I (.cons .bool .nil)
abbrev tPiece : Ty := .cons I (.cons (.list I) (.cons I .nil))
abbrev tRenewal : Ty := .cons I (.cons I (.cons I (.cons (.list tStep) (.cons (.list tStamp) .nil))))
abbrev tStrand : Ty := .cons (.list tPiece) (.cons (.list tRenewal) .nil)
abbrev tEvidence : Ty := .cons (.list tStrand) (.cons (.list (.list tStamp)) .nil)
abbrev tFrame : Ty := .cons (.list tKey) (.cons (.list tAuthority) (.cons (.list tMethod) (.cons I (.cons I .nil))))
abbrev tDocument : Ty := .cons I (.cons (.list .str) (.cons (.list I) .nil))
abbrev tRedacted : Ty := .cons I (.cons (.list I) (.cons (.list .bool) (.cons (.list .str) (.cons (.list I) (.cons (.list (.list I)) .nil)))))
def tyTab : List (Nat × Ty) := [
  (3, I),
  (4, .bool),
  (9, .str),
  (5, (.int .u8)),
  (72, (.int .u64)),
  (66, (.list I)),
  (22, (.list (.int .u8))),
  (58, tl1Cur),
  (28, tSpan),
  (31, (.list tSpan)),
  (55, tStatus),
  (26, (.list tStatus)),
  (25, tCert),
  (63, (.list tCert)),
  (78, tKey),
  (70, (.list tKey)),
  (100000, .nil)]
def elTab : List (Nat × Nat) := [
  (66, 3),
  (22, 5),
  (31, 28),
  (26, 55),
  (63, 25),
  (70, 78),
  (100000, 0)]
def lkTy : List (Nat × Ty) → Nat → Ty
  | [], _ => .nil
  | p :: r, T => bif Nat.beq T p.1 then p.2 else lkTy r T
def lkEl : List (Nat × Nat) → Nat → Nat
  | [], _ => 0
  | p :: r, T => bif Nat.beq T p.1 then p.2 else lkEl r T
def inlTab : List Nat := [
  15,
  4294967295]
def tb : Tb := ⟨lkTy tyTab, lkEl elTab, fun f => anyL f inlTab, 0⟩
@[go_sem] theorem tb_inl (f : FuncId) : tb.inl f = anyL f inlTab := (rfl)
@[go_sem] theorem tb_off : tb.off = 0 := (rfl)
attribute [go_sem] inlTab
theorem laidOut : laidOutB Try.prog = true := by kernel_rfl
theorem follows : Try.prog.follows .mixedOrders = true := by kernel_rfl
@[go_sem] theorem ty_int : tb.ty 3 = I := by kernel_rfl
@[go_sem] theorem ok_int : TyOK Try.prog I 3 := tyB_spec (by kernel_rfl)
@[go_sem] theorem ty_bool : tb.ty 4 = .bool := by kernel_rfl
@[go_sem] theorem ok_bool : TyOK Try.prog .bool 4 := tyB_spec (by kernel_rfl)
@[go_sem] theorem ty_string : tb.ty 9 = .str := by kernel_rfl
@[go_sem] theorem ok_string : TyOK Try.prog .str 9 := tyB_spec (by kernel_rfl)
@[go_sem] theorem ty_uint8 : tb.ty 5 = (.int .u8) := by kernel_rfl
@[go_sem] theorem ok_uint8 : TyOK Try.prog (.int .u8) 5 := tyB_spec (by kernel_rfl)
@[go_sem] theorem ty_uint : tb.ty 72 = (.int .u64) := by kernel_rfl
@[go_sem] theorem ok_uint : TyOK Try.prog (.int .u64) 72 := tyB_spec (by kernel_rfl)
@[go_sem] theorem ty_s_int : tb.ty 66 = (.list I) := by kernel_rfl
@[go_sem] theorem ok_s_int : TyOK Try.prog (.list I) 66 := tyB_spec (by kernel_rfl)
@[go_sem] theorem ty_s_uint8 : tb.ty 22 = (.list (.int .u8)) := by kernel_rfl
@[go_sem] theorem ok_s_uint8 : TyOK Try.prog (.list (.int .u8)) 22 := tyB_spec (by kernel_rfl)
@[go_sem] theorem ty_specl1Cur : tb.ty 58 = tl1Cur := by kernel_rfl
@[go_sem] theorem ok_specl1Cur : TyOK Try.prog tl1Cur 58 := tyB_spec (by kernel_rfl)
@[go_sem] theorem ty_implSpan : tb.ty 28 = tSpan := by kernel_rfl
@[go_sem] theorem ok_implSpan : TyOK Try.prog tSpan 28 := tyB_spec (by kernel_rfl)
@[go_sem] theorem ty_implSpanS : tb.ty 31 = (.list tSpan) := by kernel_rfl
@[go_sem] theorem ok_implSpanS : TyOK Try.prog (.list tSpan) 31 := tyB_spec (by kernel_rfl)
@[go_sem] theorem ty_implStatus : tb.ty 55 = tStatus := by kernel_rfl
@[go_sem] theorem ok_implStatus : TyOK Try.prog tStatus 55 := tyB_spec (by kernel_rfl)
@[go_sem] theorem ty_implStatusS : tb.ty 26 = (.list tStatus) := by kernel_rfl
@[go_sem] theorem ok_implStatusS : TyOK Try.prog (.list tStatus) 26 := tyB_spec (by kernel_rfl)
@[go_sem] theorem ty_implCert : tb.ty 25 = tCert := by kernel_rfl
@[go_sem] theorem ok_implCert : TyOK Try.prog tCert 25 := tyB_spec (by kernel_rfl)
@[go_sem] theorem ty_implCertS : tb.ty 63 = (.list tCert) := by kernel_rfl
@[go_sem] theorem ok_implCertS : TyOK Try.prog (.list tCert) 63 := tyB_spec (by kernel_rfl)
@[go_sem] theorem ty_implKey : tb.ty 78 = tKey := by kernel_rfl
@[go_sem] theorem ok_implKey : TyOK Try.prog tKey 78 := tyB_spec (by kernel_rfl)
@[go_sem] theorem ty_implKeyS : tb.ty 70 = (.list tKey) := by kernel_rfl
@[go_sem] theorem ok_implKeyS : TyOK Try.prog (.list tKey) 70 := tyB_spec (by kernel_rfl)
@[go_sem] theorem el_s_int : tb.el 66 = 3 := by kernel_rfl
@[go_sem] theorem eo_s_int : ElOK Try.prog 66 3 := elB_spec (by kernel_rfl)
@[go_sem] theorem el_s_uint8 : tb.el 22 = 5 := by kernel_rfl
@[go_sem] theorem eo_s_uint8 : ElOK Try.prog 22 5 := elB_spec (by kernel_rfl)
@[go_sem] theorem el_s_impl_Span : tb.el 31 = 28 := by kernel_rfl
@[go_sem] theorem eo_s_impl_Span : ElOK Try.prog 31 28 := elB_spec (by kernel_rfl)
@[go_sem] theorem el_s_impl_Status : tb.el 26 = 55 := by kernel_rfl
@[go_sem] theorem eo_s_impl_Status : ElOK Try.prog 26 55 := elB_spec (by kernel_rfl)
@[go_sem] theorem el_s_impl_Cert : tb.el 63 = 25 := by kernel_rfl
@[go_sem] theorem eo_s_impl_Cert : ElOK Try.prog 63 25 := elB_spec (by kernel_rfl)
@[go_sem] theorem el_s_impl_Key : tb.el 70 = 78 := by kernel_rfl
@[go_sem] theorem eo_s_impl_Key : ElOK Try.prog 70 78 := elB_spec (by kernel_rfl)
@[go_sem] theorem es_Span : EqSt Try.prog 28 := ⟨by kernel_rfl, by kernel_rfl, by kernel_rfl⟩
@[go_sem] theorem es_Status : EqSt Try.prog 55 := ⟨by kernel_rfl, by kernel_rfl, by kernel_rfl⟩
@[go_sem] theorem es_Cert : EqSt Try.prog 25 := ⟨by kernel_rfl, by kernel_rfl, by kernel_rfl⟩
end Go.Proofs.Ytcbecpjhgfkofaa
