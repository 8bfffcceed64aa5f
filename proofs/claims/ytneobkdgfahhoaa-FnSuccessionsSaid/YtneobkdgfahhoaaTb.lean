/- The readings of this seat's types. It proves nothing of a statement by itself. -/
import Derived.Test.YtneobkdgfahhoaaAL22
import Derived.Test.YtneobkdgfahhoaaRows
set_option linter.unusedSimpArgs false
set_option linter.unusedVariables false
namespace Go.Proofs.Ytneobkdgfahhoaa
open Go.AL
abbrev I : Ty := .int .i64
abbrev tSpan : Ty := .cons I (.cons I .nil)
abbrev tl1Cur : Ty := .cons (.list (.int .u8)) (.cons I (.cons I .nil))
abbrev tStamp : Ty := .cons I (.cons I (.cons I (.cons I (.cons I .nil))))
abbrev tStatus : Ty := .cons I (.cons I (.cons I (.cons I (.cons I .nil))))
abbrev tMandate : Ty := .cons I (.cons I (.cons I (.cons I (.cons I (.cons I .nil)))))
abbrev tCert : Ty := .cons I (.cons I (.cons I (.cons I (.cons I (.cons I (.cons I .nil))))))
abbrev tSignature : Ty := .cons I (.cons I (.cons I (.cons I (.cons I (.cons I (.cons I (.cons I (.cons I .nil))))))))
abbrev tSuccession : Ty := .cons I (.cons I (.cons I (.cons I .nil)))
abbrev tKey : Ty := .cons I (.cons I (.cons I (.cons I (.cons I .nil))))
abbrev tAuthority : Ty := .cons I (.cons I (.cons I .nil))
abbrev tMethod : Ty := .cons I (.cons I (.cons I (.cons I .nil)))
abbrev tStep : Ty := .cons I (.cons .bool .nil)
abbrev tPiece : Ty := .cons I (.cons (.list I) (.cons I .nil))
abbrev tRenewal : Ty := .cons I (.cons I (.cons I (.cons (.list tStep) (.cons (.list tStamp) .nil))))
abbrev tStrand : Ty := .cons (.list tPiece) (.cons (.list tRenewal) .nil)
abbrev tEvidence : Ty := .cons (.list tStrand) (.cons (.list (.list tStamp)) .nil)
abbrev tFrame : Ty := .cons (.list tKey) (.cons (.list tAuthority) (.cons (.list tMethod) (.cons I (.cons I .nil))))
abbrev tDocument : Ty := .cons I (.cons (.list .str) (.cons (.list I) .nil))
abbrev tRedacted : Ty := .cons I (.cons (.list I) (.cons (.list .bool) (.cons (.list .str) (.cons (.list I) (.cons (.list (.list I)) .nil)))))
def tyTab : List (Nat × Ty) := [
  (3, I),
  (4, .bool),
  (9, .str),
  (5, (.int .u8)),
  (62, (.int .u64)),
  (28, (.list I)),
  (22, (.list (.int .u8))),
  (56, tl1Cur),
  (34, tSuccession),
  (25, (.list tSuccession)),
  (41, tKey),
  (24, (.list tKey)),
  (100000, .nil)]
def elTab : List (Nat × Nat) := [
  (28, 3),
  (22, 5),
  (25, 34),
  (24, 41),
  (100000, 0)]
def lkTy : List (Nat × Ty) → Nat → Ty
  | [], _ => .nil
  | p :: r, T => bif Nat.beq T p.1 then p.2 else lkTy r T
def lkEl : List (Nat × Nat) → Nat → Nat
  | [], _ => 0
  | p :: r, T => bif Nat.beq T p.1 then p.2 else lkEl r T
def inlTab : List Nat := [
  21,
  4294967295]
def tb : Tb := ⟨lkTy tyTab, lkEl elTab, fun f => anyL f inlTab, 0⟩
@[go_sem] theorem tb_inl (f : FuncId) : tb.inl f = anyL f inlTab := (rfl)
@[go_sem] theorem tb_off : tb.off = 0 := (rfl)
attribute [go_sem] inlTab
theorem laidOut : laidOutB Try.prog = true := by kernel_rfl
theorem follows : Try.prog.follows .mixedOrders = true := by kernel_rfl
@[go_sem] theorem ty_int : tb.ty 3 = I := by kernel_rfl
@[go_sem] theorem ok_int : TyOK Try.prog I 3 := tyB_spec (by kernel_rfl)
@[go_sem] theorem ty_bool : tb.ty 4 = .bool := by kernel_rfl
@[go_sem] theorem ok_bool : TyOK Try.prog .bool 4 := tyB_spec (by kernel_rfl)
@[go_sem] theorem ty_string : tb.ty 9 = .str := by kernel_rfl
@[go_sem] theorem ok_string : TyOK Try.prog .str 9 := tyB_spec (by kernel_rfl)
@[go_sem] theorem ty_uint8 : tb.ty 5 = (.int .u8) := by kernel_rfl
@[go_sem] theorem ok_uint8 : TyOK Try.prog (.int .u8) 5 := tyB_spec (by kernel_rfl)
@[go_sem] theorem ty_uint : tb.ty 62 = (.int .u64) := by kernel_rfl
@[go_sem] theorem ok_uint : TyOK Try.prog (.int .u64) 62 := tyB_spec (by kernel_rfl)
@[go_sem] theorem ty_s_int : tb.ty 28 = (.list I) := by kernel_rfl
@[go_sem] theorem ok_s_int : TyOK Try.prog (.list I) 28 := tyB_spec (by kernel_rfl)
@[go_sem] theorem ty_s_uint8 : tb.ty 22 = (.list (.int .u8)) := by kernel_rfl
@[go_sem] theorem ok_s_uint8 : TyOK Try.prog (.list (.int .u8)) 22 := tyB_spec (by kernel_rfl)
@[go_sem] theorem ty_specl1Cur : tb.ty 56 = tl1Cur := by kernel_rfl
@[go_sem] theorem ok_specl1Cur : TyOK Try.prog tl1Cur 56 := tyB_spec (by kernel_rfl)
@[go_sem] theorem ty_implSuccession : tb.ty 34 = tSuccession := by kernel_rfl
@[go_sem] theorem ok_implSuccession : TyOK Try.prog tSuccession 34 := tyB_spec (by kernel_rfl)
@[go_sem] theorem ty_implSuccessionS : tb.ty 25 = (.list tSuccession) := by kernel_rfl
@[go_sem] theorem ok_implSuccessionS : TyOK Try.prog (.list tSuccession) 25 := tyB_spec (by kernel_rfl)
@[go_sem] theorem ty_implKey : tb.ty 41 = tKey := by kernel_rfl
@[go_sem] theorem ok_implKey : TyOK Try.prog tKey 41 := tyB_spec (by kernel_rfl)
@[go_sem] theorem ty_implKeyS : tb.ty 24 = (.list tKey) := by kernel_rfl
@[go_sem] theorem ok_implKeyS : TyOK Try.prog (.list tKey) 24 := tyB_spec (by kernel_rfl)
@[go_sem] theorem el_s_int : tb.el 28 = 3 := by kernel_rfl
@[go_sem] theorem eo_s_int : ElOK Try.prog 28 3 := elB_spec (by kernel_rfl)
@[go_sem] theorem el_s_uint8 : tb.el 22 = 5 := by kernel_rfl
@[go_sem] theorem eo_s_uint8 : ElOK Try.prog 22 5 := elB_spec (by kernel_rfl)
@[go_sem] theorem el_s_impl_Succession : tb.el 25 = 34 := by kernel_rfl
@[go_sem] theorem eo_s_impl_Succession : ElOK Try.prog 25 34 := elB_spec (by kernel_rfl)
@[go_sem] theorem el_s_impl_Key : tb.el 24 = 41 := by kernel_rfl
@[go_sem] theorem eo_s_impl_Key : ElOK Try.prog 24 41 := elB_spec (by kernel_rfl)
@[go_sem] theorem es_Succession : EqSt Try.prog 34 := ⟨by kernel_rfl, by kernel_rfl, by kernel_rfl⟩
end Go.Proofs.Ytneobkdgfahhoaa
