/- The readings of this seat's types. It proves nothing of a statement by itself. -/
import Derived.Test.YtcinkcclkembhaaAL22
import Derived.Test.YtcinkcclkembhaaRows
namespace Go.Proofs.Ytcinkcclkembhaa
open Go.AL
abbrev I : Ty := .int .i64
abbrev tSpan : Ty := .cons I (.cons I .nil)
abbrev tStamp : Ty := .cons I (.cons I (.cons I (.cons I (.cons I .nil))))
abbrev tStatus : Ty := .cons I (.cons I (.cons I (.cons I (.cons I .nil))))
abbrev tMandate : Ty := .cons I (.cons I (.cons I (.cons I (.cons I (.cons I .nil)))))
abbrev tCert : Ty := .cons I (.cons I (.cons I (.cons I (.cons I (.cons I (.cons I .nil))))))
abbrev tSignature : Ty := .cons I (.cons I (.cons I (.cons I (.cons I (.cons I (.cons I (.cons I (.cons I .nil))))))))
abbrev tSuccession : Ty := .cons I (.cons I (.cons I (.cons I .nil)))
abbrev tKey : Ty := .cons I (.cons I (.cons I (.cons I (.cons I .nil))))
abbrev tAuthority : Ty := .cons I (.cons I (.cons I .nil))
abbrev tMethod : Ty := .cons I (.cons I (.cons I (.cons I .nil)))
abbrev tStep : Ty := .cons I (.cons .bool .nil)
abbrev tPiece : Ty := .cons I (.cons (.list I) (.cons I .nil))
abbrev tRenewal : Ty := .cons I (.cons I (.cons I (.cons (.list tStep) (.cons (.list tStamp) .nil))))
abbrev tStrand : Ty := .cons (.list tPiece) (.cons (.list tRenewal) .nil)
abbrev tEvidence : Ty := .cons (.list tStrand) (.cons (.list (.list tStamp)) .nil)
abbrev tFrame : Ty := .cons (.list tKey) (.cons (.list tAuthority) (.cons (.list tMethod) (.cons I (.cons I .nil))))
abbrev tDocument : Ty := .cons I (.cons (.list .str) (.cons (.list I) .nil))
abbrev tRedacted : Ty := .cons I (.cons (.list I) (.cons (.list .bool) (.cons (.list .str) (.cons (.list I) (.cons (.list (.list I)) .nil)))))
def tyTab : List (Nat × Ty) := [
  (3, I),
  (4, .bool),
  (9, .str),
  (5, (.int .u8)),
  (25, (.int .u64)),
  (100000, .nil)]
def elTab : List (Nat × Nat) := [
  (100000, 0)]
def lkTy : List (Nat × Ty) → Nat → Ty
  | [], _ => .nil
  | p :: r, T => bif Nat.beq T p.1 then p.2 else lkTy r T
def lkEl : List (Nat × Nat) → Nat → Nat
  | [], _ => 0
  | p :: r, T => bif Nat.beq T p.1 then p.2 else lkEl r T
def tb : Tb := ⟨lkTy tyTab, lkEl elTab⟩
theorem laidOut : laidOutB Try.prog = true := by kernel_rfl
theorem follows : Try.prog.follows .mixedOrders = true := by kernel_rfl
@[go_sem] theorem ty_int : tb.ty 3 = I := by kernel_rfl
@[go_sem] theorem ok_int : TyOK Try.prog I 3 := tyB_spec (by kernel_rfl)
@[go_sem] theorem ty_bool : tb.ty 4 = .bool := by kernel_rfl
@[go_sem] theorem ok_bool : TyOK Try.prog .bool 4 := tyB_spec (by kernel_rfl)
@[go_sem] theorem ty_string : tb.ty 9 = .str := by kernel_rfl
@[go_sem] theorem ok_string : TyOK Try.prog .str 9 := tyB_spec (by kernel_rfl)
@[go_sem] theorem ty_uint8 : tb.ty 5 = (.int .u8) := by kernel_rfl
@[go_sem] theorem ok_uint8 : TyOK Try.prog (.int .u8) 5 := tyB_spec (by kernel_rfl)
@[go_sem] theorem ty_uint : tb.ty 25 = (.int .u64) := by kernel_rfl
@[go_sem] theorem ok_uint : TyOK Try.prog (.int .u64) 25 := tyB_spec (by kernel_rfl)
end Go.Proofs.Ytcinkcclkembhaa
