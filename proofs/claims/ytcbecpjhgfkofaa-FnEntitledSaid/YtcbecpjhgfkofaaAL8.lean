/- Addresses, slices, composites, rows of the call's own, each with its soundness. A general part, over any program. -/
import Derived.Test.YtcbecpjhgfkofaaAL7
set_option linter.unusedSimpArgs false
set_option linter.unusedVariables false
namespace Go.AL
open Go.RowKit

section
variable {P : Program} {cx : Cx} {σ : St} {o : Oper}

/-! ### Fields of a struct -/

theorem fs_at {t : Ty} : ∀ {fs : List Field} {o i : Nat}, FsOK P t fs o → i < t.nf → ∃ f, fs[i]? = some f ∧ f.offset = o + i ∧ TyOK P (fldT t i) f.type ∧ (fldT t i).flat1 = true := by
  induction t with
  | cons h t _ ih =>
    intro fs o i hf hi
    simp only [FsOK] at hf
    obtain ⟨f, r, e, h1, h2, h3, h4⟩ := hf
    subst e
    cases i with
    | zero => exact ⟨f, rfl, h1, h3, h2⟩
    | succ i =>
      obtain ⟨f', a1, a2, a3, a4⟩ := ih h4 (by simpa [Ty.nf] using hi)
      exact ⟨f', by simpa using a1, by omega, a3, a4⟩
  | _ => intro fs o i _ hi; exact absurd hi (by simp [Ty.nf])

theorem run_fieldAt {t : Ty} {T : TypeId} {i : Nat} (hT : TyOK P t T) (hi : i < t.nf) (w : World) (a : Addr) : (Instr.fieldAt T (.pointer (some a)) i).run P w = .ok (.pointer (some (a.add i))) w := by
  cases t with
  | cons h t =>
    simp only [TyOK] at hT
    obtain ⟨fs, h1, h2, _⟩ := hT
    obtain ⟨f, a1, a2, a3, a4⟩ := fs_at h2 hi
    have hs : ¬ (fldT (.cons h t) i).size = 0 := by rw [(flat1_size a4).1]; omega
    have a1' : fs[i]? = some f := by simpa using a1
    simp [Instr.fieldAt, run_underlying h1, a1', Instr.sureAddr, fieldPlace, run_sizeOf' a3, hs, a2]
  | _ => exact absurd hi (by simp [Ty.nf])

theorem Rd_fld {w : World} {lim : Nat → Nat} : ∀ {t : Ty} {cs : List Value} {x : t.den} {i o : Nat} {fs : List Field}, FsOK P t fs o → i < t.nf → Rd w lim t cs x → ∃ c, cs[i]? = some c ∧ Rd w lim (fldT t i) [c] (fldD t x i) := by
  intro t
  induction t with
  | cons h t _ ih =>
    intro cs x i o fs hf hi hr
    simp only [FsOK] at hf
    obtain ⟨f, r, e, h1, h2, h3, h4⟩ := hf
    obtain ⟨c1, c2, e2, r1, r2⟩ := hr
    have hl := r1.length
    rw [(flat1_size h2).1] at hl
    match c1, hl with
    | [c], _ =>
      subst e2
      cases i with
      | zero => exact ⟨c, rfl, r1⟩
      | succ i =>
        obtain ⟨c', b1, b2⟩ := ih h4 (by simpa [Ty.nf] using hi) r2
        exact ⟨c', by simpa using b1, b2⟩
  | _ => intro cs x i o fs _ hi; exact absurd hi (by simp [Ty.nf])

theorem TyOK.fs {t : Ty} {T : TypeId} {i : Nat} (hT : TyOK P t T) (hi : i < t.nf) : ∃ fs, P.underlying T = some (.struct fs) ∧ FsOK P t fs.toList 0 := by
  cases t with
  | cons h t => simp only [TyOK] at hT; obtain ⟨fs, h1, h2, _⟩ := hT; exact ⟨fs, h1, h2⟩
  | _ => exact absurd hi (by simp [Ty.nf])

variable (hd : ∀ k, o.dst = some k → k < cx.N)
include hd

theorem op_fa_ptr {T : TypeId} {x : Operand} {i : Nat} {t : Ty} {y : t.den} (ho : o.op = .fieldAddr T x i) (hc : σ.uc x) (hx : σ.un x = .ptr t y) (hT : TyOK P t T) (hi : i < t.nf) :
    OpOK P cx σ o ⟨.ptr (fldT t i) (fldD t y i), []⟩ :=
  OpOK.of_value hd fun a w lim G hh hf => by
    have h := un_ok hf x hc
    rw [hx] at h
    simp only [AVok] at h
    obtain ⟨ad, cs, h1, h2, h3⟩ := h
    obtain ⟨fs, _, hfs⟩ := hT.fs hi
    obtain ⟨c, b1, b2⟩ := Rd_fld hfs hi h3
    refine ⟨.pointer (some (ad.add i)), by simp [execOp, ho, h1, run_fieldAt hT hi w ad], ?_⟩
    simp only [AVok]
    refine ⟨_, [c], rfl, fun j u hu => ?_, b2⟩
    cases j with
    | zero =>
      have e : u = c := by simpa using hu.symm
      subst e
      obtain ⟨k1, k2⟩ := h2 i u b1
      have e0 : (ad.add i).add 0 = ad.add i := by simp [Addr.add]
      rw [e0, block_add]
      exact ⟨k1, k2⟩
    | succ j => simp at hu

theorem op_fa_box {T : TypeId} {x : Operand} {i id off : Nat} {t : Ty} (ho : o.op = .fieldAddr T x i) (hc : σ.uc x) (hx : σ.un x = .bp id off) (hl : (σ.objs id).live = true) (hT : TyOK P t T) (hi : i < t.nf) :
    OpOK P cx σ o ⟨.bp id (off + i), []⟩ :=
  OpOK.of_value hd fun a w lim G hh hf => by
    have h := un_ok hf x hc
    rw [hx] at h
    simp only [AVok] at h
    obtain ⟨hb, h⟩ := h
    obtain ⟨g, h1, h2⟩ := h hl
    have e : (⟨g, off, none⟩ : Addr).add i = ⟨g, off + i, none⟩ := by unfold Addr.add; split <;> simp_all
    refine ⟨.pointer (some ⟨g, off + i, none⟩), by simp [execOp, ho, h2, run_fieldAt hT hi w, e], ?_⟩
    simp only [AVok]
    exact ⟨hb, fun _ => ⟨g, h1, rfl⟩⟩

omit hd in
theorem run_field {t : Ty} {T : TypeId} {i : Nat} (hT : TyOK P t T) (hi : i < t.nf) (w : World) (cs : Array Value) (c : Value) (hcs : cs[i]? = some c) : (Instr.field T (.agg cs) i).run P w = .ok c w := by
  obtain ⟨fs, h1, h2⟩ := hT.fs hi
  obtain ⟨f, a1, a2, a3, a4⟩ := fs_at h2 hi
  have a1' : fs[i]? = some f := by simpa using a1
  simp only [Nat.zero_add] at a2
  simp [Instr.field, run_underlying h1, a1', part, run_isAgg' a3, (flat1_size a4).2, asAgg, a2, hcs]

theorem op_field_rd {T : TypeId} {x : Operand} {i : Nat} {t : Ty} {y : t.den} (ho : o.op = .field T x i) (hc : σ.uc x) (hx : σ.un x = .rd t y) (hT : TyOK P t T) (hi : i < t.nf) :
    OpOK P cx σ o ⟨.rd (fldT t i) (fldD t y i), []⟩ :=
  OpOK.of_value hd fun a w lim G hh hf => by
    have h := un_ok hf x hc
    rw [hx] at h
    simp only [AVok] at h
    obtain ⟨fs, _, hfs⟩ := hT.fs hi
    obtain ⟨cs, h1, h2⟩ := h
    obtain ⟨c, b1, b2⟩ := Rd_fld hfs hi h1
    have hg : t.isAgg = true := by cases t <;> first | rfl | exact absurd hi (by simp [Ty.nf])
    have hv : a.eval x = .agg cs.toArray := by rw [h2]; simp [mkV, hg]
    have hfl : (fldT t i).flat1 = true := (fs_at hfs hi).choose_spec.2.2.2
    refine ⟨c, by simp [execOp, ho, hv, run_field hT hi w cs.toArray c (by simpa using b1)], ?_⟩
    simp only [AVok]
    exact ⟨[c], b2, (mkV_flat hfl c).symm⟩

theorem op_field_agg {T : TypeId} {x : Operand} {i : Nat} {t : Ty} {cs : List AV} (ho : o.op = .field T x i) (hc : σ.uc x) (hx : σ.un x = .agg cs) (hT : TyOK P t T) (hi : i < t.nf) (hn : i < cs.length) :
    OpOK P cx σ o ⟨cs.getD i .any, []⟩ :=
  OpOK.of_value hd fun a w lim G hh hf => by
    have h := un_ok hf x hc
    rw [hx] at h
    simp only [AVok] at h
    obtain ⟨arr, h1, h2⟩ := h
    have hlt : i < arr.length := by rw [h2.length]; exact hn
    refine ⟨arr.getD i undef, ?_, h2.get i hn⟩
    simp [execOp, ho, h1, run_field hT hi w arr.toArray (arr.getD i undef) (by simp [List.getD_eq_getElem?_getD, List.getElem?_eq_getElem hlt])]

theorem op_extract {x : Operand} {i : Nat} {cs : List AV} (ho : o.op = .extract x i) (hc : σ.uc x) (hx : σ.un x = .tup cs) (hn : i < cs.length) : OpOK P cx σ o ⟨cs.getD i .any, []⟩ :=
  OpOK.of_value hd fun a w lim G hh hf => by
    have h := un_ok hf x hc
    rw [hx] at h
    simp only [AVok] at h
    obtain ⟨arr, h1, h2⟩ := h
    have hlt : i < arr.length := by rw [h2.length]; exact hn
    refine ⟨arr.getD i undef, ?_, h2.get i hn⟩
    simp [execOp, ho, h1, Instr.extract, List.getD_eq_getElem?_getD, List.getElem?_eq_getElem hlt]

theorem op_ia {T : TypeId} {x ix : Operand} {t : Ty} {k : IntKind} (ho : o.op = .indexAddr T x ix) (hx : σ.tc (.list t) x) (hi : σ.tc (.int k) ix) (hT : TyOK P (.list t) T)
    (h0 : 0 ≤ σ.ti k ix) (h1 : σ.ti k ix < ((σ.tv (.list t) x).length : Int)) :
    OpOK P cx σ o ⟨.ptr t ((σ.tv (.list t) x).getD (σ.ti k ix).toNat t.dflt), []⟩ :=
  OpOK.of_value hd fun a w lim G hh hf => by
    obtain ⟨A, cap, e1, e2, e3, e4⟩ := (tc_ok hh hf hx).list
    obtain ⟨i1, _⟩ := (tc_int hh hf hi)
    generalize σ.tv (.list t) x = xs at *
    generalize hn : σ.ti k ix = n at *
    have hlt : (n : Int).toNat < xs.length := by
      have h0' : (0 : Int) ≤ n := h0
      have h1' : (n : Int) < xs.length := h1
      omega
    obtain ⟨ad, ds, a1, a2, a3, a4⟩ := e4 n.toNat hlt
    subst a1
    simp only [TyOK] at hT
    obtain ⟨e, u1, u2, _⟩ := hT
    refine ⟨.pointer (some (ad.add (n.toNat * t.size))), ?_, ?_⟩
    · simp [execOp, ho, e1, i1, Instr.indexAt, asIntOf, run_underlying u1, h0, h1, run_sizeOf' u2]
    · simp only [AVok]
      refine ⟨_, ds, rfl, a2, ?_⟩
      have : xs.getD n.toNat t.dflt = xs[n.toNat] := by simp [List.getD_eq_getElem?_getD, List.getElem?_eq_getElem hlt]
      rw [this]
      exact a4

theorem op_index_str {T : TypeId} {x ix : Operand} {k : IntKind} (ho : o.op = .index T x ix) (hx : σ.tc .str x) (hi : σ.tc (.int k) ix) (hT : TyOK P .str T)
    (h0 : 0 ≤ σ.ti k ix) (h1 : σ.ti k ix < ((σ.ts x).size : Int)) :
    OpOK P cx σ o ⟨.rd (.int .u8) (((σ.ts x).data.toList.getD (σ.ti k ix).toNat 0).toNat : Int), []⟩ :=
  OpOK.of_value hd fun a w lim G hh hf => by
    obtain ⟨e1, _⟩ := (tc_str hh hf hx)
    obtain ⟨i1, _⟩ := (tc_int hh hf hi)
    generalize σ.ts x = s at *
    generalize hn : σ.ti k ix = n at *
    have h0' : (0 : Int) ≤ n := h0
    have h1' : (n : Int) < s.size := h1
    have hlt : (n : Int).toNat < s.size := by omega
    simp only [TyOK] at hT
    have hs : s[n.toNat]? = some s[n.toNat] := getElem?_pos s _ hlt
    refine ⟨.int .u8 (s[n.toNat].toNat : Int), ?_, ?_⟩
    · simp [execOp, ho, e1, i1, Instr.index, asIntOf, run_underlying hT.1, h0', hs]
    · simp only [AVok]
      have hd' : s.data.toList.getD n.toNat 0 = s[n.toNat] := by
        have : n.toNat < s.data.toList.length := by simpa using hlt
        rw [List.getD_eq_getElem?_getD, List.getElem?_eq_getElem this]; rfl
      rw [hd']
      refine RdV.mk_int ?_
      have := (s[n.toNat]).toNat_lt
      simp [IntKind.min, IntKind.max, IntKind.signed, IntKind.bits]
      omega

end
end Go.AL
