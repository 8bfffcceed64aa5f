/- Strings: []byte(s), string(b), s + t. A general part, over any program. -/
import Derived.Test.YtfkdkblbhilghaaB2
import Derived.Lib.ConvBytes
import Derived.Laws.BytesString
set_option linter.unusedSimpArgs false
set_option linter.unusedVariables false
namespace Go.AL
open Go.RowKit

/-- The bytes of a string, as integers. -/
def byL (s : ByteArray) : List Int := s.data.toList.map (fun c => (c.toNat : Int))
/-- The string of a list of bytes. -/
def byS (l : List Int) : ByteArray := l.foldl (fun r n => r.push (UInt8.ofNat n.toNat)) ByteArray.empty

theorem byL_len (s : ByteArray) : (byL s).length = s.size := by
  unfold byL
  rw [List.length_map, Array.length_toList]
  rfl
theorem byS_go : ∀ (l : List Int) (s : ByteArray), (l.foldl (fun r n => r.push (UInt8.ofNat n.toNat)) s).size = s.size + l.length
  | [], s => rfl
  | n :: l, s => by
    rw [List.foldl_cons, byS_go l, ByteArray.size_push, List.length_cons]
    omega
theorem byS_size (l : List Int) : (byS l).size = l.length := by
  unfold byS
  rw [byS_go]
  exact Nat.zero_add _

section
variable {P : Program} {cx : Cx} {σ : St} {o : Oper} (hd : ∀ k, o.dst = some k → k < cx.N)
include hd

theorem op_s2b {S T : TypeId} {x : Operand} (ho : o.op = .convert S T x) (hS : TyOK P .str S) (hT : TyOK P (.list (.int .u8)) T) (hx : σ.tc .str x) :
    OpOK P cx σ o ⟨.rd (.list (.int .u8)) (byL (σ.ts x)), []⟩ := by
  intro a w K Q hs hK
  obtain ⟨lim, G, hh, hf⟩ := hs
  obtain ⟨h1, h2⟩ := tc_str hh hf hx
  simp only [TyOK] at hS hT
  obtain ⟨e, hT1, ⟨hE, _⟩, _, _⟩ := hT
  have hr : (execOp a.eval o).run P w = .ok (.value (.slice (some ⟨w.heap.size, 0, none⟩) (σ.ts x).size (grownCap w (σ.ts x).size 0 e))) (Lib.bytesWorld w e (σ.ts x)) := by
    simp [execOp, ho, h1, Lib.run_convert_string_bytes w S T e (σ.ts x) hS.1 hT1 hE]
  unfold Oper.wp
  rw [hr]
  refine hK _ _ ?_
  rw [app_nil]
  have hk : Keeps w lim (Lib.bytesWorld w e (σ.ts x)) (upd lim w.heap.size (σ.ts x).size) :=
    ⟨fun ad u hc _ => by rw [Lib.bytesWorld_old _ _ _ _ (World.block_lt_of_cell? _ _ hc)]; exact hc, fun b hb => by rw [upd_ne _ _ _ _ (Nat.ne_of_lt hb)]; exact Nat.le_refl _⟩
  have hB : cx.B ≤ w.heap.size := by rw [hh.start]; exact hh.below.size
  refine ⟨upd lim w.heap.size (σ.ts x).size, G, ?_, Fr.put (h := hf.keeps hk (Ext.refl _ _)) hd ?_⟩
  · rw [put_objs]
    refine ⟨hh.start, hh.below.trans ⟨rfl, rfl, rfl, by rw [Lib.bytesWorld_size]; omega, fun k hk _ => Lib.bytesWorld_at_old _ _ _ _ (by omega)⟩, fun b hb hL => by rw [upd_ne _ _ _ _ (by omega)]; exact hh.lim0 b hb hL, fun id => ?_, hh.sep, hh.mine, hh.lent, hh.nob⟩
    by_cases hl : (σ.objs id).live = true
    · exact (hh.obj id).keeps hk (Ext.refl _ _) fun g hg => by
        have := ((hh.obj id).block_ge hl g hg).2
        exact ⟨Lib.bytesWorld_at_old _ _ _ _ this, upd_ne _ _ _ _ (Nat.ne_of_lt this)⟩
    · cases ho2 : σ.objs id with
      | unborn => simp only [ObjOK]
      | dead => simp only [ObjOK]
      | _ => rw [ho2] at hl; exact absurd rfl hl
  · simp only [AVok]
    have hge := grownCap_ge w (σ.ts x).size 0 e
    have hcm : grownCap w (σ.ts x).size 0 e ≤ maxLen := grownCap_le_maxLen w (σ.ts x).size 0 e (by simp only [maxLen] at h2 ⊢; omega)
    refine ⟨[.slice (some ⟨w.heap.size, 0, none⟩) (σ.ts x).size (grownCap w (σ.ts x).size 0 e)], ⟨some ⟨w.heap.size, 0, none⟩, _, by rw [byL_len], by rw [byL_len]; exact hge, hcm, fun i hi => ?_⟩, rfl⟩
    rw [byL_len] at hi
    have hil : i < (σ.ts x).data.toList.length := by rw [Array.length_toList]; exact hi
    have hc := Lib.bytesWorld_cell w e (σ.ts x) i hi
    have hg : (byL (σ.ts x))[i]'(by rw [byL_len]; exact hi) = (((σ.ts x).data.toList.getD i 0).toNat : Int) := by
      simp only [byL, List.getElem_map]
      rw [List.getD_eq_getElem?_getD, List.getElem?_eq_getElem hil]
      rfl
    refine ⟨_, [.int .u8 (((σ.ts x).data.toList.getD i 0).toNat : Int)], rfl, ?_, rfl, ?_⟩
    · intro j u hj
      cases j with
      | zero =>
        simp only [List.getElem?_cons_zero, Option.some.injEq] at hj
        subst hj
        rw [add_add']
        have e1 : (⟨w.heap.size, 0, none⟩ : Addr).add (i * (Ty.int .u8).size + 0) = ⟨w.heap.size, i, none⟩ := by
          unfold Addr.add
          by_cases h0 : i = 0 <;> simp [h0, Ty.size]
        rw [e1]
        refine ⟨hc, ?_⟩
        show i < upd lim w.heap.size (σ.ts x).size ((⟨w.heap.size, 0, none⟩ : Addr).add (i * (Ty.int .u8).size)).block
        rw [block_add]
        show i < upd lim w.heap.size (σ.ts x).size w.heap.size
        rw [upd_same]
        exact hi
      | succ j => simp at hj
    · rw [hg]
      refine ⟨rfl, ?_⟩
      have hu := ((σ.ts x).data.toList.getD i 0).toNat_lt
      have e0 : IntKind.u8.min = 0 := by decide
      have e9 : IntKind.u8.max = 255 := by decide
      rw [e0, e9]
      have h9 : ((((σ.ts x).data.toList.getD i 0).toNat : Nat) : Int) ≤ 255 := by omega
      exact ⟨Int.natCast_nonneg _, h9⟩

theorem op_b2s {S T : TypeId} {x : Operand} (ho : o.op = .convert S T x) (hS : TyOK P (.list (.int .u8)) S) (hT : TyOK P .str T) (hx : σ.tc (.list (.int .u8)) x) :
    OpOK P cx σ o ⟨.rd .str (byS (σ.tv (.list (.int .u8)) x)), []⟩ :=
  OpOK.of_value hd fun a w lim G hh hf => by
    obtain ⟨A, cap, h1, h2, h3, h4⟩ := (tc_ok hh hf hx).list
    simp only [TyOK] at hS hT
    obtain ⟨e, hS1, ⟨hE, _⟩, _, _⟩ := hS
    refine ⟨.string (byS (σ.tv (.list (.int .u8)) x)), ?_, ?_⟩
    · have hr : (convert S T (.slice A (σ.tv (.list (.int .u8)) x).length cap)).run P w = .ok (.string (byS (σ.tv (.list (.int .u8)) x))) w := by
        rw [run_convert_bytes_string w S T e A _ cap hS1 hE hT.1]
        cases A with
        | none =>
          have h0 : σ.tv (.list (.int .u8)) x = ([] : List Int) := by
            apply List.eq_nil_of_length_eq_zero
            rcases Nat.eq_zero_or_pos (List.length (σ.tv (.list (.int .u8)) x)) with h | h
            · exact h
            · obtain ⟨a', _, h5, _⟩ := h4 0 h
              cases h5
          rw [h0]
          rfl
        | some ad =>
          refine run_bytesToString w ad _ cap _ ?_
          have hcs : ∀ j v, ((σ.tv (.list (.int .u8)) x : List Int).map (Value.int .u8))[j]? = some v → w.cell? (ad.add j) = some v := by
            intro j v hj
            rw [List.getElem?_map] at hj
            cases hx2 : (σ.tv (.list (.int .u8)) x : List Int)[j]? with
            | none => rw [hx2] at hj; cases hj
            | some n =>
              rw [hx2] at hj
              injection hj with hj
              obtain ⟨hjl, hjn⟩ := List.getElem?_eq_some_iff.1 hx2
              obtain ⟨a', ds, h5, h6, h7, h8⟩ := h4 j hjl
              injection h5 with h5
              subst h5
              have h9 : ds = [.int .u8 ((σ.tv (.list (.int .u8)) x : List Int)[j])] := h8.1
              have := (h6 0 _ (by rw [h9]; rfl)).1
              rw [add_add'] at this
              rw [← hj, ← hjn]
              simpa [Ty.size] using this
          have := run_loadCells_list (P := P) w ad _ hcs
          rw [List.length_map] at this
          exact this
      simp [execOp, ho, h1, hr]
    · simp only [AVok]
      refine ⟨_, ⟨rfl, ?_⟩, rfl⟩
      rw [byS_size]
      exact Nat.le_trans h2 h3

theorem op_add_str {T T' : TypeId} {x y : Operand} (ho : o.op = .binOp .add T x y T') (hx : σ.tc .str x) (hy : σ.tc .str y) (hl : (σ.ts x).size + (σ.ts y).size ≤ maxLen) :
    OpOK P cx σ o ⟨.rd .str (σ.ts x ++ σ.ts y), []⟩ :=
  OpOK.of_value hd fun a w lim G hh hf => by
    obtain ⟨h1, _⟩ := tc_str hh hf hx
    obtain ⟨h2, _⟩ := tc_str hh hf hy
    refine ⟨.string (σ.ts x ++ σ.ts y), ?_, ?_⟩
    · have h3 : ¬ (((σ.ts x).size + (σ.ts y).size : Nat) : Int) > IntKind.i64.max := by
        simp [IntKind.max, IntKind.signed, IntKind.bits]
        simp [maxLen] at hl
        omega
      simp [execOp, ho, h1, h2, eqGuard, binOp, Op.stringOp]
      simp [maxLen] at hl
      omega
    · simp only [AVok]
      refine ⟨_, ⟨rfl, ?_⟩, rfl⟩
      rw [ByteArray.size_append]
      exact hl

end
end Go.AL
