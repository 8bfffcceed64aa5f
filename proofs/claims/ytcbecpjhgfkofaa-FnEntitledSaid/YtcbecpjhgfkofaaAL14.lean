/- On what an operation's reckoning hangs: its operands, and the objects that they name. A general part, over any program. -/
import Derived.Test.YtcbecpjhgfkofaaAL13
set_option linter.unusedSimpArgs false
set_option linter.unusedVariables false
namespace Go.AL
open Go.RowKit

mutual
def AV.ids : AV → List Nat
  | .own id => [id]
  | .bp id _ => [id]
  | .ep id _ _ => [id]
  | .ef id _ _ _ => [id]
  | .agg cs => AV.idsL cs
  | .tup cs => AV.idsL cs
  | .gd _ a => a.ids
  | .fn _ cs => AV.idsL cs
  | _ => []
def AV.idsL : List AV → List Nat
  | [] => []
  | a :: r => a.ids ++ AV.idsL r
end

theorem ids_un : ∀ a : AV, a.un.ids = a.ids
  | .gd _ a => by simp only [AV.un, AV.ids]; exact ids_un a
  | .any | .rd _ _ | .ptr _ _ | .nils | .own _ | .bp _ _ | .ep _ _ _ | .ef _ _ _ _ | .agg _ | .tup _ | .fn _ _ => rfl

structure Agr (σ σ' : St) (L : List Operand) : Prop where
  ev : ∀ x, x ∈ L → σ.ev x = σ'.ev x
  ob : ∀ x, x ∈ L → ∀ j, j ∈ (σ.ev x).ids → σ.objs j = σ'.objs j

theorem tvd_congr {ob ob' : Nat → AObj} : ∀ (t : Ty) (av : AV), (∀ j, j ∈ av.ids → ob j = ob' j) → tvd ob t av = tvd ob' t av ∧ tvc ob t av = tvc ob' t av := by
  intro t
  induction t with
  | list t _ =>
    intro av h
    cases av <;> try exact ⟨rfl, rfl⟩
    rename_i id
    simp only [tvd, tvc]
    have := h id (by simp [AV.ids])
    simp only [rowOf, this]
    exact ⟨trivial, trivial⟩
  | cons h t ih1 ih2 =>
    intro av hj
    cases av <;> try exact ⟨rfl, rfl⟩
    rename_i cs
    cases cs with
    | nil => exact ⟨rfl, rfl⟩
    | cons c cs =>
      simp only [tvd, tvc]
      simp only [AV.ids, AV.idsL, List.mem_append] at hj
      have a1 := ih1 c fun j h => hj j (.inl h)
      have a2 := ih2 (.agg cs) fun j h => hj j (.inr (by simpa only [AV.ids] using h))
      exact ⟨by rw [a1.1, a2.1], by rw [a1.2, a2.2]⟩
  | nil =>
    intro av hj
    cases av <;> try exact ⟨rfl, rfl⟩
    rename_i cs
    cases cs <;> exact ⟨rfl, rfl⟩
  | _ => intro av hj; cases av <;> exact ⟨rfl, rfl⟩

section
variable {σ σ' : St} {L : List Operand} (h : Agr σ σ' L) {x : Operand} (hx : x ∈ L)
include h hx

theorem Agr.un : σ.un x = σ'.un x := by unfold St.un; rw [h.ev x hx]
theorem Agr.uc : σ.uc x = σ'.uc x := by unfold St.uc; rw [h.ev x hx]
theorem Agr.obu : ∀ j, j ∈ (σ.un x).ids → σ.objs j = σ'.objs j := fun j hj => h.ob x hx j (by unfold St.un at hj; rwa [ids_un] at hj)
theorem Agr.tv (t : Ty) : σ.tv t x = σ'.tv t x := by
  unfold St.tv
  rw [← h.un hx]
  exact (tvd_congr t _ (h.obu hx)).1
theorem Agr.tc (t : Ty) : σ.tc t x = σ'.tc t x := by
  unfold St.tc
  rw [← h.un hx, h.uc hx, (tvd_congr t _ (h.obu hx)).2]
theorem Agr.ti (k : IntKind) : σ.ti k x = σ'.ti k x := h.tv hx _
theorem Agr.tb : σ.tb x = σ'.tb x := h.tv hx _
theorem Agr.ts : σ.ts x = σ'.ts x := h.tv hx _

omit h hx in
theorem oneC_congr {ob ob' : Nat → AObj} (a : AV) (hj : ∀ j, j ∈ a.ids → ob j = ob' j) : oneC ob a = oneC ob' a := by
  cases a <;> simp only [oneC]
  rename_i id
  rw [hj id (by simp [AV.ids])]

omit h hx in
theorem onesC_congr {ob ob' : Nat → AObj} : ∀ (cs : List AV), (∀ j, j ∈ AV.idsL cs → ob j = ob' j) → onesC ob cs = onesC ob' cs
  | [], _ => rfl
  | c :: cs, hj => by
    simp only [AV.idsL, List.mem_append] at hj
    simp only [onesC]
    rw [oneC_congr c fun j h => hj j (.inl h), onesC_congr cs fun j h => hj j (.inr h)]

omit h hx in
theorem cellsC_congr {ob ob' : Nat → AObj} (t : Ty) (a : AV) (hj : ∀ j, j ∈ a.ids → ob j = ob' j) : cellsC ob t a = cellsC ob' t a := by
  cases a <;> simp only [cellsC]
  · rename_i id
    rw [hj id (by simp [AV.ids])]
  · rename_i cs
    rw [onesC_congr cs fun j h => hj j (by simpa only [AV.ids] using h)]

theorem Agr.cellsC (t : Ty) : AL.cellsC σ.objs t (σ.un x) = AL.cellsC σ'.objs t (σ'.un x) := by
  rw [← h.un hx]; exact cellsC_congr t _ (h.obu hx)
theorem Agr.oneC : AL.oneC σ.objs (σ.un x) = AL.oneC σ'.objs (σ'.un x) := by
  rw [← h.un hx]; exact oneC_congr _ (h.obu hx)
end

section
variable {σ σ' : St} {L : List Operand} (h : Agr σ σ' L)
include h

theorem Agr.setAll : ∀ (ps : List (Nat × Operand)) (cs : List AV), (∀ p, p ∈ ps → p.2 ∈ L) → AL.setAll σ ps cs = AL.setAll σ' ps cs
  | [], _, _ => rfl
  | p :: r, cs, hp => by
    simp only [AL.setAll]
    rw [h.un (hp p (by simp)), Agr.setAll r _ fun q hq => hp q (by simp [hq])]
theorem Agr.setAllC (n : Nat) : ∀ (ps : List (Nat × Operand)), (∀ p, p ∈ ps → p.2 ∈ L) → AL.setAllC σ n ps = AL.setAllC σ' n ps
  | [], _ => rfl
  | p :: r, hp => by
    simp only [AL.setAllC]
    rw [h.uc (hp p (by simp)), h.oneC (hp p (by simp)), Agr.setAllC n r fun q hq => hp q (by simp [hq])]
theorem Agr.litD (t : Ty) : ∀ (ps : List (Nat × Operand)), (∀ p, p ∈ ps → p.2 ∈ L) → AL.litD σ t ps = AL.litD σ' t ps
  | [], _ => rfl
  | p :: r, hp => by
    simp only [AL.litD]
    rw [h.tv (hp p (by simp)), Agr.litD t r fun q hq => hp q (by simp [hq])]
theorem Agr.litC (t : Ty) : ∀ (k : Nat) (ps : List (Nat × Operand)), (∀ p, p ∈ ps → p.2 ∈ L) → AL.litC σ t k ps = AL.litC σ' t k ps
  | _, [], _ => rfl
  | k, p :: r, hp => by
    simp only [AL.litC]
    rw [h.tc (hp p (by simp)), Agr.litC t (k + 1) r fun q hq => hp q (by simp [hq])]
theorem Agr.argD (tb : Tb) : ∀ (l : List (Operand × TypeId)), (∀ p, p ∈ l → p.1 ∈ L) → AL.argD σ tb l = AL.argD σ' tb l
  | [], _ => rfl
  | p :: r, hp => by
    simp only [AL.argD]
    rw [h.tv (hp p (by simp)), Agr.argD tb r fun q hq => hp q (by simp [hq])]
theorem Agr.argC (tb : Tb) : ∀ (l : List (Operand × TypeId)), (∀ p, p ∈ l → p.1 ∈ L) → AL.argC σ tb l = AL.argC σ' tb l
  | [], _ => rfl
  | p :: r, hp => by
    simp only [AL.argC]
    rw [h.tc (hp p (by simp)), Agr.argC tb r fun q hq => hp q (by simp [hq])]
end

theorem eff_congr {σ σ' : St} {tb : Tb} {P : Program} {id : Nat} {d : Option Nat} {op : Op} (h : Agr σ σ' op.operands.toList) (hid : σ.objs id = σ'.objs id) :
    peff tb id σ op = peff tb id σ' op ∧ pvc P tb id σ d op = pvc P tb id σ' d op := by
  cases op with
  | move x => simp only [peff, pvc]; rw [h.ev x (by simp [Op.operands])]; all_goals exact ⟨by first | rfl | trivial, by first | rfl | trivial⟩
  | assign x => simp only [peff, pvc]; rw [h.ev x (by simp [Op.operands])]; all_goals exact ⟨by first | rfl | trivial, by first | rfl | trivial⟩
  | pick c x y =>
    have hc : c ∈ (Op.pick c x y).operands.toList := by simp [Op.operands]
    have hx : x ∈ (Op.pick c x y).operands.toList := by simp [Op.operands]
    have hy : y ∈ (Op.pick c x y).operands.toList := by simp [Op.operands]
    simp only [peff, pvc]
    rw [h.tb hc, h.tb hx, h.tb hy, h.tc hc, h.tc hx, h.tc hy]
    all_goals exact ⟨by first | rfl | trivial, by first | rfl | trivial⟩
  | box T x =>
    have hx : x ∈ (Op.box T x).operands.toList := by simp [Op.operands]
    simp only [peff, pvc]
    rw [h.uc hx, h.cellsC hx, h.un hx, hid]
    all_goals exact ⟨by first | rfl | trivial, by first | rfl | trivial⟩
  | alloc T => simp only [peff, pvc]; rw [hid]; all_goals exact ⟨by first | rfl | trivial, by first | rfl | trivial⟩
  | load T x =>
    have hx : x ∈ (Op.load T x).operands.toList := by simp [Op.operands]
    have hob := h.obu hx
    simp only [peff, pvc]
    rw [h.uc hx, ← h.un hx]
    cases hu : σ.un x <;> try exact ⟨rfl, rfl⟩
    rw [hu] at hob
    simp only [AV.ids, List.mem_singleton, forall_eq] at hob
    simp only [hob]
    all_goals exact ⟨by first | rfl | trivial, by first | rfl | trivial⟩
  | store T x y =>
    have hx : x ∈ (Op.store T x y).operands.toList := by simp [Op.operands]
    have hy : y ∈ (Op.store T x y).operands.toList := by simp [Op.operands]
    have hob := h.obu hx
    simp only [peff, pvc]
    rw [h.uc hx, ← h.un hx, h.uc hy, h.cellsC hy, h.un hy]
    cases hu : σ.un x <;> try exact ⟨rfl, rfl⟩
    all_goals rw [hu] at hob
    all_goals simp only [AV.ids, List.mem_singleton, forall_eq] at hob
    all_goals simp only [hob, h.tv hy, h.tc hy]
    all_goals exact ⟨by first | rfl | trivial, by first | rfl | trivial⟩
  | makeFunc fn first caps =>
    cases fn with
    | func f =>
      simp only [peff, pvc]
      cases h1 : first.toList with
      | cons _ _ => exact ⟨rfl, rfl⟩
      | nil =>
        cases h2 : caps.toList with
        | nil => exact ⟨rfl, rfl⟩
        | cons x r =>
          cases r with
          | cons _ _ => exact ⟨rfl, rfl⟩
          | nil =>
            have hx : x ∈ (Op.makeFunc (.func f) first caps).operands.toList := by
              simp only [Op.operands, Array.toList_append, h1, h2]
              simp
            simp only
            rw [h.uc hx, h.un hx]
            exact ⟨rfl, rfl⟩
    | _ => exact ⟨rfl, rfl⟩
  | nilCheck x =>
    have hx : x ∈ (Op.nilCheck x).operands.toList := by simp [Op.operands]
    have hob := h.obu hx
    simp only [peff, pvc]
    rw [h.uc hx, ← h.un hx]
    cases hu : σ.un x <;> try exact ⟨rfl, rfl⟩
    all_goals rw [hu] at hob
    all_goals simp only [AV.ids, List.mem_singleton, forall_eq] at hob
    all_goals simp only [hob]
    all_goals exact ⟨by first | rfl | trivial, by first | rfl | trivial⟩
  | fieldAddr T x i =>
    have hx : x ∈ (Op.fieldAddr T x i).operands.toList := by simp [Op.operands]
    have hob := h.obu hx
    simp only [peff, pvc]
    rw [h.uc hx, ← h.un hx]
    cases hu : σ.un x <;> try exact ⟨rfl, rfl⟩
    all_goals rw [hu] at hob
    all_goals simp only [AV.ids, List.mem_singleton, forall_eq] at hob
    all_goals simp only [hob]
    all_goals exact ⟨by first | rfl | trivial, by first | rfl | trivial⟩
  | field T x i =>
    have hx : x ∈ (Op.field T x i).operands.toList := by simp [Op.operands]
    simp only [peff, pvc]
    rw [h.uc hx, ← h.un hx]
    all_goals exact ⟨by first | rfl | trivial, by first | rfl | trivial⟩
  | extract x i =>
    have hx : x ∈ (Op.extract x i).operands.toList := by simp [Op.operands]
    simp only [peff, pvc]
    rw [h.uc hx, ← h.un hx]
    all_goals exact ⟨by first | rfl | trivial, by first | rfl | trivial⟩
  | indexAddr T x ix =>
    have hx : x ∈ (Op.indexAddr T x ix).operands.toList := by simp [Op.operands]
    have hi : ix ∈ (Op.indexAddr T x ix).operands.toList := by simp [Op.operands]
    simp only [peff, pvc]
    cases tb.ty T <;> try exact ⟨rfl, rfl⟩
    simp only [iaE, iaC]
    have hob := h.obu hx
    rw [h.tv hx, h.ti hi, h.tc hx, h.tc hi, h.uc hx, ← h.un hx]
    cases hu : σ.un x <;> try exact ⟨rfl, rfl⟩
    rw [hu] at hob
    simp only [AV.ids, List.mem_singleton, forall_eq] at hob
    simp only [hob]
    all_goals exact ⟨by first | rfl | trivial, by first | rfl | trivial⟩
  | makeSlice T l c =>
    have hl : l ∈ (Op.makeSlice T l c).operands.toList := by simp [Op.operands]
    have hc : c ∈ (Op.makeSlice T l c).operands.toList := by simp [Op.operands]
    simp only [peff, pvc, h.ti hl, h.ti hc, h.tc hl, h.tc hc, hid]
    all_goals exact ⟨by first | rfl | trivial, by first | rfl | trivial⟩
  | index T x ix =>
    have hx : x ∈ (Op.index T x ix).operands.toList := by simp [Op.operands]
    have hi : ix ∈ (Op.index T x ix).operands.toList := by simp [Op.operands]
    simp only [peff, pvc]
    rw [h.ts hx, h.ti hi, h.tc hx, h.tc hi, h.uc hx, h.un hx]
    all_goals exact ⟨by first | rfl | trivial, by first | rfl | trivial⟩
  | slice T x lo hi mx =>
    cases mx with
    | some _ => exact ⟨rfl, rfl⟩
    | none =>
      have hx : x ∈ (Op.slice T x lo hi none).operands.toList := by simp [Op.operands]
      simp only [peff, pvc]
      cases tb.ty T <;> try exact ⟨rfl, rfl⟩
      simp only [slD, slC]
      rw [h.tv hx, h.tc hx]
      have hlo : ∀ y, lo = some y → σ.ti .i64 y = σ'.ti .i64 y ∧ σ.tc (.int .i64) y = σ'.tc (.int .i64) y := by
        intro y e
        have hy : y ∈ (Op.slice T x lo hi none).operands.toList := by subst e; simp [Op.operands]
        exact ⟨h.ti hy _, h.tc hy _⟩
      have hhi : ∀ y, hi = some y → σ.ti .i64 y = σ'.ti .i64 y ∧ σ.tc (.int .i64) y = σ'.tc (.int .i64) y := by
        intro y e
        have hy : y ∈ (Op.slice T x lo hi none).operands.toList := by subst e; simp [Op.operands]
        exact ⟨h.ti hy _, h.tc hy _⟩
      cases lo with
      | none => cases hi with
        | none => exact ⟨rfl, rfl⟩
        | some y => simp only [(hhi y rfl).1, (hhi y rfl).2]; all_goals exact ⟨by first | rfl | trivial, by first | rfl | trivial⟩
      | some z => cases hi with
        | none => simp only [(hlo z rfl).1, (hlo z rfl).2]; all_goals exact ⟨by first | rfl | trivial, by first | rfl | trivial⟩
        | some y => simp only [(hhi y rfl).1, (hhi y rfl).2, (hlo z rfl).1, (hlo z rfl).2]; all_goals exact ⟨by first | rfl | trivial, by first | rfl | trivial⟩
  | build T ps =>
    have hp : ∀ p, p ∈ ps.toList → p.2 ∈ (Op.build T ps).operands.toList := fun p hp => by simp only [Op.operands, List.mem_map]; exact ⟨p, hp, rfl⟩
    simp only [peff, pvc]
    rw [h.setAll _ _ hp]
    cases tb.ty T <;> try exact ⟨rfl, rfl⟩
    simp only
    rw [h.setAllC _ _ hp]
    all_goals exact ⟨by first | rfl | trivial, by first | rfl | trivial⟩
  | buildSlice T n ps =>
    have hp : ∀ p, p ∈ ps.toList → p.2 ∈ (Op.buildSlice T n ps).operands.toList := fun p hp => by simp only [Op.operands, List.mem_map]; exact ⟨p, hp, rfl⟩
    simp only [peff, pvc]
    rw [hid]
    cases tb.ty T <;> try exact ⟨rfl, rfl⟩
    simp only
    rw [h.litD _ _ hp, h.litC _ _ _ hp]
    all_goals exact ⟨by first | rfl | trivial, by first | rfl | trivial⟩
  | binOp op T x y T' =>
    have hx : x ∈ (Op.binOp op T x y T').operands.toList := by simp [Op.operands]
    have hy : y ∈ (Op.binOp op T x y T').operands.toList := by simp [Op.operands]
    simp only [peff, pvc, h.ti hx, h.ti hy, h.tb hx, h.tb hy, h.ts hx, h.ts hy, h.tc hx, h.tc hy, h.tv hx, h.tv hy]
    all_goals exact ⟨by first | rfl | trivial, by first | rfl | trivial⟩
  | unOp op T x =>
    have hx : x ∈ (Op.unOp op T x).operands.toList := by simp [Op.operands]
    simp only [peff, pvc, h.tb hx, h.tc hx]
    all_goals exact ⟨by first | rfl | trivial, by first | rfl | trivial⟩
  | convert S T x =>
    have hx : x ∈ (Op.convert S T x).operands.toList := by simp [Op.operands]
    simp only [peff, pvc, h.ti hx, h.tc hx]
    all_goals exact ⟨by first | rfl | trivial, by first | rfl | trivial⟩
  | call c =>
    obtain ⟨callee, as, ts⟩ := c
    cases callee with
    | builtin b =>
      have hm : ∀ x, x ∈ as.toList → x ∈ (Op.call { callee := .builtin b, args := as, argTypes := ts }).operands.toList := fun x hx => by simp [Op.operands, Call.operands]; simpa using hx
      have two : ∀ (l : List Operand) (q : List TypeId), as.toList = l → ts.toList = q → peff tb id σ (.call { callee := .builtin b, args := as, argTypes := ts }) = peff tb id σ' (.call { callee := .builtin b, args := as, argTypes := ts }) ∧
          pvc P tb id σ d (.call { callee := .builtin b, args := as, argTypes := ts }) = pvc P tb id σ' d (.call { callee := .builtin b, args := as, argTypes := ts }) := by
        intro l q hl hq
        have hm' : ∀ x, x ∈ l → x ∈ (Op.call { callee := .builtin b, args := as, argTypes := ts }).operands.toList := fun x hx => hm x (by rw [hl]; exact hx)
        cases b with
        | len =>
          simp only [peff, pvc, hl, hq]
          match l, q, hm' with
          | [x], [T], hm' =>
            have hx := hm' x (by simp)
            have hob := h.obu hx
            simp only [lnD, lnC, h.tv hx, h.ts hx, h.tc hx, h.uc hx, ← h.un hx]
            cases hu : σ.un x <;> try exact ⟨rfl, rfl⟩
            rw [hu] at hob
            simp only [AV.ids, List.mem_singleton, forall_eq] at hob
            simp only [hob]
            all_goals exact ⟨by first | rfl | trivial, by first | rfl | trivial⟩
          | [], _, _ => exact ⟨rfl, rfl⟩
          | _ :: _ :: _, _, _ => exact ⟨rfl, rfl⟩
          | [_], [], _ => exact ⟨rfl, rfl⟩
          | [_], _ :: _ :: _, _ => exact ⟨rfl, rfl⟩
        | min =>
          simp only [peff, pvc, hl]
          match l, hm' with
          | [x, y], hm' =>
            have hx := hm' x (by simp)
            have hy := hm' y (by simp)
            simp only [h.ti hx, h.ti hy, h.tc hx, h.tc hy]
            all_goals exact ⟨by first | rfl | trivial, by first | rfl | trivial⟩
          | [], _ => exact ⟨rfl, rfl⟩
          | [_], _ => exact ⟨rfl, rfl⟩
          | _ :: _ :: _ :: _, _ => exact ⟨rfl, rfl⟩
        | max =>
          simp only [peff, pvc, hl]
          match l, hm' with
          | [x, y], hm' =>
            have hx := hm' x (by simp)
            have hy := hm' y (by simp)
            simp only [h.ti hx, h.ti hy, h.tc hx, h.tc hy]
            all_goals exact ⟨by first | rfl | trivial, by first | rfl | trivial⟩
          | [], _ => exact ⟨rfl, rfl⟩
          | [_], _ => exact ⟨rfl, rfl⟩
          | _ :: _ :: _ :: _, _ => exact ⟨rfl, rfl⟩
        | append =>
          simp only [peff, pvc, hl, hq]
          rw [hid]
          match l, q, hm' with
          | [s, x], [T, T2], hm' =>
            have hs := hm' s (by simp)
            have hx := hm' x (by simp)
            have hob := h.obu hs
            simp only [h.tv hx, h.tc hx, h.uc hs, ← h.un hs]
            cases hu : σ.un s <;> try exact ⟨rfl, rfl⟩
            rw [hu] at hob
            simp only [AV.ids, List.mem_singleton, forall_eq] at hob
            simp only [rowOf, hob]
            all_goals exact ⟨by first | rfl | trivial, by first | rfl | trivial⟩
          | [], _, _ => exact ⟨rfl, rfl⟩
          | [_], _, _ => exact ⟨rfl, rfl⟩
          | _ :: _ :: _ :: _, _, _ => exact ⟨rfl, rfl⟩
          | [_, _], [], _ => exact ⟨rfl, rfl⟩
          | [_, _], [_], _ => exact ⟨rfl, rfl⟩
          | [_, _], _ :: _ :: _ :: _, _ => exact ⟨rfl, rfl⟩
        | _ => exact ⟨rfl, rfl⟩
      exact two _ _ rfl rfl
    | _ => exact ⟨rfl, rfl⟩
  | _ => exact ⟨rfl, rfl⟩

/-! ### Calls -/

theorem settle_un (σ : St) (x : Operand) : σ.settle.un x = σ.un x := rfl

theorem Agr.settle {σ σ' : St} {L : List Operand} (h : Agr σ σ' L) : Agr σ.settle σ'.settle L :=
  ⟨h.ev, fun x hx j hj => by show (σ.objs j).settle = (σ'.objs j).settle; rw [h.ob x hx j hj]⟩

theorem mCell_congr {ob ob' : Nat → AObj} (t : Ty) (av : AV) (hj : ∀ j, j ∈ av.ids → ob j = ob' j) : mCell ob t av = mCell ob' t av ∧ mCellC ob t av = mCellC ob' t av ∧ mIds1 ob av = mIds1 ob' av := by
  have h := tvd_congr t av hj
  cases av with
  | own i =>
    have e := hj i (by simp [AV.ids])
    refine ⟨?_, ?_, ?_⟩ <;> simp only [mCell, mCellC, mIds1, h.1, h.2, e]
  | bp i off =>
    have e := hj i (by simp [AV.ids])
    refine ⟨?_, ?_, ?_⟩ <;> simp only [mCell, mCellC, mIds1, e]
  | _ => refine ⟨?_, ?_, ?_⟩ <;> simp only [mCell, mCellC, mIds1, h.1, h.2]

theorem mAgg_congr {ob ob' : Nat → AObj} : ∀ (t : Ty) (cs : List AV), (∀ j, j ∈ AV.idsL cs → ob j = ob' j) → mAgg ob t cs = mAgg ob' t cs ∧ mAggC ob t cs = mAggC ob' t cs
  | .cons h t, c :: cs, hj => by
    simp only [AV.idsL, List.mem_append] at hj
    have a1 := mCell_congr h c fun j k => hj j (.inl k)
    have a2 := mAgg_congr t cs fun j k => hj j (.inr k)
    simp only [mAgg, mAggC]
    rw [a1.1, a1.2.1, a2.1, a2.2]
    exact ⟨rfl, rfl⟩
  | .cons _ _, [], _ => ⟨rfl, rfl⟩
  | .nil, [], _ => ⟨rfl, rfl⟩
  | .nil, _ :: _, _ => ⟨rfl, rfl⟩
  | .int _, _, _ => ⟨rfl, rfl⟩
  | .bool, _, _ => ⟨rfl, rfl⟩
  | .str, _, _ => ⟨rfl, rfl⟩
  | .list _, _, _ => ⟨rfl, rfl⟩

theorem mIdsL_congr {ob ob' : Nat → AObj} : ∀ (cs : List AV), (∀ j, j ∈ AV.idsL cs → ob j = ob' j) → mIdsL ob cs = mIdsL ob' cs
  | [], _ => rfl
  | c :: cs, hj => by
    simp only [AV.idsL, List.mem_append] at hj
    simp only [mIdsL]
    rw [(mCell_congr .nil c fun j k => hj j (.inl k)).2.2, mIdsL_congr cs fun j k => hj j (.inr k)]

theorem mOne_congr {ob ob' : Nat → AObj} (t : Ty) (av : AV) (hj : ∀ j, j ∈ av.ids → ob j = ob' j) : mOne ob t av = mOne ob' t av ∧ mOneC ob t av = mOneC ob' t av ∧ mOneI ob av = mOneI ob' av := by
  cases av with
  | agg cs =>
    have hj' : ∀ j, j ∈ AV.idsL cs → ob j = ob' j := fun j k => hj j (by simpa only [AV.ids] using k)
    have a1 := mAgg_congr t cs hj'
    exact ⟨a1.1, a1.2, mIdsL_congr cs hj'⟩
  | rd t' x => exact ⟨rfl, rfl, rfl⟩
  | _ =>
    have a1 := mCell_congr t _ hj
    simp only [mOne, mOneC, mOneI]
    rw [a1.1, a1.2.1, a1.2.2]
    exact ⟨rfl, rfl, rfl⟩

section
variable {σ σ' : St} {L : List Operand} (h : Agr σ σ' L)
include h

theorem Agr.mArg (tb : Tb) : ∀ (l : List (Operand × TypeId)), (∀ p, p ∈ l → p.1 ∈ L) → mArgS σ l = mArgS σ' l ∧ mArgD σ tb l = mArgD σ' tb l ∧ mArgC σ tb l = mArgC σ' tb l ∧ mArgI σ l = mArgI σ' l
  | [], _ => ⟨rfl, rfl, rfl, rfl⟩
  | p :: r, hp => by
    obtain ⟨a1, a2, a3, a4⟩ := Agr.mArg tb r fun q hq => hp q (by simp [hq])
    have hx := hp p (by simp)
    have hm := mOne_congr (tb.ty p.2) (σ.un p.1) (h.obu hx)
    simp only [mArgS, mArgD, mArgC, mArgI]
    rw [a1, a2, a3, a4, hm.1, hm.2.1, hm.2.2, h.un hx, h.uc hx]
    exact ⟨rfl, rfl, rfl, rfl⟩

omit h in
theorem plL_congr {ob ob' : Nat → AObj} : ∀ (cs : List AV), (∀ j, j ∈ AV.idsL cs → ob j = ob' j) → plL ob cs = plL ob' cs
  | [], _ => rfl
  | c :: cs, hj => by
    simp only [AV.idsL, List.mem_append] at hj
    simp only [plL]
    rw [plL_congr cs fun j k => hj j (.inr k)]
    congr 1
    cases c <;> simp only [plA]
    rw [hj _ (.inl (by simp [AV.ids]))]

theorem Agr.callR {P : Program} {tb : Tb} {id : Nat} {f : FuncId} {l : List (Operand × TypeId)} {e : Eff} (hp : ∀ p, p ∈ l → p.1 ∈ L) (hid : ∀ j, id ≤ j → j < id + 16 → σ.objs j = σ'.objs j) (hc : AL.callR P tb id σ f l e) : AL.callR P tb id σ' f l e := by
  obtain ⟨m1, m2, m3, m4⟩ := h.mArg tb l hp
  rcases hc with ⟨h1, rv, h2, h3, h4, h5⟩ | ⟨h1, rv, h0, h2, h3, h4, h5⟩ | ⟨⟨h1, h0⟩, rv, outs, h2, h6, h3, h4, h5⟩
  · exact .inl ⟨by rw [← h.argC tb l hp]; exact h1, rv, by rw [← h.argD tb l hp]; exact h2, h3, unb_congr (fun j j1 j2 => hid j j1 (by omega)) h4, h5⟩
  · exact .inr (.inl ⟨by rw [← h.settle.argC tb l hp]; exact h1, rv, h0, by rw [← h.settle.argD tb l hp]; exact h2, h3, unb_congr (fun j j1 j2 => hid j j1 (by omega)) h4, h5⟩)
  · exact .inr (.inr ⟨⟨by rw [← m3]; exact h1, by rw [← m4]; exact h0⟩, rv, outs, by rw [← m1, ← m2]; exact h2, by rw [← m4]; exact h6, h3, unb_congr (fun j j1 j2 => hid j j1 (by omega)) h4, by rw [← m4]; exact h5⟩)
end

end Go.AL
