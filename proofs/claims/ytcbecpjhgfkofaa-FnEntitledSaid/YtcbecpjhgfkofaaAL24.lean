/- What a frame that is met at all tells of the values it names. A general part, over any program. -/
import Derived.Test.YtcbecpjhgfkofaaAL22
set_option linter.unusedSimpArgs false
set_option linter.unusedVariables false
namespace Go.AL
open Go.RowKit

/-- The values that stand in a frame are such as their types allow. -/
structure WFσ (σ : St) : Prop where
  rd : ∀ k t x, σ.tmps k = .rd t x → WF t x
  row : ∀ id e t xs, σ.objs id = .row e t xs → WF (.list t) xs

theorem RowOK.wf {w : World} {lim : Nat → Nat} {B : Nat} {e : TypeId} {t : Ty} {xs : List t.den} {v : Value} (h : RowOK w lim B e t xs v) : WF (.list t) xs := by
  obtain ⟨vs, ⟨h1, h2⟩, h3, h4⟩ := h
  refine ⟨?_, fun i hi => (h4 i hi).wf⟩
  rcases h2 with ⟨_, h0⟩ | ⟨g, cap, cur, _, _, _, hle, hcm, _⟩
  · rw [h0]; exact Nat.zero_le _
  · exact Nat.le_trans hle hcm

theorem Sat.wf {cx : Cx} {σ : St} {a : Act} {w : World} (h : Sat cx σ a w) : WFσ σ := by
  obtain ⟨lim, G, hh, hf⟩ := h
  refine ⟨fun k t x hk => ?_, fun id e t xs hk => ?_⟩
  · have := hf.tmp k
    rw [hk] at this
    simp only [AVok] at this
    obtain ⟨cs, h1, _⟩ := this
    exact h1.wf
  · have := hh.obj id
    rw [hk] at this
    simp only [ObjOK] at this
    exact this.1.wf

theorem loopQ_wf {P : Program} {cx : Cx} {c : Code} {Q : Exit → St → Prop} {σ : St} (h : WFσ σ → loopQ P cx c Q σ ⟨⟩ ⟨⟩ ⟨⟩) : loopQ P cx c Q σ ⟨⟩ ⟨⟩ ⟨⟩ :=
  loopQ_intro fun a w hs => by
    have h2 := h hs.wf
    unfold loopQ at h2
    exact h2 a w hs

theorem WF.at {t : Ty} {xs : List t.den} (h : WF (.list t) xs) {x : t.den} (hx : x ∈ xs) : WF t x := by
  obtain ⟨i, hi, rfl⟩ := List.mem_iff_getElem.1 hx
  exact h.2 i hi
end Go.AL
