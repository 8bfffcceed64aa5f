/- 'FnExactJoinEvidence' returns true whatever the input, and the input reads as it did: the row's statement, without any condition. -/
import Derived.Test.YtfkdkblbhilghaaB10
import Derived.Test.YtfkdkblbhilghaaIn
set_option linter.unusedSimpArgs false
set_option linter.unusedVariables false
namespace Go.Proofs.Ytfkdkblbhilghaa.fnExactJoinEvidence
open Go.ChangeShapes Go.WideShapes Go.ChangeAt Go.RowKit Go.AL

theorem own : ownKnob Try.prog.godebug = none := by kernel_rfl

set_option maxRecDepth 100000 in
theorem lifted (os : Os) (started : os.Started) (H : Type) (enc : TypeId × Value → H) :
    ReturnsInHanded {} Try.checked os 8 .any (Rows.fnExactJoinEvidenceSpec.pre6 enc Try.prog Try.f8 Rows.fnExactJoinEvidenceRow.domain false) (Rows.fnExactJoinEvidenceSpec.post enc Try.prog Try.f8 false true false false) := by
  refine returnsInHanded_of_change (C := Try.checked) own started (by kernel_rfl) Try.func8
    (ChangeSpec.witness6 (enc := enc) (C := Try.checked) false ⟨#[], #[.agg #[.slice none 0 0, .slice none 0 0], .agg #[.slice none 0 0, .slice none 0 0]], []⟩ 8 (by kernel_rfl) (by kernel_rfl) (by kernel_rfl) (by kernel_rfl)) ?_
  intro W base args ds gs before hval0 hW hcnd _
  have hval : ∀ (j : Nat) t v, Try.f8.params[j]? = some t → args[j]? = some v → Value.okWide Try.prog W .any base t v := hval0
  have hW' := hW
  have hlt := hW.lt
  obtain ⟨p, q, hA0, hV, rfl, hfz, hnd⟩ := hW
  have hA : DataW.TrodAll enc Try.prog W 0 (fun _ => true) true Try.f8.params.toList args.toList ds p := hA0
  rw [Try.params8] at hA hval
  obtain ⟨rfl, rfl⟩ := trodVars_none hV
  simp only [List.append_nil] at hW' hlt
  obtain ⟨tv, htw0, hargs⟩ := args_rd (ts := [tEvidence, tEvidence]) (Ts := [74, 74]) ⟨ok_lawsEvidence, ok_lawsEvidence, trivial⟩ hA (fun j T v hj hv => hval j T v (by simpa using hj) (by simpa using hv))
  obtain ⟨v0, vs0, d0, ds0, p0, q0, e0, rfl, g0, h0, r0⟩ := trodAll_cons hA
  obtain ⟨a0, tv0, rfl, htw1⟩ := map1 htw0
  obtain ⟨v1, vs1, d1, ds1, p1, q1, e1, rfl, g1, h1, r1⟩ := trodAll_cons r0
  obtain ⟨a1, tv1, rfl, htw2⟩ := map1 htw1
  obtain ⟨_, rfl, _⟩ := trodAll_nil r1
  obtain rfl := map0 htw2
  have hc := law_calls (law_FnExactJoinEvidence_ok a0 a1) hargs
  rw [show args.toList.toArray = args by simp] at hc
  refine hc.mono fun e W' ⟨he, hb⟩ => ?_
  subst he
  exact ⟨_, rfl, post_of_below (pa := p) (pv := []) hW' (fun _ _ _ => trodAll_cons_mk (shut_bool Try.underlying4 _) trodAll_mk0) (fun sp hsp => trodAll_stays laidOut hb (by kernel_rfl) hA hlt hsp) (fun _ _ => rfl) (by simp) hb (ok_one (by kernel_rfl) rfl (okWide_bool_mk Try.underlying4 _))⟩

set_option maxHeartbeats 4000000 in
theorem closed : joinedFacts Try.pinned.checked.prog 8 Try.f8 Rows.fnExactJoinEvidenceSpec Rows.fnExactJoinEvidenceRow = true := by
  unfold joinedFacts
  rw [show Try.pinned.checked.prog.mayEnter = true from mayEnter, show Try.pinned.checked.prog.liftsFinal = false from liftsFinal, show Try.pinned.checked.prog.make = some .cut from make]
  repeat' (with_reducible refine Bool.and_eq_true_iff.mpr ⟨?_, ?_⟩)
  all_goals as_aux_lemma => kernel_rfl

theorem over : Rows.fnExactJoinEvidenceRow.holds Try.pinned (OpenSpec.ofChange Rows.fnExactJoinEvidenceSpec) :=
  OpenClaim.holds_of_wide 8 Try.f8 rfl rfl rfl rfl rfl rfl rfl ⟨rfl, rfl, rfl, rfl, rfl⟩ rfl rfl rfl rfl rfl (by kernel_rfl) Try.func8 closed
    (of_decide_eq_true (by kernel_rfl)) (by unfold Func.isWrapper; first | (rw [if_pos (by decide +kernel)]; kernel_rfl) | (rw [if_neg (by decide +kernel)]; exact ⟨rfl, rfl⟩))
    (fun os started H enc _ => lifted os started H enc)

theorem proved : Rows.FnExactJoinEvidenceSaid :=
  over
#print axioms proved
end Go.Proofs.Ytfkdkblbhilghaa.fnExactJoinEvidence
