/- FnExactRealTime: at every argument of which the statement speaks the law answers true and leaves its arguments as they were. No condition. -/
import Derived.Test.YtfpkooafbeejmaaKFnExactRealTimee
import Derived.Test.YtfpkooafbeejmaaRows
import Derived.WalkKit
import Derived.ProofKit
import Derived.OpenShut
import Derived.ShutString
import Derived.ChangeOld
import Derived.Below
import Derived.SizedLaws
namespace Go.Proofs.Ytfpkooafbeejmaa.fnExactRealTime
open Go.ChangeShapes Go.WideShapes Go.ChangeAt Go.RowKit Go.Proofs.Ytfpkooafbeejmaa.Q Go.Proofs.Ytfpkooafbeejmaa.Opens
open Go.ChangeMaps (open_string shut_string)
set_option linter.unusedVariables false
theorem own : ownKnob Try.prog.godebug = none := by kernel_rfl
theorem laidOut : laidOutB Try.prog = true := by kernel_rfl
set_option maxHeartbeats 2000000 in
set_option maxRecDepth 100000 in
theorem lifted (os : Os) (started : os.Started) (H : Type) (enc : TypeId × Value → H) :
    ReturnsInHanded {} Try.checked os 9 .any (Rows.fnExactRealTimeSpec.pre6 enc Try.prog Try.f9 Rows.fnExactRealTimeRow.domain false) (Rows.fnExactRealTimeSpec.post enc Try.prog Try.f9 false true false false) := by
  refine returnsInHanded_of_change_sized (C := Try.checked) own started (by kernel_rfl) Try.func9
    (ChangeSpec.witness6 (enc := enc) (C := Try.checked) false ⟨#[], #[.slice none 0 0], []⟩ 8 (by kernel_rfl) (by kernel_rfl) (by kernel_rfl) (by kernel_rfl)) ?_
  intro W base args ds gs before hval0 hW hcnd hsz0 _
  have hval : ∀ (j : Nat) t v, Try.f9.params[j]? = some t → args[j]? = some v → Value.okWide Try.prog W .any base t v := hval0
  have hW' := hW
  obtain ⟨p, q, hA0, hV, rfl, hfz, hnd⟩ := hW
  have hA : DataW.TrodAll enc Try.prog W 0 (fun _ => true) true Try.f9.params.toList args.toList ds p := hA0
  rw [Try.params9] at hA hval
  obtain ⟨v0, vs0, d0, ds0, p0, q0, hargs, rfl, rfl, h0, r0⟩ := trodAll_cons hA
  obtain ⟨rfl, rfl, rfl⟩ := trodAll_nil r0
  obtain rfl : args = #[v0] := by cases args; simp_all
  obtain ⟨rfl, rfl⟩ := trodVars_none hV
  have k0 := h0
  have lt0 : ∀ x ∈ p0, x.block < W.heap.size := by obtain ⟨m, hm⟩ := k0; exact DataW.trod_lt m _ _ _ hm
  obtain ⟨f0, hf0⟩ := h0
  obtain ⟨a0, b0, e0, rfl⟩ := okWide_slice Try.underlying51 (hval 0 51 v0 rfl rfl)
  obtain ⟨y0, K0, I0⟩ := (opens_slice Try.underlying51 (by kernel_rfl) o106) _ enc W f0 _ _ hf0
  obtain ⟨A0, c0, E0, L0, G0⟩ := K0
  obtain ⟨rfl, rfl, rfl⟩ : A0 = a0 ∧ b0 = y0.length ∧ c0 = e0 := by simp [Value.cells] at E0; exact ⟨E0.1.symm, E0.2.1, E0.2.2.symm⟩
  clear hA0 hval0 hsz0
  obtain ⟨k, hp⟩ := Pure2.FnExactRealTime _ I0
  refine (laws_FnExactRealTime.calls k A0 c0 y0 true W G0 L0 hp).mono fun e W' ⟨he, bel0⟩ => ?_
  have bel : Below W.heap.size W W' := bel0
  subst he
  exact ⟨_, rfl, _, _, _, [], _, [], hW', trodAll_mk1 (shut_bool Try.underlying4 _), (trodAll_cons_mk (Below.trod laidOut (by kernel_rfl) (of_decide_eq_true (by kernel_rfl)) k0 bel lt0) trodAll_mk0), rfl, bel.frame _, fun h => by cases h⟩
set_option maxHeartbeats 4000000 in
theorem over : Rows.fnExactRealTimeRow.holds Try.pinned (OpenSpec.ofChange Rows.fnExactRealTimeSpec) :=
  OpenClaim.holds_of_wide 9 Try.f9 rfl rfl rfl rfl rfl rfl rfl ⟨rfl, rfl, rfl, rfl, rfl⟩ rfl rfl rfl rfl rfl (by as_aux_lemma => kernel_rfl) Try.func9 (by as_aux_lemma => kernel_rfl)
    (of_decide_eq_true (by as_aux_lemma => kernel_rfl)) (by as_aux_lemma => (unfold Func.isWrapper; first | (rw [if_pos (by decide +kernel)]; kernel_rfl) | (rw [if_neg (by decide +kernel)]; exact ⟨rfl, rfl⟩)))
    (fun os started H enc _ => lifted os started H enc)
theorem proved : Rows.FnExactRealTimeSaid := over
#print axioms proved
end Go.Proofs.Ytfpkooafbeejmaa.fnExactRealTime
namespace Go.Proofs.Ytfpkooafbeejmaa
/-- The row, under a short name, for the claim. -/
theorem fnExactRealTime_holds : Rows.FnExactRealTimeSaid := fnExactRealTime.proved
end Go.Proofs.Ytfpkooafbeejmaa
