/- FnExactSameOut: at every argument of which the statement speaks the law answers true and leaves its arguments as they were. No condition. -/
import Derived.Test.YtfpkooafbeejmaaKFnExactSameOutd
import Derived.Test.YtfpkooafbeejmaaRows
import Derived.WalkKit
import Derived.ProofKit
import Derived.OpenShut
import Derived.ShutString
import Derived.ChangeOld
import Derived.Below
import Derived.SizedLaws
namespace Go.Proofs.Ytfpkooafbeejmaa.fnExactSameOut
open Go.ChangeShapes Go.WideShapes Go.ChangeAt Go.RowKit Go.Proofs.Ytfpkooafbeejmaa.Q Go.Proofs.Ytfpkooafbeejmaa.Opens
open Go.ChangeMaps (open_string shut_string)
set_option linter.unusedVariables false
theorem own : ownKnob Try.prog.godebug = none := by kernel_rfl
theorem laidOut : laidOutB Try.prog = true := by kernel_rfl
set_option maxHeartbeats 2000000 in
set_option maxRecDepth 100000 in
theorem lifted (os : Os) (started : os.Started) (H : Type) (enc : TypeId × Value → H) :
    ReturnsInHanded {} Try.checked os 6 .any (Rows.fnExactSameOutSpec.pre6 enc Try.prog Try.f6 Rows.fnExactSameOutRow.domain false) (Rows.fnExactSameOutSpec.post enc Try.prog Try.f6 false true false false) := by
  refine returnsInHanded_of_change_sized (C := Try.checked) own started (by kernel_rfl) Try.func6
    (ChangeSpec.witness6 (enc := enc) (C := Try.checked) false ⟨#[], #[.agg #[.int .i64 0, .int .i64 0, .string ByteArray.empty, .slice none 0 0, .slice none 0 0], .agg #[.int .i64 0, .int .i64 0, .string ByteArray.empty, .slice none 0 0, .slice none 0 0]], []⟩ 8 (by kernel_rfl) (by kernel_rfl) (by kernel_rfl) (by kernel_rfl)) ?_
  intro W base args ds gs before hval0 hW hcnd hsz0 _
  have hval : ∀ (j : Nat) t v, Try.f6.params[j]? = some t → args[j]? = some v → Value.okWide Try.prog W .any base t v := hval0
  have hW' := hW
  obtain ⟨p, q, hA0, hV, rfl, hfz, hnd⟩ := hW
  have hA : DataW.TrodAll enc Try.prog W 0 (fun _ => true) true Try.f6.params.toList args.toList ds p := hA0
  rw [Try.params6] at hA hval
  obtain ⟨v0, vs0, d0, ds0, p0, q0, hargs, rfl, rfl, h0, r0⟩ := trodAll_cons hA
  obtain ⟨v1, vs1, d1, ds1, p1, q1, rfl, rfl, rfl, h1, r1⟩ := trodAll_cons r0
  obtain ⟨rfl, rfl, rfl⟩ := trodAll_nil r1
  obtain rfl : args = #[v0, v1] := by cases args; simp_all
  obtain ⟨rfl, rfl⟩ := trodVars_none hV
  have k0 := h0
  have lt0 : ∀ x ∈ p0, x.block < W.heap.size := by obtain ⟨m, hm⟩ := k0; exact DataW.trod_lt m _ _ _ hm
  obtain ⟨f0, hf0⟩ := h0
  obtain ⟨a0, rfl, z0⟩ := okWide_struct Try.underlying41 (hval 0 41 v0 rfl rfl)
  obtain ⟨y0, K0, I0⟩ := o41 _ enc W f0 _ _ hf0
  obtain ⟨A0_3, c0_3, A0_4, c0_4, E0, L0_3, G0_3, L0_4, G0_4⟩ := k41_open K0
  have E0' : a0 = #[.int .i64 y0.f0, .int .i64 y0.f1, .string y0.f2, .slice A0_3 y0.f3.length c0_3, .slice A0_4 y0.f4.length c0_4] := Array.toList_inj.mp E0
  subst E0'
  have k1 := h1
  have lt1 : ∀ x ∈ p1, x.block < W.heap.size := by obtain ⟨m, hm⟩ := k1; exact DataW.trod_lt m _ _ _ hm
  obtain ⟨f1, hf1⟩ := h1
  obtain ⟨a1, rfl, z1⟩ := okWide_struct Try.underlying41 (hval 1 41 v1 rfl rfl)
  obtain ⟨y1, K1, I1⟩ := o41 _ enc W f1 _ _ hf1
  obtain ⟨A1_3, c1_3, A1_4, c1_4, E1, L1_3, G1_3, L1_4, G1_4⟩ := k41_open K1
  have E1' : a1 = #[.int .i64 y1.f0, .int .i64 y1.f1, .string y1.f2, .slice A1_3 y1.f3.length c1_3, .slice A1_4 y1.f4.length c1_4] := Array.toList_inj.mp E1
  subst E1'
  clear hA0 hval0 hsz0
  obtain ⟨k, hp⟩ := Pure2.FnExactSameOut _ _ I0 I1
  refine (laws_FnExactSameOut.calls k y0.f0 y0.f1 y0.f2 A0_3 c0_3 y0.f3 A0_4 c0_4 y0.f4 y1.f0 y1.f1 y1.f2 A1_3 c1_3 y1.f3 A1_4 c1_4 y1.f4 true W G0_3 L0_3 G0_4 L0_4 G1_3 L1_3 G1_4 L1_4 hp).mono fun e W' ⟨he, bel0⟩ => ?_
  have bel : Below W.heap.size W W' := bel0
  subst he
  exact ⟨_, rfl, _, _, _, [], _, [], hW', trodAll_mk1 (shut_bool Try.underlying4 _), (trodAll_cons_mk (Below.trod laidOut (by kernel_rfl) (of_decide_eq_true (by kernel_rfl)) k0 bel lt0) (trodAll_cons_mk (Below.trod laidOut (by kernel_rfl) (of_decide_eq_true (by kernel_rfl)) k1 bel lt1) trodAll_mk0)), rfl, bel.frame _, fun h => by cases h⟩
theorem over : Rows.fnExactSameOutRow.holds Try.pinned (OpenSpec.ofChange Rows.fnExactSameOutSpec) :=
  OpenClaim.holds_of_wide 6 Try.f6 rfl rfl rfl rfl rfl rfl rfl ⟨rfl, rfl, rfl, rfl, rfl⟩ rfl rfl rfl rfl rfl (by as_aux_lemma => kernel_rfl) Try.func6 (by as_aux_lemma => kernel_rfl)
    (of_decide_eq_true (by as_aux_lemma => kernel_rfl)) (by as_aux_lemma => (unfold Func.isWrapper; first | (rw [if_pos (by decide +kernel)]; kernel_rfl) | (rw [if_neg (by decide +kernel)]; exact ⟨rfl, rfl⟩)))
    (fun os started H enc _ => lifted os started H enc)
theorem proved : Rows.FnExactSameOutSaid := over
#print axioms proved
end Go.Proofs.Ytfpkooafbeejmaa.fnExactSameOut
namespace Go.Proofs.Ytfpkooafbeejmaa
/-- The row, under a short name, for the claim. -/
theorem fnExactSameOut_holds : Rows.FnExactSameOutSaid := fnExactSameOut.proved
end Go.Proofs.Ytfpkooafbeejmaa
