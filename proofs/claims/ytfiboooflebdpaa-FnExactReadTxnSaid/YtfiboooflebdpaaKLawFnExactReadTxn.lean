/- FnExactReadTxn: at every argument of which the statement speaks the law answers true and leaves its arguments as they were. No condition. -/
import Derived.Test.YtfiboooflebdpaaKFnExactReadTxnf
import Derived.Test.YtfiboooflebdpaaRows
import Derived.WalkKit
import Derived.ProofKit
import Derived.OpenShut
import Derived.ShutString
import Derived.ChangeOld
import Derived.Below
import Derived.SizedLaws
namespace Go.Proofs.Ytfiboooflebdpaa.fnExactReadTxn
open Go.ChangeShapes Go.WideShapes Go.ChangeAt Go.RowKit Go.Proofs.Ytfiboooflebdpaa.Q Go.Proofs.Ytfiboooflebdpaa.Opens
open Go.ChangeMaps (open_string shut_string)
set_option linter.unusedVariables false
theorem own : ownKnob Try.prog.godebug = none := by kernel_rfl
theorem laidOut : laidOutB Try.prog = true := by kernel_rfl
set_option maxHeartbeats 2000000 in
set_option maxRecDepth 100000 in
theorem lifted (os : Os) (started : os.Started) (H : Type) (enc : TypeId × Value → H) :
    ReturnsInHanded {} Try.checked os 9 .any (Rows.fnExactReadTxnSpec.pre6 enc Try.prog Try.f9 Rows.fnExactReadTxnRow.domain false) (Rows.fnExactReadTxnSpec.post enc Try.prog Try.f9 false true false false) := by
  refine returnsInHanded_of_change_sized (C := Try.checked) own started (by kernel_rfl) Try.func9
    (ChangeSpec.witness6 (enc := enc) (C := Try.checked) false ⟨#[], #[.agg #[.slice none 0 0, .int .i64 0], .agg #[.int .i64 0, .slice none 0 0, .slice none 0 0], .int .i64 0], []⟩ 8 (by kernel_rfl) (by kernel_rfl) (by kernel_rfl) (by kernel_rfl)) ?_
  intro W base args ds gs before hval0 hW hcnd hsz0 _
  have hval : ∀ (j : Nat) t v, Try.f9.params[j]? = some t → args[j]? = some v → Value.okWide Try.prog W .any base t v := hval0
  have hW' := hW
  obtain ⟨p, q, hA0, hV, rfl, hfz, hnd⟩ := hW
  have hA : DataW.TrodAll enc Try.prog W 0 (fun _ => true) true Try.f9.params.toList args.toList ds p := hA0
  rw [Try.params9] at hA hval
  obtain ⟨v0, vs0, d0, ds0, p0, q0, hargs, rfl, rfl, h0, r0⟩ := trodAll_cons hA
  obtain ⟨v1, vs1, d1, ds1, p1, q1, rfl, rfl, rfl, h1, r1⟩ := trodAll_cons r0
  obtain ⟨v2, vs2, d2, ds2, p2, q2, rfl, rfl, rfl, h2, r2⟩ := trodAll_cons r1
  obtain ⟨rfl, rfl, rfl⟩ := trodAll_nil r2
  obtain rfl : args = #[v0, v1, v2] := by cases args; simp_all
  obtain ⟨rfl, rfl⟩ := trodVars_none hV
  have k0 := h0
  have lt0 : ∀ x ∈ p0, x.block < W.heap.size := by obtain ⟨m, hm⟩ := k0; exact DataW.trod_lt m _ _ _ hm
  obtain ⟨f0, hf0⟩ := h0
  obtain ⟨a0, rfl, z0⟩ := okWide_struct Try.underlying24 (hval 0 24 v0 rfl rfl)
  obtain ⟨y0, K0, I0⟩ := o24 _ enc W f0 _ _ hf0
  obtain ⟨A0_0, c0_0, E0, L0_0, G0_0⟩ := k24_open K0
  have E0' : a0 = #[.slice A0_0 y0.f0.length c0_0, .int .i64 y0.f1] := Array.toList_inj.mp E0
  subst E0'
  have k1 := h1
  have lt1 : ∀ x ∈ p1, x.block < W.heap.size := by obtain ⟨m, hm⟩ := k1; exact DataW.trod_lt m _ _ _ hm
  obtain ⟨f1, hf1⟩ := h1
  obtain ⟨a1, rfl, z1⟩ := okWide_struct Try.underlying75 (hval 1 75 v1 rfl rfl)
  obtain ⟨y1, K1, I1⟩ := o75 _ enc W f1 _ _ hf1
  obtain ⟨A1_1, c1_1, A1_2, c1_2, E1, L1_1, G1_1, L1_2, G1_2⟩ := k75_open K1
  have E1' : a1 = #[.int .i64 y1.f0, .slice A1_1 y1.f1.length c1_1, .slice A1_2 y1.f2.length c1_2] := Array.toList_inj.mp E1
  subst E1'
  have k2 := h2
  have lt2 : ∀ x ∈ p2, x.block < W.heap.size := by obtain ⟨m, hm⟩ := k2; exact DataW.trod_lt m _ _ _ hm
  obtain ⟨f2, hf2⟩ := h2
  obtain ⟨a2, rfl⟩ := okWide_int Try.underlying3 (hval 2 3 v2 rfl rfl)
  obtain ⟨y2, K2, I2⟩ := (opens_int Try.underlying3) _ enc W f2 _ _ hf2
  have E2 : [(.int .i64 a2 : Value)] = [.int .i64 y2] := K2
  obtain rfl : a2 = y2 := by simpa using E2
  clear hA0 hval0 hsz0
  obtain ⟨k, hp⟩ := Pure2.FnExactReadTxn _ _ _ I0 I1 I2
  refine (laws_FnExactReadTxn.calls k A0_0 c0_0 y0.f0 y0.f1 y1.f0 A1_1 c1_1 y1.f1 A1_2 c1_2 y1.f2 a2 true W G0_0 L0_0 G1_1 L1_1 G1_2 L1_2 hp).mono fun e W' ⟨he, bel0⟩ => ?_
  have bel : Below W.heap.size W W' := bel0
  subst he
  exact ⟨_, rfl, _, _, _, [], _, [], hW', trodAll_mk1 (shut_bool Try.underlying4 _), (trodAll_cons_mk (Below.trod laidOut (by kernel_rfl) (of_decide_eq_true (by kernel_rfl)) k0 bel lt0) (trodAll_cons_mk (Below.trod laidOut (by kernel_rfl) (of_decide_eq_true (by kernel_rfl)) k1 bel lt1) (trodAll_cons_mk (Below.trod laidOut (by kernel_rfl) (of_decide_eq_true (by kernel_rfl)) k2 bel lt2) trodAll_mk0))), rfl, bel.frame _, fun h => by cases h⟩
theorem over : Rows.fnExactReadTxnRow.holds Try.pinned (OpenSpec.ofChange Rows.fnExactReadTxnSpec) :=
  OpenClaim.holds_of_wide 9 Try.f9 rfl rfl rfl rfl rfl rfl rfl ⟨rfl, rfl, rfl, rfl, rfl⟩ rfl rfl rfl rfl rfl (by as_aux_lemma => kernel_rfl) Try.func9 (by as_aux_lemma => kernel_rfl)
    (of_decide_eq_true (by as_aux_lemma => kernel_rfl)) (by as_aux_lemma => (unfold Func.isWrapper; first | (rw [if_pos (by decide +kernel)]; kernel_rfl) | (rw [if_neg (by decide +kernel)]; exact ⟨rfl, rfl⟩)))
    (fun os started H enc _ => lifted os started H enc)
theorem proved : Rows.FnExactReadTxnSaid := over
#print axioms proved
end Go.Proofs.Ytfiboooflebdpaa.fnExactReadTxn
namespace Go.Proofs.Ytfiboooflebdpaa
/-- The row, under a short name, for the claim. -/
theorem fnExactReadTxn_holds : Rows.FnExactReadTxnSaid := fnExactReadTxn.proved
end Go.Proofs.Ytfiboooflebdpaa
