/- FnLex: at every argument of which the statement speaks the law answers true and leaves its arguments as they were. No condition. -/
import Derived.Test.YtonofmbpjjckjaaGreatDoorKFnLexc
import Derived.Test.YtonofmbpjjckjaaGreatDoorCards
import Derived.Test.YtonofmbpjjckjaaGreatDoorTie
import Derived.Lay
import Derived.SevenTiedAt
import Derived.Lib.LaidTab
import Derived.WalkKit
import Derived.ProofKit
import Derived.OpenShut
import Derived.ShutString
import Derived.ChangeOld
import Derived.Below
import Derived.SizedLaws
namespace Go.Proofs.YtonofmbpjjckjaaGreatDoor.fnLex
open Go.ChangeShapes Go.WideShapes Go.ChangeAt Go.RowKit Go.Proofs.YtonofmbpjjckjaaGreatDoor.Q Go.Proofs.YtonofmbpjjckjaaGreatDoor.Opens
open Go.ChangeMaps (open_string shut_string)
set_option linter.unusedVariables false
theorem own : ownKnob Tryz.prog.godebug = none := by kernel_rfl
theorem laidOut : laidOutB Tryz.prog = true := by kernel_rfl
theorem laid_tail {P : Program} {x : String × DataW Unit} {rest : List (String × DataW Unit)} {W : World} (h : laidMet P (x :: rest) W) : laidMet P rest W := by
  obtain ⟨ps, ⟨g, t, cs, fuel, p, q, _, _, _, _, hr, rfl⟩, hn, hc⟩ := h
  exact ⟨q, hr, (List.nodup_append.1 hn).2.1, fun b off hp => hc b off (List.mem_append_right _ hp)⟩
theorem iface_of_head {P : Program} {W : World} {name nm : String} {d : DataW Unit} {rest : List (String × DataW Unit)} {g t : Nat} {td : TypeDesc}
    (hg : P.globalNamed name = some g) (hty : (P.globals[g]?).map (·.type) = some t) (ht : P.underlying t = some td) (hi : (match td with | .interface _ => true | _ => false) = true)
    (h : laidMet P ((name, .iface nm d) :: rest) W) : ∃ te pe, W.cell? ⟨g, 0, none⟩ = some (.iface te pe) := by
  obtain ⟨ps, ⟨g', t', cs, fuel, p, q, hg', ht', hvar, hd, _, _⟩, _⟩ := h
  obtain rfl := Option.some.inj (hg.symm.trans hg')
  obtain rfl := Option.some.inj (hty.symm.trans ht')
  have hc := World.var?_cell hg hvar 0
  cases td with
  | interface ms =>
    cases fuel with
    | zero => simp [DataW.trod] at hd
    | succ n =>
      unfold DataW.trod at hd
      rw [ht] at hd
      rcases hcs : cs.toList with _ | ⟨v, _ | ⟨v2, r⟩⟩
      · rw [hcs] at hd
        simp at hd
      · rw [hcs] at hd
        have h0 : cs[0]? = some v := by rw [← Array.getElem?_toList, hcs]; rfl
        rw [h0] at hc
        cases v with
        | iface te pe => exact ⟨te, pe, hc⟩
        | nilIface => simp at hd
        | _ => simp at hd
      · rw [hcs] at hd
        simp at hd
  | _ => simp at hi
theorem tab_of {W : World} (h : laidMetH Tryz.prog Rows.fnLexRow.laid W) : Tb W := by
  have h1 : laidMet Tryz.prog Rows.fnLexRow.laid W := by rw [MakeChecks.laidMetH_plain _ _ _ (by kernel_rfl)] at h; exact h
  have h2 : laidMet Tryz.prog [("internal/strconv.uint64pow10", Lib.tabData .u64 Lib.pow10Tab), ("strconv.ErrRange", Rows.laid_strconv_ErrRange), ("strconv.ErrSyntax", Rows.laid_strconv_ErrSyntax)] W := laid_tail (laid_tail h1)
  have hx5 := laid_tail h2
  have hx4 := laid_tail hx5
  refine ⟨Lib.tabIs_of_head (g := 1) (t := 94) (e := 86) (n := 20) (by kernel_rfl) (by kernel_rfl) Tryz.underlying94 Tryz.underlying86 (by kernel_rfl) (by kernel_rfl) h2, ?_, ?_⟩
  · exact iface_of_head (g := 4) (t := 71) (by kernel_rfl) (by kernel_rfl) Tryz.underlying71 rfl hx4
  · exact iface_of_head (g := 5) (t := 71) (by kernel_rfl) (by kernel_rfl) Tryz.underlying71 rfl hx5
set_option maxHeartbeats 2000000 in
set_option maxRecDepth 100000 in
theorem lifted (os : Os) (started : os.Started) (H : Type) (enc : TypeId × Value → H) :
    ReturnsInHanded {} Tryz.checked os 3 .any (fun w args => (Rows.fnLexSpec.pre enc Tryz.prog Tryz.f3 [] false w args ∧ laidMetH Tryz.prog Rows.fnLexRow.laid w) ∧ sizedMet enc Tryz.prog Tryz.f3 (OpenSpec.ofChange Rows.fnLexSpec) false w args) (Rows.fnLexSpec.post enc Tryz.prog Tryz.f3 false true false false) := by
  refine returnsInHanded_of_change_and (C := Tryz.checked) (X := fun w _ => laidMetH Tryz.prog Rows.fnLexRow.laid w) (fun _ _ _ hh h => h.of_heap hh) own started (by kernel_rfl) Tryz.func3
    (ChangeSpec.witness_shaped (enc := enc) (C := Tryz.checked) (os := os) (X := fun w _ => laidMetH Tryz.prog Rows.fnLexRow.laid w) false (World.laidAll Tryz.prog os Rows.fnLexRow.laid) #[.slice none 0 0, .slice none 0 0] 8 (World.laidAll_os _ _ _)
      (World.shaped_of_ZipB (by kernel_rfl) (by kernel_rfl)) (by kernel_rfl) (by kernel_rfl) (by kernel_rfl)
      (by rw [MakeChecks.laidMetH_plain _ _ _ (by kernel_rfl)]; exact laidMet_laidAll _ (by kernel_rfl) (by kernel_rfl))) ?_
  intro W base args ds gs before hval0 hW hcnd hsz0 hL _
  have htab : Tb W := tab_of hL
  have hval : ∀ (j : Nat) t v, Tryz.f3.params[j]? = some t → args[j]? = some v → Value.okWide Tryz.prog W .any base t v := hval0
  have hW' := hW
  obtain ⟨p, q, hA0, hV, rfl, hfz, hnd⟩ := hW
  have hA : DataW.TrodAll enc Tryz.prog W 0 (fun _ => true) true Tryz.f3.params.toList args.toList ds p := hA0
  rw [Tryz.params3] at hA hval
  obtain ⟨v0, vs0, d0, ds0, p0, q0, hargs, rfl, rfl, h0, r0⟩ := trodAll_cons hA
  obtain ⟨v1, vs1, d1, ds1, p1, q1, rfl, rfl, rfl, h1, r1⟩ := trodAll_cons r0
  obtain ⟨rfl, rfl, rfl⟩ := trodAll_nil r1
  obtain rfl : args = #[v0, v1] := by cases args; simp_all
  obtain ⟨rfl, rfl⟩ := trodVars_none hV
  have k0 := h0
  have lt0 : ∀ x ∈ p0, x.block < W.heap.size := by obtain ⟨m, hm⟩ := k0; exact DataW.trod_lt m _ _ _ hm
  obtain ⟨f0, hf0⟩ := h0
  obtain ⟨a0, b0, e0, rfl⟩ := okWide_slice Tryz.underlying22 (hval 0 22 v0 rfl rfl)
  obtain ⟨y0, K0, I0⟩ := (opens_slice Tryz.underlying22 (by kernel_rfl) (opens_int Tryz.underlying5)) _ enc W f0 _ _ hf0
  obtain ⟨A0, c0, E0, L0, G0⟩ := K0
  obtain ⟨rfl, rfl, rfl⟩ : A0 = a0 ∧ b0 = y0.length ∧ c0 = e0 := by simp [Value.cells] at E0; exact ⟨E0.1.symm, E0.2.1, E0.2.2.symm⟩
  have k1 := h1
  have lt1 : ∀ x ∈ p1, x.block < W.heap.size := by obtain ⟨m, hm⟩ := k1; exact DataW.trod_lt m _ _ _ hm
  obtain ⟨f1, hf1⟩ := h1
  obtain ⟨a1, b1, e1, rfl⟩ := okWide_slice Tryz.underlying22 (hval 1 22 v1 rfl rfl)
  obtain ⟨y1, K1, I1⟩ := (opens_slice Tryz.underlying22 (by kernel_rfl) (opens_int Tryz.underlying5)) _ enc W f1 _ _ hf1
  obtain ⟨A1, c1, E1, L1, G1⟩ := K1
  obtain ⟨rfl, rfl, rfl⟩ : A1 = a1 ∧ b1 = y1.length ∧ c1 = e1 := by simp [Value.cells] at E1; exact ⟨E1.1.symm, E1.2.1, E1.2.2.symm⟩
  clear hA0 hval0 hsz0
  obtain ⟨k, hp⟩ := Pure2.FnLex _ _ I0 I1
  refine (laws_FnLex.calls k A0 c0 y0 A1 c1 y1 true W G0 L0 G1 L1 hp htab).mono fun e W' ⟨he, bel0⟩ => ?_
  have bel : Below W.heap.size W W' := bel0
  subst he
  exact ⟨_, rfl, _, _, _, [], _, [], hW', trodAll_mk1 (shut_bool Tryz.underlying4 _), (trodAll_cons_mk (Below.trod laidOut (by kernel_rfl) (of_decide_eq_true (by kernel_rfl)) k0 bel lt0) (trodAll_cons_mk (Below.trod laidOut (by kernel_rfl) (of_decide_eq_true (by kernel_rfl)) k1 bel lt1) trodAll_mk0)), rfl, bel.frame _, fun h => by cases h⟩
set_option maxHeartbeats 4000000 in
theorem over : Rows.fnLexRow.holds Tryz.pinned (OpenSpec.ofChange Rows.fnLexSpec) :=
  OpenClaim.holds_of_wide 3 Tryz.f3 rfl rfl rfl rfl rfl rfl rfl ⟨rfl, rfl, rfl, rfl, rfl⟩ rfl rfl rfl rfl rfl (by as_aux_lemma => kernel_rfl) Tryz.func3 (by as_aux_lemma => kernel_rfl)
    (of_decide_eq_true (by as_aux_lemma => kernel_rfl)) (by as_aux_lemma => (unfold Func.isWrapper; first | (rw [if_pos (by decide +kernel)]; kernel_rfl) | (rw [if_neg (by decide +kernel)]; exact ⟨rfl, rfl⟩)))
    (fun os started H enc _ => lifted os started H enc)
theorem proved0 : Rows.FnLexSaid := over
theorem proved : Rows.FnLexCardSaid :=
  Claim7.holds_tied_plain_at .later [] [.data, .data, .data, .sentinel, .sentinel] true (true, "d5f8f3bfa62b2fbd3024af6dd94aed2793241d3e2a4c37a0e5f641b562f250de") true proved0 (fun _ h => by cases h) (by kernel_rfl) (fun _ h => by cases h) fnLex_row_tie rfl ⟨rfl, rfl⟩ (by kernel_rfl) rfl
    (fun f fn hf hfn => by
      obtain rfl : f = 3 := Option.some.inj ((show Tryz.prog.funcNamed "loop.example/g00540/laws.FnLex" = some 3 by kernel_rfl).symm.trans hf) |>.symm
      obtain rfl : fn = Tryz.f3 := (Option.some.inj (Tryz.func3.symm.trans hfn)).symm
      exact ⟨by kernel_rfl, fun j t ht => by
        rw [Tryz.params3] at ht
        have hm : t ∈ [22, 22] := by simpa using Array.mem_of_getElem? ht
        have hall : ([22, 22].all fun u => !Tryz.prog.wantsStandIn u) = true := by kernel_rfl
        exact (show Tryz.prog.wantsStandIn t = false by simpa using List.all_eq_true.1 hall t hm)⟩)
    (by kernel_rfl)
#print axioms proved
end Go.Proofs.YtonofmbpjjckjaaGreatDoor.fnLex
namespace Go.Proofs.YtonofmbpjjckjaaGreatDoor
/-- The row, under a short name, for the claim. -/
theorem fnLex_holds : Rows.FnLexCardSaid := fnLex.proved
end Go.Proofs.YtonofmbpjjckjaaGreatDoor
