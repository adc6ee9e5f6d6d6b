/- Texts of the claim on FnExactJoinTokens, gathered by a program of this session: what the program's functions compute (proved by walks), and the plain part. -/
import Derived.Test.YtolickgnncfmeaaDoorKFnExactJoinTokensa
import Derived.Test.YtolickgnncfmeaaDoorOpens
import Derived.KernelRfl
namespace Go.Proofs.YtolickgnncfmeaaDoor.Q
open Go.RowKit Go.Proofs.YtolickgnncfmeaaDoorW.PrintWords Go.Proofs.YtolickgnncfmeaaDoorW.PrintLast Go.Proofs.YtolickgnncfmeaaDoorW.PrintMore
attribute [local go_sem] max2_int min2_int max_two min_two max_three min_three max_four min_four   -- for this text's walks alone
set_option linter.unusedVariables false
set_option linter.unusedSimpArgs false

theorem any_mapM {α : Type} (q : α → Option Bool) : ∀ (l : List α) (bs : List Bool), l.mapM q = some bs → (∀ x ∈ l, q x = some ((q x).getD false)) ∧ bs.any id = l.any (fun x => (q x).getD false)
  | [], bs, h => by
    have e : bs = [] := by simpa using h.symm
    subst e
    exact ⟨fun x hx => (by cases hx), rfl⟩
  | y :: ys, bs, h => by
    rw [List.mapM_cons] at h
    cases hb : q y with
    | none => rw [hb] at h; cases h
    | some b =>
      cases hcs : ys.mapM q with
      | none => rw [hb, hcs] at h; cases h
      | some cs =>
        rw [hb, hcs] at h
        obtain rfl : b :: cs = bs := Option.some.inj (show some (b :: cs) = some bs from h)
        obtain ⟨h1, h2⟩ := any_mapM q ys cs hcs
        refine ⟨fun x hx => ?_, ?_⟩
        · rcases List.mem_cons.1 hx with e | e
          · subst e; rw [hb]; rfl
          · exact h1 x e
        · simp only [List.any_cons, h2, hb, id, Option.getD_some]
theorem mapM_le {α : Type} (q q' : α → Option Bool) (hq : ∀ x, LeO (q x) (q' x)) : ∀ l : List α, LeO (l.mapM q) (l.mapM q')
  | [] => fun r h => h
  | y :: ys => fun r h => by
    rw [List.mapM_cons] at h ⊢
    cases hb : q y with
    | none => rw [hb] at h; cases h
    | some b =>
      cases hcs : ys.mapM q with
      | none => rw [hb, hcs] at h; cases h
      | some cs =>
        rw [hb, hcs] at h
        rw [hq y b hb, mapM_le q q' hq ys cs hcs]
        exact h
/-! ### anyf25_26: a call of function 25 with the function 26 -/
def anyf25_26.f (k : Nat) (l0 : List (S27)) : Option Bool := (l0.mapM (fun x => impl_JoinTokens_1.f k (x.f0) (x.f1) (x.f2))).map fun bs => bs.any id
theorem anyf25_26.calls (k : Nat) (A0 : Option Addr) (c0 : Nat) (l0 : List (S27)) (r : Bool) (w : World) (hr0 : Kd.C k27 w A0 l0.length l0) (hc0 : l0.length ≤ c0) (h : anyf25_26.f k l0 = some r) :
    Calls Tryd.prog 25 #[.slice A0 l0.length c0, .func (.func 26) #[] #[]] w fun e w' => e = .returned (.bool r) ∧ Below w.heap.size w w' := by
  have eg : ∀ args w, (callFunc 26 args).run Tryd.prog w = .ok (.enter 26 args) w := enters_of Tryd.func26 (by kernel_rfl) rfl
  unfold anyf25_26.f at h
  obtain ⟨bs, hbs, rfl⟩ := Option.map_eq_some_iff.1 h
  obtain ⟨h1, h2⟩ := any_mapM _ l0 bs hbs
  rw [h2]
  exact impl_Token_25.callsP A0 c0 l0 26 #[] (fun x => ((fun x => impl_JoinTokens_1.f k (x.f0) (x.f1) (x.f2)) x).getD false) w eg hr0 (fun W x hx hb => (impl_JoinTokens_1.calls k (x.f0) (x.f1) (x.f2) _ W (h1 x hx)).mono (by rintro e w' ⟨rfl, h2⟩; exact ⟨rfl, below_step hb h2⟩))
/-! ### impl_JoinTokens: function 13 -/
def impl_JoinTokens.f (k : Nat) (l0 : List (S27)) : Option (ByteArray × Int) := (impl_Token_24.f l0).bind fun t101 => (if t101 = true then (if (l0.length : Int) > 4000 then (some ((⟨#[]⟩ : ByteArray), 6)) else ((anyf25_26.f k l0).bind fun t102 => (if t102 = true then (some ((⟨#[]⟩ : ByteArray), 1)) else ((impl_joined.f k l0).bind fun t103 => (some (t103, 0)))))) else (some ((⟨#[]⟩ : ByteArray), 2)))
set_option maxHeartbeats 8000000 in
set_option maxRecDepth 100000 in
theorem impl_JoinTokens.calls (k : Nat) (A0 : Option Addr) (c0 : Nat) (l0 : List (S27)) (r1 : ByteArray) (r2 : Int) (w : World) (hr0 : Kd.C k27 w A0 l0.length l0) (hc0 : l0.length ≤ c0) (h : impl_JoinTokens.f k l0 = some (r1, r2)) (htab : Tb w) :
    Calls Tryd.prog 13 #[.slice A0 l0.length c0] w fun e w' => e = .returned (.tuple #[.string r1, .int .i64 r2]) ∧ Below w.heap.size w w' := by
  have HTAB := Aside0.mk htab
  clear htab
  have HR0 := Aside0.mk hr0
  have HC0 := Aside0.mk hc0
  clear hr0 hc0
  have HB := Aside0.mk (Below.refl w.heap.size w)
  have H : ((impl_Token_24.f l0).bind fun t101 => (if t101 = true then (if (l0.length : Int) > 4000 then (some ((⟨#[]⟩ : ByteArray), 6)) else ((anyf25_26.f k l0).bind fun t102 => (if t102 = true then (some ((⟨#[]⟩ : ByteArray), 1)) else ((impl_joined.f k l0).bind fun t103 => (some (t103, 0)))))) else (some ((⟨#[]⟩ : ByteArray), 2)))) = some (r1, r2) := h
  clear h
  replace H := Option.bind_eq_some_iff.mp H
  obtain ⟨t101, A20, H⟩ := H
  replace H : (if t101 = true then (if (l0.length : Int) > 4000 then (some ((⟨#[]⟩ : ByteArray), 6)) else ((anyf25_26.f k l0).bind fun t102 => (if t102 = true then (some ((⟨#[]⟩ : ByteArray), 1)) else ((impl_joined.f k l0).bind fun t103 => (some (t103, 0)))))) else (some ((⟨#[]⟩ : ByteArray), 2))) = some (r1, r2) := H
  have A2 := Aside0.mk A20
  clear A20
  by_cases c3 : t101 = true
  · subst c3
    have H1 : (if (l0.length : Int) > 4000 then (some ((⟨#[]⟩ : ByteArray), 6)) else ((anyf25_26.f k l0).bind fun t102 => (if t102 = true then (some ((⟨#[]⟩ : ByteArray), 1)) else ((impl_joined.f k l0).bind fun t103 => (some (t103, 0)))))) = some (r1, r2) := by rw [if_pos rfl] at H; exact H
    clear H
    have H := H1
    clear H1
    by_cases c4 : (l0.length : Int) > 4000
    · rw [if_pos c4] at H
      have c4b0 : decide (4000 < (l0.length : Int)) = true := decide_eq_true c4
      have c4b1 : decide (4000 < l0.length) = true := decide_eq_true (by omega)
      clear c4
      simp only [Option.some.injEq, Prod.mk.injEq] at H
      obtain ⟨rfl, rfl⟩ := H
      go_enter Tryd.func13, Tryd.ntmps13
      go_wp2_with (first | ((with_reducible refine gate_callee (f := 24) rfl ?_); refine goesL_ (some 6) rfl rfl Tryd.func24 (by kernel_rfl) rfl #[.slice A0 l0.length c0] rfl (by (try simp only [List.map_toArray, List.map_cons, List.map_nil]); first | done | rfl | (simp only [List.length_drop, List.length_take]; rfl)) ?_; (with_reducible refine (impl_Token_24.calls _ _ l0 true _ ?side1 ?side2 A2.out).mono ?_); (case side1 => repeat (first | exact HR0.out | (with_reducible refine Kd.C_alloc ?_ _) | (with_reducible refine Kd.C_drewN ?_ _) | (with_reducible refine Kd.C_drew ?_))); (case side2 => exact HC0.out); rintro e w' ⟨rfl, ⟨nd, rfl⟩⟩; refine ⟨_, rfl, ?_⟩))
      go_ret2
      exact ⟨by first | rfl | (simp [errW_none, errW_some] <;> rfl) | (simp [*, errW_none, errW_some] <;> rfl), by repeat (first | (with_reducible first | exact HB.out | apply below_alloc | apply pw_below_drewN | apply below_drew1) | exact HB.out)⟩
    · rw [if_neg c4] at H
      have c4b0 : decide (4000 < (l0.length : Int)) = false := decide_eq_false c4
      have c4b1 : decide (4000 < l0.length) = false := decide_eq_false (by omega)
      clear c4
      replace H := Option.bind_eq_some_iff.mp H
      obtain ⟨t102, A50, H⟩ := H
      replace H : (if t102 = true then (some ((⟨#[]⟩ : ByteArray), 1)) else ((impl_joined.f k l0).bind fun t103 => (some (t103, 0)))) = some (r1, r2) := H
      have A5 := Aside0.mk A50
      clear A50
      by_cases c6 : t102 = true
      · subst c6
        have H1 : (some ((⟨#[]⟩ : ByteArray), 1)) = some (r1, r2) := by rw [if_pos rfl] at H; exact H
        clear H
        have H := H1
        clear H1
        simp only [Option.some.injEq, Prod.mk.injEq] at H
        obtain ⟨rfl, rfl⟩ := H
        go_enter Tryd.func13, Tryd.ntmps13
        go_wp2_with (first | ((with_reducible refine gate_callee (f := 24) rfl ?_); refine goesL_ (some 6) rfl rfl Tryd.func24 (by kernel_rfl) rfl #[.slice A0 l0.length c0] rfl (by (try simp only [List.map_toArray, List.map_cons, List.map_nil]); first | done | rfl | (simp only [List.length_drop, List.length_take]; rfl)) ?_; (with_reducible refine (impl_Token_24.calls _ _ l0 true _ ?side1 ?side2 A2.out).mono ?_); (case side1 => repeat (first | exact HR0.out | (with_reducible refine Kd.C_alloc ?_ _) | (with_reducible refine Kd.C_drewN ?_ _) | (with_reducible refine Kd.C_drew ?_))); (case side2 => exact HC0.out); rintro e w' ⟨rfl, ⟨nd, rfl⟩⟩; refine ⟨_, rfl, ?_⟩) | ((with_reducible refine gate_callee (f := 25) rfl ?_); refine goesL_ (some 14) rfl rfl Tryd.func25 (by kernel_rfl) rfl #[.slice A0 l0.length c0, .func (.func 26) #[] #[]] rfl (by (try simp only [List.map_toArray, List.map_cons, List.map_nil]); first | done | rfl | (simp only [List.length_drop, List.length_take]; rfl)) ?_; (with_reducible refine (anyf25_26.calls k _ _ l0 true _ ?side1 ?side2 A5.out).mono ?_); (case side1 => repeat (first | exact HR0.out | (with_reducible refine Kd.C_alloc ?_ _) | (with_reducible refine Kd.C_drewN ?_ _) | (with_reducible refine Kd.C_drew ?_))); (case side2 => exact HC0.out); rintro e w7 ⟨rfl, hb⟩; refine ⟨_, rfl, ?_⟩; have n0_ := Aside0.mk (below_step (by repeat (first | (with_reducible first | exact HB.out | apply below_alloc | apply pw_below_drewN | apply below_drew1) | exact HB.out)) hb); clear HB; have HB := n0_; clear n0_; (try clear hb); (try clear hb2); (try clear hk); (try clear hi)))
        go_ret2
        exact ⟨by first | rfl | (simp [errW_none, errW_some] <;> rfl) | (simp [*, errW_none, errW_some] <;> rfl), by repeat (first | (with_reducible first | exact HB.out | apply below_alloc | apply pw_below_drewN | apply below_drew1) | exact HB.out)⟩
      · replace c6 := Bool.eq_false_iff.mpr c6
        subst c6
        have H1 : ((impl_joined.f k l0).bind fun t103 => (some (t103, 0))) = some (r1, r2) := by rw [if_neg (show ¬ (false = true) by decide)] at H; exact H
        clear H
        have H := H1
        clear H1
        replace H := Option.bind_eq_some_iff.mp H
        obtain ⟨t103, A80, H⟩ := H
        replace H : (some (t103, 0)) = some (r1, r2) := H
        have A8 := Aside0.mk A80
        clear A80
        simp only [Option.some.injEq, Prod.mk.injEq] at H
        obtain ⟨rfl, rfl⟩ := H
        go_enter Tryd.func13, Tryd.ntmps13
        go_wp2_with (first | ((with_reducible refine gate_callee (f := 24) rfl ?_); refine goesL_ (some 6) rfl rfl Tryd.func24 (by kernel_rfl) rfl #[.slice A0 l0.length c0] rfl (by (try simp only [List.map_toArray, List.map_cons, List.map_nil]); first | done | rfl | (simp only [List.length_drop, List.length_take]; rfl)) ?_; (with_reducible refine (impl_Token_24.calls _ _ l0 true _ ?side1 ?side2 A2.out).mono ?_); (case side1 => repeat (first | exact HR0.out | (with_reducible refine Kd.C_alloc ?_ _) | (with_reducible refine Kd.C_drewN ?_ _) | (with_reducible refine Kd.C_drew ?_))); (case side2 => exact HC0.out); rintro e w' ⟨rfl, ⟨nd, rfl⟩⟩; refine ⟨_, rfl, ?_⟩) | ((with_reducible refine gate_callee (f := 25) rfl ?_); refine goesL_ (some 14) rfl rfl Tryd.func25 (by kernel_rfl) rfl #[.slice A0 l0.length c0, .func (.func 26) #[] #[]] rfl (by (try simp only [List.map_toArray, List.map_cons, List.map_nil]); first | done | rfl | (simp only [List.length_drop, List.length_take]; rfl)) ?_; (with_reducible refine (anyf25_26.calls k _ _ l0 false _ ?side1 ?side2 A5.out).mono ?_); (case side1 => repeat (first | exact HR0.out | (with_reducible refine Kd.C_alloc ?_ _) | (with_reducible refine Kd.C_drewN ?_ _) | (with_reducible refine Kd.C_drew ?_))); (case side2 => exact HC0.out); rintro e w9 ⟨rfl, hb⟩; refine ⟨_, rfl, ?_⟩; have n0_ := Aside0.mk (below_step (by repeat (first | (with_reducible first | exact HB.out | apply below_alloc | apply pw_below_drewN | apply below_drew1) | exact HB.out)) hb); clear HB; have HB := n0_; clear n0_; (try clear hb); (try clear hb2); (try clear hk); (try clear hi)) | ((with_reducible refine gate_callee (f := 27) rfl ?_); refine goesL_ (some 16) rfl rfl Tryd.func27 (by kernel_rfl) rfl #[.slice A0 l0.length c0] rfl (by (try simp only [List.map_toArray, List.map_cons, List.map_nil]); first | done | rfl | (simp only [List.length_drop, List.length_take]; rfl)) ?_; (with_reducible refine (impl_joined.calls k _ _ l0 t103 _ ?side1 ?side2 A8.out (by first | exact tb_below HTAB.out HB.out | exact tb_below HTAB.out (below_step HB.out HX.out) | (refine tb_below HTAB.out ?_; repeat (first | (with_reducible first | exact HB.out | apply below_alloc | apply pw_below_drewN | apply below_drew1 | (refine below_set ?_ ?_; rotate_left; first | exact GE101.out | exact GE102.out | exact GE103.out | exact GE104.out | exact GE105.out | exact GE106.out; skip)) | exact HB.out)))).mono ?_); (case side1 => repeat (first | exact (Kd.C_below HR0.out HB.out) | (with_reducible refine Kd.C_alloc ?_ _) | (with_reducible refine Kd.C_drewN ?_ _) | (with_reducible refine Kd.C_drew ?_))); (case side2 => exact HC0.out); rintro e w10 ⟨rfl, hb⟩; refine ⟨_, rfl, ?_⟩; have n0_ := Aside0.mk (below_step (by repeat (first | (with_reducible first | exact HB.out | apply below_alloc | apply pw_below_drewN | apply below_drew1) | exact HB.out)) hb); clear HB; have HB := n0_; clear n0_; (try clear hb); (try clear hb2); (try clear hk); (try clear hi)))
        go_ret2
        exact ⟨by first | rfl | (simp [errW_none, errW_some] <;> rfl) | (simp [*, errW_none, errW_some] <;> rfl), by repeat (first | (with_reducible first | exact HB.out | apply below_alloc | apply pw_below_drewN | apply below_drew1) | exact HB.out)⟩
  · replace c3 := Bool.eq_false_iff.mpr c3
    subst c3
    have H1 : (some ((⟨#[]⟩ : ByteArray), 2)) = some (r1, r2) := by rw [if_neg (show ¬ (false = true) by decide)] at H; exact H
    clear H
    have H := H1
    clear H1
    simp only [Option.some.injEq, Prod.mk.injEq] at H
    obtain ⟨rfl, rfl⟩ := H
    go_enter Tryd.func13, Tryd.ntmps13
    go_wp2_with (first | ((with_reducible refine gate_callee (f := 24) rfl ?_); refine goesL_ (some 6) rfl rfl Tryd.func24 (by kernel_rfl) rfl #[.slice A0 l0.length c0] rfl (by (try simp only [List.map_toArray, List.map_cons, List.map_nil]); first | done | rfl | (simp only [List.length_drop, List.length_take]; rfl)) ?_; (with_reducible refine (impl_Token_24.calls _ _ l0 false _ ?side1 ?side2 A2.out).mono ?_); (case side1 => repeat (first | exact HR0.out | (with_reducible refine Kd.C_alloc ?_ _) | (with_reducible refine Kd.C_drewN ?_ _) | (with_reducible refine Kd.C_drew ?_))); (case side2 => exact HC0.out); rintro e w' ⟨rfl, ⟨nd, rfl⟩⟩; refine ⟨_, rfl, ?_⟩))
    go_ret2
    exact ⟨by first | rfl | (simp [errW_none, errW_some] <;> rfl) | (simp [*, errW_none, errW_some] <;> rfl), by repeat (first | (with_reducible first | exact HB.out | apply below_alloc | apply pw_below_drewN | apply below_drew1) | exact HB.out)⟩

end Go.Proofs.YtolickgnncfmeaaDoor.Q
namespace Go.Proofs.YtolickgnncfmeaaDoor.Q
open Go.RowKit Go.Proofs.YtolickgnncfmeaaDoorW.PrintWords Go.Proofs.YtolickgnncfmeaaDoorW.PrintLast Go.Proofs.YtolickgnncfmeaaDoorW.PrintMore
attribute [local go_sem] max2_int min2_int max_two min_two max_three min_three max_four min_four   -- for this text's walks alone
set_option linter.unusedVariables false
set_option linter.unusedSimpArgs false

/-! ### laws_eqToken: function 28 -/
def laws_eqToken.f (a0_0 : Int) (a0_1 : Int) (a0_2 : ByteArray) (a1_0 : Int) (a1_1 : Int) (a1_2 : ByteArray) : Option (Bool) := if a0_0 = a1_0 then (if a0_1 = a1_1 then (if a0_2.toList = a1_2.toList then (some true) else (some false)) else (some false)) else (some false)
set_option maxHeartbeats 8000000 in
set_option maxRecDepth 100000 in
theorem laws_eqToken.calls (a0_0 : Int) (a0_1 : Int) (a0_2 : ByteArray) (a1_0 : Int) (a1_1 : Int) (a1_2 : ByteArray) (r : Bool) (w : World) (h : laws_eqToken.f a0_0 a0_1 a0_2 a1_0 a1_1 a1_2 = some r) :
    Calls Tryd.prog 28 #[.agg #[.int .i64 a0_0, .int .i64 a0_1, .string a0_2], .agg #[.int .i64 a1_0, .int .i64 a1_1, .string a1_2]] w fun e w' => e = .returned (.bool r) ∧ Below w.heap.size w w' := by
  have hu27 := Tryd.underlying27
  have HB := Aside0.mk (Below.refl w.heap.size w)
  have H : (if a0_0 = a1_0 then (if a0_1 = a1_1 then (if a0_2.toList = a1_2.toList then (some true) else (some false)) else (some false)) else (some false)) = some r := h
  clear h
  by_cases c3 : a0_0 = a1_0
  · rw [if_pos c3] at H
    have c3b0 : (a0_0 == a1_0) = true := beq_iff_eq.mpr c3
    have c3b1 : (a0_0 != a1_0) = false := bne_eq_false_iff_eq.mpr c3
    clear c3
    by_cases c4 : a0_1 = a1_1
    · rw [if_pos c4] at H
      have c4b0 : (a0_1 == a1_1) = true := beq_iff_eq.mpr c4
      have c4b1 : (a0_1 != a1_1) = false := bne_eq_false_iff_eq.mpr c4
      clear c4
      by_cases c5 : a0_2.toList = a1_2.toList
      · rw [if_pos c5] at H
        have c5b0 : (a0_2.toList == a1_2.toList) = true := beq_iff_eq.mpr c5
        have c5b1 : (a0_2.toList != a1_2.toList) = false := bne_eq_false_iff_eq.mpr c5
        clear c5
        obtain rfl := Option.some.inj H
        go_enter Tryd.func28, Tryd.ntmps28
        go_wp2_with (first | ((with_reducible refine gate_dst (N := 2) rfl ?_); refine box_event ?hg (N := 2) ?hd (cs := #[.int .i64 a0_0, .int .i64 a0_1, .string a0_2]) (t := 27) ?hr ?_; (case hd => rfl); (case hg => rfl); (case hr => first | (go_simp; done) | (go_simp; rfl)); intro gb101 hg w6 hbox hb; have n0_ := Aside0.mk (below_step (by repeat (first | (with_reducible first | exact HB.out | apply below_alloc | apply pw_below_drewN | apply below_drew1) | exact HB.out)) hb); have n1_ := Aside0.mk (hbox); have n2_ := Aside0.mk ((by rw [hg]; exact (below_size (by repeat (first | (with_reducible first | exact HB.out | apply below_alloc | apply pw_below_drewN | apply below_drew1) | exact HB.out))) : w.heap.size ≤ gb101)); have n3_ := Aside0.mk ((by rw [hg]; exact (below_size (by repeat (first | (with_reducible first | exact HB.out | apply below_alloc | apply pw_below_drewN | apply below_drew1) | exact HB.out))) : w.heap.size ≤ gb101)); clear HB; have HB := n0_; have BK101 := n1_; have GW101 := n2_; have GE101 := n3_; clear n0_ n1_ n2_ n3_; clear hb hbox hg) | ((with_reducible refine gate_dst (N := 3) rfl ?_); refine box_event ?hg (N := 3) ?hd (cs := #[.int .i64 a1_0, .int .i64 a1_1, .string a1_2]) (t := 27) ?hr ?_; (case hd => rfl); (case hg => rfl); (case hr => first | (go_simp; done) | (go_simp; rfl)); intro gb102 hg w7 hbox hb; have n0_ := Aside0.mk (blk_below (g := gb101) (o := .cells #[.int .i64 a0_0, .int .i64 a0_1, .string a0_2] 27 (0, 0)) (by (with_reducible repeat (first | refine blk_drewN ?_ _ | refine blk_drew ?_ | refine blk_alloc ?_ _)); exact BK101.out) hb); have n1_ := Aside0.mk (below_step (by repeat (first | (with_reducible first | exact HB.out | apply below_alloc | apply pw_below_drewN | apply below_drew1 | refine below_set ?_ GE101.out) | exact HB.out)) hb); have n2_ := Aside0.mk (hbox); have n3_ := Aside0.mk ((by rw [hg]; exact (below_size (by repeat (first | (with_reducible first | exact HB.out | apply below_alloc | apply pw_below_drewN | apply below_drew1 | refine below_set ?_ GE101.out) | exact HB.out))) : w.heap.size ≤ gb102)); have n4_ := Aside0.mk ((by rw [hg]; exact (below_size (by repeat (first | (with_reducible first | exact HB.out | apply below_alloc | apply pw_below_drewN | apply below_drew1 | refine below_set ?_ GE101.out) | exact HB.out))) : w.heap.size ≤ gb102)); have n5_ := Aside0.mk ((by rw [hg]; exact Nat.ne_of_lt (blk_lt (g := gb101) (o := .cells #[.int .i64 a0_0, .int .i64 a0_1, .string a0_2] 27 (0, 0)) (by (with_reducible repeat (first | refine blk_drewN ?_ _ | refine blk_drew ?_ | refine blk_alloc ?_ _)); exact BK101.out)) : gb101 ≠ gb102)); have n6_ := Aside0.mk ((by rw [hg]; exact Nat.ne_of_gt (blk_lt (g := gb101) (o := .cells #[.int .i64 a0_0, .int .i64 a0_1, .string a0_2] 27 (0, 0)) (by (with_reducible repeat (first | refine blk_drewN ?_ _ | refine blk_drew ?_ | refine blk_alloc ?_ _)); exact BK101.out)) : gb102 ≠ gb101)); clear BK101; clear HB; have BK101 := n0_; have HB := n1_; have BK102 := n2_; have GW102 := n3_; have GE102 := n4_; have NB101_102 := n5_; have NB102_101 := n6_; clear n0_ n1_ n2_ n3_ n4_ n5_ n6_; clear hb hbox hg; have hnb8 := NB101_102.out; have hnc8 := NB102_101.out; have hcz9_0 : w7.cell? ⟨gb101, 0, none⟩ = some (.int .i64 a0_0) := (blk_cell BK101.out 0).trans rfl; have hcz9_1 : w7.cell? ⟨gb101, 1, none⟩ = some (.int .i64 a0_1) := (blk_cell BK101.out 1).trans rfl; have hcz9_2 : w7.cell? ⟨gb101, 2, none⟩ = some (.string a0_2) := (blk_cell BK101.out 2).trans rfl; have hfz9_0 := blk_frozen BK101.out 0; have hfz9_1 := blk_frozen BK101.out 1; have hfz9_2 := blk_frozen BK101.out 2; have hcz10_0 : w7.cell? ⟨gb102, 0, none⟩ = some (.int .i64 a1_0) := (blk_cell BK102.out 0).trans rfl; have hcz10_1 : w7.cell? ⟨gb102, 1, none⟩ = some (.int .i64 a1_1) := (blk_cell BK102.out 1).trans rfl; have hcz10_2 : w7.cell? ⟨gb102, 2, none⟩ = some (.string a1_2) := (blk_cell BK102.out 2).trans rfl; have hfz10_0 := blk_frozen BK102.out 0; have hfz10_1 := blk_frozen BK102.out 1; have hfz10_2 := blk_frozen BK102.out 2))
        go_ret
        exact ⟨by first | rfl | (simp [errW_none, errW_some] <;> rfl) | (simp [*, errW_none, errW_some] <;> rfl), by repeat (first | (with_reducible first | exact HB.out | apply below_alloc | apply pw_below_drewN | apply below_drew1 | refine below_set ?_ GE101.out | refine below_set ?_ GE102.out) | exact HB.out)⟩
      · rw [if_neg c5] at H
        have c5b0 : (a0_2.toList == a1_2.toList) = false := beq_eq_false_iff_ne.mpr c5
        have c5b1 : (a0_2.toList != a1_2.toList) = true := bne_iff_ne.mpr c5
        obtain rfl := Option.some.inj H
        go_enter Tryd.func28, Tryd.ntmps28
        go_wp2_with (first | ((with_reducible refine gate_dst (N := 2) rfl ?_); refine box_event ?hg (N := 2) ?hd (cs := #[.int .i64 a0_0, .int .i64 a0_1, .string a0_2]) (t := 27) ?hr ?_; (case hd => rfl); (case hg => rfl); (case hr => first | (go_simp; done) | (go_simp; rfl)); intro gb101 hg w11 hbox hb; have n0_ := Aside0.mk (below_step (by repeat (first | (with_reducible first | exact HB.out | apply below_alloc | apply pw_below_drewN | apply below_drew1) | exact HB.out)) hb); have n1_ := Aside0.mk (hbox); have n2_ := Aside0.mk ((by rw [hg]; exact (below_size (by repeat (first | (with_reducible first | exact HB.out | apply below_alloc | apply pw_below_drewN | apply below_drew1) | exact HB.out))) : w.heap.size ≤ gb101)); have n3_ := Aside0.mk ((by rw [hg]; exact (below_size (by repeat (first | (with_reducible first | exact HB.out | apply below_alloc | apply pw_below_drewN | apply below_drew1) | exact HB.out))) : w.heap.size ≤ gb101)); clear HB; have HB := n0_; have BK101 := n1_; have GW101 := n2_; have GE101 := n3_; clear n0_ n1_ n2_ n3_; clear hb hbox hg) | ((with_reducible refine gate_dst (N := 3) rfl ?_); refine box_event ?hg (N := 3) ?hd (cs := #[.int .i64 a1_0, .int .i64 a1_1, .string a1_2]) (t := 27) ?hr ?_; (case hd => rfl); (case hg => rfl); (case hr => first | (go_simp; done) | (go_simp; rfl)); intro gb102 hg w12 hbox hb; have n0_ := Aside0.mk (blk_below (g := gb101) (o := .cells #[.int .i64 a0_0, .int .i64 a0_1, .string a0_2] 27 (0, 0)) (by (with_reducible repeat (first | refine blk_drewN ?_ _ | refine blk_drew ?_ | refine blk_alloc ?_ _)); exact BK101.out) hb); have n1_ := Aside0.mk (below_step (by repeat (first | (with_reducible first | exact HB.out | apply below_alloc | apply pw_below_drewN | apply below_drew1 | refine below_set ?_ GE101.out) | exact HB.out)) hb); have n2_ := Aside0.mk (hbox); have n3_ := Aside0.mk ((by rw [hg]; exact (below_size (by repeat (first | (with_reducible first | exact HB.out | apply below_alloc | apply pw_below_drewN | apply below_drew1 | refine below_set ?_ GE101.out) | exact HB.out))) : w.heap.size ≤ gb102)); have n4_ := Aside0.mk ((by rw [hg]; exact (below_size (by repeat (first | (with_reducible first | exact HB.out | apply below_alloc | apply pw_below_drewN | apply below_drew1 | refine below_set ?_ GE101.out) | exact HB.out))) : w.heap.size ≤ gb102)); have n5_ := Aside0.mk ((by rw [hg]; exact Nat.ne_of_lt (blk_lt (g := gb101) (o := .cells #[.int .i64 a0_0, .int .i64 a0_1, .string a0_2] 27 (0, 0)) (by (with_reducible repeat (first | refine blk_drewN ?_ _ | refine blk_drew ?_ | refine blk_alloc ?_ _)); exact BK101.out)) : gb101 ≠ gb102)); have n6_ := Aside0.mk ((by rw [hg]; exact Nat.ne_of_gt (blk_lt (g := gb101) (o := .cells #[.int .i64 a0_0, .int .i64 a0_1, .string a0_2] 27 (0, 0)) (by (with_reducible repeat (first | refine blk_drewN ?_ _ | refine blk_drew ?_ | refine blk_alloc ?_ _)); exact BK101.out)) : gb102 ≠ gb101)); clear BK101; clear HB; have BK101 := n0_; have HB := n1_; have BK102 := n2_; have GW102 := n3_; have GE102 := n4_; have NB101_102 := n5_; have NB102_101 := n6_; clear n0_ n1_ n2_ n3_ n4_ n5_ n6_; clear hb hbox hg; have hnb13 := NB101_102.out; have hnc13 := NB102_101.out; have hcz14_0 : w12.cell? ⟨gb101, 0, none⟩ = some (.int .i64 a0_0) := (blk_cell BK101.out 0).trans rfl; have hcz14_1 : w12.cell? ⟨gb101, 1, none⟩ = some (.int .i64 a0_1) := (blk_cell BK101.out 1).trans rfl; have hcz14_2 : w12.cell? ⟨gb101, 2, none⟩ = some (.string a0_2) := (blk_cell BK101.out 2).trans rfl; have hfz14_0 := blk_frozen BK101.out 0; have hfz14_1 := blk_frozen BK101.out 1; have hfz14_2 := blk_frozen BK101.out 2; have hcz15_0 : w12.cell? ⟨gb102, 0, none⟩ = some (.int .i64 a1_0) := (blk_cell BK102.out 0).trans rfl; have hcz15_1 : w12.cell? ⟨gb102, 1, none⟩ = some (.int .i64 a1_1) := (blk_cell BK102.out 1).trans rfl; have hcz15_2 : w12.cell? ⟨gb102, 2, none⟩ = some (.string a1_2) := (blk_cell BK102.out 2).trans rfl; have hfz15_0 := blk_frozen BK102.out 0; have hfz15_1 := blk_frozen BK102.out 1; have hfz15_2 := blk_frozen BK102.out 2))
        go_ret
        exact ⟨by first | rfl | (simp [errW_none, errW_some] <;> rfl) | (simp [*, errW_none, errW_some] <;> rfl), by repeat (first | (with_reducible first | exact HB.out | apply below_alloc | apply pw_below_drewN | apply below_drew1 | refine below_set ?_ GE101.out | refine below_set ?_ GE102.out) | exact HB.out)⟩
    · rw [if_neg c4] at H
      have c4b0 : (a0_1 == a1_1) = false := beq_eq_false_iff_ne.mpr c4
      have c4b1 : (a0_1 != a1_1) = true := bne_iff_ne.mpr c4
      obtain rfl := Option.some.inj H
      go_enter Tryd.func28, Tryd.ntmps28
      go_wp2_with (first | ((with_reducible refine gate_dst (N := 2) rfl ?_); refine box_event ?hg (N := 2) ?hd (cs := #[.int .i64 a0_0, .int .i64 a0_1, .string a0_2]) (t := 27) ?hr ?_; (case hd => rfl); (case hg => rfl); (case hr => first | (go_simp; done) | (go_simp; rfl)); intro gb101 hg w16 hbox hb; have n0_ := Aside0.mk (below_step (by repeat (first | (with_reducible first | exact HB.out | apply below_alloc | apply pw_below_drewN | apply below_drew1) | exact HB.out)) hb); have n1_ := Aside0.mk (hbox); have n2_ := Aside0.mk ((by rw [hg]; exact (below_size (by repeat (first | (with_reducible first | exact HB.out | apply below_alloc | apply pw_below_drewN | apply below_drew1) | exact HB.out))) : w.heap.size ≤ gb101)); have n3_ := Aside0.mk ((by rw [hg]; exact (below_size (by repeat (first | (with_reducible first | exact HB.out | apply below_alloc | apply pw_below_drewN | apply below_drew1) | exact HB.out))) : w.heap.size ≤ gb101)); clear HB; have HB := n0_; have BK101 := n1_; have GW101 := n2_; have GE101 := n3_; clear n0_ n1_ n2_ n3_; clear hb hbox hg) | ((with_reducible refine gate_dst (N := 3) rfl ?_); refine box_event ?hg (N := 3) ?hd (cs := #[.int .i64 a1_0, .int .i64 a1_1, .string a1_2]) (t := 27) ?hr ?_; (case hd => rfl); (case hg => rfl); (case hr => first | (go_simp; done) | (go_simp; rfl)); intro gb102 hg w17 hbox hb; have n0_ := Aside0.mk (blk_below (g := gb101) (o := .cells #[.int .i64 a0_0, .int .i64 a0_1, .string a0_2] 27 (0, 0)) (by (with_reducible repeat (first | refine blk_drewN ?_ _ | refine blk_drew ?_ | refine blk_alloc ?_ _)); exact BK101.out) hb); have n1_ := Aside0.mk (below_step (by repeat (first | (with_reducible first | exact HB.out | apply below_alloc | apply pw_below_drewN | apply below_drew1 | refine below_set ?_ GE101.out) | exact HB.out)) hb); have n2_ := Aside0.mk (hbox); have n3_ := Aside0.mk ((by rw [hg]; exact (below_size (by repeat (first | (with_reducible first | exact HB.out | apply below_alloc | apply pw_below_drewN | apply below_drew1 | refine below_set ?_ GE101.out) | exact HB.out))) : w.heap.size ≤ gb102)); have n4_ := Aside0.mk ((by rw [hg]; exact (below_size (by repeat (first | (with_reducible first | exact HB.out | apply below_alloc | apply pw_below_drewN | apply below_drew1 | refine below_set ?_ GE101.out) | exact HB.out))) : w.heap.size ≤ gb102)); have n5_ := Aside0.mk ((by rw [hg]; exact Nat.ne_of_lt (blk_lt (g := gb101) (o := .cells #[.int .i64 a0_0, .int .i64 a0_1, .string a0_2] 27 (0, 0)) (by (with_reducible repeat (first | refine blk_drewN ?_ _ | refine blk_drew ?_ | refine blk_alloc ?_ _)); exact BK101.out)) : gb101 ≠ gb102)); have n6_ := Aside0.mk ((by rw [hg]; exact Nat.ne_of_gt (blk_lt (g := gb101) (o := .cells #[.int .i64 a0_0, .int .i64 a0_1, .string a0_2] 27 (0, 0)) (by (with_reducible repeat (first | refine blk_drewN ?_ _ | refine blk_drew ?_ | refine blk_alloc ?_ _)); exact BK101.out)) : gb102 ≠ gb101)); clear BK101; clear HB; have BK101 := n0_; have HB := n1_; have BK102 := n2_; have GW102 := n3_; have GE102 := n4_; have NB101_102 := n5_; have NB102_101 := n6_; clear n0_ n1_ n2_ n3_ n4_ n5_ n6_; clear hb hbox hg; have hnb18 := NB101_102.out; have hnc18 := NB102_101.out; have hcz19_0 : w17.cell? ⟨gb101, 0, none⟩ = some (.int .i64 a0_0) := (blk_cell BK101.out 0).trans rfl; have hcz19_1 : w17.cell? ⟨gb101, 1, none⟩ = some (.int .i64 a0_1) := (blk_cell BK101.out 1).trans rfl; have hcz19_2 : w17.cell? ⟨gb101, 2, none⟩ = some (.string a0_2) := (blk_cell BK101.out 2).trans rfl; have hfz19_0 := blk_frozen BK101.out 0; have hfz19_1 := blk_frozen BK101.out 1; have hfz19_2 := blk_frozen BK101.out 2; have hcz20_0 : w17.cell? ⟨gb102, 0, none⟩ = some (.int .i64 a1_0) := (blk_cell BK102.out 0).trans rfl; have hcz20_1 : w17.cell? ⟨gb102, 1, none⟩ = some (.int .i64 a1_1) := (blk_cell BK102.out 1).trans rfl; have hcz20_2 : w17.cell? ⟨gb102, 2, none⟩ = some (.string a1_2) := (blk_cell BK102.out 2).trans rfl; have hfz20_0 := blk_frozen BK102.out 0; have hfz20_1 := blk_frozen BK102.out 1; have hfz20_2 := blk_frozen BK102.out 2))
      go_ret
      exact ⟨by first | rfl | (simp [errW_none, errW_some] <;> rfl) | (simp [*, errW_none, errW_some] <;> rfl), by repeat (first | (with_reducible first | exact HB.out | apply below_alloc | apply pw_below_drewN | apply below_drew1 | refine below_set ?_ GE101.out | refine below_set ?_ GE102.out) | exact HB.out)⟩
  · rw [if_neg c3] at H
    have c3b0 : (a0_0 == a1_0) = false := beq_eq_false_iff_ne.mpr c3
    have c3b1 : (a0_0 != a1_0) = true := bne_iff_ne.mpr c3
    obtain rfl := Option.some.inj H
    go_enter Tryd.func28, Tryd.ntmps28
    go_wp2_with (first | ((with_reducible refine gate_dst (N := 2) rfl ?_); refine box_event ?hg (N := 2) ?hd (cs := #[.int .i64 a0_0, .int .i64 a0_1, .string a0_2]) (t := 27) ?hr ?_; (case hd => rfl); (case hg => rfl); (case hr => first | (go_simp; done) | (go_simp; rfl)); intro gb101 hg w21 hbox hb; have n0_ := Aside0.mk (below_step (by repeat (first | (with_reducible first | exact HB.out | apply below_alloc | apply pw_below_drewN | apply below_drew1) | exact HB.out)) hb); have n1_ := Aside0.mk (hbox); have n2_ := Aside0.mk ((by rw [hg]; exact (below_size (by repeat (first | (with_reducible first | exact HB.out | apply below_alloc | apply pw_below_drewN | apply below_drew1) | exact HB.out))) : w.heap.size ≤ gb101)); have n3_ := Aside0.mk ((by rw [hg]; exact (below_size (by repeat (first | (with_reducible first | exact HB.out | apply below_alloc | apply pw_below_drewN | apply below_drew1) | exact HB.out))) : w.heap.size ≤ gb101)); clear HB; have HB := n0_; have BK101 := n1_; have GW101 := n2_; have GE101 := n3_; clear n0_ n1_ n2_ n3_; clear hb hbox hg) | ((with_reducible refine gate_dst (N := 3) rfl ?_); refine box_event ?hg (N := 3) ?hd (cs := #[.int .i64 a1_0, .int .i64 a1_1, .string a1_2]) (t := 27) ?hr ?_; (case hd => rfl); (case hg => rfl); (case hr => first | (go_simp; done) | (go_simp; rfl)); intro gb102 hg w22 hbox hb; have n0_ := Aside0.mk (blk_below (g := gb101) (o := .cells #[.int .i64 a0_0, .int .i64 a0_1, .string a0_2] 27 (0, 0)) (by (with_reducible repeat (first | refine blk_drewN ?_ _ | refine blk_drew ?_ | refine blk_alloc ?_ _)); exact BK101.out) hb); have n1_ := Aside0.mk (below_step (by repeat (first | (with_reducible first | exact HB.out | apply below_alloc | apply pw_below_drewN | apply below_drew1 | refine below_set ?_ GE101.out) | exact HB.out)) hb); have n2_ := Aside0.mk (hbox); have n3_ := Aside0.mk ((by rw [hg]; exact (below_size (by repeat (first | (with_reducible first | exact HB.out | apply below_alloc | apply pw_below_drewN | apply below_drew1 | refine below_set ?_ GE101.out) | exact HB.out))) : w.heap.size ≤ gb102)); have n4_ := Aside0.mk ((by rw [hg]; exact (below_size (by repeat (first | (with_reducible first | exact HB.out | apply below_alloc | apply pw_below_drewN | apply below_drew1 | refine below_set ?_ GE101.out) | exact HB.out))) : w.heap.size ≤ gb102)); have n5_ := Aside0.mk ((by rw [hg]; exact Nat.ne_of_lt (blk_lt (g := gb101) (o := .cells #[.int .i64 a0_0, .int .i64 a0_1, .string a0_2] 27 (0, 0)) (by (with_reducible repeat (first | refine blk_drewN ?_ _ | refine blk_drew ?_ | refine blk_alloc ?_ _)); exact BK101.out)) : gb101 ≠ gb102)); have n6_ := Aside0.mk ((by rw [hg]; exact Nat.ne_of_gt (blk_lt (g := gb101) (o := .cells #[.int .i64 a0_0, .int .i64 a0_1, .string a0_2] 27 (0, 0)) (by (with_reducible repeat (first | refine blk_drewN ?_ _ | refine blk_drew ?_ | refine blk_alloc ?_ _)); exact BK101.out)) : gb102 ≠ gb101)); clear BK101; clear HB; have BK101 := n0_; have HB := n1_; have BK102 := n2_; have GW102 := n3_; have GE102 := n4_; have NB101_102 := n5_; have NB102_101 := n6_; clear n0_ n1_ n2_ n3_ n4_ n5_ n6_; clear hb hbox hg; have hnb23 := NB101_102.out; have hnc23 := NB102_101.out; have hcz24_0 : w22.cell? ⟨gb101, 0, none⟩ = some (.int .i64 a0_0) := (blk_cell BK101.out 0).trans rfl; have hcz24_1 : w22.cell? ⟨gb101, 1, none⟩ = some (.int .i64 a0_1) := (blk_cell BK101.out 1).trans rfl; have hcz24_2 : w22.cell? ⟨gb101, 2, none⟩ = some (.string a0_2) := (blk_cell BK101.out 2).trans rfl; have hfz24_0 := blk_frozen BK101.out 0; have hfz24_1 := blk_frozen BK101.out 1; have hfz24_2 := blk_frozen BK101.out 2; have hcz25_0 : w22.cell? ⟨gb102, 0, none⟩ = some (.int .i64 a1_0) := (blk_cell BK102.out 0).trans rfl; have hcz25_1 : w22.cell? ⟨gb102, 1, none⟩ = some (.int .i64 a1_1) := (blk_cell BK102.out 1).trans rfl; have hcz25_2 : w22.cell? ⟨gb102, 2, none⟩ = some (.string a1_2) := (blk_cell BK102.out 2).trans rfl; have hfz25_0 := blk_frozen BK102.out 0; have hfz25_1 := blk_frozen BK102.out 1; have hfz25_2 := blk_frozen BK102.out 2))
    go_ret
    exact ⟨by first | rfl | (simp [errW_none, errW_some] <;> rfl) | (simp [*, errW_none, errW_some] <;> rfl), by repeat (first | (with_reducible first | exact HB.out | apply below_alloc | apply pw_below_drewN | apply below_drew1 | refine below_set ?_ GE101.out | refine below_set ?_ GE102.out) | exact HB.out)⟩

end Go.Proofs.YtolickgnncfmeaaDoor.Q
namespace Go.Proofs.YtolickgnncfmeaaDoor.Q
open Go.RowKit Go.Proofs.YtolickgnncfmeaaDoorW.PrintWords Go.Proofs.YtolickgnncfmeaaDoorW.PrintLast Go.Proofs.YtolickgnncfmeaaDoorW.PrintMore
attribute [local go_sem] max2_int min2_int max_two min_two max_three min_three max_four min_four   -- for this text's walks alone
set_option linter.unusedVariables false
set_option linter.unusedSimpArgs false

/-! ### laws_eqTokenS: function 14 -/
def laws_eqTokenS.l0 : Nat → List (S27) → List (S27) → Int → Option (Bool)
  | 0, _, _, _ => none
  | k + 1, x0, x1, x5 => if x5 < (x0.length : Int) then (if 0 ≤ x5 then (if x5 < (x1.length : Int) then ((laws_eqToken.f ((rd_T27 x0 x5).f0) ((rd_T27 x0 x5).f1) ((rd_T27 x0 x5).f2) ((rd_T27 x1 x5).f0) ((rd_T27 x1 x5).f1) ((rd_T27 x1 x5).f2)).bind fun t103 => (if t103 = true then (laws_eqTokenS.l0 k x0 x1 (wrap64 (x5 + 1))) else (some false))) else (none)) else (none)) else (some true)
def laws_eqTokenS.f (k : Nat) (l0 : List (S27)) (l1 : List (S27)) : Option (Bool) := if (l0.length : Int) = (l1.length : Int) then (laws_eqTokenS.l0 k l0 l1 0) else (some false)
def laws_eqTokenS.T6 : Bool × List (List Nat × List Nat) := (true, [([], []), ([], []), ([0, 1], [0, 1]), ([2], [2]), ([], []), ([], []), ([4, 5], [4, 5]), ([6], [6]), ([3, 7], [3, 7]), ([8], [8])])
def laws_eqTokenS.B6 : List Nat := [0, 0, 3, 7, 0, 0, 48, 112, 255, 511]
theorem laws_eqTokenS.tab6 : rtab .any (opsOf Tryd.f14 6) = laws_eqTokenS.T6 := by kernel_rfl
theorem laws_eqTokenS.bits6 : waitsOk laws_eqTokenS.T6.2 laws_eqTokenS.B6 = true := by kernel_rfl
def laws_eqTokenS.y0 : Array Bool := #[false, false, false, false, false, false, false, false, false, false]
def laws_eqTokenS.y1 : Array Bool := #[true, false, false, false, false, false, false, false, false, false]
def laws_eqTokenS.y2 : Array Bool := #[true, true, false, false, false, false, false, false, false, false]
def laws_eqTokenS.y3 : Array Bool := #[true, true, true, false, false, false, false, false, false, false]
def laws_eqTokenS.y4 : Array Bool := #[true, true, true, false, true, false, false, false, false, false]
def laws_eqTokenS.y5 : Array Bool := #[true, true, true, false, true, true, false, false, false, false]
def laws_eqTokenS.y6 : Array Bool := #[true, true, true, false, true, true, true, false, false, false]
def laws_eqTokenS.y7 : Array Bool := #[true, true, true, true, true, true, true, false, false, false]
def laws_eqTokenS.y8 : Array Bool := #[true, true, true, true, true, true, true, true, false, false]
def laws_eqTokenS.y9 : Array Bool := #[true, true, true, true, true, true, true, true, true, false]
def laws_eqTokenS.y10 : Array Bool := #[true, true, true, true, true, true, true, true, true, true]
set_option maxHeartbeats 8000000 in
set_option maxRecDepth 100000 in
theorem laws_eqTokenS.calls (k : Nat) (A0 : Option Addr) (c0 : Nat) (l0 : List (S27)) (A1 : Option Addr) (c1 : Nat) (l1 : List (S27)) (r : Bool) (w : World) (hr0 : Kd.C k27 w A0 l0.length l0) (hc0 : l0.length ≤ c0) (hr1 : Kd.C k27 w A1 l1.length l1) (hc1 : l1.length ≤ c1) (h : laws_eqTokenS.f k l0 l1 = some r) :
    Calls Tryd.prog 14 #[.slice A0 l0.length c0, .slice A1 l1.length c1] w fun e w' => e = .returned (.bool r) ∧ Below w.heap.size w w' := by
  have hu27 := Tryd.underlying27
  have HR0 := Aside0.mk hr0
  have HC0 := Aside0.mk hc0
  clear hr0 hc0
  have HR1 := Aside0.mk hr1
  have HC1 := Aside0.mk hc1
  clear hr1 hc1
  have HB := Aside0.mk (Below.refl w.heap.size w)
  have H : (if (l0.length : Int) = (l1.length : Int) then (laws_eqTokenS.l0 k l0 l1 0) else (some false)) = some r := h
  clear h
  by_cases c3 : (l0.length : Int) = (l1.length : Int)
  · rw [if_pos c3] at H
    have c3b0 : ((l0.length : Int) == (l1.length : Int)) = true := beq_iff_eq.mpr c3
    have c3b1 : ((l0.length : Int) != (l1.length : Int)) = false := bne_eq_false_iff_eq.mpr c3
    have c3b2 : (l0.length == l1.length) = true := by first | simpa using c3 | (simp at c3 ⊢; omega)
    clear c3
    have H' := Aside0.mk H
    clear H
    go_enter Tryd.func14, Tryd.ntmps14
    go_wp2
    go_loopg [5] k (fun kq v5 w' => ∃ (x5_1 : Int), v5 = .int .i64 x5_1 ∧ Aside0 (laws_eqTokenS.l0 kq l0 l1 x5_1 = some r) ∧ Aside0 (kq ≤ k) ∧ Aside0 (Below w.heap.size w w'))
    case atStart => exact ⟨(0), (by first | rfl | (simp; done) | (simp [*]; done)), H', ⟨Nat.le_refl _⟩, ⟨by repeat (first | (with_reducible first | exact HB.out | apply below_alloc | apply pw_below_drewN | apply below_drew1) | exact HB.out)⟩⟩
    case round =>
      clear H'
      try clear c1
      try clear p2
      try clear c3
      try clear c3b0
      try clear c3b1
      try clear c3b2
      obtain ⟨x5_1, rfl, HA, HK1, HB⟩ := hrel
      cases gk with
      | zero => exact absurd HA.out (by simp [laws_eqTokenS.l0])
      | succ k1 =>
        have H := HA.out
        clear HA
        simp only [laws_eqTokenS.l0] at H
        by_cases c4 : x5_1 < (l0.length : Int)
        · rw [if_pos c4] at H
          have c4b0 : decide (x5_1 < (l0.length : Int)) = true := decide_eq_true c4
          clear c4
          by_cases c5 : 0 ≤ x5_1
          · rw [if_pos c5] at H
            have c5b0 : decide (0 ≤ x5_1) = true := decide_eq_true c5
            clear c5
            by_cases c6 : x5_1 < (l1.length : Int)
            · rw [if_pos c6] at H
              have c6b0 : decide (x5_1 < (l1.length : Int)) = true := decide_eq_true c6
              clear c6
              replace H := Option.bind_eq_some_iff.mp H
              obtain ⟨t103, A70, H⟩ := H
              replace H : (if t103 = true then (laws_eqTokenS.l0 k1 l0 l1 (wrap64 (x5_1 + 1))) else (some false)) = some r := H
              have A7 := Aside0.mk A70
              clear A70
              by_cases c8 : t103 = true
              · subst c8
                have H1 : (laws_eqTokenS.l0 k1 l0 l1 (wrap64 (x5_1 + 1))) = some r := by rw [if_pos rfl] at H; exact H
                clear H
                have H := H1
                clear H1
                have H' := Aside0.mk H
                clear H
                try go_wp2
                have n0_ := Aside0.mk (below_drew1 HB.out)
                clear HB
                have HB := n0_
                clear n0_
                have p101 : 0 ≤ (x5_1 : Int) := of_decide_eq_true (by first | (with_reducible assumption) | assumption)
                have q101 : x5_1 < (l0.length : Int) := of_decide_eq_true (by first | (with_reducible assumption) | assumption)
                obtain ⟨ad101, e101, hx101_0, hx101_1, hx101_2⟩ := at_T27 HR0.out x5_1 p101 q101
                have hw101_2 := hx101_2
                have hw101_1 := hx101_1
                have hw101_0 := hx101_0
                cases e101
                replace hx101_0 := (HB.out.cell (World.block_lt_of_cell? w _ hx101_0)).trans hx101_0
                replace hx101_1 := (HB.out.cell (World.block_lt_of_cell? w _ hx101_1)).trans hx101_1
                replace hx101_2 := (HB.out.cell (World.block_lt_of_cell? w _ hx101_2)).trans hx101_2
                replace p101 := eq_true p101
                replace q101 := eq_true q101
                have p102 : 0 ≤ (x5_1 : Int) := of_decide_eq_true (by first | (with_reducible assumption) | assumption)
                have q102 : x5_1 < (l1.length : Int) := of_decide_eq_true (by first | (with_reducible assumption) | assumption)
                obtain ⟨ad102, e102, hx102_0, hx102_1, hx102_2⟩ := at_T27 HR1.out x5_1 p102 q102
                have hw102_2 := hx102_2
                have hw102_1 := hx102_1
                have hw102_0 := hx102_0
                cases e102
                replace hx102_0 := (HB.out.cell (World.block_lt_of_cell? w _ hx102_0)).trans hx102_0
                replace hx102_1 := (HB.out.cell (World.block_lt_of_cell? w _ hx102_1)).trans hx102_1
                replace hx102_2 := (HB.out.cell (World.block_lt_of_cell? w _ hx102_2)).trans hx102_2
                replace p102 := eq_true p102
                replace q102 := eq_true q102
                refine start_ (n := 10) (S := fun w' => w'.cell? (ad101.add ((x5_1).toNat * 3)) = some (.int .i64 ((rd_T27 l0 x5_1).f0)) ∧ w'.cell? ⟨(ad101.add ((x5_1).toNat * 3)).block, (ad101.add ((x5_1).toNat * 3)).off + 1, none⟩ = some (.int .i64 ((rd_T27 l0 x5_1).f1)) ∧ w'.cell? ⟨(ad101.add ((x5_1).toNat * 3)).block, (ad101.add ((x5_1).toNat * 3)).off + 2, none⟩ = some (.string ((rd_T27 l0 x5_1).f2)) ∧ w'.cell? (ad102.add ((x5_1).toNat * 3)) = some (.int .i64 ((rd_T27 l1 x5_1).f0)) ∧ w'.cell? ⟨(ad102.add ((x5_1).toNat * 3)).block, (ad102.add ((x5_1).toNat * 3)).off + 1, none⟩ = some (.int .i64 ((rd_T27 l1 x5_1).f1)) ∧ w'.cell? ⟨(ad102.add ((x5_1).toNat * 3)).block, (ad102.add ((x5_1).toNat * 3)).off + 2, none⟩ = some (.string ((rd_T27 l1 x5_1).f2))) (ds := []) laws_eqTokenS.y0 (by kernel_rfl) rfl rfl ⟨((HB.out.cell (World.block_lt_of_cell? w _ hw101_0)).trans hw101_0), ((HB.out.cell (World.block_lt_of_cell? w _ hw101_1)).trans hw101_1), ((HB.out.cell (World.block_lt_of_cell? w _ hw101_2)).trans hw101_2), ((HB.out.cell (World.block_lt_of_cell? w _ hw102_0)).trans hw102_0), ((HB.out.cell (World.block_lt_of_cell? w _ hw102_1)).trans hw102_1), ((HB.out.cell (World.block_lt_of_cell? w _ hw102_2)).trans hw102_2)⟩ (fun hHeld => ?_); refine with_tabW laws_eqTokenS.tab6 laws_eqTokenS.bits6 (fun HT_ HW_ => ?_)
                generalize wr.drew = w9 at HB hx101_0 hx101_1 hx101_2 hx102_0 hx102_1 hx102_2 hHeld ⊢
                refine pure_ (i := 0) (N := some 17) (v := ?_) (a' := ?_) laws_eqTokenS.y1 rfl rfl (any_of HT_.out (by kernel_rfl)) (fun _ _ _ h => h) (Or.inl ⟨by rfl, ?_⟩) ?_ ?_
                rotate_left
                · intro w'
                  go_simp
                  with_reducible rfl
                rotate_left
                · simp only [Act.put, List.setIfInBounds_toArray, List.set_cons_zero, List.set_cons_succ, i64_w, i32_w]
                  rfl
                refine pure_ (i := 1) (N := some 18) (v := ?_) (a' := ?_) laws_eqTokenS.y2 rfl rfl (any_of HT_.out (by kernel_rfl)) (fun _ _ _ h => h) (Or.inl ⟨by rfl, ?_⟩) ?_ ?_
                rotate_left
                · intro w'
                  go_simp
                  with_reducible rfl
                rotate_left
                · simp only [Act.put, List.setIfInBounds_toArray, List.set_cons_zero, List.set_cons_succ, i64_w, i32_w]
                  rfl
                refine pure_ (i := 2) (N := some 19) (v := ?_) (a' := ?_) laws_eqTokenS.y3 rfl rfl (any_of HT_.out (by kernel_rfl)) (fun _ _ _ h => h) (Or.inl ⟨by rfl, ?_⟩) ?_ ?_
                rotate_left
                · intro w'
                  go_simp
                  with_reducible rfl
                rotate_left
                · simp only [Act.put, List.setIfInBounds_toArray, List.set_cons_zero, List.set_cons_succ, i64_w, i32_w]
                  rfl
                refine pure_ (i := 4) (N := some 21) (v := ?_) (a' := ?_) laws_eqTokenS.y4 rfl rfl (any_of HT_.out (by kernel_rfl)) (fun _ _ _ h => h) (Or.inl ⟨by rfl, ?_⟩) ?_ ?_
                rotate_left
                · intro w'
                  go_simp
                  with_reducible rfl
                rotate_left
                · simp only [Act.put, List.setIfInBounds_toArray, List.set_cons_zero, List.set_cons_succ, i64_w, i32_w]
                  rfl
                refine pure_ (i := 5) (N := some 22) (v := ?_) (a' := ?_) laws_eqTokenS.y5 rfl rfl (any_of HT_.out (by kernel_rfl)) (fun _ _ _ h => h) (Or.inl ⟨by rfl, ?_⟩) ?_ ?_
                rotate_left
                · intro w'
                  go_simp
                  with_reducible rfl
                rotate_left
                · simp only [Act.put, List.setIfInBounds_toArray, List.set_cons_zero, List.set_cons_succ, i64_w, i32_w]
                  rfl
                refine pure_ (i := 6) (N := some 23) (v := ?_) (a' := ?_) laws_eqTokenS.y6 rfl rfl (any_of HT_.out (by kernel_rfl)) (fun _ _ _ h => h) (Or.inl ⟨by rfl, ?_⟩) ?_ ?_
                rotate_left
                · intro w'
                  go_simp
                  with_reducible rfl
                rotate_left
                · simp only [Act.put, List.setIfInBounds_toArray, List.set_cons_zero, List.set_cons_succ, i64_w, i32_w]
                  rfl
                refine take_ (i := 3) (N := some 20) (v := ?_) (a' := ?_) laws_eqTokenS.y7 rfl rfl (take_ofW HT_.out HW_.out (by kernel_rfl)) (fun _ _ _ h => h) (Or.inl ⟨by rfl, ?_⟩) hHeld ?_ ?_
                rotate_left
                · rintro w' ⟨s0, s1, s2, s3, s4, s5⟩
                  go_simp
                  with_reducible rfl
                rotate_left
                · simp only [Act.put, List.setIfInBounds_toArray, List.set_cons_zero, List.set_cons_succ, i64_w, i32_w]
                  rfl
                refine take_ (i := 7) (N := some 24) (v := ?_) (a' := ?_) laws_eqTokenS.y8 rfl rfl (take_ofW HT_.out HW_.out (by kernel_rfl)) (fun _ _ _ h => h) (Or.inl ⟨by rfl, ?_⟩) hHeld ?_ ?_
                rotate_left
                · rintro w' ⟨s0, s1, s2, s3, s4, s5⟩
                  go_simp
                  with_reducible rfl
                rotate_left
                · simp only [Act.put, List.setIfInBounds_toArray, List.set_cons_zero, List.set_cons_succ, i64_w, i32_w]
                  rfl
                refine one_ (i := 8) (N := some 25) laws_eqTokenS.y9 rfl rfl (one_of HT_.out (by kernel_rfl)) (by decide) (fun K hK => ?_)
                refine goes_ Tryd.func28 (by kernel_rfl) rfl #[.agg #[.int .i64 ((rd_T27 l0 x5_1).f0), .int .i64 ((rd_T27 l0 x5_1).f1), .string ((rd_T27 l0 x5_1).f2)], .agg #[.int .i64 ((rd_T27 l1 x5_1).f0), .int .i64 ((rd_T27 l1 x5_1).f1), .string ((rd_T27 l1 x5_1).f2)]] (by rfl) rfl rfl (by (try simp only [List.map_toArray, List.map_cons, List.map_nil]); first | done | rfl | (simp only [List.length_drop, List.length_take]; rfl)) ?_
                with_reducible refine (laws_eqToken.calls ((rd_T27 l0 x5_1).f0) ((rd_T27 l0 x5_1).f1) ((rd_T27 l0 x5_1).f2) ((rd_T27 l1 x5_1).f0) ((rd_T27 l1 x5_1).f1) ((rd_T27 l1 x5_1).f2) true _ A7.out).mono ?_
                rintro e w10 ⟨rfl, hb⟩
                refine ⟨_, rfl, ?_⟩
                have n0_ := Aside0.mk (below_step (by repeat (first | (with_reducible first | exact HB.out | apply below_alloc | apply pw_below_drewN | apply below_drew1) | exact HB.out)) hb)
                clear HB
                have HB := n0_
                clear n0_
                (try clear hb)
                (try clear hb2)
                (try clear hk)
                (try clear hi)
                refine hK.out _ _ ⟨((HB.out.cell (World.block_lt_of_cell? w _ hw101_0)).trans hw101_0), ((HB.out.cell (World.block_lt_of_cell? w _ hw101_1)).trans hw101_1), ((HB.out.cell (World.block_lt_of_cell? w _ hw101_2)).trans hw101_2), ((HB.out.cell (World.block_lt_of_cell? w _ hw102_0)).trans hw102_0), ((HB.out.cell (World.block_lt_of_cell? w _ hw102_1)).trans hw102_1), ((HB.out.cell (World.block_lt_of_cell? w _ hw102_2)).trans hw102_2)⟩ (fun hHeld => ?_)
                clear hK K
                refine norm_ (a' := ?_) ?_ ?_
                rotate_left
                · show Act.put _ (some 25) _ = _
                  simp only [Act.put, List.setIfInBounds_toArray, List.set_cons_zero, List.set_cons_succ, i64_w, i32_w]
                  rfl
                refine pure_ (i := 9) (N := some 26) (v := ?_) (a' := ?_) laws_eqTokenS.y10 rfl rfl (any_of HT_.out (by kernel_rfl)) (fun _ _ _ h => h) (Or.inl ⟨by rfl, ?_⟩) ?_ ?_
                rotate_left
                · intro w'
                  go_simp
                  with_reducible rfl
                rotate_left
                · simp only [Act.put, List.setIfInBounds_toArray, List.set_cons_zero, List.set_cons_succ, i64_w, i32_w]
                  rfl
                refine done_ (done_of HT_.out (by kernel_rfl)) ?_
                try go_wp2
                go_roundg k1
                case measure => have := HK1.out; omega
                case rel => exact ⟨(wrap64 (x5_1 + 1)), (by first | rfl | (simp; done) | (simp [*]; done)), H', ⟨by have := HK1.out; omega⟩, ⟨by repeat (first | (with_reducible first | exact HB.out | apply below_alloc | apply pw_below_drewN | apply below_drew1) | exact HB.out)⟩⟩
              · replace c8 := Bool.eq_false_iff.mpr c8
                subst c8
                have H1 : (some false) = some r := by rw [if_neg (show ¬ (false = true) by decide)] at H; exact H
                clear H
                have H := H1
                clear H1
                obtain rfl := Option.some.inj H
                try go_wp2
                have n0_ := Aside0.mk (below_drew1 HB.out)
                clear HB
                have HB := n0_
                clear n0_
                have p101 : 0 ≤ (x5_1 : Int) := of_decide_eq_true (by first | (with_reducible assumption) | assumption)
                have q101 : x5_1 < (l0.length : Int) := of_decide_eq_true (by first | (with_reducible assumption) | assumption)
                obtain ⟨ad101, e101, hx101_0, hx101_1, hx101_2⟩ := at_T27 HR0.out x5_1 p101 q101
                have hw101_2 := hx101_2
                have hw101_1 := hx101_1
                have hw101_0 := hx101_0
                cases e101
                replace hx101_0 := (HB.out.cell (World.block_lt_of_cell? w _ hx101_0)).trans hx101_0
                replace hx101_1 := (HB.out.cell (World.block_lt_of_cell? w _ hx101_1)).trans hx101_1
                replace hx101_2 := (HB.out.cell (World.block_lt_of_cell? w _ hx101_2)).trans hx101_2
                replace p101 := eq_true p101
                replace q101 := eq_true q101
                have p102 : 0 ≤ (x5_1 : Int) := of_decide_eq_true (by first | (with_reducible assumption) | assumption)
                have q102 : x5_1 < (l1.length : Int) := of_decide_eq_true (by first | (with_reducible assumption) | assumption)
                obtain ⟨ad102, e102, hx102_0, hx102_1, hx102_2⟩ := at_T27 HR1.out x5_1 p102 q102
                have hw102_2 := hx102_2
                have hw102_1 := hx102_1
                have hw102_0 := hx102_0
                cases e102
                replace hx102_0 := (HB.out.cell (World.block_lt_of_cell? w _ hx102_0)).trans hx102_0
                replace hx102_1 := (HB.out.cell (World.block_lt_of_cell? w _ hx102_1)).trans hx102_1
                replace hx102_2 := (HB.out.cell (World.block_lt_of_cell? w _ hx102_2)).trans hx102_2
                replace p102 := eq_true p102
                replace q102 := eq_true q102
                refine start_ (n := 10) (S := fun w' => w'.cell? (ad101.add ((x5_1).toNat * 3)) = some (.int .i64 ((rd_T27 l0 x5_1).f0)) ∧ w'.cell? ⟨(ad101.add ((x5_1).toNat * 3)).block, (ad101.add ((x5_1).toNat * 3)).off + 1, none⟩ = some (.int .i64 ((rd_T27 l0 x5_1).f1)) ∧ w'.cell? ⟨(ad101.add ((x5_1).toNat * 3)).block, (ad101.add ((x5_1).toNat * 3)).off + 2, none⟩ = some (.string ((rd_T27 l0 x5_1).f2)) ∧ w'.cell? (ad102.add ((x5_1).toNat * 3)) = some (.int .i64 ((rd_T27 l1 x5_1).f0)) ∧ w'.cell? ⟨(ad102.add ((x5_1).toNat * 3)).block, (ad102.add ((x5_1).toNat * 3)).off + 1, none⟩ = some (.int .i64 ((rd_T27 l1 x5_1).f1)) ∧ w'.cell? ⟨(ad102.add ((x5_1).toNat * 3)).block, (ad102.add ((x5_1).toNat * 3)).off + 2, none⟩ = some (.string ((rd_T27 l1 x5_1).f2))) (ds := []) laws_eqTokenS.y0 (by kernel_rfl) rfl rfl ⟨((HB.out.cell (World.block_lt_of_cell? w _ hw101_0)).trans hw101_0), ((HB.out.cell (World.block_lt_of_cell? w _ hw101_1)).trans hw101_1), ((HB.out.cell (World.block_lt_of_cell? w _ hw101_2)).trans hw101_2), ((HB.out.cell (World.block_lt_of_cell? w _ hw102_0)).trans hw102_0), ((HB.out.cell (World.block_lt_of_cell? w _ hw102_1)).trans hw102_1), ((HB.out.cell (World.block_lt_of_cell? w _ hw102_2)).trans hw102_2)⟩ (fun hHeld => ?_); refine with_tabW laws_eqTokenS.tab6 laws_eqTokenS.bits6 (fun HT_ HW_ => ?_)
                generalize wr.drew = w11 at HB hx101_0 hx101_1 hx101_2 hx102_0 hx102_1 hx102_2 hHeld ⊢
                refine pure_ (i := 0) (N := some 17) (v := ?_) (a' := ?_) laws_eqTokenS.y1 rfl rfl (any_of HT_.out (by kernel_rfl)) (fun _ _ _ h => h) (Or.inl ⟨by rfl, ?_⟩) ?_ ?_
                rotate_left
                · intro w'
                  go_simp
                  with_reducible rfl
                rotate_left
                · simp only [Act.put, List.setIfInBounds_toArray, List.set_cons_zero, List.set_cons_succ, i64_w, i32_w]
                  rfl
                refine pure_ (i := 1) (N := some 18) (v := ?_) (a' := ?_) laws_eqTokenS.y2 rfl rfl (any_of HT_.out (by kernel_rfl)) (fun _ _ _ h => h) (Or.inl ⟨by rfl, ?_⟩) ?_ ?_
                rotate_left
                · intro w'
                  go_simp
                  with_reducible rfl
                rotate_left
                · simp only [Act.put, List.setIfInBounds_toArray, List.set_cons_zero, List.set_cons_succ, i64_w, i32_w]
                  rfl
                refine pure_ (i := 2) (N := some 19) (v := ?_) (a' := ?_) laws_eqTokenS.y3 rfl rfl (any_of HT_.out (by kernel_rfl)) (fun _ _ _ h => h) (Or.inl ⟨by rfl, ?_⟩) ?_ ?_
                rotate_left
                · intro w'
                  go_simp
                  with_reducible rfl
                rotate_left
                · simp only [Act.put, List.setIfInBounds_toArray, List.set_cons_zero, List.set_cons_succ, i64_w, i32_w]
                  rfl
                refine pure_ (i := 4) (N := some 21) (v := ?_) (a' := ?_) laws_eqTokenS.y4 rfl rfl (any_of HT_.out (by kernel_rfl)) (fun _ _ _ h => h) (Or.inl ⟨by rfl, ?_⟩) ?_ ?_
                rotate_left
                · intro w'
                  go_simp
                  with_reducible rfl
                rotate_left
                · simp only [Act.put, List.setIfInBounds_toArray, List.set_cons_zero, List.set_cons_succ, i64_w, i32_w]
                  rfl
                refine pure_ (i := 5) (N := some 22) (v := ?_) (a' := ?_) laws_eqTokenS.y5 rfl rfl (any_of HT_.out (by kernel_rfl)) (fun _ _ _ h => h) (Or.inl ⟨by rfl, ?_⟩) ?_ ?_
                rotate_left
                · intro w'
                  go_simp
                  with_reducible rfl
                rotate_left
                · simp only [Act.put, List.setIfInBounds_toArray, List.set_cons_zero, List.set_cons_succ, i64_w, i32_w]
                  rfl
                refine pure_ (i := 6) (N := some 23) (v := ?_) (a' := ?_) laws_eqTokenS.y6 rfl rfl (any_of HT_.out (by kernel_rfl)) (fun _ _ _ h => h) (Or.inl ⟨by rfl, ?_⟩) ?_ ?_
                rotate_left
                · intro w'
                  go_simp
                  with_reducible rfl
                rotate_left
                · simp only [Act.put, List.setIfInBounds_toArray, List.set_cons_zero, List.set_cons_succ, i64_w, i32_w]
                  rfl
                refine take_ (i := 3) (N := some 20) (v := ?_) (a' := ?_) laws_eqTokenS.y7 rfl rfl (take_ofW HT_.out HW_.out (by kernel_rfl)) (fun _ _ _ h => h) (Or.inl ⟨by rfl, ?_⟩) hHeld ?_ ?_
                rotate_left
                · rintro w' ⟨s0, s1, s2, s3, s4, s5⟩
                  go_simp
                  with_reducible rfl
                rotate_left
                · simp only [Act.put, List.setIfInBounds_toArray, List.set_cons_zero, List.set_cons_succ, i64_w, i32_w]
                  rfl
                refine take_ (i := 7) (N := some 24) (v := ?_) (a' := ?_) laws_eqTokenS.y8 rfl rfl (take_ofW HT_.out HW_.out (by kernel_rfl)) (fun _ _ _ h => h) (Or.inl ⟨by rfl, ?_⟩) hHeld ?_ ?_
                rotate_left
                · rintro w' ⟨s0, s1, s2, s3, s4, s5⟩
                  go_simp
                  with_reducible rfl
                rotate_left
                · simp only [Act.put, List.setIfInBounds_toArray, List.set_cons_zero, List.set_cons_succ, i64_w, i32_w]
                  rfl
                refine one_ (i := 8) (N := some 25) laws_eqTokenS.y9 rfl rfl (one_of HT_.out (by kernel_rfl)) (by decide) (fun K hK => ?_)
                refine goes_ Tryd.func28 (by kernel_rfl) rfl #[.agg #[.int .i64 ((rd_T27 l0 x5_1).f0), .int .i64 ((rd_T27 l0 x5_1).f1), .string ((rd_T27 l0 x5_1).f2)], .agg #[.int .i64 ((rd_T27 l1 x5_1).f0), .int .i64 ((rd_T27 l1 x5_1).f1), .string ((rd_T27 l1 x5_1).f2)]] (by rfl) rfl rfl (by (try simp only [List.map_toArray, List.map_cons, List.map_nil]); first | done | rfl | (simp only [List.length_drop, List.length_take]; rfl)) ?_
                with_reducible refine (laws_eqToken.calls ((rd_T27 l0 x5_1).f0) ((rd_T27 l0 x5_1).f1) ((rd_T27 l0 x5_1).f2) ((rd_T27 l1 x5_1).f0) ((rd_T27 l1 x5_1).f1) ((rd_T27 l1 x5_1).f2) false _ A7.out).mono ?_
                rintro e w12 ⟨rfl, hb⟩
                refine ⟨_, rfl, ?_⟩
                have n0_ := Aside0.mk (below_step (by repeat (first | (with_reducible first | exact HB.out | apply below_alloc | apply pw_below_drewN | apply below_drew1) | exact HB.out)) hb)
                clear HB
                have HB := n0_
                clear n0_
                (try clear hb)
                (try clear hb2)
                (try clear hk)
                (try clear hi)
                refine hK.out _ _ ⟨((HB.out.cell (World.block_lt_of_cell? w _ hw101_0)).trans hw101_0), ((HB.out.cell (World.block_lt_of_cell? w _ hw101_1)).trans hw101_1), ((HB.out.cell (World.block_lt_of_cell? w _ hw101_2)).trans hw101_2), ((HB.out.cell (World.block_lt_of_cell? w _ hw102_0)).trans hw102_0), ((HB.out.cell (World.block_lt_of_cell? w _ hw102_1)).trans hw102_1), ((HB.out.cell (World.block_lt_of_cell? w _ hw102_2)).trans hw102_2)⟩ (fun hHeld => ?_)
                clear hK K
                refine norm_ (a' := ?_) ?_ ?_
                rotate_left
                · show Act.put _ (some 25) _ = _
                  simp only [Act.put, List.setIfInBounds_toArray, List.set_cons_zero, List.set_cons_succ, i64_w, i32_w]
                  rfl
                refine pure_ (i := 9) (N := some 26) (v := ?_) (a' := ?_) laws_eqTokenS.y10 rfl rfl (any_of HT_.out (by kernel_rfl)) (fun _ _ _ h => h) (Or.inl ⟨by rfl, ?_⟩) ?_ ?_
                rotate_left
                · intro w'
                  go_simp
                  with_reducible rfl
                rotate_left
                · simp only [Act.put, List.setIfInBounds_toArray, List.set_cons_zero, List.set_cons_succ, i64_w, i32_w]
                  rfl
                refine done_ (done_of HT_.out (by kernel_rfl)) ?_
                try go_wp2
                go_ret
                exact ⟨by first | rfl | (simp [errW_none, errW_some] <;> rfl) | (simp [*, errW_none, errW_some] <;> rfl), by repeat (first | (with_reducible first | exact HB.out | apply below_alloc | apply pw_below_drewN | apply below_drew1) | exact HB.out)⟩
            · rw [if_neg c6] at H
              exact absurd H (by simp)
          · rw [if_neg c5] at H
            exact absurd H (by simp)
        · rw [if_neg c4] at H
          have c4b0 : decide (x5_1 < (l0.length : Int)) = false := decide_eq_false c4
          clear c4
          obtain rfl := Option.some.inj H
          go_wp2
          go_ret
          exact ⟨by first | rfl | (simp [errW_none, errW_some] <;> rfl) | (simp [*, errW_none, errW_some] <;> rfl), by repeat (first | (with_reducible first | exact HB.out | apply below_alloc | apply pw_below_drewN | apply below_drew1) | exact HB.out)⟩
  · rw [if_neg c3] at H
    have c3b0 : ((l0.length : Int) == (l1.length : Int)) = false := beq_eq_false_iff_ne.mpr c3
    have c3b1 : ((l0.length : Int) != (l1.length : Int)) = true := bne_iff_ne.mpr c3
    have c3b2 : (l0.length == l1.length) = false := by first | simpa using c3 | (simp at c3 ⊢; omega)
    obtain rfl := Option.some.inj H
    go_enter Tryd.func14, Tryd.ntmps14
    go_wp2
    go_ret
    exact ⟨by first | rfl | (simp [errW_none, errW_some] <;> rfl) | (simp [*, errW_none, errW_some] <;> rfl), by repeat (first | (with_reducible first | exact HB.out | apply below_alloc | apply pw_below_drewN | apply below_drew1) | exact HB.out)⟩

end Go.Proofs.YtolickgnncfmeaaDoor.Q
namespace Go.Proofs.YtolickgnncfmeaaDoor.Q
open Go.RowKit Go.Proofs.YtolickgnncfmeaaDoorW.PrintWords Go.Proofs.YtolickgnncfmeaaDoorW.PrintLast Go.Proofs.YtolickgnncfmeaaDoorW.PrintMore
attribute [local go_sem] max2_int min2_int max_two min_two max_three min_three max_four min_four   -- for this text's walks alone
set_option linter.unusedVariables false
set_option linter.unusedSimpArgs false

/-! ### laws_FnExactJoinTokens: function 4 -/
def laws_FnExactJoinTokens.j0 : Nat → List (S23) → List (S27) → Bool → Option (Bool)
  | 0, _, _, _ => none
  | k + 1, x0, x6, x34 => if x34 = true then (none) else ((laws_toTokenS.f k x0).bind fun t112 => ((laws_eqTokenS.f k x6 t112).bind fun t115 => (if t115 = true then (some true) else (none))))
def laws_FnExactJoinTokens.f (k : Nat) (l0 : List (S23)) : Option (Bool) := (laws_szTokenS.f k l0 1048576).bind fun t101 => (if t101 < 0 then (some true) else ((laws_toTokenS.f k l0).bind fun t102 => ((spec_JoinTokens.f k t102).bind fun bt105 => ((laws_toTokenS.f k l0).bind fun t107 => ((impl_JoinTokens.f k t107).bind fun bt110 => (if bt110.1.toList = bt105.1.toList then (laws_FnExactJoinTokens.j0 k l0 t107 (bt110.2 != bt105.2)) else (laws_FnExactJoinTokens.j0 k l0 t107 true)))))))
set_option maxHeartbeats 8000000 in
set_option maxRecDepth 100000 in
theorem laws_FnExactJoinTokens.calls (k : Nat) (A0 : Option Addr) (c0 : Nat) (l0 : List (S23)) (r : Bool) (w : World) (hr0 : Kd.C k23 w A0 l0.length l0) (hc0 : l0.length ≤ c0) (h : laws_FnExactJoinTokens.f k l0 = some r) (htab : Tb w) :
    Calls Tryd.prog 4 #[.slice A0 l0.length c0] w fun e w' => e = .returned (.bool r) ∧ Below w.heap.size w w' := by
  have HTAB := Aside0.mk htab
  clear htab
  have HR0 := Aside0.mk hr0
  have HC0 := Aside0.mk hc0
  clear hr0 hc0
  have HB := Aside0.mk (Below.refl w.heap.size w)
  have H : ((laws_szTokenS.f k l0 1048576).bind fun t101 => (if t101 < 0 then (some true) else ((laws_toTokenS.f k l0).bind fun t102 => ((spec_JoinTokens.f k t102).bind fun bt105 => ((laws_toTokenS.f k l0).bind fun t107 => ((impl_JoinTokens.f k t107).bind fun bt110 => (if bt110.1.toList = bt105.1.toList then (laws_FnExactJoinTokens.j0 k l0 t107 (bt110.2 != bt105.2)) else (laws_FnExactJoinTokens.j0 k l0 t107 true)))))))) = some r := h
  clear h
  replace H := Option.bind_eq_some_iff.mp H
  obtain ⟨t101, A20, H⟩ := H
  replace H : (if t101 < 0 then (some true) else ((laws_toTokenS.f k l0).bind fun t102 => ((spec_JoinTokens.f k t102).bind fun bt105 => ((laws_toTokenS.f k l0).bind fun t107 => ((impl_JoinTokens.f k t107).bind fun bt110 => (if bt110.1.toList = bt105.1.toList then (laws_FnExactJoinTokens.j0 k l0 t107 (bt110.2 != bt105.2)) else (laws_FnExactJoinTokens.j0 k l0 t107 true))))))) = some r := H
  have A2 := Aside0.mk A20
  clear A20
  by_cases c3 : t101 < 0
  · rw [if_pos c3] at H
    have c3b0 : decide (t101 < 0) = true := decide_eq_true c3
    clear c3
    obtain rfl := Option.some.inj H
    go_enter Tryd.func4, Tryd.ntmps4
    go_wp2_with (first | ((with_reducible refine gate_callee (f := 10) rfl ?_); refine goesL_ (some 11) rfl rfl Tryd.func10 (by kernel_rfl) rfl #[.slice A0 l0.length c0, .int .i64 1048576] rfl (by (try simp only [List.map_toArray, List.map_cons, List.map_nil]); first | done | rfl | (simp only [List.length_drop, List.length_take]; rfl)) ?_; (with_reducible refine (laws_szTokenS.calls k _ _ l0 1048576 t101 _ ?side1 ?side2 A2.out).mono ?_); (case side1 => repeat (first | exact HR0.out | (with_reducible refine Kd.C_alloc ?_ _) | (with_reducible refine Kd.C_drewN ?_ _) | (with_reducible refine Kd.C_drew ?_))); (case side2 => exact HC0.out); rintro e w4 ⟨rfl, hb⟩; refine ⟨_, rfl, ?_⟩; have n0_ := Aside0.mk (below_step (by repeat (first | (with_reducible first | exact HB.out | apply below_alloc | apply pw_below_drewN | apply below_drew1) | exact HB.out)) hb); clear HB; have HB := n0_; clear n0_; (try clear hb); (try clear hb2); (try clear hk); (try clear hi)))
    go_ret
    exact ⟨by first | rfl | (simp [errW_none, errW_some] <;> rfl) | (simp [*, errW_none, errW_some] <;> rfl), by repeat (first | (with_reducible first | exact HB.out | apply below_alloc | apply pw_below_drewN | apply below_drew1) | exact HB.out)⟩
  · rw [if_neg c3] at H
    have c3b0 : decide (t101 < 0) = false := decide_eq_false c3
    clear c3
    replace H := Option.bind_eq_some_iff.mp H
    obtain ⟨t102, A50, H⟩ := H
    replace H : ((spec_JoinTokens.f k t102).bind fun bt105 => ((laws_toTokenS.f k l0).bind fun t107 => ((impl_JoinTokens.f k t107).bind fun bt110 => (if bt110.1.toList = bt105.1.toList then (laws_FnExactJoinTokens.j0 k l0 t107 (bt110.2 != bt105.2)) else (laws_FnExactJoinTokens.j0 k l0 t107 true))))) = some r := H
    have A5 := Aside0.mk A50
    clear A50
    replace H := Option.bind_eq_some_iff.mp H
    obtain ⟨⟨t105, t106⟩, A60, H⟩ := H
    replace H : ((laws_toTokenS.f k l0).bind fun t107 => ((impl_JoinTokens.f k t107).bind fun bt110 => (if bt110.1.toList = t105.toList then (laws_FnExactJoinTokens.j0 k l0 t107 (bt110.2 != t106)) else (laws_FnExactJoinTokens.j0 k l0 t107 true)))) = some r := H
    have A6 := Aside0.mk A60
    clear A60
    replace H := Option.bind_eq_some_iff.mp H
    obtain ⟨t107, A70, H⟩ := H
    replace H : ((impl_JoinTokens.f k t107).bind fun bt110 => (if bt110.1.toList = t105.toList then (laws_FnExactJoinTokens.j0 k l0 t107 (bt110.2 != t106)) else (laws_FnExactJoinTokens.j0 k l0 t107 true))) = some r := H
    have A7 := Aside0.mk A70
    clear A70
    replace H := Option.bind_eq_some_iff.mp H
    obtain ⟨⟨t110, t111⟩, A80, H⟩ := H
    replace H : (if t110.toList = t105.toList then (laws_FnExactJoinTokens.j0 k l0 t107 (t111 != t106)) else (laws_FnExactJoinTokens.j0 k l0 t107 true)) = some r := H
    have A8 := Aside0.mk A80
    clear A80
    have HC9 := Aside0.mk H
    clear H
    go_enter Tryd.func4, Tryd.ntmps4
    go_upto_region 8 with (first | ((with_reducible refine gate_callee (f := 10) rfl ?_); refine goesL_ (some 11) rfl rfl Tryd.func10 (by kernel_rfl) rfl #[.slice A0 l0.length c0, .int .i64 1048576] rfl (by (try simp only [List.map_toArray, List.map_cons, List.map_nil]); first | done | rfl | (simp only [List.length_drop, List.length_take]; rfl)) ?_; (with_reducible refine (laws_szTokenS.calls k _ _ l0 1048576 t101 _ ?side1 ?side2 A2.out).mono ?_); (case side1 => repeat (first | exact HR0.out | (with_reducible refine Kd.C_alloc ?_ _) | (with_reducible refine Kd.C_drewN ?_ _) | (with_reducible refine Kd.C_drew ?_))); (case side2 => exact HC0.out); rintro e w10 ⟨rfl, hb⟩; refine ⟨_, rfl, ?_⟩; have n0_ := Aside0.mk (below_step (by repeat (first | (with_reducible first | exact HB.out | apply below_alloc | apply pw_below_drewN | apply below_drew1) | exact HB.out)) hb); clear HB; have HB := n0_; clear n0_; (try clear hb); (try clear hb2); (try clear hk); (try clear hi)) | ((with_reducible refine gate_callee (f := 12) rfl ?_); refine goesL_ (some 16) rfl rfl Tryd.func12 (by kernel_rfl) rfl #[.slice A0 l0.length c0] rfl (by (try simp only [List.map_toArray, List.map_cons, List.map_nil]); first | done | rfl | (simp only [List.length_drop, List.length_take]; rfl)) ?_; (with_reducible refine (laws_toTokenS.calls k _ _ l0 t102 _ ?side1 ?side2 A5.out).mono ?_); (case side1 => repeat (first | exact (Kd.C_below HR0.out HB.out) | (with_reducible refine Kd.C_alloc ?_ _) | (with_reducible refine Kd.C_drewN ?_ _) | (with_reducible refine Kd.C_drew ?_))); (case side2 => exact HC0.out); rintro e w11 ⟨v103, rfl, ho0, hb⟩; refine ⟨_, rfl, ?_⟩; have n0_ := Aside0.mk (Kd.R_lower ho0 (below_size (by repeat (first | (with_reducible first | exact HB.out | apply below_alloc | apply pw_below_drewN | apply below_drew1) | exact HB.out)))); have n1_ := Aside0.mk (below_step (by repeat (first | (with_reducible first | exact HB.out | apply below_alloc | apply pw_below_drewN | apply below_drew1) | exact HB.out)) hb); clear HB; have HO104 := n0_; have HB := n1_; clear n0_ n1_; (try clear hb); (try clear hb2); (try clear hk); (try clear hi); (try clear ho0); obtain ⟨Ao12, co12, eo12⟩ := Kd.R_slice HO104.out; subst eo12) | ((with_reducible refine gate_callee (f := 11) rfl ?_); refine goesL_ (some 17) rfl rfl Tryd.func11 (by kernel_rfl) rfl #[.slice Ao12 t102.length co12] rfl (by (try simp only [List.map_toArray, List.map_cons, List.map_nil]); first | done | rfl | (simp only [List.length_drop, List.length_take]; rfl)) ?_; (with_reducible refine (spec_JoinTokens.calls k _ _ t102 t105 t106 _ ?side1 ?side2 A6.out).mono ?_); (case side1 => repeat (first | exact (Kd.R_reads' HO104.out).2.2 | (with_reducible refine Kd.C_alloc ?_ _) | (with_reducible refine Kd.C_drewN ?_ _) | (with_reducible refine Kd.C_drew ?_))); (case side2 => exact (Kd.R_reads' HO104.out).2.1); rintro e w13 ⟨rfl, hb⟩; refine ⟨_, rfl, ?_⟩; have n0_ := Aside0.mk (Kd.R_below (by (with_reducible repeat (first | apply Kd.R_alloc | apply Kd.R_drewN | apply Kd.R_drew)); exact HO104.out) hb); have n1_ := Aside0.mk (below_step (by repeat (first | (with_reducible first | exact HB.out | apply below_alloc | apply pw_below_drewN | apply below_drew1) | exact HB.out)) hb); clear HO104; clear HB; have HO104 := n0_; have HB := n1_; clear n0_ n1_; (try clear hb); (try clear hb2); (try clear hk); (try clear hi)) | ((with_reducible refine gate_callee (f := 12) rfl ?_); refine goesL_ (some 21) rfl rfl Tryd.func12 (by kernel_rfl) rfl #[.slice A0 l0.length c0] rfl (by (try simp only [List.map_toArray, List.map_cons, List.map_nil]); first | done | rfl | (simp only [List.length_drop, List.length_take]; rfl)) ?_; (with_reducible refine (laws_toTokenS.calls k _ _ l0 t107 _ ?side1 ?side2 A7.out).mono ?_); (case side1 => repeat (first | exact (Kd.C_below HR0.out HB.out) | (with_reducible refine Kd.C_alloc ?_ _) | (with_reducible refine Kd.C_drewN ?_ _) | (with_reducible refine Kd.C_drew ?_))); (case side2 => exact HC0.out); rintro e w14 ⟨v108, rfl, ho0, hb⟩; refine ⟨_, rfl, ?_⟩; have n0_ := Aside0.mk (Kd.R_elder' (by (with_reducible repeat (first | apply Kd.R_alloc | apply Kd.R_drewN | apply Kd.R_drew)); exact HO104.out) (Kd.R_base ho0) hb); have n1_ := Aside0.mk (Kd.R_lower (Kd.R_new' ho0 (Kd.R_lt (by (with_reducible repeat (first | apply Kd.R_alloc | apply Kd.R_drewN | apply Kd.R_drew)); exact HO104.out))) (below_size (by repeat (first | (with_reducible first | exact HB.out | apply below_alloc | apply pw_below_drewN | apply below_drew1) | exact HB.out)))); have n2_ := Aside0.mk (below_step (by repeat (first | (with_reducible first | exact HB.out | apply below_alloc | apply pw_below_drewN | apply below_drew1) | exact HB.out)) hb); clear HO104; clear HB; have HO104 := n0_; have HO109 := n1_; have HB := n2_; clear n0_ n1_ n2_; (try clear hb); (try clear hb2); (try clear hk); (try clear hi); (try clear ho0); obtain ⟨Ao15, co15, eo15⟩ := Kd.R_slice HO109.out; subst eo15) | ((with_reducible refine gate_callee (f := 13) rfl ?_); refine goesL_ (some 24) rfl rfl Tryd.func13 (by kernel_rfl) rfl #[.slice Ao15 t107.length co15] rfl (by (try simp only [List.map_toArray, List.map_cons, List.map_nil]); first | done | rfl | (simp only [List.length_drop, List.length_take]; rfl)) ?_; (with_reducible refine (impl_JoinTokens.calls k _ _ t107 t110 t111 _ ?side1 ?side2 A8.out (by first | exact tb_below HTAB.out HB.out | exact tb_below HTAB.out (below_step HB.out HX.out) | (refine tb_below HTAB.out ?_; repeat (first | (with_reducible first | exact HB.out | apply below_alloc | apply pw_below_drewN | apply below_drew1 | (refine below_set ?_ ?_; rotate_left; first | exact GE101.out | exact GE102.out | exact GE103.out | exact GE104.out | exact GE105.out | exact GE106.out; skip)) | exact HB.out)))).mono ?_); (case side1 => repeat (first | exact (Kd.R_reads' HO109.out).2.2 | (with_reducible refine Kd.C_alloc ?_ _) | (with_reducible refine Kd.C_drewN ?_ _) | (with_reducible refine Kd.C_drew ?_))); (case side2 => exact (Kd.R_reads' HO109.out).2.1); rintro e w16 ⟨rfl, hb⟩; refine ⟨_, rfl, ?_⟩; have n0_ := Aside0.mk (Kd.R_below (by (with_reducible repeat (first | apply Kd.R_alloc | apply Kd.R_drewN | apply Kd.R_drew)); exact HO104.out) hb); have n1_ := Aside0.mk (Kd.R_below (by (with_reducible repeat (first | apply Kd.R_alloc | apply Kd.R_drewN | apply Kd.R_drew)); exact HO109.out) hb); have n2_ := Aside0.mk (below_step (by repeat (first | (with_reducible first | exact HB.out | apply below_alloc | apply pw_below_drewN | apply below_drew1) | exact HB.out)) hb); clear HO104; clear HO109; clear HB; have HO104 := n0_; have HO109 := n1_; have HB := n2_; clear n0_ n1_ n2_; (try clear hb); (try clear hb2); (try clear hk); (try clear hi)))
    (try simp only [Act.put, List.setIfInBounds_toArray, List.set_cons_zero, List.set_cons_succ])
    go_cut [34] (fun v34 wc => ∃ (kq : Nat) (x34_8 : Bool), v34 = .bool x34_8 ∧ Aside0 (laws_FnExactJoinTokens.j0 kq l0 t107 x34_8 = some r) ∧ Aside0 (kq ≤ k) ∧ Aside0 (Kd.R k27 27 wc w.heap.size (fun _ => True) (.slice Ao15 t107.length co15) t107) ∧ Aside0 (Below w.heap.size w wc))
    case first =>
      have H := HC9.out
      clear HC9
      by_cases c17 : t110.toList = t105.toList
      · rw [if_pos c17] at H
        have c17b0 : (t110.toList == t105.toList) = true := beq_iff_eq.mpr c17
        have c17b1 : (t110.toList != t105.toList) = false := bne_eq_false_iff_eq.mpr c17
        clear c17
        (first | rw [c17b0] | (simp only [i64_w, i32_w]; rw [c17b0]) | skip)
        have H' := Aside0.mk H
        clear H
        go_wp2
        go_meet
        case rel => exact ⟨_, ((t111 != t106)), (by first | rfl | (simp; done) | (simp [*]; done)), H', ⟨by first | omega | exact Nat.le_refl _⟩, ⟨by (with_reducible repeat (first | apply Kd.R_alloc | apply Kd.R_drewN | apply Kd.R_drew)); exact Kd.R_mono HO109.out (fun _ hk => trivial)⟩, ⟨by repeat (first | (with_reducible first | exact HB.out | apply below_alloc | apply pw_below_drewN | apply below_drew1) | exact HB.out)⟩⟩
      · rw [if_neg c17] at H
        have c17b0 : (t110.toList == t105.toList) = false := beq_eq_false_iff_ne.mpr c17
        have c17b1 : (t110.toList != t105.toList) = true := bne_iff_ne.mpr c17
        (first | rw [c17b0] | (simp only [i64_w, i32_w]; rw [c17b0]) | skip)
        have H' := Aside0.mk H
        clear H
        go_wp2
        go_meet
        case rel => exact ⟨_, (true), (by first | rfl | (simp; done) | (simp [*]; done)), H', ⟨by first | omega | exact Nat.le_refl _⟩, ⟨by (with_reducible repeat (first | apply Kd.R_alloc | apply Kd.R_drewN | apply Kd.R_drew)); exact Kd.R_mono HO109.out (fun _ hk => trivial)⟩, ⟨by repeat (first | (with_reducible first | exact HB.out | apply below_alloc | apply pw_below_drewN | apply below_drew1) | exact HB.out)⟩⟩
    case rest =>
      clear HC9
      try clear c1
      try clear p2
      try clear c3
      try clear c3b0
      try clear c4
      try clear c10
      try clear c11
      try clear c12
      try clear c13
      try clear c17
      try clear c17b0
      try clear c17b1
      obtain ⟨kq, x34_8, rfl, HA, HJ8, HO_6, HB⟩ := hcut
      cases kq with
      | zero => exact absurd HA.out (by simp [laws_FnExactJoinTokens.j0])
      | succ kj8 =>
        have H := HA.out
        clear HA
        simp only [laws_FnExactJoinTokens.j0] at H
        by_cases c18 : x34_8 = true
        · subst c18
          have H1 : (none) = some r := by rw [if_pos rfl] at H; exact H
          clear H
          have H := H1
          clear H1
          exact absurd H (by simp)
        · replace c18 := Bool.eq_false_iff.mpr c18
          subst c18
          have H1 : ((laws_toTokenS.f kj8 l0).bind fun t112 => ((laws_eqTokenS.f kj8 t107 t112).bind fun t115 => (if t115 = true then (some true) else (none)))) = some r := by rw [if_neg (show ¬ (false = true) by decide)] at H; exact H
          clear H
          have H := H1
          clear H1
          replace H := Option.bind_eq_some_iff.mp H
          obtain ⟨t112, A190, H⟩ := H
          replace H : ((laws_eqTokenS.f kj8 t107 t112).bind fun t115 => (if t115 = true then (some true) else (none))) = some r := H
          have A19 := Aside0.mk A190
          clear A190
          replace H := Option.bind_eq_some_iff.mp H
          obtain ⟨t115, A200, H⟩ := H
          replace H : (if t115 = true then (some true) else (none)) = some r := H
          have A20 := Aside0.mk A200
          clear A200
          by_cases c21 : t115 = true
          · subst c21
            have H1 : (some true) = some r := by rw [if_pos rfl] at H; exact H
            clear H
            have H := H1
            clear H1
            obtain rfl := Option.some.inj H
            go_wp2_with (first | ((with_reducible refine gate_callee (f := 12) rfl ?_); refine goesL_ (some 37) rfl rfl Tryd.func12 (by kernel_rfl) rfl #[.slice A0 l0.length c0] rfl (by (try simp only [List.map_toArray, List.map_cons, List.map_nil]); first | done | rfl | (simp only [List.length_drop, List.length_take]; rfl)) ?_; (with_reducible refine (laws_toTokenS.calls kj8 _ _ l0 t112 _ ?side1 ?side2 A19.out).mono ?_); (case side1 => repeat (first | exact (Kd.C_below HR0.out HB.out) | (with_reducible refine Kd.C_alloc ?_ _) | (with_reducible refine Kd.C_drewN ?_ _) | (with_reducible refine Kd.C_drew ?_))); (case side2 => exact HC0.out); rintro e w22 ⟨v113, rfl, ho0, hb⟩; refine ⟨_, rfl, ?_⟩; have n0_ := Aside0.mk (Kd.R_elder' (by (with_reducible repeat (first | apply Kd.R_alloc | apply Kd.R_drewN | apply Kd.R_drew)); exact HO_6.out) (Kd.R_base ho0) hb); have n1_ := Aside0.mk (Kd.R_lower (Kd.R_new' ho0 (Kd.R_lt (by (with_reducible repeat (first | apply Kd.R_alloc | apply Kd.R_drewN | apply Kd.R_drew)); exact HO_6.out))) (below_size (by repeat (first | (with_reducible first | exact HB.out | apply below_alloc | apply pw_below_drewN | apply below_drew1) | exact HB.out)))); have n2_ := Aside0.mk (below_step (by repeat (first | (with_reducible first | exact HB.out | apply below_alloc | apply pw_below_drewN | apply below_drew1) | exact HB.out)) hb); clear HO_6; clear HB; have HO_6 := n0_; have HO114 := n1_; have HB := n2_; clear n0_ n1_ n2_; (try clear hb); (try clear hb2); (try clear hk); (try clear hi); (try clear ho0); obtain ⟨Ao23, co23, eo23⟩ := Kd.R_slice HO114.out; subst eo23) | ((with_reducible refine gate_callee (f := 14) rfl ?_); refine goesL_ (some 38) rfl rfl Tryd.func14 (by kernel_rfl) rfl #[.slice Ao15 t107.length co15, .slice Ao23 t112.length co23] rfl (by (try simp only [List.map_toArray, List.map_cons, List.map_nil]); first | done | rfl | (simp only [List.length_drop, List.length_take]; rfl)) ?_; (with_reducible refine (laws_eqTokenS.calls kj8 _ _ t107 _ _ t112 true _ ?side1 ?side2 ?side3 ?side4 A20.out).mono ?_); (case side1 => repeat (first | exact (Kd.R_reads' HO_6.out).2.2 | (with_reducible refine Kd.C_alloc ?_ _) | (with_reducible refine Kd.C_drewN ?_ _) | (with_reducible refine Kd.C_drew ?_))); (case side2 => exact (Kd.R_reads' HO_6.out).2.1); (case side3 => repeat (first | exact (Kd.R_reads' HO114.out).2.2 | (with_reducible refine Kd.C_alloc ?_ _) | (with_reducible refine Kd.C_drewN ?_ _) | (with_reducible refine Kd.C_drew ?_))); (case side4 => exact (Kd.R_reads' HO114.out).2.1); rintro e w24 ⟨rfl, hb⟩; refine ⟨_, rfl, ?_⟩; have n0_ := Aside0.mk (Kd.R_below (by (with_reducible repeat (first | apply Kd.R_alloc | apply Kd.R_drewN | apply Kd.R_drew)); exact HO_6.out) hb); have n1_ := Aside0.mk (Kd.R_below (by (with_reducible repeat (first | apply Kd.R_alloc | apply Kd.R_drewN | apply Kd.R_drew)); exact HO114.out) hb); have n2_ := Aside0.mk (below_step (by repeat (first | (with_reducible first | exact HB.out | apply below_alloc | apply pw_below_drewN | apply below_drew1) | exact HB.out)) hb); clear HO_6; clear HO114; clear HB; have HO_6 := n0_; have HO114 := n1_; have HB := n2_; clear n0_ n1_ n2_; (try clear hb); (try clear hb2); (try clear hk); (try clear hi)))
            go_ret
            exact ⟨by first | rfl | (simp [errW_none, errW_some] <;> rfl) | (simp [*, errW_none, errW_some] <;> rfl), by repeat (first | (with_reducible first | exact HB.out | apply below_alloc | apply pw_below_drewN | apply below_drew1) | exact HB.out)⟩
          · replace c21 := Bool.eq_false_iff.mpr c21
            subst c21
            have H1 : (none) = some r := by rw [if_neg (show ¬ (false = true) by decide)] at H; exact H
            clear H
            have H := H1
            clear H1
            exact absurd H (by simp)

end Go.Proofs.YtolickgnncfmeaaDoor.Q
namespace Go.Proofs.YtolickgnncfmeaaDoor.Q
open Go.RowKit Go.Proofs.YtolickgnncfmeaaDoorW.PrintWords Go.Proofs.YtolickgnncfmeaaDoor.Opens
set_option linter.unusedVariables false
def i23 (x : S23) : Prop := (Lit.int .i64 x.f0).wf = true ∧ (Lit.int .i64 x.f1).wf = true ∧ x.f2.size ≤ 9223372036854775807
theorem o23 : Opens Tryd.prog 23 k23 i23 := opens_struct (N := 3) Tryd.underlying23 (by kernel_rfl) (opensF_cons rfl (by kernel_rfl) (opens_int Tryd.underlying3) (opensF_cons rfl (by kernel_rfl) (opens_int Tryd.underlying3) (opensF_one rfl rfl (by kernel_rfl) (opens_string Tryd.underlying9)))) (fun y => ⟨y.1, y.2.1, y.2.2⟩) (fun _ => rfl)
end Go.Proofs.YtolickgnncfmeaaDoor.Q
namespace Go.Proofs.YtolickgnncfmeaaDoor.Q
open Go.RowKit Go.Proofs.YtolickgnncfmeaaDoorW.PrintWords Go.Proofs.YtolickgnncfmeaaDoor.Opens
set_option linter.unusedVariables false
def laws_FnExactJoinTokens.Pure2 : Prop := ∀ (y0 : List (S23)), (y0.length ≤ 9223372036854775807 ∧ ∀ y1_ ∈ y0, i23 y1_) → ∃ k, laws_FnExactJoinTokens.f k y0 = some true
end Go.Proofs.YtolickgnncfmeaaDoor.Q
namespace Go.Proofs.YtolickgnncfmeaaDoor.Pure2
open Go.RowKit Go.Proofs.YtolickgnncfmeaaDoor.Q Go.Proofs.YtolickgnncfmeaaDoorW.PrintWords Go.Proofs.YtolickgnncfmeaaDoorW.PrintLast
set_option linter.unusedVariables false
set_option linter.unusedSimpArgs false
/-! small words -/
theorem wsucc {j n : Nat} (h : j < n) (hn : n ≤ 4611686018427387904) : wrap64 ((j : Int) + 1) = ((j + 1 : Nat) : Int) := by unfold wrap64; omega
theorem ev_step {α : Type} {g f : Nat → Option α} {r : α} (h : ∃ K, ∀ k, K ≤ k → g (k + 1) = f k) (k : Ev f r) : Ev g r := by
  obtain ⟨K, h⟩ := h
  obtain ⟨K', k⟩ := k
  refine ⟨max K K' + 1, fun n hn => ?_⟩
  obtain ⟨m, rfl⟩ : ∃ m, n = m + 1 := ⟨n - 1, by omega⟩
  rw [h m (by omega), k m (by omega)]
theorem ev_now {α : Type} {g : Nat → Option α} {r : α} (h : ∃ K, ∀ k, K ≤ k → g (k + 1) = some r) : Ev g r := ev_step (f := fun _ => some r) h (Ev.now r)
theorem ev_same {α : Type} {g f : Nat → Option α} {r : α} (h : ∃ K, ∀ k, K ≤ k → g k = f k) (k : Ev f r) : Ev g r := by
  obtain ⟨K, h⟩ := h
  obtain ⟨K', k⟩ := k
  exact ⟨max K K', fun n hn => by rw [h n (by omega), k n (by omega)]⟩
theorem ev_two {α β : Type} {g : Nat → Option α} {f : Nat → Option β} {r : α} {q : β} (h : Ev g r) (k : Ev f q) : ∃ K, ∀ n, K ≤ n → g n = some r ∧ f n = some q := by
  obtain ⟨K, h⟩ := h
  obtain ⟨K', k⟩ := k
  exact ⟨max K K', fun n hn => ⟨h n (by omega), k n (by omega)⟩⟩
theorem ev_mk {α : Type} {g : Nat → Option α} {r : α} (K : Nat) (h : ∀ k, K ≤ k → g k = some r) : Ev g r := ⟨K, h⟩
theorem ev_at {α : Type} {g : Nat → Option α} {r : α} (h : Ev g r) : ∃ K, ∀ k, K ≤ k → g k = some r := h
/-- A loop that counts up to n: from the end back. -/
theorem count_loop {ρ : Type} (n : Nat) (L : Nat → Int → Option ρ) (Post : Nat → ρ → Prop) (hend : ∃ r, Post n r ∧ Ev (fun k => L k (n : Int)) r)
    (hstep : ∀ j, j < n → ∀ r, Post (j + 1) r → Ev (fun k => L k ((j + 1 : Nat) : Int)) r → ∃ r', Post j r' ∧ Ev (fun k => L k (j : Int)) r') :
    ∀ j, j ≤ n → ∃ r, Post j r ∧ Ev (fun k => L k (j : Int)) r := by
  have key : ∀ d j, j ≤ n → n - j = d → ∃ r, Post j r ∧ Ev (fun k => L k (j : Int)) r := by
    intro d
    induction d with
    | zero => intro j hj hd; obtain rfl : j = n := by omega
              exact hend
    | succ d ih =>
      intro j hj hd
      obtain ⟨r, hp, he⟩ := ih (j + 1) (by omega) (by omega)
      exact hstep j (by omega) r hp he
  intro j hj
  exact key _ j hj rfl
/-- A loop that carries a state up to n. -/
theorem state_loop {σ ρ : Type} (n : Nat) (L : Nat → σ → Int → Option ρ) (Inv : Nat → σ → Prop) (Post : Nat → σ → ρ → Prop) (hend : ∀ s, Inv n s → ∃ r, Post n s r ∧ Ev (fun k => L k s (n : Int)) r)
    (hstep : ∀ j s, j < n → Inv j s → (∃ r, Post j s r ∧ Ev (fun k => L k s (j : Int)) r) ∨ ∃ s', Inv (j + 1) s' ∧ (∀ r, Post (j + 1) s' r → Post j s r) ∧ ∃ K, ∀ k, K ≤ k → L (k + 1) s (j : Int) = L k s' ((j + 1 : Nat) : Int)) :
    ∀ j s, j ≤ n → Inv j s → ∃ r, Post j s r ∧ Ev (fun k => L k s (j : Int)) r := by
  have key : ∀ d j s, j ≤ n → n - j = d → Inv j s → ∃ r, Post j s r ∧ Ev (fun k => L k s (j : Int)) r := by
    intro d
    induction d with
    | zero => intro j s hj hd hi; obtain rfl : j = n := by omega
              exact hend s hi
    | succ d ih =>
      intro j s hj hd hi
      rcases hstep j s (by omega) hi with h | ⟨s', hi', hp, hk⟩
      · exact h
      · obtain ⟨r, hr, he⟩ := ih (j + 1) s' (by omega) (by omega) hi'
        exact ⟨r, hp r hr, ev_step hk he⟩
  intro j s hj hi
  exact key _ j s hj rfl hi
/-- A loop that fills a row of its own. -/
theorem fill_loop {α β : Type} (xs : List α) (z : α) (g : α → β) (L : Nat → List β → Int → Option (List β)) (hend : ∀ y : List β, y.length = xs.length → ∃ K, ∀ k, K ≤ k → L (k + 1) y (xs.length : Int) = some y)
    (hstep : ∀ (j : Nat) (y : List β), j < xs.length → y.length = xs.length → ∃ K, ∀ k, K ≤ k → L (k + 1) y (j : Int) = L k (y.set j (g (xs.getD j z))) ((j + 1 : Nat) : Int)) (y : List β) (hy : y.length = xs.length) :
    Ev (fun k => L k y 0) (xs.map g) := by
  obtain ⟨r, hr, he⟩ := state_loop xs.length L (fun j y => y.length = xs.length ∧ ∀ i, i < j → y[i]? = (xs.map g)[i]?) (fun _ _ r => r = xs.map g) (fun y hi => ⟨y, List.ext_getElem? fun i => by
      by_cases hi' : i < xs.length
      · exact hi.2 i hi'
      · rw [List.getElem?_eq_none (by omega), List.getElem?_eq_none (by simp; omega)], ev_now (hend y hi.1)⟩) (fun j y hj hi => .inr ⟨_, ⟨by simp [hi.1], fun i hij => by
      by_cases he : i = j
      · subst he
        rw [List.getElem?_set_self (by omega)]
        simp [List.getD_eq_getElem?_getD, List.getElem?_eq_getElem hj]
      · rw [List.getElem?_set_ne (by omega)]
        exact hi.2 i (by omega)⟩, fun r h => h, hstep j y hj hi.1⟩) 0 y (by omega) ⟨hy, fun i hi => by omega⟩
  subst hr
  exact he
theorem spec_in (a b c : Int) : spec_l01In.f a b c = some (decide (b ≤ a ∧ a ≤ c)) := by
  unfold spec_l01In.f
  by_cases h : b ≤ a
  · rw [if_pos h]; simp [h]
  · rw [if_neg h]; simp [h]
theorem impl_in (a b c : Int) : impl_within.f a b c = some (decide (b ≤ a ∧ a ≤ c)) := spec_in a b c
/-- A letter or _; a digit. -/
def isL (b : Int) : Bool := decide (97 ≤ b ∧ b ≤ 122 ∨ 65 ≤ b ∧ b ≤ 90 ∨ b = 95)
def isD (b : Int) : Bool := decide (48 ≤ b ∧ b ≤ 57)
/-- What a name is. -/
def IsName (s : ByteArray) : Prop := 1 ≤ s.size ∧ s.size ≤ 40 ∧ isL (bt s 0) = true ∧ ∀ i : Int, 1 ≤ i → i < s.size → isL (bt s i) = true ∨ isD (bt s i) = true
theorem beq95 (b : Int) (h : ¬ (97 ≤ b ∧ b ≤ 122)) (h' : ¬ (65 ≤ b ∧ b ≤ 90)) : (b == 95) = isL b := by
  unfold isL
  by_cases e : b = 95
  · subst e; rfl
  · rw [beq_eq_false_iff_ne.mpr e]; symm; simp only [decide_eq_false_iff_not]; omega
theorem impl_letter (b : Int) : impl_isLetter.f b = some (isL b) := by
  unfold impl_isLetter.f
  by_cases h1 : b ≥ 97 <;> by_cases h2 : b ≤ 122 <;> by_cases h3 : b ≥ 65 <;> by_cases h4 : b ≤ 90 <;> simp only [h1, h2, h3, h4, if_true, if_false, Option.some.injEq] <;>
    first | exact beq95 b (by omega) (by omega) | (symm; unfold isL; simp only [decide_eq_true_eq]; omega)
theorem spec_letter (b : Int) : spec_l00Letter.f b = some (isL b) := impl_letter b
theorem impl_digit (b : Int) : impl_isDigit.f b = some (isD b) := by
  unfold impl_isDigit.f isD
  by_cases h1 : b ≥ 48
  · rw [if_pos h1]; simp only [Option.some.injEq, decide_eq_decide]; omega
  · rw [if_neg h1]; simp only [Option.some.injEq]; symm; rw [decide_eq_false_iff_not]; omega
theorem spec_digit (b : Int) : spec_l00Digit.f b = some (isD b) := impl_digit b
/-- The reference's loop, from i on. -/
theorem spec_word_from (s : ByteArray) (hn : s.size ≤ 1048576) (d : Nat) : ∀ (k : Nat) (i : Int), 0 ≤ i → i ≤ s.size → (s.size : Int) - i = d → d < k →
    ∃ r, spec_l00Word.l0 k s i = some r ∧ (r = true ↔ ∀ j : Int, i ≤ j → j < s.size → isL (bt s j) = true ∨ isD (bt s j) = true) := by
  induction d with
  | zero =>
    intro k i h0 h1 hd hk
    obtain ⟨k, rfl⟩ : ∃ m, k = m + 1 := ⟨k - 1, by omega⟩
    refine ⟨true, ?_, ⟨fun _ j h2 h3 => by omega, fun _ => rfl⟩⟩
    simp only [spec_l00Word.l0]; rw [if_neg (by omega)]
  | succ d ih =>
    intro k i h0 h1 hd hk
    obtain ⟨k, rfl⟩ : ∃ m, k = m + 1 := ⟨k - 1, by omega⟩
    have hw : wrap64 (i + 1) = i + 1 := by unfold wrap64; omega
    obtain ⟨r, e, hr⟩ := ih k (i + 1) (by omega) (by omega) (by omega) (by omega)
    have step : (isL (bt s i) = true ∨ isD (bt s i) = true) → (r = true ↔ ∀ j : Int, i ≤ j → j < s.size → isL (bt s j) = true ∨ isD (bt s j) = true) := by
      intro hh
      rw [hr]
      constructor
      · intro h j h2 h3
        rcases Int.lt_or_eq_of_le h2 with h4 | h4
        · exact h j (by omega) h3
        · rw [← h4]; exact hh
      · intro h j h2 h3; exact h j (by omega) h3
    simp only [spec_l00Word.l0]; rw [if_pos (by omega), if_pos h0, spec_letter]; simp only [Option.bind_some]
    by_cases hl : isL (bt s i) = true
    · rw [if_pos hl, hw]; exact ⟨r, e, step (.inl hl)⟩
    · rw [if_neg hl, spec_digit]; simp only [Option.bind_some]
      by_cases hdg : isD (bt s i) = true
      · rw [if_pos hdg, hw]; exact ⟨r, e, step (.inr hdg)⟩
      · rw [if_neg hdg]
        exact ⟨false, rfl, ⟨fun h => (by cases h), fun h => absurd (h i (Int.le_refl _) (by omega)) (fun h => h.elim hl hdg)⟩⟩
theorem spec_name (s : ByteArray) (hn : s.size ≤ 1048576) : ∃ r, (∀ k, s.size + 1 < k → spec_NameOK.f k s = some r) ∧ (r = true ↔ IsName s) := by
  by_cases h1 : (s.size : Int) < 1
  · refine ⟨false, fun k hk => ?_, ⟨fun h => (by cases h), fun h => absurd h.1 (by omega)⟩⟩
    obtain ⟨k, rfl⟩ : ∃ m, k = m + 1 := ⟨k - 1, by omega⟩
    unfold spec_NameOK.f spec_l00Word.f
    rw [if_pos h1]; rfl
  · by_cases h2 : (s.size : Int) > 40
    · refine ⟨false, fun k hk => ?_, ⟨fun h => (by cases h), fun h => absurd h.2.1 (by omega)⟩⟩
      obtain ⟨k, rfl⟩ : ∃ m, k = m + 1 := ⟨k - 1, by omega⟩
      unfold spec_NameOK.f spec_l00Word.f
      rw [if_neg h1, if_pos h2]; rfl
    · by_cases hl : isL (bt s 0) = true
      · obtain ⟨r, _, hr⟩ := spec_word_from s hn (s.size - 1) (s.size + 1) 1 (by omega) (by omega) (by omega) (by omega)
        refine ⟨r, fun k hk => ?_, ?_⟩
        · obtain ⟨k, rfl⟩ : ∃ m, k = m + 1 := ⟨k - 1, by omega⟩
          obtain ⟨r', e', hr'⟩ := spec_word_from s hn (s.size - 1) k 1 (by omega) (by omega) (by omega) (by omega)
          have : r' = r := by rw [Bool.eq_iff_iff, hr, hr']
          subst this
          unfold spec_NameOK.f spec_l00Word.f
          rw [if_neg h1, if_neg h2, if_pos (by omega), spec_letter]; simp only [Option.bind_some, hl, Bool.not_true, spec_l00Word.j0]
          rw [if_neg (by simp), e']; rfl
        · rw [hr]; exact ⟨fun h => ⟨by omega, by omega, hl, h⟩, fun h => h.2.2.2⟩
      · refine ⟨false, fun k hk => ?_, ⟨fun h => (by cases h), fun h => absurd h.2.2.1 hl⟩⟩
        obtain ⟨k, rfl⟩ : ∃ m, k = m + 1 := ⟨k - 1, by omega⟩
        unfold spec_NameOK.f spec_l00Word.f
        rw [if_neg h1, if_neg h2, if_pos (by omega), spec_letter]; simp only [Option.bind_some]
        have : isL (bt s 0) = false := by simpa using hl
        rw [this]; rfl
/-- The program's loop, from i on. -/
theorem impl_name_from (s : ByteArray) (hn : s.size ≤ 1048576) (d : Nat) : ∀ (k : Nat) (i : Int), 0 ≤ i → i ≤ s.size → (s.size : Int) - i = d → d < k →
    ∃ r, impl_NameOK.l0 k s s.size i = some r ∧ (r = true ↔ (1 ≤ s.size ∧ s.size ≤ 40) ∧ ∀ j : Int, i ≤ j → j < s.size → isL (bt s j) = true ∨ j ≠ 0 ∧ isD (bt s j) = true) := by
  induction d with
  | zero =>
    intro k i h0 h1 hd hk
    obtain ⟨k, rfl⟩ : ∃ m, k = m + 1 := ⟨k - 1, by omega⟩
    simp only [impl_NameOK.l0]; rw [if_neg (by omega)]
    unfold impl_within.f
    by_cases h2 : (s.size : Int) ≥ 1
    · rw [if_pos h2]
      refine ⟨_, rfl, ?_⟩
      simp only [decide_eq_true_eq]
      exact ⟨fun h => ⟨⟨by omega, by omega⟩, fun j _ _ => by omega⟩, fun h => by omega⟩
    · rw [if_neg h2]
      refine ⟨_, rfl, ?_⟩
      exact ⟨fun h => by simp at h, fun h => by omega⟩
  | succ d ih =>
    intro k i h0 h1 hd hk
    obtain ⟨k, rfl⟩ : ∃ m, k = m + 1 := ⟨k - 1, by omega⟩
    have hw : wrap64 (i + 1) = i + 1 := by unfold wrap64; omega
    obtain ⟨r, e, hr⟩ := ih k (i + 1) (by omega) (by omega) (by omega) (by omega)
    have step : (isL (bt s i) = true ∨ i ≠ 0 ∧ isD (bt s i) = true) → (r = true ↔ (1 ≤ s.size ∧ s.size ≤ 40) ∧ ∀ j : Int, i ≤ j → j < s.size → isL (bt s j) = true ∨ j ≠ 0 ∧ isD (bt s j) = true) := by
      intro hh
      rw [hr]
      constructor
      · intro ⟨h', h⟩
        refine ⟨h', fun j h2 h3 => ?_⟩
        rcases Int.lt_or_eq_of_le h2 with h4 | h4
        · exact h j (by omega) h3
        · rw [← h4]; exact hh
      · intro ⟨h', h⟩; exact ⟨h', fun j h2 h3 => h j (by omega) h3⟩
    simp only [impl_NameOK.l0]; rw [if_pos (by omega), if_pos h0, if_pos (by omega), impl_letter]; simp only [Option.bind_some]
    by_cases hl : isL (bt s i) = true
    · rw [if_pos hl, hw]; exact ⟨r, e, step (.inl hl)⟩
    · rw [if_neg hl]
      by_cases hz : i = 0
      · rw [if_pos hz]
        exact ⟨false, rfl, ⟨fun h => (by cases h), fun h => absurd (h.2 i (Int.le_refl _) (by omega)) (fun h => h.elim hl (fun h => h.1 hz))⟩⟩
      · rw [if_neg hz, impl_digit]; simp only [Option.bind_some]
        by_cases hdg : isD (bt s i) = true
        · rw [if_pos hdg, hw]; exact ⟨r, e, step (.inr ⟨hz, hdg⟩)⟩
        · rw [if_neg hdg]
          exact ⟨false, rfl, ⟨fun h => (by cases h), fun h => absurd (h.2 i (Int.le_refl _) (by omega)) (fun h => h.elim hl (fun h => hdg h.2))⟩⟩
theorem impl_name (s : ByteArray) (hn : s.size ≤ 1048576) : ∃ r, (∀ k, s.size + 1 < k → impl_NameOK.f k s = some r) ∧ (r = true ↔ IsName s) := by
  obtain ⟨r, _, hr⟩ := impl_name_from s hn s.size (s.size + 1) 0 (by omega) (by omega) (by omega) (by omega)
  refine ⟨r, fun k hk => ?_, ?_⟩
  · obtain ⟨r', e', hr'⟩ := impl_name_from s hn s.size k 0 (by omega) (by omega) (by omega) (by omega)
    have : r' = r := by rw [Bool.eq_iff_iff, hr, hr']
    subst this
    exact e'
  · rw [hr]
    constructor
    · rintro ⟨⟨h1, h2⟩, h⟩
      refine ⟨h1, h2, ?_, fun j hj hj' => ?_⟩
      · have := h 0 (by omega) (by omega)
        simpa using this
      · rcases h j (by omega) hj' with h | h
        · exact .inl h
        · exact .inr h.2
    · rintro ⟨h1, h2, h3, h⟩
      refine ⟨⟨h1, h2⟩, fun j hj hj' => ?_⟩
      by_cases hz : j = 0
      · subst hz; exact .inl h3
      · rcases h j (by omega) hj' with h | h
        · exact .inl h
        · exact .inr ⟨hz, h⟩
/-- Both say the same. -/
theorem names_agree (s : ByteArray) (hn : s.size ≤ 1048576) : ∃ r, (∀ k, s.size + 1 < k → spec_NameOK.f k s = some r ∧ impl_NameOK.f k s = some r) ∧ (r = true ↔ IsName s) := by
  obtain ⟨r, e, hr⟩ := spec_name s hn
  obtain ⟨r', e', hr'⟩ := impl_name s hn
  have : r' = r := by rw [Bool.eq_iff_iff, hr, hr']
  subst this
  exact ⟨r', fun k hk => ⟨e k hk, e' k hk⟩, hr⟩
theorem names_ev (s : ByteArray) (hn : s.size ≤ 1048576) : ∃ r, Ev (fun k => spec_NameOK.f k s) r ∧ Ev (fun k => impl_NameOK.f k s) r ∧ (r = true ↔ IsName s) := by
  obtain ⟨r, h, hr⟩ := names_agree s hn
  exact ⟨r, ev_mk (s.size + 2) (fun k hk => (h k (by omega)).1), ev_mk (s.size + 2) (fun k hk => (h k (by omega)).2), hr⟩
/-- slices.Index over texts. -/
theorem index_text (l : List ByteArray) (t : ByteArray) (hl : l.length ≤ 1048576) : ∃ r, Ev (fun k => slices_Index_string_string.f k l t) r ∧ (r ≥ 0 ↔ ∃ j, j < l.length ∧ t.toList = (l.getD j ByteArray.empty).toList) := by
  obtain ⟨r, hr, he⟩ := count_loop l.length (fun k i => slices_Index_string_string.l0 k l t (l.length : Int) i) (fun j r => r ≥ 0 ↔ ∃ j', j ≤ j' ∧ j' < l.length ∧ t.toList = (l.getD j' ByteArray.empty).toList)
    ⟨-1, ⟨fun h => by omega, fun ⟨j', h1, h2, _⟩ => by omega⟩, ev_now ⟨0, fun k _ => by simp only [slices_Index_string_string.l0]; rw [if_neg (by omega)]⟩⟩
    (fun j hj r hr he => by
      have hd : rdOf ByteArray.empty l (j : Int) = l.getD j ByteArray.empty := rfl
      by_cases hc : t.toList = (l.getD j ByteArray.empty).toList
      · exact ⟨(j : Int), ⟨fun _ => ⟨j, Nat.le_refl _, hj, hc⟩, fun _ => by omega⟩, ev_now ⟨0, fun k _ => by simp only [slices_Index_string_string.l0]; rw [if_pos (by omega), if_pos (by omega), if_pos (by omega), hd, if_pos hc]⟩⟩
      · refine ⟨r, hr.trans ⟨fun ⟨j', h1, h2, h3⟩ => ⟨j', by omega, h2, h3⟩, fun ⟨j', h1, h2, h3⟩ => ?_⟩, ev_step ⟨0, fun k _ => by simp only [slices_Index_string_string.l0]; rw [if_pos (by omega), if_pos (by omega), if_pos (by omega), hd, if_neg hc, wsucc hj (by omega)]⟩ he⟩
        rcases Nat.lt_or_eq_of_le h1 with h4 | rfl
        · exact ⟨j', h4, h2, h3⟩
        · exact absurd h3 hc) 0 (by omega)
  refine ⟨r, ev_same ⟨0, fun k _ => by unfold slices_Index_string_string.f; rfl⟩ he, hr.trans ⟨fun ⟨j, _, h2, h3⟩ => ⟨j, h2, h3⟩, fun ⟨j, h2, h3⟩ => ⟨j, by omega, h2, h3⟩⟩⟩
/-- What is a mark. -/
def IsPunct (t : List UInt8) : Prop := t = [123] ∨ t = [125] ∨ t = [40] ∨ t = [41] ∨ t = [91] ∨ t = [93] ∨ t = [58] ∨ t = [33] ∨ t = [64] ∨ t = [46, 46, 46]
theorem spec_punct (s : ByteArray) : ∃ r, spec_l01Punct.f s = some r ∧ (r = true ↔ IsPunct s.toList) := by
  unfold spec_l01Punct.f IsPunct
  generalize s.toList = t
  by_cases h1 : t = [123]
  · rw [if_pos h1]; exact ⟨_, rfl, by simp [h1]⟩
  rw [if_neg h1]
  by_cases h2 : t = [125]
  · rw [if_pos h2]; exact ⟨_, rfl, by simp [h2]⟩
  rw [if_neg h2]
  by_cases h3 : t = [40]
  · rw [if_pos h3]; exact ⟨_, rfl, by simp [h3]⟩
  rw [if_neg h3]
  by_cases h4 : t = [41]
  · rw [if_pos h4]; exact ⟨_, rfl, by simp [h4]⟩
  rw [if_neg h4]
  by_cases h5 : t = [91]
  · rw [if_pos h5]; exact ⟨_, rfl, by simp [h5]⟩
  rw [if_neg h5]
  by_cases h6 : t = [93]
  · rw [if_pos h6]; exact ⟨_, rfl, by simp [h6]⟩
  rw [if_neg h6]
  by_cases h7 : t = [58]
  · rw [if_pos h7]; exact ⟨_, rfl, by simp [h7]⟩
  rw [if_neg h7]
  by_cases h8 : t = [33]
  · rw [if_pos h8]; exact ⟨_, rfl, by simp [h8]⟩
  rw [if_neg h8]
  by_cases h9 : t = [64]
  · rw [if_pos h9]; exact ⟨_, rfl, by simp [h9]⟩
  rw [if_neg h9]
  exact ⟨_, rfl, by simp [h1, h2, h3, h4, h5, h6, h7, h8, h9]⟩
theorem impl_punct (s : ByteArray) : ∃ x r, impl_puncts.f = some x ∧ Ev (fun k => slices_Contains_string_string.f k x s) r ∧ (r = true ↔ IsPunct s.toList) := by
  obtain ⟨x, hx⟩ : ∃ x, impl_puncts.f = some x := ⟨_, rfl⟩
  have hx' := hx
  unfold impl_puncts.f at hx'
  have hl : x.length = 10 := by rw [← Option.some.inj hx']; rfl
  have hj : ∀ j, j < 10 → (x.getD j ByteArray.empty).toList = [[123], [125], [40], [41], [91], [93], [58], [33], [64], [46, 46, 46]].getD j [] := by
    intro j hj
    rw [← Option.some.inj hx']
    rcases (by omega : j = 0 ∨ j = 1 ∨ j = 2 ∨ j = 3 ∨ j = 4 ∨ j = 5 ∨ j = 6 ∨ j = 7 ∨ j = 8 ∨ j = 9) with rfl | rfl | rfl | rfl | rfl | rfl | rfl | rfl | rfl | rfl <;> (rw [ByteArray.toList_eq]; rfl)
  obtain ⟨r, he, hr⟩ := index_text x s (by omega)
  obtain ⟨K, h⟩ := ev_at he
  refine ⟨x, decide (r ≥ 0), hx, ev_mk K (fun k hk => by unfold slices_Contains_string_string.f; rw [h k hk]; rfl), ?_⟩
  rw [decide_eq_true_eq, hr, hl]
  unfold IsPunct
  generalize s.toList = t
  constructor
  · rintro ⟨j, h1, h2⟩
    rw [hj j h1] at h2
    rcases (by omega : j = 0 ∨ j = 1 ∨ j = 2 ∨ j = 3 ∨ j = 4 ∨ j = 5 ∨ j = 6 ∨ j = 7 ∨ j = 8 ∨ j = 9) with rfl | rfl | rfl | rfl | rfl | rfl | rfl | rfl | rfl | rfl <;> simp at h2 <;> simp [h2]
  · rintro (h | h | h | h | h | h | h | h | h | h)
    · exact ⟨0, by omega, by rw [hj 0 (by omega)]; exact h⟩
    · exact ⟨1, by omega, by rw [hj 1 (by omega)]; exact h⟩
    · exact ⟨2, by omega, by rw [hj 2 (by omega)]; exact h⟩
    · exact ⟨3, by omega, by rw [hj 3 (by omega)]; exact h⟩
    · exact ⟨4, by omega, by rw [hj 4 (by omega)]; exact h⟩
    · exact ⟨5, by omega, by rw [hj 5 (by omega)]; exact h⟩
    · exact ⟨6, by omega, by rw [hj 6 (by omega)]; exact h⟩
    · exact ⟨7, by omega, by rw [hj 7 (by omega)]; exact h⟩
    · exact ⟨8, by omega, by rw [hj 8 (by omega)]; exact h⟩
    · exact ⟨9, by omega, by rw [hj 9 (by omega)]; exact h⟩
/-- What is a right token. -/
def IsToken (a b : Int) (s : ByteArray) : Prop := (a = 1 ∨ a = 3) ∧ b = 0 ∧ IsName s ∨ a = 2 ∧ (-2147483648 ≤ b ∧ b ≤ 2147483647) ∧ s.toList = [] ∨ a = 4 ∧ b = 0 ∧ IsPunct s.toList
theorem spec_token (a b : Int) (s : ByteArray) (hn : s.size ≤ 1048576) : ∃ r, Ev (fun k => spec_TokenOK.f k a b s) r ∧ (r = true ↔ IsToken a b s) := by
  by_cases h13 : a = 1 ∨ a = 3
  · have hj : ∀ k, spec_TokenOK.f (k + 1) a b s = if b = 0 then ((spec_NameOK.f k s).bind fun t => some t) else some false := by
      intro k
      rcases h13 with h | h
      · subst h; unfold spec_TokenOK.f; rw [if_pos rfl]; simp only [spec_TokenOK.j0]; rfl
      · subst h; unfold spec_TokenOK.f; rw [if_neg (by omega)]; simp only [spec_TokenOK.j0]; rfl
    by_cases hb : b = 0
    · obtain ⟨r, e1, _, hr⟩ := names_ev s hn
      obtain ⟨K, g⟩ := ev_at e1
      refine ⟨r, ev_now ⟨K, fun k hk => by rw [hj, if_pos hb, g k hk]; rfl⟩, hr.trans ⟨fun h => .inl ⟨h13, hb, h⟩, ?_⟩⟩
      rintro (h | h | h)
      · exact h.2.2
      · omega
      · omega
    · refine ⟨false, ev_now ⟨0, fun k _ => by rw [hj, if_neg hb]⟩, ⟨fun h => (by cases h), ?_⟩⟩
      rintro (h | h | h)
      · exact absurd h.2.1 hb
      · omega
      · omega
  · have hj : ∀ k, spec_TokenOK.f (k + 1) a b s = if a = 2 then ((spec_IsInt.f b).bind fun t => if t = true then some (s.toList == []) else some false) else if a = 4 then (if b = 0 then ((spec_l01Punct.f s).bind fun t => some t) else some false) else some false := by
      intro k
      have e3 : (a == 3) = false := by simpa using fun h => h13 (.inr h)
      unfold spec_TokenOK.f; rw [if_neg (fun h => h13 (.inl h)), e3]; simp only [spec_TokenOK.j0]; rfl
    by_cases h2 : a = 2
    · refine ⟨decide (-2147483648 ≤ b ∧ b ≤ 2147483647) && (s.toList == []), ev_now ⟨0, fun k _ => by rw [hj, if_pos h2]; unfold spec_IsInt.f; rw [spec_in]; simp only [Option.bind_some]; cases decide (-2147483648 ≤ b ∧ b ≤ 2147483647) <;> simp⟩, ?_⟩
      rw [Bool.and_eq_true, decide_eq_true_eq, beq_iff_eq]
      exact ⟨fun h => .inr (.inl ⟨h2, h.1, h.2⟩), fun h => by rcases h with h | h | h <;> first | exact absurd h.1 h13 | exact h.2 | omega⟩
    · by_cases h4 : a = 4
      · by_cases hb : b = 0
        · obtain ⟨r, e, hr⟩ := spec_punct s
          refine ⟨r, ev_now ⟨0, fun k _ => by rw [hj, if_neg h2, if_pos h4, if_pos hb, e]; rfl⟩, hr.trans ⟨fun h => .inr (.inr ⟨h4, hb, h⟩), fun h => by rcases h with h | h | h <;> first | exact absurd h.1 h13 | exact h.2.2 | exact absurd h.1 h2⟩⟩
        · refine ⟨false, ev_now ⟨0, fun k _ => by rw [hj, if_neg h2, if_pos h4, if_neg hb]⟩, ⟨fun h => (by cases h), fun h => by rcases h with h | h | h <;> first | exact absurd h.1 h13 | exact absurd h.2.1 hb | exact absurd h.1 h2⟩⟩
      · refine ⟨false, ev_now ⟨0, fun k _ => by rw [hj, if_neg h2, if_neg h4]⟩, ⟨fun h => (by cases h), fun h => by rcases h with h | h | h <;> first | exact absurd h.1 h13 | exact absurd h.1 h4 | exact absurd h.1 h2⟩⟩
theorem impl_token (a b : Int) (s : ByteArray) (hn : s.size ≤ 1048576) : ∃ r, Ev (fun k => impl_TokenOK.f k a b s) r ∧ (r = true ↔ IsToken a b s) := by
  obtain ⟨x, q, hx, hq, hqr⟩ := impl_punct s
  obtain ⟨Kq, gq⟩ := ev_at hq
  by_cases h13 : a = 1 ∨ a = 3
  · have hj : ∀ k, impl_TokenOK.f (k + 1) a b s = if b = 0 then ((impl_NameOK.f k s).bind fun t => some t) else some false := by
      intro k
      rcases h13 with h | h
      · subst h; unfold impl_TokenOK.f; rw [if_pos rfl]; simp only [impl_TokenOK.j0]; rfl
      · subst h; unfold impl_TokenOK.f; rw [if_neg (by omega)]; simp only [impl_TokenOK.j0]; rfl
    by_cases hb : b = 0
    · obtain ⟨r, _, e1, hr⟩ := names_ev s hn
      obtain ⟨K, g⟩ := ev_at e1
      refine ⟨r, ev_now ⟨K, fun k hk => by rw [hj, if_pos hb, g k hk]; rfl⟩, hr.trans ⟨fun h => .inl ⟨h13, hb, h⟩, ?_⟩⟩
      rintro (h | h | h)
      · exact h.2.2
      · omega
      · omega
    · refine ⟨false, ev_now ⟨0, fun k _ => by rw [hj, if_neg hb]⟩, ⟨fun h => (by cases h), ?_⟩⟩
      rintro (h | h | h)
      · exact absurd h.2.1 hb
      · omega
      · omega
  · have hj : ∀ k, impl_TokenOK.f (k + 1) a b s = if a = 2 then ((impl_IsInt.f b).bind fun t => if t = true then some (s.toList == []) else some false) else if a = 4 then (if b = 0 then ((impl_puncts.f).bind fun z => ((slices_Contains_string_string.f k z s).bind fun t => some t)) else some false) else some false := by
      intro k
      have e3 : (a == 3) = false := by simpa using fun h => h13 (.inr h)
      unfold impl_TokenOK.f; rw [if_neg (fun h => h13 (.inl h)), e3]; simp only [impl_TokenOK.j0]; rfl
    by_cases h2 : a = 2
    · refine ⟨decide (-2147483648 ≤ b ∧ b ≤ 2147483647) && (s.toList == []), ev_now ⟨0, fun k _ => by rw [hj, if_pos h2]; unfold impl_IsInt.f; rw [impl_in]; simp only [Option.bind_some]; cases decide (-2147483648 ≤ b ∧ b ≤ 2147483647) <;> simp⟩, ?_⟩
      rw [Bool.and_eq_true, decide_eq_true_eq, beq_iff_eq]
      exact ⟨fun h => .inr (.inl ⟨h2, h.1, h.2⟩), fun h => by rcases h with h | h | h <;> first | exact absurd h.1 h13 | exact h.2 | omega⟩
    · by_cases h4 : a = 4
      · by_cases hb : b = 0
        · refine ⟨q, ev_now ⟨Kq, fun k hk => by rw [hj, if_neg h2, if_pos h4, if_pos hb, hx]; simp only [Option.bind_some]; rw [gq k hk]; rfl⟩, hqr.trans ⟨fun h => .inr (.inr ⟨h4, hb, h⟩), fun h => by rcases h with h | h | h <;> first | exact absurd h.1 h13 | exact h.2.2 | exact absurd h.1 h2⟩⟩
        · refine ⟨false, ev_now ⟨0, fun k _ => by rw [hj, if_neg h2, if_pos h4, if_neg hb]⟩, ⟨fun h => (by cases h), fun h => by rcases h with h | h | h <;> first | exact absurd h.1 h13 | exact absurd h.2.1 hb | exact absurd h.1 h2⟩⟩
      · refine ⟨false, ev_now ⟨0, fun k _ => by rw [hj, if_neg h2, if_neg h4]⟩, ⟨fun h => (by cases h), fun h => by rcases h with h | h | h <;> first | exact absurd h.1 h13 | exact absurd h.1 h4 | exact absurd h.1 h2⟩⟩
theorem token_agree (a b : Int) (s : ByteArray) (hn : s.size ≤ 1048576) : ∃ r, Ev (fun k => spec_TokenOK.f k a b s) r ∧ Ev (fun k => impl_TokenOK.f k a b s) r ∧ (r = true ↔ IsToken a b s) := by
  obtain ⟨r, e, hr⟩ := spec_token a b s hn
  obtain ⟨r', e', hr'⟩ := impl_token a b s hn
  have : r' = r := by rw [Bool.eq_iff_iff, hr, hr']
  subst this
  exact ⟨r', e, e', hr⟩
end Go.Proofs.YtolickgnncfmeaaDoor.Pure2
namespace Go.Proofs.YtolickgnncfmeaaDoor.Pure2
open Go.RowKit Go.Proofs.YtolickgnncfmeaaDoor.Q Go.Proofs.YtolickgnncfmeaaDoorW.PrintWords Go.Proofs.YtolickgnncfmeaaDoorW.PrintLast
set_option linter.unusedVariables false
set_option linter.unusedSimpArgs false
/-! a number's digits -/
theorem dec_digits : ∀ u : Nat, u ≤ 2147483648 → Ev (fun k => spec_l00Digits.f k (u : Int)) ⟨(Lib.decDigits u).toArray⟩ ∧ (Lib.decDigits u).length ≤ u + 1 := by
  intro u
  induction u using Nat.strongRecOn with
  | _ u ih =>
    intro hu
    rw [Lib.decDigits]
    by_cases h : u < 10
    · rw [dif_pos h]
      refine ⟨ev_now ⟨0, fun k _ => ?_⟩, by simp⟩
      simp only [spec_l00Digits.f]
      rw [if_neg (by omega), if_neg (by omega), if_pos (by omega)]
      have e : wrap64 (48 + (u : Int)) % 256 = ((48 + u : Nat) : Int) := by unfold wrap64; omega
      rw [e]
      rfl
    · rw [dif_neg h]
      obtain ⟨e1, hl⟩ := ih (u / 10) (by omega) (by omega)
      obtain ⟨K, h1⟩ := ev_at e1
      refine ⟨ev_mk (K + 1) fun k hk => ?_, by rw [List.length_append]; simp only [List.length_cons, List.length_nil]; omega⟩
      obtain ⟨m, rfl⟩ : ∃ m, k = m + 1 := ⟨k - 1, by omega⟩
      have e2 : wrap64 (Int.tdiv (u : Int) 10) = ((u / 10 : Nat) : Int) := by rw [Int.tdiv_eq_ediv_of_nonneg (by omega)]; unfold wrap64; omega
      have e3 : wrap64 (48 + Int.tmod (u : Int) 10) % 256 = ((48 + u % 10 : Nat) : Int) := by rw [Int.tmod_eq_emod_of_nonneg (by omega)]; unfold wrap64; omega
      simp only [spec_l00Digits.f]
      rw [if_neg (by omega), if_neg (by omega), if_neg (by omega), e2, h1 m (by omega), e3]
      simp only [Option.bind_some]
      have e4 : strOfNums [((48 + u % 10 : Nat) : Int)] = ⟨[UInt8.ofNat (48 + u % 10)].toArray⟩ := rfl
      rw [e4, if_pos (by show (Lib.decDigits (u / 10)).toArray.size + [UInt8.ofNat (48 + u % 10)].toArray.size ≤ _; simp; omega)]
      first | (congr 1; done) | (congr 1; apply ByteArray.ext; simp)
theorem digits_agree (n : Int) (h0 : -2147483648 ≤ n) (h1 : n ≤ 2147483647) : Ev (fun k => spec_l00Digits.f k n) ⟨(Lib.itoa n).toArray⟩ ∧ strconv_Itoa.f n = some ⟨(Lib.itoa n).toArray⟩ ∧ (Lib.itoa n).length ≤ 2147483650 := by
  have e0 : strconv_Itoa.f n = some ⟨(Lib.itoa n).toArray⟩ := by unfold strconv_Itoa.f; rw [if_pos (by omega)]
  unfold Lib.itoa
  by_cases h : n < 0
  · rw [if_pos h]
    obtain ⟨e1, hl⟩ := dec_digits n.natAbs (by omega)
    obtain ⟨K, k1⟩ := ev_at e1
    refine ⟨ev_mk (K + 1) fun k hk => ?_, by rw [e0]; unfold Lib.itoa; rw [if_pos h], by simp only [List.length_cons]; omega⟩
    obtain ⟨m, rfl⟩ : ∃ m, k = m + 1 := ⟨k - 1, by omega⟩
    have e2 : wrap64 (-n) = (n.natAbs : Int) := by unfold wrap64; omega
    simp only [spec_l00Digits.f]
    rw [if_neg (by omega), if_pos h, e2, k1 m (by omega)]
    simp only [Option.bind_some]
    rw [if_pos (by show 1 + (Lib.decDigits n.natAbs).toArray.size ≤ _; simp; omega)]
    first | (congr 1; done) | (congr 1; apply ByteArray.ext; simp)
  · rw [if_neg h]
    obtain ⟨e1, hl⟩ := dec_digits n.toNat (by omega)
    refine ⟨?_, by rw [e0]; unfold Lib.itoa; rw [if_neg h], by omega⟩
    rw [show (n.toNat : Int) = n by omega] at e1
    exact e1
/-- A right token's text. -/
theorem text_agree (a b : Int) (s : ByteArray) (hs : s.size ≤ 1048576) (h : IsToken a b s) : ∃ t, Ev (fun k => spec_l01Text.f k a b s) t ∧ impl_Token_text.f a b s = some t ∧ t.size ≤ 2147483650 := by
  by_cases h2 : a = 2
  · have hb : -2147483648 ≤ b ∧ b ≤ 2147483647 := by
      rcases h with ⟨h, _⟩ | ⟨_, h, _⟩ | ⟨h, _⟩
      · omega
      · exact h
      · omega
    obtain ⟨e1, e2, hl⟩ := digits_agree b hb.1 hb.2
    obtain ⟨K, k1⟩ := ev_at e1
    refine ⟨⟨(Lib.itoa b).toArray⟩, ev_mk K fun k hk => ?_, ?_, ?_⟩
    · unfold spec_l01Text.f
      rw [if_pos h2, k1 k hk]
      rfl
    · unfold impl_Token_text.f
      rw [if_pos h2, e2]
      rfl
    · show (Lib.itoa b).toArray.size ≤ _
      simpa using hl
  · by_cases h3 : a = 3
    · refine ⟨(⟨#[36]⟩ : ByteArray) ++ s, ev_mk 0 fun k hk => by unfold spec_l01Text.f; rw [if_neg h2, if_pos h3, if_pos (by omega)], by unfold impl_Token_text.f; rw [if_neg h2, if_pos h3, if_pos (by omega)], ?_⟩
      rw [ByteArray.size_append]
      show 1 + s.size ≤ _
      omega
    · exact ⟨s, ev_mk 0 fun k hk => by unfold spec_l01Text.f; rw [if_neg h2, if_neg h3], by unfold impl_Token_text.f; rw [if_neg h2, if_neg h3], by omega⟩
end Go.Proofs.YtolickgnncfmeaaDoor.Pure2
namespace Go.Proofs.YtolickgnncfmeaaDoor.Pure2
open Go.RowKit Go.Proofs.YtolickgnncfmeaaDoor.Q Go.Proofs.YtolickgnncfmeaaDoorW.PrintWords Go.Proofs.YtolickgnncfmeaaDoorW.PrintLast
set_option linter.unusedVariables false
set_option linter.unusedSimpArgs false
/-! loops over lists -/
theorem getD_mem {α : Type} (l : List α) (z : α) (j : Nat) (h : j < l.length) : l.getD j z ∈ l := by rw [List.getD_eq_getElem?_getD, List.getElem?_eq_getElem h]; exact List.getElem_mem h
theorem wsub (a : Int) (n : Nat) (h0 : 0 ≤ a) (h1 : a ≤ 1048576) (hn : n ≤ 9223372036854775807) : wrap64 (a - (n : Int)) = a - (n : Int) := by unfold wrap64; omega
theorem sz_loop {α : Type} (l : List α) (z : α) (P : α → Prop) (a : Int) (h0 : 0 ≤ a) (L : Nat → Int → Int → Option Int) (hend : ∀ k s, L (k + 1) s (l.length : Int) = some s)
    (hx : ∀ j, j < l.length → ∀ s, 0 ≤ s → s ≤ a → ∃ t, (t < 0 ∨ 0 ≤ t ∧ t ≤ s ∧ P (l.getD j z)) ∧ ∃ K, ∀ k, K ≤ k → L (k + 1) s (j : Int) = if t < 0 then some (-1) else L k t ((j + 1 : Nat) : Int)) :
    ∃ r, Ev (fun k => L k a 0) r ∧ (r < 0 ∨ 0 ≤ r ∧ r ≤ a ∧ ∀ x ∈ l, P x) := by
  obtain ⟨r, hr, he⟩ := state_loop l.length L (fun j s => 0 ≤ s ∧ s ≤ a ∧ ∀ i, i < j → P (l.getD i z)) (fun _ _ r => r < 0 ∨ 0 ≤ r ∧ r ≤ a ∧ ∀ i, i < l.length → P (l.getD i z))
    (fun s hi => ⟨s, .inr hi, ev_now ⟨0, fun k _ => hend k s⟩⟩)
    (fun j s hj hi => by
      obtain ⟨t, ht, K, hk⟩ := hx j hj s hi.1 hi.2.1
      rcases ht with ht | ⟨t0, t1, t2⟩
      · exact .inl ⟨-1, .inl (by omega), ev_now ⟨K, fun k h => by rw [hk k h, if_pos ht]⟩⟩
      · refine .inr ⟨t, ⟨t0, by omega, fun i hij => ?_⟩, fun r h => h, K, fun k h => by rw [hk k h, if_neg (by omega)]⟩
        rcases Nat.lt_or_eq_of_le (Nat.le_of_lt_succ hij) with h' | rfl
        · exact hi.2.2 i h'
        · exact t2) 0 a (by omega) ⟨h0, by omega, fun i hi => by omega⟩
  refine ⟨r, he, ?_⟩
  rcases hr with hr | ⟨h2, h3, h4⟩
  · exact .inl hr
  · refine .inr ⟨h2, h3, fun x hx' => ?_⟩
    obtain ⟨i, hi, rfl⟩ := List.getElem_of_mem hx'
    have := h4 i hi
    rw [List.getD_eq_getElem?_getD, List.getElem?_eq_getElem hi] at this
    exact this
theorem eq_loop {α : Type} (n : Nat) (L : Nat → Int → Option Bool) (hend : ∀ k, L (k + 1) (n : Int) = some true) (hs : ∀ j, j < n → ∃ K, ∀ k, K ≤ k → L (k + 1) (j : Int) = L k ((j + 1 : Nat) : Int)) : Ev (fun k => L k 0) true := by
  obtain ⟨r, hr, he⟩ := count_loop n L (fun _ r => r = true) ⟨true, rfl, ev_now ⟨0, fun k _ => hend k⟩⟩ (fun j hj r hr he => ⟨r, hr, ev_step (hs j hj) he⟩) 0 (by omega)
  subst hr
  exact he
/-! texts joined -/
theorem join_snoc (l : List (List UInt8)) (x sep : List UInt8) (h : l ≠ []) : Lib.join (l ++ [x]) sep = Lib.join l sep ++ sep ++ x := by
  cases l with
  | nil => exact absurd rfl h
  | cons y r => rw [List.cons_append, Lib.join_cons, Lib.join_cons]; simp [Lib.joinTail, List.append_assoc]
theorem lens_le (l : List (List UInt8)) (B : Nat) (h : ∀ x ∈ l, x.length ≤ B) : Lib.lens l ≤ l.length * B := by
  induction l with
  | nil => simp [Lib.lens]
  | cons y r ih =>
    have h1 := h y (by simp)
    have h2 := ih fun x hx => h x (List.mem_cons_of_mem _ hx)
    simp only [Lib.lens, List.map_cons, List.sum_cons, List.length_cons, Nat.succ_mul] at h2 ⊢
    omega
theorem join_le (l : List (List UInt8)) (sep : List UInt8) (B : Nat) (h : ∀ x ∈ l, x.length ≤ B) : (Lib.join l sep).length ≤ l.length * B + l.length * sep.length := by
  cases l with
  | nil => simp [Lib.join_nil]
  | cons y r =>
    have h2 := lens_le (y :: r) B h
    rw [Lib.join_length]
    rw [Nat.mul_comm sep.length]
    simp only [List.length_cons, Nat.succ_mul] at h2 ⊢
    omega
theorem join_texts (ws : List ByteArray) (sep : ByteArray) (hn : ws.length ≤ 1048576) (hs : sep.size ≤ 16) (hw : ∀ w ∈ ws, w.size ≤ 2147483650) :
    Ev (fun k => spec_l00Join.f k ws sep) ⟨(Lib.join (ws.map (·.data.toList)) sep.data.toList).toArray⟩ := by
  have hb : ∀ j, j ≤ ws.length → (Lib.join ((ws.take j).map (·.data.toList)) sep.data.toList).length ≤ j * 2147483650 + j * 16 := fun j hj => by
    have h := join_le ((ws.take j).map (·.data.toList)) sep.data.toList 2147483650 (fun x hx => by
      obtain ⟨w, hw', rfl⟩ := List.mem_map.1 hx
      have := hw w (List.mem_of_mem_take hw')
      simpa using this)
    have hl : ((ws.take j).map (·.data.toList)).length = j := by rw [List.length_map, List.length_take]; omega
    have hsl : sep.data.toList.length ≤ 16 := by simpa using hs
    rw [hl] at h
    have := Nat.mul_le_mul_left j hsl
    omega
  obtain ⟨r, hr, he⟩ := state_loop ws.length (fun k s i => spec_l00Join.l0 k ws sep s i) (fun j s => s = ⟨(Lib.join ((ws.take j).map (·.data.toList)) sep.data.toList).toArray⟩) (fun _ _ r => r = ⟨(Lib.join (ws.map (·.data.toList)) sep.data.toList).toArray⟩)
    (fun s hi => ⟨s, by rw [hi, List.take_length], ev_now ⟨0, fun k _ => by simp only [spec_l00Join.l0]; rw [if_neg (by omega)]⟩⟩)
    (fun j s hj hi => by
      have hbj := hb j (by omega)
      have hsz : s.size = (Lib.join ((ws.take j).map (·.data.toList)) sep.data.toList).length := by rw [hi]; show (Lib.join _ _).toArray.size = _; simp
      have hx : ws[j]? = some (ws.getD j ByteArray.empty) := by rw [List.getD_eq_getElem?_getD, List.getElem?_eq_getElem hj]; rfl
      have hwj : (ws.getD j ByteArray.empty).size ≤ 2147483650 := hw _ (List.mem_of_getElem? hx)
      have hrd : rdOf ByteArray.empty ws (j : Int) = ws.getD j ByteArray.empty := rfl
      have htk : ws.take (j + 1) = ws.take j ++ [ws.getD j ByteArray.empty] := by rw [List.take_add_one, hx]; rfl
      by_cases h0 : j = 0
      · subst h0
        refine .inr ⟨s ++ ws.getD 0 ByteArray.empty, ?_, fun r h => h, 0, fun k _ => ?_⟩
        · rw [htk, hi]
          apply ByteArray.ext
          simp [Lib.join_nil, Lib.join_one]
        · simp only [spec_l00Join.l0]
          rw [if_pos (by omega), if_neg (by omega), if_pos (by omega), hrd, if_pos (by omega), wsucc hj (by omega)]
      · refine .inr ⟨(s ++ sep) ++ ws.getD j ByteArray.empty, ?_, fun r h => h, 0, fun k _ => ?_⟩
        · rw [htk, List.map_append, List.map_cons, List.map_nil, join_snoc _ _ _ (by intro e; have := congrArg List.length e; rw [List.length_map, List.length_take, List.length_nil] at this; omega), hi]
          apply ByteArray.ext
          simp
        · simp only [spec_l00Join.l0]
          rw [if_pos (by omega), if_pos (by omega), if_pos (by omega), if_pos (by omega), hrd, if_pos (by rw [ByteArray.size_append]; omega), wsucc hj (by omega)]) 0 ⟨#[]⟩ (by omega) (by simp [Lib.join_nil])
  subst hr
  exact ev_same ⟨0, fun k _ => by unfold spec_l00Join.f; rfl⟩ he
theorem lib_join (ws : List ByteArray) (sep : ByteArray) (hn : ws.length ≤ 4096) (hs : sep.size ≤ 16) (hw : ∀ w ∈ ws, w.size ≤ 2147483650) :
    strings_Join.f ws sep = some ⟨(Lib.join (ws.map (·.data.toList)) sep.data.toList).toArray⟩ := by
  have h := join_le (ws.map (·.data.toList)) sep.data.toList 2147483650 (fun x hx => by
    obtain ⟨w, hw', rfl⟩ := List.mem_map.1 hx
    have := hw w hw'
    simpa using this)
  have hsl : sep.data.toList.length ≤ 16 := by simpa using hs
  rw [List.length_map] at h
  have := Nat.mul_le_mul_left ws.length hsl
  unfold strings_Join.f
  rw [if_pos ⟨by omega, by omega⟩]
/-! tokens joined -/
theorem sz_tokens (l : List S23) (a : Int) (h0 : 0 ≤ a) (h1 : a ≤ 1048576) (hl : l.length ≤ 9223372036854775807) (hx : ∀ x ∈ l, i23 x) :
    ∃ r, Ev (fun k => laws_szTokenS.f k l a) r ∧ (r < 0 ∨ 0 ≤ r ∧ r ≤ a ∧ l.length ≤ 1048576 ∧ ∀ x ∈ l, x.f2.size ≤ 1048576) := by
  have hw := wsub a l.length h0 h1 hl
  by_cases h : a - (l.length : Int) < 0
  · exact ⟨-1, ev_mk 0 (fun k _ => by unfold laws_szTokenS.f; rw [hw, if_pos h]), .inl (by omega)⟩
  · obtain ⟨r, he, hr⟩ := sz_loop l z23 (fun x => x.f2.size ≤ 1048576) (a - l.length) (by omega) (fun k s i => laws_szTokenS.l0 k l s i) (fun k s => by simp only [laws_szTokenS.l0]; rw [if_neg (by omega)]) (fun j hj s s0 s1 => by
      have hi := hx _ (getD_mem l z23 j hj)
      have hw' := wsub s (l.getD j z23).f2.size s0 (by omega) hi.2.2
      have hrd : rd_T23 l (j : Int) = l.getD j z23 := rfl
      by_cases h2 : s - ((l.getD j z23).f2.size : Int) < 0
      · exact ⟨-1, .inl (by omega), 0, fun k _ => by simp only [laws_szTokenS.l0, laws_szToken.f]; rw [if_pos (by omega), if_pos (by omega), hrd, hw', if_pos h2, Option.bind_some, if_pos (by omega), if_pos (by omega)]⟩
      · refine ⟨s - ((l.getD j z23).f2.size : Int), .inr ⟨by omega, by omega, ?_⟩, 0, fun k _ => by simp only [laws_szTokenS.l0, laws_szToken.f]; rw [if_pos (by omega), if_pos (by omega), hrd, hw', if_neg h2, Option.bind_some, if_neg (by omega), if_neg (by omega), wsucc hj (by omega)]⟩
        omega)
    refine ⟨r, ev_same ⟨0, fun k _ => by unfold laws_szTokenS.f; rw [hw, if_neg h]⟩ he, ?_⟩
    rcases hr with hr | ⟨h2, h3, h4⟩
    · exact .inl hr
    · exact .inr ⟨h2, by omega, by omega, h4⟩
def cvK (x : S23) : S27 := ⟨x.f0, x.f1, x.f2⟩
theorem to_tokens (l : List S23) (hl : l.length ≤ 1048576) : Ev (fun k => laws_toTokenS.f k l) (l.map cvK) := by
  have h := fill_loop l z23 cvK (fun k y i => laws_toTokenS.l0 k l y i) (fun y hy => ⟨0, fun k _ => by simp only [laws_toTokenS.l0]; rw [if_neg (by omega)]⟩)
    (fun j y hj hy => ⟨0, fun k _ => by
      simp only [laws_toTokenS.l0, laws_toToken.f]; rw [if_pos (by omega), if_pos (by omega)]; simp only [Option.bind_some]; rw [if_pos (by omega), wsucc hj (by omega)]; rfl⟩) (List.replicate l.length z27) (by simp)
  refine ev_same ⟨0, fun k _ => ?_⟩ h
  unfold laws_toTokenS.f
  rw [if_pos (by omega), if_pos (by simp; omega), Int.toNat_natCast]
theorem eq_tokens (l : List S27) (hl : l.length ≤ 1048576) : Ev (fun k => laws_eqTokenS.f k l l) true := by
  refine ev_same ⟨0, fun k _ => by unfold laws_eqTokenS.f; rw [if_pos rfl]⟩ (eq_loop (α := Unit) l.length (fun k i => laws_eqTokenS.l0 k l l i) (fun k => by simp only [laws_eqTokenS.l0]; rw [if_neg (by omega)]) fun j hj => ⟨0, fun k _ => ?_⟩)
  simp only [laws_eqTokenS.l0, laws_eqToken.f]; rw [if_pos (by omega), if_pos (by omega), if_pos (by omega)]; simp only [if_true, Option.bind_some]; rw [wsucc hj (by omega)]
/-- A token's text; of a wrong one nothing is said. -/
def txt (x : S27) : ByteArray := (impl_Token_text.f x.f0 x.f1 x.f2).getD ByteArray.empty
def Right (x : S27) : Prop := IsToken x.f0 x.f1 x.f2
theorem txt_of (x : S27) (hs : x.f2.size ≤ 1048576) (h : Right x) : Ev (fun k => spec_l01Text.f k x.f0 x.f1 x.f2) (txt x) ∧ impl_Token_text.f x.f0 x.f1 x.f2 = some (txt x) ∧ (txt x).size ≤ 2147483650 := by
  obtain ⟨t, e1, e2, hl⟩ := text_agree x.f0 x.f1 x.f2 hs h
  have e : txt x = t := by unfold txt; rw [e2]; rfl
  rw [e]
  exact ⟨e1, e2, hl⟩
theorem take_map (l : List S27) (j : Nat) (hj : j < l.length) : (l.take (j + 1)).map txt = (l.take j).map txt ++ [txt (l.getD j z27)] := by
  rw [List.take_add_one, List.getElem?_eq_getElem hj, List.getD_eq_getElem?_getD, List.getElem?_eq_getElem hj, List.map_append]
  rfl
def blank : ByteArray := ⟨#[32]⟩
theorem tokens_right (l : List S27) (hl : l.length ≤ 4000) (hs : ∀ x ∈ l, x.f2.size ≤ 1048576) (h : ∀ x ∈ l, Right x) :
    ∃ J, Ev (fun k => spec_JoinTokens.l0 k l [] 0) (J, 0) ∧ Ev (fun k => impl_joined.f k l) J := by
  have hsz : ∀ w ∈ l.map txt, w.size ≤ 2147483650 := fun w hw => by
    obtain ⟨x, hx, rfl⟩ := List.mem_map.1 hw
    exact (txt_of x (hs x hx) (h x hx)).2.2
  have hj := join_texts (l.map txt) blank (by rw [List.length_map]; omega) (by show 1 ≤ 16; omega) hsz
  have hk := lib_join (l.map txt) blank (by rw [List.length_map]; omega) (by show 1 ≤ 16; omega) hsz
  generalize (⟨(Lib.join ((l.map txt).map (·.data.toList)) blank.data.toList).toArray⟩ : ByteArray) = J at hj hk
  obtain ⟨K0, k0⟩ := ev_at hj
  refine ⟨J, ?_, ?_⟩
  · obtain ⟨r, hr, he⟩ := state_loop l.length (fun k s i => spec_JoinTokens.l0 k l s i) (fun j s => s = (l.take j).map txt) (fun _ _ r => r = (J, (0 : Int)))
      (fun s hi => ⟨(J, 0), rfl, by
        rw [List.take_length] at hi
        subst hi
        refine ev_mk (K0 + 1) fun k hk => ?_
        obtain ⟨m, rfl⟩ : ∃ m, k = m + 1 := ⟨k - 1, by omega⟩
        simp only [spec_JoinTokens.l0]
        rw [if_neg (by omega)]
        rw [show (⟨#[32]⟩ : ByteArray) = blank from rfl, k0 m (by omega)]
        rfl⟩)
      (fun j s hj' hi => by
        have hm := getD_mem l z27 j hj'
        obtain ⟨t, e1, _, e3⟩ := token_agree (l.getD j z27).f0 (l.getD j z27).f1 (l.getD j z27).f2 (hs _ hm)
        obtain ⟨K1, k1⟩ := ev_at e1
        obtain ⟨e4, _, _⟩ := txt_of _ (hs _ hm) (h _ hm)
        obtain ⟨K2, k2⟩ := ev_at e4
        have ht : t = true := e3.2 (h _ hm)
        subst ht
        have hrd : rd_T27 l (j : Int) = l.getD j z27 := rfl
        have hlen : s.length ≤ 4000 := by rw [hi, List.length_map, List.length_take]; omega
        refine .inr ⟨s ++ [txt (l.getD j z27)], by rw [take_map l j hj', hi], fun r h => h, K1 + K2, fun k hk => ?_⟩
        simp only [spec_JoinTokens.l0]
        rw [if_pos (by omega), if_pos (by omega), hrd, k1 k (by omega)]
        simp only [Option.bind_some, if_true]
        rw [k2 k (by omega)]
        simp only [Option.bind_some]
        rw [if_pos (by omega), wsucc hj' (by omega)]) 0 [] (by omega) (by simp)
    subst hr
    exact he
  · obtain ⟨r, hr, he⟩ := state_loop l.length (fun k s i => impl_joined.l0 k s l (l.length : Int) i) (fun j s => s = (l.take j).map txt) (fun _ _ r => r = J)
      (fun s hi => ⟨J, rfl, by
        rw [List.take_length] at hi
        subst hi
        refine ev_now ⟨0, fun k _ => ?_⟩
        simp only [impl_joined.l0]
        rw [if_neg (by omega)]
        rw [show (⟨#[32]⟩ : ByteArray) = blank from rfl, hk]
        rfl⟩)
      (fun j s hj' hi => by
        have hm := getD_mem l z27 j hj'
        obtain ⟨_, e4, _⟩ := txt_of _ (hs _ hm) (h _ hm)
        have hrd : rd_T27 l (j : Int) = l.getD j z27 := rfl
        have hlen : s.length ≤ 4000 := by rw [hi, List.length_map, List.length_take]; omega
        refine .inr ⟨s ++ [txt (l.getD j z27)], by rw [take_map l j hj', hi], fun r h => h, 0, fun k hk => ?_⟩
        simp only [impl_joined.l0]
        rw [if_pos (by omega), if_pos (by omega), if_pos (by omega), hrd, e4]
        simp only [Option.bind_some]
        rw [if_pos (by omega), wsucc hj' (by omega)]) 0 [] (by omega) (by simp)
    subst hr
    exact ev_same ⟨0, fun k _ => by unfold impl_joined.f; rfl⟩ he
theorem tokens_wrong (l : List S27) (hl : l.length ≤ 4000) (hs : ∀ x ∈ l, x.f2.size ≤ 1048576) (h : ∃ x ∈ l, ¬ Right x) :
    Ev (fun k => spec_JoinTokens.l0 k l [] 0) ((⟨#[]⟩ : ByteArray), 1) := by
  obtain ⟨x, hx, hw⟩ := h
  obtain ⟨q, hq, rfl⟩ := List.getElem_of_mem hx
  have hqd : l.getD q z27 = l[q] := by rw [List.getD_eq_getElem?_getD, List.getElem?_eq_getElem hq]; rfl
  obtain ⟨r, hr, he⟩ := state_loop l.length (fun k s i => spec_JoinTokens.l0 k l s i) (fun j s => j ≤ q ∧ s.length = j) (fun _ _ r => r = ((⟨#[]⟩ : ByteArray), (1 : Int)))
    (fun s hi => absurd hi.1 (by omega))
    (fun j s hj hi => by
      have hm := getD_mem l z27 j hj
      obtain ⟨t, e1, _, e3⟩ := token_agree (l.getD j z27).f0 (l.getD j z27).f1 (l.getD j z27).f2 (hs _ hm)
      obtain ⟨K1, k1⟩ := ev_at e1
      have hrd : rd_T27 l (j : Int) = l.getD j z27 := rfl
      cases t with
      | false =>
        refine .inl ⟨_, rfl, ev_now ⟨K1, fun k hk => ?_⟩⟩
        simp only [spec_JoinTokens.l0]
        rw [if_pos (by omega), if_pos (by omega), hrd, k1 k (by omega)]
        simp
      | true =>
        obtain ⟨e4, _, _⟩ := txt_of _ (hs _ hm) (e3.1 rfl)
        obtain ⟨K2, k2⟩ := ev_at e4
        have hne : j ≠ q := by
          rintro rfl
          rw [hqd] at e3
          exact hw (e3.1 rfl)
        refine .inr ⟨s ++ [txt (l.getD j z27)], ⟨by omega, by simp [hi.2]⟩, fun r h => h, K1 + K2, fun k hk => ?_⟩
        simp only [spec_JoinTokens.l0]
        rw [if_pos (by omega), if_pos (by omega), hrd, k1 k (by omega)]
        simp only [Option.bind_some, if_true]
        rw [k2 k (by omega)]
        simp only [Option.bind_some]
        rw [if_pos (by have := hi.2; omega), wsucc hj (by omega)]) 0 [] (by omega) ⟨by omega, rfl⟩
  subst hr
  exact he
theorem mapM_all {α : Type} (Q : Nat → α → Option Bool) : ∀ l : List α, (∀ x ∈ l, ∃ b, Ev (fun k => Q k x) b) → ∃ bs, Ev (fun k => l.mapM (Q k)) bs
  | [], _ => ⟨[], ev_mk 0 fun _ _ => rfl⟩
  | y :: ys, h => by
    obtain ⟨b, e1⟩ := h y (by simp)
    obtain ⟨bs, e2⟩ := mapM_all Q ys fun x hx => h x (List.mem_cons_of_mem _ hx)
    obtain ⟨K1, k1⟩ := ev_at e1
    obtain ⟨K2, k2⟩ := ev_at e2
    refine ⟨b :: bs, ev_mk (K1 + K2) fun k hk => ?_⟩
    rw [List.mapM_cons, k1 k (by omega), k2 k (by omega)]
    rfl
/-- Whether one of the tokens is wrong. -/
theorem any_wrong (l : List S27) (hs : ∀ x ∈ l, x.f2.size ≤ 1048576) : ∃ r, Ev (fun k => anyf25_26.f k l) r ∧ (r = true ↔ ∃ x ∈ l, ¬ Right x) := by
  have hq : ∀ x ∈ l, ∃ b, Ev (fun k => impl_JoinTokens_1.f k x.f0 x.f1 x.f2) b ∧ (b = true ↔ ¬ Right x) := fun x hx => by
    obtain ⟨t, _, e2, e3⟩ := token_agree x.f0 x.f1 x.f2 (hs x hx)
    obtain ⟨K1, k1⟩ := ev_at e2
    refine ⟨!t, ev_mk K1 fun k hk => by unfold impl_JoinTokens_1.f; rw [k1 k hk]; rfl, ?_⟩
    show _ ↔ ¬ IsToken _ _ _
    rw [← e3]
    cases t <;> simp
  obtain ⟨bs, eb⟩ := mapM_all (fun k x => impl_JoinTokens_1.f k x.f0 x.f1 x.f2) l fun x hx => by obtain ⟨b, h, _⟩ := hq x hx; exact ⟨b, h⟩
  obtain ⟨K, kb⟩ := ev_at eb
  refine ⟨bs.any id, ev_mk K fun k hk => by unfold anyf25_26.f; rw [kb k hk]; rfl, ?_⟩
  have hone : ∀ k, K ≤ k → (∀ x ∈ l, impl_JoinTokens_1.f k x.f0 x.f1 x.f2 = some ((impl_JoinTokens_1.f k x.f0 x.f1 x.f2).getD false)) ∧ bs.any id = l.any (fun x => (impl_JoinTokens_1.f k x.f0 x.f1 x.f2).getD false) := fun k hk => any_mapM _ l bs (kb k hk)
  constructor
  · intro h
    rw [(hone K (Nat.le_refl _)).2, List.any_eq_true] at h
    obtain ⟨x, hx, hb⟩ := h
    refine ⟨x, hx, ?_⟩
    obtain ⟨b, e, hbx⟩ := hq x hx
    obtain ⟨K2, k2⟩ := ev_at e
    have h1 := (hone (K + K2) (by omega)).1 x hx
    have h0 := (hone K (Nat.le_refl _)).1 x hx
    have hm : ∀ d, impl_JoinTokens_1.f (K + d) x.f0 x.f1 x.f2 = some true := by
      intro d
      induction d with
      | zero => rw [Nat.add_zero, h0, hb]
      | succ d ih => exact impl_JoinTokens_1.mono x.f0 x.f1 x.f2 (K + d) _ ih
    have := (hm K2).symm.trans (k2 (K + K2) (by omega))
    exact hbx.1 (Option.some.inj this).symm
  · rintro ⟨x, hx, hw⟩
    obtain ⟨b, e, hbx⟩ := hq x hx
    obtain ⟨K2, k2⟩ := ev_at e
    rw [(hone (K + K2) (by omega)).2, List.any_eq_true]
    refine ⟨x, hx, ?_⟩
    rw [k2 (K + K2) (by omega), hbx.2 hw]
    rfl
theorem join_agree (l : List S27) (hl : l.length ≤ 1048576) (hs : ∀ x ∈ l, x.f2.size ≤ 1048576) : ∃ r : ByteArray × Int, Ev (fun k => spec_JoinTokens.f k l) r ∧ Ev (fun k => impl_JoinTokens.f k l) r := by
  by_cases h1 : (l.length : Int) > 4096
  · exact ⟨((⟨#[]⟩ : ByteArray), 2), ev_mk 0 fun k _ => by unfold spec_JoinTokens.f; rw [if_pos h1], ev_mk 0 fun k _ => by
      unfold impl_JoinTokens.f impl_Token_24.f
      rw [show decide ((l.length : Int) ≤ 4096) = false from decide_eq_false (by omega)]
      rfl⟩
  · have hd : decide ((l.length : Int) ≤ 4096) = true := decide_eq_true (by omega)
    by_cases h2 : (l.length : Int) > 4000
    · exact ⟨((⟨#[]⟩ : ByteArray), 6), ev_mk 0 fun k _ => by unfold spec_JoinTokens.f; rw [if_neg h1, if_pos h2], ev_mk 0 fun k _ => by
        unfold impl_JoinTokens.f impl_Token_24.f
        rw [hd, Option.bind_some, if_pos rfl, if_pos h2]⟩
    · obtain ⟨b, eb, hb⟩ := any_wrong l hs
      obtain ⟨K1, k1⟩ := ev_at eb
      cases b with
      | true =>
        obtain ⟨K2, k2⟩ := ev_at (tokens_wrong l (by omega) hs (hb.1 rfl))
        exact ⟨((⟨#[]⟩ : ByteArray), 1), ev_mk K2 fun k hk => by unfold spec_JoinTokens.f; rw [if_neg h1, if_neg h2]; exact k2 k hk, ev_mk K1 fun k hk => by
          unfold impl_JoinTokens.f impl_Token_24.f
          rw [hd, Option.bind_some, if_pos rfl, if_neg h2, k1 k hk, Option.bind_some, if_pos rfl]⟩
      | false =>
        have hall : ∀ x ∈ l, Right x := fun x hx => Classical.byContradiction fun hn => by
          have := hb.2 ⟨x, hx, hn⟩
          cases this
        obtain ⟨J, e1, e2⟩ := tokens_right l (by omega) hs hall
        obtain ⟨K2, k2⟩ := ev_at e1
        obtain ⟨K3, k3⟩ := ev_at e2
        exact ⟨(J, 0), ev_mk K2 fun k hk => by unfold spec_JoinTokens.f; rw [if_neg h1, if_neg h2]; exact k2 k hk, ev_mk (K1 + K3) fun k hk => by
          unfold impl_JoinTokens.f impl_Token_24.f
          rw [hd, Option.bind_some, if_pos rfl, if_neg h2, k1 k (by omega), Option.bind_some, if_neg (by simp), k3 k (by omega)]
          rfl⟩
end Go.Proofs.YtolickgnncfmeaaDoor.Pure2
namespace Go.Proofs.YtolickgnncfmeaaDoor.Pure2
open Go.RowKit Go.Proofs.YtolickgnncfmeaaDoor.Q Go.Proofs.YtolickgnncfmeaaDoorW.PrintWords Go.Proofs.YtolickgnncfmeaaDoorW.PrintLast
set_option linter.unusedVariables false
set_option linter.unusedSimpArgs false
theorem FnExactJoinTokens : laws_FnExactJoinTokens.Pure2 := by
  intro y hy
  obtain ⟨r, he, hr⟩ := sz_tokens y 1048576 (by omega) (by omega) hy.1 hy.2
  refine Ev.rounds (r := true) ?_
  obtain ⟨K1, h1⟩ := ev_at he
  rcases hr with hr | ⟨_, _, hl, hs⟩
  · exact ev_mk K1 fun k hk => by unfold laws_FnExactJoinTokens.f; rw [h1 k hk, Option.bind_some, if_pos hr]
  · have hl' : (y.map cvK).length ≤ 1048576 := by rw [List.length_map]; exact hl
    have hs' : ∀ x ∈ y.map cvK, x.f2.size ≤ 1048576 := fun x hx => by
      obtain ⟨u, hu, rfl⟩ := List.mem_map.1 hx
      exact hs u hu
    obtain ⟨K2, h2⟩ := ev_at (to_tokens y hl)
    obtain ⟨⟨t, c⟩, e1, e2⟩ := join_agree (y.map cvK) hl' hs'
    obtain ⟨K3, h3⟩ := ev_at e1
    obtain ⟨K4, h4⟩ := ev_at e2
    obtain ⟨K5, h5⟩ := ev_at (eq_tokens (y.map cvK) hl')
    refine ev_mk (K1 + K2 + K3 + K4 + K5 + 1) fun k hk => ?_
    obtain ⟨m, rfl⟩ : ∃ m, k = m + 1 := ⟨k - 1, by omega⟩
    unfold laws_FnExactJoinTokens.f
    rw [h1 _ (by omega), Option.bind_some, if_neg (by omega), h2 _ (by omega), Option.bind_some, h3 _ (by omega), Option.bind_some, Option.bind_some, h4 _ (by omega)]
    simp only [Option.bind_some, if_true, bne_self_eq_false]
    simp only [laws_FnExactJoinTokens.j0]
    rw [if_neg (by simp), h2 _ (by omega), Option.bind_some, h5 _ (by omega)]
    rfl
end Go.Proofs.YtolickgnncfmeaaDoor.Pure2
