/- Texts of the claim on FnExactOutOK, gathered by a program of this session: what the program's functions compute (proved by walks), and the plain part. -/
import Derived.Test.YtfpkooafbeejmaaKFnExactOutOKc
import Derived.Test.YtfpkooafbeejmaaOpens
import Derived.KernelRfl
namespace Go.Proofs.Ytfpkooafbeejmaa.Q
open Go.RowKit Go.Proofs.YtfpkooafbeejmaaW.PrintWords Go.Proofs.YtfpkooafbeejmaaW.PrintLast Go.Proofs.YtfpkooafbeejmaaW.PrintMore
attribute [local go_sem] max2_int min2_int max_two min_two max_three min_three max_four min_four   -- for this text's walks alone
set_option linter.unusedVariables false
set_option linter.unusedSimpArgs false

/-! ### laws_FnExactOutOK: function 5 -/
def laws_FnExactOutOK.f (k : Nat) (a0_0 : Int) (a0_1 : Int) (a0_2 : ByteArray) (l0_3 : List ByteArray) (l0_4 : List (S41)) : Option (Bool) := (laws_szOut.f k a0_0 a0_1 a0_2 l0_3 l0_4 1048576).bind fun t102 => (if t102 < 0 then (some true) else ((laws_toOut.f k a0_0 a0_1 a0_2 l0_3 l0_4).bind fun bt103 => ((spec_OutOK.f k bt103.1 bt103.2.1 bt103.2.2.1 bt103.2.2.2.1 bt103.2.2.2.2).bind fun t112 => ((laws_toOut.f k a0_0 a0_1 a0_2 l0_3 l0_4).bind fun bt113 => ((impl_OutOK.f k bt113.1 bt113.2.1 bt113.2.2.1 bt113.2.2.2.1 bt113.2.2.2.2).bind fun t123 => (if (t123 != t112) = true then (none) else ((laws_toOut.f k a0_0 a0_1 a0_2 l0_3 l0_4).bind fun bt124 => ((laws_eqOut.f k bt113.1 bt113.2.1 bt113.2.2.1 bt113.2.2.2.1 bt113.2.2.2.2 bt124.1 bt124.2.1 bt124.2.2.1 bt124.2.2.2.1 bt124.2.2.2.2).bind fun t133 => (if t133 = true then (some true) else (none))))))))))
set_option maxHeartbeats 8000000 in
set_option maxRecDepth 100000 in
theorem laws_FnExactOutOK.calls (k : Nat) (a0_0 : Int) (a0_1 : Int) (a0_2 : ByteArray) (A0_3 : Option Addr) (c0_3 : Nat) (l0_3 : List ByteArray) (A0_4 : Option Addr) (c0_4 : Nat) (l0_4 : List (S41)) (r : Bool) (w : World) (hr0_3 : Kd.C Kd.string w A0_3 l0_3.length l0_3) (hc0_3 : l0_3.length ≤ c0_3) (hr0_4 : Kd.C k41 w A0_4 l0_4.length l0_4) (hc0_4 : l0_4.length ≤ c0_4) (h : laws_FnExactOutOK.f k a0_0 a0_1 a0_2 l0_3 l0_4 = some r) :
    Calls Try.prog 5 #[.agg #[.int .i64 a0_0, .int .i64 a0_1, .string a0_2, .slice A0_3 l0_3.length c0_3, .slice A0_4 l0_4.length c0_4]] w fun e w' => e = .returned (.bool r) ∧ Below w.heap.size w w' := by
  have hu41 := Try.underlying41
  have hu46 := Try.underlying46
  have HR0_3 := Aside0.mk hr0_3
  have HC0_3 := Aside0.mk hc0_3
  clear hr0_3 hc0_3
  have HR0_4 := Aside0.mk hr0_4
  have HC0_4 := Aside0.mk hc0_4
  clear hr0_4 hc0_4
  have HB := Aside0.mk (Below.refl w.heap.size w)
  have H : ((laws_szOut.f k a0_0 a0_1 a0_2 l0_3 l0_4 1048576).bind fun t102 => (if t102 < 0 then (some true) else ((laws_toOut.f k a0_0 a0_1 a0_2 l0_3 l0_4).bind fun bt103 => ((spec_OutOK.f k bt103.1 bt103.2.1 bt103.2.2.1 bt103.2.2.2.1 bt103.2.2.2.2).bind fun t112 => ((laws_toOut.f k a0_0 a0_1 a0_2 l0_3 l0_4).bind fun bt113 => ((impl_OutOK.f k bt113.1 bt113.2.1 bt113.2.2.1 bt113.2.2.2.1 bt113.2.2.2.2).bind fun t123 => (if (t123 != t112) = true then (none) else ((laws_toOut.f k a0_0 a0_1 a0_2 l0_3 l0_4).bind fun bt124 => ((laws_eqOut.f k bt113.1 bt113.2.1 bt113.2.2.1 bt113.2.2.2.1 bt113.2.2.2.2 bt124.1 bt124.2.1 bt124.2.2.1 bt124.2.2.2.1 bt124.2.2.2.2).bind fun t133 => (if t133 = true then (some true) else (none))))))))))) = some r := h
  clear h
  replace H := Option.bind_eq_some_iff.mp H
  obtain ⟨t102, A20, H⟩ := H
  replace H : (if t102 < 0 then (some true) else ((laws_toOut.f k a0_0 a0_1 a0_2 l0_3 l0_4).bind fun bt103 => ((spec_OutOK.f k bt103.1 bt103.2.1 bt103.2.2.1 bt103.2.2.2.1 bt103.2.2.2.2).bind fun t112 => ((laws_toOut.f k a0_0 a0_1 a0_2 l0_3 l0_4).bind fun bt113 => ((impl_OutOK.f k bt113.1 bt113.2.1 bt113.2.2.1 bt113.2.2.2.1 bt113.2.2.2.2).bind fun t123 => (if (t123 != t112) = true then (none) else ((laws_toOut.f k a0_0 a0_1 a0_2 l0_3 l0_4).bind fun bt124 => ((laws_eqOut.f k bt113.1 bt113.2.1 bt113.2.2.1 bt113.2.2.2.1 bt113.2.2.2.2 bt124.1 bt124.2.1 bt124.2.2.1 bt124.2.2.2.1 bt124.2.2.2.2).bind fun t133 => (if t133 = true then (some true) else (none)))))))))) = some r := H
  have A2 := Aside0.mk A20
  clear A20
  by_cases c3 : t102 < 0
  · rw [if_pos c3] at H
    have c3b0 : decide (t102 < 0) = true := decide_eq_true c3
    clear c3
    obtain rfl := Option.some.inj H
    go_enter Try.func5, Try.ntmps5
    go_wp2_with (first | ((with_reducible refine gate_dst (N := 1) rfl ?_); refine box_event ?hg (N := 1) ?hd (cs := #[.int .i64 a0_0, .int .i64 a0_1, .string a0_2, .slice A0_3 l0_3.length c0_3, .slice A0_4 l0_4.length c0_4]) (t := 41) ?hr ?_; (case hd => rfl); (case hg => rfl); (case hr => first | (go_simp; done) | (go_simp; rfl)); intro gb101 hg w4 hbox hb; have n0_ := Aside0.mk (below_step (by repeat (first | (with_reducible first | exact HB.out | apply below_alloc | apply pw_below_drewN | apply below_drew1) | exact HB.out)) hb); have n1_ := Aside0.mk (hbox); have n2_ := Aside0.mk ((by rw [hg]; exact (below_size (by repeat (first | (with_reducible first | exact HB.out | apply below_alloc | apply pw_below_drewN | apply below_drew1) | exact HB.out))) : w.heap.size ≤ gb101)); have n3_ := Aside0.mk ((by rw [hg]; exact (below_size (by repeat (first | (with_reducible first | exact HB.out | apply below_alloc | apply pw_below_drewN | apply below_drew1) | exact HB.out))) : w.heap.size ≤ gb101)); clear HB; have HB := n0_; have BK101 := n1_; have GW101 := n2_; have GE101 := n3_; clear n0_ n1_ n2_ n3_; clear hb hbox hg; have hcz5_0 : w4.cell? ⟨gb101, 0, none⟩ = some (.int .i64 a0_0) := (blk_cell BK101.out 0).trans rfl; have hcz5_1 : w4.cell? ⟨gb101, 1, none⟩ = some (.int .i64 a0_1) := (blk_cell BK101.out 1).trans rfl; have hcz5_2 : w4.cell? ⟨gb101, 2, none⟩ = some (.string a0_2) := (blk_cell BK101.out 2).trans rfl; have hcz5_3 : w4.cell? ⟨gb101, 3, none⟩ = some (.slice A0_3 l0_3.length c0_3) := (blk_cell BK101.out 3).trans rfl; have hcz5_4 : w4.cell? ⟨gb101, 4, none⟩ = some (.slice A0_4 l0_4.length c0_4) := (blk_cell BK101.out 4).trans rfl; have hfz5_0 := blk_frozen BK101.out 0; have hfz5_1 := blk_frozen BK101.out 1; have hfz5_2 := blk_frozen BK101.out 2; have hfz5_3 := blk_frozen BK101.out 3; have hfz5_4 := blk_frozen BK101.out 4) | ((with_reducible refine gate_callee (f := 21) rfl ?_); refine goesL_ (some 9) rfl rfl Try.func21 (by kernel_rfl) rfl #[.agg #[.int .i64 a0_0, .int .i64 a0_1, .string a0_2, .slice A0_3 l0_3.length c0_3, .slice A0_4 l0_4.length c0_4], .int .i64 1048576] rfl (by (try simp only [List.map_toArray, List.map_cons, List.map_nil]); first | done | rfl | (simp only [List.length_drop, List.length_take]; rfl)) ?_; (with_reducible refine (laws_szOut.calls k a0_0 a0_1 a0_2 _ _ l0_3 _ _ l0_4 1048576 t102 _ ?side1 ?side2 ?side3 ?side4 A2.out).mono ?_); (case side1 => repeat (first | exact (Kd.C_below HR0_3.out HB.out) | (with_reducible refine Kd.C_alloc ?_ _) | (with_reducible refine Kd.C_drewN ?_ _) | (with_reducible refine Kd.C_drew ?_))); (case side2 => exact HC0_3.out); (case side3 => repeat (first | exact (Kd.C_below HR0_4.out HB.out) | (with_reducible refine Kd.C_alloc ?_ _) | (with_reducible refine Kd.C_drewN ?_ _) | (with_reducible refine Kd.C_drew ?_))); (case side4 => exact HC0_4.out); rintro e w6 ⟨rfl, hb⟩; refine ⟨_, rfl, ?_⟩; have n0_ := Aside0.mk (blk_below (g := gb101) (o := .cells #[.int .i64 a0_0, .int .i64 a0_1, .string a0_2, .slice A0_3 l0_3.length c0_3, .slice A0_4 l0_4.length c0_4] 41 (0, 0)) (by (with_reducible repeat (first | refine blk_drewN ?_ _ | refine blk_drew ?_ | refine blk_alloc ?_ _)); exact BK101.out) hb); have n1_ := Aside0.mk (below_step (by repeat (first | (with_reducible first | exact HB.out | apply below_alloc | apply pw_below_drewN | apply below_drew1 | refine below_set ?_ GE101.out) | exact HB.out)) hb); clear BK101; clear HB; have BK101 := n0_; have HB := n1_; clear n0_ n1_; (try clear hb); (try clear hb2); (try clear hk); (try clear hi)))
    go_ret
    exact ⟨by first | rfl | (simp [errW_none, errW_some] <;> rfl) | (simp [*, errW_none, errW_some] <;> rfl), by repeat (first | (with_reducible first | exact HB.out | apply below_alloc | apply pw_below_drewN | apply below_drew1 | refine below_set ?_ GE101.out) | exact HB.out)⟩
  · rw [if_neg c3] at H
    have c3b0 : decide (t102 < 0) = false := decide_eq_false c3
    clear c3
    replace H := Option.bind_eq_some_iff.mp H
    obtain ⟨⟨t103, t104, t105, t106, t109⟩, A70, H⟩ := H
    replace H : ((spec_OutOK.f k t103 t104 t105 t106 t109).bind fun t112 => ((laws_toOut.f k a0_0 a0_1 a0_2 l0_3 l0_4).bind fun bt113 => ((impl_OutOK.f k bt113.1 bt113.2.1 bt113.2.2.1 bt113.2.2.2.1 bt113.2.2.2.2).bind fun t123 => (if (t123 != t112) = true then (none) else ((laws_toOut.f k a0_0 a0_1 a0_2 l0_3 l0_4).bind fun bt124 => ((laws_eqOut.f k bt113.1 bt113.2.1 bt113.2.2.1 bt113.2.2.2.1 bt113.2.2.2.2 bt124.1 bt124.2.1 bt124.2.2.1 bt124.2.2.2.1 bt124.2.2.2.2).bind fun t133 => (if t133 = true then (some true) else (none)))))))) = some r := H
    have A7 := Aside0.mk A70
    clear A70
    replace H := Option.bind_eq_some_iff.mp H
    obtain ⟨t112, A80, H⟩ := H
    replace H : ((laws_toOut.f k a0_0 a0_1 a0_2 l0_3 l0_4).bind fun bt113 => ((impl_OutOK.f k bt113.1 bt113.2.1 bt113.2.2.1 bt113.2.2.2.1 bt113.2.2.2.2).bind fun t123 => (if (t123 != t112) = true then (none) else ((laws_toOut.f k a0_0 a0_1 a0_2 l0_3 l0_4).bind fun bt124 => ((laws_eqOut.f k bt113.1 bt113.2.1 bt113.2.2.1 bt113.2.2.2.1 bt113.2.2.2.2 bt124.1 bt124.2.1 bt124.2.2.1 bt124.2.2.2.1 bt124.2.2.2.2).bind fun t133 => (if t133 = true then (some true) else (none))))))) = some r := H
    have A8 := Aside0.mk A80
    clear A80
    replace H := Option.bind_eq_some_iff.mp H
    obtain ⟨⟨t113, t114, t115, t116, t119⟩, A90, H⟩ := H
    replace H : ((impl_OutOK.f k t113 t114 t115 t116 t119).bind fun t123 => (if (t123 != t112) = true then (none) else ((laws_toOut.f k a0_0 a0_1 a0_2 l0_3 l0_4).bind fun bt124 => ((laws_eqOut.f k t113 t114 t115 t116 t119 bt124.1 bt124.2.1 bt124.2.2.1 bt124.2.2.2.1 bt124.2.2.2.2).bind fun t133 => (if t133 = true then (some true) else (none)))))) = some r := H
    have A9 := Aside0.mk A90
    clear A90
    replace H := Option.bind_eq_some_iff.mp H
    obtain ⟨t123, A100, H⟩ := H
    replace H : (if (t123 != t112) = true then (none) else ((laws_toOut.f k a0_0 a0_1 a0_2 l0_3 l0_4).bind fun bt124 => ((laws_eqOut.f k t113 t114 t115 t116 t119 bt124.1 bt124.2.1 bt124.2.2.1 bt124.2.2.2.1 bt124.2.2.2.2).bind fun t133 => (if t133 = true then (some true) else (none))))) = some r := H
    have A10 := Aside0.mk A100
    clear A100
    by_cases c11 : (t123 != t112) = true
    · rw [if_pos c11] at H
      exact absurd H (by simp)
    · rw [if_neg c11] at H
      have c11b0 : (t123 != t112) = false := by simpa using c11
      (try (have c11b1 : decide (t123 = t112) = true := by simpa using c11))
      (try (have c11b2 : (t123 == t112) = true := by simpa using c11))
      clear c11
      replace H := Option.bind_eq_some_iff.mp H
      obtain ⟨⟨t124, t125, t126, t127, t130⟩, A120, H⟩ := H
      replace H : ((laws_eqOut.f k t113 t114 t115 t116 t119 t124 t125 t126 t127 t130).bind fun t133 => (if t133 = true then (some true) else (none))) = some r := H
      have A12 := Aside0.mk A120
      clear A120
      replace H := Option.bind_eq_some_iff.mp H
      obtain ⟨t133, A130, H⟩ := H
      replace H : (if t133 = true then (some true) else (none)) = some r := H
      have A13 := Aside0.mk A130
      clear A130
      by_cases c14 : t133 = true
      · subst c14
        have H1 : (some true) = some r := by rw [if_pos rfl] at H; exact H
        clear H
        have H := H1
        clear H1
        obtain rfl := Option.some.inj H
        go_enter Try.func5, Try.ntmps5
        try go_wp2_with (first | ((with_reducible refine gate_dst (N := 1) rfl ?_); refine box_event ?hg (N := 1) ?hd (cs := #[.int .i64 a0_0, .int .i64 a0_1, .string a0_2, .slice A0_3 l0_3.length c0_3, .slice A0_4 l0_4.length c0_4]) (t := 41) ?hr ?_; (case hd => rfl); (case hg => rfl); (case hr => first | (go_simp; done) | (go_simp; rfl)); intro gb101 hg w15 hbox hb; have n0_ := Aside0.mk (below_step (by repeat (first | (with_reducible first | exact HB.out | apply below_alloc | apply pw_below_drewN | apply below_drew1) | exact HB.out)) hb); have n1_ := Aside0.mk (hbox); have n2_ := Aside0.mk ((by rw [hg]; exact (below_size (by repeat (first | (with_reducible first | exact HB.out | apply below_alloc | apply pw_below_drewN | apply below_drew1) | exact HB.out))) : w.heap.size ≤ gb101)); have n3_ := Aside0.mk ((by rw [hg]; exact (below_size (by repeat (first | (with_reducible first | exact HB.out | apply below_alloc | apply pw_below_drewN | apply below_drew1) | exact HB.out))) : w.heap.size ≤ gb101)); clear HB; have HB := n0_; have BK101 := n1_; have GW101 := n2_; have GE101 := n3_; clear n0_ n1_ n2_ n3_; clear hb hbox hg; have hcz16_0 : w15.cell? ⟨gb101, 0, none⟩ = some (.int .i64 a0_0) := (blk_cell BK101.out 0).trans rfl; have hcz16_1 : w15.cell? ⟨gb101, 1, none⟩ = some (.int .i64 a0_1) := (blk_cell BK101.out 1).trans rfl; have hcz16_2 : w15.cell? ⟨gb101, 2, none⟩ = some (.string a0_2) := (blk_cell BK101.out 2).trans rfl; have hcz16_3 : w15.cell? ⟨gb101, 3, none⟩ = some (.slice A0_3 l0_3.length c0_3) := (blk_cell BK101.out 3).trans rfl; have hcz16_4 : w15.cell? ⟨gb101, 4, none⟩ = some (.slice A0_4 l0_4.length c0_4) := (blk_cell BK101.out 4).trans rfl; have hfz16_0 := blk_frozen BK101.out 0; have hfz16_1 := blk_frozen BK101.out 1; have hfz16_2 := blk_frozen BK101.out 2; have hfz16_3 := blk_frozen BK101.out 3; have hfz16_4 := blk_frozen BK101.out 4) | ((with_reducible refine gate_callee (f := 21) rfl ?_); refine goesL_ (some 9) rfl rfl Try.func21 (by kernel_rfl) rfl #[.agg #[.int .i64 a0_0, .int .i64 a0_1, .string a0_2, .slice A0_3 l0_3.length c0_3, .slice A0_4 l0_4.length c0_4], .int .i64 1048576] rfl (by (try simp only [List.map_toArray, List.map_cons, List.map_nil]); first | done | rfl | (simp only [List.length_drop, List.length_take]; rfl)) ?_; (with_reducible refine (laws_szOut.calls k a0_0 a0_1 a0_2 _ _ l0_3 _ _ l0_4 1048576 t102 _ ?side1 ?side2 ?side3 ?side4 A2.out).mono ?_); (case side1 => repeat (first | exact (Kd.C_below HR0_3.out HB.out) | (with_reducible refine Kd.C_alloc ?_ _) | (with_reducible refine Kd.C_drewN ?_ _) | (with_reducible refine Kd.C_drew ?_))); (case side2 => exact HC0_3.out); (case side3 => repeat (first | exact (Kd.C_below HR0_4.out HB.out) | (with_reducible refine Kd.C_alloc ?_ _) | (with_reducible refine Kd.C_drewN ?_ _) | (with_reducible refine Kd.C_drew ?_))); (case side4 => exact HC0_4.out); rintro e w17 ⟨rfl, hb⟩; refine ⟨_, rfl, ?_⟩; have n0_ := Aside0.mk (blk_below (g := gb101) (o := .cells #[.int .i64 a0_0, .int .i64 a0_1, .string a0_2, .slice A0_3 l0_3.length c0_3, .slice A0_4 l0_4.length c0_4] 41 (0, 0)) (by (with_reducible repeat (first | refine blk_drewN ?_ _ | refine blk_drew ?_ | refine blk_alloc ?_ _)); exact BK101.out) hb); have n1_ := Aside0.mk (below_step (by repeat (first | (with_reducible first | exact HB.out | apply below_alloc | apply pw_below_drewN | apply below_drew1 | refine below_set ?_ GE101.out) | exact HB.out)) hb); clear BK101; clear HB; have BK101 := n0_; have HB := n1_; clear n0_ n1_; (try clear hb); (try clear hb2); (try clear hk); (try clear hi); have hcz18_0 : w17.cell? ⟨gb101, 0, none⟩ = some (.int .i64 a0_0) := (blk_cell BK101.out 0).trans rfl; have hcz18_1 : w17.cell? ⟨gb101, 1, none⟩ = some (.int .i64 a0_1) := (blk_cell BK101.out 1).trans rfl; have hcz18_2 : w17.cell? ⟨gb101, 2, none⟩ = some (.string a0_2) := (blk_cell BK101.out 2).trans rfl; have hcz18_3 : w17.cell? ⟨gb101, 3, none⟩ = some (.slice A0_3 l0_3.length c0_3) := (blk_cell BK101.out 3).trans rfl; have hcz18_4 : w17.cell? ⟨gb101, 4, none⟩ = some (.slice A0_4 l0_4.length c0_4) := (blk_cell BK101.out 4).trans rfl; have hfz18_0 := blk_frozen BK101.out 0; have hfz18_1 := blk_frozen BK101.out 1; have hfz18_2 := blk_frozen BK101.out 2; have hfz18_3 := blk_frozen BK101.out 3; have hfz18_4 := blk_frozen BK101.out 4) | ((with_reducible refine gate_callee (f := 23) rfl ?_); refine goesL_ (some 13) rfl rfl Try.func23 (by kernel_rfl) rfl #[.agg #[.int .i64 a0_0, .int .i64 a0_1, .string a0_2, .slice A0_3 l0_3.length c0_3, .slice A0_4 l0_4.length c0_4]] rfl (by (try simp only [List.map_toArray, List.map_cons, List.map_nil]); first | done | rfl | (simp only [List.length_drop, List.length_take]; rfl)) ?_; (with_reducible refine (laws_toOut.calls k a0_0 a0_1 a0_2 _ _ l0_3 _ _ l0_4 t103 t104 t105 t106 t109 _ ?side1 ?side2 ?side3 ?side4 A7.out).mono ?_); (case side1 => repeat (first | exact (Kd.C_below HR0_3.out HB.out) | (with_reducible refine Kd.C_alloc ?_ _) | (with_reducible refine Kd.C_drewN ?_ _) | (with_reducible refine Kd.C_drew ?_))); (case side2 => exact HC0_3.out); (case side3 => repeat (first | exact (Kd.C_below HR0_4.out HB.out) | (with_reducible refine Kd.C_alloc ?_ _) | (with_reducible refine Kd.C_drewN ?_ _) | (with_reducible refine Kd.C_drew ?_))); (case side4 => exact HC0_4.out); rintro e w19 ⟨v107, v110, rfl, ho0, ho1, hb⟩; refine ⟨_, rfl, ?_⟩; have n0_ := Aside0.mk (Kd.R_lower ho0 (below_size (by repeat (first | (with_reducible first | exact HB.out | apply below_alloc | apply pw_below_drewN | apply below_drew1 | refine below_set ?_ GE101.out) | exact HB.out)))); have n1_ := Aside0.mk (Kd.R_lower ho1 (below_size (by repeat (first | (with_reducible first | exact HB.out | apply below_alloc | apply pw_below_drewN | apply below_drew1 | refine below_set ?_ GE101.out) | exact HB.out)))); have n2_ := Aside0.mk (blk_below (g := gb101) (o := .cells #[.int .i64 a0_0, .int .i64 a0_1, .string a0_2, .slice A0_3 l0_3.length c0_3, .slice A0_4 l0_4.length c0_4] 41 (0, 0)) (by (with_reducible repeat (first | refine blk_drewN ?_ _ | refine blk_drew ?_ | refine blk_alloc ?_ _)); exact BK101.out) hb); have n3_ := Aside0.mk (below_step (by repeat (first | (with_reducible first | exact HB.out | apply below_alloc | apply pw_below_drewN | apply below_drew1 | refine below_set ?_ GE101.out) | exact HB.out)) hb); clear BK101; clear HB; have HO108 := n0_; have HO111 := n1_; have BK101 := n2_; have HB := n3_; clear n0_ n1_ n2_ n3_; (try clear hb); (try clear hb2); (try clear hk); (try clear hi); (try clear ho0); (try clear ho1); obtain ⟨Ao20, co20, eo20⟩ := Kd.R_slice HO108.out; subst eo20; obtain ⟨Ao21, co21, eo21⟩ := Kd.R_slice HO111.out; subst eo21) | ((with_reducible refine gate_callee (f := 22) rfl ?_); refine goesL_ (some 14) rfl rfl Try.func22 (by kernel_rfl) rfl #[.agg #[.int .i64 t103, .int .i64 t104, .string t105, .slice Ao20 t106.length co20, .slice Ao21 t109.length co21]] rfl (by (try simp only [List.map_toArray, List.map_cons, List.map_nil]); first | done | rfl | (simp only [List.length_drop, List.length_take]; rfl)) ?_; (with_reducible refine (spec_OutOK.calls k t103 t104 t105 _ _ t106 _ _ t109 t112 _ ?side1 ?side2 ?side3 ?side4 A8.out).mono ?_); (case side1 => repeat (first | exact (Kd.R_reads' HO108.out).2.2 | (with_reducible refine Kd.C_alloc ?_ _) | (with_reducible refine Kd.C_drewN ?_ _) | (with_reducible refine Kd.C_drew ?_))); (case side2 => exact (Kd.R_reads' HO108.out).2.1); (case side3 => repeat (first | exact (Kd.R_reads' HO111.out).2.2 | (with_reducible refine Kd.C_alloc ?_ _) | (with_reducible refine Kd.C_drewN ?_ _) | (with_reducible refine Kd.C_drew ?_))); (case side4 => exact (Kd.R_reads' HO111.out).2.1); rintro e w22 ⟨rfl, hb⟩; refine ⟨_, rfl, ?_⟩; have n0_ := Aside0.mk (Kd.R_below (by (with_reducible repeat (first | apply Kd.R_alloc | apply Kd.R_drewN | apply Kd.R_drew)); exact HO108.out) hb); have n1_ := Aside0.mk (Kd.R_below (by (with_reducible repeat (first | apply Kd.R_alloc | apply Kd.R_drewN | apply Kd.R_drew)); exact HO111.out) hb); have n2_ := Aside0.mk (blk_below (g := gb101) (o := .cells #[.int .i64 a0_0, .int .i64 a0_1, .string a0_2, .slice A0_3 l0_3.length c0_3, .slice A0_4 l0_4.length c0_4] 41 (0, 0)) (by (with_reducible repeat (first | refine blk_drewN ?_ _ | refine blk_drew ?_ | refine blk_alloc ?_ _)); exact BK101.out) hb); have n3_ := Aside0.mk (below_step (by repeat (first | (with_reducible first | exact HB.out | apply below_alloc | apply pw_below_drewN | apply below_drew1 | refine below_set ?_ GE101.out) | exact HB.out)) hb); clear HO108; clear HO111; clear BK101; clear HB; have HO108 := n0_; have HO111 := n1_; have BK101 := n2_; have HB := n3_; clear n0_ n1_ n2_ n3_; (try clear hb); (try clear hb2); (try clear hk); (try clear hi); have hcz23_0 : w22.cell? ⟨gb101, 0, none⟩ = some (.int .i64 a0_0) := (blk_cell BK101.out 0).trans rfl; have hcz23_1 : w22.cell? ⟨gb101, 1, none⟩ = some (.int .i64 a0_1) := (blk_cell BK101.out 1).trans rfl; have hcz23_2 : w22.cell? ⟨gb101, 2, none⟩ = some (.string a0_2) := (blk_cell BK101.out 2).trans rfl; have hcz23_3 : w22.cell? ⟨gb101, 3, none⟩ = some (.slice A0_3 l0_3.length c0_3) := (blk_cell BK101.out 3).trans rfl; have hcz23_4 : w22.cell? ⟨gb101, 4, none⟩ = some (.slice A0_4 l0_4.length c0_4) := (blk_cell BK101.out 4).trans rfl; have hfz23_0 := blk_frozen BK101.out 0; have hfz23_1 := blk_frozen BK101.out 1; have hfz23_2 := blk_frozen BK101.out 2; have hfz23_3 := blk_frozen BK101.out 3; have hfz23_4 := blk_frozen BK101.out 4) | ((with_reducible refine gate_callee (f := 23) rfl ?_); refine goesL_ (some 16) rfl rfl Try.func23 (by kernel_rfl) rfl #[.agg #[.int .i64 a0_0, .int .i64 a0_1, .string a0_2, .slice A0_3 l0_3.length c0_3, .slice A0_4 l0_4.length c0_4]] rfl (by (try simp only [List.map_toArray, List.map_cons, List.map_nil]); first | done | rfl | (simp only [List.length_drop, List.length_take]; rfl)) ?_; (with_reducible refine (laws_toOut.calls k a0_0 a0_1 a0_2 _ _ l0_3 _ _ l0_4 t113 t114 t115 t116 t119 _ ?side1 ?side2 ?side3 ?side4 A9.out).mono ?_); (case side1 => repeat (first | exact (Kd.C_below HR0_3.out HB.out) | (with_reducible refine Kd.C_alloc ?_ _) | (with_reducible refine Kd.C_drewN ?_ _) | (with_reducible refine Kd.C_drew ?_))); (case side2 => exact HC0_3.out); (case side3 => repeat (first | exact (Kd.C_below HR0_4.out HB.out) | (with_reducible refine Kd.C_alloc ?_ _) | (with_reducible refine Kd.C_drewN ?_ _) | (with_reducible refine Kd.C_drew ?_))); (case side4 => exact HC0_4.out); rintro e w24 ⟨v117, v120, rfl, ho0, ho1, hb⟩; refine ⟨_, rfl, ?_⟩; have n0_ := Aside0.mk (Kd.R_elder' (by (with_reducible repeat (first | apply Kd.R_alloc | apply Kd.R_drewN | apply Kd.R_drew)); exact HO108.out) (Kd.R_base ho0) hb); have n1_ := Aside0.mk (Kd.R_mono (Kd.R_told (Kd.R_told (Kd.R_old (by (with_reducible repeat (first | apply Kd.R_alloc | apply Kd.R_drewN | apply Kd.R_drew)); exact HO111.out) hb) (Kd.R_base ho0)) (Kd.R_base ho1)) (fun _ h_ => h_.1)); have n2_ := Aside0.mk (Kd.R_lower (Kd.R_new' ho0 (Kd.R_lt (by (with_reducible repeat (first | apply Kd.R_alloc | apply Kd.R_drewN | apply Kd.R_drew)); exact HO108.out))) (below_size (by repeat (first | (with_reducible first | exact HB.out | apply below_alloc | apply pw_below_drewN | apply below_drew1 | refine below_set ?_ GE101.out) | exact HB.out)))); have n3_ := Aside0.mk (Kd.R_lower (Kd.R_new' (Kd.R_new' ho1 (Kd.R_lt (by (with_reducible repeat (first | apply Kd.R_alloc | apply Kd.R_drewN | apply Kd.R_drew)); exact HO108.out))) (Kd.R_lt (by (with_reducible repeat (first | apply Kd.R_alloc | apply Kd.R_drewN | apply Kd.R_drew)); exact HO111.out))) (below_size (by repeat (first | (with_reducible first | exact HB.out | apply below_alloc | apply pw_below_drewN | apply below_drew1 | refine below_set ?_ GE101.out) | exact HB.out)))); have n4_ := Aside0.mk (blk_below (g := gb101) (o := .cells #[.int .i64 a0_0, .int .i64 a0_1, .string a0_2, .slice A0_3 l0_3.length c0_3, .slice A0_4 l0_4.length c0_4] 41 (0, 0)) (by (with_reducible repeat (first | refine blk_drewN ?_ _ | refine blk_drew ?_ | refine blk_alloc ?_ _)); exact BK101.out) hb); have n5_ := Aside0.mk (below_step (by repeat (first | (with_reducible first | exact HB.out | apply below_alloc | apply pw_below_drewN | apply below_drew1 | refine below_set ?_ GE101.out) | exact HB.out)) hb); clear HO108; clear HO111; clear BK101; clear HB; have HO108 := n0_; have HO111 := n1_; have HO118 := n2_; have HO121 := n3_; have BK101 := n4_; have HB := n5_; clear n0_ n1_ n2_ n3_ n4_ n5_; (try clear hb); (try clear hb2); (try clear hk); (try clear hi); (try clear ho0); (try clear ho1)) | ((with_reducible refine gate_dst (N := 5) rfl ?_); refine box_event ?hg (N := 5) ?hd (cs := #[.int .i64 0, .int .i64 0, .string (⟨#[]⟩ : ByteArray), .slice none 0 0, .slice none 0 0]) (t := 46) ?hr ?_; (case hd => rfl); (case hg => rfl); (case hr => first | (go_simp; done) | (go_simp; rfl)); intro gb122 hg w25 hbox hb; have n0_ := Aside0.mk (Kd.R_below (by (with_reducible repeat (first | apply Kd.R_alloc | apply Kd.R_drewN | apply Kd.R_drew)); exact HO108.out) hb); have n1_ := Aside0.mk (Kd.R_below (Kd.R_elderB (by (with_reducible repeat (first | apply Kd.R_alloc | apply Kd.R_drewN | apply Kd.R_drew)); exact HO111.out) gb122 (Nat.le_of_eq hg.symm)) hb); have n2_ := Aside0.mk (Kd.R_below (by (with_reducible repeat (first | apply Kd.R_alloc | apply Kd.R_drewN | apply Kd.R_drew)); exact HO118.out) hb); have n3_ := Aside0.mk (Kd.R_below (Kd.R_elderB (by (with_reducible repeat (first | apply Kd.R_alloc | apply Kd.R_drewN | apply Kd.R_drew)); exact HO121.out) gb122 (Nat.le_of_eq hg.symm)) hb); have n4_ := Aside0.mk (blk_below (g := gb101) (o := .cells #[.int .i64 a0_0, .int .i64 a0_1, .string a0_2, .slice A0_3 l0_3.length c0_3, .slice A0_4 l0_4.length c0_4] 41 (0, 0)) (by (with_reducible repeat (first | refine blk_drewN ?_ _ | refine blk_drew ?_ | refine blk_alloc ?_ _)); exact BK101.out) hb); have n5_ := Aside0.mk (below_step (by repeat (first | (with_reducible first | exact HB.out | apply below_alloc | apply pw_below_drewN | apply below_drew1 | refine below_set ?_ GE101.out) | exact HB.out)) hb); have n6_ := Aside0.mk (hbox); have n7_ := Aside0.mk ((by rw [hg]; exact (below_size (by repeat (first | (with_reducible first | exact HB.out | apply below_alloc | apply pw_below_drewN | apply below_drew1 | refine below_set ?_ GE101.out) | exact HB.out))) : w.heap.size ≤ gb122)); have n8_ := Aside0.mk ((by rw [hg]; exact (below_size (by repeat (first | (with_reducible first | exact HB.out | apply below_alloc | apply pw_below_drewN | apply below_drew1 | refine below_set ?_ GE101.out) | exact HB.out))) : w.heap.size ≤ gb122)); have n9_ := Aside0.mk ((by rw [hg]; exact Nat.ne_of_lt (blk_lt (g := gb101) (o := .cells #[.int .i64 a0_0, .int .i64 a0_1, .string a0_2, .slice A0_3 l0_3.length c0_3, .slice A0_4 l0_4.length c0_4] 41 (0, 0)) (by (with_reducible repeat (first | refine blk_drewN ?_ _ | refine blk_drew ?_ | refine blk_alloc ?_ _)); exact BK101.out)) : gb101 ≠ gb122)); have n10_ := Aside0.mk ((by rw [hg]; exact Nat.ne_of_gt (blk_lt (g := gb101) (o := .cells #[.int .i64 a0_0, .int .i64 a0_1, .string a0_2, .slice A0_3 l0_3.length c0_3, .slice A0_4 l0_4.length c0_4] 41 (0, 0)) (by (with_reducible repeat (first | refine blk_drewN ?_ _ | refine blk_drew ?_ | refine blk_alloc ?_ _)); exact BK101.out)) : gb122 ≠ gb101)); clear HO108; clear HO111; clear HO118; clear HO121; clear BK101; clear HB; have HO108 := n0_; have HO111 := n1_; have HO118 := n2_; have HO121 := n3_; have BK101 := n4_; have HB := n5_; have BK122 := n6_; have GW122 := n7_; have GE122 := n8_; have NB101_122 := n9_; have NB122_101 := n10_; clear n0_ n1_ n2_ n3_ n4_ n5_ n6_ n7_ n8_ n9_ n10_; clear hb hbox hg; have hnb26 := NB122_101.out; have hnc26 := NB101_122.out; have hcz27_0 : w25.cell? ⟨gb122, 0, none⟩ = some (.int .i64 0) := (blk_cell BK122.out 0).trans rfl; have hcz27_1 : w25.cell? ⟨gb122, 1, none⟩ = some (.int .i64 0) := (blk_cell BK122.out 1).trans rfl; have hcz27_2 : w25.cell? ⟨gb122, 2, none⟩ = some (.string (⟨#[]⟩ : ByteArray)) := (blk_cell BK122.out 2).trans rfl; have hcz27_3 : w25.cell? ⟨gb122, 3, none⟩ = some (.slice none 0 0) := (blk_cell BK122.out 3).trans rfl; have hcz27_4 : w25.cell? ⟨gb122, 4, none⟩ = some (.slice none 0 0) := (blk_cell BK122.out 4).trans rfl; have hfz27_0 := blk_frozen BK122.out 0; have hfz27_1 := blk_frozen BK122.out 1; have hfz27_2 := blk_frozen BK122.out 2; have hfz27_3 := blk_frozen BK122.out 3; have hfz27_4 := blk_frozen BK122.out 4; obtain ⟨Ao28, co28, eo28⟩ := Kd.R_slice HO118.out; subst eo28; obtain ⟨Ao29, co29, eo29⟩ := Kd.R_slice HO121.out; subst eo29) | ((with_reducible refine gate_callee (f := 24) rfl ?_); refine goesL_ (some 18) rfl rfl Try.func24 (by kernel_rfl) rfl #[.agg #[.int .i64 t113, .int .i64 t114, .string t115, .slice Ao28 t116.length co28, .slice Ao29 t119.length co29]] rfl (by (try simp only [List.map_toArray, List.map_cons, List.map_nil]); first | done | rfl | (simp only [List.length_drop, List.length_take]; rfl)) ?_; (with_reducible refine (impl_OutOK.calls k t113 t114 t115 _ _ t116 _ _ t119 t123 _ ?side1 ?side2 ?side3 ?side4 A10.out).mono ?_); (case side1 => refine (Kd.R_reads' (e := 9) (base := w.heap.size) (ok := fun k_ => (True ∧ some k_ ≠ (.slice Ao20 t106.length co20 : Value).ownBlock)) (n := t116.length) (c := co28) ?_).2.2; exact (by (with_reducible repeat (first | apply Kd.R_alloc | apply Kd.R_drewN | apply Kd.R_drew)); exact (Kd.R_mono (Kd.R_far (p := ⟨gb122, 4, none⟩) (Kd.R_far (p := ⟨gb122, 3, none⟩) (Kd.R_far (p := ⟨gb122, 2, none⟩) (Kd.R_far (p := ⟨gb122, 1, none⟩) (Kd.R_far (p := ⟨gb122, 0, none⟩) (Kd.R_types HO118.out BK122.out (by decide)) (fun _ hk => hk.2) (.int .i64 t113)) (fun _ hk => hk.2) (.int .i64 t114)) (fun _ hk => hk.2) (.string t115)) (fun _ hk => hk.2) (.slice Ao28 t116.length co28)) (fun _ hk => hk.2) (.slice Ao29 t119.length co29)) (fun _ h_ => h_.1)))); (case side2 => exact (Kd.R_reads' HO118.out).2.1); (case side3 => refine (Kd.R_reads' (e := 46) (base := w.heap.size) (ok := fun k_ => (((some k_ ≠ (.slice Ao28 t116.length co28 : Value).ownBlock ∧ some k_ ≠ (.slice Ao20 t106.length co20 : Value).ownBlock) ∧ some k_ ≠ (.slice Ao21 t109.length co21 : Value).ownBlock) ∧ k_ ≠ gb122)) (n := t119.length) (c := co29) ?_).2.2; exact (by (with_reducible repeat (first | apply Kd.R_alloc | apply Kd.R_drewN | apply Kd.R_drew)); exact (Kd.R_mono (Kd.R_far (p := ⟨gb122, 4, none⟩) (Kd.R_far (p := ⟨gb122, 3, none⟩) (Kd.R_far (p := ⟨gb122, 2, none⟩) (Kd.R_far (p := ⟨gb122, 1, none⟩) (Kd.R_far (p := ⟨gb122, 0, none⟩) (Kd.R_mono HO121.out (fun k_ hk => (⟨hk, hk.2⟩ : _ ∧ k_ ≠ gb122))) (fun _ hk => hk.2) (.int .i64 t113)) (fun _ hk => hk.2) (.int .i64 t114)) (fun _ hk => hk.2) (.string t115)) (fun _ hk => hk.2) (.slice Ao28 t116.length co28)) (fun _ hk => hk.2) (.slice Ao29 t119.length co29)) (fun _ h_ => h_.1)))); (case side4 => exact (Kd.R_reads' HO121.out).2.1); rintro e w30 ⟨rfl, hb⟩; refine ⟨_, rfl, ?_⟩; have n0_ := Aside0.mk (Kd.R_below (by (with_reducible repeat (first | apply Kd.R_alloc | apply Kd.R_drewN | apply Kd.R_drew)); exact (Kd.R_mono (Kd.R_far (p := ⟨gb122, 4, none⟩) (Kd.R_far (p := ⟨gb122, 3, none⟩) (Kd.R_far (p := ⟨gb122, 2, none⟩) (Kd.R_far (p := ⟨gb122, 1, none⟩) (Kd.R_far (p := ⟨gb122, 0, none⟩) (Kd.R_types HO108.out BK122.out (by decide)) (fun _ hk => hk.2) (.int .i64 t113)) (fun _ hk => hk.2) (.int .i64 t114)) (fun _ hk => hk.2) (.string t115)) (fun _ hk => hk.2) (.slice Ao28 t116.length co28)) (fun _ hk => hk.2) (.slice Ao29 t119.length co29)) (fun _ h_ => h_.1))) hb); have n1_ := Aside0.mk (Kd.R_below (by (with_reducible repeat (first | apply Kd.R_alloc | apply Kd.R_drewN | apply Kd.R_drew)); exact (Kd.R_mono (Kd.R_far (p := ⟨gb122, 4, none⟩) (Kd.R_far (p := ⟨gb122, 3, none⟩) (Kd.R_far (p := ⟨gb122, 2, none⟩) (Kd.R_far (p := ⟨gb122, 1, none⟩) (Kd.R_far (p := ⟨gb122, 0, none⟩) (Kd.R_mono HO111.out (fun k_ hk => (⟨hk, hk.2⟩ : _ ∧ k_ ≠ gb122))) (fun _ hk => hk.2) (.int .i64 t113)) (fun _ hk => hk.2) (.int .i64 t114)) (fun _ hk => hk.2) (.string t115)) (fun _ hk => hk.2) (.slice Ao28 t116.length co28)) (fun _ hk => hk.2) (.slice Ao29 t119.length co29)) (fun _ h_ => h_.1))) hb); have n2_ := Aside0.mk (Kd.R_below (by (with_reducible repeat (first | apply Kd.R_alloc | apply Kd.R_drewN | apply Kd.R_drew)); exact (Kd.R_mono (Kd.R_far (p := ⟨gb122, 4, none⟩) (Kd.R_far (p := ⟨gb122, 3, none⟩) (Kd.R_far (p := ⟨gb122, 2, none⟩) (Kd.R_far (p := ⟨gb122, 1, none⟩) (Kd.R_far (p := ⟨gb122, 0, none⟩) (Kd.R_types HO118.out BK122.out (by decide)) (fun _ hk => hk.2) (.int .i64 t113)) (fun _ hk => hk.2) (.int .i64 t114)) (fun _ hk => hk.2) (.string t115)) (fun _ hk => hk.2) (.slice Ao28 t116.length co28)) (fun _ hk => hk.2) (.slice Ao29 t119.length co29)) (fun _ h_ => h_.1))) hb); have n3_ := Aside0.mk (Kd.R_below (by (with_reducible repeat (first | apply Kd.R_alloc | apply Kd.R_drewN | apply Kd.R_drew)); exact (Kd.R_mono (Kd.R_far (p := ⟨gb122, 4, none⟩) (Kd.R_far (p := ⟨gb122, 3, none⟩) (Kd.R_far (p := ⟨gb122, 2, none⟩) (Kd.R_far (p := ⟨gb122, 1, none⟩) (Kd.R_far (p := ⟨gb122, 0, none⟩) (Kd.R_mono HO121.out (fun k_ hk => (⟨hk, hk.2⟩ : _ ∧ k_ ≠ gb122))) (fun _ hk => hk.2) (.int .i64 t113)) (fun _ hk => hk.2) (.int .i64 t114)) (fun _ hk => hk.2) (.string t115)) (fun _ hk => hk.2) (.slice Ao28 t116.length co28)) (fun _ hk => hk.2) (.slice Ao29 t119.length co29)) (fun _ h_ => h_.1))) hb); have n4_ := Aside0.mk (blk_below (g := gb101) (o := .cells #[.int .i64 a0_0, .int .i64 a0_1, .string a0_2, .slice A0_3 l0_3.length c0_3, .slice A0_4 l0_4.length c0_4] 41 (0, 0)) (by (with_reducible repeat (first | refine blk_drewN ?_ _ | refine blk_drew ?_ | refine blk_alloc ?_ _)); refine blk_far ?_ NB101_122.out _; (with_reducible repeat (first | refine blk_drewN ?_ _ | refine blk_drew ?_ | refine blk_alloc ?_ _)); refine blk_far ?_ NB101_122.out _; (with_reducible repeat (first | refine blk_drewN ?_ _ | refine blk_drew ?_ | refine blk_alloc ?_ _)); refine blk_far ?_ NB101_122.out _; (with_reducible repeat (first | refine blk_drewN ?_ _ | refine blk_drew ?_ | refine blk_alloc ?_ _)); refine blk_far ?_ NB101_122.out _; (with_reducible repeat (first | refine blk_drewN ?_ _ | refine blk_drew ?_ | refine blk_alloc ?_ _)); refine blk_far ?_ NB101_122.out _; (with_reducible repeat (first | refine blk_drewN ?_ _ | refine blk_drew ?_ | refine blk_alloc ?_ _)); exact BK101.out) hb); have n5_ := Aside0.mk (blk_below (g := gb122) (o := .cells #[.int .i64 t113, .int .i64 t114, .string t115, .slice Ao28 t116.length co28, .slice Ao29 t119.length co29] 46 (0, 0)) (by (with_reducible repeat (first | refine blk_drewN ?_ _ | refine blk_drew ?_ | refine blk_alloc ?_ _)); refine blk_put (cs := #[.int .i64 t113, .int .i64 t114, .string t115, .slice Ao28 t116.length co28, .slice none 0 0]) ?_ 4 _ rfl; (with_reducible repeat (first | refine blk_drewN ?_ _ | refine blk_drew ?_ | refine blk_alloc ?_ _)); refine blk_put (cs := #[.int .i64 t113, .int .i64 t114, .string t115, .slice none 0 0, .slice none 0 0]) ?_ 3 _ rfl; (with_reducible repeat (first | refine blk_drewN ?_ _ | refine blk_drew ?_ | refine blk_alloc ?_ _)); refine blk_put (cs := #[.int .i64 t113, .int .i64 t114, .string (⟨#[]⟩ : ByteArray), .slice none 0 0, .slice none 0 0]) ?_ 2 _ rfl; (with_reducible repeat (first | refine blk_drewN ?_ _ | refine blk_drew ?_ | refine blk_alloc ?_ _)); refine blk_put (cs := #[.int .i64 t113, .int .i64 0, .string (⟨#[]⟩ : ByteArray), .slice none 0 0, .slice none 0 0]) ?_ 1 _ rfl; (with_reducible repeat (first | refine blk_drewN ?_ _ | refine blk_drew ?_ | refine blk_alloc ?_ _)); refine blk_put (cs := #[.int .i64 0, .int .i64 0, .string (⟨#[]⟩ : ByteArray), .slice none 0 0, .slice none 0 0]) ?_ 0 _ rfl; (with_reducible repeat (first | refine blk_drewN ?_ _ | refine blk_drew ?_ | refine blk_alloc ?_ _)); exact BK122.out) hb); have n6_ := Aside0.mk (below_step (by repeat (first | (with_reducible first | exact HB.out | apply below_alloc | apply pw_below_drewN | apply below_drew1 | refine below_set ?_ GE101.out | refine below_set ?_ GE122.out) | exact HB.out)) hb); clear HO108; clear HO111; clear HO118; clear HO121; clear BK101; clear BK122; clear HB; have HO108 := n0_; have HO111 := n1_; have HO118 := n2_; have HO121 := n3_; have BK101 := n4_; have BK122 := n5_; have HB := n6_; clear n0_ n1_ n2_ n3_ n4_ n5_ n6_; (try clear hb); (try clear hb2); (try clear hk); (try clear hi)))
        have n0_ := Aside0.mk (Kd.R_drew HO108.out)
        have n1_ := Aside0.mk (Kd.R_drew HO111.out)
        have n2_ := Aside0.mk (Kd.R_drew HO118.out)
        have n3_ := Aside0.mk (Kd.R_drew HO121.out)
        have n4_ := Aside0.mk (blk_drew BK101.out)
        have n5_ := Aside0.mk (blk_drew BK122.out)
        have n6_ := Aside0.mk (below_drew1 HB.out)
        clear HO108
        clear HO111
        clear HO118
        clear HO121
        clear BK101
        clear BK122
        clear HB
        have HO108 := n0_
        have HO111 := n1_
        have HO118 := n2_
        have HO121 := n3_
        have BK101 := n4_
        have BK122 := n5_
        have HB := n6_
        clear n0_ n1_ n2_ n3_ n4_ n5_ n6_
        refine start_ (n := 5) (S := fun w' => w'.cell? ⟨gb122, 0, none⟩ = some (.int .i64 t113) ∧ w'.cell? ⟨gb122, 1, none⟩ = some (.int .i64 t114) ∧ w'.cell? ⟨gb122, 2, none⟩ = some (.string t115) ∧ w'.cell? ⟨gb122, 3, none⟩ = some (.slice Ao28 t116.length co28) ∧ w'.cell? ⟨gb122, 4, none⟩ = some (.slice Ao29 t119.length co29) ∧ w'.cell? ⟨gb101, 0, none⟩ = some (.int .i64 a0_0) ∧ w'.cell? ⟨gb101, 1, none⟩ = some (.int .i64 a0_1) ∧ w'.cell? ⟨gb101, 2, none⟩ = some (.string a0_2) ∧ w'.cell? ⟨gb101, 3, none⟩ = some (.slice A0_3 l0_3.length c0_3) ∧ w'.cell? ⟨gb101, 4, none⟩ = some (.slice A0_4 l0_4.length c0_4)) (ds := []) #[false, false, false, false, false] (by kernel_rfl) rfl rfl ⟨(blk_cell BK122.out 0).trans rfl, (blk_cell BK122.out 1).trans rfl, (blk_cell BK122.out 2).trans rfl, (blk_cell BK122.out 3).trans rfl, (blk_cell BK122.out 4).trans rfl, (blk_cell BK101.out 0).trans rfl, (blk_cell BK101.out 1).trans rfl, (blk_cell BK101.out 2).trans rfl, (blk_cell BK101.out 3).trans rfl, (blk_cell BK101.out 4).trans rfl⟩ (fun hHeld => ?_)
        generalize w30.drew = w31 at HO108 HO111 HO118 HO121 BK101 BK122 HB hHeld ⊢
        refine take_ (i := 0) (N := some 22) (v := ?_) (a' := ?_) #[true, false, false, false, false] rfl rfl (by kernel_rfl) (fun _ _ _ h => h) (Or.inl ⟨by rfl, ?_⟩) hHeld ?_ ?_
        rotate_left
        · rintro w' ⟨s0, s1, s2, s3, s4, s5, s6, s7, s8, s9⟩
          go_simp
          with_reducible rfl
        rotate_left
        · simp only [Act.put, List.setIfInBounds_toArray, List.set_cons_zero, List.set_cons_succ, i64_w, i32_w]
          rfl
        refine take_ (i := 1) (N := some 23) (v := ?_) (a' := ?_) #[true, true, false, false, false] rfl rfl (by kernel_rfl) (fun _ _ _ h => h) (Or.inl ⟨by rfl, ?_⟩) hHeld ?_ ?_
        rotate_left
        · rintro w' ⟨s0, s1, s2, s3, s4, s5, s6, s7, s8, s9⟩
          go_simp
          with_reducible rfl
        rotate_left
        · simp only [Act.put, List.setIfInBounds_toArray, List.set_cons_zero, List.set_cons_succ, i64_w, i32_w]
          rfl
        refine one_ (i := 2) (N := some 24) #[true, true, true, false, false] rfl rfl (by kernel_rfl) (by decide) (fun K hK => ?_)
        refine goes_ Try.func23 (by kernel_rfl) rfl #[.agg #[.int .i64 a0_0, .int .i64 a0_1, .string a0_2, .slice A0_3 l0_3.length c0_3, .slice A0_4 l0_4.length c0_4]] (by rfl) rfl rfl (by (try simp only [List.map_toArray, List.map_cons, List.map_nil]); first | done | rfl | (simp only [List.length_drop, List.length_take]; rfl)) ?_
        with_reducible refine (laws_toOut.calls k a0_0 a0_1 a0_2 _ _ l0_3 _ _ l0_4 t124 t125 t126 t127 t130 _ ?side1 ?side2 ?side3 ?side4 A12.out).mono ?_
        (case side1 => repeat (first | exact (Kd.C_below HR0_3.out HB.out) | (with_reducible refine Kd.C_alloc ?_ _) | (with_reducible refine Kd.C_drewN ?_ _) | (with_reducible refine Kd.C_drew ?_)))
        (case side2 => exact HC0_3.out)
        (case side3 => repeat (first | exact (Kd.C_below HR0_4.out HB.out) | (with_reducible refine Kd.C_alloc ?_ _) | (with_reducible refine Kd.C_drewN ?_ _) | (with_reducible refine Kd.C_drew ?_)))
        (case side4 => exact HC0_4.out)
        rintro e w32 ⟨v128, v131, rfl, ho0, ho1, hb⟩
        refine ⟨_, rfl, ?_⟩
        have n0_ := Aside0.mk (Kd.R_elder' (by (with_reducible repeat (first | apply Kd.R_alloc | apply Kd.R_drewN | apply Kd.R_drew)); exact HO108.out) (Kd.R_base ho0) hb)
        have n1_ := Aside0.mk (Kd.R_mono (Kd.R_told (Kd.R_told (Kd.R_old (by (with_reducible repeat (first | apply Kd.R_alloc | apply Kd.R_drewN | apply Kd.R_drew)); exact HO111.out) hb) (Kd.R_base ho0)) (Kd.R_base ho1)) (fun _ h_ => h_.1))
        have n2_ := Aside0.mk (Kd.R_elder' (by (with_reducible repeat (first | apply Kd.R_alloc | apply Kd.R_drewN | apply Kd.R_drew)); exact HO118.out) (Kd.R_base ho0) hb)
        have n3_ := Aside0.mk (Kd.R_mono (Kd.R_told (Kd.R_told (Kd.R_old (by (with_reducible repeat (first | apply Kd.R_alloc | apply Kd.R_drewN | apply Kd.R_drew)); exact HO121.out) hb) (Kd.R_base ho0)) (Kd.R_base ho1)) (fun _ h_ => h_.1))
        have n4_ := Aside0.mk (Kd.R_lower (Kd.R_new' (Kd.R_new' ho0 (Kd.R_lt (by (with_reducible repeat (first | apply Kd.R_alloc | apply Kd.R_drewN | apply Kd.R_drew)); exact HO108.out))) (Kd.R_lt (by (with_reducible repeat (first | apply Kd.R_alloc | apply Kd.R_drewN | apply Kd.R_drew)); exact HO118.out))) (below_size (by repeat (first | (with_reducible first | exact HB.out | apply below_alloc | apply pw_below_drewN | apply below_drew1 | refine below_set ?_ GE101.out | refine below_set ?_ GE122.out) | exact HB.out))))
        have n5_ := Aside0.mk (Kd.R_lower (Kd.R_newB (Kd.R_new' (Kd.R_new' (Kd.R_new' (Kd.R_new' ho1 (Kd.R_lt (by (with_reducible repeat (first | apply Kd.R_alloc | apply Kd.R_drewN | apply Kd.R_drew)); exact HO108.out))) (Kd.R_lt (by (with_reducible repeat (first | apply Kd.R_alloc | apply Kd.R_drewN | apply Kd.R_drew)); exact HO111.out))) (Kd.R_lt (by (with_reducible repeat (first | apply Kd.R_alloc | apply Kd.R_drewN | apply Kd.R_drew)); exact HO118.out))) (Kd.R_lt (by (with_reducible repeat (first | apply Kd.R_alloc | apply Kd.R_drewN | apply Kd.R_drew)); exact HO121.out))) (g := gb122) (o := .cells #[.int .i64 t113, .int .i64 t114, .string t115, .slice Ao28 t116.length co28, .slice Ao29 t119.length co29] 46 (0, 0)) (by (with_reducible repeat (first | refine blk_drewN ?_ _ | refine blk_drew ?_ | refine blk_alloc ?_ _)); exact BK122.out)) (below_size (by repeat (first | (with_reducible first | exact HB.out | apply below_alloc | apply pw_below_drewN | apply below_drew1 | refine below_set ?_ GE101.out | refine below_set ?_ GE122.out) | exact HB.out))))
        have n6_ := Aside0.mk (blk_below (g := gb101) (o := .cells #[.int .i64 a0_0, .int .i64 a0_1, .string a0_2, .slice A0_3 l0_3.length c0_3, .slice A0_4 l0_4.length c0_4] 41 (0, 0)) (by (with_reducible repeat (first | refine blk_drewN ?_ _ | refine blk_drew ?_ | refine blk_alloc ?_ _)); exact BK101.out) hb)
        have n7_ := Aside0.mk (blk_below (g := gb122) (o := .cells #[.int .i64 t113, .int .i64 t114, .string t115, .slice Ao28 t116.length co28, .slice Ao29 t119.length co29] 46 (0, 0)) (by (with_reducible repeat (first | refine blk_drewN ?_ _ | refine blk_drew ?_ | refine blk_alloc ?_ _)); exact BK122.out) hb)
        have n8_ := Aside0.mk (below_step (by repeat (first | (with_reducible first | exact HB.out | apply below_alloc | apply pw_below_drewN | apply below_drew1 | refine below_set ?_ GE101.out | refine below_set ?_ GE122.out) | exact HB.out)) hb)
        clear HO108
        clear HO111
        clear HO118
        clear HO121
        clear BK101
        clear BK122
        clear HB
        have HO108 := n0_
        have HO111 := n1_
        have HO118 := n2_
        have HO121 := n3_
        have HO129 := n4_
        have HO132 := n5_
        have BK101 := n6_
        have BK122 := n7_
        have HB := n8_
        clear n0_ n1_ n2_ n3_ n4_ n5_ n6_ n7_ n8_
        (try clear hb)
        (try clear hb2)
        (try clear hk)
        (try clear hi)
        (try clear ho0)
        (try clear ho1)
        obtain ⟨Ao33, co33, eo33⟩ := Kd.R_slice HO129.out
        (first | subst eo33 | (injection eo33 with f1_ f2_ f3_; have f4_ := f1_.symm; have f5_ := f3_.symm; clear f1_ f2_ f3_; subst f4_; subst f5_))
        obtain ⟨Ao34, co34, eo34⟩ := Kd.R_slice HO132.out
        (first | subst eo34 | (injection eo34 with f1_ f2_ f3_; have f4_ := f1_.symm; have f5_ := f3_.symm; clear f1_ f2_ f3_; subst f4_; subst f5_))
        refine hK.out _ _ ⟨(blk_cell BK122.out 0).trans rfl, (blk_cell BK122.out 1).trans rfl, (blk_cell BK122.out 2).trans rfl, (blk_cell BK122.out 3).trans rfl, (blk_cell BK122.out 4).trans rfl, (blk_cell BK101.out 0).trans rfl, (blk_cell BK101.out 1).trans rfl, (blk_cell BK101.out 2).trans rfl, (blk_cell BK101.out 3).trans rfl, (blk_cell BK101.out 4).trans rfl⟩ (fun hHeld => ?_)
        clear hK K
        refine norm_ (a' := ?_) ?_ ?_
        rotate_left
        · show Act.put _ (some 24) _ = _
          simp only [Act.put, List.setIfInBounds_toArray, List.set_cons_zero, List.set_cons_succ, i64_w, i32_w]
          rfl
        refine one_ (i := 3) (N := some 25) #[true, true, true, true, false] rfl rfl (by kernel_rfl) (by decide) (fun K hK => ?_)
        refine goes_ Try.func25 (by kernel_rfl) rfl #[.agg #[.int .i64 t113, .int .i64 t114, .string t115, .slice Ao28 t116.length co28, .slice Ao29 t119.length co29], .agg #[.int .i64 t124, .int .i64 t125, .string t126, .slice Ao33 t127.length co33, .slice Ao34 t130.length co34]] (by rfl) rfl rfl (by (try simp only [List.map_toArray, List.map_cons, List.map_nil]); first | done | rfl | (simp only [List.length_drop, List.length_take]; rfl)) ?_
        with_reducible refine (laws_eqOut.calls k t113 t114 t115 _ _ t116 _ _ t119 t124 t125 t126 _ _ t127 _ _ t130 true _ ?side1 ?side2 ?side3 ?side4 ?side5 ?side6 ?side7 ?side8 A13.out).mono ?_
        (case side1 => repeat (first | exact (Kd.R_reads' HO118.out).2.2 | (with_reducible refine Kd.C_alloc ?_ _) | (with_reducible refine Kd.C_drewN ?_ _) | (with_reducible refine Kd.C_drew ?_)))
        (case side2 => exact (Kd.R_reads' HO118.out).2.1)
        (case side3 => repeat (first | exact (Kd.R_reads' HO121.out).2.2 | (with_reducible refine Kd.C_alloc ?_ _) | (with_reducible refine Kd.C_drewN ?_ _) | (with_reducible refine Kd.C_drew ?_)))
        (case side4 => exact (Kd.R_reads' HO121.out).2.1)
        (case side5 => repeat (first | exact (Kd.R_reads' HO129.out).2.2 | (with_reducible refine Kd.C_alloc ?_ _) | (with_reducible refine Kd.C_drewN ?_ _) | (with_reducible refine Kd.C_drew ?_)))
        (case side6 => exact (Kd.R_reads' HO129.out).2.1)
        (case side7 => repeat (first | exact (Kd.R_reads' HO132.out).2.2 | (with_reducible refine Kd.C_alloc ?_ _) | (with_reducible refine Kd.C_drewN ?_ _) | (with_reducible refine Kd.C_drew ?_)))
        (case side8 => exact (Kd.R_reads' HO132.out).2.1)
        rintro e w35 ⟨rfl, hb⟩
        refine ⟨_, rfl, ?_⟩
        have n0_ := Aside0.mk (Kd.R_below (by (with_reducible repeat (first | apply Kd.R_alloc | apply Kd.R_drewN | apply Kd.R_drew)); exact HO108.out) hb)
        have n1_ := Aside0.mk (Kd.R_below (by (with_reducible repeat (first | apply Kd.R_alloc | apply Kd.R_drewN | apply Kd.R_drew)); exact HO111.out) hb)
        have n2_ := Aside0.mk (Kd.R_below (by (with_reducible repeat (first | apply Kd.R_alloc | apply Kd.R_drewN | apply Kd.R_drew)); exact HO118.out) hb)
        have n3_ := Aside0.mk (Kd.R_below (by (with_reducible repeat (first | apply Kd.R_alloc | apply Kd.R_drewN | apply Kd.R_drew)); exact HO121.out) hb)
        have n4_ := Aside0.mk (Kd.R_below (by (with_reducible repeat (first | apply Kd.R_alloc | apply Kd.R_drewN | apply Kd.R_drew)); exact HO129.out) hb)
        have n5_ := Aside0.mk (Kd.R_below (by (with_reducible repeat (first | apply Kd.R_alloc | apply Kd.R_drewN | apply Kd.R_drew)); exact HO132.out) hb)
        have n6_ := Aside0.mk (blk_below (g := gb101) (o := .cells #[.int .i64 a0_0, .int .i64 a0_1, .string a0_2, .slice A0_3 l0_3.length c0_3, .slice A0_4 l0_4.length c0_4] 41 (0, 0)) (by (with_reducible repeat (first | refine blk_drewN ?_ _ | refine blk_drew ?_ | refine blk_alloc ?_ _)); exact BK101.out) hb)
        have n7_ := Aside0.mk (blk_below (g := gb122) (o := .cells #[.int .i64 t113, .int .i64 t114, .string t115, .slice Ao28 t116.length co28, .slice Ao29 t119.length co29] 46 (0, 0)) (by (with_reducible repeat (first | refine blk_drewN ?_ _ | refine blk_drew ?_ | refine blk_alloc ?_ _)); exact BK122.out) hb)
        have n8_ := Aside0.mk (below_step (by repeat (first | (with_reducible first | exact HB.out | apply below_alloc | apply pw_below_drewN | apply below_drew1 | refine below_set ?_ GE101.out | refine below_set ?_ GE122.out) | exact HB.out)) hb)
        clear HO108
        clear HO111
        clear HO118
        clear HO121
        clear HO129
        clear HO132
        clear BK101
        clear BK122
        clear HB
        have HO108 := n0_
        have HO111 := n1_
        have HO118 := n2_
        have HO121 := n3_
        have HO129 := n4_
        have HO132 := n5_
        have BK101 := n6_
        have BK122 := n7_
        have HB := n8_
        clear n0_ n1_ n2_ n3_ n4_ n5_ n6_ n7_ n8_
        (try clear hb)
        (try clear hb2)
        (try clear hk)
        (try clear hi)
        refine hK.out _ _ ⟨(blk_cell BK122.out 0).trans rfl, (blk_cell BK122.out 1).trans rfl, (blk_cell BK122.out 2).trans rfl, (blk_cell BK122.out 3).trans rfl, (blk_cell BK122.out 4).trans rfl, (blk_cell BK101.out 0).trans rfl, (blk_cell BK101.out 1).trans rfl, (blk_cell BK101.out 2).trans rfl, (blk_cell BK101.out 3).trans rfl, (blk_cell BK101.out 4).trans rfl⟩ (fun hHeld => ?_)
        clear hK K
        refine norm_ (a' := ?_) ?_ ?_
        rotate_left
        · show Act.put _ (some 25) _ = _
          simp only [Act.put, List.setIfInBounds_toArray, List.set_cons_zero, List.set_cons_succ, i64_w, i32_w]
          rfl
        refine pure_ (i := 4) (N := some 26) (v := ?_) (a' := ?_) #[true, true, true, true, true] rfl rfl (by kernel_rfl) (fun _ _ _ h => h) (Or.inl ⟨by rfl, ?_⟩) ?_ ?_
        rotate_left
        · intro w'
          go_simp
          with_reducible rfl
        rotate_left
        · simp only [Act.put, List.setIfInBounds_toArray, List.set_cons_zero, List.set_cons_succ, i64_w, i32_w]
          rfl
        refine done_ (by kernel_rfl) ?_
        try go_wp2
        go_ret
        exact ⟨by first | rfl | (simp [errW_none, errW_some] <;> rfl) | (simp [*, errW_none, errW_some] <;> rfl), by repeat (first | (with_reducible first | exact HB.out | apply below_alloc | apply pw_below_drewN | apply below_drew1 | refine below_set ?_ GE101.out | refine below_set ?_ GE122.out) | exact HB.out)⟩
      · replace c14 := Bool.eq_false_iff.mpr c14
        subst c14
        have H1 : (none) = some r := by rw [if_neg (show ¬ (false = true) by decide)] at H; exact H
        clear H
        have H := H1
        clear H1
        exact absurd H (by simp)

end Go.Proofs.Ytfpkooafbeejmaa.Q
namespace Go.Proofs.Ytfpkooafbeejmaa.Q
open Go.RowKit Go.Proofs.YtfpkooafbeejmaaW.PrintWords Go.Proofs.Ytfpkooafbeejmaa.Opens
set_option linter.unusedVariables false
def i41n : Nat → S41 → Prop
  | 0 => fun _ => False
  | n + 1 => fun x => (Lit.int .i64 x.f0).wf = true ∧ (Lit.int .i64 x.f1).wf = true ∧ x.f2.size ≤ 9223372036854775807 ∧ (x.f3.length ≤ 9223372036854775807 ∧ ∀ y1_ ∈ x.f3, y1_.size ≤ 9223372036854775807) ∧ (x.f4.length ≤ 9223372036854775807 ∧ ∀ y1_ ∈ x.f4, i41n n y1_)
def i41 (x : S41) : Prop := ∃ n, i41n n x
theorem o41n : ∀ m, OpensL m Try.prog 41 (Kd.upto F41 5 [9, 41] m) (i41n m)
  | 0 => opensL_none Try.underlying41
  | m + 1 => opensL_struct (N := 5) Try.underlying41 (by kernel_rfl) (opensFL_cons rfl (by kernel_rfl) (Opens.lim (opens_int Try.underlying3) m) (opensFL_cons rfl (by kernel_rfl) (Opens.lim (opens_int Try.underlying3) m) (opensFL_cons rfl (by kernel_rfl) (Opens.lim (opens_string Try.underlying9) m) (opensFL_cons rfl (by kernel_rfl) (Opens.lim (opens_slice Try.underlying38 (by kernel_rfl) (opens_string Try.underlying9)) m) (opensFL_one rfl rfl (by kernel_rfl) (opensL_slice Try.underlying39 (by rw [sz41]; kernel_rfl) (o41n m))))))) (fun y => ⟨y.1, y.2.1, y.2.2.1, y.2.2.2.1, y.2.2.2.2⟩) (fun _ => rfl)
theorem o41 : Opens Try.prog 41 k41 i41 := opens_fix o41n
end Go.Proofs.Ytfpkooafbeejmaa.Q
namespace Go.Proofs.Ytfpkooafbeejmaa.Q
open Go.RowKit Go.Proofs.YtfpkooafbeejmaaW.PrintWords Go.Proofs.Ytfpkooafbeejmaa.Opens
set_option linter.unusedVariables false
def laws_FnExactOutOK.Pure2 : Prop := ∀ (y0 : S41), i41 y0 → ∃ k, laws_FnExactOutOK.f k y0.f0 y0.f1 y0.f2 y0.f3 y0.f4 = some true
end Go.Proofs.Ytfpkooafbeejmaa.Q
namespace Go.Proofs.Ytfpkooafbeejmaa.Pure2
open Go.RowKit Go.Proofs.Ytfpkooafbeejmaa.Q Go.Proofs.YtfpkooafbeejmaaW.PrintWords Go.Proofs.YtfpkooafbeejmaaW.PrintLast
set_option linter.unusedVariables false
set_option linter.unusedSimpArgs false
/-! small words -/
theorem wsucc {j n : Nat} (h : j < n) (hn : n ≤ 4611686018427387904) : wrap64 ((j : Int) + 1) = ((j + 1 : Nat) : Int) := by unfold wrap64; omega
theorem ev_step {α : Type} {g f : Nat → Option α} {r : α} (h : ∃ K, ∀ k, K ≤ k → g (k + 1) = f k) (k : Ev f r) : Ev g r := by
  obtain ⟨K, h⟩ := h
  obtain ⟨K', k⟩ := k
  refine ⟨max K K' + 1, fun n hn => ?_⟩
  obtain ⟨m, rfl⟩ : ∃ m, n = m + 1 := ⟨n - 1, by omega⟩
  rw [h m (by omega), k m (by omega)]
theorem ev_now {α : Type} {g : Nat → Option α} {r : α} (h : ∃ K, ∀ k, K ≤ k → g (k + 1) = some r) : Ev g r := ev_step (f := fun _ => some r) h (Ev.now r)
theorem ev_same {α : Type} {g f : Nat → Option α} {r : α} (h : ∃ K, ∀ k, K ≤ k → g k = f k) (k : Ev f r) : Ev g r := by
  obtain ⟨K, h⟩ := h
  obtain ⟨K', k⟩ := k
  exact ⟨max K K', fun n hn => by rw [h n (by omega), k n (by omega)]⟩
theorem ev_two {α β : Type} {g : Nat → Option α} {f : Nat → Option β} {r : α} {q : β} (h : Ev g r) (k : Ev f q) : ∃ K, ∀ n, K ≤ n → g n = some r ∧ f n = some q := by
  obtain ⟨K, h⟩ := h
  obtain ⟨K', k⟩ := k
  exact ⟨max K K', fun n hn => ⟨h n (by omega), k n (by omega)⟩⟩
theorem ev_mk {α : Type} {g : Nat → Option α} {r : α} (K : Nat) (h : ∀ k, K ≤ k → g k = some r) : Ev g r := ⟨K, h⟩
theorem ev_at {α : Type} {g : Nat → Option α} {r : α} (h : Ev g r) : ∃ K, ∀ k, K ≤ k → g k = some r := h
/-- A loop that counts up to n: from the end back. -/
theorem count_loop {ρ : Type} (n : Nat) (L : Nat → Int → Option ρ) (Post : Nat → ρ → Prop) (hend : ∃ r, Post n r ∧ Ev (fun k => L k (n : Int)) r)
    (hstep : ∀ j, j < n → ∀ r, Post (j + 1) r → Ev (fun k => L k ((j + 1 : Nat) : Int)) r → ∃ r', Post j r' ∧ Ev (fun k => L k (j : Int)) r') :
    ∀ j, j ≤ n → ∃ r, Post j r ∧ Ev (fun k => L k (j : Int)) r := by
  have key : ∀ d j, j ≤ n → n - j = d → ∃ r, Post j r ∧ Ev (fun k => L k (j : Int)) r := by
    intro d
    induction d with
    | zero => intro j hj hd; obtain rfl : j = n := by omega
              exact hend
    | succ d ih =>
      intro j hj hd
      obtain ⟨r, hp, he⟩ := ih (j + 1) (by omega) (by omega)
      exact hstep j (by omega) r hp he
  intro j hj
  exact key _ j hj rfl
/-- A loop that carries a state up to n. -/
theorem state_loop {σ ρ : Type} (n : Nat) (L : Nat → σ → Int → Option ρ) (Inv : Nat → σ → Prop) (Post : Nat → σ → ρ → Prop) (hend : ∀ s, Inv n s → ∃ r, Post n s r ∧ Ev (fun k => L k s (n : Int)) r)
    (hstep : ∀ j s, j < n → Inv j s → (∃ r, Post j s r ∧ Ev (fun k => L k s (j : Int)) r) ∨ ∃ s', Inv (j + 1) s' ∧ (∀ r, Post (j + 1) s' r → Post j s r) ∧ ∃ K, ∀ k, K ≤ k → L (k + 1) s (j : Int) = L k s' ((j + 1 : Nat) : Int)) :
    ∀ j s, j ≤ n → Inv j s → ∃ r, Post j s r ∧ Ev (fun k => L k s (j : Int)) r := by
  have key : ∀ d j s, j ≤ n → n - j = d → Inv j s → ∃ r, Post j s r ∧ Ev (fun k => L k s (j : Int)) r := by
    intro d
    induction d with
    | zero => intro j s hj hd hi; obtain rfl : j = n := by omega
              exact hend s hi
    | succ d ih =>
      intro j s hj hd hi
      rcases hstep j s (by omega) hi with h | ⟨s', hi', hp, hk⟩
      · exact h
      · obtain ⟨r, hr, he⟩ := ih (j + 1) s' (by omega) (by omega) hi'
        exact ⟨r, hp r hr, ev_step hk he⟩
  intro j s hj hi
  exact key _ j s hj rfl hi
/-- A loop that fills a row of its own. -/
theorem fill_loop {α β : Type} (xs : List α) (z : α) (g : α → β) (L : Nat → List β → Int → Option (List β)) (hend : ∀ y : List β, y.length = xs.length → ∃ K, ∀ k, K ≤ k → L (k + 1) y (xs.length : Int) = some y)
    (hstep : ∀ (j : Nat) (y : List β), j < xs.length → y.length = xs.length → ∃ K, ∀ k, K ≤ k → L (k + 1) y (j : Int) = L k (y.set j (g (xs.getD j z))) ((j + 1 : Nat) : Int)) (y : List β) (hy : y.length = xs.length) :
    Ev (fun k => L k y 0) (xs.map g) := by
  obtain ⟨r, hr, he⟩ := state_loop xs.length L (fun j y => y.length = xs.length ∧ ∀ i, i < j → y[i]? = (xs.map g)[i]?) (fun _ _ r => r = xs.map g) (fun y hi => ⟨y, List.ext_getElem? fun i => by
      by_cases hi' : i < xs.length
      · exact hi.2 i hi'
      · rw [List.getElem?_eq_none (by omega), List.getElem?_eq_none (by simp; omega)], ev_now (hend y hi.1)⟩) (fun j y hj hi => .inr ⟨_, ⟨by simp [hi.1], fun i hij => by
      by_cases he : i = j
      · subst he
        rw [List.getElem?_set_self (by omega)]
        simp [List.getD_eq_getElem?_getD, List.getElem?_eq_getElem hj]
      · rw [List.getElem?_set_ne (by omega)]
        exact hi.2 i (by omega)⟩, fun r h => h, hstep j y hj hi.1⟩) 0 y (by omega) ⟨hy, fun i hi => by omega⟩
  subst hr
  exact he
theorem spec_in (a b c : Int) : spec_l01In.f a b c = some (decide (b ≤ a ∧ a ≤ c)) := by
  unfold spec_l01In.f
  by_cases h : b ≤ a
  · rw [if_pos h]; simp [h]
  · rw [if_neg h]; simp [h]
theorem impl_in (a b c : Int) : impl_within.f a b c = some (decide (b ≤ a ∧ a ≤ c)) := spec_in a b c
/-- A letter or _; a digit. -/
def isL (b : Int) : Bool := decide (97 ≤ b ∧ b ≤ 122 ∨ 65 ≤ b ∧ b ≤ 90 ∨ b = 95)
def isD (b : Int) : Bool := decide (48 ≤ b ∧ b ≤ 57)
/-- What a name is. -/
def IsName (s : ByteArray) : Prop := 1 ≤ s.size ∧ s.size ≤ 40 ∧ isL (bt s 0) = true ∧ ∀ i : Int, 1 ≤ i → i < s.size → isL (bt s i) = true ∨ isD (bt s i) = true
theorem beq95 (b : Int) (h : ¬ (97 ≤ b ∧ b ≤ 122)) (h' : ¬ (65 ≤ b ∧ b ≤ 90)) : (b == 95) = isL b := by
  unfold isL
  by_cases e : b = 95
  · subst e; rfl
  · rw [beq_eq_false_iff_ne.mpr e]; symm; simp only [decide_eq_false_iff_not]; omega
theorem impl_letter (b : Int) : impl_isLetter.f b = some (isL b) := by
  unfold impl_isLetter.f
  by_cases h1 : b ≥ 97 <;> by_cases h2 : b ≤ 122 <;> by_cases h3 : b ≥ 65 <;> by_cases h4 : b ≤ 90 <;> simp only [h1, h2, h3, h4, if_true, if_false, Option.some.injEq] <;>
    first | exact beq95 b (by omega) (by omega) | (symm; unfold isL; simp only [decide_eq_true_eq]; omega)
theorem spec_letter (b : Int) : spec_l00Letter.f b = some (isL b) := impl_letter b
theorem impl_digit (b : Int) : impl_isDigit.f b = some (isD b) := by
  unfold impl_isDigit.f isD
  by_cases h1 : b ≥ 48
  · rw [if_pos h1]; simp only [Option.some.injEq, decide_eq_decide]; omega
  · rw [if_neg h1]; simp only [Option.some.injEq]; symm; rw [decide_eq_false_iff_not]; omega
theorem spec_digit (b : Int) : spec_l00Digit.f b = some (isD b) := impl_digit b
/-- The reference's loop, from i on. -/
theorem spec_word_from (s : ByteArray) (hn : s.size ≤ 1048576) (d : Nat) : ∀ (k : Nat) (i : Int), 0 ≤ i → i ≤ s.size → (s.size : Int) - i = d → d < k →
    ∃ r, spec_l00Word.l0 k s i = some r ∧ (r = true ↔ ∀ j : Int, i ≤ j → j < s.size → isL (bt s j) = true ∨ isD (bt s j) = true) := by
  induction d with
  | zero =>
    intro k i h0 h1 hd hk
    obtain ⟨k, rfl⟩ : ∃ m, k = m + 1 := ⟨k - 1, by omega⟩
    refine ⟨true, ?_, ⟨fun _ j h2 h3 => by omega, fun _ => rfl⟩⟩
    simp only [spec_l00Word.l0]; rw [if_neg (by omega)]
  | succ d ih =>
    intro k i h0 h1 hd hk
    obtain ⟨k, rfl⟩ : ∃ m, k = m + 1 := ⟨k - 1, by omega⟩
    have hw : wrap64 (i + 1) = i + 1 := by unfold wrap64; omega
    obtain ⟨r, e, hr⟩ := ih k (i + 1) (by omega) (by omega) (by omega) (by omega)
    have step : (isL (bt s i) = true ∨ isD (bt s i) = true) → (r = true ↔ ∀ j : Int, i ≤ j → j < s.size → isL (bt s j) = true ∨ isD (bt s j) = true) := by
      intro hh
      rw [hr]
      constructor
      · intro h j h2 h3
        rcases Int.lt_or_eq_of_le h2 with h4 | h4
        · exact h j (by omega) h3
        · rw [← h4]; exact hh
      · intro h j h2 h3; exact h j (by omega) h3
    simp only [spec_l00Word.l0]; rw [if_pos (by omega), if_pos h0, spec_letter]; simp only [Option.bind_some]
    by_cases hl : isL (bt s i) = true
    · rw [if_pos hl, hw]; exact ⟨r, e, step (.inl hl)⟩
    · rw [if_neg hl, spec_digit]; simp only [Option.bind_some]
      by_cases hdg : isD (bt s i) = true
      · rw [if_pos hdg, hw]; exact ⟨r, e, step (.inr hdg)⟩
      · rw [if_neg hdg]
        exact ⟨false, rfl, ⟨fun h => (by cases h), fun h => absurd (h i (Int.le_refl _) (by omega)) (fun h => h.elim hl hdg)⟩⟩
theorem spec_name (s : ByteArray) (hn : s.size ≤ 1048576) : ∃ r, (∀ k, s.size + 1 < k → spec_NameOK.f k s = some r) ∧ (r = true ↔ IsName s) := by
  by_cases h1 : (s.size : Int) < 1
  · refine ⟨false, fun k hk => ?_, ⟨fun h => (by cases h), fun h => absurd h.1 (by omega)⟩⟩
    obtain ⟨k, rfl⟩ : ∃ m, k = m + 1 := ⟨k - 1, by omega⟩
    unfold spec_NameOK.f spec_l00Word.f
    rw [if_pos h1]; rfl
  · by_cases h2 : (s.size : Int) > 40
    · refine ⟨false, fun k hk => ?_, ⟨fun h => (by cases h), fun h => absurd h.2.1 (by omega)⟩⟩
      obtain ⟨k, rfl⟩ : ∃ m, k = m + 1 := ⟨k - 1, by omega⟩
      unfold spec_NameOK.f spec_l00Word.f
      rw [if_neg h1, if_pos h2]; rfl
    · by_cases hl : isL (bt s 0) = true
      · obtain ⟨r, _, hr⟩ := spec_word_from s hn (s.size - 1) (s.size + 1) 1 (by omega) (by omega) (by omega) (by omega)
        refine ⟨r, fun k hk => ?_, ?_⟩
        · obtain ⟨k, rfl⟩ : ∃ m, k = m + 1 := ⟨k - 1, by omega⟩
          obtain ⟨r', e', hr'⟩ := spec_word_from s hn (s.size - 1) k 1 (by omega) (by omega) (by omega) (by omega)
          have : r' = r := by rw [Bool.eq_iff_iff, hr, hr']
          subst this
          unfold spec_NameOK.f spec_l00Word.f
          rw [if_neg h1, if_neg h2, if_pos (by omega), spec_letter]; simp only [Option.bind_some, hl, Bool.not_true, spec_l00Word.j0]
          rw [if_neg (by simp), e']; rfl
        · rw [hr]; exact ⟨fun h => ⟨by omega, by omega, hl, h⟩, fun h => h.2.2.2⟩
      · refine ⟨false, fun k hk => ?_, ⟨fun h => (by cases h), fun h => absurd h.2.2.1 hl⟩⟩
        obtain ⟨k, rfl⟩ : ∃ m, k = m + 1 := ⟨k - 1, by omega⟩
        unfold spec_NameOK.f spec_l00Word.f
        rw [if_neg h1, if_neg h2, if_pos (by omega), spec_letter]; simp only [Option.bind_some]
        have : isL (bt s 0) = false := by simpa using hl
        rw [this]; rfl
/-- The program's loop, from i on. -/
theorem impl_name_from (s : ByteArray) (hn : s.size ≤ 1048576) (d : Nat) : ∀ (k : Nat) (i : Int), 0 ≤ i → i ≤ s.size → (s.size : Int) - i = d → d < k →
    ∃ r, impl_NameOK.l0 k s s.size i = some r ∧ (r = true ↔ (1 ≤ s.size ∧ s.size ≤ 40) ∧ ∀ j : Int, i ≤ j → j < s.size → isL (bt s j) = true ∨ j ≠ 0 ∧ isD (bt s j) = true) := by
  induction d with
  | zero =>
    intro k i h0 h1 hd hk
    obtain ⟨k, rfl⟩ : ∃ m, k = m + 1 := ⟨k - 1, by omega⟩
    simp only [impl_NameOK.l0]; rw [if_neg (by omega)]
    unfold impl_within.f
    by_cases h2 : (s.size : Int) ≥ 1
    · rw [if_pos h2]
      refine ⟨_, rfl, ?_⟩
      simp only [decide_eq_true_eq]
      exact ⟨fun h => ⟨⟨by omega, by omega⟩, fun j _ _ => by omega⟩, fun h => by omega⟩
    · rw [if_neg h2]
      refine ⟨_, rfl, ?_⟩
      exact ⟨fun h => by simp at h, fun h => by omega⟩
  | succ d ih =>
    intro k i h0 h1 hd hk
    obtain ⟨k, rfl⟩ : ∃ m, k = m + 1 := ⟨k - 1, by omega⟩
    have hw : wrap64 (i + 1) = i + 1 := by unfold wrap64; omega
    obtain ⟨r, e, hr⟩ := ih k (i + 1) (by omega) (by omega) (by omega) (by omega)
    have step : (isL (bt s i) = true ∨ i ≠ 0 ∧ isD (bt s i) = true) → (r = true ↔ (1 ≤ s.size ∧ s.size ≤ 40) ∧ ∀ j : Int, i ≤ j → j < s.size → isL (bt s j) = true ∨ j ≠ 0 ∧ isD (bt s j) = true) := by
      intro hh
      rw [hr]
      constructor
      · intro ⟨h', h⟩
        refine ⟨h', fun j h2 h3 => ?_⟩
        rcases Int.lt_or_eq_of_le h2 with h4 | h4
        · exact h j (by omega) h3
        · rw [← h4]; exact hh
      · intro ⟨h', h⟩; exact ⟨h', fun j h2 h3 => h j (by omega) h3⟩
    simp only [impl_NameOK.l0]; rw [if_pos (by omega), if_pos h0, if_pos (by omega), impl_letter]; simp only [Option.bind_some]
    by_cases hl : isL (bt s i) = true
    · rw [if_pos hl, hw]; exact ⟨r, e, step (.inl hl)⟩
    · rw [if_neg hl]
      by_cases hz : i = 0
      · rw [if_pos hz]
        exact ⟨false, rfl, ⟨fun h => (by cases h), fun h => absurd (h.2 i (Int.le_refl _) (by omega)) (fun h => h.elim hl (fun h => h.1 hz))⟩⟩
      · rw [if_neg hz, impl_digit]; simp only [Option.bind_some]
        by_cases hdg : isD (bt s i) = true
        · rw [if_pos hdg, hw]; exact ⟨r, e, step (.inr ⟨hz, hdg⟩)⟩
        · rw [if_neg hdg]
          exact ⟨false, rfl, ⟨fun h => (by cases h), fun h => absurd (h.2 i (Int.le_refl _) (by omega)) (fun h => h.elim hl (fun h => hdg h.2))⟩⟩
theorem impl_name (s : ByteArray) (hn : s.size ≤ 1048576) : ∃ r, (∀ k, s.size + 1 < k → impl_NameOK.f k s = some r) ∧ (r = true ↔ IsName s) := by
  obtain ⟨r, _, hr⟩ := impl_name_from s hn s.size (s.size + 1) 0 (by omega) (by omega) (by omega) (by omega)
  refine ⟨r, fun k hk => ?_, ?_⟩
  · obtain ⟨r', e', hr'⟩ := impl_name_from s hn s.size k 0 (by omega) (by omega) (by omega) (by omega)
    have : r' = r := by rw [Bool.eq_iff_iff, hr, hr']
    subst this
    exact e'
  · rw [hr]
    constructor
    · rintro ⟨⟨h1, h2⟩, h⟩
      refine ⟨h1, h2, ?_, fun j hj hj' => ?_⟩
      · have := h 0 (by omega) (by omega)
        simpa using this
      · rcases h j (by omega) hj' with h | h
        · exact .inl h
        · exact .inr h.2
    · rintro ⟨h1, h2, h3, h⟩
      refine ⟨⟨h1, h2⟩, fun j hj hj' => ?_⟩
      by_cases hz : j = 0
      · subst hz; exact .inl h3
      · rcases h j (by omega) hj' with h | h
        · exact .inl h
        · exact .inr ⟨hz, h⟩
/-- Both say the same. -/
theorem names_agree (s : ByteArray) (hn : s.size ≤ 1048576) : ∃ r, (∀ k, s.size + 1 < k → spec_NameOK.f k s = some r ∧ impl_NameOK.f k s = some r) ∧ (r = true ↔ IsName s) := by
  obtain ⟨r, e, hr⟩ := spec_name s hn
  obtain ⟨r', e', hr'⟩ := impl_name s hn
  have : r' = r := by rw [Bool.eq_iff_iff, hr, hr']
  subst this
  exact ⟨r', fun k hk => ⟨e k hk, e' k hk⟩, hr⟩
theorem names_ev (s : ByteArray) (hn : s.size ≤ 1048576) : ∃ r, Ev (fun k => spec_NameOK.f k s) r ∧ Ev (fun k => impl_NameOK.f k s) r ∧ (r = true ↔ IsName s) := by
  obtain ⟨r, h, hr⟩ := names_agree s hn
  exact ⟨r, ev_mk (s.size + 2) (fun k hk => (h k (by omega)).1), ev_mk (s.size + 2) (fun k hk => (h k (by omega)).2), hr⟩
end Go.Proofs.Ytfpkooafbeejmaa.Pure2
namespace Go.Proofs.Ytfpkooafbeejmaa.Pure2
open Go.RowKit Go.Proofs.Ytfpkooafbeejmaa.Q Go.Proofs.YtfpkooafbeejmaaW.PrintWords Go.Proofs.YtfpkooafbeejmaaW.PrintLast
set_option linter.unusedVariables false
set_option linter.unusedSimpArgs false
/-! loops over lists -/
theorem getD_mem {α : Type} (l : List α) (z : α) (j : Nat) (h : j < l.length) : l.getD j z ∈ l := by rw [List.getD_eq_getElem?_getD, List.getElem?_eq_getElem h]; exact List.getElem_mem h
theorem wsub (a : Int) (n : Nat) (h0 : 0 ≤ a) (h1 : a ≤ 1048576) (hn : n ≤ 9223372036854775807) : wrap64 (a - (n : Int)) = a - (n : Int) := by unfold wrap64; omega
theorem sz_loop {α : Type} (l : List α) (z : α) (P : α → Prop) (a : Int) (h0 : 0 ≤ a) (L : Nat → Int → Int → Option Int) (hend : ∀ k s, L (k + 1) s (l.length : Int) = some s)
    (hx : ∀ j, j < l.length → ∀ s, 0 ≤ s → s ≤ a → ∃ t, (t < 0 ∨ 0 ≤ t ∧ t ≤ s ∧ P (l.getD j z)) ∧ ∃ K, ∀ k, K ≤ k → L (k + 1) s (j : Int) = if t < 0 then some (-1) else L k t ((j + 1 : Nat) : Int)) :
    ∃ r, Ev (fun k => L k a 0) r ∧ (r < 0 ∨ 0 ≤ r ∧ r ≤ a ∧ ∀ x ∈ l, P x) := by
  obtain ⟨r, hr, he⟩ := state_loop l.length L (fun j s => 0 ≤ s ∧ s ≤ a ∧ ∀ i, i < j → P (l.getD i z)) (fun _ _ r => r < 0 ∨ 0 ≤ r ∧ r ≤ a ∧ ∀ i, i < l.length → P (l.getD i z))
    (fun s hi => ⟨s, .inr hi, ev_now ⟨0, fun k _ => hend k s⟩⟩)
    (fun j s hj hi => by
      obtain ⟨t, ht, K, hk⟩ := hx j hj s hi.1 hi.2.1
      rcases ht with ht | ⟨t0, t1, t2⟩
      · exact .inl ⟨-1, .inl (by omega), ev_now ⟨K, fun k h => by rw [hk k h, if_pos ht]⟩⟩
      · refine .inr ⟨t, ⟨t0, by omega, fun i hij => ?_⟩, fun r h => h, K, fun k h => by rw [hk k h, if_neg (by omega)]⟩
        rcases Nat.lt_or_eq_of_le (Nat.le_of_lt_succ hij) with h' | rfl
        · exact hi.2.2 i h'
        · exact t2) 0 a (by omega) ⟨h0, by omega, fun i hi => by omega⟩
  refine ⟨r, he, ?_⟩
  rcases hr with hr | ⟨h2, h3, h4⟩
  · exact .inl hr
  · refine .inr ⟨h2, h3, fun x hx' => ?_⟩
    obtain ⟨i, hi, rfl⟩ := List.getElem_of_mem hx'
    have := h4 i hi
    rw [List.getD_eq_getElem?_getD, List.getElem?_eq_getElem hi] at this
    exact this
theorem eq_loop {α : Type} (n : Nat) (L : Nat → Int → Option Bool) (hend : ∀ k, L (k + 1) (n : Int) = some true) (hs : ∀ j, j < n → ∃ K, ∀ k, K ≤ k → L (k + 1) (j : Int) = L k ((j + 1 : Nat) : Int)) : Ev (fun k => L k 0) true := by
  obtain ⟨r, hr, he⟩ := count_loop n L (fun _ r => r = true) ⟨true, rfl, ev_now ⟨0, fun k _ => hend k⟩⟩ (fun j hj r hr he => ⟨r, hr, ev_step (hs j hj) he⟩) 0 (by omega)
  subst hr
  exact he
/-! rows of texts -/
theorem sz_strings (l : List ByteArray) (a : Int) (h0 : 0 ≤ a) (h1 : a ≤ 1048576) (hl : l.length ≤ 9223372036854775807) (hx : ∀ s ∈ l, s.size ≤ 9223372036854775807) :
    ∃ r, Ev (fun k => laws_szStringS.f k l a) r ∧ (r < 0 ∨ 0 ≤ r ∧ r ≤ a ∧ l.length ≤ 1048576 ∧ ∀ s ∈ l, s.size ≤ 1048576) := by
  have hw := wsub a l.length h0 h1 hl
  by_cases h : a - (l.length : Int) < 0
  · exact ⟨-1, ev_mk 0 (fun k _ => by unfold laws_szStringS.f; rw [hw, if_pos h]), .inl (by omega)⟩
  · obtain ⟨r, he, hr⟩ := sz_loop l ByteArray.empty (fun x => x.size ≤ 1048576) (a - l.length) (by omega) (fun k s i => laws_szStringS.l0 k l s i)
      (fun k s => by simp only [laws_szStringS.l0]; rw [if_neg (by omega)])
      (fun j hj s hs0 hs1 => by
        have hm := hx _ (getD_mem l ByteArray.empty j hj)
        have hw2 := wsub s (l.getD j ByteArray.empty).size hs0 (by omega) hm
        refine ⟨s - (l.getD j ByteArray.empty).size, ?_, 0, fun k _ => ?_⟩
        · show _ ∨ _ ∧ _ ∧ (l.getD j ByteArray.empty).size ≤ 1048576
          omega
        · simp only [laws_szStringS.l0]
          rw [if_pos (by omega), if_pos (by omega), show rdOf ByteArray.empty l (j : Int) = l.getD j ByteArray.empty from rfl, hw2, wsucc hj (by omega)])
    refine ⟨r, ev_same ⟨0, fun k _ => by unfold laws_szStringS.f; rw [hw, if_neg h]⟩ he, ?_⟩
    rcases hr with hr | ⟨h2, h3, h4⟩
    · exact .inl hr
    · exact .inr ⟨h2, by omega, by omega, h4⟩
theorem to_strings (l : List ByteArray) (hl : l.length ≤ 1048576) : Ev (fun k => laws_toStringS.f k l) l := by
  have h := fill_loop l ByteArray.empty id (fun k y i => laws_toStringS.l0 k l y i) (fun y hy => ⟨0, fun k _ => by simp only [laws_toStringS.l0]; rw [if_neg (by omega)]⟩)
    (fun j y hj hy => ⟨0, fun k _ => by
      simp only [laws_toStringS.l0]; rw [if_pos (by omega), if_pos (by omega), if_pos (by omega), wsucc hj (by omega)]; rfl⟩) (List.replicate l.length (⟨#[]⟩ : ByteArray)) (by simp)
  rw [List.map_id] at h
  refine ev_same ⟨0, fun k _ => ?_⟩ h
  unfold laws_toStringS.f
  rw [if_pos (by omega), if_pos (by simp; omega), Int.toNat_natCast]
theorem eq_strings (l : List ByteArray) (hl : l.length ≤ 1048576) : Ev (fun k => laws_eqStringS.f k l l) true := by
  refine ev_same ⟨0, fun k _ => ?_⟩ (eq_loop (α := ByteArray) l.length (fun k i => laws_eqStringS.l0 k l l i) (fun k => by simp only [laws_eqStringS.l0]; rw [if_neg (by omega)])
    (fun j hj => ⟨0, fun k _ => by simp only [laws_eqStringS.l0]; rw [if_pos (by omega), if_pos (by omega), if_pos (by omega)]; simp only [if_true]; rw [wsucc hj (by omega)]⟩))
  unfold laws_eqStringS.f
  rw [if_pos rfl]
/-! answers that came in, and their copies -/
def SmL : Nat → S41 → Prop
  | 0, _ => False
  | n + 1, x => x.f2.size ≤ 1048576 ∧ (x.f3.length ≤ 1048576 ∧ ∀ s ∈ x.f3, s.size ≤ 1048576) ∧ x.f4.length ≤ 1048576 ∧ ∀ y ∈ x.f4, SmL n y
def SmO : Nat → S46 → Prop
  | 0, _ => False
  | n + 1, x => x.f2.size ≤ 1048576 ∧ (x.f3.length ≤ 1048576 ∧ ∀ s ∈ x.f3, s.size ≤ 1048576) ∧ x.f4.length ≤ 1048576 ∧ ∀ y ∈ x.f4, SmO n y
def cvO : Nat → S41 → S46
  | 0, _ => z46
  | n + 1, x => ⟨x.f0, x.f1, x.f2, x.f3, x.f4.map (cvO n)⟩
theorem etaO (x : S46) : (⟨x.f0, x.f1, x.f2, x.f3, x.f4⟩ : S46) = x := by cases x; rfl
theorem sm_cvO : ∀ (n : Nat) (x : S41), SmL n x → SmO n (cvO n x)
  | 0, _, h => h.elim
  | n + 1, x, ⟨h2, h3, h4, h5⟩ => by
    refine ⟨h2, h3, by show (x.f4.map (cvO n)).length ≤ _; rw [List.length_map]; exact h4, fun y hy => ?_⟩
    obtain ⟨z, hz, rfl⟩ := List.mem_map.1 (show y ∈ x.f4.map (cvO n) from hy)
    exact sm_cvO n z (h5 z hz)
theorem sz_outs (n : Nat) (ih : ∀ (x : S41) (a : Int), 0 ≤ a → a ≤ 1048576 → i41n n x → ∃ r, Ev (fun k => laws_szOut.f k x.f0 x.f1 x.f2 x.f3 x.f4 a) r ∧ (r < 0 ∨ 0 ≤ r ∧ r ≤ a ∧ SmL n x))
    (l : List S41) (a : Int) (h0 : 0 ≤ a) (h1 : a ≤ 1048576) (hl : l.length ≤ 9223372036854775807) (hx : ∀ x ∈ l, i41n n x) :
    ∃ r, Ev (fun k => laws_szOutS.f k l a) r ∧ (r < 0 ∨ 0 ≤ r ∧ r ≤ a ∧ l.length ≤ 1048576 ∧ ∀ x ∈ l, SmL n x) := by
  have hw := wsub a l.length h0 h1 hl
  by_cases h : a - (l.length : Int) < 0
  · exact ⟨-1, ev_now ⟨0, fun k _ => by simp only [laws_szOutS.f]; rw [hw, if_pos h]⟩, .inl (by omega)⟩
  · obtain ⟨r, he, hr⟩ := sz_loop l z41 (SmL n) (a - l.length) (by omega) (fun k s i => laws_szOutS.l0 k l s i)
      (fun k s => by simp only [laws_szOutS.l0]; rw [if_neg (by omega)])
      (fun j hj s hs0 hs1 => by
        obtain ⟨t, et, ht⟩ := ih (l.getD j z41) s hs0 (by omega) (hx _ (getD_mem l _ j hj))
        obtain ⟨K, hK⟩ := ev_at et
        refine ⟨t, ht, K, fun k hk => ?_⟩
        simp only [laws_szOutS.l0]
        rw [if_pos (by omega), if_pos (by omega), show rd_T41 l (j : Int) = l.getD j z41 from rfl, hK k hk]; simp only [Option.bind_some]; rw [wsucc hj (by omega)])
    refine ⟨r, ev_step ⟨0, fun k _ => by simp only [laws_szOutS.f]; rw [hw, if_neg h]⟩ he, ?_⟩
    rcases hr with hr | ⟨h2, h3, h4⟩
    · exact .inl hr
    · exact .inr ⟨h2, by omega, by omega, h4⟩
theorem sz_out : ∀ (n : Nat) (x : S41) (a : Int), 0 ≤ a → a ≤ 1048576 → i41n n x → ∃ r, Ev (fun k => laws_szOut.f k x.f0 x.f1 x.f2 x.f3 x.f4 a) r ∧ (r < 0 ∨ 0 ≤ r ∧ r ≤ a ∧ SmL n x) := by
  intro n
  induction n with
  | zero => intro x a _ _ h; exact h.elim
  | succ n ih =>
    intro x a h0 h1 hi
    obtain ⟨_, _, i2, ⟨i3, i3'⟩, i4, i4'⟩ := hi
    have hw := wsub a x.f2.size h0 h1 i2
    by_cases hA : a - (x.f2.size : Int) < 0
    · exact ⟨-1, ev_now ⟨0, fun k _ => by simp only [laws_szOut.f]; rw [hw, if_pos hA]⟩, .inl (by omega)⟩
    · obtain ⟨t, et, ht⟩ := sz_strings x.f3 (a - x.f2.size) (by omega) (by omega) i3 i3'
      obtain ⟨K, hK⟩ := ev_at et
      rcases ht with ht | ⟨t0, t1, t2, t3⟩
      · exact ⟨-1, ev_now ⟨K, fun k hk => by simp only [laws_szOut.f]; rw [hw, if_neg hA, hK k hk]; simp only [Option.bind_some]; rw [if_pos ht]⟩, .inl (by omega)⟩
      · obtain ⟨u, eu, hu⟩ := sz_outs n ih x.f4 t t0 (by omega) i4 i4'
        obtain ⟨K2, hK2⟩ := ev_at eu
        rcases hu with hu | ⟨u0, u1, u2, u3⟩
        · exact ⟨-1, ev_now ⟨K + K2, fun k hk => by simp only [laws_szOut.f]; rw [hw, if_neg hA, hK k (by omega)]; simp only [Option.bind_some]; rw [if_neg (by omega), hK2 k (by omega)]; simp only [Option.bind_some]; rw [if_pos hu]⟩, .inl (by omega)⟩
        · exact ⟨u, ev_now ⟨K + K2, fun k hk => by simp only [laws_szOut.f]; rw [hw, if_neg hA, hK k (by omega)]; simp only [Option.bind_some]; rw [if_neg (by omega), hK2 k (by omega)]; simp only [Option.bind_some]; rw [if_neg (by omega)]⟩, .inr ⟨u0, by omega, by omega, ⟨t2, t3⟩, u2, u3⟩⟩
theorem to_out : ∀ (n : Nat) (x : S41), SmL n x → Ev (fun k => laws_toOut.f k x.f0 x.f1 x.f2 x.f3 x.f4) ((cvO n x).f0, (cvO n x).f1, (cvO n x).f2, (cvO n x).f3, (cvO n x).f4) := by
  intro n
  induction n with
  | zero => intro x h; exact h.elim
  | succ n ih =>
    intro x hs
    obtain ⟨_, ⟨h3, _⟩, h4, h5⟩ := hs
    obtain ⟨K, hK⟩ := ev_at (to_strings x.f3 h3)
    have h := fill_loop x.f4 z41 (cvO n) (fun k y i => laws_toOutS.l0 k x.f4 y i) (fun y hy => ⟨0, fun k _ => by simp only [laws_toOutS.l0]; rw [if_neg (by omega)]⟩)
      (fun j y hj hy => by
        obtain ⟨K, hK⟩ := ev_at (ih (x.f4.getD j z41) (h5 _ (getD_mem x.f4 _ j hj)))
        refine ⟨K, fun k hk => ?_⟩
        simp only [laws_toOutS.l0]; rw [if_pos (by omega), if_pos (by omega), show rd_T41 x.f4 (j : Int) = x.f4.getD j z41 from rfl, hK k hk]; simp only [Option.bind_some]; rw [if_pos (by omega), wsucc hj (by omega), Int.toNat_natCast, etaO]) (List.replicate x.f4.length z46) (by simp)
    have h' : Ev (fun k => laws_toOutS.f k x.f4) (x.f4.map (cvO n)) := by
      refine ev_step ⟨0, fun k _ => ?_⟩ h
      simp only [laws_toOutS.f]
      rw [if_pos (by omega), if_pos (by simp; omega), Int.toNat_natCast]
    obtain ⟨K2, hK2⟩ := ev_at h'
    exact ev_now ⟨K + K2, fun k hk => by simp only [laws_toOut.f]; rw [hK k (by omega)]; simp only [Option.bind_some]; rw [hK2 k (by omega)]; rfl⟩
theorem eq_out : ∀ (n : Nat) (x : S46), SmO n x → Ev (fun k => laws_eqOut.f k x.f0 x.f1 x.f2 x.f3 x.f4 x.f0 x.f1 x.f2 x.f3 x.f4) true := by
  intro n
  induction n with
  | zero => intro x h; exact h.elim
  | succ n ih =>
    intro x hs
    obtain ⟨_, ⟨h3, _⟩, h4, h5⟩ := hs
    obtain ⟨K, hK⟩ := ev_at (eq_strings x.f3 h3)
    have h : Ev (fun k => laws_eqOutS.l0 k x.f4 x.f4 0) true := eq_loop (α := S46) x.f4.length (fun k i => laws_eqOutS.l0 k x.f4 x.f4 i) (fun k => by simp only [laws_eqOutS.l0]; rw [if_neg (by omega)])
      (fun j hj => by
        obtain ⟨K, hK⟩ := ev_at (ih (x.f4.getD j z46) (h5 _ (getD_mem x.f4 _ j hj)))
        exact ⟨K, fun k hk => by
          simp only [laws_eqOutS.l0]; rw [if_pos (by omega), if_pos (by omega), if_pos (by omega), show rd_T46 x.f4 (j : Int) = x.f4.getD j z46 from rfl, hK k hk]; simp only [Option.bind_some, if_true]; rw [wsucc hj (by omega)]⟩)
    have h' : Ev (fun k => laws_eqOutS.f k x.f4 x.f4) true := ev_step ⟨0, fun k _ => by simp only [laws_eqOutS.f, if_true]⟩ h
    obtain ⟨K2, hK2⟩ := ev_at h'
    exact ev_now ⟨K + K2, fun k hk => by simp only [laws_eqOut.f, if_true]; rw [hK k (by omega)]; simp only [Option.bind_some, if_true]; rw [hK2 k (by omega)]; rfl⟩
end Go.Proofs.Ytfpkooafbeejmaa.Pure2
namespace Go.Proofs.Ytfpkooafbeejmaa.Pure2
open Go.RowKit Go.Proofs.Ytfpkooafbeejmaa.Q Go.Proofs.YtfpkooafbeejmaaW.PrintWords Go.Proofs.YtfpkooafbeejmaaW.PrintLast
set_option linter.unusedVariables false
set_option linter.unusedSimpArgs false
/-! the tokens of a schema tell it -/
theorem toList_loop_spec (b : ByteArray) : ∀ (d i : Nat) (r : List UInt8), b.size - i = d → ByteArray.toList.loop b i r = r.reverse ++ b.data.toList.drop i := by
  have hsz : b.data.toList.length = b.size := Array.length_toList ..
  intro d
  induction d with
  | zero =>
    intro i r h
    unfold ByteArray.toList.loop
    rw [if_neg (by omega), List.drop_eq_nil_of_le (by omega), List.append_nil]
  | succ d ih =>
    intro i r h
    have hi : i < b.data.toList.length := by omega
    unfold ByteArray.toList.loop
    rw [if_pos (by omega), ih (i + 1) _ (by omega), List.reverse_cons, List.append_assoc, List.singleton_append, List.drop_eq_getElem_cons hi]
    have hg : b.get! i = b.data.toList[i] := by
      show b.data[i]! = _
      rw [getElem!_pos b.data i (by rw [← Array.length_toList]; exact hi), Array.getElem_toList]
    rw [hg]
theorem toList_data (b : ByteArray) : b.toList = b.data.toList := by
  unfold ByteArray.toList
  rw [toList_loop_spec b _ 0 [] rfl]
  rfl
/-! what a right answer is -/
theorem isEmpty_iff (s : ByteArray) : (s.toList == ([] : List UInt8)) = decide (s.toList = ([] : List UInt8)) := by
  cases s.toList <;> rfl
theorem ev_shift {α : Type} {g f : Nat → Option α} {r : α} (m : Nat) (h : ∃ K, ∀ k, K ≤ k → g (k + m) = f k) (k : Ev f r) : Ev g r := by
  obtain ⟨K, h⟩ := h
  obtain ⟨K', k⟩ := k
  refine ⟨max K K' + m, fun n hn => ?_⟩
  obtain ⟨q, rfl⟩ : ∃ q, n = q + m := ⟨n - m, by omega⟩
  rw [h q (by omega), k q (by omega)]
/-- A loop that carries a state up to n; a round may take several steps. -/
theorem state_loop2 {σ ρ : Type} (n : Nat) (L : Nat → σ → Int → Option ρ) (Inv : Nat → σ → Prop) (Post : ρ → Prop) (hend : ∀ s, Inv n s → ∃ r, Post r ∧ Ev (fun k => L k s (n : Int)) r)
    (hstep : ∀ j s, j < n → Inv j s → (∃ r, Post r ∧ Ev (fun k => L k s (j : Int)) r) ∨ ∃ s', Inv (j + 1) s' ∧ ∀ r, Ev (fun k => L k s' ((j + 1 : Nat) : Int)) r → Ev (fun k => L k s (j : Int)) r) :
    ∀ j s, j ≤ n → Inv j s → ∃ r, Post r ∧ Ev (fun k => L k s (j : Int)) r := by
  have key : ∀ d j s, j ≤ n → n - j = d → Inv j s → ∃ r, Post r ∧ Ev (fun k => L k s (j : Int)) r := by
    intro d
    induction d with
    | zero => intro j s hj hd hi; obtain rfl : j = n := by omega
              exact hend s hi
    | succ d ih =>
      intro j s hj hd hi
      rcases hstep j s (by omega) hi with h | ⟨s', hi', hk⟩
      · exact h
      · obtain ⟨r, hr, he⟩ := ih (j + 1) s' (by omega) (by omega) hi'
        exact ⟨r, hr, hk r he⟩
  intro j s hj hi
  exact key _ j s hj rfl hi
theorem psum_succ {α : Type} (f : α → Nat) (l : List α) (z : α) (j : Nat) (h : j < l.length) : ((l.take (j + 1)).map f).sum = ((l.take j).map f).sum + f (l.getD j z) := by
  rw [List.take_succ_eq_append_getElem h, List.map_append, List.sum_append]
  simp [List.getD_eq_getElem?_getD, List.getElem?_eq_getElem h]
theorem psum_le {α : Type} (f : α → Nat) (l : List α) (j : Nat) : ((l.take j).map f).sum ≤ (l.map f).sum := by
  have h : (l.map f).sum = ((l.take j).map f).sum + ((l.drop j).map f).sum := by rw [← List.sum_append, ← List.map_append, List.take_append_drop]
  omega
theorem psum_len {α : Type} (f : α → Nat) (l : List α) : ((l.take l.length).map f).sum = (l.map f).sum := by rw [List.take_length]
def cntO : Nat → S46 → Nat
  | 0, _ => 0
  | n + 1, x => 1 + (x.f4.map (cntO n)).sum
/-- A value right by itself. -/
def NodeOK (x : S46) : Prop := (x.f0 = 1 ∨ x.f1 = 0) ∧ (-2147483648 ≤ x.f1 ∧ x.f1 ≤ 2147483647) ∧ (x.f0 = 2 ∨ x.f2.toList = []) ∧ (x.f0 = 4 ∨ x.f3.length = 0) ∧
  ((x.f0 = 0 ∨ x.f0 = 1) ∧ x.f4.length = 0 ∨ x.f0 = 2 ∧ IsName x.f2 ∧ x.f4.length = 0 ∨ x.f0 = 3 ∨ x.f0 = 4 ∧ x.f3.length = x.f4.length)
def KeyOK (x : S46) (j : Nat) : Prop := IsName (x.f3.getD j ByteArray.empty) ∧ ∀ i, i < j → (x.f3.getD i ByteArray.empty).toList ≠ (x.f3.getD j ByteArray.empty).toList
def RtO : Nat → Nat → S46 → Prop
  | 0, _, _ => False
  | n + 1, d, x => 0 < d ∧ NodeOK x ∧ (∀ j, j < x.f3.length → KeyOK x j) ∧ ∀ y ∈ x.f4, RtO n (d - 1) y
theorem right_ok (x : S46) (hs : x.f2.size ≤ 1048576) : ∃ b, Ev (fun k => impl_Out_isRight.f k x.f0 x.f1 x.f2 x.f3 x.f4) b ∧ (b = true ↔ NodeOK x) := by
  obtain ⟨t, _, et, ht⟩ := names_ev x.f2 hs
  obtain ⟨K, hK⟩ := ev_at et
  obtain ⟨c, hc, hc'⟩ : ∃ c : Bool, (∀ b k, K ≤ k → impl_Out_isRight.j0 (k + 2) b x.f0 x.f1 x.f2 x.f3 x.f4 = some (!b && c)) ∧ (c = true ↔ ((x.f0 = 0 ∨ x.f0 = 1) ∧ x.f4.length = 0 ∨ x.f0 = 2 ∧ IsName x.f2 ∧ x.f4.length = 0 ∨ x.f0 = 3 ∨ x.f0 = 4 ∧ x.f3.length = x.f4.length)) := by
    by_cases h0 : x.f0 = 0
    · refine ⟨(x.f4.length : Int) == 0, fun b k _ => ?_, ?_⟩
      · simp only [impl_Out_isRight.j0, impl_Out_isRight.j1, h0]; cases b <;> simp
      · rw [h0]; simp; try omega
    by_cases h1 : x.f0 = 1
    · refine ⟨(x.f4.length : Int) == 0, fun b k _ => ?_, ?_⟩
      · simp only [impl_Out_isRight.j0, impl_Out_isRight.j1, h1]; cases b <;> simp
      · rw [h1]; simp; try omega
    have e1 : (x.f0 == 1) = false := by simpa using h1
    by_cases h2 : x.f0 = 2
    · refine ⟨t && ((x.f4.length : Int) == 0), fun b k hk => ?_, ?_⟩
      · simp only [impl_Out_isRight.j0, impl_Out_isRight.j1, e1, if_neg h0, if_pos h2, hK k hk, Option.bind_some]; cases b <;> cases t <;> simp
      · rw [h2, Bool.and_eq_true, ht]; simp; try omega
    by_cases h3 : x.f0 = 3
    · refine ⟨true, fun b k _ => ?_, by simp [h3]⟩
      simp only [impl_Out_isRight.j0, impl_Out_isRight.j1, e1, if_neg h0, if_neg h2, if_pos h3]; cases b <;> simp
    by_cases h4 : x.f0 = 4
    · refine ⟨(x.f3.length : Int) == (x.f4.length : Int), fun b k _ => ?_, ?_⟩
      · simp only [impl_Out_isRight.j0, impl_Out_isRight.j1, e1, if_neg h0, if_neg h2, if_neg h3, if_pos h4]; cases b <;> simp
      · rw [h4]; simp; try omega
    · refine ⟨false, fun b k _ => ?_, ?_⟩
      · simp only [impl_Out_isRight.j0, impl_Out_isRight.j1, e1, if_neg h0, if_neg h2, if_neg h3, if_neg h4]; cases b <;> simp
      · simp [h0, h1, h2, h3, h4]
  have hI : impl_IsInt.f x.f1 = some (decide (-2147483648 ≤ x.f1 ∧ x.f1 ≤ 2147483647)) := by unfold impl_IsInt.f; rw [impl_in]; rfl
  have key : ∀ b : Bool, (∀ k, K ≤ k → impl_Out_isRight.f (k + 2) x.f0 x.f1 x.f2 x.f3 x.f4 = impl_Out_isRight.j0 (k + 2) b x.f0 x.f1 x.f2 x.f3 x.f4) →
      (b = false ↔ (x.f0 = 1 ∨ x.f1 = 0) ∧ (-2147483648 ≤ x.f1 ∧ x.f1 ≤ 2147483647) ∧ (x.f0 = 2 ∨ x.f2.toList = []) ∧ (x.f0 = 4 ∨ x.f3.length = 0)) →
      ∃ b, Ev (fun k => impl_Out_isRight.f k x.f0 x.f1 x.f2 x.f3 x.f4) b ∧ (b = true ↔ NodeOK x) := by
    intro b h hb
    refine ⟨!b && c, ev_mk (K + 2) fun k hk => ?_, ?_⟩
    · obtain ⟨m, rfl⟩ : ∃ m, k = m + 2 := ⟨k - 2, by omega⟩
      rw [h m (by omega), hc b m (by omega)]
    · unfold NodeOK
      rw [Bool.and_eq_true, hc']
      have : (!b) = true ↔ b = false := by cases b <;> simp
      rw [this, hb]
      constructor
      · rintro ⟨⟨a1, a2, a3, a4⟩, a5⟩; exact ⟨a1, a2, a3, a4, a5⟩
      · rintro ⟨a1, a2, a3, a4, a5⟩; exact ⟨⟨a1, a2, a3, a4⟩, a5⟩
  have tail : (x.f0 = 1 ∨ x.f1 = 0) → (-2147483648 ≤ x.f1 ∧ x.f1 ≤ 2147483647) → ∃ b, (∀ k, K ≤ k → impl_Out_isRight.f (k + 2) x.f0 x.f1 x.f2 x.f3 x.f4 = impl_Out_isRight.j0 (k + 2) b x.f0 x.f1 x.f2 x.f3 x.f4) ∧
      (b = false ↔ (x.f0 = 2 ∨ x.f2.toList = []) ∧ (x.f0 = 4 ∨ x.f3.length = 0)) := by
    intro ha hb
    by_cases h1 : x.f0 = 2
    · refine ⟨decide ((x.f3.length : Int) > 0), fun k _ => ?_, ?_⟩
      · unfold impl_Out_isRight.f
        rw [hI]; simp only [Option.bind_some, decide_eq_true hb, if_true, if_pos h1, if_neg (show ¬ x.f0 = 4 by omega)]
        by_cases hz : x.f0 = 1
        · rw [if_pos hz]
        · rw [if_neg hz, if_pos (ha.resolve_left hz)]
      · rw [h1]; simp; try omega
    · by_cases h2 : x.f2.toList = []
      · by_cases h4 : x.f0 = 4
        · refine ⟨false, fun k _ => ?_, by simp [h2, h4]⟩
          unfold impl_Out_isRight.f
          rw [hI]; simp only [Option.bind_some, decide_eq_true hb, if_true, if_neg h1, if_pos h2, if_pos h4]
          by_cases hz : x.f0 = 1
          · rw [if_pos hz]
          · rw [if_neg hz, if_pos (ha.resolve_left hz)]
        · refine ⟨decide ((x.f3.length : Int) > 0), fun k _ => ?_, ?_⟩
          · unfold impl_Out_isRight.f
            rw [hI]; simp only [Option.bind_some, decide_eq_true hb, if_true, if_neg h1, if_pos h2, if_neg h4]
            by_cases hz : x.f0 = 1
            · rw [if_pos hz]
            · rw [if_neg hz, if_pos (ha.resolve_left hz)]
          · simp [h2, h4]; try omega
      · refine ⟨true, fun k _ => ?_, by simp [h1, h2]⟩
        unfold impl_Out_isRight.f
        rw [hI]; simp only [Option.bind_some, decide_eq_true hb, if_true, if_neg h1, if_neg h2]
        by_cases hz : x.f0 = 1
        · rw [if_pos hz]
        · rw [if_neg hz, if_pos (ha.resolve_left hz)]
  by_cases ha : x.f0 = 1 ∨ x.f1 = 0
  · by_cases hb : -2147483648 ≤ x.f1 ∧ x.f1 ≤ 2147483647
    · obtain ⟨b, h1, h2⟩ := tail ha hb
      exact key b h1 (h2.trans ⟨fun h => ⟨ha, hb, h⟩, fun h => h.2.2⟩)
    · refine key true (fun k _ => ?_) ⟨fun h => (by cases h), fun h => absurd h.2.1 hb⟩
      unfold impl_Out_isRight.f
      rw [hI]; simp only [Option.bind_some, decide_eq_false hb]
      by_cases hz : x.f0 = 1
      · rw [if_pos hz]; rfl
      · rw [if_neg hz, if_pos (ha.resolve_left hz)]; rfl
  · refine key true (fun k _ => ?_) ⟨fun h => (by cases h), fun h => absurd h.1 ha⟩
    unfold impl_Out_isRight.f
    rw [if_neg (fun h => ha (.inl h)), if_neg (fun h => ha (.inr h))]
theorem spec_in_text (l : List ByteArray) (t : ByteArray) (hl : l.length ≤ 1048576) : ∃ r, Ev (fun k => spec_l04In.f k l t) r ∧ (r = true ↔ ∃ j, j < l.length ∧ (l.getD j ByteArray.empty).toList = t.toList) := by
  obtain ⟨r, hr, he⟩ := count_loop l.length (fun k i => spec_l04In.l0 k l t i) (fun j r => r = true ↔ ∃ j', j ≤ j' ∧ j' < l.length ∧ (l.getD j' ByteArray.empty).toList = t.toList)
    ⟨false, ⟨fun h => (by cases h), fun ⟨j', h1, h2, _⟩ => by omega⟩, ev_now ⟨0, fun k _ => by simp only [spec_l04In.l0]; rw [if_neg (by omega)]⟩⟩
    (fun j hj r hr he => by
      have hd : rdOf ByteArray.empty l (j : Int) = l.getD j ByteArray.empty := rfl
      by_cases hc : (l.getD j ByteArray.empty).toList = t.toList
      · exact ⟨true, ⟨fun _ => ⟨j, Nat.le_refl _, hj, hc⟩, fun _ => rfl⟩, ev_now ⟨0, fun k _ => by simp only [spec_l04In.l0]; rw [if_pos (by omega), if_pos (by omega), hd, if_pos hc]⟩⟩
      · refine ⟨r, hr.trans ⟨fun ⟨j', h1, h2, h3⟩ => ⟨j', by omega, h2, h3⟩, fun ⟨j', h1, h2, h3⟩ => ?_⟩, ev_step ⟨0, fun k _ => by simp only [spec_l04In.l0]; rw [if_pos (by omega), if_pos (by omega), hd, if_neg hc, wsucc hj (by omega)]⟩ he⟩
        rcases Nat.lt_or_eq_of_le h1 with h4 | rfl
        · exact ⟨j', h4, h2, h3⟩
        · exact absurd h3 hc) 0 (by omega)
  exact ⟨r, ev_same ⟨0, fun k _ => by unfold spec_l04In.f; rfl⟩ he, hr.trans ⟨fun ⟨j, _, h2, h3⟩ => ⟨j, h2, h3⟩, fun ⟨j, h2, h3⟩ => ⟨j, by omega, h2, h3⟩⟩⟩
/-- The reference's answer. -/
theorem spec_ok : ∀ (n : Nat) (x : S46) (d : Nat), SmO n x → d ≤ 20 → ∃ c b, Ev (fun k => spec_l08OK.f k x.f0 x.f1 x.f2 x.f3 x.f4 (d : Int)) (c, b) ∧ (b = true ↔ RtO n d x ∧ cntO n x ≤ 4000) ∧ (b = true → c = (cntO n x : Int)) := by
  intro n
  induction n with
  | zero => intro x d h; exact h.elim
  | succ n ih =>
    intro x d hs hd
    obtain ⟨h2, ⟨h3, h3'⟩, h4, h5⟩ := hs
    by_cases hz : d = 0
    · subst hz
      exact ⟨0, false, ev_now ⟨0, fun k _ => by simp only [spec_l08OK.f]; rfl⟩, ⟨fun h => (by cases h), fun h => absurd h.1.1 (by omega)⟩, fun h => (by cases h)⟩
    have hz' : ¬ (d : Int) = 0 := by omega
    have start : ∀ c b, Ev (fun k => spec_l08OK.j0 k (d : Int) (decide (x.f3.length = 0) && decide (x.f4.length = 0)) x.f0 x.f1 x.f2 x.f3 x.f4) (c, b) → Ev (fun k => spec_l08OK.f k x.f0 x.f1 x.f2 x.f3 x.f4 (d : Int)) (c, b) := by
      intro c b h
      refine ev_step ⟨0, fun k _ => ?_⟩ h
      simp only [spec_l08OK.f, if_neg hz']
      by_cases e3 : x.f3.length = 0
      · rw [if_pos (by omega)]
        congr 1
        rw [decide_eq_true e3, Bool.true_and, Bool.eq_iff_iff]; simp
      · rw [if_neg (by omega), decide_eq_false e3, Bool.false_and]
    obtain ⟨t, et, _, ht⟩ := names_ev x.f2 h2
    obtain ⟨K, hK⟩ := ev_at et
    have hI : spec_IsInt.f x.f1 = some (decide (-2147483648 ≤ x.f1 ∧ x.f1 ≤ 2147483647)) := by unfold spec_IsInt.f; rw [spec_in]; rfl
    have leaf : ∀ b : Bool, (∀ k, K ≤ k → spec_l08OK.j0 (k + 1) (d : Int) (decide (x.f3.length = 0) && decide (x.f4.length = 0)) x.f0 x.f1 x.f2 x.f3 x.f4 = some (1, b)) → (x.f0 = 0 ∨ x.f0 = 1 ∨ x.f0 = 2) → (b = true ↔ NodeOK x) →
        ∃ c b, Ev (fun k => spec_l08OK.f k x.f0 x.f1 x.f2 x.f3 x.f4 (d : Int)) (c, b) ∧ (b = true ↔ RtO (n + 1) d x ∧ cntO (n + 1) x ≤ 4000) ∧ (b = true → c = (cntO (n + 1) x : Int)) := by
      intro b h hk hb
      have em : NodeOK x → x.f3.length = 0 ∧ x.f4.length = 0 := by
        rintro ⟨_, _, _, a4, a5⟩
        have : x.f3.length = 0 := a4.resolve_left (by omega)
        refine ⟨this, ?_⟩
        rcases a5 with a5 | a5 | a5 | a5
        · exact a5.2
        · exact a5.2.2
        · omega
        · omega
      have c1 : NodeOK x → cntO (n + 1) x = 1 := by
        intro hn
        show 1 + (x.f4.map (cntO n)).sum = 1
        rw [List.length_eq_zero_iff.1 (em hn).2]; rfl
      refine ⟨1, b, start _ _ (ev_now ⟨K, h⟩), ⟨fun h' => ?_, fun h' => hb.2 h'.1.2.1⟩, fun h' => ?_⟩
      · have hn := hb.1 h'
        refine ⟨⟨by omega, hn, fun j hj => ?_, fun y hy => ?_⟩, by rw [c1 hn]; omega⟩
        · have := (em hn).1; omega
        · rw [List.length_eq_zero_iff.1 (em hn).2] at hy; cases hy
      · rw [c1 (hb.1 h')]; rfl
    by_cases k0 : x.f0 = 0
    · refine leaf (decide (x.f3.length = 0) && decide (x.f4.length = 0) && decide (x.f1 = 0) && decide (x.f2.toList = [])) (fun k _ => ?_) (.inl k0) ?_
      · simp only [spec_l08OK.j0, if_pos k0]
        cases (decide (x.f3.length = 0) && decide (x.f4.length = 0))
        · simp
        · by_cases e : x.f1 = 0
          · simp only [if_true, if_pos e, decide_eq_true e, Bool.true_and]; rw [isEmpty_iff]
          · simp [e]
      · unfold NodeOK; simp only [Bool.and_eq_true, decide_eq_true_eq, k0]
        constructor
        · rintro ⟨⟨⟨a, b⟩, c⟩, e⟩; exact ⟨.inr c, by omega, .inr e, .inr a, .inl ⟨.inl (by trivial), b⟩⟩
        · rintro ⟨a, b, c, e, f⟩
          refine ⟨⟨⟨by omega, ?_⟩, by omega⟩, c.resolve_left (by omega)⟩
          rcases f with f | f | f | f
          · exact f.2
          · omega
          · omega
          · omega
    by_cases k1 : x.f0 = 1
    · refine leaf (decide (x.f3.length = 0) && decide (x.f4.length = 0) && decide (-2147483648 ≤ x.f1 ∧ x.f1 ≤ 2147483647) && decide (x.f2.toList = [])) (fun k _ => ?_) (.inr (.inl k1)) ?_
      · simp only [spec_l08OK.j0, if_neg k0, if_pos k1, hI, Option.bind_some]
        cases (decide (x.f3.length = 0) && decide (x.f4.length = 0))
        · simp
        · by_cases e : -2147483648 ≤ x.f1 ∧ x.f1 ≤ 2147483647
          · simp only [if_true, decide_eq_true e, Bool.true_and]; rw [isEmpty_iff]
          · simp [decide_eq_false e]
      · unfold NodeOK; simp only [Bool.and_eq_true, decide_eq_true_eq, k1]
        constructor
        · rintro ⟨⟨⟨a, b⟩, c⟩, e⟩; exact ⟨.inl (by trivial), c, .inr e, .inr a, .inl ⟨.inr (by trivial), b⟩⟩
        · rintro ⟨a, b, c, e, f⟩
          refine ⟨⟨⟨by omega, ?_⟩, b⟩, c.resolve_left (by omega)⟩
          rcases f with f | f | f | f
          · exact f.2
          · omega
          · omega
          · omega
    by_cases k2 : x.f0 = 2
    · refine leaf (decide (x.f3.length = 0) && decide (x.f4.length = 0) && decide (x.f1 = 0) && t) (fun k hk => ?_) (.inr (.inr k2)) ?_
      · simp only [spec_l08OK.j0, if_neg k0, if_neg k1, if_pos k2]
        cases (decide (x.f3.length = 0) && decide (x.f4.length = 0))
        · simp
        · by_cases e : x.f1 = 0
          · simp only [if_true, if_pos e, decide_eq_true e, Bool.true_and, hK k hk, Option.bind_some]
          · simp [e]
      · unfold NodeOK; simp only [Bool.and_eq_true, decide_eq_true_eq, k2, ht]
        constructor
        · rintro ⟨⟨⟨a, b⟩, c⟩, e⟩; exact ⟨.inr c, by omega, .inl (by trivial), .inr a, .inr (.inl ⟨by trivial, e, b⟩)⟩
        · rintro ⟨a, b, c, e, f⟩
          rcases f with f | f | f | f
          · omega
          · exact ⟨⟨⟨by omega, f.2.2⟩, by omega⟩, f.2.1⟩
          · omega
          · omega
    -- lists and objects
    have bad : ∀ (hn : ¬ NodeOK x), Ev (fun k => spec_l08OK.j1 k (d : Int) true x.f0 x.f1 x.f2 x.f3 x.f4) (0, false) := fun _ => ev_now ⟨0, fun k _ => by simp only [spec_l08OK.j1]; rfl⟩
    have node : NodeOK x ↔ x.f1 = 0 ∧ x.f2.toList = [] ∧ (x.f0 = 3 ∧ x.f3.length = 0 ∨ x.f0 = 4 ∧ x.f3.length = x.f4.length) := by
      unfold NodeOK
      constructor
      · rintro ⟨a, b, c, e, f⟩
        refine ⟨a.resolve_left k1, c.resolve_left k2, ?_⟩
        rcases f with f | f | f | f
        · omega
        · omega
        · exact .inl ⟨f, e.resolve_left (by omega)⟩
        · exact .inr f
      · rintro ⟨a, c, f⟩
        refine ⟨.inr a, by omega, .inr c, ?_, ?_⟩
        · rcases f with f | f
          · exact .inr f.2
          · exact .inl f.1
        · rcases f with f | f
          · exact .inr (.inr (.inl f.1))
          · exact .inr (.inr (.inr f))
    obtain ⟨q, hq, hq'⟩ : ∃ q : Bool, (∀ k, spec_l08OK.j0 (k + 1) (d : Int) (decide (x.f3.length = 0) && decide (x.f4.length = 0)) x.f0 x.f1 x.f2 x.f3 x.f4 = spec_l08OK.j1 k (d : Int) q x.f0 x.f1 x.f2 x.f3 x.f4) ∧ (q = false ↔ NodeOK x) := by
      rw [node]
      by_cases e1 : x.f1 = 0
      · by_cases e2 : x.f2.toList = []
        · by_cases k3 : x.f0 = 3
          · by_cases e3 : x.f3.length = 0
            · exact ⟨false, fun k => by simp only [spec_l08OK.j0, if_neg k0, if_neg k1, if_neg k2, if_pos k3, if_pos e1, if_pos e2]; rw [if_neg (by omega), if_neg (by omega)], by simp [e1, e2, k3, e3]⟩
            · exact ⟨true, fun k => by simp only [spec_l08OK.j0, if_neg k0, if_neg k1, if_neg k2, if_pos k3, if_pos e1, if_pos e2]; rw [if_pos (by omega)], by simp [k3, List.length_eq_zero_iff] at e3 ⊢; intro _ _; exact e3⟩
          · by_cases k4 : x.f0 = 4
            · refine ⟨(x.f3.length : Int) != (x.f4.length : Int), fun k => by simp only [spec_l08OK.j0, if_neg k0, if_neg k1, if_neg k2, if_neg k3, if_pos k4, if_pos e1, if_pos e2], ?_⟩
              simp [e1, e2, k4]; omega
            · exact ⟨true, fun k => by simp only [spec_l08OK.j0, if_neg k0, if_neg k1, if_neg k2, if_neg k3, if_neg k4], by simp [k3, k4]⟩
        · refine ⟨true, fun k => ?_, by simp [e2]⟩
          simp only [spec_l08OK.j0, if_neg k0, if_neg k1, if_neg k2, if_pos e1, if_neg e2]
          by_cases k3 : x.f0 = 3
          · rw [if_pos k3]
          · rw [if_neg k3]; by_cases k4 : x.f0 = 4
            · rw [if_pos k4]
            · rw [if_neg k4]
      · refine ⟨true, fun k => ?_, by simp [e1]⟩
        simp only [spec_l08OK.j0, if_neg k0, if_neg k1, if_neg k2, if_neg e1]
        by_cases k3 : x.f0 = 3
        · rw [if_pos k3]
        · rw [if_neg k3]; by_cases k4 : x.f0 = 4
          · rw [if_pos k4]
          · rw [if_neg k4]
    by_cases hN : NodeOK x
    case neg =>
      have : q = true := by cases q with
        | true => rfl
        | false => exact absurd (hq'.1 rfl) hN
      subst this
      exact ⟨0, false, start _ _ (ev_step ⟨0, fun k _ => hq k⟩ (bad hN)), ⟨fun h => (by cases h), fun h => absurd h.1.2.1 hN⟩, fun h => (by cases h)⟩
    have q0 := hq'.2 hN
    subst q0
    have hN' := node.1 hN
    have hlen : ∀ j, j < x.f4.length → x.f0 = 4 → j < x.f3.length := by
      intro j hj h4'
      rcases hN'.2.2 with f | f
      · omega
      · omega
    obtain ⟨r, ⟨hr1, hr2⟩, he⟩ := state_loop2 (ρ := Int × Bool) x.f4.length (fun k s i => spec_l08OK.l0 k (d : Int) s i x.f0 x.f1 x.f2 x.f3 x.f4)
      (fun j s => s = 1 + (((x.f4.take j).map (cntO n)).sum : Int) ∧ s ≤ 4000 ∧ ∀ i, i < j → (x.f0 = 4 → KeyOK x i) ∧ RtO n (d - 1) (x.f4.getD i z46))
      (fun r => (r.2 = true ↔ (∀ i, i < x.f4.length → (x.f0 = 4 → KeyOK x i) ∧ RtO n (d - 1) (x.f4.getD i z46)) ∧ cntO (n + 1) x ≤ 4000) ∧ (r.2 = true → r.1 = (cntO (n + 1) x : Int)))
      (fun s hi => by
        have e : cntO (n + 1) x = 1 + ((x.f4.take x.f4.length).map (cntO n)).sum := by rw [psum_len]; rfl
        refine ⟨(s, true), ⟨⟨fun _ => ⟨hi.2.2, by omega⟩, fun _ => rfl⟩, fun _ => by show s = _; omega⟩, ev_now ⟨0, fun k _ => by simp only [spec_l08OK.l0]; rw [if_neg (by omega)]⟩⟩)
      (fun j s hj hi => by
        obtain ⟨i1, i2, i3⟩ := hi
        have hm := getD_mem x.f4 z46 j hj
        have no : (¬ (x.f0 = 4 → KeyOK x j)) → Ev (fun k => spec_l08OK.l0 k (d : Int) s (j : Int) x.f0 x.f1 x.f2 x.f3 x.f4) (0, false) → ∃ r : Int × Bool, ((r.2 = true ↔ (∀ i, i < x.f4.length → (x.f0 = 4 → KeyOK x i) ∧ RtO n (d - 1) (x.f4.getD i z46)) ∧ cntO (n + 1) x ≤ 4000) ∧ (r.2 = true → r.1 = (cntO (n + 1) x : Int))) ∧ Ev (fun k => spec_l08OK.l0 k (d : Int) s (j : Int) x.f0 x.f1 x.f2 x.f3 x.f4) r :=
          fun hn he => ⟨(0, false), ⟨⟨fun h => (by cases h), fun h => absurd (h.1 j hj).1 hn⟩, fun h => (by cases h)⟩, he⟩
        -- behind the key
        have item : (x.f0 = 4 → KeyOK x j) → ∀ (m : Nat), (∃ K, ∀ k, K ≤ k → spec_l08OK.l0 (k + m) (d : Int) s (j : Int) x.f0 x.f1 x.f2 x.f3 x.f4 = spec_l08OK.j3 k (d : Int) s (j : Int) false x.f0 x.f1 x.f2 x.f3 x.f4) → 0 < m →
            (∃ r : Int × Bool, ((r.2 = true ↔ (∀ i, i < x.f4.length → (x.f0 = 4 → KeyOK x i) ∧ RtO n (d - 1) (x.f4.getD i z46)) ∧ cntO (n + 1) x ≤ 4000) ∧ (r.2 = true → r.1 = (cntO (n + 1) x : Int))) ∧ Ev (fun k => spec_l08OK.l0 k (d : Int) s (j : Int) x.f0 x.f1 x.f2 x.f3 x.f4) r) ∨
            ∃ s', (s' = 1 + (((x.f4.take (j + 1)).map (cntO n)).sum : Int) ∧ s' ≤ 4000 ∧ ∀ i, i < j + 1 → (x.f0 = 4 → KeyOK x i) ∧ RtO n (d - 1) (x.f4.getD i z46)) ∧ ∀ r, Ev (fun k => spec_l08OK.l0 k (d : Int) s' ((j + 1 : Nat) : Int) x.f0 x.f1 x.f2 x.f3 x.f4) r → Ev (fun k => spec_l08OK.l0 k (d : Int) s (j : Int) x.f0 x.f1 x.f2 x.f3 x.f4) r := by
          intro hk m ⟨K1, hK1⟩ hm0
          have hw : wrap64 ((d : Int) - 1) = ((d - 1 : Nat) : Int) := by unfold wrap64; omega
          obtain ⟨c, b, e, hb, hc⟩ := ih (x.f4.getD j z46) (d - 1) (h5 _ hm) (by omega)
          obtain ⟨K2, hK2⟩ := ev_at e
          have ps := psum_succ (cntO n) x.f4 z46 j hj
          have hle := psum_le (cntO n) x.f4 (j + 1)
          have hcn : cntO (n + 1) x = 1 + (x.f4.map (cntO n)).sum := rfl
          have fail : (¬ (RtO n (d - 1) (x.f4.getD j z46) ∧ cntO (n + 1) x ≤ 4000)) → (∃ K, ∀ k, K ≤ k → spec_l08OK.j3 (k + 1) (d : Int) s (j : Int) false x.f0 x.f1 x.f2 x.f3 x.f4 = some (0, false)) → (∃ r : Int × Bool, ((r.2 = true ↔ (∀ i, i < x.f4.length → (x.f0 = 4 → KeyOK x i) ∧ RtO n (d - 1) (x.f4.getD i z46)) ∧ cntO (n + 1) x ≤ 4000) ∧ (r.2 = true → r.1 = (cntO (n + 1) x : Int))) ∧ Ev (fun k => spec_l08OK.l0 k (d : Int) s (j : Int) x.f0 x.f1 x.f2 x.f3 x.f4) r) := by
            intro hn ⟨K3, hK3⟩
            refine ⟨(0, false), ⟨⟨fun h => (by cases h), fun h => absurd ⟨(h.1 j hj).2, h.2⟩ hn⟩, fun h => (by cases h)⟩, ev_mk (K1 + K3 + m + 1) fun k hk => ?_⟩
            obtain ⟨p, rfl⟩ : ∃ p, k = (p + 1) + m := ⟨k - m - 1, by omega⟩
            rw [hK1 _ (by omega), hK3 _ (by omega)]
          have e3 : ∀ k, K2 ≤ k → spec_l08OK.j3 (k + 1) (d : Int) s (j : Int) false x.f0 x.f1 x.f2 x.f3 x.f4 = (if b = true then (if (wrap64 (s + c)) > 4000 then (some (0, false)) else (spec_l08OK.l0 k (d : Int) (wrap64 (s + c)) (wrap64 ((j : Int) + 1)) x.f0 x.f1 x.f2 x.f3 x.f4)) else (some (0, false))) := by
            intro k hk
            simp only [spec_l08OK.j3]
            rw [if_neg (by simp), if_pos (by omega), if_pos (by omega), show rd_T46 x.f4 (j : Int) = x.f4.getD j z46 from rfl, hw, hK2 k hk]; rfl
          cases b with
          | false =>
            refine .inl (fail (fun h => ?_) ⟨K2, fun k hk => by rw [e3 k hk]; rfl⟩)
            have := hb.2 ⟨h.1, by omega⟩
            cases this
          | true =>
            obtain ⟨g1, g2⟩ := hb.1 rfl
            have hc' := hc rfl
            have hw2 : wrap64 (s + c) = s + c := by unfold wrap64; omega
            by_cases h40 : s + c > 4000
            · exact .inl (fail (fun h => by omega) ⟨K2, fun k hk => by rw [e3 k hk, hw2, if_pos h40]; rfl⟩)
            · refine .inr ⟨s + c, ⟨by omega, by omega, fun i hi => ?_⟩, fun r hr => ev_shift (m + 1) ⟨K1 + K2, fun k hk => ?_⟩ hr⟩
              · rcases Nat.lt_or_eq_of_le (Nat.le_of_lt_succ hi) with h' | rfl
                · exact i3 i h'
                · exact ⟨hk, g1⟩
              · rw [show k + (m + 1) = (k + 1) + m by omega, hK1 _ (by omega), e3 k (by omega), hw2, if_neg h40, wsucc hj (by omega)]; rfl
        by_cases k4 : x.f0 = 4
        · have hj3 := hlen j hj k4
          have hsz := h3' _ (getD_mem x.f3 ByteArray.empty j hj3)
          obtain ⟨t1, e1, _, ht1⟩ := names_ev (x.f3.getD j ByteArray.empty) hsz
          obtain ⟨K1, hK1⟩ := ev_at e1
          have hrd : rdOf ByteArray.empty x.f3 (j : Int) = x.f3.getD j ByteArray.empty := rfl
          cases t1 with
          | false =>
            refine .inl (no (fun h => by cases ht1.2 (h k4).1) (ev_mk (K1 + 2) fun k hk => ?_))
            obtain ⟨m, rfl⟩ : ∃ m, k = m + 2 := ⟨k - 2, by omega⟩
            simp only [spec_l08OK.l0, spec_l08OK.j3]
            rw [if_pos (by omega), if_pos k4, if_pos (by omega), if_pos (by omega), hrd, hK1 (m + 1) (by omega)]; rfl
          | true =>
            obtain ⟨t2, e2, ht2⟩ := spec_in_text (x.f3.take j) (x.f3.getD j ByteArray.empty) (by rw [List.length_take]; omega)
            obtain ⟨K2, hK2⟩ := ev_at e2
            have hl0 : ∀ k, K1 + K2 ≤ k → spec_l08OK.l0 (k + 1) (d : Int) s (j : Int) x.f0 x.f1 x.f2 x.f3 x.f4 = spec_l08OK.j3 k (d : Int) s (j : Int) t2 x.f0 x.f1 x.f2 x.f3 x.f4 := by
              intro k hk
              simp only [spec_l08OK.l0]
              rw [if_pos (by omega), if_pos k4, if_pos (by omega), if_pos (by omega), hrd, hK1 k (by omega)]; simp only [Option.bind_some, if_true]
              rw [if_pos (by omega), Int.toNat_natCast, hK2 k (by omega)]; rfl
            have htk : ∀ i, i < j → (x.f3.take j).getD i ByteArray.empty = x.f3.getD i ByteArray.empty := by
              intro i hi
              rw [List.getD_eq_getElem?_getD, List.getD_eq_getElem?_getD, List.getElem?_take_of_lt hi]
            cases t2 with
            | true =>
              refine .inl (no (fun h => ?_) (ev_mk (K1 + K2 + 2) fun k hk => ?_))
              · obtain ⟨i, hi, e⟩ := ht2.1 rfl
                rw [List.length_take] at hi
                rw [htk i (by omega)] at e
                exact (h k4).2 i (by omega) e
              · obtain ⟨m, rfl⟩ : ∃ m, k = m + 2 := ⟨k - 2, by omega⟩
                rw [hl0 (m + 1) (by omega)]; simp only [spec_l08OK.j3]; rfl
            | false =>
              have hk : x.f0 = 4 → KeyOK x j := fun _ => ⟨ht1.1 rfl, fun i hi e => by
                have := ht2.2 ⟨i, by rw [List.length_take]; omega, by rw [htk i hi]; exact e⟩
                cases this⟩
              rcases item hk 1 ⟨K1 + K2, hl0⟩ (by omega) with h | h
              · exact .inl h
              · exact .inr h
        · have hk : x.f0 = 4 → KeyOK x j := fun h => absurd h k4
          rcases item hk 1 ⟨0, fun k _ => by simp only [spec_l08OK.l0]; rw [if_pos (by omega), if_neg k4]⟩ (by omega) with h | h
          · exact .inl h
          · exact .inr h) 0 1 (by omega) ⟨by simp, by omega, fun i hi => by omega⟩
    refine ⟨r.1, r.2, start _ _ (ev_step ⟨0, fun k _ => hq k⟩ (ev_step ⟨0, fun k _ => by simp only [spec_l08OK.j1]; rw [if_neg (by simp)]; rfl⟩ he)), hr1.trans ⟨fun h => ⟨⟨by omega, hN, fun j hj => ?_, fun y hy => ?_⟩, h.2⟩, fun h => ⟨fun i hi => ⟨fun h4' => h.1.2.2.1 i (hlen i hi h4'), h.1.2.2.2 _ (getD_mem x.f4 _ i hi)⟩, h.2⟩⟩, hr2⟩
    · rcases hN'.2.2 with f | f
      · omega
      · exact (h.1 j (by omega)).1 f.1
    · obtain ⟨i, hi, rfl⟩ := List.getElem_of_mem hy
      have := (h.1 i hi).2
      rw [List.getD_eq_getElem?_getD, List.getElem?_eq_getElem hi] at this
      exact this
/-- The program's answer. -/
theorem impl_ok : ∀ (n : Nat) (x : S46) (d rm : Nat), SmO n x → d ≤ 20 → rm ≤ 4000 → ∃ b r, Ev (fun k => impl_Out_okAt.f k x.f0 x.f1 x.f2 x.f3 x.f4 (20 - (d : Int)) (rm : Int)) (b, r) ∧ (b = true ↔ RtO n d x ∧ cntO n x ≤ rm) ∧ (b = true → r = (rm : Int) - (cntO n x : Int)) := by
  intro n
  induction n with
  | zero => intro x d rm h; exact h.elim
  | succ n ih =>
    intro x d rm hs hd hrm
    obtain ⟨h2, ⟨h3, h3'⟩, h4, h5⟩ := hs
    have hw : wrap64 ((rm : Int) - 1) = (rm : Int) - 1 := by unfold wrap64; omega
    have hcn : cntO (n + 1) x = 1 + (x.f4.map (cntO n)).sum := rfl
    have fail : (¬ (RtO (n + 1) d x ∧ cntO (n + 1) x ≤ rm)) → Ev (fun k => impl_Out_okAt.f k x.f0 x.f1 x.f2 x.f3 x.f4 (20 - (d : Int)) (rm : Int)) (false, (rm : Int) - 1) → ∃ b r, Ev (fun k => impl_Out_okAt.f k x.f0 x.f1 x.f2 x.f3 x.f4 (20 - (d : Int)) (rm : Int)) (b, r) ∧ (b = true ↔ RtO (n + 1) d x ∧ cntO (n + 1) x ≤ rm) ∧ (b = true → r = (rm : Int) - (cntO (n + 1) x : Int)) :=
      fun hn he => ⟨false, _, he, ⟨fun h => (by cases h), fun h => absurd h hn⟩, fun h => (by cases h)⟩
    by_cases hr0 : rm = 0
    · refine fail (fun h => by omega) (ev_mk 2 fun k hk => ?_)
      obtain ⟨m, rfl⟩ : ∃ m, k = m + 2 := ⟨k - 2, by omega⟩
      simp only [impl_Out_okAt.f, impl_Out_okAt.j0, if_true]
      rw [hw, if_pos (by omega)]
    by_cases hz : d = 0
    · refine fail (fun h => by have := h.1.1; omega) (ev_mk 2 fun k hk => ?_)
      obtain ⟨m, rfl⟩ : ∃ m, k = m + 2 := ⟨k - 2, by omega⟩
      simp only [impl_Out_okAt.f, impl_Out_okAt.j0, if_true]
      rw [hw, if_neg (by omega), if_pos (by omega)]
    obtain ⟨b, eb, hb⟩ := right_ok x h2
    obtain ⟨K, hK⟩ := ev_at eb
    have head : ∀ k, K ≤ k → impl_Out_okAt.f (k + 1) x.f0 x.f1 x.f2 x.f3 x.f4 (20 - (d : Int)) (rm : Int) = impl_Out_okAt.j0 k (20 - (d : Int)) (!b) ((rm : Int) - 1) x.f0 x.f1 x.f2 x.f3 x.f4 := by
      intro k hk
      simp only [impl_Out_okAt.f]
      rw [hw, if_neg (by omega), if_neg (by omega), hK k hk]; rfl
    cases b with
    | false =>
      refine fail (fun h => by cases hb.2 h.1.2.1) (ev_mk (K + 2) fun k hk => ?_)
      obtain ⟨m, rfl⟩ : ∃ m, k = m + 2 := ⟨k - 2, by omega⟩
      rw [head (m + 1) (by omega)]; simp only [impl_Out_okAt.j0]; rfl
    | true =>
      have hN := hb.1 rfl
      -- the items
      obtain ⟨r, ⟨hr1, hr2⟩, he⟩ := state_loop2 (ρ := Bool × Int) x.f4.length (fun k s i => impl_Out_okAt.l1 k (20 - (d : Int)) x.f4 (x.f4.length : Int) i s)
        (fun j s => s = (rm : Int) - 1 - (((x.f4.take j).map (cntO n)).sum : Int) ∧ 0 ≤ s ∧ ∀ i, i < j → RtO n (d - 1) (x.f4.getD i z46))
        (fun r => (r.1 = true ↔ (∀ i, i < x.f4.length → RtO n (d - 1) (x.f4.getD i z46)) ∧ cntO (n + 1) x ≤ rm) ∧ (r.1 = true → r.2 = (rm : Int) - (cntO (n + 1) x : Int)))
        (fun s hi => by
          have e : ((x.f4.take x.f4.length).map (cntO n)).sum = (x.f4.map (cntO n)).sum := psum_len _ _
          exact ⟨(true, s), ⟨⟨fun _ => ⟨hi.2.2, by omega⟩, fun _ => rfl⟩, fun _ => by show s = _; omega⟩, ev_now ⟨0, fun k _ => by simp only [impl_Out_okAt.l1]; rw [if_neg (by omega)]⟩⟩)
        (fun j s hj hi => by
          obtain ⟨i1, i2, i3⟩ := hi
          have hm := getD_mem x.f4 z46 j hj
          have ps := psum_succ (cntO n) x.f4 z46 j hj
          have hle := psum_le (cntO n) x.f4 (j + 1)
          have hw2 : wrap64 (20 - (d : Int) + 1) = 20 - ((d - 1 : Nat) : Int) := by unfold wrap64; omega
          obtain ⟨c, t, e, hc, ht⟩ := ih (x.f4.getD j z46) (d - 1) s.toNat (h5 _ hm) (by omega) (by omega)
          rw [show ((s.toNat : Nat) : Int) = s by omega] at e ht
          obtain ⟨K2, hK2⟩ := ev_at e
          have step : ∀ k, K2 ≤ k → impl_Out_okAt.l1 (k + 1) (20 - (d : Int)) x.f4 (x.f4.length : Int) (j : Int) s = if c = true then impl_Out_okAt.l1 k (20 - (d : Int)) x.f4 (x.f4.length : Int) ((j + 1 : Nat) : Int) t else some (false, t) := by
            intro k hk
            simp only [impl_Out_okAt.l1]
            rw [if_pos (by omega), if_pos (by omega), if_pos (by omega), show rd_T46 x.f4 (j : Int) = x.f4.getD j z46 from rfl, hw2, hK2 k hk]; simp only [Option.bind_some]; rw [wsucc hj (by omega)]
          cases c with
          | false =>
            refine .inl ⟨(false, t), ⟨⟨fun h => (by cases h), fun h => ?_⟩, fun h => (by cases h)⟩, ev_now ⟨K2, fun k hk => by rw [step k hk]; rfl⟩⟩
            have := hc.2 ⟨h.1 j hj, by omega⟩
            cases this
          | true =>
            obtain ⟨g1, g2⟩ := hc.1 rfl
            have ht' := ht rfl
            refine .inr ⟨t, ⟨by omega, by omega, fun i hi => ?_⟩, fun r hr => ev_shift 1 ⟨K2, fun k hk => by rw [step k hk]; rfl⟩ hr⟩
            rcases Nat.lt_or_eq_of_le (Nat.le_of_lt_succ hi) with h' | rfl
            · exact i3 i h'
            · exact g1) 0 ((rm : Int) - 1) (by omega) ⟨by simp, by omega, fun i hi => by omega⟩
      obtain ⟨K2, hK2⟩ := ev_at he
      -- the keys
      have all : ∃ q : Bool × Int, (q.1 = true ↔ (∀ j, j < x.f3.length → KeyOK x j) ∧ (∀ i, i < x.f4.length → RtO n (d - 1) (x.f4.getD i z46)) ∧ cntO (n + 1) x ≤ rm) ∧ (q.1 = true → q.2 = (rm : Int) - (cntO (n + 1) x : Int)) ∧ Ev (fun k => impl_Out_okAt.l0 k (20 - (d : Int)) x.f3 (x.f3.length : Int) 0 ((rm : Int) - 1) x.f0 x.f1 x.f2 x.f3 x.f4) q := by
        obtain ⟨q, ⟨hq1, hq2⟩, hq⟩ := state_loop2 (σ := Unit) (ρ := Bool × Int) x.f3.length (fun k _ i => impl_Out_okAt.l0 k (20 - (d : Int)) x.f3 (x.f3.length : Int) i ((rm : Int) - 1) x.f0 x.f1 x.f2 x.f3 x.f4)
          (fun j _ => ∀ i, i < j → KeyOK x i)
          (fun q => (q.1 = true ↔ (∀ j, j < x.f3.length → KeyOK x j) ∧ (∀ i, i < x.f4.length → RtO n (d - 1) (x.f4.getD i z46)) ∧ cntO (n + 1) x ≤ rm) ∧ (q.1 = true → q.2 = (rm : Int) - (cntO (n + 1) x : Int)))
          (fun _ hi => ⟨r, ⟨hr1.trans ⟨fun h => ⟨hi, h⟩, fun h => h.2⟩, hr2⟩, ev_now ⟨K2, fun k hk => by simp only [impl_Out_okAt.l0]; rw [if_neg (by omega)]; exact hK2 k hk⟩⟩)
          (fun j _ hj hi => by
            have hsz := h3' _ (getD_mem x.f3 ByteArray.empty j hj)
            obtain ⟨t1, _, e1, ht1⟩ := names_ev (x.f3.getD j ByteArray.empty) hsz
            obtain ⟨K1, hK1⟩ := ev_at e1
            have hrd : rdOf ByteArray.empty x.f3 (j : Int) = x.f3.getD j ByteArray.empty := rfl
            have no : (¬ KeyOK x j) → Ev (fun k => impl_Out_okAt.l0 k (20 - (d : Int)) x.f3 (x.f3.length : Int) (j : Int) ((rm : Int) - 1) x.f0 x.f1 x.f2 x.f3 x.f4) (false, (rm : Int) - 1) → ∃ q : Bool × Int, ((q.1 = true ↔ (∀ j, j < x.f3.length → KeyOK x j) ∧ (∀ i, i < x.f4.length → RtO n (d - 1) (x.f4.getD i z46)) ∧ cntO (n + 1) x ≤ rm) ∧ (q.1 = true → q.2 = (rm : Int) - (cntO (n + 1) x : Int))) ∧ Ev (fun k => impl_Out_okAt.l0 k (20 - (d : Int)) x.f3 (x.f3.length : Int) (j : Int) ((rm : Int) - 1) x.f0 x.f1 x.f2 x.f3 x.f4) q :=
              fun hn he => ⟨(false, (rm : Int) - 1), ⟨⟨fun h => (by cases h), fun h => absurd (h.1 j hj) hn⟩, fun h => (by cases h)⟩, he⟩
            have hget : x.f3[j]? = some (x.f3.getD j ByteArray.empty) := by rw [List.getD_eq_getElem?_getD, List.getElem?_eq_getElem hj]; rfl
            have step : ∀ k, K1 ≤ k → impl_Out_okAt.l0 (k + 1) (20 - (d : Int)) x.f3 (x.f3.length : Int) (j : Int) ((rm : Int) - 1) x.f0 x.f1 x.f2 x.f3 x.f4 = if t1 = true then (if (x.f3.take j).any (fun z => z.data.toList == (x.f3.getD j ByteArray.empty).data.toList) = true then some (false, (rm : Int) - 1) else impl_Out_okAt.l0 k (20 - (d : Int)) x.f3 (x.f3.length : Int) ((j + 1 : Nat) : Int) ((rm : Int) - 1) x.f0 x.f1 x.f2 x.f3 x.f4) else some (false, (rm : Int) - 1) := by
              intro k hk
              simp only [impl_Out_okAt.l0]
              rw [if_pos (by omega), if_pos (by omega), if_pos (by omega), hrd, hK1 k hk]; simp only [Option.bind_some, Int.toNat_natCast]
              rw [if_pos (show (x.f3.getD j ByteArray.empty).size ≤ 9223372036854775807 ∧ (j : Int) < 4611686018427387904 by omega), wsucc hj (by omega)]
            cases t1 with
            | false => exact .inl (no (fun h => by cases ht1.2 h.1) (ev_now ⟨K1, fun k hk => by rw [step k hk]; rfl⟩))
            | true =>
              have hany : (x.f3.take j).any (fun z => z.data.toList == (x.f3.getD j ByteArray.empty).data.toList) = true ↔ ∃ i, i < j ∧ (x.f3.getD i ByteArray.empty).toList = (x.f3.getD j ByteArray.empty).toList := by
                rw [List.any_eq_true]
                constructor
                · rintro ⟨z, hz, e⟩
                  obtain ⟨i, hi, rfl⟩ := List.getElem_of_mem hz
                  rw [List.length_take] at hi
                  refine ⟨i, by omega, ?_⟩
                  rw [List.getElem_take] at e
                  rw [toList_data, toList_data, List.getD_eq_getElem?_getD, List.getElem?_eq_getElem (show i < x.f3.length by omega)]
                  exact eq_of_beq e
                · rintro ⟨i, hi, e⟩
                  refine ⟨x.f3.getD i ByteArray.empty, ?_, ?_⟩
                  · rw [List.mem_take_iff_getElem]
                    exact ⟨i, by omega, by rw [List.getD_eq_getElem?_getD, List.getElem?_eq_getElem (show i < x.f3.length by omega)]; rfl⟩
                  · rw [toList_data, toList_data] at e
                    rw [e]; exact beq_self_eq_true _
              by_cases ha : (x.f3.take j).any (fun z => z.data.toList == (x.f3.getD j ByteArray.empty).data.toList) = true
              · refine .inl (no (fun h => ?_) (ev_now ⟨K1, fun k hk => by rw [step k hk, if_pos rfl, if_pos ha]⟩))
                obtain ⟨i, hi, e⟩ := hany.1 ha
                exact h.2 i hi e
              · refine .inr ⟨(), fun i hi' => ?_, fun r hr => ev_shift 1 ⟨K1, fun k hk => by rw [step k hk, if_pos rfl, if_neg ha]⟩ hr⟩
                rcases Nat.lt_or_eq_of_le (Nat.le_of_lt_succ hi') with h' | rfl
                · exact hi i h'
                · exact ⟨ht1.1 rfl, fun i' hi2 e => ha (hany.2 ⟨i', hi2, e⟩)⟩) 0 () (by omega) (fun i hi => by omega)
        exact ⟨q, hq1, hq2, hq⟩
      obtain ⟨q, hq1, hq2, hq⟩ := all
      obtain ⟨K3, hK3⟩ := ev_at hq
      refine ⟨q.1, q.2, ev_mk (K + K3 + 2) fun k hk => ?_, hq1.trans ⟨fun h => ⟨⟨by omega, hN, h.1, fun y hy => ?_⟩, h.2.2⟩, fun h => ⟨h.1.2.2.1, fun i hi => h.1.2.2.2 _ (getD_mem x.f4 _ i hi), h.2⟩⟩, hq2⟩
      · obtain ⟨m, rfl⟩ : ∃ m, k = m + 2 := ⟨k - 2, by omega⟩
        rw [head (m + 1) (by omega)]; simp only [impl_Out_okAt.j0, Bool.not_true]
        rw [if_neg (by simp)]; exact hK3 m (by omega)
      · obtain ⟨i, hi, rfl⟩ := List.getElem_of_mem hy
        have := h.2.1 i hi
        rw [List.getD_eq_getElem?_getD, List.getElem?_eq_getElem hi] at this
        exact this
theorem outs_agree (n : Nat) (x : S46) (h : SmO n x) : ∃ b, Ev (fun k => spec_OutOK.f k x.f0 x.f1 x.f2 x.f3 x.f4) b ∧ Ev (fun k => impl_OutOK.f k x.f0 x.f1 x.f2 x.f3 x.f4) b ∧ (b = true ↔ RtO n 20 x ∧ cntO n x ≤ 4000) := by
  obtain ⟨c, b, e, hb, _⟩ := spec_ok n x 20 h (by omega)
  obtain ⟨b', r, e', hb', _⟩ := impl_ok n x 20 4000 h (by omega) (by omega)
  have : b' = b := by rw [Bool.eq_iff_iff, hb, hb']
  subst this
  obtain ⟨K, hK⟩ := ev_at e
  obtain ⟨K', hK'⟩ := ev_at e'
  exact ⟨b', ev_mk K fun k hk => by unfold spec_OutOK.f; rw [show (20 : Int) = ((20 : Nat) : Int) from rfl, hK k hk]; rfl, ev_mk K' fun k hk => by unfold impl_OutOK.f; rw [show (0 : Int) = 20 - ((20 : Nat) : Int) from rfl, show (4000 : Int) = ((4000 : Nat) : Int) from rfl, hK' k hk]; rfl, hb⟩
end Go.Proofs.Ytfpkooafbeejmaa.Pure2
namespace Go.Proofs.Ytfpkooafbeejmaa.Pure2
open Go.RowKit Go.Proofs.Ytfpkooafbeejmaa.Q Go.Proofs.YtfpkooafbeejmaaW.PrintWords Go.Proofs.YtfpkooafbeejmaaW.PrintLast
set_option linter.unusedVariables false
set_option linter.unusedSimpArgs false
theorem FnExactOutOK : laws_FnExactOutOK.Pure2 := by
  intro y ⟨n, hy⟩
  obtain ⟨r, he, hr⟩ := sz_out n y 1048576 (by omega) (by omega) hy
  refine Ev.rounds (r := true) ?_
  obtain ⟨K1, h1⟩ := ev_at he
  rcases hr with hr | ⟨_, _, hs⟩
  · exact ev_mk K1 fun k hk => by unfold laws_FnExactOutOK.f; rw [h1 k hk]; simp only [Option.bind_some]; rw [if_pos hr]
  · obtain ⟨K2, h2⟩ := ev_at (to_out n y hs)
    obtain ⟨b, e1, e2, _⟩ := outs_agree n (cvO n y) (sm_cvO n y hs)
    obtain ⟨K3, h3⟩ := ev_at e1
    obtain ⟨K4, h4⟩ := ev_at e2
    obtain ⟨K5, h5⟩ := ev_at (eq_out n (cvO n y) (sm_cvO n y hs))
    refine ev_mk (K1 + K2 + K3 + K4 + K5) fun k hk => ?_
    unfold laws_FnExactOutOK.f
    rw [h1 _ (by omega)]; simp only [Option.bind_some]; rw [if_neg (by omega), h2 _ (by omega)]; simp only [Option.bind_some]
    rw [h3 _ (by omega)]; simp only [Option.bind_some]; rw [h4 _ (by omega)]; simp only [Option.bind_some, bne_self_eq_false]
    rw [if_neg (by simp), h5 _ (by omega)]; rfl
end Go.Proofs.Ytfpkooafbeejmaa.Pure2
