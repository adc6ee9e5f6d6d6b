/- Texts of the claim on FnExactKeysSince, gathered by a program of this session: what the program's functions compute (proved by walks), and the plain part. -/
import Derived.Test.YtkijkmmeilaljaaKFnExactKeysSinceb
import Derived.Test.YtkijkmmeilaljaaOpens
import Derived.KernelRfl
namespace Go.Proofs.Ytkijkmmeilaljaa.Q
open Go.RowKit Go.Proofs.YtkijkmmeilaljaaW.PrintWords Go.Proofs.YtkijkmmeilaljaaW.PrintLast Go.Proofs.YtkijkmmeilaljaaW.PrintMore
attribute [local go_sem] max2_int min2_int max_two min_two max_three min_three max_four min_four   -- for this text's walks alone
set_option linter.unusedVariables false
set_option linter.unusedSimpArgs false

/-! ### impl_StoreOK: function 14 -/
mutual
def impl_StoreOK.j0 : Nat → Bool → List (List (S61)) → Int → Option (Bool)
  | 0, _, _, _ => none
  | k + 1, x16, x102000, x102001 => if x16 = true then (some false) else (impl_StoreOK.l0 k x102000 (x102000.length : Int) 0 x102000 x102001)
def impl_StoreOK.l0 : Nat → List (List (S61)) → Int → Int → List (List (S61)) → Int → Option (Bool)
  | 0, _, _, _, _, _ => none
  | k + 1, x18, x19, x20, x102000, x102001 => if x20 < x19 then (if 0 ≤ x20 then (if x20 < (x18.length : Int) then (impl_StoreOK.l1 k x20 (rd_L4 x18 x20) x18 x19 x20 (rd_L4 x18 x20) ((rd_L4 x18 x20).length : Int) 0 x102000 x102001) else (none)) else (none)) else (some true)
def impl_StoreOK.l1 : Nat → Int → List (S61) → List (List (S61)) → Int → Int → List (S61) → Int → Int → List (List (S61)) → Int → Option (Bool)
  | 0, _, _, _, _, _, _, _, _, _, _ => none
  | k + 1, x3, x4, x18, x19, x20, x25, x26, x27, x102000, x102001 => if x27 < x26 then (if 0 ≤ x27 then (if x27 < (x25.length : Int) then ((impl_within.f ((rd_T61 x25 x27).f0) 1 x102001).bind fun t106 => (if t106 = true then (if x27 > 0 then (if 0 ≤ (wrap64 (x27 - 1)) then (if (wrap64 (x27 - 1)) < (x4.length : Int) then (if ((rd_T61 x4 (wrap64 (x27 - 1))).f0) ≥ ((rd_T61 x25 x27).f0) then (some false) else ((impl_fits.f x3 ((rd_T61 x25 x27).f1)).bind fun t108 => (if t108 = true then (impl_StoreOK.l1 k x3 x4 x18 x19 x20 x25 x26 (wrap64 (x27 + 1)) x102000 x102001) else (some false)))) else (none)) else (none)) else ((impl_fits.f x3 ((rd_T61 x25 x27).f1)).bind fun t109 => (if t109 = true then (impl_StoreOK.l1 k x3 x4 x18 x19 x20 x25 x26 (wrap64 (x27 + 1)) x102000 x102001) else (some false)))) else (some false))) else (none)) else (none)) else (impl_StoreOK.l0 k x18 x19 (wrap64 (x20 + 1)) x102000 x102001)
end
def impl_StoreOK.f (k : Nat) (l0_0 : List (List (S61))) (a0_1 : Int) : Option (Bool) := if (l0_0.length : Int) = 16 then ((impl_within.f a0_1 0 100000).bind fun t102 => (impl_StoreOK.j0 k (!t102) l0_0 a0_1)) else (impl_StoreOK.j0 k true l0_0 a0_1)
set_option maxHeartbeats 8000000 in
set_option maxRecDepth 100000 in
theorem impl_StoreOK.calls (k : Nat) (A0_0 : Option Addr) (c0_0 : Nat) (l0_0 : List (List (S61))) (a0_1 : Int) (r : Bool) (w : World) (hr0_0 : Kd.C (Kd.slice 61 k61) w A0_0 l0_0.length l0_0) (hc0_0 : l0_0.length ≤ c0_0) (h : impl_StoreOK.f k l0_0 a0_1 = some r) :
    Calls Try.prog 14 #[.agg #[.slice A0_0 l0_0.length c0_0, .int .i64 a0_1]] w fun e w' => e = .returned (.bool r) ∧ Below w.heap.size w w' := by
  have hu29 := Try.underlying29
  have hu61 := Try.underlying61
  have HR0_0 := Aside0.mk hr0_0
  have HC0_0 := Aside0.mk hc0_0
  clear hr0_0 hc0_0
  have HB := Aside0.mk (Below.refl w.heap.size w)
  have H : (if (l0_0.length : Int) = 16 then ((impl_within.f a0_1 0 100000).bind fun t102 => (impl_StoreOK.j0 k (!t102) l0_0 a0_1)) else (impl_StoreOK.j0 k true l0_0 a0_1)) = some r := h
  clear h
  have HC2 := Aside0.mk H
  clear H
  go_enter Try.func14, Try.ntmps14
  go_upto_region 1 with (first | ((with_reducible refine gate_dst (N := 1) rfl ?_); refine box_event ?hg (N := 1) ?hd (cs := #[.slice A0_0 l0_0.length c0_0, .int .i64 a0_1]) (t := 29) ?hr ?_; (case hd => rfl); (case hg => rfl); (case hr => first | (go_simp; done) | (go_simp; rfl)); intro gb101 hg w3 hbox hb; have n0_ := Aside0.mk (below_step (by repeat (first | (with_reducible first | exact HB.out | apply below_alloc | apply pw_below_drewN | apply below_drew1) | exact HB.out)) hb); have n1_ := Aside0.mk (hbox); have n2_ := Aside0.mk ((by rw [hg]; exact (below_size (by repeat (first | (with_reducible first | exact HB.out | apply below_alloc | apply pw_below_drewN | apply below_drew1) | exact HB.out))) : w.heap.size ≤ gb101)); have n3_ := Aside0.mk ((by rw [hg]; exact (below_size (by repeat (first | (with_reducible first | exact HB.out | apply below_alloc | apply pw_below_drewN | apply below_drew1) | exact HB.out))) : w.heap.size ≤ gb101)); clear HB; have HB := n0_; have BK101 := n1_; have GW101 := n2_; have GE101 := n3_; clear n0_ n1_ n2_ n3_; clear hb hbox hg))
  repeat (go_quiet (first | ((with_reducible refine gate_dst (N := 1) rfl ?_); refine box_event ?hg (N := 1) ?hd (cs := #[.slice A0_0 l0_0.length c0_0, .int .i64 a0_1]) (t := 29) ?hr ?_; (case hd => rfl); (case hg => rfl); (case hr => first | (go_simp; done) | (go_simp; rfl)); intro gb101 hg w3 hbox hb; have n0_ := Aside0.mk (below_step (by repeat (first | (with_reducible first | exact HB.out | apply below_alloc | apply pw_below_drewN | apply below_drew1) | exact HB.out)) hb); have n1_ := Aside0.mk (hbox); have n2_ := Aside0.mk ((by rw [hg]; exact (below_size (by repeat (first | (with_reducible first | exact HB.out | apply below_alloc | apply pw_below_drewN | apply below_drew1) | exact HB.out))) : w.heap.size ≤ gb101)); have n3_ := Aside0.mk ((by rw [hg]; exact (below_size (by repeat (first | (with_reducible first | exact HB.out | apply below_alloc | apply pw_below_drewN | apply below_drew1) | exact HB.out))) : w.heap.size ≤ gb101)); clear HB; have HB := n0_; have BK101 := n1_; have GW101 := n2_; have GE101 := n3_; clear n0_ n1_ n2_ n3_; clear hb hbox hg)); go_upto_region 1 with (first | ((with_reducible refine gate_dst (N := 1) rfl ?_); refine box_event ?hg (N := 1) ?hd (cs := #[.slice A0_0 l0_0.length c0_0, .int .i64 a0_1]) (t := 29) ?hr ?_; (case hd => rfl); (case hg => rfl); (case hr => first | (go_simp; done) | (go_simp; rfl)); intro gb101 hg w3 hbox hb; have n0_ := Aside0.mk (below_step (by repeat (first | (with_reducible first | exact HB.out | apply below_alloc | apply pw_below_drewN | apply below_drew1) | exact HB.out)) hb); have n1_ := Aside0.mk (hbox); have n2_ := Aside0.mk ((by rw [hg]; exact (below_size (by repeat (first | (with_reducible first | exact HB.out | apply below_alloc | apply pw_below_drewN | apply below_drew1) | exact HB.out))) : w.heap.size ≤ gb101)); have n3_ := Aside0.mk ((by rw [hg]; exact (below_size (by repeat (first | (with_reducible first | exact HB.out | apply below_alloc | apply pw_below_drewN | apply below_drew1) | exact HB.out))) : w.heap.size ≤ gb101)); clear HB; have HB := n0_; have BK101 := n1_; have GW101 := n2_; have GE101 := n3_; clear n0_ n1_ n2_ n3_; clear hb hbox hg)))
  (try simp only [Act.put, List.setIfInBounds_toArray, List.set_cons_zero, List.set_cons_succ])
  go_cut [16] (fun v16 wc => ∃ (kq : Nat) (x16_1 : Bool), v16 = .bool x16_1 ∧ Aside0 (impl_StoreOK.j0 kq x16_1 l0_0 a0_1 = some r) ∧ Aside0 (kq ≤ k) ∧ Aside0 (wc.heap[gb101]? = some (.cells #[(.slice A0_0 l0_0.length c0_0), .int .i64 a0_1] 29 (0, 0))) ∧ Aside0 (Below w.heap.size w wc))
  case first =>
    have H := HC2.out
    clear HC2
    by_cases c4 : (l0_0.length : Int) = 16
    · rw [if_pos c4] at H
      have c4b0 : ((l0_0.length : Int) == 16) = true := beq_iff_eq.mpr c4
      have c4b1 : ((l0_0.length : Int) != 16) = false := bne_eq_false_iff_eq.mpr c4
      clear c4
      (first | rw [c4b0] | (simp only [i64_w, i32_w]; rw [c4b0]) | skip)
      replace H := Option.bind_eq_some_iff.mp H
      obtain ⟨t102, A50, H⟩ := H
      replace H : (impl_StoreOK.j0 k (!t102) l0_0 a0_1) = some r := H
      have A5 := Aside0.mk A50
      clear A50
      have H' := Aside0.mk H
      clear H
      have hcz6_0 : w3.cell? ⟨gb101, 0, none⟩ = some (.slice A0_0 l0_0.length c0_0) := (blk_cell BK101.out 0).trans rfl
      have hcz6_1 : w3.cell? ⟨gb101, 1, none⟩ = some (.int .i64 a0_1) := (blk_cell BK101.out 1).trans rfl
      have hfz6_0 := blk_frozen BK101.out 0
      have hfz6_1 := blk_frozen BK101.out 1
      go_wp2_with (first | (go_at_call 42; (with_reducible refine (impl_within.calls a0_1 0 100000 t102 _ A5.out).mono ?_); rintro e w' ⟨rfl, ⟨nd, rfl⟩⟩; (try first | exact ⟨rfl, _, World.drewN_drewN _ _ _⟩ | exact ⟨rfl, _, Eq.trans (World.drewN_drewN _ _ _) (congrArg (World.drewN _) (Nat.add_assoc _ _ _))⟩)))
      repeat (go_quiet (first | (go_at_call 42; (with_reducible refine (impl_within.calls a0_1 0 100000 t102 _ A5.out).mono ?_); rintro e w' ⟨rfl, ⟨nd, rfl⟩⟩; (try first | exact ⟨rfl, _, World.drewN_drewN _ _ _⟩ | exact ⟨rfl, _, Eq.trans (World.drewN_drewN _ _ _) (congrArg (World.drewN _) (Nat.add_assoc _ _ _))⟩))); try go_wp2_with (first | (go_at_call 42; (with_reducible refine (impl_within.calls a0_1 0 100000 t102 _ A5.out).mono ?_); rintro e w' ⟨rfl, ⟨nd, rfl⟩⟩; (try first | exact ⟨rfl, _, World.drewN_drewN _ _ _⟩ | exact ⟨rfl, _, Eq.trans (World.drewN_drewN _ _ _) (congrArg (World.drewN _) (Nat.add_assoc _ _ _))⟩))))
      go_meet
      case rel => exact ⟨_, (!t102), (by first | rfl | (simp; done) | (simp [*]; done)), H', ⟨by first | omega | exact Nat.le_refl _⟩, ⟨by (with_reducible repeat (first | refine blk_drewN ?_ _ | refine blk_drew ?_ | refine blk_alloc ?_ _)); exact BK101.out⟩, ⟨by repeat (first | (with_reducible first | exact HB.out | apply below_alloc | apply pw_below_drewN | apply below_drew1 | refine below_set ?_ GE101.out) | exact HB.out)⟩⟩
    · rw [if_neg c4] at H
      have c4b0 : ((l0_0.length : Int) == 16) = false := beq_eq_false_iff_ne.mpr c4
      have c4b1 : ((l0_0.length : Int) != 16) = true := bne_iff_ne.mpr c4
      (first | rw [c4b0] | (simp only [i64_w, i32_w]; rw [c4b0]) | skip)
      have H' := Aside0.mk H
      clear H
      have hcz7_0 : w3.cell? ⟨gb101, 0, none⟩ = some (.slice A0_0 l0_0.length c0_0) := (blk_cell BK101.out 0).trans rfl
      have hcz7_1 : w3.cell? ⟨gb101, 1, none⟩ = some (.int .i64 a0_1) := (blk_cell BK101.out 1).trans rfl
      have hfz7_0 := blk_frozen BK101.out 0
      have hfz7_1 := blk_frozen BK101.out 1
      go_wp2
      repeat (go_quiet (fail); try go_wp2)
      go_meet
      case rel => exact ⟨_, (true), (by first | rfl | (simp; done) | (simp [*]; done)), H', ⟨by first | omega | exact Nat.le_refl _⟩, ⟨by (with_reducible repeat (first | refine blk_drewN ?_ _ | refine blk_drew ?_ | refine blk_alloc ?_ _)); exact BK101.out⟩, ⟨by repeat (first | (with_reducible first | exact HB.out | apply below_alloc | apply pw_below_drewN | apply below_drew1 | refine below_set ?_ GE101.out) | exact HB.out)⟩⟩
  case rest =>
    clear HC2
    try clear c1
    try clear p2
    try clear c4
    try clear c4b0
    try clear c4b1
    try clear hcz6_0
    try clear hcz6_1
    try clear hcz7_0
    try clear hcz7_1
    try clear hfz6_0
    try clear hfz6_1
    try clear hfz7_0
    try clear hfz7_1
    obtain ⟨kq, x16_1, rfl, HA, HJ1, BK101, HB⟩ := hcut
    cases kq with
    | zero => exact absurd HA.out (by simp [impl_StoreOK.j0])
    | succ kj1 =>
      have H := HA.out
      clear HA
      simp only [impl_StoreOK.j0] at H
      by_cases c8 : x16_1 = true
      · subst c8
        have H1 : (some false) = some r := by rw [if_pos rfl] at H; exact H
        clear H
        have H := H1
        clear H1
        obtain rfl := Option.some.inj H
        go_wp2
        repeat (go_quiet (fail); try go_wp2)
        go_ret
        exact ⟨by first | rfl | (simp [errW_none, errW_some] <;> rfl) | (simp [*, errW_none, errW_some] <;> rfl), by repeat (first | (with_reducible first | exact HB.out | apply below_alloc | apply pw_below_drewN | apply below_drew1 | refine below_set ?_ GE101.out) | exact HB.out)⟩
      · replace c8 := Bool.eq_false_iff.mpr c8
        subst c8
        have H1 : (impl_StoreOK.l0 kj1 l0_0 (l0_0.length : Int) 0 l0_0 a0_1) = some r := by rw [if_neg (show ¬ (false = true) by decide)] at H; exact H
        clear H
        have H := H1
        clear H1
        have H' := Aside0.mk H
        clear H
        have hcz9_0 : wc.cell? ⟨gb101, 0, none⟩ = some (.slice A0_0 l0_0.length c0_0) := (blk_cell BK101.out 0).trans rfl
        have hcz9_1 : wc.cell? ⟨gb101, 1, none⟩ = some (.int .i64 a0_1) := (blk_cell BK101.out 1).trans rfl
        have hfz9_0 := blk_frozen BK101.out 0
        have hfz9_1 := blk_frozen BK101.out 1
        go_wp2
        repeat (go_quiet (fail); try go_wp2)
        go_loopg [20] kj1 (fun kq v20 w' => ∃ (x20_2 : Int), v20 = .int .i64 x20_2 ∧ Aside0 (impl_StoreOK.l0 kq l0_0 (l0_0.length : Int) x20_2 l0_0 a0_1 = some r) ∧ Aside0 (kq ≤ kj1) ∧ Aside0 (w'.heap[gb101]? = some (.cells #[(.slice A0_0 l0_0.length c0_0), .int .i64 a0_1] 29 (0, 0))) ∧ Aside0 (Below w.heap.size w w'))
        case atStart => exact ⟨(0), (by first | rfl | (simp; done) | (simp [*]; done)), H', ⟨Nat.le_refl _⟩, ⟨by (with_reducible repeat (first | refine blk_drewN ?_ _ | refine blk_drew ?_ | refine blk_alloc ?_ _)); exact BK101.out⟩, ⟨by repeat (first | (with_reducible first | exact HB.out | apply below_alloc | apply pw_below_drewN | apply below_drew1 | refine below_set ?_ GE101.out) | exact HB.out)⟩⟩
        case round =>
          clear H'
          try clear c1
          try clear p2
          try clear c4
          try clear c4b0
          try clear c4b1
          try clear c8
          try clear hcz6_0
          try clear hcz6_1
          try clear hcz7_0
          try clear hcz7_1
          try clear hcz9_0
          try clear hcz9_1
          try clear hfz6_0
          try clear hfz6_1
          try clear hfz7_0
          try clear hfz7_1
          try clear hfz9_0
          try clear hfz9_1
          try clear p2
          obtain ⟨x20_2, rfl, HA, HK2, BK101, HB⟩ := hrel
          cases gk with
          | zero => exact absurd HA.out (by simp [impl_StoreOK.l0])
          | succ k2 =>
            have H := HA.out
            clear HA
            simp only [impl_StoreOK.l0] at H
            by_cases c10 : x20_2 < (l0_0.length : Int)
            · rw [if_pos c10] at H
              have c10b0 : decide (x20_2 < (l0_0.length : Int)) = true := decide_eq_true c10
              clear c10
              by_cases c11 : 0 ≤ x20_2
              · rw [if_pos c11] at H
                have c11b0 : decide (0 ≤ x20_2) = true := decide_eq_true c11
                clear c11
                by_cases c12 : x20_2 < (l0_0.length : Int)
                · rw [if_pos c12] at H
                  have c12b0 : decide (x20_2 < (l0_0.length : Int)) = true := decide_eq_true c12
                  clear c12
                  have H' := Aside0.mk H
                  clear H
                  have p103 : 0 ≤ (x20_2 : Int) := of_decide_eq_true (by first | (with_reducible assumption) | assumption)
                  have q103 : x20_2 < (l0_0.length : Int) := of_decide_eq_true (by first | (with_reducible assumption) | assumption)
                  obtain ⟨ad103, A103_0, c103_0, e103, hx103_0, hl103_0, hi103_0⟩ := at_L4 HR0_0.out x20_2 p103 q103
                  cases e103
                  replace hx103_0 := (HB.out.cell (World.block_lt_of_cell? w _ hx103_0)).trans hx103_0
                  have HR103_0 := Aside0.mk hi103_0
                  have HC103_0 := Aside0.mk hl103_0
                  clear hi103_0 hl103_0
                  replace p103 := eq_true p103
                  replace q103 := eq_true q103
                  go_wp2
                  repeat (go_quiet (fail); try go_wp2)
                  go_loopg [27] k2 (fun kq v27 w' => ∃ (x27_3 : Int), v27 = .int .i64 x27_3 ∧ Aside0 (impl_StoreOK.l1 kq x20_2 (rd_L4 l0_0 x20_2) l0_0 (l0_0.length : Int) x20_2 (rd_L4 l0_0 x20_2) ((rd_L4 l0_0 x20_2).length : Int) x27_3 l0_0 a0_1 = some r) ∧ Aside0 (kq ≤ k2) ∧ Aside0 (w'.heap[gb101]? = some (.cells #[(.slice (some ad103) l0_0.length c0_0), .int .i64 a0_1] 29 (0, 0))) ∧ Aside0 (Below w.heap.size w w'))
                  case atStart => exact ⟨(0), (by first | rfl | (simp; done) | (simp [*]; done)), H', ⟨Nat.le_refl _⟩, ⟨by (with_reducible repeat (first | refine blk_drewN ?_ _ | refine blk_drew ?_ | refine blk_alloc ?_ _)); exact BK101.out⟩, ⟨by repeat (first | (with_reducible first | exact HB.out | apply below_alloc | apply pw_below_drewN | apply below_drew1 | refine below_set ?_ GE101.out) | exact HB.out)⟩⟩
                  case round =>
                    clear H'
                    try clear c1
                    try clear p1
                    try clear q1
                    try clear hx1
                    try clear p2
                    try clear c4
                    try clear c4b0
                    try clear c4b1
                    try clear c8
                    try clear c10
                    try clear c10b0
                    try clear p10
                    try clear q10
                    try clear hx10
                    try clear c11
                    try clear c11b0
                    try clear c12
                    try clear c12b0
                    try clear hcz6_0
                    try clear hcz6_1
                    try clear hcz7_0
                    try clear hcz7_1
                    try clear hcz9_0
                    try clear hcz9_1
                    try clear hfz6_0
                    try clear hfz6_1
                    try clear hfz7_0
                    try clear hfz7_1
                    try clear hfz9_0
                    try clear hfz9_1
                    try clear hx103_0
                    try clear p103
                    try clear p2
                    try clear q103
                    obtain ⟨x27_3, rfl, HA, HK3, BK101, HB⟩ := hrel
                    cases gk with
                    | zero => exact absurd HA.out (by simp [impl_StoreOK.l1])
                    | succ k3 =>
                      have H := HA.out
                      clear HA
                      simp only [impl_StoreOK.l1] at H
                      by_cases c13 : x27_3 < ((rd_L4 l0_0 x20_2).length : Int)
                      · rw [if_pos c13] at H
                        have c13b0 : decide (x27_3 < ((rd_L4 l0_0 x20_2).length : Int)) = true := decide_eq_true c13
                        clear c13
                        by_cases c14 : 0 ≤ x27_3
                        · rw [if_pos c14] at H
                          have c14b0 : decide (0 ≤ x27_3) = true := decide_eq_true c14
                          clear c14
                          by_cases c15 : x27_3 < ((rd_L4 l0_0 x20_2).length : Int)
                          · rw [if_pos c15] at H
                            have c15b0 : decide (x27_3 < ((rd_L4 l0_0 x20_2).length : Int)) = true := decide_eq_true c15
                            clear c15
                            replace H := Option.bind_eq_some_iff.mp H
                            obtain ⟨t106, A160, H⟩ := H
                            replace H : (if t106 = true then (if x27_3 > 0 then (if 0 ≤ (wrap64 (x27_3 - 1)) then (if (wrap64 (x27_3 - 1)) < ((rd_L4 l0_0 x20_2).length : Int) then (if ((rd_T61 (rd_L4 l0_0 x20_2) (wrap64 (x27_3 - 1))).f0) ≥ ((rd_T61 (rd_L4 l0_0 x20_2) x27_3).f0) then (some false) else ((impl_fits.f x20_2 ((rd_T61 (rd_L4 l0_0 x20_2) x27_3).f1)).bind fun t108 => (if t108 = true then (impl_StoreOK.l1 k3 x20_2 (rd_L4 l0_0 x20_2) l0_0 (l0_0.length : Int) x20_2 (rd_L4 l0_0 x20_2) ((rd_L4 l0_0 x20_2).length : Int) (wrap64 (x27_3 + 1)) l0_0 a0_1) else (some false)))) else (none)) else (none)) else ((impl_fits.f x20_2 ((rd_T61 (rd_L4 l0_0 x20_2) x27_3).f1)).bind fun t109 => (if t109 = true then (impl_StoreOK.l1 k3 x20_2 (rd_L4 l0_0 x20_2) l0_0 (l0_0.length : Int) x20_2 (rd_L4 l0_0 x20_2) ((rd_L4 l0_0 x20_2).length : Int) (wrap64 (x27_3 + 1)) l0_0 a0_1) else (some false)))) else (some false)) = some r := H
                            have A16 := Aside0.mk A160
                            clear A160
                            by_cases c17 : t106 = true
                            · subst c17
                              have H1 : (if x27_3 > 0 then (if 0 ≤ (wrap64 (x27_3 - 1)) then (if (wrap64 (x27_3 - 1)) < ((rd_L4 l0_0 x20_2).length : Int) then (if ((rd_T61 (rd_L4 l0_0 x20_2) (wrap64 (x27_3 - 1))).f0) ≥ ((rd_T61 (rd_L4 l0_0 x20_2) x27_3).f0) then (some false) else ((impl_fits.f x20_2 ((rd_T61 (rd_L4 l0_0 x20_2) x27_3).f1)).bind fun t108 => (if t108 = true then (impl_StoreOK.l1 k3 x20_2 (rd_L4 l0_0 x20_2) l0_0 (l0_0.length : Int) x20_2 (rd_L4 l0_0 x20_2) ((rd_L4 l0_0 x20_2).length : Int) (wrap64 (x27_3 + 1)) l0_0 a0_1) else (some false)))) else (none)) else (none)) else ((impl_fits.f x20_2 ((rd_T61 (rd_L4 l0_0 x20_2) x27_3).f1)).bind fun t109 => (if t109 = true then (impl_StoreOK.l1 k3 x20_2 (rd_L4 l0_0 x20_2) l0_0 (l0_0.length : Int) x20_2 (rd_L4 l0_0 x20_2) ((rd_L4 l0_0 x20_2).length : Int) (wrap64 (x27_3 + 1)) l0_0 a0_1) else (some false)))) = some r := by rw [if_pos rfl] at H; exact H
                              clear H
                              have H := H1
                              clear H1
                              by_cases c18 : x27_3 > 0
                              · rw [if_pos c18] at H
                                have c18b0 : decide (0 < x27_3) = true := decide_eq_true c18
                                clear c18
                                obtain ⟨ji19, hji19⟩ : ∃ j_ : Int, (wrap64 (x27_3 - 1)) = j_ := ⟨_, rfl⟩
                                replace H : (if 0 ≤ (ji19) then (if (ji19) < ((rd_L4 l0_0 x20_2).length : Int) then (if ((rd_T61 (rd_L4 l0_0 x20_2) (ji19)).f0) ≥ ((rd_T61 (rd_L4 l0_0 x20_2) x27_3).f0) then (some false) else ((impl_fits.f x20_2 ((rd_T61 (rd_L4 l0_0 x20_2) x27_3).f1)).bind fun t108 => (if t108 = true then (impl_StoreOK.l1 k3 x20_2 (rd_L4 l0_0 x20_2) l0_0 (l0_0.length : Int) x20_2 (rd_L4 l0_0 x20_2) ((rd_L4 l0_0 x20_2).length : Int) (wrap64 (x27_3 + 1)) l0_0 a0_1) else (some false)))) else (none)) else (none)) = some r := by first | (rw [hji19] at H; exact H) | (simp only [hji19] at H ⊢; exact H)
                                (try rw [hji19] at A16)
                                have hji19w : (IntKind.i64.wrap (x27_3 - 1)) = ji19 := (i64_w _).trans hji19
                                by_cases c20 : 0 ≤ (ji19)
                                · rw [if_pos c20] at H
                                  have c20b0 : decide (0 ≤ (ji19)) = true := decide_eq_true c20
                                  clear c20
                                  by_cases c21 : (ji19) < ((rd_L4 l0_0 x20_2).length : Int)
                                  · rw [if_pos c21] at H
                                    have c21b0 : decide ((ji19) < ((rd_L4 l0_0 x20_2).length : Int)) = true := decide_eq_true c21
                                    clear c21
                                    by_cases c22 : ((rd_T61 (rd_L4 l0_0 x20_2) (ji19)).f0) ≥ ((rd_T61 (rd_L4 l0_0 x20_2) x27_3).f0)
                                    · rw [if_pos c22] at H
                                      have c22b0 : decide (((rd_T61 (rd_L4 l0_0 x20_2) x27_3).f0) ≤ ((rd_T61 (rd_L4 l0_0 x20_2) (ji19)).f0)) = true := decide_eq_true c22
                                      clear c22
                                      obtain rfl := Option.some.inj H
                                      have p104 : 0 ≤ (x27_3 : Int) := of_decide_eq_true (by first | (with_reducible assumption) | assumption)
                                      have q104 : x27_3 < ((rd_L4 l0_0 x20_2).length : Int) := of_decide_eq_true (by first | (with_reducible assumption) | assumption)
                                      obtain ⟨ad104, e104, hx104_0, hx104_1⟩ := at_T61 HR103_0.out x27_3 p104 q104
                                      cases e104
                                      replace hx104_0 := (HB.out.cell (World.block_lt_of_cell? w _ hx104_0)).trans hx104_0
                                      replace hx104_1 := (HB.out.cell (World.block_lt_of_cell? w _ hx104_1)).trans hx104_1
                                      replace p104 := eq_true p104
                                      replace q104 := eq_true q104
                                      go_wp2_with (first | ((with_reducible refine gate_dst (N := 6) rfl ?_); refine box_event ?hg (N := 6) ?hd (cs := #[.int .i64 0, .int .i64 0]) (t := 61) ?hr ?_; (case hd => rfl); (case hg => rfl); (case hr => first | (go_simp; done) | (go_simp; rfl)); intro gb105 hg w23 hbox hb; have n0_ := Aside0.mk (blk_below (g := gb101) (o := .cells #[.slice (some ad103) l0_0.length c0_0, .int .i64 a0_1] 29 (0, 0)) (by (with_reducible repeat (first | refine blk_drewN ?_ _ | refine blk_drew ?_ | refine blk_alloc ?_ _)); exact BK101.out) hb); have n1_ := Aside0.mk (below_step (by repeat (first | (with_reducible first | exact HB.out | apply below_alloc | apply pw_below_drewN | apply below_drew1 | refine below_set ?_ GE101.out) | exact HB.out)) hb); have n2_ := Aside0.mk (hbox); have n3_ := Aside0.mk ((by rw [hg]; exact (below_size (by repeat (first | (with_reducible first | exact HB.out | apply below_alloc | apply pw_below_drewN | apply below_drew1 | refine below_set ?_ GE101.out) | exact HB.out))) : w.heap.size ≤ gb105)); have n4_ := Aside0.mk ((by rw [hg]; exact (below_size (by repeat (first | (with_reducible first | exact HB.out | apply below_alloc | apply pw_below_drewN | apply below_drew1 | refine below_set ?_ GE101.out) | exact HB.out))) : w.heap.size ≤ gb105)); have n5_ := Aside0.mk ((by rw [hg]; exact Nat.ne_of_lt (blk_lt (g := gb101) (o := .cells #[.slice (some ad103) l0_0.length c0_0, .int .i64 a0_1] 29 (0, 0)) (by (with_reducible repeat (first | refine blk_drewN ?_ _ | refine blk_drew ?_ | refine blk_alloc ?_ _)); exact BK101.out)) : gb101 ≠ gb105)); have n6_ := Aside0.mk ((by rw [hg]; exact Nat.ne_of_gt (blk_lt (g := gb101) (o := .cells #[.slice (some ad103) l0_0.length c0_0, .int .i64 a0_1] 29 (0, 0)) (by (with_reducible repeat (first | refine blk_drewN ?_ _ | refine blk_drew ?_ | refine blk_alloc ?_ _)); exact BK101.out)) : gb105 ≠ gb101)); clear BK101; clear HB; have BK101 := n0_; have HB := n1_; have BK105 := n2_; have GW105 := n3_; have GE105 := n4_; have NB101_105 := n5_; have NB105_101 := n6_; clear n0_ n1_ n2_ n3_ n4_ n5_ n6_; clear hb hbox hg; have hnb24 := NB105_101.out; have hnc24 := NB101_105.out; have hcz25_0 : w23.cell? ⟨gb105, 0, none⟩ = some (.int .i64 0) := (blk_cell BK105.out 0).trans rfl; have hcz25_1 : w23.cell? ⟨gb105, 1, none⟩ = some (.int .i64 0) := (blk_cell BK105.out 1).trans rfl; have hfz25_0 := blk_frozen BK105.out 0; have hfz25_1 := blk_frozen BK105.out 1; have hcz26_0 : w23.cell? ⟨gb101, 0, none⟩ = some (.slice (some ad103) l0_0.length c0_0) := (blk_cell BK101.out 0).trans rfl; have hcz26_1 : w23.cell? ⟨gb101, 1, none⟩ = some (.int .i64 a0_1) := (blk_cell BK101.out 1).trans rfl; have hfz26_0 := blk_frozen BK101.out 0; have hfz26_1 := blk_frozen BK101.out 1) | (go_at_call 42; (with_reducible refine (impl_within.calls ((rd_T61 (rd_L4 l0_0 x20_2) x27_3).f0) 1 a0_1 true _ A16.out).mono ?_); rintro e w' ⟨rfl, ⟨nd, rfl⟩⟩; (try first | exact ⟨rfl, _, World.drewN_drewN _ _ _⟩ | exact ⟨rfl, _, Eq.trans (World.drewN_drewN _ _ _) (congrArg (World.drewN _) (Nat.add_assoc _ _ _))⟩); have p107 : 0 ≤ ((ji19) : Int) := of_decide_eq_true (by first | (with_reducible assumption) | assumption); have q107 : (ji19) < ((rd_L4 l0_0 x20_2).length : Int) := of_decide_eq_true (by first | (with_reducible assumption) | assumption); obtain ⟨ad107, e107, hx107_0, hx107_1⟩ := at_T61 HR103_0.out (ji19) p107 q107; obtain rfl : ad104 = ad107 := (by injection e107); have hn107_0 : ad104.block ≠ gb105 := Nat.ne_of_lt (Nat.lt_of_lt_of_le (by have := World.block_lt_of_cell? _ _ hx107_0; first | rwa [add_block] at this | exact this) GW105.out); have hn107_1 : ad104.block ≠ gb105 := Nat.ne_of_lt (Nat.lt_of_lt_of_le (by have := World.block_lt_of_cell? _ _ hx107_0; first | rwa [add_block] at this | exact this) GW105.out); replace hx107_0 := (HB.out.cell (World.block_lt_of_cell? w _ hx107_0)).trans hx107_0; replace hx107_1 := (HB.out.cell (World.block_lt_of_cell? w _ hx107_1)).trans hx107_1; replace hx107_0 := (cell_far (p := ⟨gb105, 0, none⟩) (by first | (rw [add_block]; exact hn107_0) | (show (Addr.add _ _).block ≠ _; rw [add_block]; exact hn107_0) | exact hn107_0) (.int .i64 ((rd_T61 (rd_L4 l0_0 x20_2) x27_3).f0))).trans hx107_0; replace hx107_1 := (cell_far (p := ⟨gb105, 0, none⟩) (by first | (rw [add_block]; exact hn107_0) | (show (Addr.add _ _).block ≠ _; rw [add_block]; exact hn107_0) | exact hn107_0) (.int .i64 ((rd_T61 (rd_L4 l0_0 x20_2) x27_3).f0))).trans hx107_1; replace hx107_0 := (cell_far (p := ⟨gb105, 1, none⟩) (by first | (rw [add_block]; exact hn107_1) | (show (Addr.add _ _).block ≠ _; rw [add_block]; exact hn107_1) | exact hn107_1) (.int .i64 ((rd_T61 (rd_L4 l0_0 x20_2) x27_3).f1))).trans hx107_0; replace hx107_1 := (cell_far (p := ⟨gb105, 1, none⟩) (by first | (rw [add_block]; exact hn107_1) | (show (Addr.add _ _).block ≠ _; rw [add_block]; exact hn107_1) | exact hn107_1) (.int .i64 ((rd_T61 (rd_L4 l0_0 x20_2) x27_3).f1))).trans hx107_1; (try have hy107_0 := fun (n_ : Nat) => (show ((((w23.drewN n_).setCell ⟨gb105, 0, none⟩ (.int .i64 ((rd_T61 (rd_L4 l0_0 x20_2) x27_3).f0))).setCell ⟨gb105, 1, none⟩ (.int .i64 ((rd_T61 (rd_L4 l0_0 x20_2) x27_3).f1)))).cell? _ = some _ from hx107_0)); (try have hy107_1 := fun (n_ : Nat) => (show ((((w23.drewN n_).setCell ⟨gb105, 0, none⟩ (.int .i64 ((rd_T61 (rd_L4 l0_0 x20_2) x27_3).f0))).setCell ⟨gb105, 1, none⟩ (.int .i64 ((rd_T61 (rd_L4 l0_0 x20_2) x27_3).f1)))).cell? _ = some _ from hx107_1)); clear hn107_0; clear hn107_1; replace p107 := eq_true p107; replace q107 := eq_true q107))
                                      repeat (go_quiet (first | ((with_reducible refine gate_dst (N := 6) rfl ?_); refine box_event ?hg (N := 6) ?hd (cs := #[.int .i64 0, .int .i64 0]) (t := 61) ?hr ?_; (case hd => rfl); (case hg => rfl); (case hr => first | (go_simp; done) | (go_simp; rfl)); intro gb105 hg w23 hbox hb; have n0_ := Aside0.mk (blk_below (g := gb101) (o := .cells #[.slice (some ad103) l0_0.length c0_0, .int .i64 a0_1] 29 (0, 0)) (by (with_reducible repeat (first | refine blk_drewN ?_ _ | refine blk_drew ?_ | refine blk_alloc ?_ _)); exact BK101.out) hb); have n1_ := Aside0.mk (below_step (by repeat (first | (with_reducible first | exact HB.out | apply below_alloc | apply pw_below_drewN | apply below_drew1 | refine below_set ?_ GE101.out) | exact HB.out)) hb); have n2_ := Aside0.mk (hbox); have n3_ := Aside0.mk ((by rw [hg]; exact (below_size (by repeat (first | (with_reducible first | exact HB.out | apply below_alloc | apply pw_below_drewN | apply below_drew1 | refine below_set ?_ GE101.out) | exact HB.out))) : w.heap.size ≤ gb105)); have n4_ := Aside0.mk ((by rw [hg]; exact (below_size (by repeat (first | (with_reducible first | exact HB.out | apply below_alloc | apply pw_below_drewN | apply below_drew1 | refine below_set ?_ GE101.out) | exact HB.out))) : w.heap.size ≤ gb105)); have n5_ := Aside0.mk ((by rw [hg]; exact Nat.ne_of_lt (blk_lt (g := gb101) (o := .cells #[.slice (some ad103) l0_0.length c0_0, .int .i64 a0_1] 29 (0, 0)) (by (with_reducible repeat (first | refine blk_drewN ?_ _ | refine blk_drew ?_ | refine blk_alloc ?_ _)); exact BK101.out)) : gb101 ≠ gb105)); have n6_ := Aside0.mk ((by rw [hg]; exact Nat.ne_of_gt (blk_lt (g := gb101) (o := .cells #[.slice (some ad103) l0_0.length c0_0, .int .i64 a0_1] 29 (0, 0)) (by (with_reducible repeat (first | refine blk_drewN ?_ _ | refine blk_drew ?_ | refine blk_alloc ?_ _)); exact BK101.out)) : gb105 ≠ gb101)); clear BK101; clear HB; have BK101 := n0_; have HB := n1_; have BK105 := n2_; have GW105 := n3_; have GE105 := n4_; have NB101_105 := n5_; have NB105_101 := n6_; clear n0_ n1_ n2_ n3_ n4_ n5_ n6_; clear hb hbox hg; have hnb24 := NB105_101.out; have hnc24 := NB101_105.out; have hcz25_0 : w23.cell? ⟨gb105, 0, none⟩ = some (.int .i64 0) := (blk_cell BK105.out 0).trans rfl; have hcz25_1 : w23.cell? ⟨gb105, 1, none⟩ = some (.int .i64 0) := (blk_cell BK105.out 1).trans rfl; have hfz25_0 := blk_frozen BK105.out 0; have hfz25_1 := blk_frozen BK105.out 1; have hcz26_0 : w23.cell? ⟨gb101, 0, none⟩ = some (.slice (some ad103) l0_0.length c0_0) := (blk_cell BK101.out 0).trans rfl; have hcz26_1 : w23.cell? ⟨gb101, 1, none⟩ = some (.int .i64 a0_1) := (blk_cell BK101.out 1).trans rfl; have hfz26_0 := blk_frozen BK101.out 0; have hfz26_1 := blk_frozen BK101.out 1) | (go_at_call 42; (with_reducible refine (impl_within.calls ((rd_T61 (rd_L4 l0_0 x20_2) x27_3).f0) 1 a0_1 true _ A16.out).mono ?_); rintro e w' ⟨rfl, ⟨nd, rfl⟩⟩; (try first | exact ⟨rfl, _, World.drewN_drewN _ _ _⟩ | exact ⟨rfl, _, Eq.trans (World.drewN_drewN _ _ _) (congrArg (World.drewN _) (Nat.add_assoc _ _ _))⟩); have p107 : 0 ≤ ((ji19) : Int) := of_decide_eq_true (by first | (with_reducible assumption) | assumption); have q107 : (ji19) < ((rd_L4 l0_0 x20_2).length : Int) := of_decide_eq_true (by first | (with_reducible assumption) | assumption); obtain ⟨ad107, e107, hx107_0, hx107_1⟩ := at_T61 HR103_0.out (ji19) p107 q107; obtain rfl : ad104 = ad107 := (by injection e107); have hn107_0 : ad104.block ≠ gb105 := Nat.ne_of_lt (Nat.lt_of_lt_of_le (by have := World.block_lt_of_cell? _ _ hx107_0; first | rwa [add_block] at this | exact this) GW105.out); have hn107_1 : ad104.block ≠ gb105 := Nat.ne_of_lt (Nat.lt_of_lt_of_le (by have := World.block_lt_of_cell? _ _ hx107_0; first | rwa [add_block] at this | exact this) GW105.out); replace hx107_0 := (HB.out.cell (World.block_lt_of_cell? w _ hx107_0)).trans hx107_0; replace hx107_1 := (HB.out.cell (World.block_lt_of_cell? w _ hx107_1)).trans hx107_1; replace hx107_0 := (cell_far (p := ⟨gb105, 0, none⟩) (by first | (rw [add_block]; exact hn107_0) | (show (Addr.add _ _).block ≠ _; rw [add_block]; exact hn107_0) | exact hn107_0) (.int .i64 ((rd_T61 (rd_L4 l0_0 x20_2) x27_3).f0))).trans hx107_0; replace hx107_1 := (cell_far (p := ⟨gb105, 0, none⟩) (by first | (rw [add_block]; exact hn107_0) | (show (Addr.add _ _).block ≠ _; rw [add_block]; exact hn107_0) | exact hn107_0) (.int .i64 ((rd_T61 (rd_L4 l0_0 x20_2) x27_3).f0))).trans hx107_1; replace hx107_0 := (cell_far (p := ⟨gb105, 1, none⟩) (by first | (rw [add_block]; exact hn107_1) | (show (Addr.add _ _).block ≠ _; rw [add_block]; exact hn107_1) | exact hn107_1) (.int .i64 ((rd_T61 (rd_L4 l0_0 x20_2) x27_3).f1))).trans hx107_0; replace hx107_1 := (cell_far (p := ⟨gb105, 1, none⟩) (by first | (rw [add_block]; exact hn107_1) | (show (Addr.add _ _).block ≠ _; rw [add_block]; exact hn107_1) | exact hn107_1) (.int .i64 ((rd_T61 (rd_L4 l0_0 x20_2) x27_3).f1))).trans hx107_1; (try have hy107_0 := fun (n_ : Nat) => (show ((((w23.drewN n_).setCell ⟨gb105, 0, none⟩ (.int .i64 ((rd_T61 (rd_L4 l0_0 x20_2) x27_3).f0))).setCell ⟨gb105, 1, none⟩ (.int .i64 ((rd_T61 (rd_L4 l0_0 x20_2) x27_3).f1)))).cell? _ = some _ from hx107_0)); (try have hy107_1 := fun (n_ : Nat) => (show ((((w23.drewN n_).setCell ⟨gb105, 0, none⟩ (.int .i64 ((rd_T61 (rd_L4 l0_0 x20_2) x27_3).f0))).setCell ⟨gb105, 1, none⟩ (.int .i64 ((rd_T61 (rd_L4 l0_0 x20_2) x27_3).f1)))).cell? _ = some _ from hx107_1)); clear hn107_0; clear hn107_1; replace p107 := eq_true p107; replace q107 := eq_true q107)); try go_wp2_with (first | ((with_reducible refine gate_dst (N := 6) rfl ?_); refine box_event ?hg (N := 6) ?hd (cs := #[.int .i64 0, .int .i64 0]) (t := 61) ?hr ?_; (case hd => rfl); (case hg => rfl); (case hr => first | (go_simp; done) | (go_simp; rfl)); intro gb105 hg w23 hbox hb; have n0_ := Aside0.mk (blk_below (g := gb101) (o := .cells #[.slice (some ad103) l0_0.length c0_0, .int .i64 a0_1] 29 (0, 0)) (by (with_reducible repeat (first | refine blk_drewN ?_ _ | refine blk_drew ?_ | refine blk_alloc ?_ _)); exact BK101.out) hb); have n1_ := Aside0.mk (below_step (by repeat (first | (with_reducible first | exact HB.out | apply below_alloc | apply pw_below_drewN | apply below_drew1 | refine below_set ?_ GE101.out) | exact HB.out)) hb); have n2_ := Aside0.mk (hbox); have n3_ := Aside0.mk ((by rw [hg]; exact (below_size (by repeat (first | (with_reducible first | exact HB.out | apply below_alloc | apply pw_below_drewN | apply below_drew1 | refine below_set ?_ GE101.out) | exact HB.out))) : w.heap.size ≤ gb105)); have n4_ := Aside0.mk ((by rw [hg]; exact (below_size (by repeat (first | (with_reducible first | exact HB.out | apply below_alloc | apply pw_below_drewN | apply below_drew1 | refine below_set ?_ GE101.out) | exact HB.out))) : w.heap.size ≤ gb105)); have n5_ := Aside0.mk ((by rw [hg]; exact Nat.ne_of_lt (blk_lt (g := gb101) (o := .cells #[.slice (some ad103) l0_0.length c0_0, .int .i64 a0_1] 29 (0, 0)) (by (with_reducible repeat (first | refine blk_drewN ?_ _ | refine blk_drew ?_ | refine blk_alloc ?_ _)); exact BK101.out)) : gb101 ≠ gb105)); have n6_ := Aside0.mk ((by rw [hg]; exact Nat.ne_of_gt (blk_lt (g := gb101) (o := .cells #[.slice (some ad103) l0_0.length c0_0, .int .i64 a0_1] 29 (0, 0)) (by (with_reducible repeat (first | refine blk_drewN ?_ _ | refine blk_drew ?_ | refine blk_alloc ?_ _)); exact BK101.out)) : gb105 ≠ gb101)); clear BK101; clear HB; have BK101 := n0_; have HB := n1_; have BK105 := n2_; have GW105 := n3_; have GE105 := n4_; have NB101_105 := n5_; have NB105_101 := n6_; clear n0_ n1_ n2_ n3_ n4_ n5_ n6_; clear hb hbox hg; have hnb24 := NB105_101.out; have hnc24 := NB101_105.out; have hcz25_0 : w23.cell? ⟨gb105, 0, none⟩ = some (.int .i64 0) := (blk_cell BK105.out 0).trans rfl; have hcz25_1 : w23.cell? ⟨gb105, 1, none⟩ = some (.int .i64 0) := (blk_cell BK105.out 1).trans rfl; have hfz25_0 := blk_frozen BK105.out 0; have hfz25_1 := blk_frozen BK105.out 1; have hcz26_0 : w23.cell? ⟨gb101, 0, none⟩ = some (.slice (some ad103) l0_0.length c0_0) := (blk_cell BK101.out 0).trans rfl; have hcz26_1 : w23.cell? ⟨gb101, 1, none⟩ = some (.int .i64 a0_1) := (blk_cell BK101.out 1).trans rfl; have hfz26_0 := blk_frozen BK101.out 0; have hfz26_1 := blk_frozen BK101.out 1) | (go_at_call 42; (with_reducible refine (impl_within.calls ((rd_T61 (rd_L4 l0_0 x20_2) x27_3).f0) 1 a0_1 true _ A16.out).mono ?_); rintro e w' ⟨rfl, ⟨nd, rfl⟩⟩; (try first | exact ⟨rfl, _, World.drewN_drewN _ _ _⟩ | exact ⟨rfl, _, Eq.trans (World.drewN_drewN _ _ _) (congrArg (World.drewN _) (Nat.add_assoc _ _ _))⟩); have p107 : 0 ≤ ((ji19) : Int) := of_decide_eq_true (by first | (with_reducible assumption) | assumption); have q107 : (ji19) < ((rd_L4 l0_0 x20_2).length : Int) := of_decide_eq_true (by first | (with_reducible assumption) | assumption); obtain ⟨ad107, e107, hx107_0, hx107_1⟩ := at_T61 HR103_0.out (ji19) p107 q107; obtain rfl : ad104 = ad107 := (by injection e107); have hn107_0 : ad104.block ≠ gb105 := Nat.ne_of_lt (Nat.lt_of_lt_of_le (by have := World.block_lt_of_cell? _ _ hx107_0; first | rwa [add_block] at this | exact this) GW105.out); have hn107_1 : ad104.block ≠ gb105 := Nat.ne_of_lt (Nat.lt_of_lt_of_le (by have := World.block_lt_of_cell? _ _ hx107_0; first | rwa [add_block] at this | exact this) GW105.out); replace hx107_0 := (HB.out.cell (World.block_lt_of_cell? w _ hx107_0)).trans hx107_0; replace hx107_1 := (HB.out.cell (World.block_lt_of_cell? w _ hx107_1)).trans hx107_1; replace hx107_0 := (cell_far (p := ⟨gb105, 0, none⟩) (by first | (rw [add_block]; exact hn107_0) | (show (Addr.add _ _).block ≠ _; rw [add_block]; exact hn107_0) | exact hn107_0) (.int .i64 ((rd_T61 (rd_L4 l0_0 x20_2) x27_3).f0))).trans hx107_0; replace hx107_1 := (cell_far (p := ⟨gb105, 0, none⟩) (by first | (rw [add_block]; exact hn107_0) | (show (Addr.add _ _).block ≠ _; rw [add_block]; exact hn107_0) | exact hn107_0) (.int .i64 ((rd_T61 (rd_L4 l0_0 x20_2) x27_3).f0))).trans hx107_1; replace hx107_0 := (cell_far (p := ⟨gb105, 1, none⟩) (by first | (rw [add_block]; exact hn107_1) | (show (Addr.add _ _).block ≠ _; rw [add_block]; exact hn107_1) | exact hn107_1) (.int .i64 ((rd_T61 (rd_L4 l0_0 x20_2) x27_3).f1))).trans hx107_0; replace hx107_1 := (cell_far (p := ⟨gb105, 1, none⟩) (by first | (rw [add_block]; exact hn107_1) | (show (Addr.add _ _).block ≠ _; rw [add_block]; exact hn107_1) | exact hn107_1) (.int .i64 ((rd_T61 (rd_L4 l0_0 x20_2) x27_3).f1))).trans hx107_1; (try have hy107_0 := fun (n_ : Nat) => (show ((((w23.drewN n_).setCell ⟨gb105, 0, none⟩ (.int .i64 ((rd_T61 (rd_L4 l0_0 x20_2) x27_3).f0))).setCell ⟨gb105, 1, none⟩ (.int .i64 ((rd_T61 (rd_L4 l0_0 x20_2) x27_3).f1)))).cell? _ = some _ from hx107_0)); (try have hy107_1 := fun (n_ : Nat) => (show ((((w23.drewN n_).setCell ⟨gb105, 0, none⟩ (.int .i64 ((rd_T61 (rd_L4 l0_0 x20_2) x27_3).f0))).setCell ⟨gb105, 1, none⟩ (.int .i64 ((rd_T61 (rd_L4 l0_0 x20_2) x27_3).f1)))).cell? _ = some _ from hx107_1)); clear hn107_0; clear hn107_1; replace p107 := eq_true p107; replace q107 := eq_true q107)))
                                      go_ret
                                      exact ⟨by first | rfl | (simp [errW_none, errW_some] <;> rfl) | (simp only [← hji19]; first | rfl | (simp [errW_none, errW_some] <;> rfl)) | (simp [*, errW_none, errW_some] <;> rfl), by repeat (first | (with_reducible first | exact HB.out | apply below_alloc | apply pw_below_drewN | apply below_drew1 | refine below_set ?_ GE101.out | refine below_set ?_ GE105.out) | exact HB.out)⟩
                                    · rw [if_neg c22] at H
                                      have c22b0 : decide (((rd_T61 (rd_L4 l0_0 x20_2) x27_3).f0) ≤ ((rd_T61 (rd_L4 l0_0 x20_2) (ji19)).f0)) = false := decide_eq_false c22
                                      clear c22
                                      replace H := Option.bind_eq_some_iff.mp H
                                      obtain ⟨t108, A270, H⟩ := H
                                      replace H : (if t108 = true then (impl_StoreOK.l1 k3 x20_2 (rd_L4 l0_0 x20_2) l0_0 (l0_0.length : Int) x20_2 (rd_L4 l0_0 x20_2) ((rd_L4 l0_0 x20_2).length : Int) (wrap64 (x27_3 + 1)) l0_0 a0_1) else (some false)) = some r := H
                                      have A27 := Aside0.mk A270
                                      clear A270
                                      by_cases c28 : t108 = true
                                      · subst c28
                                        have H1 : (impl_StoreOK.l1 k3 x20_2 (rd_L4 l0_0 x20_2) l0_0 (l0_0.length : Int) x20_2 (rd_L4 l0_0 x20_2) ((rd_L4 l0_0 x20_2).length : Int) (wrap64 (x27_3 + 1)) l0_0 a0_1) = some r := by rw [if_pos rfl] at H; exact H
                                        clear H
                                        have H := H1
                                        clear H1
                                        have H' := Aside0.mk H
                                        clear H
                                        have p104 : 0 ≤ (x27_3 : Int) := of_decide_eq_true (by first | (with_reducible assumption) | assumption)
                                        have q104 : x27_3 < ((rd_L4 l0_0 x20_2).length : Int) := of_decide_eq_true (by first | (with_reducible assumption) | assumption)
                                        obtain ⟨ad104, e104, hx104_0, hx104_1⟩ := at_T61 HR103_0.out x27_3 p104 q104
                                        cases e104
                                        replace hx104_0 := (HB.out.cell (World.block_lt_of_cell? w _ hx104_0)).trans hx104_0
                                        replace hx104_1 := (HB.out.cell (World.block_lt_of_cell? w _ hx104_1)).trans hx104_1
                                        replace p104 := eq_true p104
                                        replace q104 := eq_true q104
                                        go_wp2_with (first | ((with_reducible refine gate_dst (N := 6) rfl ?_); refine box_event ?hg (N := 6) ?hd (cs := #[.int .i64 0, .int .i64 0]) (t := 61) ?hr ?_; (case hd => rfl); (case hg => rfl); (case hr => first | (go_simp; done) | (go_simp; rfl)); intro gb105 hg w29 hbox hb; have n0_ := Aside0.mk (blk_below (g := gb101) (o := .cells #[.slice (some ad103) l0_0.length c0_0, .int .i64 a0_1] 29 (0, 0)) (by (with_reducible repeat (first | refine blk_drewN ?_ _ | refine blk_drew ?_ | refine blk_alloc ?_ _)); exact BK101.out) hb); have n1_ := Aside0.mk (below_step (by repeat (first | (with_reducible first | exact HB.out | apply below_alloc | apply pw_below_drewN | apply below_drew1 | refine below_set ?_ GE101.out) | exact HB.out)) hb); have n2_ := Aside0.mk (hbox); have n3_ := Aside0.mk ((by rw [hg]; exact (below_size (by repeat (first | (with_reducible first | exact HB.out | apply below_alloc | apply pw_below_drewN | apply below_drew1 | refine below_set ?_ GE101.out) | exact HB.out))) : w.heap.size ≤ gb105)); have n4_ := Aside0.mk ((by rw [hg]; exact (below_size (by repeat (first | (with_reducible first | exact HB.out | apply below_alloc | apply pw_below_drewN | apply below_drew1 | refine below_set ?_ GE101.out) | exact HB.out))) : w.heap.size ≤ gb105)); have n5_ := Aside0.mk ((by rw [hg]; exact Nat.ne_of_lt (blk_lt (g := gb101) (o := .cells #[.slice (some ad103) l0_0.length c0_0, .int .i64 a0_1] 29 (0, 0)) (by (with_reducible repeat (first | refine blk_drewN ?_ _ | refine blk_drew ?_ | refine blk_alloc ?_ _)); exact BK101.out)) : gb101 ≠ gb105)); have n6_ := Aside0.mk ((by rw [hg]; exact Nat.ne_of_gt (blk_lt (g := gb101) (o := .cells #[.slice (some ad103) l0_0.length c0_0, .int .i64 a0_1] 29 (0, 0)) (by (with_reducible repeat (first | refine blk_drewN ?_ _ | refine blk_drew ?_ | refine blk_alloc ?_ _)); exact BK101.out)) : gb105 ≠ gb101)); clear BK101; clear HB; have BK101 := n0_; have HB := n1_; have BK105 := n2_; have GW105 := n3_; have GE105 := n4_; have NB101_105 := n5_; have NB105_101 := n6_; clear n0_ n1_ n2_ n3_ n4_ n5_ n6_; clear hb hbox hg; have hnb30 := NB105_101.out; have hnc30 := NB101_105.out; have hcz31_0 : w29.cell? ⟨gb105, 0, none⟩ = some (.int .i64 0) := (blk_cell BK105.out 0).trans rfl; have hcz31_1 : w29.cell? ⟨gb105, 1, none⟩ = some (.int .i64 0) := (blk_cell BK105.out 1).trans rfl; have hfz31_0 := blk_frozen BK105.out 0; have hfz31_1 := blk_frozen BK105.out 1; have hcz32_0 : w29.cell? ⟨gb101, 0, none⟩ = some (.slice (some ad103) l0_0.length c0_0) := (blk_cell BK101.out 0).trans rfl; have hcz32_1 : w29.cell? ⟨gb101, 1, none⟩ = some (.int .i64 a0_1) := (blk_cell BK101.out 1).trans rfl; have hfz32_0 := blk_frozen BK101.out 0; have hfz32_1 := blk_frozen BK101.out 1) | (go_at_call 42; (with_reducible refine (impl_within.calls ((rd_T61 (rd_L4 l0_0 x20_2) x27_3).f0) 1 a0_1 true _ A16.out).mono ?_); rintro e w' ⟨rfl, ⟨nd, rfl⟩⟩; (try first | exact ⟨rfl, _, World.drewN_drewN _ _ _⟩ | exact ⟨rfl, _, Eq.trans (World.drewN_drewN _ _ _) (congrArg (World.drewN _) (Nat.add_assoc _ _ _))⟩); have p107 : 0 ≤ ((ji19) : Int) := of_decide_eq_true (by first | (with_reducible assumption) | assumption); have q107 : (ji19) < ((rd_L4 l0_0 x20_2).length : Int) := of_decide_eq_true (by first | (with_reducible assumption) | assumption); obtain ⟨ad107, e107, hx107_0, hx107_1⟩ := at_T61 HR103_0.out (ji19) p107 q107; obtain rfl : ad104 = ad107 := (by injection e107); have hn107_0 : ad104.block ≠ gb105 := Nat.ne_of_lt (Nat.lt_of_lt_of_le (by have := World.block_lt_of_cell? _ _ hx107_0; first | rwa [add_block] at this | exact this) GW105.out); have hn107_1 : ad104.block ≠ gb105 := Nat.ne_of_lt (Nat.lt_of_lt_of_le (by have := World.block_lt_of_cell? _ _ hx107_0; first | rwa [add_block] at this | exact this) GW105.out); replace hx107_0 := (HB.out.cell (World.block_lt_of_cell? w _ hx107_0)).trans hx107_0; replace hx107_1 := (HB.out.cell (World.block_lt_of_cell? w _ hx107_1)).trans hx107_1; replace hx107_0 := (cell_far (p := ⟨gb105, 0, none⟩) (by first | (rw [add_block]; exact hn107_0) | (show (Addr.add _ _).block ≠ _; rw [add_block]; exact hn107_0) | exact hn107_0) (.int .i64 ((rd_T61 (rd_L4 l0_0 x20_2) x27_3).f0))).trans hx107_0; replace hx107_1 := (cell_far (p := ⟨gb105, 0, none⟩) (by first | (rw [add_block]; exact hn107_0) | (show (Addr.add _ _).block ≠ _; rw [add_block]; exact hn107_0) | exact hn107_0) (.int .i64 ((rd_T61 (rd_L4 l0_0 x20_2) x27_3).f0))).trans hx107_1; replace hx107_0 := (cell_far (p := ⟨gb105, 1, none⟩) (by first | (rw [add_block]; exact hn107_1) | (show (Addr.add _ _).block ≠ _; rw [add_block]; exact hn107_1) | exact hn107_1) (.int .i64 ((rd_T61 (rd_L4 l0_0 x20_2) x27_3).f1))).trans hx107_0; replace hx107_1 := (cell_far (p := ⟨gb105, 1, none⟩) (by first | (rw [add_block]; exact hn107_1) | (show (Addr.add _ _).block ≠ _; rw [add_block]; exact hn107_1) | exact hn107_1) (.int .i64 ((rd_T61 (rd_L4 l0_0 x20_2) x27_3).f1))).trans hx107_1; (try have hy107_0 := fun (n_ : Nat) => (show ((((w29.drewN n_).setCell ⟨gb105, 0, none⟩ (.int .i64 ((rd_T61 (rd_L4 l0_0 x20_2) x27_3).f0))).setCell ⟨gb105, 1, none⟩ (.int .i64 ((rd_T61 (rd_L4 l0_0 x20_2) x27_3).f1)))).cell? _ = some _ from hx107_0)); (try have hy107_1 := fun (n_ : Nat) => (show ((((w29.drewN n_).setCell ⟨gb105, 0, none⟩ (.int .i64 ((rd_T61 (rd_L4 l0_0 x20_2) x27_3).f0))).setCell ⟨gb105, 1, none⟩ (.int .i64 ((rd_T61 (rd_L4 l0_0 x20_2) x27_3).f1)))).cell? _ = some _ from hx107_1)); clear hn107_0; clear hn107_1; replace p107 := eq_true p107; replace q107 := eq_true q107) | (go_at_call 43; (with_reducible refine (impl_fits.calls x20_2 ((rd_T61 (rd_L4 l0_0 x20_2) x27_3).f1) true _ A27.out).mono ?_); rintro e w' ⟨rfl, ⟨nd, rfl⟩⟩; (try first | exact ⟨rfl, _, World.drewN_drewN _ _ _⟩ | exact ⟨rfl, _, Eq.trans (World.drewN_drewN _ _ _) (congrArg (World.drewN _) (Nat.add_assoc _ _ _))⟩)))
                                        repeat (go_quiet (first | ((with_reducible refine gate_dst (N := 6) rfl ?_); refine box_event ?hg (N := 6) ?hd (cs := #[.int .i64 0, .int .i64 0]) (t := 61) ?hr ?_; (case hd => rfl); (case hg => rfl); (case hr => first | (go_simp; done) | (go_simp; rfl)); intro gb105 hg w29 hbox hb; have n0_ := Aside0.mk (blk_below (g := gb101) (o := .cells #[.slice (some ad103) l0_0.length c0_0, .int .i64 a0_1] 29 (0, 0)) (by (with_reducible repeat (first | refine blk_drewN ?_ _ | refine blk_drew ?_ | refine blk_alloc ?_ _)); exact BK101.out) hb); have n1_ := Aside0.mk (below_step (by repeat (first | (with_reducible first | exact HB.out | apply below_alloc | apply pw_below_drewN | apply below_drew1 | refine below_set ?_ GE101.out) | exact HB.out)) hb); have n2_ := Aside0.mk (hbox); have n3_ := Aside0.mk ((by rw [hg]; exact (below_size (by repeat (first | (with_reducible first | exact HB.out | apply below_alloc | apply pw_below_drewN | apply below_drew1 | refine below_set ?_ GE101.out) | exact HB.out))) : w.heap.size ≤ gb105)); have n4_ := Aside0.mk ((by rw [hg]; exact (below_size (by repeat (first | (with_reducible first | exact HB.out | apply below_alloc | apply pw_below_drewN | apply below_drew1 | refine below_set ?_ GE101.out) | exact HB.out))) : w.heap.size ≤ gb105)); have n5_ := Aside0.mk ((by rw [hg]; exact Nat.ne_of_lt (blk_lt (g := gb101) (o := .cells #[.slice (some ad103) l0_0.length c0_0, .int .i64 a0_1] 29 (0, 0)) (by (with_reducible repeat (first | refine blk_drewN ?_ _ | refine blk_drew ?_ | refine blk_alloc ?_ _)); exact BK101.out)) : gb101 ≠ gb105)); have n6_ := Aside0.mk ((by rw [hg]; exact Nat.ne_of_gt (blk_lt (g := gb101) (o := .cells #[.slice (some ad103) l0_0.length c0_0, .int .i64 a0_1] 29 (0, 0)) (by (with_reducible repeat (first | refine blk_drewN ?_ _ | refine blk_drew ?_ | refine blk_alloc ?_ _)); exact BK101.out)) : gb105 ≠ gb101)); clear BK101; clear HB; have BK101 := n0_; have HB := n1_; have BK105 := n2_; have GW105 := n3_; have GE105 := n4_; have NB101_105 := n5_; have NB105_101 := n6_; clear n0_ n1_ n2_ n3_ n4_ n5_ n6_; clear hb hbox hg; have hnb30 := NB105_101.out; have hnc30 := NB101_105.out; have hcz31_0 : w29.cell? ⟨gb105, 0, none⟩ = some (.int .i64 0) := (blk_cell BK105.out 0).trans rfl; have hcz31_1 : w29.cell? ⟨gb105, 1, none⟩ = some (.int .i64 0) := (blk_cell BK105.out 1).trans rfl; have hfz31_0 := blk_frozen BK105.out 0; have hfz31_1 := blk_frozen BK105.out 1; have hcz32_0 : w29.cell? ⟨gb101, 0, none⟩ = some (.slice (some ad103) l0_0.length c0_0) := (blk_cell BK101.out 0).trans rfl; have hcz32_1 : w29.cell? ⟨gb101, 1, none⟩ = some (.int .i64 a0_1) := (blk_cell BK101.out 1).trans rfl; have hfz32_0 := blk_frozen BK101.out 0; have hfz32_1 := blk_frozen BK101.out 1) | (go_at_call 42; (with_reducible refine (impl_within.calls ((rd_T61 (rd_L4 l0_0 x20_2) x27_3).f0) 1 a0_1 true _ A16.out).mono ?_); rintro e w' ⟨rfl, ⟨nd, rfl⟩⟩; (try first | exact ⟨rfl, _, World.drewN_drewN _ _ _⟩ | exact ⟨rfl, _, Eq.trans (World.drewN_drewN _ _ _) (congrArg (World.drewN _) (Nat.add_assoc _ _ _))⟩); have p107 : 0 ≤ ((ji19) : Int) := of_decide_eq_true (by first | (with_reducible assumption) | assumption); have q107 : (ji19) < ((rd_L4 l0_0 x20_2).length : Int) := of_decide_eq_true (by first | (with_reducible assumption) | assumption); obtain ⟨ad107, e107, hx107_0, hx107_1⟩ := at_T61 HR103_0.out (ji19) p107 q107; obtain rfl : ad104 = ad107 := (by injection e107); have hn107_0 : ad104.block ≠ gb105 := Nat.ne_of_lt (Nat.lt_of_lt_of_le (by have := World.block_lt_of_cell? _ _ hx107_0; first | rwa [add_block] at this | exact this) GW105.out); have hn107_1 : ad104.block ≠ gb105 := Nat.ne_of_lt (Nat.lt_of_lt_of_le (by have := World.block_lt_of_cell? _ _ hx107_0; first | rwa [add_block] at this | exact this) GW105.out); replace hx107_0 := (HB.out.cell (World.block_lt_of_cell? w _ hx107_0)).trans hx107_0; replace hx107_1 := (HB.out.cell (World.block_lt_of_cell? w _ hx107_1)).trans hx107_1; replace hx107_0 := (cell_far (p := ⟨gb105, 0, none⟩) (by first | (rw [add_block]; exact hn107_0) | (show (Addr.add _ _).block ≠ _; rw [add_block]; exact hn107_0) | exact hn107_0) (.int .i64 ((rd_T61 (rd_L4 l0_0 x20_2) x27_3).f0))).trans hx107_0; replace hx107_1 := (cell_far (p := ⟨gb105, 0, none⟩) (by first | (rw [add_block]; exact hn107_0) | (show (Addr.add _ _).block ≠ _; rw [add_block]; exact hn107_0) | exact hn107_0) (.int .i64 ((rd_T61 (rd_L4 l0_0 x20_2) x27_3).f0))).trans hx107_1; replace hx107_0 := (cell_far (p := ⟨gb105, 1, none⟩) (by first | (rw [add_block]; exact hn107_1) | (show (Addr.add _ _).block ≠ _; rw [add_block]; exact hn107_1) | exact hn107_1) (.int .i64 ((rd_T61 (rd_L4 l0_0 x20_2) x27_3).f1))).trans hx107_0; replace hx107_1 := (cell_far (p := ⟨gb105, 1, none⟩) (by first | (rw [add_block]; exact hn107_1) | (show (Addr.add _ _).block ≠ _; rw [add_block]; exact hn107_1) | exact hn107_1) (.int .i64 ((rd_T61 (rd_L4 l0_0 x20_2) x27_3).f1))).trans hx107_1; (try have hy107_0 := fun (n_ : Nat) => (show ((((w29.drewN n_).setCell ⟨gb105, 0, none⟩ (.int .i64 ((rd_T61 (rd_L4 l0_0 x20_2) x27_3).f0))).setCell ⟨gb105, 1, none⟩ (.int .i64 ((rd_T61 (rd_L4 l0_0 x20_2) x27_3).f1)))).cell? _ = some _ from hx107_0)); (try have hy107_1 := fun (n_ : Nat) => (show ((((w29.drewN n_).setCell ⟨gb105, 0, none⟩ (.int .i64 ((rd_T61 (rd_L4 l0_0 x20_2) x27_3).f0))).setCell ⟨gb105, 1, none⟩ (.int .i64 ((rd_T61 (rd_L4 l0_0 x20_2) x27_3).f1)))).cell? _ = some _ from hx107_1)); clear hn107_0; clear hn107_1; replace p107 := eq_true p107; replace q107 := eq_true q107) | (go_at_call 43; (with_reducible refine (impl_fits.calls x20_2 ((rd_T61 (rd_L4 l0_0 x20_2) x27_3).f1) true _ A27.out).mono ?_); rintro e w' ⟨rfl, ⟨nd, rfl⟩⟩; (try first | exact ⟨rfl, _, World.drewN_drewN _ _ _⟩ | exact ⟨rfl, _, Eq.trans (World.drewN_drewN _ _ _) (congrArg (World.drewN _) (Nat.add_assoc _ _ _))⟩))); try go_wp2_with (first | ((with_reducible refine gate_dst (N := 6) rfl ?_); refine box_event ?hg (N := 6) ?hd (cs := #[.int .i64 0, .int .i64 0]) (t := 61) ?hr ?_; (case hd => rfl); (case hg => rfl); (case hr => first | (go_simp; done) | (go_simp; rfl)); intro gb105 hg w29 hbox hb; have n0_ := Aside0.mk (blk_below (g := gb101) (o := .cells #[.slice (some ad103) l0_0.length c0_0, .int .i64 a0_1] 29 (0, 0)) (by (with_reducible repeat (first | refine blk_drewN ?_ _ | refine blk_drew ?_ | refine blk_alloc ?_ _)); exact BK101.out) hb); have n1_ := Aside0.mk (below_step (by repeat (first | (with_reducible first | exact HB.out | apply below_alloc | apply pw_below_drewN | apply below_drew1 | refine below_set ?_ GE101.out) | exact HB.out)) hb); have n2_ := Aside0.mk (hbox); have n3_ := Aside0.mk ((by rw [hg]; exact (below_size (by repeat (first | (with_reducible first | exact HB.out | apply below_alloc | apply pw_below_drewN | apply below_drew1 | refine below_set ?_ GE101.out) | exact HB.out))) : w.heap.size ≤ gb105)); have n4_ := Aside0.mk ((by rw [hg]; exact (below_size (by repeat (first | (with_reducible first | exact HB.out | apply below_alloc | apply pw_below_drewN | apply below_drew1 | refine below_set ?_ GE101.out) | exact HB.out))) : w.heap.size ≤ gb105)); have n5_ := Aside0.mk ((by rw [hg]; exact Nat.ne_of_lt (blk_lt (g := gb101) (o := .cells #[.slice (some ad103) l0_0.length c0_0, .int .i64 a0_1] 29 (0, 0)) (by (with_reducible repeat (first | refine blk_drewN ?_ _ | refine blk_drew ?_ | refine blk_alloc ?_ _)); exact BK101.out)) : gb101 ≠ gb105)); have n6_ := Aside0.mk ((by rw [hg]; exact Nat.ne_of_gt (blk_lt (g := gb101) (o := .cells #[.slice (some ad103) l0_0.length c0_0, .int .i64 a0_1] 29 (0, 0)) (by (with_reducible repeat (first | refine blk_drewN ?_ _ | refine blk_drew ?_ | refine blk_alloc ?_ _)); exact BK101.out)) : gb105 ≠ gb101)); clear BK101; clear HB; have BK101 := n0_; have HB := n1_; have BK105 := n2_; have GW105 := n3_; have GE105 := n4_; have NB101_105 := n5_; have NB105_101 := n6_; clear n0_ n1_ n2_ n3_ n4_ n5_ n6_; clear hb hbox hg; have hnb30 := NB105_101.out; have hnc30 := NB101_105.out; have hcz31_0 : w29.cell? ⟨gb105, 0, none⟩ = some (.int .i64 0) := (blk_cell BK105.out 0).trans rfl; have hcz31_1 : w29.cell? ⟨gb105, 1, none⟩ = some (.int .i64 0) := (blk_cell BK105.out 1).trans rfl; have hfz31_0 := blk_frozen BK105.out 0; have hfz31_1 := blk_frozen BK105.out 1; have hcz32_0 : w29.cell? ⟨gb101, 0, none⟩ = some (.slice (some ad103) l0_0.length c0_0) := (blk_cell BK101.out 0).trans rfl; have hcz32_1 : w29.cell? ⟨gb101, 1, none⟩ = some (.int .i64 a0_1) := (blk_cell BK101.out 1).trans rfl; have hfz32_0 := blk_frozen BK101.out 0; have hfz32_1 := blk_frozen BK101.out 1) | (go_at_call 42; (with_reducible refine (impl_within.calls ((rd_T61 (rd_L4 l0_0 x20_2) x27_3).f0) 1 a0_1 true _ A16.out).mono ?_); rintro e w' ⟨rfl, ⟨nd, rfl⟩⟩; (try first | exact ⟨rfl, _, World.drewN_drewN _ _ _⟩ | exact ⟨rfl, _, Eq.trans (World.drewN_drewN _ _ _) (congrArg (World.drewN _) (Nat.add_assoc _ _ _))⟩); have p107 : 0 ≤ ((ji19) : Int) := of_decide_eq_true (by first | (with_reducible assumption) | assumption); have q107 : (ji19) < ((rd_L4 l0_0 x20_2).length : Int) := of_decide_eq_true (by first | (with_reducible assumption) | assumption); obtain ⟨ad107, e107, hx107_0, hx107_1⟩ := at_T61 HR103_0.out (ji19) p107 q107; obtain rfl : ad104 = ad107 := (by injection e107); have hn107_0 : ad104.block ≠ gb105 := Nat.ne_of_lt (Nat.lt_of_lt_of_le (by have := World.block_lt_of_cell? _ _ hx107_0; first | rwa [add_block] at this | exact this) GW105.out); have hn107_1 : ad104.block ≠ gb105 := Nat.ne_of_lt (Nat.lt_of_lt_of_le (by have := World.block_lt_of_cell? _ _ hx107_0; first | rwa [add_block] at this | exact this) GW105.out); replace hx107_0 := (HB.out.cell (World.block_lt_of_cell? w _ hx107_0)).trans hx107_0; replace hx107_1 := (HB.out.cell (World.block_lt_of_cell? w _ hx107_1)).trans hx107_1; replace hx107_0 := (cell_far (p := ⟨gb105, 0, none⟩) (by first | (rw [add_block]; exact hn107_0) | (show (Addr.add _ _).block ≠ _; rw [add_block]; exact hn107_0) | exact hn107_0) (.int .i64 ((rd_T61 (rd_L4 l0_0 x20_2) x27_3).f0))).trans hx107_0; replace hx107_1 := (cell_far (p := ⟨gb105, 0, none⟩) (by first | (rw [add_block]; exact hn107_0) | (show (Addr.add _ _).block ≠ _; rw [add_block]; exact hn107_0) | exact hn107_0) (.int .i64 ((rd_T61 (rd_L4 l0_0 x20_2) x27_3).f0))).trans hx107_1; replace hx107_0 := (cell_far (p := ⟨gb105, 1, none⟩) (by first | (rw [add_block]; exact hn107_1) | (show (Addr.add _ _).block ≠ _; rw [add_block]; exact hn107_1) | exact hn107_1) (.int .i64 ((rd_T61 (rd_L4 l0_0 x20_2) x27_3).f1))).trans hx107_0; replace hx107_1 := (cell_far (p := ⟨gb105, 1, none⟩) (by first | (rw [add_block]; exact hn107_1) | (show (Addr.add _ _).block ≠ _; rw [add_block]; exact hn107_1) | exact hn107_1) (.int .i64 ((rd_T61 (rd_L4 l0_0 x20_2) x27_3).f1))).trans hx107_1; (try have hy107_0 := fun (n_ : Nat) => (show ((((w29.drewN n_).setCell ⟨gb105, 0, none⟩ (.int .i64 ((rd_T61 (rd_L4 l0_0 x20_2) x27_3).f0))).setCell ⟨gb105, 1, none⟩ (.int .i64 ((rd_T61 (rd_L4 l0_0 x20_2) x27_3).f1)))).cell? _ = some _ from hx107_0)); (try have hy107_1 := fun (n_ : Nat) => (show ((((w29.drewN n_).setCell ⟨gb105, 0, none⟩ (.int .i64 ((rd_T61 (rd_L4 l0_0 x20_2) x27_3).f0))).setCell ⟨gb105, 1, none⟩ (.int .i64 ((rd_T61 (rd_L4 l0_0 x20_2) x27_3).f1)))).cell? _ = some _ from hx107_1)); clear hn107_0; clear hn107_1; replace p107 := eq_true p107; replace q107 := eq_true q107) | (go_at_call 43; (with_reducible refine (impl_fits.calls x20_2 ((rd_T61 (rd_L4 l0_0 x20_2) x27_3).f1) true _ A27.out).mono ?_); rintro e w' ⟨rfl, ⟨nd, rfl⟩⟩; (try first | exact ⟨rfl, _, World.drewN_drewN _ _ _⟩ | exact ⟨rfl, _, Eq.trans (World.drewN_drewN _ _ _) (congrArg (World.drewN _) (Nat.add_assoc _ _ _))⟩))))
                                        go_roundg k3
                                        case measure => have := HJ1.out; have := HK2.out; have := HK3.out; omega
                                        case rel => exact ⟨(wrap64 (x27_3 + 1)), (by first | rfl | (simp; done) | (simp [*]; done)), H', ⟨by have := HJ1.out; have := HK2.out; have := HK3.out; omega⟩, ⟨by (with_reducible repeat (first | refine blk_drewN ?_ _ | refine blk_drew ?_ | refine blk_alloc ?_ _)); refine blk_far ?_ NB101_105.out _; (with_reducible repeat (first | refine blk_drewN ?_ _ | refine blk_drew ?_ | refine blk_alloc ?_ _)); refine blk_far ?_ NB101_105.out _; (with_reducible repeat (first | refine blk_drewN ?_ _ | refine blk_drew ?_ | refine blk_alloc ?_ _)); exact BK101.out⟩, ⟨by repeat (first | (with_reducible first | exact HB.out | apply below_alloc | apply pw_below_drewN | apply below_drew1 | refine below_set ?_ GE101.out | refine below_set ?_ GE105.out) | exact HB.out)⟩⟩
                                      · replace c28 := Bool.eq_false_iff.mpr c28
                                        subst c28
                                        have H1 : (some false) = some r := by rw [if_neg (show ¬ (false = true) by decide)] at H; exact H
                                        clear H
                                        have H := H1
                                        clear H1
                                        obtain rfl := Option.some.inj H
                                        have p104 : 0 ≤ (x27_3 : Int) := of_decide_eq_true (by first | (with_reducible assumption) | assumption)
                                        have q104 : x27_3 < ((rd_L4 l0_0 x20_2).length : Int) := of_decide_eq_true (by first | (with_reducible assumption) | assumption)
                                        obtain ⟨ad104, e104, hx104_0, hx104_1⟩ := at_T61 HR103_0.out x27_3 p104 q104
                                        cases e104
                                        replace hx104_0 := (HB.out.cell (World.block_lt_of_cell? w _ hx104_0)).trans hx104_0
                                        replace hx104_1 := (HB.out.cell (World.block_lt_of_cell? w _ hx104_1)).trans hx104_1
                                        replace p104 := eq_true p104
                                        replace q104 := eq_true q104
                                        go_wp2_with (first | ((with_reducible refine gate_dst (N := 6) rfl ?_); refine box_event ?hg (N := 6) ?hd (cs := #[.int .i64 0, .int .i64 0]) (t := 61) ?hr ?_; (case hd => rfl); (case hg => rfl); (case hr => first | (go_simp; done) | (go_simp; rfl)); intro gb105 hg w33 hbox hb; have n0_ := Aside0.mk (blk_below (g := gb101) (o := .cells #[.slice (some ad103) l0_0.length c0_0, .int .i64 a0_1] 29 (0, 0)) (by (with_reducible repeat (first | refine blk_drewN ?_ _ | refine blk_drew ?_ | refine blk_alloc ?_ _)); exact BK101.out) hb); have n1_ := Aside0.mk (below_step (by repeat (first | (with_reducible first | exact HB.out | apply below_alloc | apply pw_below_drewN | apply below_drew1 | refine below_set ?_ GE101.out) | exact HB.out)) hb); have n2_ := Aside0.mk (hbox); have n3_ := Aside0.mk ((by rw [hg]; exact (below_size (by repeat (first | (with_reducible first | exact HB.out | apply below_alloc | apply pw_below_drewN | apply below_drew1 | refine below_set ?_ GE101.out) | exact HB.out))) : w.heap.size ≤ gb105)); have n4_ := Aside0.mk ((by rw [hg]; exact (below_size (by repeat (first | (with_reducible first | exact HB.out | apply below_alloc | apply pw_below_drewN | apply below_drew1 | refine below_set ?_ GE101.out) | exact HB.out))) : w.heap.size ≤ gb105)); have n5_ := Aside0.mk ((by rw [hg]; exact Nat.ne_of_lt (blk_lt (g := gb101) (o := .cells #[.slice (some ad103) l0_0.length c0_0, .int .i64 a0_1] 29 (0, 0)) (by (with_reducible repeat (first | refine blk_drewN ?_ _ | refine blk_drew ?_ | refine blk_alloc ?_ _)); exact BK101.out)) : gb101 ≠ gb105)); have n6_ := Aside0.mk ((by rw [hg]; exact Nat.ne_of_gt (blk_lt (g := gb101) (o := .cells #[.slice (some ad103) l0_0.length c0_0, .int .i64 a0_1] 29 (0, 0)) (by (with_reducible repeat (first | refine blk_drewN ?_ _ | refine blk_drew ?_ | refine blk_alloc ?_ _)); exact BK101.out)) : gb105 ≠ gb101)); clear BK101; clear HB; have BK101 := n0_; have HB := n1_; have BK105 := n2_; have GW105 := n3_; have GE105 := n4_; have NB101_105 := n5_; have NB105_101 := n6_; clear n0_ n1_ n2_ n3_ n4_ n5_ n6_; clear hb hbox hg; have hnb34 := NB105_101.out; have hnc34 := NB101_105.out; have hcz35_0 : w33.cell? ⟨gb105, 0, none⟩ = some (.int .i64 0) := (blk_cell BK105.out 0).trans rfl; have hcz35_1 : w33.cell? ⟨gb105, 1, none⟩ = some (.int .i64 0) := (blk_cell BK105.out 1).trans rfl; have hfz35_0 := blk_frozen BK105.out 0; have hfz35_1 := blk_frozen BK105.out 1; have hcz36_0 : w33.cell? ⟨gb101, 0, none⟩ = some (.slice (some ad103) l0_0.length c0_0) := (blk_cell BK101.out 0).trans rfl; have hcz36_1 : w33.cell? ⟨gb101, 1, none⟩ = some (.int .i64 a0_1) := (blk_cell BK101.out 1).trans rfl; have hfz36_0 := blk_frozen BK101.out 0; have hfz36_1 := blk_frozen BK101.out 1) | (go_at_call 42; (with_reducible refine (impl_within.calls ((rd_T61 (rd_L4 l0_0 x20_2) x27_3).f0) 1 a0_1 true _ A16.out).mono ?_); rintro e w' ⟨rfl, ⟨nd, rfl⟩⟩; (try first | exact ⟨rfl, _, World.drewN_drewN _ _ _⟩ | exact ⟨rfl, _, Eq.trans (World.drewN_drewN _ _ _) (congrArg (World.drewN _) (Nat.add_assoc _ _ _))⟩); have p107 : 0 ≤ ((ji19) : Int) := of_decide_eq_true (by first | (with_reducible assumption) | assumption); have q107 : (ji19) < ((rd_L4 l0_0 x20_2).length : Int) := of_decide_eq_true (by first | (with_reducible assumption) | assumption); obtain ⟨ad107, e107, hx107_0, hx107_1⟩ := at_T61 HR103_0.out (ji19) p107 q107; obtain rfl : ad104 = ad107 := (by injection e107); have hn107_0 : ad104.block ≠ gb105 := Nat.ne_of_lt (Nat.lt_of_lt_of_le (by have := World.block_lt_of_cell? _ _ hx107_0; first | rwa [add_block] at this | exact this) GW105.out); have hn107_1 : ad104.block ≠ gb105 := Nat.ne_of_lt (Nat.lt_of_lt_of_le (by have := World.block_lt_of_cell? _ _ hx107_0; first | rwa [add_block] at this | exact this) GW105.out); replace hx107_0 := (HB.out.cell (World.block_lt_of_cell? w _ hx107_0)).trans hx107_0; replace hx107_1 := (HB.out.cell (World.block_lt_of_cell? w _ hx107_1)).trans hx107_1; replace hx107_0 := (cell_far (p := ⟨gb105, 0, none⟩) (by first | (rw [add_block]; exact hn107_0) | (show (Addr.add _ _).block ≠ _; rw [add_block]; exact hn107_0) | exact hn107_0) (.int .i64 ((rd_T61 (rd_L4 l0_0 x20_2) x27_3).f0))).trans hx107_0; replace hx107_1 := (cell_far (p := ⟨gb105, 0, none⟩) (by first | (rw [add_block]; exact hn107_0) | (show (Addr.add _ _).block ≠ _; rw [add_block]; exact hn107_0) | exact hn107_0) (.int .i64 ((rd_T61 (rd_L4 l0_0 x20_2) x27_3).f0))).trans hx107_1; replace hx107_0 := (cell_far (p := ⟨gb105, 1, none⟩) (by first | (rw [add_block]; exact hn107_1) | (show (Addr.add _ _).block ≠ _; rw [add_block]; exact hn107_1) | exact hn107_1) (.int .i64 ((rd_T61 (rd_L4 l0_0 x20_2) x27_3).f1))).trans hx107_0; replace hx107_1 := (cell_far (p := ⟨gb105, 1, none⟩) (by first | (rw [add_block]; exact hn107_1) | (show (Addr.add _ _).block ≠ _; rw [add_block]; exact hn107_1) | exact hn107_1) (.int .i64 ((rd_T61 (rd_L4 l0_0 x20_2) x27_3).f1))).trans hx107_1; (try have hy107_0 := fun (n_ : Nat) => (show ((((w33.drewN n_).setCell ⟨gb105, 0, none⟩ (.int .i64 ((rd_T61 (rd_L4 l0_0 x20_2) x27_3).f0))).setCell ⟨gb105, 1, none⟩ (.int .i64 ((rd_T61 (rd_L4 l0_0 x20_2) x27_3).f1)))).cell? _ = some _ from hx107_0)); (try have hy107_1 := fun (n_ : Nat) => (show ((((w33.drewN n_).setCell ⟨gb105, 0, none⟩ (.int .i64 ((rd_T61 (rd_L4 l0_0 x20_2) x27_3).f0))).setCell ⟨gb105, 1, none⟩ (.int .i64 ((rd_T61 (rd_L4 l0_0 x20_2) x27_3).f1)))).cell? _ = some _ from hx107_1)); clear hn107_0; clear hn107_1; replace p107 := eq_true p107; replace q107 := eq_true q107) | (go_at_call 43; (with_reducible refine (impl_fits.calls x20_2 ((rd_T61 (rd_L4 l0_0 x20_2) x27_3).f1) false _ A27.out).mono ?_); rintro e w' ⟨rfl, ⟨nd, rfl⟩⟩; (try first | exact ⟨rfl, _, World.drewN_drewN _ _ _⟩ | exact ⟨rfl, _, Eq.trans (World.drewN_drewN _ _ _) (congrArg (World.drewN _) (Nat.add_assoc _ _ _))⟩)))
                                        repeat (go_quiet (first | ((with_reducible refine gate_dst (N := 6) rfl ?_); refine box_event ?hg (N := 6) ?hd (cs := #[.int .i64 0, .int .i64 0]) (t := 61) ?hr ?_; (case hd => rfl); (case hg => rfl); (case hr => first | (go_simp; done) | (go_simp; rfl)); intro gb105 hg w33 hbox hb; have n0_ := Aside0.mk (blk_below (g := gb101) (o := .cells #[.slice (some ad103) l0_0.length c0_0, .int .i64 a0_1] 29 (0, 0)) (by (with_reducible repeat (first | refine blk_drewN ?_ _ | refine blk_drew ?_ | refine blk_alloc ?_ _)); exact BK101.out) hb); have n1_ := Aside0.mk (below_step (by repeat (first | (with_reducible first | exact HB.out | apply below_alloc | apply pw_below_drewN | apply below_drew1 | refine below_set ?_ GE101.out) | exact HB.out)) hb); have n2_ := Aside0.mk (hbox); have n3_ := Aside0.mk ((by rw [hg]; exact (below_size (by repeat (first | (with_reducible first | exact HB.out | apply below_alloc | apply pw_below_drewN | apply below_drew1 | refine below_set ?_ GE101.out) | exact HB.out))) : w.heap.size ≤ gb105)); have n4_ := Aside0.mk ((by rw [hg]; exact (below_size (by repeat (first | (with_reducible first | exact HB.out | apply below_alloc | apply pw_below_drewN | apply below_drew1 | refine below_set ?_ GE101.out) | exact HB.out))) : w.heap.size ≤ gb105)); have n5_ := Aside0.mk ((by rw [hg]; exact Nat.ne_of_lt (blk_lt (g := gb101) (o := .cells #[.slice (some ad103) l0_0.length c0_0, .int .i64 a0_1] 29 (0, 0)) (by (with_reducible repeat (first | refine blk_drewN ?_ _ | refine blk_drew ?_ | refine blk_alloc ?_ _)); exact BK101.out)) : gb101 ≠ gb105)); have n6_ := Aside0.mk ((by rw [hg]; exact Nat.ne_of_gt (blk_lt (g := gb101) (o := .cells #[.slice (some ad103) l0_0.length c0_0, .int .i64 a0_1] 29 (0, 0)) (by (with_reducible repeat (first | refine blk_drewN ?_ _ | refine blk_drew ?_ | refine blk_alloc ?_ _)); exact BK101.out)) : gb105 ≠ gb101)); clear BK101; clear HB; have BK101 := n0_; have HB := n1_; have BK105 := n2_; have GW105 := n3_; have GE105 := n4_; have NB101_105 := n5_; have NB105_101 := n6_; clear n0_ n1_ n2_ n3_ n4_ n5_ n6_; clear hb hbox hg; have hnb34 := NB105_101.out; have hnc34 := NB101_105.out; have hcz35_0 : w33.cell? ⟨gb105, 0, none⟩ = some (.int .i64 0) := (blk_cell BK105.out 0).trans rfl; have hcz35_1 : w33.cell? ⟨gb105, 1, none⟩ = some (.int .i64 0) := (blk_cell BK105.out 1).trans rfl; have hfz35_0 := blk_frozen BK105.out 0; have hfz35_1 := blk_frozen BK105.out 1; have hcz36_0 : w33.cell? ⟨gb101, 0, none⟩ = some (.slice (some ad103) l0_0.length c0_0) := (blk_cell BK101.out 0).trans rfl; have hcz36_1 : w33.cell? ⟨gb101, 1, none⟩ = some (.int .i64 a0_1) := (blk_cell BK101.out 1).trans rfl; have hfz36_0 := blk_frozen BK101.out 0; have hfz36_1 := blk_frozen BK101.out 1) | (go_at_call 42; (with_reducible refine (impl_within.calls ((rd_T61 (rd_L4 l0_0 x20_2) x27_3).f0) 1 a0_1 true _ A16.out).mono ?_); rintro e w' ⟨rfl, ⟨nd, rfl⟩⟩; (try first | exact ⟨rfl, _, World.drewN_drewN _ _ _⟩ | exact ⟨rfl, _, Eq.trans (World.drewN_drewN _ _ _) (congrArg (World.drewN _) (Nat.add_assoc _ _ _))⟩); have p107 : 0 ≤ ((ji19) : Int) := of_decide_eq_true (by first | (with_reducible assumption) | assumption); have q107 : (ji19) < ((rd_L4 l0_0 x20_2).length : Int) := of_decide_eq_true (by first | (with_reducible assumption) | assumption); obtain ⟨ad107, e107, hx107_0, hx107_1⟩ := at_T61 HR103_0.out (ji19) p107 q107; obtain rfl : ad104 = ad107 := (by injection e107); have hn107_0 : ad104.block ≠ gb105 := Nat.ne_of_lt (Nat.lt_of_lt_of_le (by have := World.block_lt_of_cell? _ _ hx107_0; first | rwa [add_block] at this | exact this) GW105.out); have hn107_1 : ad104.block ≠ gb105 := Nat.ne_of_lt (Nat.lt_of_lt_of_le (by have := World.block_lt_of_cell? _ _ hx107_0; first | rwa [add_block] at this | exact this) GW105.out); replace hx107_0 := (HB.out.cell (World.block_lt_of_cell? w _ hx107_0)).trans hx107_0; replace hx107_1 := (HB.out.cell (World.block_lt_of_cell? w _ hx107_1)).trans hx107_1; replace hx107_0 := (cell_far (p := ⟨gb105, 0, none⟩) (by first | (rw [add_block]; exact hn107_0) | (show (Addr.add _ _).block ≠ _; rw [add_block]; exact hn107_0) | exact hn107_0) (.int .i64 ((rd_T61 (rd_L4 l0_0 x20_2) x27_3).f0))).trans hx107_0; replace hx107_1 := (cell_far (p := ⟨gb105, 0, none⟩) (by first | (rw [add_block]; exact hn107_0) | (show (Addr.add _ _).block ≠ _; rw [add_block]; exact hn107_0) | exact hn107_0) (.int .i64 ((rd_T61 (rd_L4 l0_0 x20_2) x27_3).f0))).trans hx107_1; replace hx107_0 := (cell_far (p := ⟨gb105, 1, none⟩) (by first | (rw [add_block]; exact hn107_1) | (show (Addr.add _ _).block ≠ _; rw [add_block]; exact hn107_1) | exact hn107_1) (.int .i64 ((rd_T61 (rd_L4 l0_0 x20_2) x27_3).f1))).trans hx107_0; replace hx107_1 := (cell_far (p := ⟨gb105, 1, none⟩) (by first | (rw [add_block]; exact hn107_1) | (show (Addr.add _ _).block ≠ _; rw [add_block]; exact hn107_1) | exact hn107_1) (.int .i64 ((rd_T61 (rd_L4 l0_0 x20_2) x27_3).f1))).trans hx107_1; (try have hy107_0 := fun (n_ : Nat) => (show ((((w33.drewN n_).setCell ⟨gb105, 0, none⟩ (.int .i64 ((rd_T61 (rd_L4 l0_0 x20_2) x27_3).f0))).setCell ⟨gb105, 1, none⟩ (.int .i64 ((rd_T61 (rd_L4 l0_0 x20_2) x27_3).f1)))).cell? _ = some _ from hx107_0)); (try have hy107_1 := fun (n_ : Nat) => (show ((((w33.drewN n_).setCell ⟨gb105, 0, none⟩ (.int .i64 ((rd_T61 (rd_L4 l0_0 x20_2) x27_3).f0))).setCell ⟨gb105, 1, none⟩ (.int .i64 ((rd_T61 (rd_L4 l0_0 x20_2) x27_3).f1)))).cell? _ = some _ from hx107_1)); clear hn107_0; clear hn107_1; replace p107 := eq_true p107; replace q107 := eq_true q107) | (go_at_call 43; (with_reducible refine (impl_fits.calls x20_2 ((rd_T61 (rd_L4 l0_0 x20_2) x27_3).f1) false _ A27.out).mono ?_); rintro e w' ⟨rfl, ⟨nd, rfl⟩⟩; (try first | exact ⟨rfl, _, World.drewN_drewN _ _ _⟩ | exact ⟨rfl, _, Eq.trans (World.drewN_drewN _ _ _) (congrArg (World.drewN _) (Nat.add_assoc _ _ _))⟩))); try go_wp2_with (first | ((with_reducible refine gate_dst (N := 6) rfl ?_); refine box_event ?hg (N := 6) ?hd (cs := #[.int .i64 0, .int .i64 0]) (t := 61) ?hr ?_; (case hd => rfl); (case hg => rfl); (case hr => first | (go_simp; done) | (go_simp; rfl)); intro gb105 hg w33 hbox hb; have n0_ := Aside0.mk (blk_below (g := gb101) (o := .cells #[.slice (some ad103) l0_0.length c0_0, .int .i64 a0_1] 29 (0, 0)) (by (with_reducible repeat (first | refine blk_drewN ?_ _ | refine blk_drew ?_ | refine blk_alloc ?_ _)); exact BK101.out) hb); have n1_ := Aside0.mk (below_step (by repeat (first | (with_reducible first | exact HB.out | apply below_alloc | apply pw_below_drewN | apply below_drew1 | refine below_set ?_ GE101.out) | exact HB.out)) hb); have n2_ := Aside0.mk (hbox); have n3_ := Aside0.mk ((by rw [hg]; exact (below_size (by repeat (first | (with_reducible first | exact HB.out | apply below_alloc | apply pw_below_drewN | apply below_drew1 | refine below_set ?_ GE101.out) | exact HB.out))) : w.heap.size ≤ gb105)); have n4_ := Aside0.mk ((by rw [hg]; exact (below_size (by repeat (first | (with_reducible first | exact HB.out | apply below_alloc | apply pw_below_drewN | apply below_drew1 | refine below_set ?_ GE101.out) | exact HB.out))) : w.heap.size ≤ gb105)); have n5_ := Aside0.mk ((by rw [hg]; exact Nat.ne_of_lt (blk_lt (g := gb101) (o := .cells #[.slice (some ad103) l0_0.length c0_0, .int .i64 a0_1] 29 (0, 0)) (by (with_reducible repeat (first | refine blk_drewN ?_ _ | refine blk_drew ?_ | refine blk_alloc ?_ _)); exact BK101.out)) : gb101 ≠ gb105)); have n6_ := Aside0.mk ((by rw [hg]; exact Nat.ne_of_gt (blk_lt (g := gb101) (o := .cells #[.slice (some ad103) l0_0.length c0_0, .int .i64 a0_1] 29 (0, 0)) (by (with_reducible repeat (first | refine blk_drewN ?_ _ | refine blk_drew ?_ | refine blk_alloc ?_ _)); exact BK101.out)) : gb105 ≠ gb101)); clear BK101; clear HB; have BK101 := n0_; have HB := n1_; have BK105 := n2_; have GW105 := n3_; have GE105 := n4_; have NB101_105 := n5_; have NB105_101 := n6_; clear n0_ n1_ n2_ n3_ n4_ n5_ n6_; clear hb hbox hg; have hnb34 := NB105_101.out; have hnc34 := NB101_105.out; have hcz35_0 : w33.cell? ⟨gb105, 0, none⟩ = some (.int .i64 0) := (blk_cell BK105.out 0).trans rfl; have hcz35_1 : w33.cell? ⟨gb105, 1, none⟩ = some (.int .i64 0) := (blk_cell BK105.out 1).trans rfl; have hfz35_0 := blk_frozen BK105.out 0; have hfz35_1 := blk_frozen BK105.out 1; have hcz36_0 : w33.cell? ⟨gb101, 0, none⟩ = some (.slice (some ad103) l0_0.length c0_0) := (blk_cell BK101.out 0).trans rfl; have hcz36_1 : w33.cell? ⟨gb101, 1, none⟩ = some (.int .i64 a0_1) := (blk_cell BK101.out 1).trans rfl; have hfz36_0 := blk_frozen BK101.out 0; have hfz36_1 := blk_frozen BK101.out 1) | (go_at_call 42; (with_reducible refine (impl_within.calls ((rd_T61 (rd_L4 l0_0 x20_2) x27_3).f0) 1 a0_1 true _ A16.out).mono ?_); rintro e w' ⟨rfl, ⟨nd, rfl⟩⟩; (try first | exact ⟨rfl, _, World.drewN_drewN _ _ _⟩ | exact ⟨rfl, _, Eq.trans (World.drewN_drewN _ _ _) (congrArg (World.drewN _) (Nat.add_assoc _ _ _))⟩); have p107 : 0 ≤ ((ji19) : Int) := of_decide_eq_true (by first | (with_reducible assumption) | assumption); have q107 : (ji19) < ((rd_L4 l0_0 x20_2).length : Int) := of_decide_eq_true (by first | (with_reducible assumption) | assumption); obtain ⟨ad107, e107, hx107_0, hx107_1⟩ := at_T61 HR103_0.out (ji19) p107 q107; obtain rfl : ad104 = ad107 := (by injection e107); have hn107_0 : ad104.block ≠ gb105 := Nat.ne_of_lt (Nat.lt_of_lt_of_le (by have := World.block_lt_of_cell? _ _ hx107_0; first | rwa [add_block] at this | exact this) GW105.out); have hn107_1 : ad104.block ≠ gb105 := Nat.ne_of_lt (Nat.lt_of_lt_of_le (by have := World.block_lt_of_cell? _ _ hx107_0; first | rwa [add_block] at this | exact this) GW105.out); replace hx107_0 := (HB.out.cell (World.block_lt_of_cell? w _ hx107_0)).trans hx107_0; replace hx107_1 := (HB.out.cell (World.block_lt_of_cell? w _ hx107_1)).trans hx107_1; replace hx107_0 := (cell_far (p := ⟨gb105, 0, none⟩) (by first | (rw [add_block]; exact hn107_0) | (show (Addr.add _ _).block ≠ _; rw [add_block]; exact hn107_0) | exact hn107_0) (.int .i64 ((rd_T61 (rd_L4 l0_0 x20_2) x27_3).f0))).trans hx107_0; replace hx107_1 := (cell_far (p := ⟨gb105, 0, none⟩) (by first | (rw [add_block]; exact hn107_0) | (show (Addr.add _ _).block ≠ _; rw [add_block]; exact hn107_0) | exact hn107_0) (.int .i64 ((rd_T61 (rd_L4 l0_0 x20_2) x27_3).f0))).trans hx107_1; replace hx107_0 := (cell_far (p := ⟨gb105, 1, none⟩) (by first | (rw [add_block]; exact hn107_1) | (show (Addr.add _ _).block ≠ _; rw [add_block]; exact hn107_1) | exact hn107_1) (.int .i64 ((rd_T61 (rd_L4 l0_0 x20_2) x27_3).f1))).trans hx107_0; replace hx107_1 := (cell_far (p := ⟨gb105, 1, none⟩) (by first | (rw [add_block]; exact hn107_1) | (show (Addr.add _ _).block ≠ _; rw [add_block]; exact hn107_1) | exact hn107_1) (.int .i64 ((rd_T61 (rd_L4 l0_0 x20_2) x27_3).f1))).trans hx107_1; (try have hy107_0 := fun (n_ : Nat) => (show ((((w33.drewN n_).setCell ⟨gb105, 0, none⟩ (.int .i64 ((rd_T61 (rd_L4 l0_0 x20_2) x27_3).f0))).setCell ⟨gb105, 1, none⟩ (.int .i64 ((rd_T61 (rd_L4 l0_0 x20_2) x27_3).f1)))).cell? _ = some _ from hx107_0)); (try have hy107_1 := fun (n_ : Nat) => (show ((((w33.drewN n_).setCell ⟨gb105, 0, none⟩ (.int .i64 ((rd_T61 (rd_L4 l0_0 x20_2) x27_3).f0))).setCell ⟨gb105, 1, none⟩ (.int .i64 ((rd_T61 (rd_L4 l0_0 x20_2) x27_3).f1)))).cell? _ = some _ from hx107_1)); clear hn107_0; clear hn107_1; replace p107 := eq_true p107; replace q107 := eq_true q107) | (go_at_call 43; (with_reducible refine (impl_fits.calls x20_2 ((rd_T61 (rd_L4 l0_0 x20_2) x27_3).f1) false _ A27.out).mono ?_); rintro e w' ⟨rfl, ⟨nd, rfl⟩⟩; (try first | exact ⟨rfl, _, World.drewN_drewN _ _ _⟩ | exact ⟨rfl, _, Eq.trans (World.drewN_drewN _ _ _) (congrArg (World.drewN _) (Nat.add_assoc _ _ _))⟩))))
                                        go_ret
                                        exact ⟨by first | rfl | (simp [errW_none, errW_some] <;> rfl) | (simp only [← hji19]; first | rfl | (simp [errW_none, errW_some] <;> rfl)) | (simp [*, errW_none, errW_some] <;> rfl), by repeat (first | (with_reducible first | exact HB.out | apply below_alloc | apply pw_below_drewN | apply below_drew1 | refine below_set ?_ GE101.out | refine below_set ?_ GE105.out) | exact HB.out)⟩
                                  · rw [if_neg c21] at H
                                    exact absurd H (by simp)
                                · rw [if_neg c20] at H
                                  exact absurd H (by simp)
                              · rw [if_neg c18] at H
                                have c18b0 : decide (0 < x27_3) = false := decide_eq_false c18
                                clear c18
                                replace H := Option.bind_eq_some_iff.mp H
                                obtain ⟨t109, A370, H⟩ := H
                                replace H : (if t109 = true then (impl_StoreOK.l1 k3 x20_2 (rd_L4 l0_0 x20_2) l0_0 (l0_0.length : Int) x20_2 (rd_L4 l0_0 x20_2) ((rd_L4 l0_0 x20_2).length : Int) (wrap64 (x27_3 + 1)) l0_0 a0_1) else (some false)) = some r := H
                                have A37 := Aside0.mk A370
                                clear A370
                                by_cases c38 : t109 = true
                                · subst c38
                                  have H1 : (impl_StoreOK.l1 k3 x20_2 (rd_L4 l0_0 x20_2) l0_0 (l0_0.length : Int) x20_2 (rd_L4 l0_0 x20_2) ((rd_L4 l0_0 x20_2).length : Int) (wrap64 (x27_3 + 1)) l0_0 a0_1) = some r := by rw [if_pos rfl] at H; exact H
                                  clear H
                                  have H := H1
                                  clear H1
                                  have H' := Aside0.mk H
                                  clear H
                                  have p104 : 0 ≤ (x27_3 : Int) := of_decide_eq_true (by first | (with_reducible assumption) | assumption)
                                  have q104 : x27_3 < ((rd_L4 l0_0 x20_2).length : Int) := of_decide_eq_true (by first | (with_reducible assumption) | assumption)
                                  obtain ⟨ad104, e104, hx104_0, hx104_1⟩ := at_T61 HR103_0.out x27_3 p104 q104
                                  cases e104
                                  replace hx104_0 := (HB.out.cell (World.block_lt_of_cell? w _ hx104_0)).trans hx104_0
                                  replace hx104_1 := (HB.out.cell (World.block_lt_of_cell? w _ hx104_1)).trans hx104_1
                                  replace p104 := eq_true p104
                                  replace q104 := eq_true q104
                                  go_wp2_with (first | ((with_reducible refine gate_dst (N := 6) rfl ?_); refine box_event ?hg (N := 6) ?hd (cs := #[.int .i64 0, .int .i64 0]) (t := 61) ?hr ?_; (case hd => rfl); (case hg => rfl); (case hr => first | (go_simp; done) | (go_simp; rfl)); intro gb105 hg w39 hbox hb; have n0_ := Aside0.mk (blk_below (g := gb101) (o := .cells #[.slice (some ad103) l0_0.length c0_0, .int .i64 a0_1] 29 (0, 0)) (by (with_reducible repeat (first | refine blk_drewN ?_ _ | refine blk_drew ?_ | refine blk_alloc ?_ _)); exact BK101.out) hb); have n1_ := Aside0.mk (below_step (by repeat (first | (with_reducible first | exact HB.out | apply below_alloc | apply pw_below_drewN | apply below_drew1 | refine below_set ?_ GE101.out) | exact HB.out)) hb); have n2_ := Aside0.mk (hbox); have n3_ := Aside0.mk ((by rw [hg]; exact (below_size (by repeat (first | (with_reducible first | exact HB.out | apply below_alloc | apply pw_below_drewN | apply below_drew1 | refine below_set ?_ GE101.out) | exact HB.out))) : w.heap.size ≤ gb105)); have n4_ := Aside0.mk ((by rw [hg]; exact (below_size (by repeat (first | (with_reducible first | exact HB.out | apply below_alloc | apply pw_below_drewN | apply below_drew1 | refine below_set ?_ GE101.out) | exact HB.out))) : w.heap.size ≤ gb105)); have n5_ := Aside0.mk ((by rw [hg]; exact Nat.ne_of_lt (blk_lt (g := gb101) (o := .cells #[.slice (some ad103) l0_0.length c0_0, .int .i64 a0_1] 29 (0, 0)) (by (with_reducible repeat (first | refine blk_drewN ?_ _ | refine blk_drew ?_ | refine blk_alloc ?_ _)); exact BK101.out)) : gb101 ≠ gb105)); have n6_ := Aside0.mk ((by rw [hg]; exact Nat.ne_of_gt (blk_lt (g := gb101) (o := .cells #[.slice (some ad103) l0_0.length c0_0, .int .i64 a0_1] 29 (0, 0)) (by (with_reducible repeat (first | refine blk_drewN ?_ _ | refine blk_drew ?_ | refine blk_alloc ?_ _)); exact BK101.out)) : gb105 ≠ gb101)); clear BK101; clear HB; have BK101 := n0_; have HB := n1_; have BK105 := n2_; have GW105 := n3_; have GE105 := n4_; have NB101_105 := n5_; have NB105_101 := n6_; clear n0_ n1_ n2_ n3_ n4_ n5_ n6_; clear hb hbox hg; have hnb40 := NB105_101.out; have hnc40 := NB101_105.out; have hcz41_0 : w39.cell? ⟨gb105, 0, none⟩ = some (.int .i64 0) := (blk_cell BK105.out 0).trans rfl; have hcz41_1 : w39.cell? ⟨gb105, 1, none⟩ = some (.int .i64 0) := (blk_cell BK105.out 1).trans rfl; have hfz41_0 := blk_frozen BK105.out 0; have hfz41_1 := blk_frozen BK105.out 1; have hcz42_0 : w39.cell? ⟨gb101, 0, none⟩ = some (.slice (some ad103) l0_0.length c0_0) := (blk_cell BK101.out 0).trans rfl; have hcz42_1 : w39.cell? ⟨gb101, 1, none⟩ = some (.int .i64 a0_1) := (blk_cell BK101.out 1).trans rfl; have hfz42_0 := blk_frozen BK101.out 0; have hfz42_1 := blk_frozen BK101.out 1) | (go_at_call 42; (with_reducible refine (impl_within.calls ((rd_T61 (rd_L4 l0_0 x20_2) x27_3).f0) 1 a0_1 true _ A16.out).mono ?_); rintro e w' ⟨rfl, ⟨nd, rfl⟩⟩; (try first | exact ⟨rfl, _, World.drewN_drewN _ _ _⟩ | exact ⟨rfl, _, Eq.trans (World.drewN_drewN _ _ _) (congrArg (World.drewN _) (Nat.add_assoc _ _ _))⟩)) | (go_at_call 43; (with_reducible refine (impl_fits.calls x20_2 ((rd_T61 (rd_L4 l0_0 x20_2) x27_3).f1) true _ A37.out).mono ?_); rintro e w' ⟨rfl, ⟨nd, rfl⟩⟩; (try first | exact ⟨rfl, _, World.drewN_drewN _ _ _⟩ | exact ⟨rfl, _, Eq.trans (World.drewN_drewN _ _ _) (congrArg (World.drewN _) (Nat.add_assoc _ _ _))⟩)))
                                  repeat (go_quiet (first | ((with_reducible refine gate_dst (N := 6) rfl ?_); refine box_event ?hg (N := 6) ?hd (cs := #[.int .i64 0, .int .i64 0]) (t := 61) ?hr ?_; (case hd => rfl); (case hg => rfl); (case hr => first | (go_simp; done) | (go_simp; rfl)); intro gb105 hg w39 hbox hb; have n0_ := Aside0.mk (blk_below (g := gb101) (o := .cells #[.slice (some ad103) l0_0.length c0_0, .int .i64 a0_1] 29 (0, 0)) (by (with_reducible repeat (first | refine blk_drewN ?_ _ | refine blk_drew ?_ | refine blk_alloc ?_ _)); exact BK101.out) hb); have n1_ := Aside0.mk (below_step (by repeat (first | (with_reducible first | exact HB.out | apply below_alloc | apply pw_below_drewN | apply below_drew1 | refine below_set ?_ GE101.out) | exact HB.out)) hb); have n2_ := Aside0.mk (hbox); have n3_ := Aside0.mk ((by rw [hg]; exact (below_size (by repeat (first | (with_reducible first | exact HB.out | apply below_alloc | apply pw_below_drewN | apply below_drew1 | refine below_set ?_ GE101.out) | exact HB.out))) : w.heap.size ≤ gb105)); have n4_ := Aside0.mk ((by rw [hg]; exact (below_size (by repeat (first | (with_reducible first | exact HB.out | apply below_alloc | apply pw_below_drewN | apply below_drew1 | refine below_set ?_ GE101.out) | exact HB.out))) : w.heap.size ≤ gb105)); have n5_ := Aside0.mk ((by rw [hg]; exact Nat.ne_of_lt (blk_lt (g := gb101) (o := .cells #[.slice (some ad103) l0_0.length c0_0, .int .i64 a0_1] 29 (0, 0)) (by (with_reducible repeat (first | refine blk_drewN ?_ _ | refine blk_drew ?_ | refine blk_alloc ?_ _)); exact BK101.out)) : gb101 ≠ gb105)); have n6_ := Aside0.mk ((by rw [hg]; exact Nat.ne_of_gt (blk_lt (g := gb101) (o := .cells #[.slice (some ad103) l0_0.length c0_0, .int .i64 a0_1] 29 (0, 0)) (by (with_reducible repeat (first | refine blk_drewN ?_ _ | refine blk_drew ?_ | refine blk_alloc ?_ _)); exact BK101.out)) : gb105 ≠ gb101)); clear BK101; clear HB; have BK101 := n0_; have HB := n1_; have BK105 := n2_; have GW105 := n3_; have GE105 := n4_; have NB101_105 := n5_; have NB105_101 := n6_; clear n0_ n1_ n2_ n3_ n4_ n5_ n6_; clear hb hbox hg; have hnb40 := NB105_101.out; have hnc40 := NB101_105.out; have hcz41_0 : w39.cell? ⟨gb105, 0, none⟩ = some (.int .i64 0) := (blk_cell BK105.out 0).trans rfl; have hcz41_1 : w39.cell? ⟨gb105, 1, none⟩ = some (.int .i64 0) := (blk_cell BK105.out 1).trans rfl; have hfz41_0 := blk_frozen BK105.out 0; have hfz41_1 := blk_frozen BK105.out 1; have hcz42_0 : w39.cell? ⟨gb101, 0, none⟩ = some (.slice (some ad103) l0_0.length c0_0) := (blk_cell BK101.out 0).trans rfl; have hcz42_1 : w39.cell? ⟨gb101, 1, none⟩ = some (.int .i64 a0_1) := (blk_cell BK101.out 1).trans rfl; have hfz42_0 := blk_frozen BK101.out 0; have hfz42_1 := blk_frozen BK101.out 1) | (go_at_call 42; (with_reducible refine (impl_within.calls ((rd_T61 (rd_L4 l0_0 x20_2) x27_3).f0) 1 a0_1 true _ A16.out).mono ?_); rintro e w' ⟨rfl, ⟨nd, rfl⟩⟩; (try first | exact ⟨rfl, _, World.drewN_drewN _ _ _⟩ | exact ⟨rfl, _, Eq.trans (World.drewN_drewN _ _ _) (congrArg (World.drewN _) (Nat.add_assoc _ _ _))⟩)) | (go_at_call 43; (with_reducible refine (impl_fits.calls x20_2 ((rd_T61 (rd_L4 l0_0 x20_2) x27_3).f1) true _ A37.out).mono ?_); rintro e w' ⟨rfl, ⟨nd, rfl⟩⟩; (try first | exact ⟨rfl, _, World.drewN_drewN _ _ _⟩ | exact ⟨rfl, _, Eq.trans (World.drewN_drewN _ _ _) (congrArg (World.drewN _) (Nat.add_assoc _ _ _))⟩))); try go_wp2_with (first | ((with_reducible refine gate_dst (N := 6) rfl ?_); refine box_event ?hg (N := 6) ?hd (cs := #[.int .i64 0, .int .i64 0]) (t := 61) ?hr ?_; (case hd => rfl); (case hg => rfl); (case hr => first | (go_simp; done) | (go_simp; rfl)); intro gb105 hg w39 hbox hb; have n0_ := Aside0.mk (blk_below (g := gb101) (o := .cells #[.slice (some ad103) l0_0.length c0_0, .int .i64 a0_1] 29 (0, 0)) (by (with_reducible repeat (first | refine blk_drewN ?_ _ | refine blk_drew ?_ | refine blk_alloc ?_ _)); exact BK101.out) hb); have n1_ := Aside0.mk (below_step (by repeat (first | (with_reducible first | exact HB.out | apply below_alloc | apply pw_below_drewN | apply below_drew1 | refine below_set ?_ GE101.out) | exact HB.out)) hb); have n2_ := Aside0.mk (hbox); have n3_ := Aside0.mk ((by rw [hg]; exact (below_size (by repeat (first | (with_reducible first | exact HB.out | apply below_alloc | apply pw_below_drewN | apply below_drew1 | refine below_set ?_ GE101.out) | exact HB.out))) : w.heap.size ≤ gb105)); have n4_ := Aside0.mk ((by rw [hg]; exact (below_size (by repeat (first | (with_reducible first | exact HB.out | apply below_alloc | apply pw_below_drewN | apply below_drew1 | refine below_set ?_ GE101.out) | exact HB.out))) : w.heap.size ≤ gb105)); have n5_ := Aside0.mk ((by rw [hg]; exact Nat.ne_of_lt (blk_lt (g := gb101) (o := .cells #[.slice (some ad103) l0_0.length c0_0, .int .i64 a0_1] 29 (0, 0)) (by (with_reducible repeat (first | refine blk_drewN ?_ _ | refine blk_drew ?_ | refine blk_alloc ?_ _)); exact BK101.out)) : gb101 ≠ gb105)); have n6_ := Aside0.mk ((by rw [hg]; exact Nat.ne_of_gt (blk_lt (g := gb101) (o := .cells #[.slice (some ad103) l0_0.length c0_0, .int .i64 a0_1] 29 (0, 0)) (by (with_reducible repeat (first | refine blk_drewN ?_ _ | refine blk_drew ?_ | refine blk_alloc ?_ _)); exact BK101.out)) : gb105 ≠ gb101)); clear BK101; clear HB; have BK101 := n0_; have HB := n1_; have BK105 := n2_; have GW105 := n3_; have GE105 := n4_; have NB101_105 := n5_; have NB105_101 := n6_; clear n0_ n1_ n2_ n3_ n4_ n5_ n6_; clear hb hbox hg; have hnb40 := NB105_101.out; have hnc40 := NB101_105.out; have hcz41_0 : w39.cell? ⟨gb105, 0, none⟩ = some (.int .i64 0) := (blk_cell BK105.out 0).trans rfl; have hcz41_1 : w39.cell? ⟨gb105, 1, none⟩ = some (.int .i64 0) := (blk_cell BK105.out 1).trans rfl; have hfz41_0 := blk_frozen BK105.out 0; have hfz41_1 := blk_frozen BK105.out 1; have hcz42_0 : w39.cell? ⟨gb101, 0, none⟩ = some (.slice (some ad103) l0_0.length c0_0) := (blk_cell BK101.out 0).trans rfl; have hcz42_1 : w39.cell? ⟨gb101, 1, none⟩ = some (.int .i64 a0_1) := (blk_cell BK101.out 1).trans rfl; have hfz42_0 := blk_frozen BK101.out 0; have hfz42_1 := blk_frozen BK101.out 1) | (go_at_call 42; (with_reducible refine (impl_within.calls ((rd_T61 (rd_L4 l0_0 x20_2) x27_3).f0) 1 a0_1 true _ A16.out).mono ?_); rintro e w' ⟨rfl, ⟨nd, rfl⟩⟩; (try first | exact ⟨rfl, _, World.drewN_drewN _ _ _⟩ | exact ⟨rfl, _, Eq.trans (World.drewN_drewN _ _ _) (congrArg (World.drewN _) (Nat.add_assoc _ _ _))⟩)) | (go_at_call 43; (with_reducible refine (impl_fits.calls x20_2 ((rd_T61 (rd_L4 l0_0 x20_2) x27_3).f1) true _ A37.out).mono ?_); rintro e w' ⟨rfl, ⟨nd, rfl⟩⟩; (try first | exact ⟨rfl, _, World.drewN_drewN _ _ _⟩ | exact ⟨rfl, _, Eq.trans (World.drewN_drewN _ _ _) (congrArg (World.drewN _) (Nat.add_assoc _ _ _))⟩))))
                                  go_roundg k3
                                  case measure => have := HJ1.out; have := HK2.out; have := HK3.out; omega
                                  case rel => exact ⟨(wrap64 (x27_3 + 1)), (by first | rfl | (simp; done) | (simp [*]; done)), H', ⟨by have := HJ1.out; have := HK2.out; have := HK3.out; omega⟩, ⟨by (with_reducible repeat (first | refine blk_drewN ?_ _ | refine blk_drew ?_ | refine blk_alloc ?_ _)); refine blk_far ?_ NB101_105.out _; (with_reducible repeat (first | refine blk_drewN ?_ _ | refine blk_drew ?_ | refine blk_alloc ?_ _)); refine blk_far ?_ NB101_105.out _; (with_reducible repeat (first | refine blk_drewN ?_ _ | refine blk_drew ?_ | refine blk_alloc ?_ _)); exact BK101.out⟩, ⟨by repeat (first | (with_reducible first | exact HB.out | apply below_alloc | apply pw_below_drewN | apply below_drew1 | refine below_set ?_ GE101.out | refine below_set ?_ GE105.out) | exact HB.out)⟩⟩
                                · replace c38 := Bool.eq_false_iff.mpr c38
                                  subst c38
                                  have H1 : (some false) = some r := by rw [if_neg (show ¬ (false = true) by decide)] at H; exact H
                                  clear H
                                  have H := H1
                                  clear H1
                                  obtain rfl := Option.some.inj H
                                  have p104 : 0 ≤ (x27_3 : Int) := of_decide_eq_true (by first | (with_reducible assumption) | assumption)
                                  have q104 : x27_3 < ((rd_L4 l0_0 x20_2).length : Int) := of_decide_eq_true (by first | (with_reducible assumption) | assumption)
                                  obtain ⟨ad104, e104, hx104_0, hx104_1⟩ := at_T61 HR103_0.out x27_3 p104 q104
                                  cases e104
                                  replace hx104_0 := (HB.out.cell (World.block_lt_of_cell? w _ hx104_0)).trans hx104_0
                                  replace hx104_1 := (HB.out.cell (World.block_lt_of_cell? w _ hx104_1)).trans hx104_1
                                  replace p104 := eq_true p104
                                  replace q104 := eq_true q104
                                  go_wp2_with (first | ((with_reducible refine gate_dst (N := 6) rfl ?_); refine box_event ?hg (N := 6) ?hd (cs := #[.int .i64 0, .int .i64 0]) (t := 61) ?hr ?_; (case hd => rfl); (case hg => rfl); (case hr => first | (go_simp; done) | (go_simp; rfl)); intro gb105 hg w43 hbox hb; have n0_ := Aside0.mk (blk_below (g := gb101) (o := .cells #[.slice (some ad103) l0_0.length c0_0, .int .i64 a0_1] 29 (0, 0)) (by (with_reducible repeat (first | refine blk_drewN ?_ _ | refine blk_drew ?_ | refine blk_alloc ?_ _)); exact BK101.out) hb); have n1_ := Aside0.mk (below_step (by repeat (first | (with_reducible first | exact HB.out | apply below_alloc | apply pw_below_drewN | apply below_drew1 | refine below_set ?_ GE101.out) | exact HB.out)) hb); have n2_ := Aside0.mk (hbox); have n3_ := Aside0.mk ((by rw [hg]; exact (below_size (by repeat (first | (with_reducible first | exact HB.out | apply below_alloc | apply pw_below_drewN | apply below_drew1 | refine below_set ?_ GE101.out) | exact HB.out))) : w.heap.size ≤ gb105)); have n4_ := Aside0.mk ((by rw [hg]; exact (below_size (by repeat (first | (with_reducible first | exact HB.out | apply below_alloc | apply pw_below_drewN | apply below_drew1 | refine below_set ?_ GE101.out) | exact HB.out))) : w.heap.size ≤ gb105)); have n5_ := Aside0.mk ((by rw [hg]; exact Nat.ne_of_lt (blk_lt (g := gb101) (o := .cells #[.slice (some ad103) l0_0.length c0_0, .int .i64 a0_1] 29 (0, 0)) (by (with_reducible repeat (first | refine blk_drewN ?_ _ | refine blk_drew ?_ | refine blk_alloc ?_ _)); exact BK101.out)) : gb101 ≠ gb105)); have n6_ := Aside0.mk ((by rw [hg]; exact Nat.ne_of_gt (blk_lt (g := gb101) (o := .cells #[.slice (some ad103) l0_0.length c0_0, .int .i64 a0_1] 29 (0, 0)) (by (with_reducible repeat (first | refine blk_drewN ?_ _ | refine blk_drew ?_ | refine blk_alloc ?_ _)); exact BK101.out)) : gb105 ≠ gb101)); clear BK101; clear HB; have BK101 := n0_; have HB := n1_; have BK105 := n2_; have GW105 := n3_; have GE105 := n4_; have NB101_105 := n5_; have NB105_101 := n6_; clear n0_ n1_ n2_ n3_ n4_ n5_ n6_; clear hb hbox hg; have hnb44 := NB105_101.out; have hnc44 := NB101_105.out; have hcz45_0 : w43.cell? ⟨gb105, 0, none⟩ = some (.int .i64 0) := (blk_cell BK105.out 0).trans rfl; have hcz45_1 : w43.cell? ⟨gb105, 1, none⟩ = some (.int .i64 0) := (blk_cell BK105.out 1).trans rfl; have hfz45_0 := blk_frozen BK105.out 0; have hfz45_1 := blk_frozen BK105.out 1; have hcz46_0 : w43.cell? ⟨gb101, 0, none⟩ = some (.slice (some ad103) l0_0.length c0_0) := (blk_cell BK101.out 0).trans rfl; have hcz46_1 : w43.cell? ⟨gb101, 1, none⟩ = some (.int .i64 a0_1) := (blk_cell BK101.out 1).trans rfl; have hfz46_0 := blk_frozen BK101.out 0; have hfz46_1 := blk_frozen BK101.out 1) | (go_at_call 42; (with_reducible refine (impl_within.calls ((rd_T61 (rd_L4 l0_0 x20_2) x27_3).f0) 1 a0_1 true _ A16.out).mono ?_); rintro e w' ⟨rfl, ⟨nd, rfl⟩⟩; (try first | exact ⟨rfl, _, World.drewN_drewN _ _ _⟩ | exact ⟨rfl, _, Eq.trans (World.drewN_drewN _ _ _) (congrArg (World.drewN _) (Nat.add_assoc _ _ _))⟩)) | (go_at_call 43; (with_reducible refine (impl_fits.calls x20_2 ((rd_T61 (rd_L4 l0_0 x20_2) x27_3).f1) false _ A37.out).mono ?_); rintro e w' ⟨rfl, ⟨nd, rfl⟩⟩; (try first | exact ⟨rfl, _, World.drewN_drewN _ _ _⟩ | exact ⟨rfl, _, Eq.trans (World.drewN_drewN _ _ _) (congrArg (World.drewN _) (Nat.add_assoc _ _ _))⟩)))
                                  repeat (go_quiet (first | ((with_reducible refine gate_dst (N := 6) rfl ?_); refine box_event ?hg (N := 6) ?hd (cs := #[.int .i64 0, .int .i64 0]) (t := 61) ?hr ?_; (case hd => rfl); (case hg => rfl); (case hr => first | (go_simp; done) | (go_simp; rfl)); intro gb105 hg w43 hbox hb; have n0_ := Aside0.mk (blk_below (g := gb101) (o := .cells #[.slice (some ad103) l0_0.length c0_0, .int .i64 a0_1] 29 (0, 0)) (by (with_reducible repeat (first | refine blk_drewN ?_ _ | refine blk_drew ?_ | refine blk_alloc ?_ _)); exact BK101.out) hb); have n1_ := Aside0.mk (below_step (by repeat (first | (with_reducible first | exact HB.out | apply below_alloc | apply pw_below_drewN | apply below_drew1 | refine below_set ?_ GE101.out) | exact HB.out)) hb); have n2_ := Aside0.mk (hbox); have n3_ := Aside0.mk ((by rw [hg]; exact (below_size (by repeat (first | (with_reducible first | exact HB.out | apply below_alloc | apply pw_below_drewN | apply below_drew1 | refine below_set ?_ GE101.out) | exact HB.out))) : w.heap.size ≤ gb105)); have n4_ := Aside0.mk ((by rw [hg]; exact (below_size (by repeat (first | (with_reducible first | exact HB.out | apply below_alloc | apply pw_below_drewN | apply below_drew1 | refine below_set ?_ GE101.out) | exact HB.out))) : w.heap.size ≤ gb105)); have n5_ := Aside0.mk ((by rw [hg]; exact Nat.ne_of_lt (blk_lt (g := gb101) (o := .cells #[.slice (some ad103) l0_0.length c0_0, .int .i64 a0_1] 29 (0, 0)) (by (with_reducible repeat (first | refine blk_drewN ?_ _ | refine blk_drew ?_ | refine blk_alloc ?_ _)); exact BK101.out)) : gb101 ≠ gb105)); have n6_ := Aside0.mk ((by rw [hg]; exact Nat.ne_of_gt (blk_lt (g := gb101) (o := .cells #[.slice (some ad103) l0_0.length c0_0, .int .i64 a0_1] 29 (0, 0)) (by (with_reducible repeat (first | refine blk_drewN ?_ _ | refine blk_drew ?_ | refine blk_alloc ?_ _)); exact BK101.out)) : gb105 ≠ gb101)); clear BK101; clear HB; have BK101 := n0_; have HB := n1_; have BK105 := n2_; have GW105 := n3_; have GE105 := n4_; have NB101_105 := n5_; have NB105_101 := n6_; clear n0_ n1_ n2_ n3_ n4_ n5_ n6_; clear hb hbox hg; have hnb44 := NB105_101.out; have hnc44 := NB101_105.out; have hcz45_0 : w43.cell? ⟨gb105, 0, none⟩ = some (.int .i64 0) := (blk_cell BK105.out 0).trans rfl; have hcz45_1 : w43.cell? ⟨gb105, 1, none⟩ = some (.int .i64 0) := (blk_cell BK105.out 1).trans rfl; have hfz45_0 := blk_frozen BK105.out 0; have hfz45_1 := blk_frozen BK105.out 1; have hcz46_0 : w43.cell? ⟨gb101, 0, none⟩ = some (.slice (some ad103) l0_0.length c0_0) := (blk_cell BK101.out 0).trans rfl; have hcz46_1 : w43.cell? ⟨gb101, 1, none⟩ = some (.int .i64 a0_1) := (blk_cell BK101.out 1).trans rfl; have hfz46_0 := blk_frozen BK101.out 0; have hfz46_1 := blk_frozen BK101.out 1) | (go_at_call 42; (with_reducible refine (impl_within.calls ((rd_T61 (rd_L4 l0_0 x20_2) x27_3).f0) 1 a0_1 true _ A16.out).mono ?_); rintro e w' ⟨rfl, ⟨nd, rfl⟩⟩; (try first | exact ⟨rfl, _, World.drewN_drewN _ _ _⟩ | exact ⟨rfl, _, Eq.trans (World.drewN_drewN _ _ _) (congrArg (World.drewN _) (Nat.add_assoc _ _ _))⟩)) | (go_at_call 43; (with_reducible refine (impl_fits.calls x20_2 ((rd_T61 (rd_L4 l0_0 x20_2) x27_3).f1) false _ A37.out).mono ?_); rintro e w' ⟨rfl, ⟨nd, rfl⟩⟩; (try first | exact ⟨rfl, _, World.drewN_drewN _ _ _⟩ | exact ⟨rfl, _, Eq.trans (World.drewN_drewN _ _ _) (congrArg (World.drewN _) (Nat.add_assoc _ _ _))⟩))); try go_wp2_with (first | ((with_reducible refine gate_dst (N := 6) rfl ?_); refine box_event ?hg (N := 6) ?hd (cs := #[.int .i64 0, .int .i64 0]) (t := 61) ?hr ?_; (case hd => rfl); (case hg => rfl); (case hr => first | (go_simp; done) | (go_simp; rfl)); intro gb105 hg w43 hbox hb; have n0_ := Aside0.mk (blk_below (g := gb101) (o := .cells #[.slice (some ad103) l0_0.length c0_0, .int .i64 a0_1] 29 (0, 0)) (by (with_reducible repeat (first | refine blk_drewN ?_ _ | refine blk_drew ?_ | refine blk_alloc ?_ _)); exact BK101.out) hb); have n1_ := Aside0.mk (below_step (by repeat (first | (with_reducible first | exact HB.out | apply below_alloc | apply pw_below_drewN | apply below_drew1 | refine below_set ?_ GE101.out) | exact HB.out)) hb); have n2_ := Aside0.mk (hbox); have n3_ := Aside0.mk ((by rw [hg]; exact (below_size (by repeat (first | (with_reducible first | exact HB.out | apply below_alloc | apply pw_below_drewN | apply below_drew1 | refine below_set ?_ GE101.out) | exact HB.out))) : w.heap.size ≤ gb105)); have n4_ := Aside0.mk ((by rw [hg]; exact (below_size (by repeat (first | (with_reducible first | exact HB.out | apply below_alloc | apply pw_below_drewN | apply below_drew1 | refine below_set ?_ GE101.out) | exact HB.out))) : w.heap.size ≤ gb105)); have n5_ := Aside0.mk ((by rw [hg]; exact Nat.ne_of_lt (blk_lt (g := gb101) (o := .cells #[.slice (some ad103) l0_0.length c0_0, .int .i64 a0_1] 29 (0, 0)) (by (with_reducible repeat (first | refine blk_drewN ?_ _ | refine blk_drew ?_ | refine blk_alloc ?_ _)); exact BK101.out)) : gb101 ≠ gb105)); have n6_ := Aside0.mk ((by rw [hg]; exact Nat.ne_of_gt (blk_lt (g := gb101) (o := .cells #[.slice (some ad103) l0_0.length c0_0, .int .i64 a0_1] 29 (0, 0)) (by (with_reducible repeat (first | refine blk_drewN ?_ _ | refine blk_drew ?_ | refine blk_alloc ?_ _)); exact BK101.out)) : gb105 ≠ gb101)); clear BK101; clear HB; have BK101 := n0_; have HB := n1_; have BK105 := n2_; have GW105 := n3_; have GE105 := n4_; have NB101_105 := n5_; have NB105_101 := n6_; clear n0_ n1_ n2_ n3_ n4_ n5_ n6_; clear hb hbox hg; have hnb44 := NB105_101.out; have hnc44 := NB101_105.out; have hcz45_0 : w43.cell? ⟨gb105, 0, none⟩ = some (.int .i64 0) := (blk_cell BK105.out 0).trans rfl; have hcz45_1 : w43.cell? ⟨gb105, 1, none⟩ = some (.int .i64 0) := (blk_cell BK105.out 1).trans rfl; have hfz45_0 := blk_frozen BK105.out 0; have hfz45_1 := blk_frozen BK105.out 1; have hcz46_0 : w43.cell? ⟨gb101, 0, none⟩ = some (.slice (some ad103) l0_0.length c0_0) := (blk_cell BK101.out 0).trans rfl; have hcz46_1 : w43.cell? ⟨gb101, 1, none⟩ = some (.int .i64 a0_1) := (blk_cell BK101.out 1).trans rfl; have hfz46_0 := blk_frozen BK101.out 0; have hfz46_1 := blk_frozen BK101.out 1) | (go_at_call 42; (with_reducible refine (impl_within.calls ((rd_T61 (rd_L4 l0_0 x20_2) x27_3).f0) 1 a0_1 true _ A16.out).mono ?_); rintro e w' ⟨rfl, ⟨nd, rfl⟩⟩; (try first | exact ⟨rfl, _, World.drewN_drewN _ _ _⟩ | exact ⟨rfl, _, Eq.trans (World.drewN_drewN _ _ _) (congrArg (World.drewN _) (Nat.add_assoc _ _ _))⟩)) | (go_at_call 43; (with_reducible refine (impl_fits.calls x20_2 ((rd_T61 (rd_L4 l0_0 x20_2) x27_3).f1) false _ A37.out).mono ?_); rintro e w' ⟨rfl, ⟨nd, rfl⟩⟩; (try first | exact ⟨rfl, _, World.drewN_drewN _ _ _⟩ | exact ⟨rfl, _, Eq.trans (World.drewN_drewN _ _ _) (congrArg (World.drewN _) (Nat.add_assoc _ _ _))⟩))))
                                  go_ret
                                  exact ⟨by first | rfl | (simp [errW_none, errW_some] <;> rfl) | (simp [*, errW_none, errW_some] <;> rfl), by repeat (first | (with_reducible first | exact HB.out | apply below_alloc | apply pw_below_drewN | apply below_drew1 | refine below_set ?_ GE101.out | refine below_set ?_ GE105.out) | exact HB.out)⟩
                            · replace c17 := Bool.eq_false_iff.mpr c17
                              subst c17
                              have H1 : (some false) = some r := by rw [if_neg (show ¬ (false = true) by decide)] at H; exact H
                              clear H
                              have H := H1
                              clear H1
                              obtain rfl := Option.some.inj H
                              have p104 : 0 ≤ (x27_3 : Int) := of_decide_eq_true (by first | (with_reducible assumption) | assumption)
                              have q104 : x27_3 < ((rd_L4 l0_0 x20_2).length : Int) := of_decide_eq_true (by first | (with_reducible assumption) | assumption)
                              obtain ⟨ad104, e104, hx104_0, hx104_1⟩ := at_T61 HR103_0.out x27_3 p104 q104
                              cases e104
                              replace hx104_0 := (HB.out.cell (World.block_lt_of_cell? w _ hx104_0)).trans hx104_0
                              replace hx104_1 := (HB.out.cell (World.block_lt_of_cell? w _ hx104_1)).trans hx104_1
                              replace p104 := eq_true p104
                              replace q104 := eq_true q104
                              go_wp2_with (first | ((with_reducible refine gate_dst (N := 6) rfl ?_); refine box_event ?hg (N := 6) ?hd (cs := #[.int .i64 0, .int .i64 0]) (t := 61) ?hr ?_; (case hd => rfl); (case hg => rfl); (case hr => first | (go_simp; done) | (go_simp; rfl)); intro gb105 hg w47 hbox hb; have n0_ := Aside0.mk (blk_below (g := gb101) (o := .cells #[.slice (some ad103) l0_0.length c0_0, .int .i64 a0_1] 29 (0, 0)) (by (with_reducible repeat (first | refine blk_drewN ?_ _ | refine blk_drew ?_ | refine blk_alloc ?_ _)); exact BK101.out) hb); have n1_ := Aside0.mk (below_step (by repeat (first | (with_reducible first | exact HB.out | apply below_alloc | apply pw_below_drewN | apply below_drew1 | refine below_set ?_ GE101.out) | exact HB.out)) hb); have n2_ := Aside0.mk (hbox); have n3_ := Aside0.mk ((by rw [hg]; exact (below_size (by repeat (first | (with_reducible first | exact HB.out | apply below_alloc | apply pw_below_drewN | apply below_drew1 | refine below_set ?_ GE101.out) | exact HB.out))) : w.heap.size ≤ gb105)); have n4_ := Aside0.mk ((by rw [hg]; exact (below_size (by repeat (first | (with_reducible first | exact HB.out | apply below_alloc | apply pw_below_drewN | apply below_drew1 | refine below_set ?_ GE101.out) | exact HB.out))) : w.heap.size ≤ gb105)); have n5_ := Aside0.mk ((by rw [hg]; exact Nat.ne_of_lt (blk_lt (g := gb101) (o := .cells #[.slice (some ad103) l0_0.length c0_0, .int .i64 a0_1] 29 (0, 0)) (by (with_reducible repeat (first | refine blk_drewN ?_ _ | refine blk_drew ?_ | refine blk_alloc ?_ _)); exact BK101.out)) : gb101 ≠ gb105)); have n6_ := Aside0.mk ((by rw [hg]; exact Nat.ne_of_gt (blk_lt (g := gb101) (o := .cells #[.slice (some ad103) l0_0.length c0_0, .int .i64 a0_1] 29 (0, 0)) (by (with_reducible repeat (first | refine blk_drewN ?_ _ | refine blk_drew ?_ | refine blk_alloc ?_ _)); exact BK101.out)) : gb105 ≠ gb101)); clear BK101; clear HB; have BK101 := n0_; have HB := n1_; have BK105 := n2_; have GW105 := n3_; have GE105 := n4_; have NB101_105 := n5_; have NB105_101 := n6_; clear n0_ n1_ n2_ n3_ n4_ n5_ n6_; clear hb hbox hg; have hnb48 := NB105_101.out; have hnc48 := NB101_105.out; have hcz49_0 : w47.cell? ⟨gb105, 0, none⟩ = some (.int .i64 0) := (blk_cell BK105.out 0).trans rfl; have hcz49_1 : w47.cell? ⟨gb105, 1, none⟩ = some (.int .i64 0) := (blk_cell BK105.out 1).trans rfl; have hfz49_0 := blk_frozen BK105.out 0; have hfz49_1 := blk_frozen BK105.out 1; have hcz50_0 : w47.cell? ⟨gb101, 0, none⟩ = some (.slice (some ad103) l0_0.length c0_0) := (blk_cell BK101.out 0).trans rfl; have hcz50_1 : w47.cell? ⟨gb101, 1, none⟩ = some (.int .i64 a0_1) := (blk_cell BK101.out 1).trans rfl; have hfz50_0 := blk_frozen BK101.out 0; have hfz50_1 := blk_frozen BK101.out 1) | (go_at_call 42; (with_reducible refine (impl_within.calls ((rd_T61 (rd_L4 l0_0 x20_2) x27_3).f0) 1 a0_1 false _ A16.out).mono ?_); rintro e w' ⟨rfl, ⟨nd, rfl⟩⟩; (try first | exact ⟨rfl, _, World.drewN_drewN _ _ _⟩ | exact ⟨rfl, _, Eq.trans (World.drewN_drewN _ _ _) (congrArg (World.drewN _) (Nat.add_assoc _ _ _))⟩)))
                              repeat (go_quiet (first | ((with_reducible refine gate_dst (N := 6) rfl ?_); refine box_event ?hg (N := 6) ?hd (cs := #[.int .i64 0, .int .i64 0]) (t := 61) ?hr ?_; (case hd => rfl); (case hg => rfl); (case hr => first | (go_simp; done) | (go_simp; rfl)); intro gb105 hg w47 hbox hb; have n0_ := Aside0.mk (blk_below (g := gb101) (o := .cells #[.slice (some ad103) l0_0.length c0_0, .int .i64 a0_1] 29 (0, 0)) (by (with_reducible repeat (first | refine blk_drewN ?_ _ | refine blk_drew ?_ | refine blk_alloc ?_ _)); exact BK101.out) hb); have n1_ := Aside0.mk (below_step (by repeat (first | (with_reducible first | exact HB.out | apply below_alloc | apply pw_below_drewN | apply below_drew1 | refine below_set ?_ GE101.out) | exact HB.out)) hb); have n2_ := Aside0.mk (hbox); have n3_ := Aside0.mk ((by rw [hg]; exact (below_size (by repeat (first | (with_reducible first | exact HB.out | apply below_alloc | apply pw_below_drewN | apply below_drew1 | refine below_set ?_ GE101.out) | exact HB.out))) : w.heap.size ≤ gb105)); have n4_ := Aside0.mk ((by rw [hg]; exact (below_size (by repeat (first | (with_reducible first | exact HB.out | apply below_alloc | apply pw_below_drewN | apply below_drew1 | refine below_set ?_ GE101.out) | exact HB.out))) : w.heap.size ≤ gb105)); have n5_ := Aside0.mk ((by rw [hg]; exact Nat.ne_of_lt (blk_lt (g := gb101) (o := .cells #[.slice (some ad103) l0_0.length c0_0, .int .i64 a0_1] 29 (0, 0)) (by (with_reducible repeat (first | refine blk_drewN ?_ _ | refine blk_drew ?_ | refine blk_alloc ?_ _)); exact BK101.out)) : gb101 ≠ gb105)); have n6_ := Aside0.mk ((by rw [hg]; exact Nat.ne_of_gt (blk_lt (g := gb101) (o := .cells #[.slice (some ad103) l0_0.length c0_0, .int .i64 a0_1] 29 (0, 0)) (by (with_reducible repeat (first | refine blk_drewN ?_ _ | refine blk_drew ?_ | refine blk_alloc ?_ _)); exact BK101.out)) : gb105 ≠ gb101)); clear BK101; clear HB; have BK101 := n0_; have HB := n1_; have BK105 := n2_; have GW105 := n3_; have GE105 := n4_; have NB101_105 := n5_; have NB105_101 := n6_; clear n0_ n1_ n2_ n3_ n4_ n5_ n6_; clear hb hbox hg; have hnb48 := NB105_101.out; have hnc48 := NB101_105.out; have hcz49_0 : w47.cell? ⟨gb105, 0, none⟩ = some (.int .i64 0) := (blk_cell BK105.out 0).trans rfl; have hcz49_1 : w47.cell? ⟨gb105, 1, none⟩ = some (.int .i64 0) := (blk_cell BK105.out 1).trans rfl; have hfz49_0 := blk_frozen BK105.out 0; have hfz49_1 := blk_frozen BK105.out 1; have hcz50_0 : w47.cell? ⟨gb101, 0, none⟩ = some (.slice (some ad103) l0_0.length c0_0) := (blk_cell BK101.out 0).trans rfl; have hcz50_1 : w47.cell? ⟨gb101, 1, none⟩ = some (.int .i64 a0_1) := (blk_cell BK101.out 1).trans rfl; have hfz50_0 := blk_frozen BK101.out 0; have hfz50_1 := blk_frozen BK101.out 1) | (go_at_call 42; (with_reducible refine (impl_within.calls ((rd_T61 (rd_L4 l0_0 x20_2) x27_3).f0) 1 a0_1 false _ A16.out).mono ?_); rintro e w' ⟨rfl, ⟨nd, rfl⟩⟩; (try first | exact ⟨rfl, _, World.drewN_drewN _ _ _⟩ | exact ⟨rfl, _, Eq.trans (World.drewN_drewN _ _ _) (congrArg (World.drewN _) (Nat.add_assoc _ _ _))⟩))); try go_wp2_with (first | ((with_reducible refine gate_dst (N := 6) rfl ?_); refine box_event ?hg (N := 6) ?hd (cs := #[.int .i64 0, .int .i64 0]) (t := 61) ?hr ?_; (case hd => rfl); (case hg => rfl); (case hr => first | (go_simp; done) | (go_simp; rfl)); intro gb105 hg w47 hbox hb; have n0_ := Aside0.mk (blk_below (g := gb101) (o := .cells #[.slice (some ad103) l0_0.length c0_0, .int .i64 a0_1] 29 (0, 0)) (by (with_reducible repeat (first | refine blk_drewN ?_ _ | refine blk_drew ?_ | refine blk_alloc ?_ _)); exact BK101.out) hb); have n1_ := Aside0.mk (below_step (by repeat (first | (with_reducible first | exact HB.out | apply below_alloc | apply pw_below_drewN | apply below_drew1 | refine below_set ?_ GE101.out) | exact HB.out)) hb); have n2_ := Aside0.mk (hbox); have n3_ := Aside0.mk ((by rw [hg]; exact (below_size (by repeat (first | (with_reducible first | exact HB.out | apply below_alloc | apply pw_below_drewN | apply below_drew1 | refine below_set ?_ GE101.out) | exact HB.out))) : w.heap.size ≤ gb105)); have n4_ := Aside0.mk ((by rw [hg]; exact (below_size (by repeat (first | (with_reducible first | exact HB.out | apply below_alloc | apply pw_below_drewN | apply below_drew1 | refine below_set ?_ GE101.out) | exact HB.out))) : w.heap.size ≤ gb105)); have n5_ := Aside0.mk ((by rw [hg]; exact Nat.ne_of_lt (blk_lt (g := gb101) (o := .cells #[.slice (some ad103) l0_0.length c0_0, .int .i64 a0_1] 29 (0, 0)) (by (with_reducible repeat (first | refine blk_drewN ?_ _ | refine blk_drew ?_ | refine blk_alloc ?_ _)); exact BK101.out)) : gb101 ≠ gb105)); have n6_ := Aside0.mk ((by rw [hg]; exact Nat.ne_of_gt (blk_lt (g := gb101) (o := .cells #[.slice (some ad103) l0_0.length c0_0, .int .i64 a0_1] 29 (0, 0)) (by (with_reducible repeat (first | refine blk_drewN ?_ _ | refine blk_drew ?_ | refine blk_alloc ?_ _)); exact BK101.out)) : gb105 ≠ gb101)); clear BK101; clear HB; have BK101 := n0_; have HB := n1_; have BK105 := n2_; have GW105 := n3_; have GE105 := n4_; have NB101_105 := n5_; have NB105_101 := n6_; clear n0_ n1_ n2_ n3_ n4_ n5_ n6_; clear hb hbox hg; have hnb48 := NB105_101.out; have hnc48 := NB101_105.out; have hcz49_0 : w47.cell? ⟨gb105, 0, none⟩ = some (.int .i64 0) := (blk_cell BK105.out 0).trans rfl; have hcz49_1 : w47.cell? ⟨gb105, 1, none⟩ = some (.int .i64 0) := (blk_cell BK105.out 1).trans rfl; have hfz49_0 := blk_frozen BK105.out 0; have hfz49_1 := blk_frozen BK105.out 1; have hcz50_0 : w47.cell? ⟨gb101, 0, none⟩ = some (.slice (some ad103) l0_0.length c0_0) := (blk_cell BK101.out 0).trans rfl; have hcz50_1 : w47.cell? ⟨gb101, 1, none⟩ = some (.int .i64 a0_1) := (blk_cell BK101.out 1).trans rfl; have hfz50_0 := blk_frozen BK101.out 0; have hfz50_1 := blk_frozen BK101.out 1) | (go_at_call 42; (with_reducible refine (impl_within.calls ((rd_T61 (rd_L4 l0_0 x20_2) x27_3).f0) 1 a0_1 false _ A16.out).mono ?_); rintro e w' ⟨rfl, ⟨nd, rfl⟩⟩; (try first | exact ⟨rfl, _, World.drewN_drewN _ _ _⟩ | exact ⟨rfl, _, Eq.trans (World.drewN_drewN _ _ _) (congrArg (World.drewN _) (Nat.add_assoc _ _ _))⟩))))
                              go_ret
                              exact ⟨by first | rfl | (simp [errW_none, errW_some] <;> rfl) | (simp [*, errW_none, errW_some] <;> rfl), by repeat (first | (with_reducible first | exact HB.out | apply below_alloc | apply pw_below_drewN | apply below_drew1 | refine below_set ?_ GE101.out | refine below_set ?_ GE105.out) | exact HB.out)⟩
                          · rw [if_neg c15] at H
                            exact absurd H (by simp)
                        · rw [if_neg c14] at H
                          exact absurd H (by simp)
                      · rw [if_neg c13] at H
                        have c13b0 : decide (x27_3 < ((rd_L4 l0_0 x20_2).length : Int)) = false := decide_eq_false c13
                        clear c13
                        have H' := Aside0.mk H
                        clear H
                        go_wp2
                        repeat (go_quiet (fail); try go_wp2)
                        go_roundg k3
                        case measure => have := HJ1.out; have := HK2.out; have := HK3.out; omega
                        case rel => exact ⟨(wrap64 (x20_2 + 1)), (by first | rfl | (simp; done) | (simp [*]; done)), H', ⟨by have := HJ1.out; have := HK2.out; have := HK3.out; omega⟩, ⟨by (with_reducible repeat (first | refine blk_drewN ?_ _ | refine blk_drew ?_ | refine blk_alloc ?_ _)); exact BK101.out⟩, ⟨by repeat (first | (with_reducible first | exact HB.out | apply below_alloc | apply pw_below_drewN | apply below_drew1 | refine below_set ?_ GE101.out) | exact HB.out)⟩⟩
                · rw [if_neg c12] at H
                  exact absurd H (by simp)
              · rw [if_neg c11] at H
                exact absurd H (by simp)
            · rw [if_neg c10] at H
              have c10b0 : decide (x20_2 < (l0_0.length : Int)) = false := decide_eq_false c10
              clear c10
              obtain rfl := Option.some.inj H
              go_wp2
              repeat (go_quiet (fail); try go_wp2)
              go_ret
              exact ⟨by first | rfl | (simp [errW_none, errW_some] <;> rfl) | (simp [*, errW_none, errW_some] <;> rfl), by repeat (first | (with_reducible first | exact HB.out | apply below_alloc | apply pw_below_drewN | apply below_drew1 | refine below_set ?_ GE101.out) | exact HB.out)⟩

end Go.Proofs.Ytkijkmmeilaljaa.Q
namespace Go.Proofs.Ytkijkmmeilaljaa.Q
open Go.RowKit Go.Proofs.YtkijkmmeilaljaaW.PrintWords Go.Proofs.YtkijkmmeilaljaaW.PrintLast Go.Proofs.YtkijkmmeilaljaaW.PrintMore
attribute [local go_sem] max2_int min2_int max_two min_two max_three min_three max_four min_four   -- for this text's walks alone
set_option linter.unusedVariables false
set_option linter.unusedSimpArgs false

/-! ### impl_Store_isHour: function 49 -/
def impl_Store_isHour.f (l0_0 : List (List (S61))) (a0_1 : Int) (a1 : Int) : Option (Bool) := (impl_within.f a1 0 a0_1).bind fun t102 => (some t102)
set_option maxHeartbeats 8000000 in
set_option maxRecDepth 100000 in
theorem impl_Store_isHour.calls (A0_0 : Option Addr) (c0_0 : Nat) (l0_0 : List (List (S61))) (a0_1 : Int) (a1 : Int) (r : Bool) (w : World) (hr0_0 : Kd.C (Kd.slice 61 k61) w A0_0 l0_0.length l0_0) (hc0_0 : l0_0.length ≤ c0_0) (h : impl_Store_isHour.f l0_0 a0_1 a1 = some r) :
    Calls Try.prog 49 #[.agg #[.slice A0_0 l0_0.length c0_0, .int .i64 a0_1], .int .i64 a1] w fun e w' => e = .returned (.bool r) ∧ Below w.heap.size w w' := by
  have hu29 := Try.underlying29
  have HR0_0 := Aside0.mk hr0_0
  have HC0_0 := Aside0.mk hc0_0
  clear hr0_0 hc0_0
  have HB := Aside0.mk (Below.refl w.heap.size w)
  have H : ((impl_within.f a1 0 a0_1).bind fun t102 => (some t102)) = some r := h
  clear h
  replace H := Option.bind_eq_some_iff.mp H
  obtain ⟨t102, A30, H⟩ := H
  replace H : (some t102) = some r := H
  have A3 := Aside0.mk A30
  clear A30
  obtain rfl := Option.some.inj H
  go_enter Try.func49, Try.ntmps49
  go_wp2_with (first | ((with_reducible refine gate_dst (N := 2) rfl ?_); refine box_event ?hg (N := 2) ?hd (cs := #[.slice A0_0 l0_0.length c0_0, .int .i64 a0_1]) (t := 29) ?hr ?_; (case hd => rfl); (case hg => rfl); (case hr => first | (go_simp; done) | (go_simp; rfl)); intro gb101 hg w4 hbox hb; have n0_ := Aside0.mk (below_step (by repeat (first | (with_reducible first | exact HB.out | apply below_alloc | apply pw_below_drewN | apply below_drew1) | exact HB.out)) hb); have n1_ := Aside0.mk (hbox); have n2_ := Aside0.mk ((by rw [hg]; exact (below_size (by repeat (first | (with_reducible first | exact HB.out | apply below_alloc | apply pw_below_drewN | apply below_drew1) | exact HB.out))) : w.heap.size ≤ gb101)); have n3_ := Aside0.mk ((by rw [hg]; exact (below_size (by repeat (first | (with_reducible first | exact HB.out | apply below_alloc | apply pw_below_drewN | apply below_drew1) | exact HB.out))) : w.heap.size ≤ gb101)); clear HB; have HB := n0_; have BK101 := n1_; have GW101 := n2_; have GE101 := n3_; clear n0_ n1_ n2_ n3_; clear hb hbox hg; have hcz5_0 : w4.cell? ⟨gb101, 0, none⟩ = some (.slice A0_0 l0_0.length c0_0) := (blk_cell BK101.out 0).trans rfl; have hcz5_1 : w4.cell? ⟨gb101, 1, none⟩ = some (.int .i64 a0_1) := (blk_cell BK101.out 1).trans rfl; have hfz5_0 := blk_frozen BK101.out 0; have hfz5_1 := blk_frozen BK101.out 1) | ((with_reducible refine gate_callee (f := 42) rfl ?_); refine goesL_ (some 8) rfl rfl Try.func42 (by kernel_rfl) rfl #[.int .i64 a1, .int .i64 0, .int .i64 a0_1] rfl (by (try simp only [List.map_toArray, List.map_cons, List.map_nil]); first | done | rfl | (simp only [List.length_drop, List.length_take]; rfl)) ?_; (with_reducible refine (impl_within.calls a1 0 a0_1 t102 _ A3.out).mono ?_); rintro e w' ⟨rfl, ⟨nd, rfl⟩⟩; refine ⟨_, rfl, ?_⟩))
  go_ret
  exact ⟨by first | rfl | (simp [errW_none, errW_some] <;> rfl) | (simp [*, errW_none, errW_some] <;> rfl), by repeat (first | (with_reducible first | exact HB.out | apply below_alloc | apply pw_below_drewN | apply below_drew1 | refine below_set ?_ GE101.out) | exact HB.out)⟩

end Go.Proofs.Ytkijkmmeilaljaa.Q
namespace Go.Proofs.Ytkijkmmeilaljaa.Q
open Go.RowKit Go.Proofs.YtkijkmmeilaljaaW.PrintWords Go.Proofs.YtkijkmmeilaljaaW.PrintLast Go.Proofs.YtkijkmmeilaljaaW.PrintMore
attribute [local go_sem] max2_int min2_int max_two min_two max_three min_three max_four min_four   -- for this text's walks alone
set_option linter.unusedVariables false
set_option linter.unusedSimpArgs false

/-! ### impl_Store_changedSince: function 50 -/
def impl_Store_changedSince.f (l0_0 : List (List (S61))) (a0_1 : Int) (a1 : Int) (a2 : Int) : Option (Bool) := if 0 ≤ a1 then (if a1 < (l0_0.length : Int) then (if ((rd_L4 l0_0 a1).length : Int) > 0 then (if 0 ≤ (wrap64 (((rd_L4 l0_0 a1).length : Int) - 1)) then (if (wrap64 (((rd_L4 l0_0 a1).length : Int) - 1)) < ((rd_L4 l0_0 a1).length : Int) then (some (decide (((rd_T61 (rd_L4 l0_0 a1) (wrap64 (((rd_L4 l0_0 a1).length : Int) - 1))).f0) > a2))) else (none)) else (none)) else (some false)) else (none)) else (none)
set_option maxHeartbeats 8000000 in
set_option maxRecDepth 100000 in
theorem impl_Store_changedSince.calls (A0_0 : Option Addr) (c0_0 : Nat) (l0_0 : List (List (S61))) (a0_1 : Int) (a1 : Int) (a2 : Int) (r : Bool) (w : World) (hr0_0 : Kd.C (Kd.slice 61 k61) w A0_0 l0_0.length l0_0) (hc0_0 : l0_0.length ≤ c0_0) (h : impl_Store_changedSince.f l0_0 a0_1 a1 a2 = some r) :
    Calls Try.prog 50 #[.agg #[.slice A0_0 l0_0.length c0_0, .int .i64 a0_1], .int .i64 a1, .int .i64 a2] w fun e w' => e = .returned (.bool r) ∧ Below w.heap.size w w' := by
  have hu29 := Try.underlying29
  have HR0_0 := Aside0.mk hr0_0
  have HC0_0 := Aside0.mk hc0_0
  clear hr0_0 hc0_0
  have HB := Aside0.mk (Below.refl w.heap.size w)
  have H : (if 0 ≤ a1 then (if a1 < (l0_0.length : Int) then (if ((rd_L4 l0_0 a1).length : Int) > 0 then (if 0 ≤ (wrap64 (((rd_L4 l0_0 a1).length : Int) - 1)) then (if (wrap64 (((rd_L4 l0_0 a1).length : Int) - 1)) < ((rd_L4 l0_0 a1).length : Int) then (some (decide (((rd_T61 (rd_L4 l0_0 a1) (wrap64 (((rd_L4 l0_0 a1).length : Int) - 1))).f0) > a2))) else (none)) else (none)) else (some false)) else (none)) else (none)) = some r := h
  clear h
  by_cases c4 : 0 ≤ a1
  · rw [if_pos c4] at H
    have c4b0 : decide (0 ≤ a1) = true := decide_eq_true c4
    clear c4
    by_cases c5 : a1 < (l0_0.length : Int)
    · rw [if_pos c5] at H
      have c5b0 : decide (a1 < (l0_0.length : Int)) = true := decide_eq_true c5
      clear c5
      by_cases c6 : ((rd_L4 l0_0 a1).length : Int) > 0
      · rw [if_pos c6] at H
        have c6b0 : decide (0 < ((rd_L4 l0_0 a1).length : Int)) = true := decide_eq_true c6
        have c6b1 : decide (0 < (rd_L4 l0_0 a1).length) = true := decide_eq_true (by omega)
        clear c6
        obtain ⟨ji7, hji7⟩ : ∃ j_ : Int, (wrap64 (((rd_L4 l0_0 a1).length : Int) - 1)) = j_ := ⟨_, rfl⟩
        replace H : (if 0 ≤ (ji7) then (if (ji7) < ((rd_L4 l0_0 a1).length : Int) then (some (decide (((rd_T61 (rd_L4 l0_0 a1) (ji7)).f0) > a2))) else (none)) else (none)) = some r := by first | (rw [hji7] at H; exact H) | (simp only [hji7] at H ⊢; exact H)
        have hji7w : (IntKind.i64.wrap (((rd_L4 l0_0 a1).length : Int) - 1)) = ji7 := (i64_w _).trans hji7
        by_cases c8 : 0 ≤ (ji7)
        · rw [if_pos c8] at H
          have c8b0 : decide (0 ≤ (ji7)) = true := decide_eq_true c8
          clear c8
          by_cases c9 : (ji7) < ((rd_L4 l0_0 a1).length : Int)
          · rw [if_pos c9] at H
            have c9b0 : decide ((ji7) < ((rd_L4 l0_0 a1).length : Int)) = true := decide_eq_true c9
            clear c9
            obtain rfl := Option.some.inj H
            go_enter Try.func50, Try.ntmps50
            go_wp2_with (first | ((with_reducible refine gate_dst (N := 3) rfl ?_); (try (refine gate_guard (by rfl) ?_; dsimp only)); refine box_event ?hg (N := 3) ?hd (cs := #[.slice A0_0 l0_0.length c0_0, .int .i64 a0_1]) (t := 29) ?hr ?_; (case hd => rfl); (case hg => rfl); (case hr => first | (go_simp; done) | (go_simp; rfl)); intro gb101 hg w10 hbox hb; have n0_ := Aside0.mk (below_step (by repeat (first | (with_reducible first | exact HB.out | apply below_alloc | apply pw_below_drewN | apply below_drew1) | exact HB.out)) hb); have n1_ := Aside0.mk (hbox); have n2_ := Aside0.mk ((by rw [hg]; exact (below_size (by repeat (first | (with_reducible first | exact HB.out | apply below_alloc | apply pw_below_drewN | apply below_drew1) | exact HB.out))) : w.heap.size ≤ gb101)); have n3_ := Aside0.mk ((by rw [hg]; exact (below_size (by repeat (first | (with_reducible first | exact HB.out | apply below_alloc | apply pw_below_drewN | apply below_drew1) | exact HB.out))) : w.heap.size ≤ gb101)); clear HB; have HB := n0_; have BK101 := n1_; have GW101 := n2_; have GE101 := n3_; clear n0_ n1_ n2_ n3_; clear hb hbox hg; have hcz11_0 : w10.cell? ⟨gb101, 0, none⟩ = some (.slice A0_0 l0_0.length c0_0) := (blk_cell BK101.out 0).trans rfl; have hcz11_1 : w10.cell? ⟨gb101, 1, none⟩ = some (.int .i64 a0_1) := (blk_cell BK101.out 1).trans rfl; have hfz11_0 := blk_frozen BK101.out 0; have hfz11_1 := blk_frozen BK101.out 1; have p102 : 0 ≤ (a1 : Int) := of_decide_eq_true (by first | (with_reducible assumption) | assumption); have q102 : a1 < (l0_0.length : Int) := of_decide_eq_true (by first | (with_reducible assumption) | assumption); obtain ⟨ad102, A102_0, c102_0, e102, hx102_0, hl102_0, hi102_0⟩ := at_L4 HR0_0.out a1 p102 q102; cases e102; replace hx102_0 := (HB.out.cell (World.block_lt_of_cell? w _ hx102_0)).trans hx102_0; have HR102_0 := Aside0.mk hi102_0; have HC102_0 := Aside0.mk hl102_0; clear hi102_0 hl102_0; replace p102 := eq_true p102; replace q102 := eq_true q102; have p103 : 0 ≤ ((ji7) : Int) := of_decide_eq_true (by first | (with_reducible assumption) | assumption); have q103 : (ji7) < ((rd_L4 l0_0 a1).length : Int) := of_decide_eq_true (by first | (with_reducible assumption) | assumption); obtain ⟨ad103, e103, hx103_0, hx103_1⟩ := at_T61 HR102_0.out (ji7) p103 q103; cases e103; replace hx103_0 := (HB.out.cell (World.block_lt_of_cell? w _ hx103_0)).trans hx103_0; replace hx103_1 := (HB.out.cell (World.block_lt_of_cell? w _ hx103_1)).trans hx103_1; replace p103 := eq_true p103; replace q103 := eq_true q103))
            go_ret
            exact ⟨by first | rfl | (simp [errW_none, errW_some] <;> rfl) | (simp only [← hji7]; first | rfl | (simp [errW_none, errW_some] <;> rfl)) | (simp [*, errW_none, errW_some] <;> rfl), by repeat (first | (with_reducible first | exact HB.out | apply below_alloc | apply pw_below_drewN | apply below_drew1 | refine below_set ?_ GE101.out) | exact HB.out)⟩
          · rw [if_neg c9] at H
            exact absurd H (by simp)
        · rw [if_neg c8] at H
          exact absurd H (by simp)
      · rw [if_neg c6] at H
        have c6b0 : decide (0 < ((rd_L4 l0_0 a1).length : Int)) = false := decide_eq_false c6
        have c6b1 : decide (0 < (rd_L4 l0_0 a1).length) = false := decide_eq_false (by omega)
        clear c6
        obtain rfl := Option.some.inj H
        go_enter Try.func50, Try.ntmps50
        go_wp2_with (first | ((with_reducible refine gate_dst (N := 3) rfl ?_); (try (refine gate_guard (by rfl) ?_; dsimp only)); refine box_event ?hg (N := 3) ?hd (cs := #[.slice A0_0 l0_0.length c0_0, .int .i64 a0_1]) (t := 29) ?hr ?_; (case hd => rfl); (case hg => rfl); (case hr => first | (go_simp; done) | (go_simp; rfl)); intro gb101 hg w12 hbox hb; have n0_ := Aside0.mk (below_step (by repeat (first | (with_reducible first | exact HB.out | apply below_alloc | apply pw_below_drewN | apply below_drew1) | exact HB.out)) hb); have n1_ := Aside0.mk (hbox); have n2_ := Aside0.mk ((by rw [hg]; exact (below_size (by repeat (first | (with_reducible first | exact HB.out | apply below_alloc | apply pw_below_drewN | apply below_drew1) | exact HB.out))) : w.heap.size ≤ gb101)); have n3_ := Aside0.mk ((by rw [hg]; exact (below_size (by repeat (first | (with_reducible first | exact HB.out | apply below_alloc | apply pw_below_drewN | apply below_drew1) | exact HB.out))) : w.heap.size ≤ gb101)); clear HB; have HB := n0_; have BK101 := n1_; have GW101 := n2_; have GE101 := n3_; clear n0_ n1_ n2_ n3_; clear hb hbox hg; have hcz13_0 : w12.cell? ⟨gb101, 0, none⟩ = some (.slice A0_0 l0_0.length c0_0) := (blk_cell BK101.out 0).trans rfl; have hcz13_1 : w12.cell? ⟨gb101, 1, none⟩ = some (.int .i64 a0_1) := (blk_cell BK101.out 1).trans rfl; have hfz13_0 := blk_frozen BK101.out 0; have hfz13_1 := blk_frozen BK101.out 1; have p102 : 0 ≤ (a1 : Int) := of_decide_eq_true (by first | (with_reducible assumption) | assumption); have q102 : a1 < (l0_0.length : Int) := of_decide_eq_true (by first | (with_reducible assumption) | assumption); obtain ⟨ad102, A102_0, c102_0, e102, hx102_0, hl102_0, hi102_0⟩ := at_L4 HR0_0.out a1 p102 q102; cases e102; replace hx102_0 := (HB.out.cell (World.block_lt_of_cell? w _ hx102_0)).trans hx102_0; have HR102_0 := Aside0.mk hi102_0; have HC102_0 := Aside0.mk hl102_0; clear hi102_0 hl102_0; replace p102 := eq_true p102; replace q102 := eq_true q102))
        go_ret
        exact ⟨by first | rfl | (simp [errW_none, errW_some] <;> rfl) | (simp [*, errW_none, errW_some] <;> rfl), by repeat (first | (with_reducible first | exact HB.out | apply below_alloc | apply pw_below_drewN | apply below_drew1 | refine below_set ?_ GE101.out) | exact HB.out)⟩
    · rw [if_neg c5] at H
      exact absurd H (by simp)
  · rw [if_neg c4] at H
    exact absurd H (by simp)

end Go.Proofs.Ytkijkmmeilaljaa.Q
namespace Go.Proofs.Ytkijkmmeilaljaa.Q
open Go.RowKit Go.Proofs.YtkijkmmeilaljaaW.PrintWords Go.Proofs.YtkijkmmeilaljaaW.PrintLast Go.Proofs.YtkijkmmeilaljaaW.PrintMore
attribute [local go_sem] max2_int min2_int max_two min_two max_three min_three max_four min_four   -- for this text's walks alone
set_option linter.unusedVariables false
set_option linter.unusedSimpArgs false

/-! ### impl_KeysSince: function 21 -/
def impl_KeysSince.l0 : Nat → Int → List Int → Int → List (List (S61)) → Int → Option (List Int × Int)
  | 0, _, _, _, _, _ => none
  | k + 1, x1, x6, x18, x102000, x102001 => if x18 < 16 then ((impl_Store_changedSince.f x102000 x102001 x18 x1).bind fun t107 => (if t107 = true then (if x6.length < 17592186044416 then (impl_KeysSince.l0 k x1 (x6 ++ [x18]) (wrap64 (x18 + 1)) x102000 x102001) else (none)) else (impl_KeysSince.l0 k x1 x6 (wrap64 (x18 + 1)) x102000 x102001))) else (some (x6, 0))
def impl_KeysSince.f (k : Nat) (l0_0 : List (List (S61))) (a0_1 : Int) (a1 : Int) : Option (List Int × Int) := (impl_StoreOK.f k l0_0 a0_1).bind fun t102 => (if t102 = true then ((impl_Store_isHour.f l0_0 a0_1 a1).bind fun t103 => (if t103 = true then (impl_KeysSince.l0 k a1 (([] : List Int)) 0 l0_0 a0_1) else (some (([] : List Int), 4)))) else (some (([] : List Int), 1)))
set_option maxHeartbeats 8000000 in
set_option maxRecDepth 100000 in
theorem impl_KeysSince.calls (k : Nat) (A0_0 : Option Addr) (c0_0 : Nat) (l0_0 : List (List (S61))) (a0_1 : Int) (a1 : Int) (r1 : List Int) (r2 : Int) (w : World) (hr0_0 : Kd.C (Kd.slice 61 k61) w A0_0 l0_0.length l0_0) (hc0_0 : l0_0.length ≤ c0_0) (h : impl_KeysSince.f k l0_0 a0_1 a1 = some (r1, r2)) :
    Calls Try.prog 21 #[.agg #[.slice A0_0 l0_0.length c0_0, .int .i64 a0_1], .int .i64 a1] w fun e w' => ∃ v0_ : Value, e = .returned (.tuple #[v0_, .int .i64 r2]) ∧ Kd.R (Kd.int .i64) 3 w' w.heap.size (fun _ => True) v0_ r1 ∧ Below w.heap.size w w' := by
  have hu29 := Try.underlying29
  have HR0_0 := Aside0.mk hr0_0
  have HC0_0 := Aside0.mk hc0_0
  clear hr0_0 hc0_0
  have HB := Aside0.mk (Below.refl w.heap.size w)
  have H : ((impl_StoreOK.f k l0_0 a0_1).bind fun t102 => (if t102 = true then ((impl_Store_isHour.f l0_0 a0_1 a1).bind fun t103 => (if t103 = true then (impl_KeysSince.l0 k a1 (([] : List Int)) 0 l0_0 a0_1) else (some (([] : List Int), 4)))) else (some (([] : List Int), 1)))) = some (r1, r2) := h
  clear h
  replace H := Option.bind_eq_some_iff.mp H
  obtain ⟨t102, A30, H⟩ := H
  replace H : (if t102 = true then ((impl_Store_isHour.f l0_0 a0_1 a1).bind fun t103 => (if t103 = true then (impl_KeysSince.l0 k a1 (([] : List Int)) 0 l0_0 a0_1) else (some (([] : List Int), 4)))) else (some (([] : List Int), 1))) = some (r1, r2) := H
  have A3 := Aside0.mk A30
  clear A30
  by_cases c4 : t102 = true
  · subst c4
    have H1 : ((impl_Store_isHour.f l0_0 a0_1 a1).bind fun t103 => (if t103 = true then (impl_KeysSince.l0 k a1 (([] : List Int)) 0 l0_0 a0_1) else (some (([] : List Int), 4)))) = some (r1, r2) := by rw [if_pos rfl] at H; exact H
    clear H
    have H := H1
    clear H1
    replace H := Option.bind_eq_some_iff.mp H
    obtain ⟨t103, A50, H⟩ := H
    replace H : (if t103 = true then (impl_KeysSince.l0 k a1 (([] : List Int)) 0 l0_0 a0_1) else (some (([] : List Int), 4))) = some (r1, r2) := H
    have A5 := Aside0.mk A50
    clear A50
    by_cases c6 : t103 = true
    · subst c6
      have H1 : (impl_KeysSince.l0 k a1 (([] : List Int)) 0 l0_0 a0_1) = some (r1, r2) := by rw [if_pos rfl] at H; exact H
      clear H
      have H := H1
      clear H1
      obtain ⟨y104, hy104⟩ : ∃ y_ : List Int, y_ = (([] : List Int)) := ⟨_, rfl⟩
      replace H : (impl_KeysSince.l0 k a1 y104 0 l0_0 a0_1) = some (r1, r2) := by first | (rw [hy104]; with_reducible exact H) | (have H2_ := (Option.bind_some _ _).symm.trans H; rw [hy104]; with_reducible exact H2_) | (have H2_ := (Option.bind_some _ _).symm.trans H; with_reducible exact H2_) | with_reducible exact H | (rw [hy104]; exact H) | exact H
      have Ny104 := Aside0.mk hy104
      clear hy104
      have H' := Aside0.mk H
      clear H
      go_enter Try.func21, Try.ntmps21
      go_wp2_with (first | ((with_reducible refine gate_dst (N := 2) rfl ?_); refine box_event ?hg (N := 2) ?hd (cs := #[.slice A0_0 l0_0.length c0_0, .int .i64 a0_1]) (t := 29) ?hr ?_; (case hd => rfl); (case hg => rfl); (case hr => first | (go_simp; done) | (go_simp; rfl)); intro gb101 hg w7 hbox hb; have n0_ := Aside0.mk (below_step (by repeat (first | (with_reducible first | exact HB.out | apply below_alloc | apply pw_below_drewN | apply below_drew1) | exact HB.out)) hb); have n1_ := Aside0.mk (hbox); have n2_ := Aside0.mk ((by rw [hg]; exact (below_size (by repeat (first | (with_reducible first | exact HB.out | apply below_alloc | apply pw_below_drewN | apply below_drew1) | exact HB.out))) : w.heap.size ≤ gb101)); have n3_ := Aside0.mk ((by rw [hg]; exact (below_size (by repeat (first | (with_reducible first | exact HB.out | apply below_alloc | apply pw_below_drewN | apply below_drew1) | exact HB.out))) : w.heap.size ≤ gb101)); clear HB; have HB := n0_; have BK101 := n1_; have GW101 := n2_; have GE101 := n3_; clear n0_ n1_ n2_ n3_; clear hb hbox hg; have hcz8_0 : w7.cell? ⟨gb101, 0, none⟩ = some (.slice A0_0 l0_0.length c0_0) := (blk_cell BK101.out 0).trans rfl; have hcz8_1 : w7.cell? ⟨gb101, 1, none⟩ = some (.int .i64 a0_1) := (blk_cell BK101.out 1).trans rfl; have hfz8_0 := blk_frozen BK101.out 0; have hfz8_1 := blk_frozen BK101.out 1) | ((with_reducible refine gate_callee (f := 14) rfl ?_); refine goesL_ (some 10) rfl rfl Try.func14 (by kernel_rfl) rfl #[.agg #[.slice A0_0 l0_0.length c0_0, .int .i64 a0_1]] rfl (by (try simp only [List.map_toArray, List.map_cons, List.map_nil]); first | done | rfl | (simp only [List.length_drop, List.length_take]; rfl)) ?_; (with_reducible refine (impl_StoreOK.calls k _ _ l0_0 a0_1 true _ ?side1 ?side2 A3.out).mono ?_); (case side1 => repeat (first | exact (Kd.C_below HR0_0.out HB.out) | (with_reducible refine Kd.C_alloc ?_ _) | (with_reducible refine Kd.C_drewN ?_ _) | (with_reducible refine Kd.C_drew ?_))); (case side2 => exact HC0_0.out); rintro e w9 ⟨rfl, hb⟩; refine ⟨_, rfl, ?_⟩; have n0_ := Aside0.mk (blk_below (g := gb101) (o := .cells #[.slice A0_0 l0_0.length c0_0, .int .i64 a0_1] 29 (0, 0)) (by (with_reducible repeat (first | refine blk_drewN ?_ _ | refine blk_drew ?_ | refine blk_alloc ?_ _)); exact BK101.out) hb); have n1_ := Aside0.mk (below_step (by repeat (first | (with_reducible first | exact HB.out | apply below_alloc | apply pw_below_drewN | apply below_drew1 | refine below_set ?_ GE101.out) | exact HB.out)) hb); clear BK101; clear HB; have BK101 := n0_; have HB := n1_; clear n0_ n1_; (try clear hb); (try clear hb2); (try clear hk); (try clear hi); have hcz10_0 : w9.cell? ⟨gb101, 0, none⟩ = some (.slice A0_0 l0_0.length c0_0) := (blk_cell BK101.out 0).trans rfl; have hcz10_1 : w9.cell? ⟨gb101, 1, none⟩ = some (.int .i64 a0_1) := (blk_cell BK101.out 1).trans rfl; have hfz10_0 := blk_frozen BK101.out 0; have hfz10_1 := blk_frozen BK101.out 1) | ((with_reducible refine gate_callee (f := 49) rfl ?_); refine goesL_ (some 15) rfl rfl Try.func49 (by kernel_rfl) rfl #[.agg #[.slice A0_0 l0_0.length c0_0, .int .i64 a0_1], .int .i64 a1] rfl (by (try simp only [List.map_toArray, List.map_cons, List.map_nil]); first | done | rfl | (simp only [List.length_drop, List.length_take]; rfl)) ?_; (with_reducible refine (impl_Store_isHour.calls _ _ l0_0 a0_1 a1 true _ ?side1 ?side2 A5.out).mono ?_); (case side1 => repeat (first | exact (Kd.C_below HR0_0.out HB.out) | (with_reducible refine Kd.C_alloc ?_ _) | (with_reducible refine Kd.C_drewN ?_ _) | (with_reducible refine Kd.C_drew ?_))); (case side2 => exact HC0_0.out); rintro e w11 ⟨rfl, hb⟩; refine ⟨_, rfl, ?_⟩; have n0_ := Aside0.mk (blk_below (g := gb101) (o := .cells #[.slice A0_0 l0_0.length c0_0, .int .i64 a0_1] 29 (0, 0)) (by (with_reducible repeat (first | refine blk_drewN ?_ _ | refine blk_drew ?_ | refine blk_alloc ?_ _)); exact BK101.out) hb); have n1_ := Aside0.mk (below_step (by repeat (first | (with_reducible first | exact HB.out | apply below_alloc | apply pw_below_drewN | apply below_drew1 | refine below_set ?_ GE101.out) | exact HB.out)) hb); clear BK101; clear HB; have BK101 := n0_; have HB := n1_; clear n0_ n1_; (try clear hb); (try clear hb2); (try clear hk); (try clear hi)) | ((with_reducible refine gate_dst (N := 17) rfl ?_); refine Kd.R_lit (Kd.int .i64) _ 3 ?hg (N := 17) ?hd (xs := ([] : List Int)) (inner := []) (ok := fun _ => True) (okp := fun _ => True) ?hr ?hp (fun _ hk => hk) trivial (Below.refl _ _) (Nat.le_refl _) (by simp) ?_; (case hd => rfl); (case hg => rfl); (case hr => first | (go_simp; done) | (go_simp; rfl)); (case hp => exact (Reps.none _ _)); intro v105 w12 ho13 hb hg_ hnew_; clear hg_ hnew_; (first | rw [← Ny104.out] at ho13 | (simp only [Int.reduceToNat] at ho13; rw [← Ny104.out] at ho13)); have n0_ := Aside0.mk (Kd.R_lower ho13 (below_size (by repeat (first | (with_reducible first | exact HB.out | apply below_alloc | apply pw_below_drewN | apply below_drew1 | refine below_set ?_ GE101.out) | exact HB.out)))); have n1_ := Aside0.mk (blk_below (g := gb101) (o := .cells #[.slice A0_0 l0_0.length c0_0, .int .i64 a0_1] 29 (0, 0)) (by (with_reducible repeat (first | refine blk_drewN ?_ _ | refine blk_drew ?_ | refine blk_alloc ?_ _)); exact BK101.out) hb); have n2_ := Aside0.mk (below_step (by repeat (first | (with_reducible first | exact HB.out | apply below_alloc | apply pw_below_drewN | apply below_drew1 | refine below_set ?_ GE101.out) | exact HB.out)) hb); clear BK101; clear HB; have HO106 := n0_; have BK101 := n1_; have HB := n2_; clear n0_ n1_ n2_; clear hb ho13))
      go_loopg [6, 18] k (fun kq v6 v18 w' => ∃ (x6_1 : List Int) (x18_1 : Int), v18 = .int .i64 x18_1 ∧ Aside0 (impl_KeysSince.l0 kq a1 x6_1 x18_1 l0_0 a0_1 = some (r1, r2)) ∧ Aside0 (kq ≤ k) ∧ Aside0 (Kd.R (Kd.int .i64) 3 w' w.heap.size (fun _ => True) v6 x6_1) ∧ Aside0 (w'.heap[gb101]? = some (.cells #[(.slice A0_0 l0_0.length c0_0), .int .i64 a0_1] 29 (0, 0))) ∧ Aside0 (Below w.heap.size w w'))
      case atStart => exact ⟨(y104), (0), (by first | rfl | (simp; done) | (simp [*]; done)), H', ⟨Nat.le_refl _⟩, ⟨by (with_reducible repeat (first | apply Kd.R_alloc | apply Kd.R_drewN | apply Kd.R_drew)); exact HO106.out⟩, ⟨by (with_reducible repeat (first | refine blk_drewN ?_ _ | refine blk_drew ?_ | refine blk_alloc ?_ _)); exact BK101.out⟩, ⟨by repeat (first | (with_reducible first | exact HB.out | apply below_alloc | apply pw_below_drewN | apply below_drew1 | refine below_set ?_ GE101.out) | exact HB.out)⟩⟩
      case round =>
        clear H'
        try clear c1
        try clear c2
        try clear p2
        try clear c4
        try clear c6
        try clear hcz10_0
        try clear hcz10_1
        try clear hcz8_0
        try clear hcz8_1
        try clear hfz10_0
        try clear hfz10_1
        try clear hfz8_0
        try clear hfz8_1
        obtain ⟨x6_1, x18_1, rfl, HA, HK1, HO_6, BK101, HB⟩ := hrel
        cases gk with
        | zero => exact absurd HA.out (by simp [impl_KeysSince.l0])
        | succ k1 =>
          have H := HA.out
          clear HA
          simp only [impl_KeysSince.l0] at H
          by_cases c14 : x18_1 < 16
          · rw [if_pos c14] at H
            have c14b0 : decide (x18_1 < 16) = true := decide_eq_true c14
            clear c14
            replace H := Option.bind_eq_some_iff.mp H
            obtain ⟨t107, A150, H⟩ := H
            replace H : (if t107 = true then (if x6_1.length < 17592186044416 then (impl_KeysSince.l0 k1 a1 (x6_1 ++ [x18_1]) (wrap64 (x18_1 + 1)) l0_0 a0_1) else (none)) else (impl_KeysSince.l0 k1 a1 x6_1 (wrap64 (x18_1 + 1)) l0_0 a0_1)) = some (r1, r2) := H
            have A15 := Aside0.mk A150
            clear A150
            by_cases c16 : t107 = true
            · subst c16
              have H1 : (if x6_1.length < 17592186044416 then (impl_KeysSince.l0 k1 a1 (x6_1 ++ [x18_1]) (wrap64 (x18_1 + 1)) l0_0 a0_1) else (none)) = some (r1, r2) := by rw [if_pos rfl] at H; exact H
              clear H
              have H := H1
              clear H1
              by_cases c17 : x6_1.length < 17592186044416
              · rw [if_pos c17] at H
                have LMc17 := Aside0.mk c17
                clear c17
                obtain ⟨y108, hy108⟩ : ∃ y_ : List Int, y_ = (x6_1 ++ [x18_1]) := ⟨_, rfl⟩
                replace H : (impl_KeysSince.l0 k1 a1 y108 (wrap64 (x18_1 + 1)) l0_0 a0_1) = some (r1, r2) := by first | (rw [hy108]; with_reducible exact H) | (have H2_ := (Option.bind_some _ _).symm.trans H; rw [hy108]; with_reducible exact H2_) | (have H2_ := (Option.bind_some _ _).symm.trans H; with_reducible exact H2_) | with_reducible exact H | (rw [hy108]; exact H) | exact H
                have Ny108 := Aside0.mk hy108
                clear hy108
                have H' := Aside0.mk H
                clear H
                have hcz18_0 : wr.cell? ⟨gb101, 0, none⟩ = some (.slice A0_0 l0_0.length c0_0) := (blk_cell BK101.out 0).trans rfl
                have hcz18_1 : wr.cell? ⟨gb101, 1, none⟩ = some (.int .i64 a0_1) := (blk_cell BK101.out 1).trans rfl
                have hfz18_0 := blk_frozen BK101.out 0
                have hfz18_1 := blk_frozen BK101.out 1
                go_wp2_with (first | ((with_reducible refine gate_callee (f := 50) rfl ?_); refine goesL_ (some 24) rfl rfl Try.func50 (by kernel_rfl) rfl #[.agg #[.slice A0_0 l0_0.length c0_0, .int .i64 a0_1], .int .i64 x18_1, .int .i64 a1] rfl (by (try simp only [List.map_toArray, List.map_cons, List.map_nil]); first | done | rfl | (simp only [List.length_drop, List.length_take]; rfl)) ?_; (with_reducible refine (impl_Store_changedSince.calls _ _ l0_0 a0_1 x18_1 a1 true _ ?side1 ?side2 A15.out).mono ?_); (case side1 => repeat (first | exact (Kd.C_below HR0_0.out HB.out) | (with_reducible refine Kd.C_alloc ?_ _) | (with_reducible refine Kd.C_drewN ?_ _) | (with_reducible refine Kd.C_drew ?_))); (case side2 => exact HC0_0.out); rintro e w19 ⟨rfl, hb⟩; refine ⟨_, rfl, ?_⟩; have n0_ := Aside0.mk (Kd.R_below (by (with_reducible repeat (first | apply Kd.R_alloc | apply Kd.R_drewN | apply Kd.R_drew)); exact HO_6.out) hb); have n1_ := Aside0.mk (blk_below (g := gb101) (o := .cells #[.slice A0_0 l0_0.length c0_0, .int .i64 a0_1] 29 (0, 0)) (by (with_reducible repeat (first | refine blk_drewN ?_ _ | refine blk_drew ?_ | refine blk_alloc ?_ _)); exact BK101.out) hb); have n2_ := Aside0.mk (below_step (by repeat (first | (with_reducible first | exact HB.out | apply below_alloc | apply pw_below_drewN | apply below_drew1 | refine below_set ?_ GE101.out) | exact HB.out)) hb); clear HO_6; clear BK101; clear HB; have HO_6 := n0_; have BK101 := n1_; have HB := n2_; clear n0_ n1_ n2_; (try clear hb); (try clear hb2); (try clear hk); (try clear hi)) | ((with_reducible refine gate_builtin (b := .append) (xs := #[.tmp 25, .tmp 27]) rfl ?_); at_builtin; refine Kd.R_append (Kd.int .i64) (w0 := w) w.heap.size rfl (.tmp 25) (.tmp 27) 38 3 (.int .i64 0) 8 rfl Try.underlying38 info3 rfl (by decide) (by omega) u6 x6_1 x18_1 [.int .i64 x18_1] (fun _ => True) (fun _ => False) rfl rfl ?aP (fun _ hk => hk.elim) ?aF ?aO ?aB ?aS ?aL ?_; (case aP => exact rfl); (case aB => exact (by repeat (first | (with_reducible first | exact HB.out | apply below_alloc | apply pw_below_drewN | apply below_drew1 | refine below_set ?_ GE101.out) | exact HB.out))); (case aF => exact (fun _ _ => trivial)); (case aO => exact (by (with_reducible repeat (first | apply Kd.R_alloc | apply Kd.R_drewN | apply Kd.R_drew)); exact HO_6.out)); (case aS => exact (below_size (by repeat (first | (with_reducible first | exact HB.out | apply below_alloc | apply pw_below_drewN | apply below_drew1 | refine below_set ?_ GE101.out) | exact HB.out)))); (case aL => have := LMc17.out; omega); intro v109 w20 ho hb hg hat; rw [← Ny108.out] at ho; have n0_ := Aside0.mk (blk_grown (g := gb101) (o := .cells #[.slice A0_0 l0_0.length c0_0, .int .i64 a0_1] 29 (0, 0)) (by (with_reducible repeat (first | refine blk_drewN ?_ _ | refine blk_drew ?_ | refine blk_alloc ?_ _)); exact BK101.out) hg (Kd.R_ne HO_6.out BK101.out (by decide))); have n1_ := Aside0.mk (hb); have n2_ := Aside0.mk (ho); clear BK101; clear HB; clear HO_6; have BK101 := n0_; have HB := n1_; have HO110 := n2_; clear n0_ n1_ n2_; clear ho hb hg hat))
                go_roundg k1
                case measure => have := HK1.out; omega
                case rel => exact ⟨(y108), (wrap64 (x18_1 + 1)), (by first | rfl | (simp; done) | (simp [*]; done)), H', ⟨by have := HK1.out; omega⟩, ⟨by (with_reducible repeat (first | apply Kd.R_alloc | apply Kd.R_drewN | apply Kd.R_drew)); exact HO110.out⟩, ⟨by (with_reducible repeat (first | refine blk_drewN ?_ _ | refine blk_drew ?_ | refine blk_alloc ?_ _)); exact BK101.out⟩, ⟨by repeat (first | (with_reducible first | exact HB.out | apply below_alloc | apply pw_below_drewN | apply below_drew1 | refine below_set ?_ GE101.out) | exact HB.out)⟩⟩
              · rw [if_neg c17] at H
                exact absurd H (by simp)
            · replace c16 := Bool.eq_false_iff.mpr c16
              subst c16
              have H1 : (impl_KeysSince.l0 k1 a1 x6_1 (wrap64 (x18_1 + 1)) l0_0 a0_1) = some (r1, r2) := by rw [if_neg (show ¬ (false = true) by decide)] at H; exact H
              clear H
              have H := H1
              clear H1
              have H' := Aside0.mk H
              clear H
              have hcz21_0 : wr.cell? ⟨gb101, 0, none⟩ = some (.slice A0_0 l0_0.length c0_0) := (blk_cell BK101.out 0).trans rfl
              have hcz21_1 : wr.cell? ⟨gb101, 1, none⟩ = some (.int .i64 a0_1) := (blk_cell BK101.out 1).trans rfl
              have hfz21_0 := blk_frozen BK101.out 0
              have hfz21_1 := blk_frozen BK101.out 1
              go_wp2_with (first | ((with_reducible refine gate_callee (f := 50) rfl ?_); refine goesL_ (some 24) rfl rfl Try.func50 (by kernel_rfl) rfl #[.agg #[.slice A0_0 l0_0.length c0_0, .int .i64 a0_1], .int .i64 x18_1, .int .i64 a1] rfl (by (try simp only [List.map_toArray, List.map_cons, List.map_nil]); first | done | rfl | (simp only [List.length_drop, List.length_take]; rfl)) ?_; (with_reducible refine (impl_Store_changedSince.calls _ _ l0_0 a0_1 x18_1 a1 false _ ?side1 ?side2 A15.out).mono ?_); (case side1 => repeat (first | exact (Kd.C_below HR0_0.out HB.out) | (with_reducible refine Kd.C_alloc ?_ _) | (with_reducible refine Kd.C_drewN ?_ _) | (with_reducible refine Kd.C_drew ?_))); (case side2 => exact HC0_0.out); rintro e w22 ⟨rfl, hb⟩; refine ⟨_, rfl, ?_⟩; have n0_ := Aside0.mk (Kd.R_below (by (with_reducible repeat (first | apply Kd.R_alloc | apply Kd.R_drewN | apply Kd.R_drew)); exact HO_6.out) hb); have n1_ := Aside0.mk (blk_below (g := gb101) (o := .cells #[.slice A0_0 l0_0.length c0_0, .int .i64 a0_1] 29 (0, 0)) (by (with_reducible repeat (first | refine blk_drewN ?_ _ | refine blk_drew ?_ | refine blk_alloc ?_ _)); exact BK101.out) hb); have n2_ := Aside0.mk (below_step (by repeat (first | (with_reducible first | exact HB.out | apply below_alloc | apply pw_below_drewN | apply below_drew1 | refine below_set ?_ GE101.out) | exact HB.out)) hb); clear HO_6; clear BK101; clear HB; have HO_6 := n0_; have BK101 := n1_; have HB := n2_; clear n0_ n1_ n2_; (try clear hb); (try clear hb2); (try clear hk); (try clear hi)))
              go_roundg k1
              case measure => have := HK1.out; omega
              case rel => exact ⟨(x6_1), (wrap64 (x18_1 + 1)), (by first | rfl | (simp; done) | (simp [*]; done)), H', ⟨by have := HK1.out; omega⟩, ⟨by (with_reducible repeat (first | apply Kd.R_alloc | apply Kd.R_drewN | apply Kd.R_drew)); exact HO_6.out⟩, ⟨by (with_reducible repeat (first | refine blk_drewN ?_ _ | refine blk_drew ?_ | refine blk_alloc ?_ _)); exact BK101.out⟩, ⟨by repeat (first | (with_reducible first | exact HB.out | apply below_alloc | apply pw_below_drewN | apply below_drew1 | refine below_set ?_ GE101.out) | exact HB.out)⟩⟩
          · rw [if_neg c14] at H
            have c14b0 : decide (x18_1 < 16) = false := decide_eq_false c14
            clear c14
            simp only [Option.some.injEq, Prod.mk.injEq] at H
            obtain ⟨rfl, rfl⟩ := H
            go_wp2
            go_ret2
            exact ⟨_, by first | rfl | (simp [errW_none, errW_some] <;> rfl) | (simp [*, errW_none, errW_some] <;> rfl), by (with_reducible repeat (first | apply Kd.R_alloc | apply Kd.R_drewN | apply Kd.R_drew)); exact HO_6.out, by repeat (first | (with_reducible first | exact HB.out | apply below_alloc | apply pw_below_drewN | apply below_drew1 | refine below_set ?_ GE101.out) | exact HB.out)⟩
    · replace c6 := Bool.eq_false_iff.mpr c6
      subst c6
      have H1 : (some (([] : List Int), 4)) = some (r1, r2) := by rw [if_neg (show ¬ (false = true) by decide)] at H; exact H
      clear H
      have H := H1
      clear H1
      simp only [Option.some.injEq, Prod.mk.injEq] at H
      obtain ⟨rfl, rfl⟩ := H
      go_enter Try.func21, Try.ntmps21
      go_wp2_with (first | ((with_reducible refine gate_dst (N := 2) rfl ?_); refine box_event ?hg (N := 2) ?hd (cs := #[.slice A0_0 l0_0.length c0_0, .int .i64 a0_1]) (t := 29) ?hr ?_; (case hd => rfl); (case hg => rfl); (case hr => first | (go_simp; done) | (go_simp; rfl)); intro gb101 hg w23 hbox hb; have n0_ := Aside0.mk (below_step (by repeat (first | (with_reducible first | exact HB.out | apply below_alloc | apply pw_below_drewN | apply below_drew1) | exact HB.out)) hb); have n1_ := Aside0.mk (hbox); have n2_ := Aside0.mk ((by rw [hg]; exact (below_size (by repeat (first | (with_reducible first | exact HB.out | apply below_alloc | apply pw_below_drewN | apply below_drew1) | exact HB.out))) : w.heap.size ≤ gb101)); have n3_ := Aside0.mk ((by rw [hg]; exact (below_size (by repeat (first | (with_reducible first | exact HB.out | apply below_alloc | apply pw_below_drewN | apply below_drew1) | exact HB.out))) : w.heap.size ≤ gb101)); clear HB; have HB := n0_; have BK101 := n1_; have GW101 := n2_; have GE101 := n3_; clear n0_ n1_ n2_ n3_; clear hb hbox hg; have hcz24_0 : w23.cell? ⟨gb101, 0, none⟩ = some (.slice A0_0 l0_0.length c0_0) := (blk_cell BK101.out 0).trans rfl; have hcz24_1 : w23.cell? ⟨gb101, 1, none⟩ = some (.int .i64 a0_1) := (blk_cell BK101.out 1).trans rfl; have hfz24_0 := blk_frozen BK101.out 0; have hfz24_1 := blk_frozen BK101.out 1) | ((with_reducible refine gate_callee (f := 14) rfl ?_); refine goesL_ (some 10) rfl rfl Try.func14 (by kernel_rfl) rfl #[.agg #[.slice A0_0 l0_0.length c0_0, .int .i64 a0_1]] rfl (by (try simp only [List.map_toArray, List.map_cons, List.map_nil]); first | done | rfl | (simp only [List.length_drop, List.length_take]; rfl)) ?_; (with_reducible refine (impl_StoreOK.calls k _ _ l0_0 a0_1 true _ ?side1 ?side2 A3.out).mono ?_); (case side1 => repeat (first | exact (Kd.C_below HR0_0.out HB.out) | (with_reducible refine Kd.C_alloc ?_ _) | (with_reducible refine Kd.C_drewN ?_ _) | (with_reducible refine Kd.C_drew ?_))); (case side2 => exact HC0_0.out); rintro e w25 ⟨rfl, hb⟩; refine ⟨_, rfl, ?_⟩; have n0_ := Aside0.mk (blk_below (g := gb101) (o := .cells #[.slice A0_0 l0_0.length c0_0, .int .i64 a0_1] 29 (0, 0)) (by (with_reducible repeat (first | refine blk_drewN ?_ _ | refine blk_drew ?_ | refine blk_alloc ?_ _)); exact BK101.out) hb); have n1_ := Aside0.mk (below_step (by repeat (first | (with_reducible first | exact HB.out | apply below_alloc | apply pw_below_drewN | apply below_drew1 | refine below_set ?_ GE101.out) | exact HB.out)) hb); clear BK101; clear HB; have BK101 := n0_; have HB := n1_; clear n0_ n1_; (try clear hb); (try clear hb2); (try clear hk); (try clear hi); have hcz26_0 : w25.cell? ⟨gb101, 0, none⟩ = some (.slice A0_0 l0_0.length c0_0) := (blk_cell BK101.out 0).trans rfl; have hcz26_1 : w25.cell? ⟨gb101, 1, none⟩ = some (.int .i64 a0_1) := (blk_cell BK101.out 1).trans rfl; have hfz26_0 := blk_frozen BK101.out 0; have hfz26_1 := blk_frozen BK101.out 1) | ((with_reducible refine gate_callee (f := 49) rfl ?_); refine goesL_ (some 15) rfl rfl Try.func49 (by kernel_rfl) rfl #[.agg #[.slice A0_0 l0_0.length c0_0, .int .i64 a0_1], .int .i64 a1] rfl (by (try simp only [List.map_toArray, List.map_cons, List.map_nil]); first | done | rfl | (simp only [List.length_drop, List.length_take]; rfl)) ?_; (with_reducible refine (impl_Store_isHour.calls _ _ l0_0 a0_1 a1 false _ ?side1 ?side2 A5.out).mono ?_); (case side1 => repeat (first | exact (Kd.C_below HR0_0.out HB.out) | (with_reducible refine Kd.C_alloc ?_ _) | (with_reducible refine Kd.C_drewN ?_ _) | (with_reducible refine Kd.C_drew ?_))); (case side2 => exact HC0_0.out); rintro e w27 ⟨rfl, hb⟩; refine ⟨_, rfl, ?_⟩; have n0_ := Aside0.mk (blk_below (g := gb101) (o := .cells #[.slice A0_0 l0_0.length c0_0, .int .i64 a0_1] 29 (0, 0)) (by (with_reducible repeat (first | refine blk_drewN ?_ _ | refine blk_drew ?_ | refine blk_alloc ?_ _)); exact BK101.out) hb); have n1_ := Aside0.mk (below_step (by repeat (first | (with_reducible first | exact HB.out | apply below_alloc | apply pw_below_drewN | apply below_drew1 | refine below_set ?_ GE101.out) | exact HB.out)) hb); clear BK101; clear HB; have BK101 := n0_; have HB := n1_; clear n0_ n1_; (try clear hb); (try clear hb2); (try clear hk); (try clear hi)))
      go_ret2
      exact ⟨_, by first | rfl | (simp [errW_none, errW_some] <;> rfl) | (simp [*, errW_none, errW_some] <;> rfl), by first | exact Kd.R_nil _ _ _ _ _ | exact Kd.N_nil _ _ _ _ _ | exact Kd.V_nil _ _ _ _ _ | exact Kd.Q_nil _ _ _ _ _ | exact Kd.S_nil _ _ _ _ _, by repeat (first | (with_reducible first | exact HB.out | apply below_alloc | apply pw_below_drewN | apply below_drew1 | refine below_set ?_ GE101.out) | exact HB.out)⟩
  · replace c4 := Bool.eq_false_iff.mpr c4
    subst c4
    have H1 : (some (([] : List Int), 1)) = some (r1, r2) := by rw [if_neg (show ¬ (false = true) by decide)] at H; exact H
    clear H
    have H := H1
    clear H1
    simp only [Option.some.injEq, Prod.mk.injEq] at H
    obtain ⟨rfl, rfl⟩ := H
    go_enter Try.func21, Try.ntmps21
    go_wp2_with (first | ((with_reducible refine gate_dst (N := 2) rfl ?_); refine box_event ?hg (N := 2) ?hd (cs := #[.slice A0_0 l0_0.length c0_0, .int .i64 a0_1]) (t := 29) ?hr ?_; (case hd => rfl); (case hg => rfl); (case hr => first | (go_simp; done) | (go_simp; rfl)); intro gb101 hg w28 hbox hb; have n0_ := Aside0.mk (below_step (by repeat (first | (with_reducible first | exact HB.out | apply below_alloc | apply pw_below_drewN | apply below_drew1) | exact HB.out)) hb); have n1_ := Aside0.mk (hbox); have n2_ := Aside0.mk ((by rw [hg]; exact (below_size (by repeat (first | (with_reducible first | exact HB.out | apply below_alloc | apply pw_below_drewN | apply below_drew1) | exact HB.out))) : w.heap.size ≤ gb101)); have n3_ := Aside0.mk ((by rw [hg]; exact (below_size (by repeat (first | (with_reducible first | exact HB.out | apply below_alloc | apply pw_below_drewN | apply below_drew1) | exact HB.out))) : w.heap.size ≤ gb101)); clear HB; have HB := n0_; have BK101 := n1_; have GW101 := n2_; have GE101 := n3_; clear n0_ n1_ n2_ n3_; clear hb hbox hg; have hcz29_0 : w28.cell? ⟨gb101, 0, none⟩ = some (.slice A0_0 l0_0.length c0_0) := (blk_cell BK101.out 0).trans rfl; have hcz29_1 : w28.cell? ⟨gb101, 1, none⟩ = some (.int .i64 a0_1) := (blk_cell BK101.out 1).trans rfl; have hfz29_0 := blk_frozen BK101.out 0; have hfz29_1 := blk_frozen BK101.out 1) | ((with_reducible refine gate_callee (f := 14) rfl ?_); refine goesL_ (some 10) rfl rfl Try.func14 (by kernel_rfl) rfl #[.agg #[.slice A0_0 l0_0.length c0_0, .int .i64 a0_1]] rfl (by (try simp only [List.map_toArray, List.map_cons, List.map_nil]); first | done | rfl | (simp only [List.length_drop, List.length_take]; rfl)) ?_; (with_reducible refine (impl_StoreOK.calls k _ _ l0_0 a0_1 false _ ?side1 ?side2 A3.out).mono ?_); (case side1 => repeat (first | exact (Kd.C_below HR0_0.out HB.out) | (with_reducible refine Kd.C_alloc ?_ _) | (with_reducible refine Kd.C_drewN ?_ _) | (with_reducible refine Kd.C_drew ?_))); (case side2 => exact HC0_0.out); rintro e w30 ⟨rfl, hb⟩; refine ⟨_, rfl, ?_⟩; have n0_ := Aside0.mk (blk_below (g := gb101) (o := .cells #[.slice A0_0 l0_0.length c0_0, .int .i64 a0_1] 29 (0, 0)) (by (with_reducible repeat (first | refine blk_drewN ?_ _ | refine blk_drew ?_ | refine blk_alloc ?_ _)); exact BK101.out) hb); have n1_ := Aside0.mk (below_step (by repeat (first | (with_reducible first | exact HB.out | apply below_alloc | apply pw_below_drewN | apply below_drew1 | refine below_set ?_ GE101.out) | exact HB.out)) hb); clear BK101; clear HB; have BK101 := n0_; have HB := n1_; clear n0_ n1_; (try clear hb); (try clear hb2); (try clear hk); (try clear hi)))
    go_ret2
    exact ⟨_, by first | rfl | (simp [errW_none, errW_some] <;> rfl) | (simp [*, errW_none, errW_some] <;> rfl), by first | exact Kd.R_nil _ _ _ _ _ | exact Kd.N_nil _ _ _ _ _ | exact Kd.V_nil _ _ _ _ _ | exact Kd.Q_nil _ _ _ _ _ | exact Kd.S_nil _ _ _ _ _, by repeat (first | (with_reducible first | exact HB.out | apply below_alloc | apply pw_below_drewN | apply below_drew1 | refine below_set ?_ GE101.out) | exact HB.out)⟩

end Go.Proofs.Ytkijkmmeilaljaa.Q
namespace Go.Proofs.Ytkijkmmeilaljaa.Q
open Go.RowKit Go.Proofs.YtkijkmmeilaljaaW.PrintWords Go.Proofs.YtkijkmmeilaljaaW.PrintLast Go.Proofs.YtkijkmmeilaljaaW.PrintMore
attribute [local go_sem] max2_int min2_int max_two min_two max_three min_three max_four min_four   -- for this text's walks alone
set_option linter.unusedVariables false
set_option linter.unusedSimpArgs false

/-! ### a law's walk: small words -/
theorem lw6_iv {W W' : World} {n : Nat} (hn : n ≤ W.heap.size) (hb : W.heap.size ≤ W'.heap.size) : ∃ lo hi, lo = W.heap.size ∧ hi = W'.heap.size ∧ (n ≤ lo ∧ lo ≤ hi) := ⟨_, _, rfl, rfl, hn, hb⟩
theorem lw6_need {α : Type} {p : Prop} [Decidable p] {X : Option α} {r : α} (h : (if p then X else none) = some r) : p ∧ X = some r := by
  by_cases c : p
  · rw [if_pos c] at h; exact ⟨c, h⟩
  · rw [if_neg c] at h; cases h
theorem lw6_lt {W w' : World} {g : Nat} {o : Obj} (hb : Below W.heap.size W w') (h : W.heap[g]? = some o) : g + 1 ≤ W.heap.size ∧ w'.heap[g]? = some o := ⟨blk_lt h, blk_below h hb⟩
/-! ### laws_FnExactKeysSince: function 6 -/
def laws_FnExactKeysSince.f (k : Nat) (l0_0 : List (List (S90))) (a0_1 : Int) (a1 : Int) : Option (Bool) := ((laws_szStore.f k l0_0 a0_1 1048576).bind fun b0_ => (if b0_ < 0 then (some true) else ((laws_toStore.f k l0_0 a0_1).bind fun b2_ => ((spec_KeysSince.f k b2_.1 b2_.2 a1).bind fun b3_ => ((laws_toStore.f k l0_0 a0_1).bind fun b4_ => ((impl_KeysSince.f k b4_.1 b4_.2 a1).bind fun b5_ => ((laws_eqIntS.f k b5_.1 b3_.1).bind fun b6_ => (if b6_ = true then (if b5_.2 = b3_.2 then ((laws_toStore.f k l0_0 a0_1).bind fun b9_ => ((laws_eqStore.f k b4_.1 b4_.2 b9_.1 b9_.2).bind fun b10_ => (if b10_ = true then ((laws_markStore.f k b4_.1 b4_.2 1).bind fun b12_ => (if ¬ (b12_.1 < 0) then ((laws_eqIntS.f k b5_.1 b3_.1).bind fun b14_ => (if b14_ = true then ((laws_markIntS.f k b5_.1 1).bind fun b16_ => ((laws_heldIntS.f k b16_.2 1).bind fun b17_ => (if ¬ (b17_ < 0) then (if b17_ = b16_.1 then ((laws_toStore.f k l0_0 a0_1).bind fun b20_ => ((impl_KeysSince.f k b20_.1 b20_.2 a1).bind fun b21_ => ((laws_eqIntS.f k b21_.1 b3_.1).bind fun b22_ => (if b22_ = true then (if b21_.2 = b3_.2 then ((laws_heldIntS.f k b16_.2 1).bind fun b25_ => (if ¬ (b25_ < 0) then (if b25_ = b16_.1 then (some true) else (none)) else (none))) else (none)) else (none))))) else (none)) else (none)))) else (none))) else (none))) else (none)))) else (none)) else (none)))))))))
set_option maxHeartbeats 8000000 in
set_option maxRecDepth 100000 in
theorem laws_FnExactKeysSince.calls (k : Nat) (A0_0 : Option Addr) (c0_0 : Nat) (l0_0 : List (List (S90))) (a0_1 : Int) (a1 : Int) (r : Bool) (w : World) (hr0_0 : Kd.C (Kd.slice 90 k90) w A0_0 l0_0.length l0_0) (hc0_0 : l0_0.length ≤ c0_0) (h : laws_FnExactKeysSince.f k l0_0 a0_1 a1 = some r) :
    Calls Try.prog 6 #[.agg #[.slice A0_0 l0_0.length c0_0, .int .i64 a0_1], .int .i64 a1] w fun e w' => e = .returned (.bool r) ∧ Below w.heap.size w w' := by
  have hu24 := Try.underlying24
  have hu29 := Try.underlying29
  have HR0_0 := Aside0.mk hr0_0
  have HC0_0 := Aside0.mk hc0_0
  clear hr0_0 hc0_0
  have HB := Aside0.mk (Below.refl w.heap.size w)
  have HX := Aside0.mk (Below.refl w.heap.size w)
  have HN := Aside0.mk (Nat.le_refl w.heap.size)
  have H : ((laws_szStore.f k l0_0 a0_1 1048576).bind fun b0_ => (if b0_ < 0 then (some true) else ((laws_toStore.f k l0_0 a0_1).bind fun b2_ => ((spec_KeysSince.f k b2_.1 b2_.2 a1).bind fun b3_ => ((laws_toStore.f k l0_0 a0_1).bind fun b4_ => ((impl_KeysSince.f k b4_.1 b4_.2 a1).bind fun b5_ => ((laws_eqIntS.f k b5_.1 b3_.1).bind fun b6_ => (if b6_ = true then (if b5_.2 = b3_.2 then ((laws_toStore.f k l0_0 a0_1).bind fun b9_ => ((laws_eqStore.f k b4_.1 b4_.2 b9_.1 b9_.2).bind fun b10_ => (if b10_ = true then ((laws_markStore.f k b4_.1 b4_.2 1).bind fun b12_ => (if ¬ (b12_.1 < 0) then ((laws_eqIntS.f k b5_.1 b3_.1).bind fun b14_ => (if b14_ = true then ((laws_markIntS.f k b5_.1 1).bind fun b16_ => ((laws_heldIntS.f k b16_.2 1).bind fun b17_ => (if ¬ (b17_ < 0) then (if b17_ = b16_.1 then ((laws_toStore.f k l0_0 a0_1).bind fun b20_ => ((impl_KeysSince.f k b20_.1 b20_.2 a1).bind fun b21_ => ((laws_eqIntS.f k b21_.1 b3_.1).bind fun b22_ => (if b22_ = true then (if b21_.2 = b3_.2 then ((laws_heldIntS.f k b16_.2 1).bind fun b25_ => (if ¬ (b25_ < 0) then (if b25_ = b16_.1 then (some true) else (none)) else (none))) else (none)) else (none))))) else (none)) else (none)))) else (none))) else (none))) else (none)))) else (none)) else (none))))))))) = some r := h
  clear h
  replace H := Option.bind_eq_some_iff.mp H
  obtain ⟨t7, A0_, H⟩ := H
  replace H : (if t7 < 0 then (some true) else ((laws_toStore.f k l0_0 a0_1).bind fun b2_ => ((spec_KeysSince.f k b2_.1 b2_.2 a1).bind fun b3_ => ((laws_toStore.f k l0_0 a0_1).bind fun b4_ => ((impl_KeysSince.f k b4_.1 b4_.2 a1).bind fun b5_ => ((laws_eqIntS.f k b5_.1 b3_.1).bind fun b6_ => (if b6_ = true then (if b5_.2 = b3_.2 then ((laws_toStore.f k l0_0 a0_1).bind fun b9_ => ((laws_eqStore.f k b4_.1 b4_.2 b9_.1 b9_.2).bind fun b10_ => (if b10_ = true then ((laws_markStore.f k b4_.1 b4_.2 1).bind fun b12_ => (if ¬ (b12_.1 < 0) then ((laws_eqIntS.f k b5_.1 b3_.1).bind fun b14_ => (if b14_ = true then ((laws_markIntS.f k b5_.1 1).bind fun b16_ => ((laws_heldIntS.f k b16_.2 1).bind fun b17_ => (if ¬ (b17_ < 0) then (if b17_ = b16_.1 then ((laws_toStore.f k l0_0 a0_1).bind fun b20_ => ((impl_KeysSince.f k b20_.1 b20_.2 a1).bind fun b21_ => ((laws_eqIntS.f k b21_.1 b3_.1).bind fun b22_ => (if b22_ = true then (if b21_.2 = b3_.2 then ((laws_heldIntS.f k b16_.2 1).bind fun b25_ => (if ¬ (b25_ < 0) then (if b25_ = b16_.1 then (some true) else (none)) else (none))) else (none)) else (none))))) else (none)) else (none)))) else (none))) else (none))) else (none)))) else (none)) else (none)))))))) = some r := H
  have A8 := Aside0.mk (show laws_szStore.f k l0_0 a0_1 1048576 = some t7 from A0_)
  clear A0_
  by_cases c1 : t7 < 0
  · rw [if_pos c1] at H
    have c1b : decide (t7 < 0) = true := decide_eq_true c1
    clear c1
    obtain rfl := Option.some.inj H
    go_enter Try.func6, Try.ntmps6
    go_wp2_with (first | ((with_reducible refine gate_dst (N := 2) rfl ?_); refine box_event ?hg (N := 2) ?hd (cs := #[.slice A0_0 l0_0.length c0_0, .int .i64 a0_1]) (t := 24) ?hr ?_; (case hd => rfl); (case hg => rfl); (case hr => first | (go_simp; done) | (go_simp; rfl)); intro gb1 hg w2 hbox hb; have hbt := below_step (by repeat (first | (with_reducible first | exact HX.out | apply below_alloc | apply pw_below_drewN | apply below_drew1) | exact HX.out)) hb; obtain ⟨lo4, hi4, hl_, hh_, hc_⟩ := lw6_iv (Nat.le_trans HN.out (below_size (by repeat (first | (with_reducible first | exact HX.out | apply below_alloc | apply pw_below_drewN | apply below_drew1) | exact HX.out)))) hb.size; have CHlo4 := Aside0.mk (show w.heap.size ≤ lo4 ∧ lo4 ≤ hi4 from hc_); clear hc_; have n0_ := Aside0.mk (hbox); have n1_ := Aside0.mk (Below.refl w2.heap.size w2); have n2_ := Aside0.mk (below_step HB.out hbt); have n3_ := Aside0.mk ((show hi4 ≤ w2.heap.size from Nat.le_of_eq hh_)); clear HX HB HN; have BK3 := n0_; have HX := n1_; have HB := n2_; have HN := n3_; clear n0_ n1_ n2_ n3_; have IVgb1 := Aside0.mk (show lo4 ≤ gb1 ∧ gb1 < hi4 from ⟨Nat.le_of_eq (hl_.trans hg.symm), by rw [hh_]; exact blk_lt hbox⟩); (try clear hb); (try clear hbt); (try clear hkt); (try clear hkp); (try clear hb0); (try clear hp_); (try clear hl_); (try clear hh_); (try clear hd_); clear hg hbox; have hcz5 : w2.cell? ⟨gb1, 0, none⟩ = some (.slice A0_0 l0_0.length c0_0) := (blk_cell BK3.out 0).trans rfl; have hcz6 : w2.cell? ⟨gb1, 1, none⟩ = some (.int .i64 a0_1) := (blk_cell BK3.out 1).trans rfl) | ((with_reducible refine gate_callee (f := 11) rfl ?_); refine goesL_ (some 18) rfl rfl Try.func11 (by kernel_rfl) rfl #[.agg #[.slice A0_0 l0_0.length c0_0, .int .i64 a0_1], .int .i64 1048576] rfl (by (try simp only [List.map_toArray, List.map_cons, List.map_nil]); first | done | rfl) ?_; (with_reducible refine (laws_szStore.calls k _ _ l0_0 a0_1 1048576 t7 _ ?side1 ?side2 A8.out).mono ?_); (case side1 => exact Kd.C_below HR0_0.out (below_step HB.out (by repeat (first | (with_reducible first | exact HX.out | apply below_alloc | apply pw_below_drewN | apply below_drew1) | exact HX.out)))); (case side2 => exact HC0_0.out); rintro e w9 ⟨rfl, hb⟩; refine ⟨_, rfl, ?_⟩; have hbt := below_step (by repeat (first | (with_reducible first | exact HX.out | apply below_alloc | apply pw_below_drewN | apply below_drew1) | exact HX.out)) hb; have n0_ := Aside0.mk (blk_below (g := gb1) BK3.out hbt); have n1_ := Aside0.mk (Below.refl w9.heap.size w9); have n2_ := Aside0.mk (below_step HB.out hbt); have n3_ := Aside0.mk (Nat.le_trans (Nat.le_trans HN.out (below_size (by repeat (first | (with_reducible first | exact HX.out | apply below_alloc | apply pw_below_drewN | apply below_drew1) | exact HX.out)))) hb.size); clear BK3 HX HB HN; have BK3 := n0_; have HX := n1_; have HB := n2_; have HN := n3_; clear n0_ n1_ n2_ n3_; (try clear hb); (try clear hbt); (try clear hkt); (try clear hkp); (try clear hb0); (try clear hp_); (try clear hl_); (try clear hh_); (try clear hd_); have hcz11 : w9.cell? ⟨gb1, 0, none⟩ = some (.slice A0_0 l0_0.length c0_0) := (blk_cell BK3.out 0).trans rfl; have hcz12 : w9.cell? ⟨gb1, 1, none⟩ = some (.int .i64 a0_1) := (blk_cell BK3.out 1).trans rfl))
    go_ret
    exact ⟨by first | rfl | (simp [*]; done), below_step HB.out (by repeat (first | (with_reducible first | exact HX.out | apply below_alloc | apply pw_below_drewN | apply below_drew1) | exact HX.out))⟩
  · rw [if_neg c1] at H
    have c1b : decide (t7 < 0) = false := decide_eq_false c1
    clear c1
    replace H := Option.bind_eq_some_iff.mp H
    obtain ⟨⟨t13, t14⟩, A0_, H⟩ := H
    replace H : ((spec_KeysSince.f k t13 t14 a1).bind fun b3_ => ((laws_toStore.f k l0_0 a0_1).bind fun b4_ => ((impl_KeysSince.f k b4_.1 b4_.2 a1).bind fun b5_ => ((laws_eqIntS.f k b5_.1 b3_.1).bind fun b6_ => (if b6_ = true then (if b5_.2 = b3_.2 then ((laws_toStore.f k l0_0 a0_1).bind fun b9_ => ((laws_eqStore.f k b4_.1 b4_.2 b9_.1 b9_.2).bind fun b10_ => (if b10_ = true then ((laws_markStore.f k b4_.1 b4_.2 1).bind fun b12_ => (if ¬ (b12_.1 < 0) then ((laws_eqIntS.f k b5_.1 b3_.1).bind fun b14_ => (if b14_ = true then ((laws_markIntS.f k b5_.1 1).bind fun b16_ => ((laws_heldIntS.f k b16_.2 1).bind fun b17_ => (if ¬ (b17_ < 0) then (if b17_ = b16_.1 then ((laws_toStore.f k l0_0 a0_1).bind fun b20_ => ((impl_KeysSince.f k b20_.1 b20_.2 a1).bind fun b21_ => ((laws_eqIntS.f k b21_.1 b3_.1).bind fun b22_ => (if b22_ = true then (if b21_.2 = b3_.2 then ((laws_heldIntS.f k b16_.2 1).bind fun b25_ => (if ¬ (b25_ < 0) then (if b25_ = b16_.1 then (some true) else (none)) else (none))) else (none)) else (none))))) else (none)) else (none)))) else (none))) else (none))) else (none)))) else (none)) else (none)))))) = some r := H
    have A15 := Aside0.mk (show laws_toStore.f k l0_0 a0_1 = some (t13, t14) from A0_)
    clear A0_
    replace H := Option.bind_eq_some_iff.mp H
    obtain ⟨⟨t22, t23⟩, A0_, H⟩ := H
    replace H : ((laws_toStore.f k l0_0 a0_1).bind fun b4_ => ((impl_KeysSince.f k b4_.1 b4_.2 a1).bind fun b5_ => ((laws_eqIntS.f k b5_.1 t22).bind fun b6_ => (if b6_ = true then (if b5_.2 = t23 then ((laws_toStore.f k l0_0 a0_1).bind fun b9_ => ((laws_eqStore.f k b4_.1 b4_.2 b9_.1 b9_.2).bind fun b10_ => (if b10_ = true then ((laws_markStore.f k b4_.1 b4_.2 1).bind fun b12_ => (if ¬ (b12_.1 < 0) then ((laws_eqIntS.f k b5_.1 t22).bind fun b14_ => (if b14_ = true then ((laws_markIntS.f k b5_.1 1).bind fun b16_ => ((laws_heldIntS.f k b16_.2 1).bind fun b17_ => (if ¬ (b17_ < 0) then (if b17_ = b16_.1 then ((laws_toStore.f k l0_0 a0_1).bind fun b20_ => ((impl_KeysSince.f k b20_.1 b20_.2 a1).bind fun b21_ => ((laws_eqIntS.f k b21_.1 t22).bind fun b22_ => (if b22_ = true then (if b21_.2 = t23 then ((laws_heldIntS.f k b16_.2 1).bind fun b25_ => (if ¬ (b25_ < 0) then (if b25_ = b16_.1 then (some true) else (none)) else (none))) else (none)) else (none))))) else (none)) else (none)))) else (none))) else (none))) else (none)))) else (none)) else (none))))) = some r := H
    have A24 := Aside0.mk (show spec_KeysSince.f k t13 t14 a1 = some (t22, t23) from A0_)
    clear A0_
    replace H := Option.bind_eq_some_iff.mp H
    obtain ⟨⟨t31, t32⟩, A0_, H⟩ := H
    replace H : ((impl_KeysSince.f k t31 t32 a1).bind fun b5_ => ((laws_eqIntS.f k b5_.1 t22).bind fun b6_ => (if b6_ = true then (if b5_.2 = t23 then ((laws_toStore.f k l0_0 a0_1).bind fun b9_ => ((laws_eqStore.f k t31 t32 b9_.1 b9_.2).bind fun b10_ => (if b10_ = true then ((laws_markStore.f k t31 t32 1).bind fun b12_ => (if ¬ (b12_.1 < 0) then ((laws_eqIntS.f k b5_.1 t22).bind fun b14_ => (if b14_ = true then ((laws_markIntS.f k b5_.1 1).bind fun b16_ => ((laws_heldIntS.f k b16_.2 1).bind fun b17_ => (if ¬ (b17_ < 0) then (if b17_ = b16_.1 then ((laws_toStore.f k l0_0 a0_1).bind fun b20_ => ((impl_KeysSince.f k b20_.1 b20_.2 a1).bind fun b21_ => ((laws_eqIntS.f k b21_.1 t22).bind fun b22_ => (if b22_ = true then (if b21_.2 = t23 then ((laws_heldIntS.f k b16_.2 1).bind fun b25_ => (if ¬ (b25_ < 0) then (if b25_ = b16_.1 then (some true) else (none)) else (none))) else (none)) else (none))))) else (none)) else (none)))) else (none))) else (none))) else (none)))) else (none)) else (none)))) = some r := H
    have A33 := Aside0.mk (show laws_toStore.f k l0_0 a0_1 = some (t31, t32) from A0_)
    clear A0_
    replace H := Option.bind_eq_some_iff.mp H
    obtain ⟨⟨t50, t51⟩, A0_, H⟩ := H
    replace H : ((laws_eqIntS.f k t50 t22).bind fun b6_ => (if b6_ = true then (if t51 = t23 then ((laws_toStore.f k l0_0 a0_1).bind fun b9_ => ((laws_eqStore.f k t31 t32 b9_.1 b9_.2).bind fun b10_ => (if b10_ = true then ((laws_markStore.f k t31 t32 1).bind fun b12_ => (if ¬ (b12_.1 < 0) then ((laws_eqIntS.f k t50 t22).bind fun b14_ => (if b14_ = true then ((laws_markIntS.f k t50 1).bind fun b16_ => ((laws_heldIntS.f k b16_.2 1).bind fun b17_ => (if ¬ (b17_ < 0) then (if b17_ = b16_.1 then ((laws_toStore.f k l0_0 a0_1).bind fun b20_ => ((impl_KeysSince.f k b20_.1 b20_.2 a1).bind fun b21_ => ((laws_eqIntS.f k b21_.1 t22).bind fun b22_ => (if b22_ = true then (if b21_.2 = t23 then ((laws_heldIntS.f k b16_.2 1).bind fun b25_ => (if ¬ (b25_ < 0) then (if b25_ = b16_.1 then (some true) else (none)) else (none))) else (none)) else (none))))) else (none)) else (none)))) else (none))) else (none))) else (none)))) else (none)) else (none))) = some r := H
    have A52 := Aside0.mk (show impl_KeysSince.f k t31 t32 a1 = some (t50, t51) from A0_)
    clear A0_
    replace H := Option.bind_eq_some_iff.mp H
    obtain ⟨t61, A0_, H⟩ := H
    replace H : (if t61 = true then (if t51 = t23 then ((laws_toStore.f k l0_0 a0_1).bind fun b9_ => ((laws_eqStore.f k t31 t32 b9_.1 b9_.2).bind fun b10_ => (if b10_ = true then ((laws_markStore.f k t31 t32 1).bind fun b12_ => (if ¬ (b12_.1 < 0) then ((laws_eqIntS.f k t50 t22).bind fun b14_ => (if b14_ = true then ((laws_markIntS.f k t50 1).bind fun b16_ => ((laws_heldIntS.f k b16_.2 1).bind fun b17_ => (if ¬ (b17_ < 0) then (if b17_ = b16_.1 then ((laws_toStore.f k l0_0 a0_1).bind fun b20_ => ((impl_KeysSince.f k b20_.1 b20_.2 a1).bind fun b21_ => ((laws_eqIntS.f k b21_.1 t22).bind fun b22_ => (if b22_ = true then (if b21_.2 = t23 then ((laws_heldIntS.f k b16_.2 1).bind fun b25_ => (if ¬ (b25_ < 0) then (if b25_ = b16_.1 then (some true) else (none)) else (none))) else (none)) else (none))))) else (none)) else (none)))) else (none))) else (none))) else (none)))) else (none)) else (none)) = some r := H
    have A62 := Aside0.mk (show laws_eqIntS.f k t50 t22 = some t61 from A0_)
    clear A0_
    replace H := lw6_need H
    obtain ⟨c7, H⟩ := H
    subst c7
    replace H := lw6_need H
    obtain ⟨c8, H⟩ := H
    have c8b0 : (t51 == t23) = true := beq_iff_eq.mpr c8
    have c8b1 : (t51 != t23) = false := bne_eq_false_iff_eq.mpr c8
    clear c8
    replace H := Option.bind_eq_some_iff.mp H
    obtain ⟨⟨t70, t71⟩, A0_, H⟩ := H
    replace H : ((laws_eqStore.f k t31 t32 t70 t71).bind fun b10_ => (if b10_ = true then ((laws_markStore.f k t31 t32 1).bind fun b12_ => (if ¬ (b12_.1 < 0) then ((laws_eqIntS.f k t50 t22).bind fun b14_ => (if b14_ = true then ((laws_markIntS.f k t50 1).bind fun b16_ => ((laws_heldIntS.f k b16_.2 1).bind fun b17_ => (if ¬ (b17_ < 0) then (if b17_ = b16_.1 then ((laws_toStore.f k l0_0 a0_1).bind fun b20_ => ((impl_KeysSince.f k b20_.1 b20_.2 a1).bind fun b21_ => ((laws_eqIntS.f k b21_.1 t22).bind fun b22_ => (if b22_ = true then (if b21_.2 = t23 then ((laws_heldIntS.f k b16_.2 1).bind fun b25_ => (if ¬ (b25_ < 0) then (if b25_ = b16_.1 then (some true) else (none)) else (none))) else (none)) else (none))))) else (none)) else (none)))) else (none))) else (none))) else (none))) = some r := H
    have A72 := Aside0.mk (show laws_toStore.f k l0_0 a0_1 = some (t70, t71) from A0_)
    clear A0_
    replace H := Option.bind_eq_some_iff.mp H
    obtain ⟨t77, A0_, H⟩ := H
    replace H : (if t77 = true then ((laws_markStore.f k t31 t32 1).bind fun b12_ => (if ¬ (b12_.1 < 0) then ((laws_eqIntS.f k t50 t22).bind fun b14_ => (if b14_ = true then ((laws_markIntS.f k t50 1).bind fun b16_ => ((laws_heldIntS.f k b16_.2 1).bind fun b17_ => (if ¬ (b17_ < 0) then (if b17_ = b16_.1 then ((laws_toStore.f k l0_0 a0_1).bind fun b20_ => ((impl_KeysSince.f k b20_.1 b20_.2 a1).bind fun b21_ => ((laws_eqIntS.f k b21_.1 t22).bind fun b22_ => (if b22_ = true then (if b21_.2 = t23 then ((laws_heldIntS.f k b16_.2 1).bind fun b25_ => (if ¬ (b25_ < 0) then (if b25_ = b16_.1 then (some true) else (none)) else (none))) else (none)) else (none))))) else (none)) else (none)))) else (none))) else (none))) else (none)) = some r := H
    have A78 := Aside0.mk (show laws_eqStore.f k t31 t32 t70 t71 = some t77 from A0_)
    clear A0_
    replace H := lw6_need H
    obtain ⟨c11, H⟩ := H
    subst c11
    replace H := Option.bind_eq_some_iff.mp H
    obtain ⟨⟨t85, t86⟩, A0_, H⟩ := H
    replace H : (if ¬ (t85 < 0) then ((laws_eqIntS.f k t50 t22).bind fun b14_ => (if b14_ = true then ((laws_markIntS.f k t50 1).bind fun b16_ => ((laws_heldIntS.f k b16_.2 1).bind fun b17_ => (if ¬ (b17_ < 0) then (if b17_ = b16_.1 then ((laws_toStore.f k l0_0 a0_1).bind fun b20_ => ((impl_KeysSince.f k b20_.1 b20_.2 a1).bind fun b21_ => ((laws_eqIntS.f k b21_.1 t22).bind fun b22_ => (if b22_ = true then (if b21_.2 = t23 then ((laws_heldIntS.f k b16_.2 1).bind fun b25_ => (if ¬ (b25_ < 0) then (if b25_ = b16_.1 then (some true) else (none)) else (none))) else (none)) else (none))))) else (none)) else (none)))) else (none))) else (none)) = some r := H
    have A87 := Aside0.mk (show laws_markStore.f k t31 t32 1 = some (t85, t86) from A0_)
    clear A0_
    replace H := lw6_need H
    obtain ⟨c13, H⟩ := H
    have c13b0 : decide (t85 < 0) = false := decide_eq_false c13
    clear c13
    replace H := Option.bind_eq_some_iff.mp H
    obtain ⟨t94, A0_, H⟩ := H
    replace H : (if t94 = true then ((laws_markIntS.f k t50 1).bind fun b16_ => ((laws_heldIntS.f k b16_.2 1).bind fun b17_ => (if ¬ (b17_ < 0) then (if b17_ = b16_.1 then ((laws_toStore.f k l0_0 a0_1).bind fun b20_ => ((impl_KeysSince.f k b20_.1 b20_.2 a1).bind fun b21_ => ((laws_eqIntS.f k b21_.1 t22).bind fun b22_ => (if b22_ = true then (if b21_.2 = t23 then ((laws_heldIntS.f k b16_.2 1).bind fun b25_ => (if ¬ (b25_ < 0) then (if b25_ = b16_.1 then (some true) else (none)) else (none))) else (none)) else (none))))) else (none)) else (none)))) else (none)) = some r := H
    have A95 := Aside0.mk (show laws_eqIntS.f k t50 t22 = some t94 from A0_)
    clear A0_
    replace H := lw6_need H
    obtain ⟨c15, H⟩ := H
    subst c15
    replace H := Option.bind_eq_some_iff.mp H
    obtain ⟨⟨t102, t103⟩, A0_, H⟩ := H
    replace H : ((laws_heldIntS.f k t103 1).bind fun b17_ => (if ¬ (b17_ < 0) then (if b17_ = t102 then ((laws_toStore.f k l0_0 a0_1).bind fun b20_ => ((impl_KeysSince.f k b20_.1 b20_.2 a1).bind fun b21_ => ((laws_eqIntS.f k b21_.1 t22).bind fun b22_ => (if b22_ = true then (if b21_.2 = t23 then ((laws_heldIntS.f k t103 1).bind fun b25_ => (if ¬ (b25_ < 0) then (if b25_ = t102 then (some true) else (none)) else (none))) else (none)) else (none))))) else (none)) else (none))) = some r := H
    have A104 := Aside0.mk (show laws_markIntS.f k t50 1 = some (t102, t103) from A0_)
    clear A0_
    replace H := Option.bind_eq_some_iff.mp H
    obtain ⟨t111, A0_, H⟩ := H
    replace H : (if ¬ (t111 < 0) then (if t111 = t102 then ((laws_toStore.f k l0_0 a0_1).bind fun b20_ => ((impl_KeysSince.f k b20_.1 b20_.2 a1).bind fun b21_ => ((laws_eqIntS.f k b21_.1 t22).bind fun b22_ => (if b22_ = true then (if b21_.2 = t23 then ((laws_heldIntS.f k t103 1).bind fun b25_ => (if ¬ (b25_ < 0) then (if b25_ = t102 then (some true) else (none)) else (none))) else (none)) else (none))))) else (none)) else (none)) = some r := H
    have A112 := Aside0.mk (show laws_heldIntS.f k t103 1 = some t111 from A0_)
    clear A0_
    replace H := lw6_need H
    obtain ⟨c18, H⟩ := H
    have c18b0 : decide (t111 < 0) = false := decide_eq_false c18
    clear c18
    replace H := lw6_need H
    obtain ⟨c19, H⟩ := H
    have c19b0 : (t111 == t102) = true := beq_iff_eq.mpr c19
    have c19b1 : (t111 != t102) = false := bne_eq_false_iff_eq.mpr c19
    clear c19
    replace H := Option.bind_eq_some_iff.mp H
    obtain ⟨⟨t119, t120⟩, A0_, H⟩ := H
    replace H : ((impl_KeysSince.f k t119 t120 a1).bind fun b21_ => ((laws_eqIntS.f k b21_.1 t22).bind fun b22_ => (if b22_ = true then (if b21_.2 = t23 then ((laws_heldIntS.f k t103 1).bind fun b25_ => (if ¬ (b25_ < 0) then (if b25_ = t102 then (some true) else (none)) else (none))) else (none)) else (none)))) = some r := H
    have A121 := Aside0.mk (show laws_toStore.f k l0_0 a0_1 = some (t119, t120) from A0_)
    clear A0_
    replace H := Option.bind_eq_some_iff.mp H
    obtain ⟨⟨t130, t131⟩, A0_, H⟩ := H
    replace H : ((laws_eqIntS.f k t130 t22).bind fun b22_ => (if b22_ = true then (if t131 = t23 then ((laws_heldIntS.f k t103 1).bind fun b25_ => (if ¬ (b25_ < 0) then (if b25_ = t102 then (some true) else (none)) else (none))) else (none)) else (none))) = some r := H
    have A132 := Aside0.mk (show impl_KeysSince.f k t119 t120 a1 = some (t130, t131) from A0_)
    clear A0_
    replace H := Option.bind_eq_some_iff.mp H
    obtain ⟨t141, A0_, H⟩ := H
    replace H : (if t141 = true then (if t131 = t23 then ((laws_heldIntS.f k t103 1).bind fun b25_ => (if ¬ (b25_ < 0) then (if b25_ = t102 then (some true) else (none)) else (none))) else (none)) else (none)) = some r := H
    have A142 := Aside0.mk (show laws_eqIntS.f k t130 t22 = some t141 from A0_)
    clear A0_
    replace H := lw6_need H
    obtain ⟨c23, H⟩ := H
    subst c23
    replace H := lw6_need H
    obtain ⟨c24, H⟩ := H
    have c24b0 : (t131 == t23) = true := beq_iff_eq.mpr c24
    have c24b1 : (t131 != t23) = false := bne_eq_false_iff_eq.mpr c24
    clear c24
    replace H := Option.bind_eq_some_iff.mp H
    obtain ⟨t149, A0_, H⟩ := H
    replace H : (if ¬ (t149 < 0) then (if t149 = t102 then (some true) else (none)) else (none)) = some r := H
    have A150 := Aside0.mk (show laws_heldIntS.f k t103 1 = some t149 from A0_)
    clear A0_
    replace H := lw6_need H
    obtain ⟨c26, H⟩ := H
    have c26b0 : decide (t149 < 0) = false := decide_eq_false c26
    clear c26
    replace H := lw6_need H
    obtain ⟨c27, H⟩ := H
    have c27b0 : (t149 == t102) = true := beq_iff_eq.mpr c27
    have c27b1 : (t149 != t102) = false := bne_eq_false_iff_eq.mpr c27
    clear c27
    obtain rfl := Option.some.inj H
    go_enter Try.func6, Try.ntmps6
    go_wp2_with (first | ((with_reducible refine gate_dst (N := 2) rfl ?_); refine box_event ?hg (N := 2) ?hd (cs := #[.slice A0_0 l0_0.length c0_0, .int .i64 a0_1]) (t := 24) ?hr ?_; (case hd => rfl); (case hg => rfl); (case hr => first | (go_simp; done) | (go_simp; rfl)); intro gb1 hg w2 hbox hb; have hbt := below_step (by repeat (first | (with_reducible first | exact HX.out | apply below_alloc | apply pw_below_drewN | apply below_drew1) | exact HX.out)) hb; obtain ⟨lo4, hi4, hl_, hh_, hc_⟩ := lw6_iv (Nat.le_trans HN.out (below_size (by repeat (first | (with_reducible first | exact HX.out | apply below_alloc | apply pw_below_drewN | apply below_drew1) | exact HX.out)))) hb.size; have CHlo4 := Aside0.mk (show w.heap.size ≤ lo4 ∧ lo4 ≤ hi4 from hc_); clear hc_; have n0_ := Aside0.mk (hbox); have n1_ := Aside0.mk (Below.refl w2.heap.size w2); have n2_ := Aside0.mk (below_step HB.out hbt); have n3_ := Aside0.mk ((show hi4 ≤ w2.heap.size from Nat.le_of_eq hh_)); clear HX HB HN; have BK3 := n0_; have HX := n1_; have HB := n2_; have HN := n3_; clear n0_ n1_ n2_ n3_; have IVgb1 := Aside0.mk (show lo4 ≤ gb1 ∧ gb1 < hi4 from ⟨Nat.le_of_eq (hl_.trans hg.symm), by rw [hh_]; exact blk_lt hbox⟩); (try clear hb); (try clear hbt); (try clear hkt); (try clear hkp); (try clear hb0); (try clear hp_); (try clear hl_); (try clear hh_); (try clear hd_); clear hg hbox; have hcz5 : w2.cell? ⟨gb1, 0, none⟩ = some (.slice A0_0 l0_0.length c0_0) := (blk_cell BK3.out 0).trans rfl; have hcz6 : w2.cell? ⟨gb1, 1, none⟩ = some (.int .i64 a0_1) := (blk_cell BK3.out 1).trans rfl) | ((with_reducible refine gate_callee (f := 11) rfl ?_); refine goesL_ (some 18) rfl rfl Try.func11 (by kernel_rfl) rfl #[.agg #[.slice A0_0 l0_0.length c0_0, .int .i64 a0_1], .int .i64 1048576] rfl (by (try simp only [List.map_toArray, List.map_cons, List.map_nil]); first | done | rfl) ?_; (with_reducible refine (laws_szStore.calls k _ _ l0_0 a0_1 1048576 t7 _ ?side1 ?side2 A8.out).mono ?_); (case side1 => exact Kd.C_below HR0_0.out (below_step HB.out (by repeat (first | (with_reducible first | exact HX.out | apply below_alloc | apply pw_below_drewN | apply below_drew1) | exact HX.out)))); (case side2 => exact HC0_0.out); rintro e w9 ⟨rfl, hb⟩; refine ⟨_, rfl, ?_⟩; have hbt := below_step (by repeat (first | (with_reducible first | exact HX.out | apply below_alloc | apply pw_below_drewN | apply below_drew1) | exact HX.out)) hb; have n0_ := Aside0.mk (blk_below (g := gb1) BK3.out hbt); have n1_ := Aside0.mk (Below.refl w9.heap.size w9); have n2_ := Aside0.mk (below_step HB.out hbt); have n3_ := Aside0.mk (Nat.le_trans (Nat.le_trans HN.out (below_size (by repeat (first | (with_reducible first | exact HX.out | apply below_alloc | apply pw_below_drewN | apply below_drew1) | exact HX.out)))) hb.size); clear BK3 HX HB HN; have BK3 := n0_; have HX := n1_; have HB := n2_; have HN := n3_; clear n0_ n1_ n2_ n3_; (try clear hb); (try clear hbt); (try clear hkt); (try clear hkp); (try clear hb0); (try clear hp_); (try clear hl_); (try clear hh_); (try clear hd_); have hcz11 : w9.cell? ⟨gb1, 0, none⟩ = some (.slice A0_0 l0_0.length c0_0) := (blk_cell BK3.out 0).trans rfl; have hcz12 : w9.cell? ⟨gb1, 1, none⟩ = some (.int .i64 a0_1) := (blk_cell BK3.out 1).trans rfl) | ((with_reducible refine gate_callee (f := 13) rfl ?_); refine goesL_ (some 23) rfl rfl Try.func13 (by kernel_rfl) rfl #[.agg #[.slice A0_0 l0_0.length c0_0, .int .i64 a0_1]] rfl (by (try simp only [List.map_toArray, List.map_cons, List.map_nil]); first | done | rfl) ?_; (with_reducible refine (laws_toStore.calls k _ _ l0_0 a0_1 t13 t14 _ ?side1 ?side2 A15.out).mono ?_); (case side1 => exact Kd.C_below HR0_0.out (below_step HB.out (by repeat (first | (with_reducible first | exact HX.out | apply below_alloc | apply pw_below_drewN | apply below_drew1) | exact HX.out)))); (case side2 => exact HC0_0.out); rintro e w16 ⟨vt13, rfl, ho0, hb⟩; refine ⟨_, rfl, ?_⟩; have hbt := below_step (by repeat (first | (with_reducible first | exact HX.out | apply below_alloc | apply pw_below_drewN | apply below_drew1) | exact HX.out)) hb; obtain ⟨lo17, hi17, hl_, hh_, hc_⟩ := lw6_iv (Nat.le_trans HN.out (below_size (by repeat (first | (with_reducible first | exact HX.out | apply below_alloc | apply pw_below_drewN | apply below_drew1) | exact HX.out)))) hb.size; have CHlo17 := Aside0.mk (show hi4 ≤ lo17 ∧ lo17 ≤ hi17 from hc_); clear hc_; have n0_ := Aside0.mk (blk_below (g := gb1) BK3.out hbt); have n1_ := Aside0.mk (Kd.S_mono (ok' := fun k_ => lo17 ≤ k_ ∧ k_ < hi17) (Kd.S_lower (Kd.S_bound ho0) (below_size (below_step HB.out (by repeat (first | (with_reducible first | exact HX.out | apply below_alloc | apply pw_below_drewN | apply below_drew1) | exact HX.out))))) (fun k_ hk_ => ⟨by rw [hl_]; exact hk_.2.1, by rw [hh_]; exact hk_.2.2.1⟩)); have n2_ := Aside0.mk (Below.refl w16.heap.size w16); have n3_ := Aside0.mk (below_step HB.out hbt); have n4_ := Aside0.mk ((show hi17 ≤ w16.heap.size from Nat.le_of_eq hh_)); clear BK3 HX HB HN; have BK3 := n0_; have HO18 := n1_; have HX := n2_; have HB := n3_; have HN := n4_; clear n0_ n1_ n2_ n3_ n4_; (try clear hb); (try clear hbt); (try clear hkt); (try clear hkp); (try clear hb0); (try clear hp_); (try clear hl_); (try clear hh_); (try clear hd_); (try clear ho0); obtain ⟨Aoo19, coo19, eoo19⟩ := Kd.S_slice HO18.out; (first | subst eoo19 | (injection eoo19 with f1_ f2_ f3_; have f4_ := f1_.symm; have f5_ := f3_.symm; clear f1_ f2_ f3_; subst f4_; subst f5_)); have hcz20 : w16.cell? ⟨gb1, 0, none⟩ = some (.slice A0_0 l0_0.length c0_0) := (blk_cell BK3.out 0).trans rfl; have hcz21 : w16.cell? ⟨gb1, 1, none⟩ = some (.int .i64 a0_1) := (blk_cell BK3.out 1).trans rfl) | ((with_reducible refine gate_callee (f := 20) rfl ?_); refine goesL_ (some 25) rfl rfl Try.func20 (by kernel_rfl) rfl #[.agg #[.slice Aoo19 t13.length coo19, .int .i64 t14], .int .i64 a1] rfl (by (try simp only [List.map_toArray, List.map_cons, List.map_nil]); first | done | rfl) ?_; (with_reducible refine (spec_KeysSince.calls k _ _ t13 t14 a1 t22 t23 _ ?side1 ?side2 A24.out).mono ?_); (case side1 => exact Kd.C_below (Kd.S_reads' HO18.out).2.2 (by repeat (first | (with_reducible first | exact HX.out | apply below_alloc | apply pw_below_drewN | apply below_drew1) | exact HX.out))); (case side2 => have z_ := Kd.S_reads' HO18.out; have y_ := z_.1; have x_ := z_.2.1; omega); rintro e w25 ⟨vt22, rfl, ho0, hb⟩; refine ⟨_, rfl, ?_⟩; have hbt := below_step (by repeat (first | (with_reducible first | exact HX.out | apply below_alloc | apply pw_below_drewN | apply below_drew1) | exact HX.out)) hb; obtain ⟨lo26, hi26, hl_, hh_, hc_⟩ := lw6_iv (Nat.le_trans HN.out (below_size (by repeat (first | (with_reducible first | exact HX.out | apply below_alloc | apply pw_below_drewN | apply below_drew1) | exact HX.out)))) hb.size; have CHlo26 := Aside0.mk (show hi17 ≤ lo26 ∧ lo26 ≤ hi26 from hc_); clear hc_; have n0_ := Aside0.mk (blk_below (g := gb1) BK3.out hbt); have n1_ := Aside0.mk (Kd.S_below HO18.out hbt); have n2_ := Aside0.mk (Kd.R_mono (ok' := fun k_ => lo26 ≤ k_ ∧ k_ < hi26) (Kd.R_lower (Kd.R_bound ho0) (below_size (below_step HB.out (by repeat (first | (with_reducible first | exact HX.out | apply below_alloc | apply pw_below_drewN | apply below_drew1) | exact HX.out))))) (fun k_ hk_ => ⟨by rw [hl_]; exact hk_.2.1, by rw [hh_]; exact hk_.2.2.1⟩)); have n3_ := Aside0.mk (Below.refl w25.heap.size w25); have n4_ := Aside0.mk (below_step HB.out hbt); have n5_ := Aside0.mk ((show hi26 ≤ w25.heap.size from Nat.le_of_eq hh_)); clear BK3 HO18 HX HB HN; have BK3 := n0_; have HO18 := n1_; have HO27 := n2_; have HX := n3_; have HB := n4_; have HN := n5_; clear n0_ n1_ n2_ n3_ n4_ n5_; (try clear hb); (try clear hbt); (try clear hkt); (try clear hkp); (try clear hb0); (try clear hp_); (try clear hl_); (try clear hh_); (try clear hd_); (try clear ho0); obtain ⟨Aoo28, coo28, eoo28⟩ := Kd.R_slice HO27.out; (first | subst eoo28 | (injection eoo28 with f1_ f2_ f3_; have f4_ := f1_.symm; have f5_ := f3_.symm; clear f1_ f2_ f3_; subst f4_; subst f5_)); have hcz29 : w25.cell? ⟨gb1, 0, none⟩ = some (.slice A0_0 l0_0.length c0_0) := (blk_cell BK3.out 0).trans rfl; have hcz30 : w25.cell? ⟨gb1, 1, none⟩ = some (.int .i64 a0_1) := (blk_cell BK3.out 1).trans rfl) | ((with_reducible refine gate_callee (f := 13) rfl ?_); refine goesL_ (some 29) rfl rfl Try.func13 (by kernel_rfl) rfl #[.agg #[.slice A0_0 l0_0.length c0_0, .int .i64 a0_1]] rfl (by (try simp only [List.map_toArray, List.map_cons, List.map_nil]); first | done | rfl) ?_; (with_reducible refine (laws_toStore.calls k _ _ l0_0 a0_1 t31 t32 _ ?side1 ?side2 A33.out).mono ?_); (case side1 => exact Kd.C_below HR0_0.out (below_step HB.out (by repeat (first | (with_reducible first | exact HX.out | apply below_alloc | apply pw_below_drewN | apply below_drew1) | exact HX.out)))); (case side2 => exact HC0_0.out); rintro e w34 ⟨vt31, rfl, ho0, hb⟩; refine ⟨_, rfl, ?_⟩; have hbt := below_step (by repeat (first | (with_reducible first | exact HX.out | apply below_alloc | apply pw_below_drewN | apply below_drew1) | exact HX.out)) hb; obtain ⟨lo35, hi35, hl_, hh_, hc_⟩ := lw6_iv (Nat.le_trans HN.out (below_size (by repeat (first | (with_reducible first | exact HX.out | apply below_alloc | apply pw_below_drewN | apply below_drew1) | exact HX.out)))) hb.size; have CHlo35 := Aside0.mk (show hi26 ≤ lo35 ∧ lo35 ≤ hi35 from hc_); clear hc_; have n0_ := Aside0.mk (blk_below (g := gb1) BK3.out hbt); have n1_ := Aside0.mk (Kd.S_below HO18.out hbt); have n2_ := Aside0.mk (Kd.R_below HO27.out hbt); have n3_ := Aside0.mk (Kd.S_mono (ok' := fun k_ => lo35 ≤ k_ ∧ k_ < hi35) (Kd.S_lower (Kd.S_bound ho0) (below_size (below_step HB.out (by repeat (first | (with_reducible first | exact HX.out | apply below_alloc | apply pw_below_drewN | apply below_drew1) | exact HX.out))))) (fun k_ hk_ => ⟨by rw [hl_]; exact hk_.2.1, by rw [hh_]; exact hk_.2.2.1⟩)); have n4_ := Aside0.mk (Below.refl w34.heap.size w34); have n5_ := Aside0.mk (below_step HB.out hbt); have n6_ := Aside0.mk ((show hi35 ≤ w34.heap.size from Nat.le_of_eq hh_)); clear BK3 HO18 HO27 HX HB HN; have BK3 := n0_; have HO18 := n1_; have HO27 := n2_; have HO36 := n3_; have HX := n4_; have HB := n5_; have HN := n6_; clear n0_ n1_ n2_ n3_ n4_ n5_ n6_; (try clear hb); (try clear hbt); (try clear hkt); (try clear hkp); (try clear hb0); (try clear hp_); (try clear hl_); (try clear hh_); (try clear hd_); (try clear ho0); obtain ⟨Aoo37, coo37, eoo37⟩ := Kd.S_slice HO36.out; (first | subst eoo37 | (injection eoo37 with f1_ f2_ f3_; have f4_ := f1_.symm; have f5_ := f3_.symm; clear f1_ f2_ f3_; subst f4_; subst f5_)); have hcz38 : w34.cell? ⟨gb1, 0, none⟩ = some (.slice A0_0 l0_0.length c0_0) := (blk_cell BK3.out 0).trans rfl; have hcz39 : w34.cell? ⟨gb1, 1, none⟩ = some (.int .i64 a0_1) := (blk_cell BK3.out 1).trans rfl) | ((with_reducible refine gate_dst (N := 8) rfl ?_); refine box_event ?hg (N := 8) ?hd (cs := #[.slice none 0 0, .int .i64 0]) (t := 29) ?hr ?_; (case hd => rfl); (case hg => rfl); (case hr => first | (go_simp; done) | (go_simp; rfl)); intro gb40 hg w41 hbox hb; have GEgb40 := Aside0.mk (by rw [hg]; exact (below_size (by repeat (first | (with_reducible first | exact HX.out | apply below_alloc | apply pw_below_drewN | apply below_drew1) | exact HX.out))) : _ ≤ gb40); have BK42r := Aside0.mk hbox; have n0_ := Aside0.mk (below_step (by repeat (first | (with_reducible first | exact HX.out | apply below_alloc | apply pw_below_drewN | apply below_drew1) | exact HX.out)) hb); have hnb43 : gb40 ≠ gb1 := (fun e_ => by have z1_ := GEgb40.out; have z2_ := blk_lt BK3.out; omega); have hnb43c : gb1 ≠ gb40 := fun e_ => hnb43 e_.symm; clear HX; have HX := n0_; clear n0_ hb hg; have hcz44 : w41.cell? ⟨gb40, 0, none⟩ = some (.slice none 0 0) := (blk_cell BK42r.out 0).trans rfl; have hfz45 := blk_frozen BK42r.out 0; have hcz46 : w41.cell? ⟨gb40, 1, none⟩ = some (.int .i64 0) := (blk_cell BK42r.out 1).trans rfl; have hfz47 := blk_frozen BK42r.out 1; have hcz48 : w41.cell? ⟨gb1, 0, none⟩ = some (.slice A0_0 l0_0.length c0_0) := (blk_cell (blk_below (g := gb1) BK3.out HX.out) 0).trans rfl; have hcz49 : w41.cell? ⟨gb1, 1, none⟩ = some (.int .i64 a0_1) := (blk_cell (blk_below (g := gb1) BK3.out HX.out) 1).trans rfl; clear hbox) | ((with_reducible refine gate_callee (f := 21) rfl ?_); refine goesL_ (some 33) rfl rfl Try.func21 (by kernel_rfl) rfl #[.agg #[.slice Aoo37 t31.length coo37, .int .i64 t32], .int .i64 a1] rfl (by (try simp only [List.map_toArray, List.map_cons, List.map_nil]); first | done | rfl) ?_; (with_reducible refine (impl_KeysSince.calls k _ _ t31 t32 a1 t50 t51 _ ?side1 ?side2 A52.out).mono ?_); (case side1 => exact Kd.C_below (Kd.S_reads' HO36.out).2.2 (by repeat (first | (with_reducible first | exact HX.out | apply below_alloc | apply pw_below_drewN | apply below_drew1 | refine below_set ?_ GEgb40.out) | exact HX.out))); (case side2 => have z_ := Kd.S_reads' HO36.out; have y_ := z_.1; have x_ := z_.2.1; omega); rintro e w53 ⟨vt50, rfl, ho0, hb⟩; refine ⟨_, rfl, ?_⟩; have hp_ := lw6_lt (g := gb40) (o := .cells #[.slice Aoo37 t31.length coo37, .int .i64 t32] 29 (0, 0)) hb (by (with_reducible repeat (first | refine blk_drewN ?_ _ | refine blk_drew ?_ | refine blk_alloc ?_ _)); refine blk_put (cs := #[.slice Aoo37 t31.length coo37, .int .i64 0]) ?_ 1 _ rfl; (with_reducible repeat (first | refine blk_drewN ?_ _ | refine blk_drew ?_ | refine blk_alloc ?_ _)); refine blk_put (cs := #[.slice none 0 0, .int .i64 0]) ?_ 0 _ rfl; (with_reducible repeat (first | refine blk_drewN ?_ _ | refine blk_drew ?_ | refine blk_alloc ?_ _)); exact BK42r.out); have CHgb40 := Aside0.mk (show hi35 ≤ gb40 from Nat.le_trans HN.out GEgb40.out); have hbt := below_step (by repeat (first | (with_reducible first | exact HX.out | apply below_alloc | apply pw_below_drewN | apply below_drew1 | refine below_set ?_ GEgb40.out) | exact HX.out)) hb; obtain ⟨lo54, hi54, hl_, hh_, hc_⟩ := lw6_iv (hp_.1) hb.size; have CHlo54 := Aside0.mk (show gb40 + 1 ≤ lo54 ∧ lo54 ≤ hi54 from hc_); clear hc_; have n0_ := Aside0.mk (hp_.2); have n1_ := Aside0.mk (blk_below (g := gb1) BK3.out hbt); have n2_ := Aside0.mk (Kd.S_below HO18.out hbt); have n3_ := Aside0.mk (Kd.R_below HO27.out hbt); have n4_ := Aside0.mk (Kd.S_below HO36.out hbt); have n5_ := Aside0.mk (Kd.R_mono (ok' := fun k_ => lo54 ≤ k_ ∧ k_ < hi54) (Kd.R_lower (Kd.R_bound ho0) (below_size (below_step HB.out (by repeat (first | (with_reducible first | exact HX.out | apply below_alloc | apply pw_below_drewN | apply below_drew1 | refine below_set ?_ GEgb40.out) | exact HX.out))))) (fun k_ hk_ => ⟨by rw [hl_]; exact hk_.2.1, by rw [hh_]; exact hk_.2.2.1⟩)); have n6_ := Aside0.mk (Below.refl w53.heap.size w53); have n7_ := Aside0.mk (below_step HB.out hbt); have n8_ := Aside0.mk ((show hi54 ≤ w53.heap.size from Nat.le_of_eq hh_)); clear BK3 HO18 HO27 HO36 HX HB HN; have BK42 := n0_; have BK3 := n1_; have HO18 := n2_; have HO27 := n3_; have HO36 := n4_; have HO55 := n5_; have HX := n6_; have HB := n7_; have HN := n8_; clear n0_ n1_ n2_ n3_ n4_ n5_ n6_ n7_ n8_; have IVgb40 := Aside0.mk (show gb40 ≤ gb40 ∧ gb40 < gb40 + 1 from ⟨Nat.le_refl _, Nat.lt_succ_self _⟩); (try clear hb); (try clear hbt); (try clear hkt); (try clear hkp); (try clear hb0); (try clear hp_); (try clear hl_); (try clear hh_); (try clear hd_); (try clear ho0); obtain ⟨Aoo56, coo56, eoo56⟩ := Kd.R_slice HO55.out; (first | subst eoo56 | (injection eoo56 with f1_ f2_ f3_; have f4_ := f1_.symm; have f5_ := f3_.symm; clear f1_ f2_ f3_; subst f4_; subst f5_)); have hcz57 : w53.cell? ⟨gb1, 0, none⟩ = some (.slice A0_0 l0_0.length c0_0) := (blk_cell BK3.out 0).trans rfl; have hcz58 : w53.cell? ⟨gb1, 1, none⟩ = some (.int .i64 a0_1) := (blk_cell BK3.out 1).trans rfl; have hcz59 : w53.cell? ⟨gb40, 0, none⟩ = some (.slice Aoo37 t31.length coo37) := (blk_cell BK42.out 0).trans rfl; have hcz60 : w53.cell? ⟨gb40, 1, none⟩ = some (.int .i64 t32) := (blk_cell BK42.out 1).trans rfl) | ((with_reducible refine gate_callee (f := 22) rfl ?_); refine goesL_ (some 38) rfl rfl Try.func22 (by kernel_rfl) rfl #[.slice Aoo56 t50.length coo56, .slice Aoo28 t22.length coo28] rfl (by (try simp only [List.map_toArray, List.map_cons, List.map_nil]); first | done | rfl) ?_; (with_reducible refine (laws_eqIntS.calls k _ _ t50 _ _ t22 true _ ?side1 ?side2 ?side3 ?side4 A62.out).mono ?_); (case side1 => exact Kd.C_below (Kd.R_reads' HO55.out).2.2 (by repeat (first | (with_reducible first | exact HX.out | apply below_alloc | apply pw_below_drewN | apply below_drew1) | exact HX.out))); (case side2 => have z_ := Kd.R_reads' HO55.out; have y_ := z_.1; have x_ := z_.2.1; omega); (case side3 => exact Kd.C_below (Kd.R_reads' HO27.out).2.2 (by repeat (first | (with_reducible first | exact HX.out | apply below_alloc | apply pw_below_drewN | apply below_drew1) | exact HX.out))); (case side4 => have z_ := Kd.R_reads' HO27.out; have y_ := z_.1; have x_ := z_.2.1; omega); rintro e w63 ⟨rfl, hd_⟩; refine ⟨_, rfl, ?_⟩; have hb := hd_.below; have hbt := below_step (by repeat (first | (with_reducible first | exact HX.out | apply below_alloc | apply pw_below_drewN | apply below_drew1) | exact HX.out)) hb; have n0_ := Aside0.mk (blk_below (g := gb1) BK3.out hbt); have n1_ := Aside0.mk (Kd.S_below HO18.out hbt); have n2_ := Aside0.mk (Kd.R_below HO27.out hbt); have n3_ := Aside0.mk (Kd.S_below HO36.out hbt); have n4_ := Aside0.mk (blk_below (g := gb40) BK42.out hbt); have n5_ := Aside0.mk (Kd.R_below HO55.out hbt); have n6_ := Aside0.mk (Below.refl w63.heap.size w63); have n7_ := Aside0.mk (below_step HB.out hbt); have n8_ := Aside0.mk (Nat.le_trans (Nat.le_trans HN.out (below_size (by repeat (first | (with_reducible first | exact HX.out | apply below_alloc | apply pw_below_drewN | apply below_drew1) | exact HX.out)))) hb.size); clear BK3 HO18 HO27 HO36 BK42 HO55 HX HB HN; have BK3 := n0_; have HO18 := n1_; have HO27 := n2_; have HO36 := n3_; have BK42 := n4_; have HO55 := n5_; have HX := n6_; have HB := n7_; have HN := n8_; clear n0_ n1_ n2_ n3_ n4_ n5_ n6_ n7_ n8_; (try clear hb); (try clear hbt); (try clear hkt); (try clear hkp); (try clear hb0); (try clear hp_); (try clear hl_); (try clear hh_); (try clear hd_); have hcz65 : w63.cell? ⟨gb1, 0, none⟩ = some (.slice A0_0 l0_0.length c0_0) := (blk_cell BK3.out 0).trans rfl; have hcz66 : w63.cell? ⟨gb1, 1, none⟩ = some (.int .i64 a0_1) := (blk_cell BK3.out 1).trans rfl; have hcz67 : w63.cell? ⟨gb40, 0, none⟩ = some (.slice Aoo37 t31.length coo37) := (blk_cell BK42.out 0).trans rfl; have hcz68 : w63.cell? ⟨gb40, 1, none⟩ = some (.int .i64 t32) := (blk_cell BK42.out 1).trans rfl))
    try go_wp2
    have hdr_ := Aside0.mk (below_drew1 HX.out)
    refine start_ (n := 5) (S := fun w' => w'.cell? ⟨gb40, 0, none⟩ = some (.slice Aoo37 t31.length coo37) ∧ w'.cell? ⟨gb40, 1, none⟩ = some (.int .i64 t32) ∧ w'.cell? ⟨gb1, 0, none⟩ = some (.slice A0_0 l0_0.length c0_0) ∧ w'.cell? ⟨gb1, 1, none⟩ = some (.int .i64 a0_1)) (ds := []) #[false, false, false, false, false] (by kernel_rfl) rfl rfl ⟨(blk_cell (blk_below (g := gb40) BK42.out hdr_.out) 0).trans rfl, (blk_cell (blk_below (g := gb40) BK42.out hdr_.out) 1).trans rfl, (blk_cell (blk_below (g := gb1) BK3.out hdr_.out) 0).trans rfl, (blk_cell (blk_below (g := gb1) BK3.out hdr_.out) 1).trans rfl⟩ (fun hHeld => ?_)
    generalize w63.drew = w69 at hdr_ hHeld ⊢
    clear HX
    have HX := hdr_
    clear hdr_
    refine take_ (i := 0) (N := some 45) (v := ?_) (a' := ?_) #[true, false, false, false, false] rfl rfl (by kernel_rfl) (fun _ _ _ h => h) (Or.inl ⟨by rfl, ?_⟩) hHeld ?_ ?_
    rotate_left
    · rintro w' ⟨s0, s1, s2, s3⟩
      go_simp
      with_reducible rfl
    rotate_left
    · simp only [Act.put, List.setIfInBounds_toArray, List.set_cons_zero, List.set_cons_succ, i64_w, i32_w]
      rfl
    refine take_ (i := 1) (N := some 46) (v := ?_) (a' := ?_) #[true, true, false, false, false] rfl rfl (by kernel_rfl) (fun _ _ _ h => h) (Or.inl ⟨by rfl, ?_⟩) hHeld ?_ ?_
    rotate_left
    · rintro w' ⟨s0, s1, s2, s3⟩
      go_simp
      with_reducible rfl
    rotate_left
    · simp only [Act.put, List.setIfInBounds_toArray, List.set_cons_zero, List.set_cons_succ, i64_w, i32_w]
      rfl
    refine one_ (i := 2) (N := some 47) #[true, true, true, false, false] rfl rfl (by kernel_rfl) (by decide) (fun K hK => ?_)
    refine goes_ Try.func13 (by kernel_rfl) rfl #[.agg #[.slice A0_0 l0_0.length c0_0, .int .i64 a0_1]] (by rfl) rfl rfl (by (try simp only [List.map_toArray, List.map_cons, List.map_nil]); first | done | rfl) ?_
    (with_reducible refine (laws_toStore.calls k _ _ l0_0 a0_1 t70 t71 _ ?side1 ?side2 A72.out).mono ?_)
    (case side1 => exact Kd.C_below HR0_0.out (below_step HB.out (by repeat (first | (with_reducible first | exact HX.out | apply below_alloc | apply pw_below_drewN | apply below_drew1) | exact HX.out))))
    (case side2 => exact HC0_0.out)
    rintro e w73 ⟨vt70, rfl, ho0, hb⟩
    refine ⟨_, rfl, ?_⟩
    have hbt := below_step (by repeat (first | (with_reducible first | exact HX.out | apply below_alloc | apply pw_below_drewN | apply below_drew1) | exact HX.out)) hb
    obtain ⟨lo74, hi74, hl_, hh_, hc_⟩ := lw6_iv (Nat.le_trans HN.out (below_size (by repeat (first | (with_reducible first | exact HX.out | apply below_alloc | apply pw_below_drewN | apply below_drew1) | exact HX.out)))) hb.size
    have CHlo74 := Aside0.mk (show hi54 ≤ lo74 ∧ lo74 ≤ hi74 from hc_)
    clear hc_
    have n0_ := Aside0.mk (blk_below (g := gb1) BK3.out hbt)
    have n1_ := Aside0.mk (Kd.S_below HO18.out hbt)
    have n2_ := Aside0.mk (Kd.R_below HO27.out hbt)
    have n3_ := Aside0.mk (Kd.S_below HO36.out hbt)
    have n4_ := Aside0.mk (blk_below (g := gb40) BK42.out hbt)
    have n5_ := Aside0.mk (Kd.R_below HO55.out hbt)
    have n6_ := Aside0.mk (Kd.S_mono (ok' := fun k_ => lo74 ≤ k_ ∧ k_ < hi74) (Kd.S_lower (Kd.S_bound ho0) (below_size (below_step HB.out (by repeat (first | (with_reducible first | exact HX.out | apply below_alloc | apply pw_below_drewN | apply below_drew1) | exact HX.out))))) (fun k_ hk_ => ⟨by rw [hl_]; exact hk_.2.1, by rw [hh_]; exact hk_.2.2.1⟩))
    have n7_ := Aside0.mk (Below.refl w73.heap.size w73)
    have n8_ := Aside0.mk (below_step HB.out hbt)
    have n9_ := Aside0.mk ((show hi74 ≤ w73.heap.size from Nat.le_of_eq hh_))
    clear BK3 HO18 HO27 HO36 BK42 HO55 HX HB HN
    have BK3 := n0_
    have HO18 := n1_
    have HO27 := n2_
    have HO36 := n3_
    have BK42 := n4_
    have HO55 := n5_
    have HO75 := n6_
    have HX := n7_
    have HB := n8_
    have HN := n9_
    clear n0_ n1_ n2_ n3_ n4_ n5_ n6_ n7_ n8_ n9_
    (try clear hb)
    (try clear hbt)
    (try clear hkt)
    (try clear hkp)
    (try clear hb0)
    (try clear hp_)
    (try clear hl_)
    (try clear hh_)
    (try clear hd_)
    (try clear ho0)
    obtain ⟨Aoo76, coo76, eoo76⟩ := Kd.S_slice HO75.out
    (first | subst eoo76 | (injection eoo76 with f1_ f2_ f3_; have f4_ := f1_.symm; have f5_ := f3_.symm; clear f1_ f2_ f3_; subst f4_; subst f5_))
    refine hK.out _ _ ⟨(blk_cell BK42.out 0).trans rfl, (blk_cell BK42.out 1).trans rfl, (blk_cell BK3.out 0).trans rfl, (blk_cell BK3.out 1).trans rfl⟩ (fun hHeld => ?_)
    clear hK K
    refine norm_ (a' := ?_) ?_ ?_
    rotate_left
    · show Act.put _ (some 47) _ = _
      simp only [Act.put, List.setIfInBounds_toArray, List.set_cons_zero, List.set_cons_succ, i64_w, i32_w]
      rfl
    refine one_ (i := 3) (N := some 48) #[true, true, true, true, false] rfl rfl (by kernel_rfl) (by decide) (fun K hK => ?_)
    refine goes_ Try.func15 (by kernel_rfl) rfl #[.agg #[.slice Aoo37 t31.length coo37, .int .i64 t32], .agg #[.slice Aoo76 t70.length coo76, .int .i64 t71]] (by rfl) rfl rfl (by (try simp only [List.map_toArray, List.map_cons, List.map_nil]); first | done | rfl) ?_
    (with_reducible refine (laws_eqStore.calls k _ _ t31 t32 _ _ t70 t71 true _ ?side1 ?side2 ?side3 ?side4 A78.out).mono ?_)
    (case side1 => exact Kd.C_below (Kd.S_reads' HO36.out).2.2 (by repeat (first | (with_reducible first | exact HX.out | apply below_alloc | apply pw_below_drewN | apply below_drew1) | exact HX.out)))
    (case side2 => have z_ := Kd.S_reads' HO36.out; have y_ := z_.1; have x_ := z_.2.1; omega)
    (case side3 => exact Kd.C_below (Kd.S_reads' HO75.out).2.2 (by repeat (first | (with_reducible first | exact HX.out | apply below_alloc | apply pw_below_drewN | apply below_drew1) | exact HX.out)))
    (case side4 => have z_ := Kd.S_reads' HO75.out; have y_ := z_.1; have x_ := z_.2.1; omega)
    rintro e w79 ⟨rfl, hb⟩
    refine ⟨_, rfl, ?_⟩
    have hbt := below_step (by repeat (first | (with_reducible first | exact HX.out | apply below_alloc | apply pw_below_drewN | apply below_drew1) | exact HX.out)) hb
    have n0_ := Aside0.mk (blk_below (g := gb1) BK3.out hbt)
    have n1_ := Aside0.mk (Kd.S_below HO18.out hbt)
    have n2_ := Aside0.mk (Kd.R_below HO27.out hbt)
    have n3_ := Aside0.mk (Kd.S_below HO36.out hbt)
    have n4_ := Aside0.mk (blk_below (g := gb40) BK42.out hbt)
    have n5_ := Aside0.mk (Kd.R_below HO55.out hbt)
    have n6_ := Aside0.mk (Kd.S_below HO75.out hbt)
    have n7_ := Aside0.mk (Below.refl w79.heap.size w79)
    have n8_ := Aside0.mk (below_step HB.out hbt)
    have n9_ := Aside0.mk (Nat.le_trans (Nat.le_trans HN.out (below_size (by repeat (first | (with_reducible first | exact HX.out | apply below_alloc | apply pw_below_drewN | apply below_drew1) | exact HX.out)))) hb.size)
    clear BK3 HO18 HO27 HO36 BK42 HO55 HO75 HX HB HN
    have BK3 := n0_
    have HO18 := n1_
    have HO27 := n2_
    have HO36 := n3_
    have BK42 := n4_
    have HO55 := n5_
    have HO75 := n6_
    have HX := n7_
    have HB := n8_
    have HN := n9_
    clear n0_ n1_ n2_ n3_ n4_ n5_ n6_ n7_ n8_ n9_
    (try clear hb)
    (try clear hbt)
    (try clear hkt)
    (try clear hkp)
    (try clear hb0)
    (try clear hp_)
    (try clear hl_)
    (try clear hh_)
    (try clear hd_)
    refine hK.out _ _ ⟨(blk_cell BK42.out 0).trans rfl, (blk_cell BK42.out 1).trans rfl, (blk_cell BK3.out 0).trans rfl, (blk_cell BK3.out 1).trans rfl⟩ (fun hHeld => ?_)
    clear hK K
    refine norm_ (a' := ?_) ?_ ?_
    rotate_left
    · show Act.put _ (some 48) _ = _
      simp only [Act.put, List.setIfInBounds_toArray, List.set_cons_zero, List.set_cons_succ, i64_w, i32_w]
      rfl
    refine pure_ (i := 4) (N := some 49) (v := ?_) (a' := ?_) #[true, true, true, true, true] rfl rfl (by kernel_rfl) (fun _ _ _ h => h) (Or.inl ⟨by rfl, ?_⟩) ?_ ?_
    rotate_left
    · intro w'
      go_simp
      with_reducible rfl
    rotate_left
    · simp only [Act.put, List.setIfInBounds_toArray, List.set_cons_zero, List.set_cons_succ, i64_w, i32_w]
      rfl
    refine done_ (by kernel_rfl) ?_
    have hcz81 : w79.cell? ⟨gb1, 0, none⟩ = some (.slice A0_0 l0_0.length c0_0) := (blk_cell BK3.out 0).trans rfl
    have hcz82 : w79.cell? ⟨gb1, 1, none⟩ = some (.int .i64 a0_1) := (blk_cell BK3.out 1).trans rfl
    have hcz83 : w79.cell? ⟨gb40, 0, none⟩ = some (.slice Aoo37 t31.length coo37) := (blk_cell BK42.out 0).trans rfl
    have hcz84 : w79.cell? ⟨gb40, 1, none⟩ = some (.int .i64 t32) := (blk_cell BK42.out 1).trans rfl
    go_wp2_with (first | ((with_reducible refine gate_callee (f := 23) rfl ?_); refine goesL_ (some 52) rfl rfl Try.func23 (by kernel_rfl) rfl #[.agg #[.slice Aoo37 t31.length coo37, .int .i64 t32], .int .i64 1] rfl (by (try simp only [List.map_toArray, List.map_cons, List.map_nil]); first | done | rfl) ?_; (with_reducible refine (laws_markStore.calls k (fun k_ => lo35 ≤ k_ ∧ k_ < hi35) _ t31 t32 1 t85 t86 w _ ?sB ?s0 A87.out).mono ?_); (case sB => exact below_step HB.out (by repeat (first | (with_reducible first | exact HX.out | apply below_alloc | apply pw_below_drewN | apply below_drew1) | exact HX.out))); (case s0 => exact Kd.S_below HO36.out (by repeat (first | (with_reducible first | exact HX.out | apply below_alloc | apply pw_below_drewN | apply below_drew1) | exact HX.out))); rintro e w88 ⟨rfl, hy0, hb0, hkp⟩; refine ⟨_, rfl, ?_⟩; have hkt := Kept.then_ (Kept.of_below (by repeat (first | (with_reducible first | exact HX.out | apply below_alloc | apply pw_below_drewN | apply below_drew1) | exact HX.out)) (fun k_ => (lo35 ≤ k_ ∧ k_ < hi35))) hkp (fun k_ h_ => .inl h_); have n0_ := Aside0.mk (blk_kept (g := gb1) BK3.out hkt (fun h2_ => (by have h1 := IVgb1.out; have h2 : (lo35 ≤ gb1 ∧ gb1 < hi35) := h2_; have z0_ := CHlo4.out; have z1_ := CHlo17.out; have z2_ := CHlo26.out; have z3_ := CHlo35.out; have z4_ := CHgb40.out; have z5_ := CHlo54.out; have z6_ := CHlo74.out; omega))); have n1_ := Aside0.mk (Kd.S_kept HO18.out hkt (fun k_ h1_ h2_ => (by have h1 : lo17 ≤ k_ ∧ k_ < hi17 := h1_; have h2 : (lo35 ≤ k_ ∧ k_ < hi35) := h2_; have z0_ := CHlo4.out; have z1_ := CHlo17.out; have z2_ := CHlo26.out; have z3_ := CHlo35.out; have z4_ := CHgb40.out; have z5_ := CHlo54.out; have z6_ := CHlo74.out; omega))); have n2_ := Aside0.mk (Kd.R_kept HO27.out hkt (fun k_ h1_ h2_ => (by have h1 : lo26 ≤ k_ ∧ k_ < hi26 := h1_; have h2 : (lo35 ≤ k_ ∧ k_ < hi35) := h2_; have z0_ := CHlo4.out; have z1_ := CHlo17.out; have z2_ := CHlo26.out; have z3_ := CHlo35.out; have z4_ := CHgb40.out; have z5_ := CHlo54.out; have z6_ := CHlo74.out; omega))); have n3_ := Aside0.mk (blk_kept (g := gb40) BK42.out hkt (fun h2_ => (by have h1 := IVgb40.out; have h2 : (lo35 ≤ gb40 ∧ gb40 < hi35) := h2_; have z0_ := CHlo4.out; have z1_ := CHlo17.out; have z2_ := CHlo26.out; have z3_ := CHlo35.out; have z4_ := CHgb40.out; have z5_ := CHlo54.out; have z6_ := CHlo74.out; omega))); have n4_ := Aside0.mk (Kd.R_kept HO55.out hkt (fun k_ h1_ h2_ => (by have h1 : lo54 ≤ k_ ∧ k_ < hi54 := h1_; have h2 : (lo35 ≤ k_ ∧ k_ < hi35) := h2_; have z0_ := CHlo4.out; have z1_ := CHlo17.out; have z2_ := CHlo26.out; have z3_ := CHlo35.out; have z4_ := CHgb40.out; have z5_ := CHlo54.out; have z6_ := CHlo74.out; omega))); have n5_ := Aside0.mk (Kd.S_kept HO75.out hkt (fun k_ h1_ h2_ => (by have h1 : lo74 ≤ k_ ∧ k_ < hi74 := h1_; have h2 : (lo35 ≤ k_ ∧ k_ < hi35) := h2_; have z0_ := CHlo4.out; have z1_ := CHlo17.out; have z2_ := CHlo26.out; have z3_ := CHlo35.out; have z4_ := CHgb40.out; have z5_ := CHlo54.out; have z6_ := CHlo74.out; omega))); have n6_ := Aside0.mk ((show Kd.S (Kd.slice 61 k61) 59 w88 w.heap.size (fun _ => True) (.slice Aoo37 t31.length coo37) t86 from Kd.S_mono hy0 (fun _ _ => trivial))); have n7_ := Aside0.mk (Below.refl w88.heap.size w88); have n8_ := Aside0.mk (hb0); have n9_ := Aside0.mk (Nat.le_trans HN.out hkt.1); clear BK3 HO18 HO27 HO36 BK42 HO55 HO75 HX HB HN; have BK3 := n0_; have HO18 := n1_; have HO27 := n2_; have BK42 := n3_; have HO55 := n4_; have HO75 := n5_; have HO36 := n6_; have HX := n7_; have HB := n8_; have HN := n9_; clear n0_ n1_ n2_ n3_ n4_ n5_ n6_ n7_ n8_ n9_; (try clear hb); (try clear hbt); (try clear hkt); (try clear hkp); (try clear hb0); (try clear hp_); (try clear hl_); (try clear hh_); (try clear hd_); (try clear hy0); have LEN89 := Aside0.mk (Kd.S_reads' HO36.out).1; have hcz90 : w88.cell? ⟨gb1, 0, none⟩ = some (.slice A0_0 l0_0.length c0_0) := (blk_cell BK3.out 0).trans rfl; have hcz91 : w88.cell? ⟨gb1, 1, none⟩ = some (.int .i64 a0_1) := (blk_cell BK3.out 1).trans rfl; have hcz92 : w88.cell? ⟨gb40, 0, none⟩ = some (.slice Aoo37 t31.length coo37) := (blk_cell BK42.out 0).trans rfl; have hcz93 : w88.cell? ⟨gb40, 1, none⟩ = some (.int .i64 t32) := (blk_cell BK42.out 1).trans rfl) | (go_at_call 22; (with_reducible refine (laws_eqIntS.calls k _ _ t50 _ _ t22 true _ ?side1 ?side2 ?side3 ?side4 A95.out).mono ?_); (case side1 => exact Kd.C_below (Kd.R_reads' HO55.out).2.2 (by repeat (first | (with_reducible first | exact HX.out | apply below_alloc | apply pw_below_drewN | apply below_drew1) | exact HX.out))); (case side2 => have z_ := Kd.R_reads' HO55.out; have y_ := z_.1; have x_ := z_.2.1; omega); (case side3 => exact Kd.C_below (Kd.R_reads' HO27.out).2.2 (by repeat (first | (with_reducible first | exact HX.out | apply below_alloc | apply pw_below_drewN | apply below_drew1) | exact HX.out))); (case side4 => have z_ := Kd.R_reads' HO27.out; have y_ := z_.1; have x_ := z_.2.1; omega); rintro e w96 ⟨rfl, hd_⟩; have hb := hd_.below; have hbt := below_step (by repeat (first | (with_reducible first | exact HX.out | apply below_alloc | apply pw_below_drewN | apply below_drew1) | exact HX.out)) hb; have n0_ := Aside0.mk (blk_below (g := gb1) BK3.out hbt); have n1_ := Aside0.mk (Kd.S_below HO18.out hbt); have n2_ := Aside0.mk (Kd.R_below HO27.out hbt); have n3_ := Aside0.mk (Kd.S_below HO36.out hbt); have n4_ := Aside0.mk (blk_below (g := gb40) BK42.out hbt); have n5_ := Aside0.mk (Kd.R_below HO55.out hbt); have n6_ := Aside0.mk (Kd.S_below HO75.out hbt); have n7_ := Aside0.mk (Below.refl w96.heap.size w96); have n8_ := Aside0.mk (below_step HB.out hbt); have n9_ := Aside0.mk (Nat.le_trans (Nat.le_trans HN.out (below_size (by repeat (first | (with_reducible first | exact HX.out | apply below_alloc | apply pw_below_drewN | apply below_drew1) | exact HX.out)))) hb.size); clear BK3 HO18 HO27 HO36 BK42 HO55 HO75 HX HB HN; have BK3 := n0_; have HO18 := n1_; have HO27 := n2_; have HO36 := n3_; have BK42 := n4_; have HO55 := n5_; have HO75 := n6_; have HX := n7_; have HB := n8_; have HN := n9_; clear n0_ n1_ n2_ n3_ n4_ n5_ n6_ n7_ n8_ n9_; (try clear hb); (try clear hbt); (try clear hkt); (try clear hkp); (try clear hb0); (try clear hp_); (try clear hl_); (try clear hh_); (try clear hd_); have hcz98 : w96.cell? ⟨gb1, 0, none⟩ = some (.slice A0_0 l0_0.length c0_0) := (blk_cell BK3.out 0).trans rfl; have hcz99 : w96.cell? ⟨gb1, 1, none⟩ = some (.int .i64 a0_1) := (blk_cell BK3.out 1).trans rfl; have hcz100 : w96.cell? ⟨gb40, 0, none⟩ = some (.slice Aoo37 t31.length coo37) := (blk_cell BK42.out 0).trans rfl; have hcz101 : w96.cell? ⟨gb40, 1, none⟩ = some (.int .i64 t32) := (blk_cell BK42.out 1).trans rfl) | ((with_reducible refine gate_callee (f := 24) rfl ?_); refine goesL_ (some 68) rfl rfl Try.func24 (by kernel_rfl) rfl #[.slice Aoo56 t50.length coo56, .int .i64 1] rfl (by (try simp only [List.map_toArray, List.map_cons, List.map_nil]); first | done | rfl) ?_; (with_reducible refine (laws_markIntS.calls k (fun k_ => lo54 ≤ k_ ∧ k_ < hi54) _ t50 1 t102 t103 w _ ?sB ?s0 A104.out).mono ?_); (case sB => exact below_step HB.out (by repeat (first | (with_reducible first | exact HX.out | apply below_alloc | apply pw_below_drewN | apply below_drew1) | exact HX.out))); (case s0 => exact Kd.R_below HO55.out (by repeat (first | (with_reducible first | exact HX.out | apply below_alloc | apply pw_below_drewN | apply below_drew1) | exact HX.out))); rintro e w105 ⟨rfl, hy0, hb0, hkp⟩; refine ⟨_, rfl, ?_⟩; have hkt := Kept.then_ (Kept.of_below (by repeat (first | (with_reducible first | exact HX.out | apply below_alloc | apply pw_below_drewN | apply below_drew1) | exact HX.out)) (fun k_ => (lo54 ≤ k_ ∧ k_ < hi54))) hkp (fun k_ h_ => .inl h_); clear HO36; have n0_ := Aside0.mk (blk_kept (g := gb1) BK3.out hkt (fun h2_ => (by have h1 := IVgb1.out; have h2 : (lo54 ≤ gb1 ∧ gb1 < hi54) := h2_; have z0_ := CHlo4.out; have z1_ := CHlo17.out; have z2_ := CHlo26.out; have z3_ := CHlo35.out; have z4_ := CHgb40.out; have z5_ := CHlo54.out; have z6_ := CHlo74.out; omega))); have n1_ := Aside0.mk (Kd.S_kept HO18.out hkt (fun k_ h1_ h2_ => (by have h1 : lo17 ≤ k_ ∧ k_ < hi17 := h1_; have h2 : (lo54 ≤ k_ ∧ k_ < hi54) := h2_; have z0_ := CHlo4.out; have z1_ := CHlo17.out; have z2_ := CHlo26.out; have z3_ := CHlo35.out; have z4_ := CHgb40.out; have z5_ := CHlo54.out; have z6_ := CHlo74.out; omega))); have n2_ := Aside0.mk (Kd.R_kept HO27.out hkt (fun k_ h1_ h2_ => (by have h1 : lo26 ≤ k_ ∧ k_ < hi26 := h1_; have h2 : (lo54 ≤ k_ ∧ k_ < hi54) := h2_; have z0_ := CHlo4.out; have z1_ := CHlo17.out; have z2_ := CHlo26.out; have z3_ := CHlo35.out; have z4_ := CHgb40.out; have z5_ := CHlo54.out; have z6_ := CHlo74.out; omega))); have n3_ := Aside0.mk (blk_kept (g := gb40) BK42.out hkt (fun h2_ => (by have h1 := IVgb40.out; have h2 : (lo54 ≤ gb40 ∧ gb40 < hi54) := h2_; have z0_ := CHlo4.out; have z1_ := CHlo17.out; have z2_ := CHlo26.out; have z3_ := CHlo35.out; have z4_ := CHgb40.out; have z5_ := CHlo54.out; have z6_ := CHlo74.out; omega))); have n4_ := Aside0.mk (Kd.S_kept HO75.out hkt (fun k_ h1_ h2_ => (by have h1 : lo74 ≤ k_ ∧ k_ < hi74 := h1_; have h2 : (lo54 ≤ k_ ∧ k_ < hi54) := h2_; have z0_ := CHlo4.out; have z1_ := CHlo17.out; have z2_ := CHlo26.out; have z3_ := CHlo35.out; have z4_ := CHgb40.out; have z5_ := CHlo54.out; have z6_ := CHlo74.out; omega))); have n5_ := Aside0.mk ((show Kd.R (Kd.int .i64) 3 w105 w.heap.size (fun _ => True) (.slice Aoo56 t50.length coo56) t103 from Kd.R_mono hy0 (fun _ _ => trivial))); have n6_ := Aside0.mk (Below.refl w105.heap.size w105); have n7_ := Aside0.mk (hb0); have n8_ := Aside0.mk (Nat.le_trans HN.out hkt.1); clear BK3 HO18 HO27 BK42 HO55 HO75 HX HB HN; have BK3 := n0_; have HO18 := n1_; have HO27 := n2_; have BK42 := n3_; have HO75 := n4_; have HO55 := n5_; have HX := n6_; have HB := n7_; have HN := n8_; clear n0_ n1_ n2_ n3_ n4_ n5_ n6_ n7_ n8_; (try clear hb); (try clear hbt); (try clear hkt); (try clear hkp); (try clear hb0); (try clear hp_); (try clear hl_); (try clear hh_); (try clear hd_); (try clear hy0); have LEN106 := Aside0.mk (Kd.R_reads' HO55.out).1; have hcz107 : w105.cell? ⟨gb1, 0, none⟩ = some (.slice A0_0 l0_0.length c0_0) := (blk_cell BK3.out 0).trans rfl; have hcz108 : w105.cell? ⟨gb1, 1, none⟩ = some (.int .i64 a0_1) := (blk_cell BK3.out 1).trans rfl; have hcz109 : w105.cell? ⟨gb40, 0, none⟩ = some (.slice Aoo37 t31.length coo37) := (blk_cell BK42.out 0).trans rfl; have hcz110 : w105.cell? ⟨gb40, 1, none⟩ = some (.int .i64 t32) := (blk_cell BK42.out 1).trans rfl) | ((with_reducible refine gate_callee (f := 25) rfl ?_); refine goesL_ (some 71) rfl rfl Try.func25 (by kernel_rfl) rfl #[.slice Aoo56 t103.length coo56, .int .i64 1] rfl (by (try simp only [List.map_toArray, List.map_cons, List.map_nil]); first | done | rfl | (simp only [LEN106.out]; rfl)) ?_; (with_reducible refine (laws_heldIntS.calls k _ _ t103 1 t111 _ ?side1 ?side2 A112.out).mono ?_); (case side1 => exact Kd.C_below (Kd.R_reads' HO55.out).2.2 (by repeat (first | (with_reducible first | exact HX.out | apply below_alloc | apply pw_below_drewN | apply below_drew1) | exact HX.out))); (case side2 => have z_ := Kd.R_reads' HO55.out; have y_ := z_.1; have x_ := z_.2.1; omega); rintro e w113 ⟨rfl, hd_⟩; refine ⟨_, rfl, ?_⟩; have hb := hd_.below; have hbt := below_step (by repeat (first | (with_reducible first | exact HX.out | apply below_alloc | apply pw_below_drewN | apply below_drew1) | exact HX.out)) hb; have n0_ := Aside0.mk (blk_below (g := gb1) BK3.out hbt); have n1_ := Aside0.mk (Kd.S_below HO18.out hbt); have n2_ := Aside0.mk (Kd.R_below HO27.out hbt); have n3_ := Aside0.mk (blk_below (g := gb40) BK42.out hbt); have n4_ := Aside0.mk (Kd.R_below HO55.out hbt); have n5_ := Aside0.mk (Kd.S_below HO75.out hbt); have n6_ := Aside0.mk (Below.refl w113.heap.size w113); have n7_ := Aside0.mk (below_step HB.out hbt); have n8_ := Aside0.mk (Nat.le_trans (Nat.le_trans HN.out (below_size (by repeat (first | (with_reducible first | exact HX.out | apply below_alloc | apply pw_below_drewN | apply below_drew1) | exact HX.out)))) hb.size); clear BK3 HO18 HO27 BK42 HO55 HO75 HX HB HN; have BK3 := n0_; have HO18 := n1_; have HO27 := n2_; have BK42 := n3_; have HO55 := n4_; have HO75 := n5_; have HX := n6_; have HB := n7_; have HN := n8_; clear n0_ n1_ n2_ n3_ n4_ n5_ n6_ n7_ n8_; (try clear hb); (try clear hbt); (try clear hkt); (try clear hkp); (try clear hb0); (try clear hp_); (try clear hl_); (try clear hh_); (try clear hd_); have hcz115 : w113.cell? ⟨gb1, 0, none⟩ = some (.slice A0_0 l0_0.length c0_0) := (blk_cell BK3.out 0).trans rfl; have hcz116 : w113.cell? ⟨gb1, 1, none⟩ = some (.int .i64 a0_1) := (blk_cell BK3.out 1).trans rfl; have hcz117 : w113.cell? ⟨gb40, 0, none⟩ = some (.slice Aoo37 t31.length coo37) := (blk_cell BK42.out 0).trans rfl; have hcz118 : w113.cell? ⟨gb40, 1, none⟩ = some (.int .i64 t32) := (blk_cell BK42.out 1).trans rfl) | ((with_reducible refine gate_callee (f := 13) rfl ?_); refine goesL_ (some 79) rfl rfl Try.func13 (by kernel_rfl) rfl #[.agg #[.slice A0_0 l0_0.length c0_0, .int .i64 a0_1]] rfl (by (try simp only [List.map_toArray, List.map_cons, List.map_nil]); first | done | rfl) ?_; (with_reducible refine (laws_toStore.calls k _ _ l0_0 a0_1 t119 t120 _ ?side1 ?side2 A121.out).mono ?_); (case side1 => exact Kd.C_below HR0_0.out (below_step HB.out (by repeat (first | (with_reducible first | exact HX.out | apply below_alloc | apply pw_below_drewN | apply below_drew1) | exact HX.out)))); (case side2 => exact HC0_0.out); rintro e w122 ⟨vt119, rfl, ho0, hb⟩; refine ⟨_, rfl, ?_⟩; have hbt := below_step (by repeat (first | (with_reducible first | exact HX.out | apply below_alloc | apply pw_below_drewN | apply below_drew1) | exact HX.out)) hb; obtain ⟨lo123, hi123, hl_, hh_, hc_⟩ := lw6_iv (Nat.le_trans HN.out (below_size (by repeat (first | (with_reducible first | exact HX.out | apply below_alloc | apply pw_below_drewN | apply below_drew1) | exact HX.out)))) hb.size; have CHlo123 := Aside0.mk (show hi74 ≤ lo123 ∧ lo123 ≤ hi123 from hc_); clear hc_; have n0_ := Aside0.mk (blk_below (g := gb1) BK3.out hbt); have n1_ := Aside0.mk (Kd.S_below HO18.out hbt); have n2_ := Aside0.mk (Kd.R_below HO27.out hbt); have n3_ := Aside0.mk (blk_below (g := gb40) BK42.out hbt); have n4_ := Aside0.mk (Kd.R_below HO55.out hbt); have n5_ := Aside0.mk (Kd.S_below HO75.out hbt); have n6_ := Aside0.mk (Kd.S_mono (ok' := fun k_ => lo123 ≤ k_ ∧ k_ < hi123) (Kd.S_lower (Kd.S_bound ho0) (below_size (below_step HB.out (by repeat (first | (with_reducible first | exact HX.out | apply below_alloc | apply pw_below_drewN | apply below_drew1) | exact HX.out))))) (fun k_ hk_ => ⟨by rw [hl_]; exact hk_.2.1, by rw [hh_]; exact hk_.2.2.1⟩)); have n7_ := Aside0.mk (Below.refl w122.heap.size w122); have n8_ := Aside0.mk (below_step HB.out hbt); have n9_ := Aside0.mk ((show hi123 ≤ w122.heap.size from Nat.le_of_eq hh_)); clear BK3 HO18 HO27 BK42 HO55 HO75 HX HB HN; have BK3 := n0_; have HO18 := n1_; have HO27 := n2_; have BK42 := n3_; have HO55 := n4_; have HO75 := n5_; have HO124 := n6_; have HX := n7_; have HB := n8_; have HN := n9_; clear n0_ n1_ n2_ n3_ n4_ n5_ n6_ n7_ n8_ n9_; (try clear hb); (try clear hbt); (try clear hkt); (try clear hkp); (try clear hb0); (try clear hp_); (try clear hl_); (try clear hh_); (try clear hd_); (try clear ho0); obtain ⟨Aoo125, coo125, eoo125⟩ := Kd.S_slice HO124.out; (first | subst eoo125 | (injection eoo125 with f1_ f2_ f3_; have f4_ := f1_.symm; have f5_ := f3_.symm; clear f1_ f2_ f3_; subst f4_; subst f5_)); have hcz126 : w122.cell? ⟨gb1, 0, none⟩ = some (.slice A0_0 l0_0.length c0_0) := (blk_cell BK3.out 0).trans rfl; have hcz127 : w122.cell? ⟨gb1, 1, none⟩ = some (.int .i64 a0_1) := (blk_cell BK3.out 1).trans rfl; have hcz128 : w122.cell? ⟨gb40, 0, none⟩ = some (.slice Aoo37 t31.length coo37) := (blk_cell BK42.out 0).trans rfl; have hcz129 : w122.cell? ⟨gb40, 1, none⟩ = some (.int .i64 t32) := (blk_cell BK42.out 1).trans rfl) | ((with_reducible refine gate_callee (f := 21) rfl ?_); refine goesL_ (some 81) rfl rfl Try.func21 (by kernel_rfl) rfl #[.agg #[.slice Aoo125 t119.length coo125, .int .i64 t120], .int .i64 a1] rfl (by (try simp only [List.map_toArray, List.map_cons, List.map_nil]); first | done | rfl) ?_; (with_reducible refine (impl_KeysSince.calls k _ _ t119 t120 a1 t130 t131 _ ?side1 ?side2 A132.out).mono ?_); (case side1 => exact Kd.C_below (Kd.S_reads' HO124.out).2.2 (by repeat (first | (with_reducible first | exact HX.out | apply below_alloc | apply pw_below_drewN | apply below_drew1) | exact HX.out))); (case side2 => have z_ := Kd.S_reads' HO124.out; have y_ := z_.1; have x_ := z_.2.1; omega); rintro e w133 ⟨vt130, rfl, ho0, hb⟩; refine ⟨_, rfl, ?_⟩; have hbt := below_step (by repeat (first | (with_reducible first | exact HX.out | apply below_alloc | apply pw_below_drewN | apply below_drew1) | exact HX.out)) hb; obtain ⟨lo134, hi134, hl_, hh_, hc_⟩ := lw6_iv (Nat.le_trans HN.out (below_size (by repeat (first | (with_reducible first | exact HX.out | apply below_alloc | apply pw_below_drewN | apply below_drew1) | exact HX.out)))) hb.size; have CHlo134 := Aside0.mk (show hi123 ≤ lo134 ∧ lo134 ≤ hi134 from hc_); clear hc_; have n0_ := Aside0.mk (blk_below (g := gb1) BK3.out hbt); have n1_ := Aside0.mk (Kd.S_below HO18.out hbt); have n2_ := Aside0.mk (Kd.R_below HO27.out hbt); have n3_ := Aside0.mk (blk_below (g := gb40) BK42.out hbt); have n4_ := Aside0.mk (Kd.R_below HO55.out hbt); have n5_ := Aside0.mk (Kd.S_below HO75.out hbt); have n6_ := Aside0.mk (Kd.S_below HO124.out hbt); have n7_ := Aside0.mk (Kd.R_mono (ok' := fun k_ => lo134 ≤ k_ ∧ k_ < hi134) (Kd.R_lower (Kd.R_bound ho0) (below_size (below_step HB.out (by repeat (first | (with_reducible first | exact HX.out | apply below_alloc | apply pw_below_drewN | apply below_drew1) | exact HX.out))))) (fun k_ hk_ => ⟨by rw [hl_]; exact hk_.2.1, by rw [hh_]; exact hk_.2.2.1⟩)); have n8_ := Aside0.mk (Below.refl w133.heap.size w133); have n9_ := Aside0.mk (below_step HB.out hbt); have n10_ := Aside0.mk ((show hi134 ≤ w133.heap.size from Nat.le_of_eq hh_)); clear BK3 HO18 HO27 BK42 HO55 HO75 HO124 HX HB HN; have BK3 := n0_; have HO18 := n1_; have HO27 := n2_; have BK42 := n3_; have HO55 := n4_; have HO75 := n5_; have HO124 := n6_; have HO135 := n7_; have HX := n8_; have HB := n9_; have HN := n10_; clear n0_ n1_ n2_ n3_ n4_ n5_ n6_ n7_ n8_ n9_ n10_; (try clear hb); (try clear hbt); (try clear hkt); (try clear hkp); (try clear hb0); (try clear hp_); (try clear hl_); (try clear hh_); (try clear hd_); (try clear ho0); obtain ⟨Aoo136, coo136, eoo136⟩ := Kd.R_slice HO135.out; (first | subst eoo136 | (injection eoo136 with f1_ f2_ f3_; have f4_ := f1_.symm; have f5_ := f3_.symm; clear f1_ f2_ f3_; subst f4_; subst f5_)); have hcz137 : w133.cell? ⟨gb1, 0, none⟩ = some (.slice A0_0 l0_0.length c0_0) := (blk_cell BK3.out 0).trans rfl; have hcz138 : w133.cell? ⟨gb1, 1, none⟩ = some (.int .i64 a0_1) := (blk_cell BK3.out 1).trans rfl; have hcz139 : w133.cell? ⟨gb40, 0, none⟩ = some (.slice Aoo37 t31.length coo37) := (blk_cell BK42.out 0).trans rfl; have hcz140 : w133.cell? ⟨gb40, 1, none⟩ = some (.int .i64 t32) := (blk_cell BK42.out 1).trans rfl) | ((with_reducible refine gate_callee (f := 22) rfl ?_); refine goesL_ (some 86) rfl rfl Try.func22 (by kernel_rfl) rfl #[.slice Aoo136 t130.length coo136, .slice Aoo28 t22.length coo28] rfl (by (try simp only [List.map_toArray, List.map_cons, List.map_nil]); first | done | rfl) ?_; (with_reducible refine (laws_eqIntS.calls k _ _ t130 _ _ t22 true _ ?side1 ?side2 ?side3 ?side4 A142.out).mono ?_); (case side1 => exact Kd.C_below (Kd.R_reads' HO135.out).2.2 (by repeat (first | (with_reducible first | exact HX.out | apply below_alloc | apply pw_below_drewN | apply below_drew1) | exact HX.out))); (case side2 => have z_ := Kd.R_reads' HO135.out; have y_ := z_.1; have x_ := z_.2.1; omega); (case side3 => exact Kd.C_below (Kd.R_reads' HO27.out).2.2 (by repeat (first | (with_reducible first | exact HX.out | apply below_alloc | apply pw_below_drewN | apply below_drew1) | exact HX.out))); (case side4 => have z_ := Kd.R_reads' HO27.out; have y_ := z_.1; have x_ := z_.2.1; omega); rintro e w143 ⟨rfl, hd_⟩; refine ⟨_, rfl, ?_⟩; have hb := hd_.below; have hbt := below_step (by repeat (first | (with_reducible first | exact HX.out | apply below_alloc | apply pw_below_drewN | apply below_drew1) | exact HX.out)) hb; have n0_ := Aside0.mk (blk_below (g := gb1) BK3.out hbt); have n1_ := Aside0.mk (Kd.S_below HO18.out hbt); have n2_ := Aside0.mk (Kd.R_below HO27.out hbt); have n3_ := Aside0.mk (blk_below (g := gb40) BK42.out hbt); have n4_ := Aside0.mk (Kd.R_below HO55.out hbt); have n5_ := Aside0.mk (Kd.S_below HO75.out hbt); have n6_ := Aside0.mk (Kd.S_below HO124.out hbt); have n7_ := Aside0.mk (Kd.R_below HO135.out hbt); have n8_ := Aside0.mk (Below.refl w143.heap.size w143); have n9_ := Aside0.mk (below_step HB.out hbt); have n10_ := Aside0.mk (Nat.le_trans (Nat.le_trans HN.out (below_size (by repeat (first | (with_reducible first | exact HX.out | apply below_alloc | apply pw_below_drewN | apply below_drew1) | exact HX.out)))) hb.size); clear BK3 HO18 HO27 BK42 HO55 HO75 HO124 HO135 HX HB HN; have BK3 := n0_; have HO18 := n1_; have HO27 := n2_; have BK42 := n3_; have HO55 := n4_; have HO75 := n5_; have HO124 := n6_; have HO135 := n7_; have HX := n8_; have HB := n9_; have HN := n10_; clear n0_ n1_ n2_ n3_ n4_ n5_ n6_ n7_ n8_ n9_ n10_; (try clear hb); (try clear hbt); (try clear hkt); (try clear hkp); (try clear hb0); (try clear hp_); (try clear hl_); (try clear hh_); (try clear hd_); have hcz145 : w143.cell? ⟨gb1, 0, none⟩ = some (.slice A0_0 l0_0.length c0_0) := (blk_cell BK3.out 0).trans rfl; have hcz146 : w143.cell? ⟨gb1, 1, none⟩ = some (.int .i64 a0_1) := (blk_cell BK3.out 1).trans rfl; have hcz147 : w143.cell? ⟨gb40, 0, none⟩ = some (.slice Aoo37 t31.length coo37) := (blk_cell BK42.out 0).trans rfl; have hcz148 : w143.cell? ⟨gb40, 1, none⟩ = some (.int .i64 t32) := (blk_cell BK42.out 1).trans rfl) | ((with_reducible refine gate_callee (f := 25) rfl ?_); refine goesL_ (some 95) rfl rfl Try.func25 (by kernel_rfl) rfl #[.slice Aoo56 t103.length coo56, .int .i64 1] rfl (by (try simp only [List.map_toArray, List.map_cons, List.map_nil]); first | done | rfl | (simp only [LEN106.out]; rfl)) ?_; (with_reducible refine (laws_heldIntS.calls k _ _ t103 1 t149 _ ?side1 ?side2 A150.out).mono ?_); (case side1 => exact Kd.C_below (Kd.R_reads' HO55.out).2.2 (by repeat (first | (with_reducible first | exact HX.out | apply below_alloc | apply pw_below_drewN | apply below_drew1) | exact HX.out))); (case side2 => have z_ := Kd.R_reads' HO55.out; have y_ := z_.1; have x_ := z_.2.1; omega); rintro e w151 ⟨rfl, hd_⟩; refine ⟨_, rfl, ?_⟩; have hb := hd_.below; have hbt := below_step (by repeat (first | (with_reducible first | exact HX.out | apply below_alloc | apply pw_below_drewN | apply below_drew1) | exact HX.out)) hb; have n0_ := Aside0.mk (blk_below (g := gb1) BK3.out hbt); have n1_ := Aside0.mk (Kd.S_below HO18.out hbt); have n2_ := Aside0.mk (Kd.R_below HO27.out hbt); have n3_ := Aside0.mk (blk_below (g := gb40) BK42.out hbt); have n4_ := Aside0.mk (Kd.R_below HO55.out hbt); have n5_ := Aside0.mk (Kd.S_below HO75.out hbt); have n6_ := Aside0.mk (Kd.S_below HO124.out hbt); have n7_ := Aside0.mk (Kd.R_below HO135.out hbt); have n8_ := Aside0.mk (Below.refl w151.heap.size w151); have n9_ := Aside0.mk (below_step HB.out hbt); have n10_ := Aside0.mk (Nat.le_trans (Nat.le_trans HN.out (below_size (by repeat (first | (with_reducible first | exact HX.out | apply below_alloc | apply pw_below_drewN | apply below_drew1) | exact HX.out)))) hb.size); clear BK3 HO18 HO27 BK42 HO55 HO75 HO124 HO135 HX HB HN; have BK3 := n0_; have HO18 := n1_; have HO27 := n2_; have BK42 := n3_; have HO55 := n4_; have HO75 := n5_; have HO124 := n6_; have HO135 := n7_; have HX := n8_; have HB := n9_; have HN := n10_; clear n0_ n1_ n2_ n3_ n4_ n5_ n6_ n7_ n8_ n9_ n10_; (try clear hb); (try clear hbt); (try clear hkt); (try clear hkp); (try clear hb0); (try clear hp_); (try clear hl_); (try clear hh_); (try clear hd_); have hcz153 : w151.cell? ⟨gb1, 0, none⟩ = some (.slice A0_0 l0_0.length c0_0) := (blk_cell BK3.out 0).trans rfl; have hcz154 : w151.cell? ⟨gb1, 1, none⟩ = some (.int .i64 a0_1) := (blk_cell BK3.out 1).trans rfl; have hcz155 : w151.cell? ⟨gb40, 0, none⟩ = some (.slice Aoo37 t31.length coo37) := (blk_cell BK42.out 0).trans rfl; have hcz156 : w151.cell? ⟨gb40, 1, none⟩ = some (.int .i64 t32) := (blk_cell BK42.out 1).trans rfl))
    go_ret
    exact ⟨by first | rfl | (simp [*]; done), below_step HB.out (by repeat (first | (with_reducible first | exact HX.out | apply below_alloc | apply pw_below_drewN | apply below_drew1) | exact HX.out))⟩

end Go.Proofs.Ytkijkmmeilaljaa.Q
namespace Go.Proofs.Ytkijkmmeilaljaa.Q
open Go.RowKit Go.Proofs.YtkijkmmeilaljaaW.PrintWords Go.Proofs.Ytkijkmmeilaljaa.Opens
set_option linter.unusedVariables false
def i90 (x : S90) : Prop := (Lit.int .i64 x.f0).wf = true ∧ (Lit.int .i64 x.f1).wf = true
theorem o90 : Opens Try.prog 90 k90 i90 := opens_struct (N := 2) Try.underlying90 (by kernel_rfl) (opensF_cons rfl (by kernel_rfl) (opens_int Try.underlying3) (opensF_one rfl rfl (by kernel_rfl) (opens_int Try.underlying3))) (fun y => ⟨y.1, y.2⟩) (fun _ => rfl)
def i24 (x : S24) : Prop := (x.f0.length ≤ 9223372036854775807 ∧ ∀ y1_ ∈ x.f0, (y1_.length ≤ 9223372036854775807 ∧ ∀ y2_ ∈ y1_, i90 y2_)) ∧ (Lit.int .i64 x.f1).wf = true
theorem o24 : Opens Try.prog 24 k24 i24 := opens_struct (N := 2) Try.underlying24 (by kernel_rfl) (opensF_cons rfl (by kernel_rfl) (opens_slice Try.underlying22 (by kernel_rfl) (opens_slice Try.underlying77 (by kernel_rfl) o90)) (opensF_one rfl rfl (by kernel_rfl) (opens_int Try.underlying3))) (fun y => ⟨y.1, y.2⟩) (fun _ => rfl)
end Go.Proofs.Ytkijkmmeilaljaa.Q
namespace Go.Proofs.Ytkijkmmeilaljaa.Q
open Go.RowKit Go.Proofs.YtkijkmmeilaljaaW.PrintWords Go.Proofs.Ytkijkmmeilaljaa.Opens
set_option linter.unusedVariables false
def laws_FnExactKeysSince.Pure2 : Prop := ∀ (y0 : S24), ∀ (y1 : Int), i24 y0 → (Lit.int .i64 y1).wf = true → ∃ k, laws_FnExactKeysSince.f k y0.f0 y0.f1 y1 = some true
end Go.Proofs.Ytkijkmmeilaljaa.Q
namespace Go.Proofs.Ytkijkmmeilaljaa.Pure2
open Go.RowKit Go.Proofs.Ytkijkmmeilaljaa.Q Go.Proofs.YtkijkmmeilaljaaW.PrintWords Go.Proofs.YtkijkmmeilaljaaW.PrintLast
set_option linter.unusedVariables false
set_option linter.unusedSimpArgs false
/-! small words -/
theorem wsucc {j n : Nat} (h : j < n) (hn : n ≤ 4611686018427387904) : wrap64 ((j : Int) + 1) = ((j + 1 : Nat) : Int) := by unfold wrap64; omega
theorem ev_step {α : Type} {g f : Nat → Option α} {r : α} (h : ∃ K, ∀ k, K ≤ k → g (k + 1) = f k) (k : Ev f r) : Ev g r := by
  obtain ⟨K, h⟩ := h
  obtain ⟨K', k⟩ := k
  refine ⟨max K K' + 1, fun n hn => ?_⟩
  obtain ⟨m, rfl⟩ : ∃ m, n = m + 1 := ⟨n - 1, by omega⟩
  rw [h m (by omega), k m (by omega)]
theorem ev_now {α : Type} {g : Nat → Option α} {r : α} (h : ∃ K, ∀ k, K ≤ k → g (k + 1) = some r) : Ev g r := ev_step (f := fun _ => some r) h (Ev.now r)
theorem ev_same {α : Type} {g f : Nat → Option α} {r : α} (h : ∃ K, ∀ k, K ≤ k → g k = f k) (k : Ev f r) : Ev g r := by
  obtain ⟨K, h⟩ := h
  obtain ⟨K', k⟩ := k
  exact ⟨max K K', fun n hn => by rw [h n (by omega), k n (by omega)]⟩
theorem ev_two {α β : Type} {g : Nat → Option α} {f : Nat → Option β} {r : α} {q : β} (h : Ev g r) (k : Ev f q) : ∃ K, ∀ n, K ≤ n → g n = some r ∧ f n = some q := by
  obtain ⟨K, h⟩ := h
  obtain ⟨K', k⟩ := k
  exact ⟨max K K', fun n hn => ⟨h n (by omega), k n (by omega)⟩⟩
theorem ev_mk {α : Type} {g : Nat → Option α} {r : α} (K : Nat) (h : ∀ k, K ≤ k → g k = some r) : Ev g r := ⟨K, h⟩
theorem ev_at {α : Type} {g : Nat → Option α} {r : α} (h : Ev g r) : ∃ K, ∀ k, K ≤ k → g k = some r := h
/-- A loop that counts up to n: from the end back. -/
theorem count_loop {ρ : Type} (n : Nat) (L : Nat → Int → Option ρ) (Post : Nat → ρ → Prop) (hend : ∃ r, Post n r ∧ Ev (fun k => L k (n : Int)) r)
    (hstep : ∀ j, j < n → ∀ r, Post (j + 1) r → Ev (fun k => L k ((j + 1 : Nat) : Int)) r → ∃ r', Post j r' ∧ Ev (fun k => L k (j : Int)) r') :
    ∀ j, j ≤ n → ∃ r, Post j r ∧ Ev (fun k => L k (j : Int)) r := by
  have key : ∀ d j, j ≤ n → n - j = d → ∃ r, Post j r ∧ Ev (fun k => L k (j : Int)) r := by
    intro d
    induction d with
    | zero => intro j hj hd; obtain rfl : j = n := by omega
              exact hend
    | succ d ih =>
      intro j hj hd
      obtain ⟨r, hp, he⟩ := ih (j + 1) (by omega) (by omega)
      exact hstep j (by omega) r hp he
  intro j hj
  exact key _ j hj rfl
/-- A loop that carries a state up to n. -/
theorem state_loop {σ ρ : Type} (n : Nat) (L : Nat → σ → Int → Option ρ) (Inv : Nat → σ → Prop) (Post : Nat → σ → ρ → Prop) (hend : ∀ s, Inv n s → ∃ r, Post n s r ∧ Ev (fun k => L k s (n : Int)) r)
    (hstep : ∀ j s, j < n → Inv j s → (∃ r, Post j s r ∧ Ev (fun k => L k s (j : Int)) r) ∨ ∃ s', Inv (j + 1) s' ∧ (∀ r, Post (j + 1) s' r → Post j s r) ∧ ∃ K, ∀ k, K ≤ k → L (k + 1) s (j : Int) = L k s' ((j + 1 : Nat) : Int)) :
    ∀ j s, j ≤ n → Inv j s → ∃ r, Post j s r ∧ Ev (fun k => L k s (j : Int)) r := by
  have key : ∀ d j s, j ≤ n → n - j = d → Inv j s → ∃ r, Post j s r ∧ Ev (fun k => L k s (j : Int)) r := by
    intro d
    induction d with
    | zero => intro j s hj hd hi; obtain rfl : j = n := by omega
              exact hend s hi
    | succ d ih =>
      intro j s hj hd hi
      rcases hstep j s (by omega) hi with h | ⟨s', hi', hp, hk⟩
      · exact h
      · obtain ⟨r, hr, he⟩ := ih (j + 1) s' (by omega) (by omega) hi'
        exact ⟨r, hp r hr, ev_step hk he⟩
  intro j s hj hi
  exact key _ j s hj rfl hi
/-- A loop that fills a row of its own. -/
theorem fill_loop {α β : Type} (xs : List α) (z : α) (g : α → β) (L : Nat → List β → Int → Option (List β)) (hend : ∀ y : List β, y.length = xs.length → ∃ K, ∀ k, K ≤ k → L (k + 1) y (xs.length : Int) = some y)
    (hstep : ∀ (j : Nat) (y : List β), j < xs.length → y.length = xs.length → ∃ K, ∀ k, K ≤ k → L (k + 1) y (j : Int) = L k (y.set j (g (xs.getD j z))) ((j + 1 : Nat) : Int)) (y : List β) (hy : y.length = xs.length) :
    Ev (fun k => L k y 0) (xs.map g) := by
  obtain ⟨r, hr, he⟩ := state_loop xs.length L (fun j y => y.length = xs.length ∧ ∀ i, i < j → y[i]? = (xs.map g)[i]?) (fun _ _ r => r = xs.map g) (fun y hi => ⟨y, List.ext_getElem? fun i => by
      by_cases hi' : i < xs.length
      · exact hi.2 i hi'
      · rw [List.getElem?_eq_none (by omega), List.getElem?_eq_none (by simp; omega)], ev_now (hend y hi.1)⟩) (fun j y hj hi => .inr ⟨_, ⟨by simp [hi.1], fun i hij => by
      by_cases he : i = j
      · subst he
        rw [List.getElem?_set_self (by omega)]
        simp [List.getD_eq_getElem?_getD, List.getElem?_eq_getElem hj]
      · rw [List.getElem?_set_ne (by omega)]
        exact hi.2 i (by omega)⟩, fun r h => h, hstep j y hj hi.1⟩) 0 y (by omega) ⟨hy, fun i hi => by omega⟩
  subst hr
  exact he
/-- The measure of a store that came in. -/
theorem sz_row (l : List S90) (a : Int) (h0 : 0 ≤ a) (h1 : a ≤ 1048576) (hl : l.length ≤ 9223372036854775807) : ∃ r, laws_szVersionS.f l a = some r ∧ (r < 0 ∨ 0 ≤ r ∧ r ≤ a ∧ l.length ≤ 1048576) := by
  have hw : wrap64 (a - (l.length : Int)) = a - (l.length : Int) := by unfold wrap64; omega
  unfold laws_szVersionS.f
  rw [hw]
  by_cases h : a - (l.length : Int) < 0
  · rw [if_pos h]; exact ⟨_, rfl, .inl (by omega)⟩
  · rw [if_neg h]; exact ⟨_, rfl, .inr ⟨by omega, by omega, by omega⟩⟩
theorem sz_rows (l : List (List S90)) (a : Int) (h0 : 0 ≤ a) (h1 : a ≤ 1048576) (hl : l.length ≤ 9223372036854775807) (hx : ∀ x ∈ l, x.length ≤ 9223372036854775807) :
    ∃ r, Ev (fun k => laws_szVersionSS.f k l a) r ∧ (r < 0 ∨ 0 ≤ r ∧ r ≤ a ∧ l.length ≤ 1048576 ∧ ∀ x ∈ l, x.length ≤ 1048576) := by
  have hw : wrap64 (a - (l.length : Int)) = a - (l.length : Int) := by unfold wrap64; omega
  by_cases h : a - (l.length : Int) < 0
  · exact ⟨-1, ev_mk 0 (fun k _ => by unfold laws_szVersionSS.f; rw [hw, if_pos h]), .inl (by omega)⟩
  · obtain ⟨r, hr, he⟩ := state_loop l.length (fun k s i => laws_szVersionSS.l0 k l s i) (fun j s => 0 ≤ s ∧ s ≤ a ∧ ∀ i, i < j → (l.getD i []).length ≤ 1048576) (fun _ _ r => r < 0 ∨ 0 ≤ r ∧ r ≤ a ∧ ∀ i, i < l.length → (l.getD i []).length ≤ 1048576)
      (fun s hi => ⟨s, .inr hi, ev_now ⟨0, fun k _ => by simp only [laws_szVersionSS.l0]; rw [if_neg (by omega)]⟩⟩)
      (fun j s hj hi => by
        have hm : (l.getD j []) ∈ l := by rw [List.getD_eq_getElem?_getD, List.getElem?_eq_getElem hj]; exact List.getElem_mem hj
        obtain ⟨t, e, ht⟩ := sz_row (l.getD j []) s hi.1 (by omega) (hx _ hm)
        have e' : laws_szVersionS.f (rd_L2 l (j : Int)) s = some t := e
        rcases ht with ht | ⟨t0, t1, t2⟩
        · exact .inl ⟨-1, .inl (by omega), ev_now ⟨0, fun k _ => by simp only [laws_szVersionSS.l0]; rw [if_pos (by omega), if_pos (by omega), e']; simp only [Option.bind_some]; rw [if_pos ht]⟩⟩
        · refine .inr ⟨t, ⟨t0, by omega, fun i hij => ?_⟩, fun r h => h, 0, fun k _ => by simp only [laws_szVersionSS.l0]; rw [if_pos (by omega), if_pos (by omega), e']; simp only [Option.bind_some]; rw [if_neg (by omega), wsucc hj (by omega)]⟩
          rcases Nat.lt_or_eq_of_le (Nat.le_of_lt_succ hij) with h' | rfl
          · exact hi.2.2 i h'
          · exact t2) 0 (a - l.length) (by omega) ⟨by omega, by omega, fun i hi => by omega⟩
    refine ⟨r, ev_same ⟨0, fun k _ => by unfold laws_szVersionSS.f; rw [hw, if_neg h]; rfl⟩ he, ?_⟩
    rcases hr with hr | ⟨h2, h3, h4⟩
    · exact .inl hr
    · refine .inr ⟨h2, h3, by omega, fun x hx' => ?_⟩
      obtain ⟨i, hi, rfl⟩ := List.getElem_of_mem hx'
      have := h4 i hi
      rw [List.getD_eq_getElem?_getD, List.getElem?_eq_getElem hi] at this
      exact this
def Small (l : List (List S90)) : Prop := l.length ≤ 1048576 ∧ ∀ x ∈ l, x.length ≤ 1048576
theorem sz_store (y : S24) (a : Int) (h0 : 0 ≤ a) (h1 : a ≤ 1048576) (hi : i24 y) : ∃ r, Ev (fun k => laws_szStore.f k y.f0 y.f1 a) r ∧ (r < 0 ∨ 0 ≤ r ∧ r ≤ a ∧ Small y.f0) := by
  obtain ⟨r, he, hr⟩ := sz_rows y.f0 a h0 h1 hi.1.1 (fun x hx => (hi.1.2 x hx).1)
  obtain ⟨K, he⟩ := ev_at he
  rcases hr with hr | ⟨h2, h3, h4⟩
  · exact ⟨-1, ev_mk K (fun k hk => by unfold laws_szStore.f; rw [he k hk]; simp only [Option.bind_some]; rw [if_pos hr]), .inl (by omega)⟩
  · exact ⟨r, ev_mk K (fun k hk => by unfold laws_szStore.f; rw [he k hk]; simp only [Option.bind_some]; rw [if_neg (by omega)]), .inr ⟨h2, h3, h4⟩⟩
def cvV (x : S90) : S61 := ⟨x.f0, x.f1⟩
def cvS (l : List (List S90)) : List (List S61) := l.map (List.map cvV)
theorem to_row (l : List S90) (hl : l.length ≤ 1048576) : Ev (fun k => laws_toVersionS.f k l) (l.map cvV) := by
  have h := fill_loop l z90 cvV (fun k y i => laws_toVersionS.l0 k l y i) (fun y hy => ⟨0, fun k _ => by simp only [laws_toVersionS.l0]; rw [if_neg (by omega)]⟩)
    (fun j y hj hy => ⟨0, fun k _ => by
      simp only [laws_toVersionS.l0, laws_toVersion.f]; rw [if_pos (by omega), if_pos (by omega)]; simp only [Option.bind_some]; rw [if_pos (by omega), wsucc hj (by omega)]; rfl⟩) (List.replicate l.length z61) (by simp)
  refine ev_same ⟨0, fun k _ => ?_⟩ h
  unfold laws_toVersionS.f
  rw [if_pos (by omega), if_pos (by simp; omega), Int.toNat_natCast]
theorem to_rows (l : List (List S90)) (hl : Small l) : Ev (fun k => laws_toVersionSS.f k l) (cvS l) := by
  have h := fill_loop l [] (List.map cvV) (fun k y i => laws_toVersionSS.l0 k l y i) (fun y hy => ⟨0, fun k _ => by simp only [laws_toVersionSS.l0]; rw [if_neg (by omega)]⟩)
    (fun j y hj hy => by
      have hm : (l.getD j []) ∈ l := by rw [List.getD_eq_getElem?_getD, List.getElem?_eq_getElem hj]; exact List.getElem_mem hj
      obtain ⟨K, hk⟩ := to_row (l.getD j []) (hl.2 _ hm)
      refine ⟨K, fun k hK => ?_⟩
      have e' : laws_toVersionS.f k (rd_L2 l (j : Int)) = some ((l.getD j []).map cvV) := hk k hK
      have hl' := hl.1
      simp only [laws_toVersionSS.l0]; rw [if_pos (by omega), if_pos (by omega), e']; simp only [Option.bind_some]; rw [if_pos (by omega), wsucc hj (by omega)]; rfl) (List.replicate l.length []) (by simp)
  refine ev_same ⟨0, fun k _ => ?_⟩ h
  have hl' := hl.1
  unfold laws_toVersionSS.f
  rw [if_pos (by omega), if_pos (by simp; omega), Int.toNat_natCast]
theorem to_store (l : List (List S90)) (n : Int) (hl : Small l) : Ev (fun k => laws_toStore.f k l n) (cvS l, n) := by
  obtain ⟨K, h⟩ := ev_at (to_rows l hl)
  exact ev_mk K (fun k hk => by unfold laws_toStore.f; rw [h k hk]; rfl)
theorem eq_row (l : List S61) (hl : l.length ≤ 1048576) : Ev (fun k => laws_eqVersionS.f k l l) true := by
  obtain ⟨r, hr, he⟩ := count_loop l.length (fun k i => laws_eqVersionS.l0 k l l i) (fun _ r => r = true) ⟨true, rfl, ev_now ⟨0, fun k _ => by simp only [laws_eqVersionS.l0]; rw [if_neg (by omega)]⟩⟩
    (fun j hj r hr he => ⟨r, hr, ev_step ⟨0, fun k _ => by simp only [laws_eqVersionS.l0, laws_eqVersion.f]; rw [if_pos (by omega), if_pos (by omega), if_pos (by omega)]; simp only [if_true, Option.bind_some]; rw [wsucc hj (by omega)]⟩ he⟩) 0 (by omega)
  subst hr
  exact ev_same ⟨0, fun k _ => by unfold laws_eqVersionS.f; rw [if_pos rfl]; rfl⟩ he
theorem eq_rows (l : List (List S61)) (hl : l.length ≤ 1048576) (hx : ∀ x ∈ l, x.length ≤ 1048576) : Ev (fun k => laws_eqVersionSS.f k l l) true := by
  obtain ⟨r, hr, he⟩ := count_loop l.length (fun k i => laws_eqVersionSS.l0 k l l i) (fun _ r => r = true) ⟨true, rfl, ev_now ⟨0, fun k _ => by simp only [laws_eqVersionSS.l0]; rw [if_neg (by omega)]⟩⟩
    (fun j hj r hr he => by
      have hm : (l.getD j []) ∈ l := by rw [List.getD_eq_getElem?_getD, List.getElem?_eq_getElem hj]; exact List.getElem_mem hj
      obtain ⟨K, hk⟩ := eq_row (l.getD j []) (hx _ hm)
      exact ⟨r, hr, ev_step ⟨K, fun k hK => by
        have e' : laws_eqVersionS.f k (rd_L4 l (j : Int)) (rd_L4 l (j : Int)) = some true := hk k hK
        simp only [laws_eqVersionSS.l0]; rw [if_pos (by omega), if_pos (by omega), if_pos (by omega), e']; simp only [if_true, Option.bind_some]; rw [wsucc hj (by omega)]⟩ he⟩) 0 (by omega)
  subst hr
  exact ev_same ⟨0, fun k _ => by unfold laws_eqVersionSS.f; rw [if_pos rfl]; rfl⟩ he
theorem eq_store (l : List (List S61)) (n : Int) (hl : l.length ≤ 1048576) (hx : ∀ x ∈ l, x.length ≤ 1048576) : Ev (fun k => laws_eqStore.f k l n l n) true := by
  obtain ⟨K, h⟩ := ev_at (eq_rows l hl hx)
  exact ev_mk K (fun k hk => by unfold laws_eqStore.f; rw [h k hk]; simp)
theorem small_cv (l : List (List S90)) (h : Small l) : (cvS l).length ≤ 1048576 ∧ ∀ x ∈ cvS l, x.length ≤ 1048576 := by
  refine ⟨by simpa [cvS] using h.1, fun x hx => ?_⟩
  simp only [cvS, List.mem_map] at hx
  obtain ⟨y, hy, rfl⟩ := hx
  simpa using h.2 y hy
def fitsB (key v : Int) : Bool := if Int.tmod key 2 = 1 then decide (0 ≤ v ∧ v ≤ 8) else decide (-2147483648 ≤ v ∧ v ≤ 2147483647)
theorem spec_in (a b c : Int) : spec_l01In.f a b c = some (decide (b ≤ a ∧ a ≤ c)) := by
  unfold spec_l01In.f
  by_cases h : b ≤ a
  · rw [if_pos h]; simp [h]
  · rw [if_neg h]; simp [h]
theorem impl_in (a b c : Int) : impl_within.f a b c = some (decide (b ≤ a ∧ a ≤ c)) := spec_in a b c
theorem spec_fits (a b : Int) : spec_l06Value.f a b = some (fitsB a b) := by
  unfold spec_l06Value.f spec_IsInt.f fitsB
  by_cases h : Int.tmod a 2 = 1
  · rw [if_pos h, if_pos h, spec_in]; rfl
  · rw [if_neg h, if_neg h, spec_in]; rfl
theorem impl_fits (a b : Int) : impl_fits.f a b = some (fitsB a b) := by
  unfold impl_fits.f impl_IsInt.f fitsB
  by_cases h : Int.tmod a 2 = 1
  · rw [if_pos h, if_pos h, impl_in]; rfl
  · rw [if_neg h, if_neg h, impl_in]; rfl
/-- A version that is right at its place. -/
def VerOK (now : Int) (key : Nat) (c : List S61) (i : Nat) : Prop :=
  1 ≤ (c.getD i z61).f0 ∧ (c.getD i z61).f0 ≤ now ∧ fitsB key (c.getD i z61).f1 = true ∧ (0 < i → (c.getD (i - 1) z61).f0 < (c.getD i z61).f0)
def IsStore (cs : List (List S61)) (now : Int) : Prop := cs.length = 16 ∧ 0 ≤ now ∧ now ≤ 100000 ∧ ∀ i, i < 16 → ∀ j, j < (cs.getD i []).length → VerOK now i (cs.getD i []) j
theorem spec_chain (cs : List (List S61)) (now : Int) (hl : cs.length = 16) (i : Nat) (hi : i < 16) (hx : (cs.getD i []).length ≤ 1048576) (R : Bool) (hR : Ev (fun k => spec_StoreOK.l0 k ((i + 1 : Nat) : Int) cs now) R) :
    ∃ r, Ev (fun k => spec_StoreOK.l1 k i 0 cs now) r ∧ (r = true ↔ (∀ j, j < (cs.getD i []).length → VerOK now i (cs.getD i []) j) ∧ R = true) := by
  obtain ⟨r, hr, he⟩ := count_loop (cs.getD i []).length (fun k j => spec_StoreOK.l1 k i j cs now) (fun j r => r = true ↔ (∀ j', j ≤ j' → j' < (cs.getD i []).length → VerOK now i (cs.getD i []) j') ∧ R = true)
    ⟨R, ⟨fun h => ⟨fun j' h1 h2 => by omega, h⟩, fun h => h.2⟩, ev_step ⟨0, fun k _ => by
      simp only [spec_StoreOK.l1]; rw [if_pos (by omega), if_pos (by omega), if_neg (by show ¬ ((cs.getD i []).length : Int) < ((rd_L4 cs (i : Int)).length : Int); simp [rd_L4]), wsucc (n := 16) hi (by omega)]⟩ hR⟩
    (fun j hj r hr he => by
      have hd : rd_L4 cs (i : Int) = cs.getD i [] := rfl
      have hv : rd_T61 (cs.getD i []) (j : Int) = (cs.getD i []).getD j z61 := rfl
      have hw1 : 0 < j → rd_T61 (cs.getD i []) (wrap64 ((j : Int) - 1)) = (cs.getD i []).getD (j - 1) z61 := fun h0 => by
        have : wrap64 ((j : Int) - 1) = ((j - 1 : Nat) : Int) := by unfold wrap64; omega
        rw [this]; rfl
      have hw2 : 0 < j → 0 ≤ wrap64 ((j : Int) - 1) ∧ wrap64 ((j : Int) - 1) < ((cs.getD i []).length : Int) := fun h0 => by
        have : wrap64 ((j : Int) - 1) = ((j - 1 : Nat) : Int) := by unfold wrap64; omega
        rw [this]; omega
      have no : ¬ VerOK now i (cs.getD i []) j → (∃ K, ∀ k, K ≤ k → spec_StoreOK.l1 (k + 1) i j cs now = some false) → ∃ r', (r' = true ↔ (∀ j', j ≤ j' → j' < (cs.getD i []).length → VerOK now i (cs.getD i []) j') ∧ R = true) ∧ Ev (fun k => spec_StoreOK.l1 k i j cs now) r' :=
        fun hn hk => ⟨false, ⟨fun h => (by cases h), fun h => absurd (h.1 j (Nat.le_refl _) hj) hn⟩, ev_now hk⟩
      have yes : VerOK now i (cs.getD i []) j → (∃ K, ∀ k, K ≤ k → spec_StoreOK.l1 (k + 1) i j cs now = spec_StoreOK.l1 k i ((j + 1 : Nat) : Int) cs now) → ∃ r', (r' = true ↔ (∀ j', j ≤ j' → j' < (cs.getD i []).length → VerOK now i (cs.getD i []) j') ∧ R = true) ∧ Ev (fun k => spec_StoreOK.l1 k i j cs now) r' :=
        fun hn hk => ⟨r, hr.trans ⟨fun h => ⟨fun j' h1 h2 => by
          rcases Nat.lt_or_eq_of_le h1 with h3 | rfl
          · exact h.1 j' h3 h2
          · exact hn, h.2⟩, fun h => ⟨fun j' h1 h2 => h.1 j' (by omega) h2, h.2⟩⟩, ev_step hk he⟩
      have hh : ∀ k, spec_StoreOK.l1 (k + 1) i j cs now = if (decide (1 ≤ ((cs.getD i []).getD j z61).f0 ∧ ((cs.getD i []).getD j z61).f0 ≤ now)) = true then (if fitsB i ((cs.getD i []).getD j z61).f1 = true then (if (j : Int) > 0 then (if ((cs.getD i []).getD (j - 1) z61).f0 ≥ ((cs.getD i []).getD j z61).f0 then some false else spec_StoreOK.l1 k i ((j + 1 : Nat) : Int) cs now) else spec_StoreOK.l1 k i ((j + 1 : Nat) : Int) cs now) else some false) else some false := by
        intro k
        conv => lhs; simp only [spec_StoreOK.l1]
        rw [hd, if_pos (by omega), if_pos (by omega), if_pos (by omega), if_pos (by omega), spec_in, spec_fits, hv]
        simp only [Option.bind_some, wsucc hj (by omega)]
        by_cases h0 : 0 < j
        · rw [hw1 h0, if_pos (hw2 h0).1, if_pos (hw2 h0).2]
        · simp only [if_neg (show ¬ ((j : Int) > 0) by omega)]
      by_cases h1 : 1 ≤ ((cs.getD i []).getD j z61).f0 ∧ ((cs.getD i []).getD j z61).f0 ≤ now
      · by_cases h2 : fitsB i ((cs.getD i []).getD j z61).f1 = true
        · by_cases h3 : 0 < j
          · by_cases h4 : ((cs.getD i []).getD (j - 1) z61).f0 ≥ ((cs.getD i []).getD j z61).f0
            · exact no (fun h => absurd (h.2.2.2 h3) (by omega)) ⟨0, fun k _ => by rw [hh, if_pos (decide_eq_true h1), if_pos h2, if_pos (by omega), if_pos h4]⟩
            · exact yes ⟨h1.1, h1.2, h2, fun _ => by omega⟩ ⟨0, fun k _ => by rw [hh, if_pos (decide_eq_true h1), if_pos h2, if_pos (by omega), if_neg h4]⟩
          · exact yes ⟨h1.1, h1.2, h2, fun h => absurd h h3⟩ ⟨0, fun k _ => by rw [hh, if_pos (decide_eq_true h1), if_pos h2, if_neg (by omega)]⟩
        · exact no (fun h => h2 h.2.2.1) ⟨0, fun k _ => by rw [hh, if_pos (decide_eq_true h1), if_neg h2]⟩
      · exact no (fun h => h1 ⟨h.1, h.2.1⟩) ⟨0, fun k _ => by rw [hh, if_neg (by simpa using h1)]⟩) 0 (by omega)
  exact ⟨r, he, hr.trans ⟨fun h => ⟨fun j hj => h.1 j (by omega) hj, h.2⟩, fun h => ⟨fun j _ hj => h.1 j hj, h.2⟩⟩⟩
theorem spec_store_ok (cs : List (List S61)) (now : Int) (hx : ∀ x ∈ cs, x.length ≤ 1048576) : ∃ r, Ev (fun k => spec_StoreOK.f k cs now) r ∧ (r = true ↔ IsStore cs now) := by
  by_cases hl : cs.length = 16
  · by_cases hn : 0 ≤ now ∧ now ≤ 100000
    · obtain ⟨r, hr, he⟩ := count_loop 16 (fun k i => spec_StoreOK.l0 k i cs now) (fun i r => r = true ↔ ∀ i', i ≤ i' → i' < 16 → ∀ j, j < (cs.getD i' []).length → VerOK now i' (cs.getD i' []) j)
        ⟨true, ⟨fun _ i' h1 h2 => by omega, fun _ => rfl⟩, ev_now ⟨0, fun k _ => by simp only [spec_StoreOK.l0]; rw [if_neg (by omega)]⟩⟩
        (fun i hi R hR he => by
          have hm : (cs.getD i []) ∈ cs := by rw [List.getD_eq_getElem?_getD, List.getElem?_eq_getElem (by omega)]; exact List.getElem_mem (by omega)
          obtain ⟨r, he', hr⟩ := spec_chain cs now hl i hi (hx _ hm) R he
          refine ⟨r, ?_, ev_step ⟨0, fun k _ => by simp only [spec_StoreOK.l0]; rw [if_pos (by omega)]⟩ he'⟩
          rw [hr, hR]
          constructor
          · rintro ⟨h1, h2⟩ i' h3 h4
            rcases Nat.lt_or_eq_of_le h3 with h5 | rfl
            · exact h2 i' h5 h4
            · exact h1
          · intro h; exact ⟨h i (Nat.le_refl _) hi, fun i' h3 h4 => h i' (by omega) h4⟩) 0 (by omega)
      refine ⟨r, ?_, hr.trans ⟨fun h => ⟨hl, hn.1, hn.2, fun i hi => h i (by omega) hi⟩, fun h i _ hi => h.2.2.2 i hi⟩⟩
      refine ev_step (f := fun k => spec_StoreOK.l0 k 0 cs now) ⟨0, fun k _ => ?_⟩ he
      unfold spec_StoreOK.f
      rw [if_pos (by omega), spec_in]
      simp only [Option.bind_some, decide_eq_true hn, Bool.not_true, spec_StoreOK.j0]
      rw [if_neg (by simp)]
    · refine ⟨false, ev_now ⟨0, fun k _ => ?_⟩, ⟨fun h => (by cases h), fun h => absurd ⟨h.2.1, h.2.2.1⟩ hn⟩⟩
      unfold spec_StoreOK.f
      rw [if_pos (by omega), spec_in]
      simp only [Option.bind_some, decide_eq_false hn, Bool.not_false, spec_StoreOK.j0]
      exact if_pos trivial
  · refine ⟨false, ev_now ⟨0, fun k _ => ?_⟩, ⟨fun h => (by cases h), fun h => absurd h.1 hl⟩⟩
    unfold spec_StoreOK.f
    rw [if_neg (by omega)]
    simp only [spec_StoreOK.j0]
    exact if_pos trivial
theorem impl_chain (cs : List (List S61)) (now : Int) (i : Nat) (hi : i < 16) (c : List S61) (hc : c = cs.getD i []) (hx : c.length ≤ 1048576) (R : Bool) (hR : Ev (fun k => impl_StoreOK.l0 k cs 16 ((i + 1 : Nat) : Int) cs now) R) :
    ∃ r, Ev (fun k => impl_StoreOK.l1 k i c cs 16 i c (c.length : Int) 0 cs now) r ∧ (r = true ↔ (∀ j, j < c.length → VerOK now i c j) ∧ R = true) := by
  obtain ⟨r, hr, he⟩ := count_loop c.length (fun k j => impl_StoreOK.l1 k i c cs 16 i c (c.length : Int) j cs now) (fun j r => r = true ↔ (∀ j', j ≤ j' → j' < c.length → VerOK now i c j') ∧ R = true)
    ⟨R, ⟨fun h => ⟨fun j' h1 h2 => by omega, h⟩, fun h => h.2⟩, ev_step ⟨0, fun k _ => by
      simp only [impl_StoreOK.l1]; rw [if_neg (by omega), wsucc (n := 16) hi (by omega)]⟩ hR⟩
    (fun j hj r hr he => by
      have hv : rd_T61 c (j : Int) = c.getD j z61 := rfl
      have hw1 : 0 < j → rd_T61 c (wrap64 ((j : Int) - 1)) = c.getD (j - 1) z61 := fun h0 => by
        have : wrap64 ((j : Int) - 1) = ((j - 1 : Nat) : Int) := by unfold wrap64; omega
        rw [this]; rfl
      have hw2 : 0 < j → 0 ≤ wrap64 ((j : Int) - 1) ∧ wrap64 ((j : Int) - 1) < (c.length : Int) := fun h0 => by
        have : wrap64 ((j : Int) - 1) = ((j - 1 : Nat) : Int) := by unfold wrap64; omega
        rw [this]; omega
      have no : ¬ VerOK now i c j → (∃ K, ∀ k, K ≤ k → impl_StoreOK.l1 (k + 1) i c cs 16 i c (c.length : Int) j cs now = some false) → ∃ r', (r' = true ↔ (∀ j', j ≤ j' → j' < c.length → VerOK now i c j') ∧ R = true) ∧ Ev (fun k => impl_StoreOK.l1 k i c cs 16 i c (c.length : Int) j cs now) r' :=
        fun hn hk => ⟨false, ⟨fun h => (by cases h), fun h => absurd (h.1 j (Nat.le_refl _) hj) hn⟩, ev_now hk⟩
      have yes : VerOK now i c j → (∃ K, ∀ k, K ≤ k → impl_StoreOK.l1 (k + 1) i c cs 16 i c (c.length : Int) j cs now = impl_StoreOK.l1 k i c cs 16 i c (c.length : Int) ((j + 1 : Nat) : Int) cs now) → ∃ r', (r' = true ↔ (∀ j', j ≤ j' → j' < c.length → VerOK now i c j') ∧ R = true) ∧ Ev (fun k => impl_StoreOK.l1 k i c cs 16 i c (c.length : Int) j cs now) r' :=
        fun hn hk => ⟨r, hr.trans ⟨fun h => ⟨fun j' h1 h2 => by
          rcases Nat.lt_or_eq_of_le h1 with h3 | rfl
          · exact h.1 j' h3 h2
          · exact hn, h.2⟩, fun h => ⟨fun j' h1 h2 => h.1 j' (by omega) h2, h.2⟩⟩, ev_step hk he⟩
      have hh : ∀ k, impl_StoreOK.l1 (k + 1) i c cs 16 i c (c.length : Int) j cs now = if (decide (1 ≤ (c.getD j z61).f0 ∧ (c.getD j z61).f0 ≤ now)) = true then (if (j : Int) > 0 then (if (c.getD (j - 1) z61).f0 ≥ (c.getD j z61).f0 then some false else (if fitsB i (c.getD j z61).f1 = true then impl_StoreOK.l1 k i c cs 16 i c (c.length : Int) ((j + 1 : Nat) : Int) cs now else some false)) else (if fitsB i (c.getD j z61).f1 = true then impl_StoreOK.l1 k i c cs 16 i c (c.length : Int) ((j + 1 : Nat) : Int) cs now else some false)) else some false := by
        intro k
        conv => lhs; simp only [impl_StoreOK.l1]
        rw [if_pos (by omega), if_pos (by omega), if_pos (by omega), impl_in, impl_fits, hv]
        simp only [Option.bind_some, wsucc hj (by omega)]
        by_cases h0 : 0 < j
        · rw [hw1 h0, if_pos (hw2 h0).1, if_pos (hw2 h0).2]
        · simp only [if_neg (show ¬ ((j : Int) > 0) by omega)]
      by_cases h1 : 1 ≤ (c.getD j z61).f0 ∧ (c.getD j z61).f0 ≤ now
      · by_cases h2 : fitsB i (c.getD j z61).f1 = true
        · by_cases h3 : 0 < j
          · by_cases h4 : (c.getD (j - 1) z61).f0 ≥ (c.getD j z61).f0
            · exact no (fun h => absurd (h.2.2.2 h3) (by omega)) ⟨0, fun k _ => by rw [hh, if_pos (decide_eq_true h1), if_pos (by omega), if_pos h4]⟩
            · exact yes ⟨h1.1, h1.2, h2, fun _ => by omega⟩ ⟨0, fun k _ => by rw [hh, if_pos (decide_eq_true h1), if_pos (by omega), if_neg h4, if_pos h2]⟩
          · exact yes ⟨h1.1, h1.2, h2, fun h => absurd h h3⟩ ⟨0, fun k _ => by rw [hh, if_pos (decide_eq_true h1), if_neg (by omega), if_pos h2]⟩
        · refine no (fun h => h2 h.2.2.1) ⟨0, fun k _ => ?_⟩
          rw [hh, if_pos (decide_eq_true h1)]
          simp only [if_neg h2]
          repeat' split
          all_goals rfl
      · exact no (fun h => h1 ⟨h.1, h.2.1⟩) ⟨0, fun k _ => by rw [hh, if_neg (by simpa using h1)]⟩) 0 (by omega)
  exact ⟨r, he, hr.trans ⟨fun h => ⟨fun j hj => h.1 j (by omega) hj, h.2⟩, fun h => ⟨fun j _ hj => h.1 j hj, h.2⟩⟩⟩
theorem impl_store_ok (cs : List (List S61)) (now : Int) (hx : ∀ x ∈ cs, x.length ≤ 1048576) : ∃ r, Ev (fun k => impl_StoreOK.f k cs now) r ∧ (r = true ↔ IsStore cs now) := by
  by_cases hl : cs.length = 16
  · by_cases hn : 0 ≤ now ∧ now ≤ 100000
    · obtain ⟨r, hr, he⟩ := count_loop 16 (fun k i => impl_StoreOK.l0 k cs 16 i cs now) (fun i r => r = true ↔ ∀ i', i ≤ i' → i' < 16 → ∀ j, j < (cs.getD i' []).length → VerOK now i' (cs.getD i' []) j)
        ⟨true, ⟨fun _ i' h1 h2 => by omega, fun _ => rfl⟩, ev_now ⟨0, fun k _ => by simp only [impl_StoreOK.l0]; rw [if_neg (by omega)]⟩⟩
        (fun i hi R hR he => by
          have hm : (cs.getD i []) ∈ cs := by rw [List.getD_eq_getElem?_getD, List.getElem?_eq_getElem (by omega)]; exact List.getElem_mem (by omega)
          obtain ⟨r, he', hr⟩ := impl_chain cs now i hi (cs.getD i []) rfl (hx _ hm) R he
          refine ⟨r, ?_, ev_step ⟨0, fun k _ => by simp only [impl_StoreOK.l0]; rw [if_pos (by omega), if_pos (by omega), if_pos (by omega)]; rfl⟩ he'⟩
          rw [hr, hR]
          constructor
          · rintro ⟨h1, h2⟩ i' h3 h4
            rcases Nat.lt_or_eq_of_le h3 with h5 | rfl
            · exact h2 i' h5 h4
            · exact h1
          · intro h; exact ⟨h i (Nat.le_refl _) hi, fun i' h3 h4 => h i' (by omega) h4⟩) 0 (by omega)
      refine ⟨r, ?_, hr.trans ⟨fun h => ⟨hl, hn.1, hn.2, fun i hi => h i (by omega) hi⟩, fun h i _ hi => h.2.2.2 i hi⟩⟩
      refine ev_step (f := fun k => impl_StoreOK.l0 k cs 16 0 cs now) ⟨0, fun k _ => ?_⟩ he
      unfold impl_StoreOK.f
      rw [if_pos (by omega), impl_in]
      simp only [Option.bind_some, decide_eq_true hn, Bool.not_true, impl_StoreOK.j0]
      rw [if_neg (by simp), hl]
      rfl
    · refine ⟨false, ev_now ⟨0, fun k _ => ?_⟩, ⟨fun h => (by cases h), fun h => absurd ⟨h.2.1, h.2.2.1⟩ hn⟩⟩
      unfold impl_StoreOK.f
      rw [if_pos (by omega), impl_in]
      simp only [Option.bind_some, decide_eq_false hn, Bool.not_false, impl_StoreOK.j0]
      exact if_pos trivial
  · refine ⟨false, ev_now ⟨0, fun k _ => ?_⟩, ⟨fun h => (by cases h), fun h => absurd h.1 hl⟩⟩
    unfold impl_StoreOK.f
    rw [if_neg (by omega)]
    simp only [impl_StoreOK.j0]
    exact if_pos trivial
/-- Both say the same of a store. -/
theorem stores_agree (cs : List (List S61)) (now : Int) (hx : ∀ x ∈ cs, x.length ≤ 1048576) : ∃ r, Ev (fun k => spec_StoreOK.f k cs now) r ∧ Ev (fun k => impl_StoreOK.f k cs now) r ∧ (r = true ↔ IsStore cs now) := by
  obtain ⟨r, e, hr⟩ := spec_store_ok cs now hx
  obtain ⟨r', e', hr'⟩ := impl_store_ok cs now hx
  have : r' = r := by rw [Bool.eq_iff_iff, hr, hr']
  subst this
  exact ⟨r', e, e', hr⟩
end Go.Proofs.Ytkijkmmeilaljaa.Pure2
namespace Go.Proofs.Ytkijkmmeilaljaa.Pure2
open Go.RowKit Go.Proofs.Ytkijkmmeilaljaa.Q Go.Proofs.YtkijkmmeilaljaaW.PrintWords Go.Proofs.YtkijkmmeilaljaaW.PrintLast
set_option linter.unusedVariables false
set_option linter.unusedSimpArgs false
/-! marks of rows of versions -/
def mkV (m : Int) (n : Nat) : List S61 := (List.range n).map (fun (j : Nat) => ⟨m + 2 * (j : Int), m + 2 * (j : Int) + 1⟩)
theorem mkV_len (m : Int) (n : Nat) : (mkV m n).length = n := by simp [mkV]
theorem mkV_at (m : Int) (n i : Nat) (h : i < n) : (mkV m n)[i]? = some ⟨m + 2 * (i : Int), m + 2 * (i : Int) + 1⟩ := by simp [mkV, h]
theorem mark_row (l : List S61) (m : Int) (h0 : 0 ≤ m) (hm : m ≤ 4611686018427387904) (hl : l.length ≤ 1048576) : Ev (fun k => laws_markVersionS.f k l m) (m + 2 * (l.length : Int), mkV m l.length) := by
  obtain ⟨r, hr, he⟩ := state_loop l.length (fun k (s : List S61 × Int) i => laws_markVersionS.l0 k s.1 s.2 i) (fun j s => s.2 = m + 2 * (j : Int) ∧ s.1.length = l.length ∧ ∀ i, i < j → s.1[i]? = some ⟨m + 2 * (i : Int), m + 2 * (i : Int) + 1⟩) (fun _ _ r => r = (m + 2 * (l.length : Int), mkV m l.length))
    (fun s hi => ⟨(s.2, s.1), by
      obtain ⟨h1, h2, h3⟩ := hi
      refine Prod.ext h1 (List.ext_getElem? fun i => ?_)
      by_cases h : i < l.length
      · rw [h3 i h, mkV_at m _ i h]
      · rw [List.getElem?_eq_none (show s.1.length ≤ i by omega), List.getElem?_eq_none (by rw [mkV_len]; omega)], ev_now ⟨0, fun k _ => by
        have h2 := hi.2.1
        simp only [laws_markVersionS.l0]; rw [if_neg (by omega)]⟩⟩)
    (fun j s hj hi => by
      obtain ⟨h1, h2, h3⟩ := hi
      have hw : wrap64 (s.2 + 1) = s.2 + 1 := by unfold wrap64; omega
      have hw2 : wrap64 ((wrap64 (s.2 + 1)) + 1) = s.2 + 2 := by rw [hw]; unfold wrap64; omega
      have hg : ((s.1.set j (⟨s.2, (s.1.getD j z61).f1⟩ : S61)).getD j z61) = ⟨s.2, (s.1.getD j z61).f1⟩ := by
        rw [List.getD_eq_getElem?_getD, List.getElem?_set_self (by omega)]; rfl
      refine .inr ⟨((s.1.set j (⟨s.2, (s.1.getD j z61).f1⟩ : S61)).set j (⟨s.2, s.2 + 1⟩ : S61), s.2 + 2), ⟨by show s.2 + 2 = _; omega, by simp [h2], fun i hij => ?_⟩, fun r h => h, 0, fun k _ => ?_⟩
      · by_cases he : i = j
        · subst he
          rw [List.getElem?_set_self (by simp; omega), h1]
        · rw [List.getElem?_set_ne (by omega), List.getElem?_set_ne (by omega)]
          exact h3 i (by omega)
      · simp only [laws_markVersionS.l0]
        rw [if_pos (by omega), if_pos (by omega)]
        simp only [Option.bind_some]
        rw [hw2, wsucc hj (by omega), hw]
        show laws_markVersionS.l0 k ((s.1.set j (⟨s.2, (s.1.getD j z61).f1⟩ : S61)).set j (⟨((s.1.set j (⟨s.2, (s.1.getD j z61).f1⟩ : S61)).getD j z61).f0, s.2 + 1⟩ : S61)) (s.2 + 2) _ = _
        rw [hg]) 0 (l, m) (by omega) ⟨by show m = _; omega, rfl, fun i hi => by omega⟩
  subst hr
  exact ev_same ⟨0, fun k _ => by unfold laws_markVersionS.f; rfl⟩ he
def posV (m : Int) (ls : List (List S61)) (i : Nat) : Int := m + 2 * ((((ls.take i).map List.length).sum : Nat) : Int)
theorem posV_zero (m : Int) (ls : List (List S61)) : posV m ls 0 = m := by simp [posV]
theorem posV_succ (m : Int) (ls : List (List S61)) (i : Nat) (h : i < ls.length) : posV m ls (i + 1) = posV m ls i + 2 * (((ls.getD i []).length : Nat) : Int) := by
  unfold posV
  rw [List.take_add_one, List.getElem?_eq_getElem h, List.getD_eq_getElem?_getD, List.getElem?_eq_getElem h]
  simp only [Option.toList, List.map_append, List.map_cons, List.map_nil, List.sum_append, List.sum_cons, List.sum_nil, Option.getD_some]
  omega
theorem posV_bound (m : Int) (ls : List (List S61)) (hx : ∀ x ∈ ls, x.length ≤ 1048576) : ∀ i, i ≤ ls.length → m ≤ posV m ls i ∧ posV m ls i ≤ m + 2097152 * (i : Int) := by
  intro i
  induction i with
  | zero => intro _; rw [posV_zero]; omega
  | succ i ih =>
    intro h
    have hm : (ls.getD i []) ∈ ls := by rw [List.getD_eq_getElem?_getD, List.getElem?_eq_getElem (by omega)]; exact List.getElem_mem (by omega)
    have := ih (by omega)
    have := hx _ hm
    rw [posV_succ m ls i (by omega)]
    omega
def mkS (m : Int) (ls : List (List S61)) : List (List S61) := (List.range ls.length).map (fun (i : Nat) => mkV (posV m ls i) (ls.getD i []).length)
theorem mkS_len (m : Int) (ls : List (List S61)) : (mkS m ls).length = ls.length := by simp [mkS]
theorem mkS_at (m : Int) (ls : List (List S61)) (i : Nat) (h : i < ls.length) : (mkS m ls)[i]? = some (mkV (posV m ls i) (ls.getD i []).length) := by simp [mkS, h]
theorem mark_rows (ls : List (List S61)) (m : Int) (h0 : 0 ≤ m) (hm : m ≤ 1099511627776) (hl : ls.length ≤ 1048576) (hx : ∀ x ∈ ls, x.length ≤ 1048576) : Ev (fun k => laws_markVersionSS.f k ls m) (posV m ls ls.length, mkS m ls) := by
  obtain ⟨r, hr, he⟩ := state_loop ls.length (fun k (s : List (List S61) × Int) i => laws_markVersionSS.l0 k s.1 s.2 i) (fun j s => s.2 = posV m ls j ∧ s.1.length = ls.length ∧ (∀ i, i < j → s.1[i]? = (mkS m ls)[i]?) ∧ ∀ i, j ≤ i → s.1[i]? = ls[i]?) (fun _ _ r => r = (posV m ls ls.length, mkS m ls))
    (fun s hi => ⟨(s.2, s.1), by
      obtain ⟨h1, h2, h3, _⟩ := hi
      refine Prod.ext h1 (List.ext_getElem? fun i => ?_)
      by_cases h : i < ls.length
      · exact h3 i h
      · rw [List.getElem?_eq_none (show s.1.length ≤ i by omega), List.getElem?_eq_none (by rw [mkS_len]; omega)], ev_now ⟨0, fun k _ => by
        have h2 := hi.2.1
        simp only [laws_markVersionSS.l0]; rw [if_neg (by omega)]⟩⟩)
    (fun j s hj hi => by
      obtain ⟨h1, h2, h3, h4⟩ := hi
      have hmem : (ls.getD j []) ∈ ls := by rw [List.getD_eq_getElem?_getD, List.getElem?_eq_getElem hj]; exact List.getElem_mem hj
      have hb := posV_bound m ls hx j (by omega)
      have hrow : s.1.getD j [] = ls.getD j [] := by rw [List.getD_eq_getElem?_getD, List.getD_eq_getElem?_getD, h4 j (Nat.le_refl _)]
      obtain ⟨K, hk⟩ := ev_at (mark_row (ls.getD j []) (posV m ls j) (by omega) (by omega) (hx _ hmem))
      refine .inr ⟨(s.1.set j (mkV (posV m ls j) (ls.getD j []).length), posV m ls (j + 1)), ⟨rfl, by simp [h2], fun i hij => ?_, fun i hij => ?_⟩, fun r h => h, K, fun k hK => ?_⟩
      · by_cases he : i = j
        · subst he
          rw [List.getElem?_set_self (by omega), mkS_at m ls i hj]
        · rw [List.getElem?_set_ne (by omega)]
          exact h3 i (by omega)
      · rw [List.getElem?_set_ne (by omega)]
        exact h4 i (by omega)
      · have e' : laws_markVersionS.f k (s.1.getD j []) s.2 = some (posV m ls j + 2 * ((ls.getD j []).length : Int), mkV (posV m ls j) (ls.getD j []).length) := by rw [hrow, h1]; exact hk k hK
        simp only [laws_markVersionSS.l0]
        rw [if_pos (by omega), if_pos (by omega)]
        show (laws_markVersionS.f k (s.1.getD j []) s.2).bind _ = _
        rw [e']
        simp only [Option.bind_some, Int.toNat_natCast]
        rw [wsucc hj (by omega), posV_succ m ls j hj]) 0 (ls, m) (by omega) ⟨(posV_zero m ls).symm, rfl, fun i hi => by omega, fun i _ => rfl⟩
  subst hr
  exact ev_same ⟨0, fun k _ => by unfold laws_markVersionSS.f; rfl⟩ he
theorem mark_store1 (ls : List (List S61)) (n : Int) (hl : ls.length ≤ 1048576) (hx : ∀ x ∈ ls, x.length ≤ 1048576) : ∃ m l', Ev (fun k => laws_markStore.f k ls n 1) (m, l') ∧ 0 ≤ m := by
  have hb := posV_bound 1 ls hx ls.length (Nat.le_refl _)
  exact ⟨_, _, mark_rows ls 1 (by omega) (by omega) hl hx, by omega⟩
end Go.Proofs.Ytkijkmmeilaljaa.Pure2
namespace Go.Proofs.Ytkijkmmeilaljaa.Pure2
open Go.RowKit Go.Proofs.Ytkijkmmeilaljaa.Q Go.Proofs.YtkijkmmeilaljaaW.PrintWords Go.Proofs.YtkijkmmeilaljaaW.PrintLast
set_option linter.unusedVariables false
set_option linter.unusedSimpArgs false
/-- Whether a chain's last version is behind an hour: of a right key this is told. -/
theorem changed_some (cs : List (List S61)) (now key ts : Int) (hl : cs.length = 16) (h0 : 0 ≤ key) (h1 : key ≤ 15) (hx : ∀ x ∈ cs, x.length ≤ 1048576) : ∃ b, spec_l06Changed.f cs now key ts = some b ∧ impl_Store_changedSince.f cs now key ts = some b := by
  have same : impl_Store_changedSince.f cs now key ts = spec_l06Changed.f cs now key ts := rfl
  rw [same]
  have hc : (rd_L4 cs key).length ≤ 1048576 := by
    refine hx _ ?_
    show cs.getD key.toNat [] ∈ cs
    rw [List.getD_eq_getElem?_getD, List.getElem?_eq_getElem (by omega)]
    exact List.getElem_mem (by omega)
  unfold spec_l06Changed.f
  rw [if_pos h0, if_pos (by omega)]
  generalize rd_L4 cs key = c at hc
  by_cases hp : (c.length : Int) > 0
  · have hw : wrap64 ((c.length : Int) - 1) = (c.length : Int) - 1 := by unfold wrap64; omega
    rw [if_pos hp, hw, if_pos (by omega), if_pos (by omega)]
    exact ⟨_, rfl, rfl⟩
  · rw [if_neg hp]
    exact ⟨_, rfl, rfl⟩
end Go.Proofs.Ytkijkmmeilaljaa.Pure2
