/- Texts of the claim on FnExactLex, gathered by a program of this session: what the program's functions compute (proved by walks), and the plain part. -/
import Derived.Test.YtolickgnncfmeaaDoorKFnExactLexb
import Derived.Test.YtolickgnncfmeaaDoorOpens
import Derived.KernelRfl
namespace Go.Proofs.YtolickgnncfmeaaDoor.Q
open Go.RowKit Go.Proofs.YtolickgnncfmeaaDoorW.PrintWords Go.Proofs.YtolickgnncfmeaaDoorW.PrintLast Go.Proofs.YtolickgnncfmeaaDoorW.PrintMore
attribute [local go_sem] max2_int min2_int max_two min_two max_three min_three max_four min_four   -- for this text's walks alone
set_option linter.unusedVariables false
set_option linter.unusedSimpArgs false

/-! ### laws_heldTokenS: function 18 -/
def laws_heldTokenS.l0 : Nat → List (S27) → Int → Int → Option (Int)
  | 0, _, _, _ => none
  | k + 1, x0, x1, x5 => if x5 < (x0.length : Int) then (if 0 ≤ x5 then (if ((rd_T27 x0 x5).f0) = x1 then (if ((rd_T27 x0 x5).f1) = (wrap64 (x1 + 1)) then ((laws_markText.f k (wrap64 ((wrap64 (x1 + 1)) + 1))).bind fun t104 => (if ((rd_T27 x0 x5).f2).toList = t104.toList then (laws_heldTokenS.l0 k x0 (wrap64 ((wrap64 ((wrap64 (x1 + 1)) + 1)) + 1)) (wrap64 (x5 + 1))) else (some (-1)))) else (some (-1))) else (some (-1))) else (none)) else (some x1)
def laws_heldTokenS.f (k : Nat) (l0 : List (S27)) (a1 : Int) : Option (Int) := laws_heldTokenS.l0 k l0 a1 0
def laws_heldTokenS.T10 : Bool × List (List Nat × List Nat) := (true, [([], []), ([], []), ([0, 1], [0, 1]), ([2], [2]), ([3], [3]), ([], []), ([5], [5]), ([4, 6], [4, 6])])
def laws_heldTokenS.B10 : List Nat := [0, 0, 3, 7, 15, 0, 32, 127]
theorem laws_heldTokenS.tab10 : rtab .any (opsOf Tryd.f18 10) = laws_heldTokenS.T10 := by kernel_rfl
theorem laws_heldTokenS.bits10 : waitsOk laws_heldTokenS.T10.2 laws_heldTokenS.B10 = true := by kernel_rfl
def laws_heldTokenS.y0 : Array Bool := #[false, false, false, false, false, false, false, false]
def laws_heldTokenS.y1 : Array Bool := #[true, false, false, false, false, false, false, false]
def laws_heldTokenS.y2 : Array Bool := #[true, true, false, false, false, false, false, false]
def laws_heldTokenS.y3 : Array Bool := #[true, true, true, false, false, false, false, false]
def laws_heldTokenS.y4 : Array Bool := #[true, true, true, true, false, false, false, false]
def laws_heldTokenS.y5 : Array Bool := #[true, true, true, true, false, true, false, false]
def laws_heldTokenS.y6 : Array Bool := #[true, true, true, true, true, true, false, false]
def laws_heldTokenS.y7 : Array Bool := #[true, true, true, true, true, true, true, false]
def laws_heldTokenS.y8 : Array Bool := #[true, true, true, true, true, true, true, true]
set_option maxHeartbeats 8000000 in
set_option maxRecDepth 100000 in
theorem laws_heldTokenS.calls (k : Nat) (A0 : Option Addr) (c0 : Nat) (l0 : List (S27)) (a1 : Int) (r : Int) (w : World) (hr0 : Kd.C k27 w A0 l0.length l0) (hc0 : l0.length ≤ c0) (h : laws_heldTokenS.f k l0 a1 = some r) :
    Calls Tryd.prog 18 #[.slice A0 l0.length c0, .int .i64 a1] w fun e w' => e = .returned (.int .i64 r) ∧ Below w.heap.size w w' := by
  have HR0 := Aside0.mk hr0
  have HC0 := Aside0.mk hc0
  clear hr0 hc0
  have HB := Aside0.mk (Below.refl w.heap.size w)
  have H : (laws_heldTokenS.l0 k l0 a1 0) = some r := h
  clear h
  have H' := Aside0.mk H
  clear H
  go_enter Tryd.func18, Tryd.ntmps18
  go_wp2
  go_loopg [1, 5] k (fun kq v1 v5 w' => ∃ (x1_1 : Int) (x5_1 : Int), v1 = .int .i64 x1_1 ∧ v5 = .int .i64 x5_1 ∧ Aside0 (laws_heldTokenS.l0 kq l0 x1_1 x5_1 = some r) ∧ Aside0 (kq ≤ k) ∧ Aside0 (Below w.heap.size w w'))
  case atStart => exact ⟨(a1), (0), (by first | rfl | (simp; done) | (simp [*]; done)), (by first | rfl | (simp; done) | (simp [*]; done)), H', ⟨Nat.le_refl _⟩, ⟨by repeat (first | (with_reducible first | exact HB.out | apply below_alloc | apply pw_below_drewN | apply below_drew1) | exact HB.out)⟩⟩
  case round =>
    clear H'
    try clear c1
    try clear p2
    obtain ⟨x1_1, x5_1, rfl, rfl, HA, HK1, HB⟩ := hrel
    cases gk with
    | zero => exact absurd HA.out (by simp [laws_heldTokenS.l0])
    | succ k1 =>
      have H := HA.out
      clear HA
      simp only [laws_heldTokenS.l0] at H
      by_cases c3 : x5_1 < (l0.length : Int)
      · rw [if_pos c3] at H
        have c3b0 : decide (x5_1 < (l0.length : Int)) = true := decide_eq_true c3
        clear c3
        by_cases c4 : 0 ≤ x5_1
        · rw [if_pos c4] at H
          have c4b0 : decide (0 ≤ x5_1) = true := decide_eq_true c4
          clear c4
          by_cases c5 : ((rd_T27 l0 x5_1).f0) = x1_1
          · rw [if_pos c5] at H
            have c5b0 : (((rd_T27 l0 x5_1).f0) == x1_1) = true := beq_iff_eq.mpr c5
            have c5b1 : (((rd_T27 l0 x5_1).f0) != x1_1) = false := bne_eq_false_iff_eq.mpr c5
            clear c5
            by_cases c6 : ((rd_T27 l0 x5_1).f1) = (wrap64 (x1_1 + 1))
            · rw [if_pos c6] at H
              have c6b0 : (((rd_T27 l0 x5_1).f1) == (wrap64 (x1_1 + 1))) = true := beq_iff_eq.mpr c6
              have c6b1 : (((rd_T27 l0 x5_1).f1) != (wrap64 (x1_1 + 1))) = false := bne_eq_false_iff_eq.mpr c6
              clear c6
              replace H := Option.bind_eq_some_iff.mp H
              obtain ⟨t104, A70, H⟩ := H
              replace H : (if ((rd_T27 l0 x5_1).f2).toList = t104.toList then (laws_heldTokenS.l0 k1 l0 (wrap64 ((wrap64 ((wrap64 (x1_1 + 1)) + 1)) + 1)) (wrap64 (x5_1 + 1))) else (some (-1))) = some r := H
              have A7 := Aside0.mk A70
              clear A70
              by_cases c8 : ((rd_T27 l0 x5_1).f2).toList = t104.toList
              · rw [if_pos c8] at H
                have c8b0 : (((rd_T27 l0 x5_1).f2).toList == t104.toList) = true := beq_iff_eq.mpr c8
                have c8b1 : (((rd_T27 l0 x5_1).f2).toList != t104.toList) = false := bne_eq_false_iff_eq.mpr c8
                clear c8
                have H' := Aside0.mk H
                clear H
                have p101 : 0 ≤ (x5_1 : Int) := of_decide_eq_true (by first | (with_reducible assumption) | assumption)
                have q101 : x5_1 < (l0.length : Int) := of_decide_eq_true (by first | (with_reducible assumption) | assumption)
                obtain ⟨ad101, e101, hx101_0, hx101_1, hx101_2⟩ := at_T27 HR0.out x5_1 p101 q101
                cases e101
                replace hx101_0 := (HB.out.cell (World.block_lt_of_cell? w _ hx101_0)).trans hx101_0
                replace hx101_1 := (HB.out.cell (World.block_lt_of_cell? w _ hx101_1)).trans hx101_1
                replace hx101_2 := (HB.out.cell (World.block_lt_of_cell? w _ hx101_2)).trans hx101_2
                replace p101 := eq_true p101
                replace q101 := eq_true q101
                have p102 : 0 ≤ (x5_1 : Int) := of_decide_eq_true (by first | (with_reducible assumption) | assumption)
                have q102 : x5_1 < (l0.length : Int) := of_decide_eq_true (by first | (with_reducible assumption) | assumption)
                obtain ⟨ad102, e102, hx102_0, hx102_1, hx102_2⟩ := at_T27 HR0.out x5_1 p102 q102
                obtain rfl : ad101 = ad102 := (by injection e102)
                replace hx102_0 := (HB.out.cell (World.block_lt_of_cell? w _ hx102_0)).trans hx102_0
                replace hx102_1 := (HB.out.cell (World.block_lt_of_cell? w _ hx102_1)).trans hx102_1
                replace hx102_2 := (HB.out.cell (World.block_lt_of_cell? w _ hx102_2)).trans hx102_2
                replace p102 := eq_true p102
                replace q102 := eq_true q102
                try go_wp2
                have n0_ := Aside0.mk (below_drew1 HB.out)
                clear HB
                have HB := n0_
                clear n0_
                have p103 : 0 ≤ (x5_1 : Int) := of_decide_eq_true (by first | (with_reducible assumption) | assumption)
                have q103 : x5_1 < (l0.length : Int) := of_decide_eq_true (by first | (with_reducible assumption) | assumption)
                obtain ⟨ad103, e103, hx103_0, hx103_1, hx103_2⟩ := at_T27 HR0.out x5_1 p103 q103
                have hw103_2 := hx103_2
                have hw103_1 := hx103_1
                have hw103_0 := hx103_0
                obtain rfl : ad101 = ad103 := (by injection e103)
                replace hx103_0 := (HB.out.cell (World.block_lt_of_cell? w _ hx103_0)).trans hx103_0
                replace hx103_1 := (HB.out.cell (World.block_lt_of_cell? w _ hx103_1)).trans hx103_1
                replace hx103_2 := (HB.out.cell (World.block_lt_of_cell? w _ hx103_2)).trans hx103_2
                replace p103 := eq_true p103
                replace q103 := eq_true q103
                refine start_ (n := 8) (S := fun w' => w'.cell? (ad101.add ((x5_1).toNat * 3)) = some (.int .i64 ((rd_T27 l0 x5_1).f0)) ∧ w'.cell? ⟨(ad101.add ((x5_1).toNat * 3)).block, (ad101.add ((x5_1).toNat * 3)).off + 1, none⟩ = some (.int .i64 ((rd_T27 l0 x5_1).f1)) ∧ w'.cell? ⟨(ad101.add ((x5_1).toNat * 3)).block, (ad101.add ((x5_1).toNat * 3)).off + 2, none⟩ = some (.string ((rd_T27 l0 x5_1).f2))) (ds := []) laws_heldTokenS.y0 (by kernel_rfl) rfl rfl ⟨((HB.out.cell (World.block_lt_of_cell? w _ hw103_0)).trans hw103_0), ((HB.out.cell (World.block_lt_of_cell? w _ hw103_1)).trans hw103_1), ((HB.out.cell (World.block_lt_of_cell? w _ hw103_2)).trans hw103_2)⟩ (fun hHeld => ?_); refine with_tabW laws_heldTokenS.tab10 laws_heldTokenS.bits10 (fun HT_ HW_ => ?_)
                generalize wr.drew = w9 at HB hx103_0 hx103_1 hx103_2 hHeld ⊢
                refine pure_ (i := 0) (N := some 30) (v := ?_) (a' := ?_) laws_heldTokenS.y1 rfl rfl (any_of HT_.out (by kernel_rfl)) (fun _ _ _ h => h) (Or.inl ⟨by rfl, ?_⟩) ?_ ?_
                rotate_left
                · intro w'
                  go_simp
                  with_reducible rfl
                rotate_left
                · simp only [Act.put, List.setIfInBounds_toArray, List.set_cons_zero, List.set_cons_succ, i64_w, i32_w]
                  rfl
                refine pure_ (i := 1) (N := some 31) (v := ?_) (a' := ?_) laws_heldTokenS.y2 rfl rfl (any_of HT_.out (by kernel_rfl)) (fun _ _ _ h => h) (Or.inl ⟨by rfl, ?_⟩) ?_ ?_
                rotate_left
                · intro w'
                  go_simp
                  with_reducible rfl
                rotate_left
                · simp only [Act.put, List.setIfInBounds_toArray, List.set_cons_zero, List.set_cons_succ, i64_w, i32_w]
                  rfl
                refine pure_ (i := 2) (N := some 32) (v := ?_) (a' := ?_) laws_heldTokenS.y3 rfl rfl (any_of HT_.out (by kernel_rfl)) (fun _ _ _ h => h) (Or.inl ⟨by rfl, ?_⟩) ?_ ?_
                rotate_left
                · intro w'
                  go_simp
                  with_reducible rfl
                rotate_left
                · simp only [Act.put, List.setIfInBounds_toArray, List.set_cons_zero, List.set_cons_succ, i64_w, i32_w]
                  rfl
                refine pure_ (i := 3) (N := some 33) (v := ?_) (a' := ?_) laws_heldTokenS.y4 rfl rfl (any_of HT_.out (by kernel_rfl)) (fun _ _ _ h => h) (Or.inl ⟨by rfl, ?_⟩) ?_ ?_
                rotate_left
                · intro w'
                  go_simp
                  with_reducible rfl
                rotate_left
                · simp only [Act.put, List.setIfInBounds_toArray, List.set_cons_zero, List.set_cons_succ, i64_w, i32_w]
                  rfl
                refine pure_ (i := 5) (N := some 35) (v := ?_) (a' := ?_) laws_heldTokenS.y5 rfl rfl (any_of HT_.out (by kernel_rfl)) (fun _ _ _ h => h) (Or.inl ⟨by rfl, ?_⟩) ?_ ?_
                rotate_left
                · intro w'
                  go_simp
                  with_reducible rfl
                rotate_left
                · simp only [Act.put, List.setIfInBounds_toArray, List.set_cons_zero, List.set_cons_succ, i64_w, i32_w]
                  rfl
                refine take_ (i := 4) (N := some 34) (v := ?_) (a' := ?_) laws_heldTokenS.y6 rfl rfl (take_ofW HT_.out HW_.out (by kernel_rfl)) (fun _ _ _ h => h) (Or.inl ⟨by rfl, ?_⟩) hHeld ?_ ?_
                rotate_left
                · rintro w' ⟨s0, s1, s2⟩
                  go_simp
                  with_reducible rfl
                rotate_left
                · simp only [Act.put, List.setIfInBounds_toArray, List.set_cons_zero, List.set_cons_succ, i64_w, i32_w]
                  rfl
                refine one_ (i := 6) (N := some 36) laws_heldTokenS.y7 rfl rfl (one_of HT_.out (by kernel_rfl)) (by decide) (fun K hK => ?_)
                refine goes_ Tryd.func32 (by kernel_rfl) rfl #[.int .i64 (wrap64 ((wrap64 (x1_1 + 1)) + 1))] (by rfl) rfl rfl (by (try simp only [List.map_toArray, List.map_cons, List.map_nil]); first | done | rfl | (simp only [List.length_drop, List.length_take]; rfl)) ?_
                with_reducible refine (laws_markText.calls k1 (wrap64 ((wrap64 (x1_1 + 1)) + 1)) t104 _ A7.out).mono ?_
                rintro e w10 ⟨rfl, hb⟩
                refine ⟨_, rfl, ?_⟩
                have n0_ := Aside0.mk (below_step (by repeat (first | (with_reducible first | exact HB.out | apply below_alloc | apply pw_below_drewN | apply below_drew1) | exact HB.out)) hb)
                clear HB
                have HB := n0_
                clear n0_
                (try clear hb)
                (try clear hb2)
                (try clear hk)
                (try clear hi)
                refine hK.out _ _ ⟨((HB.out.cell (World.block_lt_of_cell? w _ hw103_0)).trans hw103_0), ((HB.out.cell (World.block_lt_of_cell? w _ hw103_1)).trans hw103_1), ((HB.out.cell (World.block_lt_of_cell? w _ hw103_2)).trans hw103_2)⟩ (fun hHeld => ?_)
                clear hK K
                refine norm_ (a' := ?_) ?_ ?_
                rotate_left
                · show Act.put _ (some 36) _ = _
                  simp only [Act.put, List.setIfInBounds_toArray, List.set_cons_zero, List.set_cons_succ, i64_w, i32_w]
                  rfl
                refine pure_ (i := 7) (N := some 37) (v := ?_) (a' := ?_) laws_heldTokenS.y8 rfl rfl (any_of HT_.out (by kernel_rfl)) (fun _ _ _ h => h) (Or.inl ⟨by rfl, ?_⟩) ?_ ?_
                rotate_left
                · intro w'
                  go_simp
                  with_reducible rfl
                rotate_left
                · simp only [Act.put, List.setIfInBounds_toArray, List.set_cons_zero, List.set_cons_succ, i64_w, i32_w]
                  rfl
                refine done_ (done_of HT_.out (by kernel_rfl)) ?_
                try go_wp2
                go_roundg k1
                case measure => have := HK1.out; omega
                case rel => exact ⟨(wrap64 ((wrap64 ((wrap64 (x1_1 + 1)) + 1)) + 1)), (wrap64 (x5_1 + 1)), (by first | rfl | (simp; done) | (simp [*]; done)), (by first | rfl | (simp; done) | (simp [*]; done)), H', ⟨by have := HK1.out; omega⟩, ⟨by repeat (first | (with_reducible first | exact HB.out | apply below_alloc | apply pw_below_drewN | apply below_drew1) | exact HB.out)⟩⟩
              · rw [if_neg c8] at H
                have c8b0 : (((rd_T27 l0 x5_1).f2).toList == t104.toList) = false := beq_eq_false_iff_ne.mpr c8
                have c8b1 : (((rd_T27 l0 x5_1).f2).toList != t104.toList) = true := bne_iff_ne.mpr c8
                obtain rfl := Option.some.inj H
                have p101 : 0 ≤ (x5_1 : Int) := of_decide_eq_true (by first | (with_reducible assumption) | assumption)
                have q101 : x5_1 < (l0.length : Int) := of_decide_eq_true (by first | (with_reducible assumption) | assumption)
                obtain ⟨ad101, e101, hx101_0, hx101_1, hx101_2⟩ := at_T27 HR0.out x5_1 p101 q101
                cases e101
                replace hx101_0 := (HB.out.cell (World.block_lt_of_cell? w _ hx101_0)).trans hx101_0
                replace hx101_1 := (HB.out.cell (World.block_lt_of_cell? w _ hx101_1)).trans hx101_1
                replace hx101_2 := (HB.out.cell (World.block_lt_of_cell? w _ hx101_2)).trans hx101_2
                replace p101 := eq_true p101
                replace q101 := eq_true q101
                have p102 : 0 ≤ (x5_1 : Int) := of_decide_eq_true (by first | (with_reducible assumption) | assumption)
                have q102 : x5_1 < (l0.length : Int) := of_decide_eq_true (by first | (with_reducible assumption) | assumption)
                obtain ⟨ad102, e102, hx102_0, hx102_1, hx102_2⟩ := at_T27 HR0.out x5_1 p102 q102
                obtain rfl : ad101 = ad102 := (by injection e102)
                replace hx102_0 := (HB.out.cell (World.block_lt_of_cell? w _ hx102_0)).trans hx102_0
                replace hx102_1 := (HB.out.cell (World.block_lt_of_cell? w _ hx102_1)).trans hx102_1
                replace hx102_2 := (HB.out.cell (World.block_lt_of_cell? w _ hx102_2)).trans hx102_2
                replace p102 := eq_true p102
                replace q102 := eq_true q102
                try go_wp2
                have n0_ := Aside0.mk (below_drew1 HB.out)
                clear HB
                have HB := n0_
                clear n0_
                have p103 : 0 ≤ (x5_1 : Int) := of_decide_eq_true (by first | (with_reducible assumption) | assumption)
                have q103 : x5_1 < (l0.length : Int) := of_decide_eq_true (by first | (with_reducible assumption) | assumption)
                obtain ⟨ad103, e103, hx103_0, hx103_1, hx103_2⟩ := at_T27 HR0.out x5_1 p103 q103
                have hw103_2 := hx103_2
                have hw103_1 := hx103_1
                have hw103_0 := hx103_0
                obtain rfl : ad101 = ad103 := (by injection e103)
                replace hx103_0 := (HB.out.cell (World.block_lt_of_cell? w _ hx103_0)).trans hx103_0
                replace hx103_1 := (HB.out.cell (World.block_lt_of_cell? w _ hx103_1)).trans hx103_1
                replace hx103_2 := (HB.out.cell (World.block_lt_of_cell? w _ hx103_2)).trans hx103_2
                replace p103 := eq_true p103
                replace q103 := eq_true q103
                refine start_ (n := 8) (S := fun w' => w'.cell? (ad101.add ((x5_1).toNat * 3)) = some (.int .i64 ((rd_T27 l0 x5_1).f0)) ∧ w'.cell? ⟨(ad101.add ((x5_1).toNat * 3)).block, (ad101.add ((x5_1).toNat * 3)).off + 1, none⟩ = some (.int .i64 ((rd_T27 l0 x5_1).f1)) ∧ w'.cell? ⟨(ad101.add ((x5_1).toNat * 3)).block, (ad101.add ((x5_1).toNat * 3)).off + 2, none⟩ = some (.string ((rd_T27 l0 x5_1).f2))) (ds := []) laws_heldTokenS.y0 (by kernel_rfl) rfl rfl ⟨((HB.out.cell (World.block_lt_of_cell? w _ hw103_0)).trans hw103_0), ((HB.out.cell (World.block_lt_of_cell? w _ hw103_1)).trans hw103_1), ((HB.out.cell (World.block_lt_of_cell? w _ hw103_2)).trans hw103_2)⟩ (fun hHeld => ?_); refine with_tabW laws_heldTokenS.tab10 laws_heldTokenS.bits10 (fun HT_ HW_ => ?_)
                generalize wr.drew = w11 at HB hx103_0 hx103_1 hx103_2 hHeld ⊢
                refine pure_ (i := 0) (N := some 30) (v := ?_) (a' := ?_) laws_heldTokenS.y1 rfl rfl (any_of HT_.out (by kernel_rfl)) (fun _ _ _ h => h) (Or.inl ⟨by rfl, ?_⟩) ?_ ?_
                rotate_left
                · intro w'
                  go_simp
                  with_reducible rfl
                rotate_left
                · simp only [Act.put, List.setIfInBounds_toArray, List.set_cons_zero, List.set_cons_succ, i64_w, i32_w]
                  rfl
                refine pure_ (i := 1) (N := some 31) (v := ?_) (a' := ?_) laws_heldTokenS.y2 rfl rfl (any_of HT_.out (by kernel_rfl)) (fun _ _ _ h => h) (Or.inl ⟨by rfl, ?_⟩) ?_ ?_
                rotate_left
                · intro w'
                  go_simp
                  with_reducible rfl
                rotate_left
                · simp only [Act.put, List.setIfInBounds_toArray, List.set_cons_zero, List.set_cons_succ, i64_w, i32_w]
                  rfl
                refine pure_ (i := 2) (N := some 32) (v := ?_) (a' := ?_) laws_heldTokenS.y3 rfl rfl (any_of HT_.out (by kernel_rfl)) (fun _ _ _ h => h) (Or.inl ⟨by rfl, ?_⟩) ?_ ?_
                rotate_left
                · intro w'
                  go_simp
                  with_reducible rfl
                rotate_left
                · simp only [Act.put, List.setIfInBounds_toArray, List.set_cons_zero, List.set_cons_succ, i64_w, i32_w]
                  rfl
                refine pure_ (i := 3) (N := some 33) (v := ?_) (a' := ?_) laws_heldTokenS.y4 rfl rfl (any_of HT_.out (by kernel_rfl)) (fun _ _ _ h => h) (Or.inl ⟨by rfl, ?_⟩) ?_ ?_
                rotate_left
                · intro w'
                  go_simp
                  with_reducible rfl
                rotate_left
                · simp only [Act.put, List.setIfInBounds_toArray, List.set_cons_zero, List.set_cons_succ, i64_w, i32_w]
                  rfl
                refine pure_ (i := 5) (N := some 35) (v := ?_) (a' := ?_) laws_heldTokenS.y5 rfl rfl (any_of HT_.out (by kernel_rfl)) (fun _ _ _ h => h) (Or.inl ⟨by rfl, ?_⟩) ?_ ?_
                rotate_left
                · intro w'
                  go_simp
                  with_reducible rfl
                rotate_left
                · simp only [Act.put, List.setIfInBounds_toArray, List.set_cons_zero, List.set_cons_succ, i64_w, i32_w]
                  rfl
                refine take_ (i := 4) (N := some 34) (v := ?_) (a' := ?_) laws_heldTokenS.y6 rfl rfl (take_ofW HT_.out HW_.out (by kernel_rfl)) (fun _ _ _ h => h) (Or.inl ⟨by rfl, ?_⟩) hHeld ?_ ?_
                rotate_left
                · rintro w' ⟨s0, s1, s2⟩
                  go_simp
                  with_reducible rfl
                rotate_left
                · simp only [Act.put, List.setIfInBounds_toArray, List.set_cons_zero, List.set_cons_succ, i64_w, i32_w]
                  rfl
                refine one_ (i := 6) (N := some 36) laws_heldTokenS.y7 rfl rfl (one_of HT_.out (by kernel_rfl)) (by decide) (fun K hK => ?_)
                refine goes_ Tryd.func32 (by kernel_rfl) rfl #[.int .i64 (wrap64 ((wrap64 (x1_1 + 1)) + 1))] (by rfl) rfl rfl (by (try simp only [List.map_toArray, List.map_cons, List.map_nil]); first | done | rfl | (simp only [List.length_drop, List.length_take]; rfl)) ?_
                with_reducible refine (laws_markText.calls k1 (wrap64 ((wrap64 (x1_1 + 1)) + 1)) t104 _ A7.out).mono ?_
                rintro e w12 ⟨rfl, hb⟩
                refine ⟨_, rfl, ?_⟩
                have n0_ := Aside0.mk (below_step (by repeat (first | (with_reducible first | exact HB.out | apply below_alloc | apply pw_below_drewN | apply below_drew1) | exact HB.out)) hb)
                clear HB
                have HB := n0_
                clear n0_
                (try clear hb)
                (try clear hb2)
                (try clear hk)
                (try clear hi)
                refine hK.out _ _ ⟨((HB.out.cell (World.block_lt_of_cell? w _ hw103_0)).trans hw103_0), ((HB.out.cell (World.block_lt_of_cell? w _ hw103_1)).trans hw103_1), ((HB.out.cell (World.block_lt_of_cell? w _ hw103_2)).trans hw103_2)⟩ (fun hHeld => ?_)
                clear hK K
                refine norm_ (a' := ?_) ?_ ?_
                rotate_left
                · show Act.put _ (some 36) _ = _
                  simp only [Act.put, List.setIfInBounds_toArray, List.set_cons_zero, List.set_cons_succ, i64_w, i32_w]
                  rfl
                refine pure_ (i := 7) (N := some 37) (v := ?_) (a' := ?_) laws_heldTokenS.y8 rfl rfl (any_of HT_.out (by kernel_rfl)) (fun _ _ _ h => h) (Or.inl ⟨by rfl, ?_⟩) ?_ ?_
                rotate_left
                · intro w'
                  go_simp
                  with_reducible rfl
                rotate_left
                · simp only [Act.put, List.setIfInBounds_toArray, List.set_cons_zero, List.set_cons_succ, i64_w, i32_w]
                  rfl
                refine done_ (done_of HT_.out (by kernel_rfl)) ?_
                try go_wp2
                go_ret
                exact ⟨by first | rfl | (simp [errW_none, errW_some] <;> rfl) | (simp [*, errW_none, errW_some] <;> rfl), by repeat (first | (with_reducible first | exact HB.out | apply below_alloc | apply pw_below_drewN | apply below_drew1) | exact HB.out)⟩
            · rw [if_neg c6] at H
              have c6b0 : (((rd_T27 l0 x5_1).f1) == (wrap64 (x1_1 + 1))) = false := beq_eq_false_iff_ne.mpr c6
              have c6b1 : (((rd_T27 l0 x5_1).f1) != (wrap64 (x1_1 + 1))) = true := bne_iff_ne.mpr c6
              obtain rfl := Option.some.inj H
              have p101 : 0 ≤ (x5_1 : Int) := of_decide_eq_true (by first | (with_reducible assumption) | assumption)
              have q101 : x5_1 < (l0.length : Int) := of_decide_eq_true (by first | (with_reducible assumption) | assumption)
              obtain ⟨ad101, e101, hx101_0, hx101_1, hx101_2⟩ := at_T27 HR0.out x5_1 p101 q101
              cases e101
              replace hx101_0 := (HB.out.cell (World.block_lt_of_cell? w _ hx101_0)).trans hx101_0
              replace hx101_1 := (HB.out.cell (World.block_lt_of_cell? w _ hx101_1)).trans hx101_1
              replace hx101_2 := (HB.out.cell (World.block_lt_of_cell? w _ hx101_2)).trans hx101_2
              replace p101 := eq_true p101
              replace q101 := eq_true q101
              have p102 : 0 ≤ (x5_1 : Int) := of_decide_eq_true (by first | (with_reducible assumption) | assumption)
              have q102 : x5_1 < (l0.length : Int) := of_decide_eq_true (by first | (with_reducible assumption) | assumption)
              obtain ⟨ad102, e102, hx102_0, hx102_1, hx102_2⟩ := at_T27 HR0.out x5_1 p102 q102
              obtain rfl : ad101 = ad102 := (by injection e102)
              replace hx102_0 := (HB.out.cell (World.block_lt_of_cell? w _ hx102_0)).trans hx102_0
              replace hx102_1 := (HB.out.cell (World.block_lt_of_cell? w _ hx102_1)).trans hx102_1
              replace hx102_2 := (HB.out.cell (World.block_lt_of_cell? w _ hx102_2)).trans hx102_2
              replace p102 := eq_true p102
              replace q102 := eq_true q102
              go_wp2
              go_ret
              exact ⟨by first | rfl | (simp [errW_none, errW_some] <;> rfl) | (simp [*, errW_none, errW_some] <;> rfl), by repeat (first | (with_reducible first | exact HB.out | apply below_alloc | apply pw_below_drewN | apply below_drew1) | exact HB.out)⟩
          · rw [if_neg c5] at H
            have c5b0 : (((rd_T27 l0 x5_1).f0) == x1_1) = false := beq_eq_false_iff_ne.mpr c5
            have c5b1 : (((rd_T27 l0 x5_1).f0) != x1_1) = true := bne_iff_ne.mpr c5
            obtain rfl := Option.some.inj H
            have p101 : 0 ≤ (x5_1 : Int) := of_decide_eq_true (by first | (with_reducible assumption) | assumption)
            have q101 : x5_1 < (l0.length : Int) := of_decide_eq_true (by first | (with_reducible assumption) | assumption)
            obtain ⟨ad101, e101, hx101_0, hx101_1, hx101_2⟩ := at_T27 HR0.out x5_1 p101 q101
            cases e101
            replace hx101_0 := (HB.out.cell (World.block_lt_of_cell? w _ hx101_0)).trans hx101_0
            replace hx101_1 := (HB.out.cell (World.block_lt_of_cell? w _ hx101_1)).trans hx101_1
            replace hx101_2 := (HB.out.cell (World.block_lt_of_cell? w _ hx101_2)).trans hx101_2
            replace p101 := eq_true p101
            replace q101 := eq_true q101
            go_wp2
            go_ret
            exact ⟨by first | rfl | (simp [errW_none, errW_some] <;> rfl) | (simp [*, errW_none, errW_some] <;> rfl), by repeat (first | (with_reducible first | exact HB.out | apply below_alloc | apply pw_below_drewN | apply below_drew1) | exact HB.out)⟩
        · rw [if_neg c4] at H
          exact absurd H (by simp)
      · rw [if_neg c3] at H
        have c3b0 : decide (x5_1 < (l0.length : Int)) = false := decide_eq_false c3
        clear c3
        obtain rfl := Option.some.inj H
        go_wp2
        go_ret
        exact ⟨by first | rfl | (simp [errW_none, errW_some] <;> rfl) | (simp [*, errW_none, errW_some] <;> rfl), by repeat (first | (with_reducible first | exact HB.out | apply below_alloc | apply pw_below_drewN | apply below_drew1) | exact HB.out)⟩

end Go.Proofs.YtolickgnncfmeaaDoor.Q
namespace Go.Proofs.YtolickgnncfmeaaDoor.Q
open Go.RowKit Go.Proofs.YtolickgnncfmeaaDoorW.PrintWords Go.Proofs.YtolickgnncfmeaaDoorW.PrintLast Go.Proofs.YtolickgnncfmeaaDoorW.PrintMore
attribute [local go_sem] max2_int min2_int max_two min_two max_three min_three max_four min_four   -- for this text's walks alone
set_option linter.unusedVariables false
set_option linter.unusedSimpArgs false

/-! ### a law's walk: small words -/
theorem lw5_hxr {w wf W W' : World} {P : Nat → Prop} (hx : Below wf.heap.size wf W) (hB : Below w.heap.size w W) (hb : Below w.heap.size w W') (hk : Kept W W' P) (hP : ∀ k, P k → wf.heap.size ≤ k) : Below wf.heap.size wf W' :=
  ⟨hb.os.trans (hB.os.symm.trans hx.os), hb.tape.trans (hB.tape.symm.trans hx.tape), hb.output.trans (hB.output.symm.trans hx.output), Nat.le_trans hx.size hk.1, fun k hlt => (hk.2 k (Nat.lt_of_lt_of_le hlt hx.size) (fun hp => absurd (hP k hp) (Nat.not_le_of_lt hlt))).trans (hx.block k hlt)⟩
theorem lw5_iv {W W' : World} {n : Nat} (hn : n ≤ W.heap.size) (hb : W.heap.size ≤ W'.heap.size) : ∃ lo hi, lo = W.heap.size ∧ hi = W'.heap.size ∧ (n ≤ lo ∧ lo ≤ hi) := ⟨_, _, rfl, rfl, hn, hb⟩
theorem lw5_need {α : Type} {p : Prop} [Decidable p] {X : Option α} {r : α} (h : (if p then X else none) = some r) : p ∧ X = some r := by
  by_cases c : p
  · rw [if_pos c] at h; exact ⟨c, h⟩
  · rw [if_neg c] at h; cases h
def lw5_sets (g : Nat) : Nat → List Value → World → World
  | _, [], w => w
  | j, v :: vs, w => lw5_sets g (j + 1) vs (w.setCell ⟨g, j, none⟩ v)
def lw5_all : Nat → List Value → Array Value → Array Value
  | _, [], cs => cs
  | j, v :: vs, cs => lw5_all (j + 1) vs (cs.setIfInBounds j v)
theorem lw5_sets_heap {g t : Nat} : ∀ (vs : List Value) (j : Nat) (cs : Array Value) (w : World), w.heap[g]? = some (.cells cs t (0, 0)) → (lw5_sets g j vs w).heap[g]? = some (.cells (lw5_all j vs cs) t (0, 0))
  | [], _, _, _, h => h
  | v :: vs, j, cs, w, h => lw5_sets_heap vs (j + 1) _ _ (blk_set h j v)
theorem lw5_sets_kept {g : Nat} : ∀ (vs : List Value) (j : Nat) (w : World), Kept w (lw5_sets g j vs w) (fun k_ => g ≤ k_ ∧ k_ < g + 1)
  | [], _, w => Kept.refl w _
  | v :: vs, j, w => Kept.then_ (Kept.setCell (Kept.refl w _) (.inl (show g ≤ g ∧ g < g + 1 from ⟨Nat.le_refl _, Nat.lt_succ_self _⟩)) v) (lw5_sets_kept vs (j + 1) _) (fun _ h => .inl h)
theorem lw5_sets_below {g : Nat} {w0 : World} (hg : w0.heap.size ≤ g) : ∀ (vs : List Value) (j : Nat) (w : World), Below w0.heap.size w0 w → Below w0.heap.size w0 (lw5_sets g j vs w)
  | [], _, _, h => h
  | v :: vs, j, w, h => lw5_sets_below hg vs (j + 1) _ (below_set h hg)
theorem lw5_store {P : Program} {ops : Array Oper} {o : Oper} {a : Act} {Q : Exit → Act → World → Prop} {Kc : Act → World → Prop} {w0 W : World} (g t : Nat) (vs : List Value) (cs : Array Value) (hw : Region.wanted o (yielded ops a.tmps) = true) (hN : o.dst = none)
    (hrun : (execOp a.eval o).run P W = .ok .skip (lw5_sets g 0 vs W)) (hg : w0.heap.size ≤ g) (HB : Below w0.heap.size w0 W) (hb : W.heap[g]? = some (.cells cs t (0, 0)))
    (h : ∀ w1, w1.heap[g]? = some (.cells (lw5_all 0 vs cs) t (0, 0)) → Kept W w1 (fun k_ => g ≤ k_ ∧ k_ < g + 1) → Below w0.heap.size w0 w1 → Kc a w1) : if Region.wanted o (yielded ops a.tmps) = true then Oper.wp P o a W Kc Q else Kc (a.put none undef) W := by
  rw [if_pos hw]
  unfold Oper.wp
  rw [hrun]
  show Kc (a.put o.dst undef) _
  rw [hN]
  exact h _ (lw5_sets_heap vs 0 cs W hb) (lw5_sets_kept vs 0 W) (lw5_sets_below hg vs 0 W HB)
theorem lw5_no {lo hi a b k : Nat} (h1 : lo ≤ k ∧ k < hi) (h2 : a ≤ k ∧ k < b) (h : hi ≤ a ∨ b ≤ lo) : False := by omega
theorem lw5_no2 {lo hi a b c d k : Nat} (h1 : lo ≤ k ∧ k < hi) (h2 : (a ≤ k ∧ k < b) ∨ (c ≤ k ∧ k < d)) (h : (hi ≤ a ∨ b ≤ lo) ∧ (hi ≤ c ∨ d ≤ lo)) : False := by omega
theorem lw5_no3 {lo hi a b c d x y k : Nat} (h1 : lo ≤ k ∧ k < hi) (h2 : (a ≤ k ∧ k < b) ∨ (c ≤ k ∧ k < d) ∨ (x ≤ k ∧ k < y)) (h : (hi ≤ a ∨ b ≤ lo) ∧ (hi ≤ c ∨ d ≤ lo) ∧ (hi ≤ x ∨ y ≤ lo)) : False := by omega
theorem lw5_on {lo hi c d a b k : Nat} (h1 : (lo ≤ k ∧ k < hi) ∨ (c ≤ k ∧ k < d)) (h2 : a ≤ k ∧ k < b) (h : (hi ≤ a ∨ b ≤ lo) ∧ (d ≤ a ∨ b ≤ c)) : False := by omega
theorem lw5_on2 {lo hi c d a b x y k : Nat} (h1 : (lo ≤ k ∧ k < hi) ∨ (c ≤ k ∧ k < d)) (h2 : (a ≤ k ∧ k < b) ∨ (x ≤ k ∧ k < y)) (h : ((hi ≤ a ∨ b ≤ lo) ∧ (d ≤ a ∨ b ≤ c)) ∧ ((hi ≤ x ∨ y ≤ lo) ∧ (d ≤ x ∨ y ≤ c))) : False := by omega
theorem lw5_ivk {W W' : World} {S : Nat → Prop} {n : Nat} (hk : Kept W W' S) (hn : n ≤ W.heap.size) : ∃ lo hi, lo = W.heap.size ∧ hi = W'.heap.size ∧ (n ≤ lo ∧ lo ≤ hi) := ⟨_, _, rfl, rfl, hn, hk.1⟩
theorem lw5_hx {w0 W wn : World} (_hb : Below W.heap.size W wn) (hx : Below w0.heap.size w0 W) : Below w0.heap.size w0 W := hx
theorem lw5_bind {α β : Type} {X : Option α} {f : α → Option β} {r : β} (h : X.bind f = some r) : ∃ x, X = some x ∧ f x = some r := Option.bind_eq_some_iff.mp h
theorem lw5_draw {P : Program} {Q : Exit → Act → World → Prop} {id : Nat} {ops : Array Oper} {a : Act} {W : World} (h : ∀ w1, w1 = W → Below W.heap.size W w1 → (Code.region id ops true).wp P Q a w1) : (Code.region id ops true).wp P Q a W := h W rfl (Below.refl _ _)
theorem lw5_lt {W w' : World} {g : Nat} {o : Obj} (hb : Below W.heap.size W w') (h : W.heap[g]? = some o) : g + 1 ≤ W.heap.size ∧ w'.heap[g]? = some o := ⟨blk_lt h, blk_below h hb⟩
/-! ### laws_FnExactLex: function 5 -/
def laws_FnExactLex.f (k : Nat) (a0 : ByteArray) : Option (Bool) := (if 1048576 < (a0.size : Int) then (some true) else ((spec_Lex.f k a0).bind fun b1_ => ((impl_Lex.f k a0).bind fun b2_ => ((laws_eqTokenS.f k b2_.1 b1_.1).bind fun b3_ => (if b3_ = true then (if b2_.2 = b1_.2 then ((laws_markTokenS.f k b2_.1 1).bind fun b6_ => ((laws_heldTokenS.f k b6_.2 1).bind fun b7_ => (if ¬ (b7_ < 0) then (if b7_ = b6_.1 then ((impl_Lex.f k a0).bind fun b10_ => ((laws_eqTokenS.f k b10_.1 b1_.1).bind fun b11_ => (if b11_ = true then (if b10_.2 = b1_.2 then ((laws_heldTokenS.f k b6_.2 1).bind fun b14_ => (if ¬ (b14_ < 0) then (if b14_ = b6_.1 then (some true) else (none)) else (none))) else (none)) else (none)))) else (none)) else (none)))) else (none)) else (none))))))
set_option maxHeartbeats 8000000 in
set_option maxRecDepth 100000 in
theorem laws_FnExactLex.calls (k : Nat) (a0 : ByteArray) (r : Bool) (w : World) (h : laws_FnExactLex.f k a0 = some r) (htab : Tb w) :
    Calls Tryd.prog 5 #[.string a0] w fun e w' => e = .returned (.bool r) ∧ Below w.heap.size w w' := by
  have HTAB := Aside0.mk htab
  clear htab
  have HB := Aside0.mk (Below.refl w.heap.size w)
  have HX := Aside0.mk (Below.refl w.heap.size w)
  have HN := Aside0.mk (Nat.le_refl w.heap.size)
  have H : (if 1048576 < (a0.size : Int) then (some true) else ((spec_Lex.f k a0).bind fun b1_ => ((impl_Lex.f k a0).bind fun b2_ => ((laws_eqTokenS.f k b2_.1 b1_.1).bind fun b3_ => (if b3_ = true then (if b2_.2 = b1_.2 then ((laws_markTokenS.f k b2_.1 1).bind fun b6_ => ((laws_heldTokenS.f k b6_.2 1).bind fun b7_ => (if ¬ (b7_ < 0) then (if b7_ = b6_.1 then ((impl_Lex.f k a0).bind fun b10_ => ((laws_eqTokenS.f k b10_.1 b1_.1).bind fun b11_ => (if b11_ = true then (if b10_.2 = b1_.2 then ((laws_heldTokenS.f k b6_.2 1).bind fun b14_ => (if ¬ (b14_ < 0) then (if b14_ = b6_.1 then (some true) else (none)) else (none))) else (none)) else (none)))) else (none)) else (none)))) else (none)) else (none)))))) = some r := h
  clear h
  by_cases c0 : 1048576 < (a0.size : Int)
  · rw [if_pos c0] at H
    have c0b : decide (1048576 < (a0.size : Int)) = true := decide_eq_true c0
    clear c0
    obtain rfl := Option.some.inj H
    go_enter Tryd.func5, Tryd.ntmps5
    try go_wp2
    go_ret
    exact ⟨by first | rfl | (simp [*]; done), below_step HB.out (by repeat (first | (with_reducible first | exact HX.out | apply below_alloc | apply pw_below_drewN | apply below_drew1) | exact HX.out))⟩
  · rw [if_neg c0] at H
    have c0b : decide (1048576 < (a0.size : Int)) = false := decide_eq_false c0
    clear c0
    obtain ⟨⟨t1, t2⟩, A0_, H⟩ := lw5_bind H
    (try dsimp only at H)
    have A3 := Aside0.mk A0_
    clear A0_
    obtain ⟨⟨t8, t9⟩, A0_, H⟩ := lw5_bind H
    (try dsimp only at H)
    have A10 := Aside0.mk A0_
    clear A0_
    obtain ⟨t15, A0_, H⟩ := lw5_bind H
    (try dsimp only at H)
    have A16 := Aside0.mk A0_
    clear A0_
    replace H := lw5_need H
    obtain ⟨c4, H⟩ := H
    subst c4
    replace H := lw5_need H
    obtain ⟨c5, H⟩ := H
    have c5b0 : (t9 == t2) = true := beq_iff_eq.mpr c5
    have c5b1 : (t9 != t2) = false := bne_eq_false_iff_eq.mpr c5
    clear c5
    obtain ⟨⟨t19, t20⟩, A0_, H⟩ := lw5_bind H
    (try dsimp only at H)
    have A21 := Aside0.mk A0_
    clear A0_
    obtain ⟨t25, A0_, H⟩ := lw5_bind H
    (try dsimp only at H)
    have A26 := Aside0.mk A0_
    clear A0_
    replace H := lw5_need H
    obtain ⟨c8, H⟩ := H
    have c8b0 : decide (t25 < 0) = false := decide_eq_false c8
    clear c8
    replace H := lw5_need H
    obtain ⟨c9, H⟩ := H
    have c9b0 : (t25 == t19) = true := beq_iff_eq.mpr c9
    have c9b1 : (t25 != t19) = false := bne_eq_false_iff_eq.mpr c9
    clear c9
    obtain ⟨⟨t29, t30⟩, A0_, H⟩ := lw5_bind H
    (try dsimp only at H)
    have A31 := Aside0.mk A0_
    clear A0_
    obtain ⟨t36, A0_, H⟩ := lw5_bind H
    (try dsimp only at H)
    have A37 := Aside0.mk A0_
    clear A0_
    replace H := lw5_need H
    obtain ⟨c12, H⟩ := H
    subst c12
    replace H := lw5_need H
    obtain ⟨c13, H⟩ := H
    have c13b0 : (t30 == t2) = true := beq_iff_eq.mpr c13
    have c13b1 : (t30 != t2) = false := bne_eq_false_iff_eq.mpr c13
    clear c13
    obtain ⟨t40, A0_, H⟩ := lw5_bind H
    (try dsimp only at H)
    have A41 := Aside0.mk A0_
    clear A0_
    replace H := lw5_need H
    obtain ⟨c15, H⟩ := H
    have c15b0 : decide (t40 < 0) = false := decide_eq_false c15
    clear c15
    replace H := lw5_need H
    obtain ⟨c16, H⟩ := H
    have c16b0 : (t40 == t19) = true := beq_iff_eq.mpr c16
    have c16b1 : (t40 != t19) = false := bne_eq_false_iff_eq.mpr c16
    clear c16
    obtain rfl := Option.some.inj H
    go_enter Tryd.func5, Tryd.ntmps5
    go_wp2_with (first | ((with_reducible refine gate_callee (f := 15) rfl ?_); refine goesL_ (some 16) rfl rfl Tryd.func15 (by kernel_rfl) rfl #[.string a0] rfl (by (try simp only [List.map_toArray, List.map_cons, List.map_nil]); first | done | rfl) ?_; (with_reducible refine (spec_Lex.calls k a0 t1 t2 _ A3.out).mono ?_); rintro e w4 ⟨vt1, rfl, ho0, hb⟩; refine ⟨_, rfl, ?_⟩; have hx_ := lw5_hx hb (by repeat (first | (with_reducible first | exact HX.out | apply below_alloc | apply pw_below_drewN | apply below_drew1) | exact HX.out)); have hbt := below_step hx_ hb; obtain ⟨lo5, hi5, hl_, hh_, hc_⟩ := lw5_iv (Nat.le_trans HN.out (below_size hx_)) hb.size; have CHlo5 := Aside0.mk (show w.heap.size ≤ lo5 ∧ lo5 ≤ hi5 from hc_); clear hc_; have HO6 := Aside0.mk (Kd.R_mono (ok' := fun k_ => lo5 ≤ k_ ∧ k_ < hi5) (Kd.R_lower (Kd.R_bound ho0) (below_size (below_step HB.out hx_))) (fun k_ hk_ => ⟨by rw [hl_]; exact hk_.2.1, by rw [hh_]; exact hk_.2.2.1⟩)); replace HN := Aside0.mk ((show hi5 ≤ w4.heap.size from Nat.le_of_eq hh_)); replace HB := Aside0.mk (below_step HB.out hbt); replace HX := Aside0.mk (Below.refl w4.heap.size w4); clear hb hbt hx_ hl_ hh_; (try clear ho0); obtain ⟨Aoo7, coo7, eoo7⟩ := Kd.R_slice HO6.out; (first | subst eoo7 | (injection eoo7 with f1_ f2_ f3_; have f4_ := f1_.symm; have f5_ := f3_.symm; clear f1_ f2_ f3_; subst f4_; subst f5_)); skip) | ((with_reducible refine gate_callee (f := 16) rfl ?_); refine goesL_ (some 21) rfl rfl Tryd.func16 (by kernel_rfl) rfl #[.string a0] rfl (by (try simp only [List.map_toArray, List.map_cons, List.map_nil]); first | done | rfl) ?_; (with_reducible refine (impl_Lex.calls k a0 t8 t9 _ A10.out (by first | exact tb_below HTAB.out HB.out | exact tb_below HTAB.out (below_step HB.out HX.out) | (refine tb_below HTAB.out ?_; repeat (first | (with_reducible first | exact HB.out | apply below_alloc | apply pw_below_drewN | apply below_drew1 ) | exact HB.out)))).mono ?_); rintro e w11 ⟨vt8, rfl, ho0, hb⟩; refine ⟨_, rfl, ?_⟩; have hx_ := lw5_hx hb (by repeat (first | (with_reducible first | exact HX.out | apply below_alloc | apply pw_below_drewN | apply below_drew1) | exact HX.out)); have hbt := below_step hx_ hb; obtain ⟨lo12, hi12, hl_, hh_, hc_⟩ := lw5_iv (Nat.le_trans HN.out (below_size hx_)) hb.size; have CHlo12 := Aside0.mk (show hi5 ≤ lo12 ∧ lo12 ≤ hi12 from hc_); clear hc_; replace HO6 := Aside0.mk (Kd.R_below HO6.out hbt); have HO13 := Aside0.mk (Kd.R_mono (ok' := fun k_ => lo12 ≤ k_ ∧ k_ < hi12) (Kd.R_lower (Kd.R_bound ho0) (below_size (below_step HB.out hx_))) (fun k_ hk_ => ⟨by rw [hl_]; exact hk_.2.1, by rw [hh_]; exact hk_.2.2.1⟩)); replace HN := Aside0.mk ((show hi12 ≤ w11.heap.size from Nat.le_of_eq hh_)); replace HB := Aside0.mk (below_step HB.out hbt); replace HX := Aside0.mk (Below.refl w11.heap.size w11); clear hb hbt hx_ hl_ hh_; (try clear ho0); obtain ⟨Aoo14, coo14, eoo14⟩ := Kd.R_slice HO13.out; (first | subst eoo14 | (injection eoo14 with f1_ f2_ f3_; have f4_ := f1_.symm; have f5_ := f3_.symm; clear f1_ f2_ f3_; subst f4_; subst f5_)); skip) | ((with_reducible refine gate_callee (f := 14) rfl ?_); refine goesL_ (some 26) rfl rfl Tryd.func14 (by kernel_rfl) rfl #[.slice Aoo14 t8.length coo14, .slice Aoo7 t1.length coo7] rfl (by (try simp only [List.map_toArray, List.map_cons, List.map_nil]); first | done | rfl) ?_; (with_reducible refine (laws_eqTokenS.calls k _ _ t8 _ _ t1 true _ ?side1 ?side2 ?side3 ?side4 A16.out).mono ?_); (case side1 => exact Kd.C_below (Kd.R_reads' HO13.out).2.2 (by repeat (first | (with_reducible first | exact HX.out | apply below_alloc | apply pw_below_drewN | apply below_drew1) | exact HX.out))); (case side2 => have z_ := Kd.R_reads' HO13.out; have y_ := z_.1; have x_ := z_.2.1; omega); (case side3 => exact Kd.C_below (Kd.R_reads' HO6.out).2.2 (by repeat (first | (with_reducible first | exact HX.out | apply below_alloc | apply pw_below_drewN | apply below_drew1) | exact HX.out))); (case side4 => have z_ := Kd.R_reads' HO6.out; have y_ := z_.1; have x_ := z_.2.1; omega); rintro e w17 ⟨rfl, hb⟩; refine ⟨_, rfl, ?_⟩; have hx_ := lw5_hx hb (by repeat (first | (with_reducible first | exact HX.out | apply below_alloc | apply pw_below_drewN | apply below_drew1) | exact HX.out)); have hbt := below_step hx_ hb; replace HO6 := Aside0.mk (Kd.R_below HO6.out hbt); replace HO13 := Aside0.mk (Kd.R_below HO13.out hbt); replace HN := Aside0.mk (Nat.le_trans (Nat.le_trans HN.out (below_size hx_)) hb.size); replace HB := Aside0.mk (below_step HB.out hbt); replace HX := Aside0.mk (Below.refl w17.heap.size w17); clear hb hbt hx_; skip) | ((with_reducible refine gate_callee (f := 17) rfl ?_); refine goesL_ (some 35) rfl rfl Tryd.func17 (by kernel_rfl) rfl #[.slice Aoo14 t8.length coo14, .int .i64 1] rfl (by (try simp only [List.map_toArray, List.map_cons, List.map_nil]); first | done | rfl) ?_; (with_reducible refine (laws_markTokenS.calls k (fun k_ => lo12 ≤ k_ ∧ k_ < hi12) _ t8 1 t19 t20 w _ ?sB ?s0 A21.out).mono ?_); (case sB => exact below_step HB.out (by repeat (first | (with_reducible first | exact HX.out | apply below_alloc | apply pw_below_drewN | apply below_drew1) | exact HX.out))); (case s0 => exact Kd.R_below HO13.out (by repeat (first | (with_reducible first | exact HX.out | apply below_alloc | apply pw_below_drewN | apply below_drew1) | exact HX.out))); rintro e w22 ⟨rfl, hy0, hb0, hkp⟩; refine ⟨_, rfl, ?_⟩; have hkt := Kept.then_ (Kept.of_below (by repeat (first | (with_reducible first | exact HX.out | apply below_alloc | apply pw_below_drewN | apply below_drew1) | exact HX.out)) (fun k_ => (lo12 ≤ k_ ∧ k_ < hi12))) hkp (fun k_ h_ => .inl h_); have zz_ := And.intro CHlo5.out (CHlo12.out); obtain ⟨lo23, hi23, hl_, hh_, hc_⟩ := lw5_ivk hkp (Nat.le_trans HN.out (below_size (by repeat (first | (with_reducible first | exact HX.out | apply below_alloc | apply pw_below_drewN | apply below_drew1) | exact HX.out)))); have CHlo23 := Aside0.mk (show hi12 ≤ lo23 ∧ lo23 ≤ hi23 from hc_); clear hc_; replace HO6 := Aside0.mk (Kd.R_kept HO6.out hkt (fun _ h1_ h2_ => lw5_no h1_ h2_ (by omega))); replace HO13 := Aside0.mk ((show Kd.R k27 27 w22 w.heap.size (fun k_ => (lo12 ≤ k_ ∧ k_ < hi12) ∨ (lo23 ≤ k_ ∧ k_ < hi23)) (.slice Aoo14 t8.length coo14) t20 from Kd.R_mono (Kd.R_bound hy0) (fun _ hk_ => hk_.1.elim (fun z_ => .inl z_) (fun z_ => .inr ⟨by rw [hl_]; exact z_, by rw [hh_]; exact hk_.2.2.1⟩)))); replace HN := Aside0.mk ((show hi23 ≤ w22.heap.size from Nat.le_of_eq hh_)); replace HB := Aside0.mk (hb0); replace HX := Aside0.mk (Below.refl w22.heap.size w22); clear hkp hb0 hkt zz_ hl_ hh_; (try clear hy0); have LEN24 := Aside0.mk (Kd.R_reads' HO13.out).1; skip) | ((with_reducible refine gate_callee (f := 18) rfl ?_); refine goesL_ (some 38) rfl rfl Tryd.func18 (by kernel_rfl) rfl #[.slice Aoo14 t20.length coo14, .int .i64 1] rfl (by (try simp only [List.map_toArray, List.map_cons, List.map_nil]); first | done | rfl | (simp only [LEN24.out]; rfl)) ?_; (with_reducible refine (laws_heldTokenS.calls k _ _ t20 1 t25 _ ?side1 ?side2 A26.out).mono ?_); (case side1 => exact Kd.C_below (Kd.R_reads' HO13.out).2.2 (by repeat (first | (with_reducible first | exact HX.out | apply below_alloc | apply pw_below_drewN | apply below_drew1) | exact HX.out))); (case side2 => have z_ := Kd.R_reads' HO13.out; have y_ := z_.1; have x_ := z_.2.1; omega); rintro e w27 ⟨rfl, hb⟩; refine ⟨_, rfl, ?_⟩; have hx_ := lw5_hx hb (by repeat (first | (with_reducible first | exact HX.out | apply below_alloc | apply pw_below_drewN | apply below_drew1) | exact HX.out)); have hbt := below_step hx_ hb; replace HO6 := Aside0.mk (Kd.R_below HO6.out hbt); replace HO13 := Aside0.mk (Kd.R_below HO13.out hbt); replace HN := Aside0.mk (Nat.le_trans (Nat.le_trans HN.out (below_size hx_)) hb.size); replace HB := Aside0.mk (below_step HB.out hbt); replace HX := Aside0.mk (Below.refl w27.heap.size w27); clear hb hbt hx_; skip) | ((with_reducible refine gate_callee (f := 16) rfl ?_); refine goesL_ (some 46) rfl rfl Tryd.func16 (by kernel_rfl) rfl #[.string a0] rfl (by (try simp only [List.map_toArray, List.map_cons, List.map_nil]); first | done | rfl) ?_; (with_reducible refine (impl_Lex.calls k a0 t29 t30 _ A31.out (by first | exact tb_below HTAB.out HB.out | exact tb_below HTAB.out (below_step HB.out HX.out) | (refine tb_below HTAB.out ?_; repeat (first | (with_reducible first | exact HB.out | apply below_alloc | apply pw_below_drewN | apply below_drew1 ) | exact HB.out)))).mono ?_); rintro e w32 ⟨vt29, rfl, ho0, hb⟩; refine ⟨_, rfl, ?_⟩; have hx_ := lw5_hx hb (by repeat (first | (with_reducible first | exact HX.out | apply below_alloc | apply pw_below_drewN | apply below_drew1) | exact HX.out)); have hbt := below_step hx_ hb; obtain ⟨lo33, hi33, hl_, hh_, hc_⟩ := lw5_iv (Nat.le_trans HN.out (below_size hx_)) hb.size; have CHlo33 := Aside0.mk (show hi23 ≤ lo33 ∧ lo33 ≤ hi33 from hc_); clear hc_; replace HO6 := Aside0.mk (Kd.R_below HO6.out hbt); replace HO13 := Aside0.mk (Kd.R_below HO13.out hbt); have HO34 := Aside0.mk (Kd.R_mono (ok' := fun k_ => lo33 ≤ k_ ∧ k_ < hi33) (Kd.R_lower (Kd.R_bound ho0) (below_size (below_step HB.out hx_))) (fun k_ hk_ => ⟨by rw [hl_]; exact hk_.2.1, by rw [hh_]; exact hk_.2.2.1⟩)); replace HN := Aside0.mk ((show hi33 ≤ w32.heap.size from Nat.le_of_eq hh_)); replace HB := Aside0.mk (below_step HB.out hbt); replace HX := Aside0.mk (Below.refl w32.heap.size w32); clear hb hbt hx_ hl_ hh_; (try clear ho0); obtain ⟨Aoo35, coo35, eoo35⟩ := Kd.R_slice HO34.out; (first | subst eoo35 | (injection eoo35 with f1_ f2_ f3_; have f4_ := f1_.symm; have f5_ := f3_.symm; clear f1_ f2_ f3_; subst f4_; subst f5_)); skip) | ((with_reducible refine gate_callee (f := 14) rfl ?_); refine goesL_ (some 51) rfl rfl Tryd.func14 (by kernel_rfl) rfl #[.slice Aoo35 t29.length coo35, .slice Aoo7 t1.length coo7] rfl (by (try simp only [List.map_toArray, List.map_cons, List.map_nil]); first | done | rfl) ?_; (with_reducible refine (laws_eqTokenS.calls k _ _ t29 _ _ t1 true _ ?side1 ?side2 ?side3 ?side4 A37.out).mono ?_); (case side1 => exact Kd.C_below (Kd.R_reads' HO34.out).2.2 (by repeat (first | (with_reducible first | exact HX.out | apply below_alloc | apply pw_below_drewN | apply below_drew1) | exact HX.out))); (case side2 => have z_ := Kd.R_reads' HO34.out; have y_ := z_.1; have x_ := z_.2.1; omega); (case side3 => exact Kd.C_below (Kd.R_reads' HO6.out).2.2 (by repeat (first | (with_reducible first | exact HX.out | apply below_alloc | apply pw_below_drewN | apply below_drew1) | exact HX.out))); (case side4 => have z_ := Kd.R_reads' HO6.out; have y_ := z_.1; have x_ := z_.2.1; omega); rintro e w38 ⟨rfl, hb⟩; refine ⟨_, rfl, ?_⟩; have hx_ := lw5_hx hb (by repeat (first | (with_reducible first | exact HX.out | apply below_alloc | apply pw_below_drewN | apply below_drew1) | exact HX.out)); have hbt := below_step hx_ hb; replace HO6 := Aside0.mk (Kd.R_below HO6.out hbt); replace HO13 := Aside0.mk (Kd.R_below HO13.out hbt); replace HO34 := Aside0.mk (Kd.R_below HO34.out hbt); replace HN := Aside0.mk (Nat.le_trans (Nat.le_trans HN.out (below_size hx_)) hb.size); replace HB := Aside0.mk (below_step HB.out hbt); replace HX := Aside0.mk (Below.refl w38.heap.size w38); clear hb hbt hx_; skip) | ((with_reducible refine gate_callee (f := 18) rfl ?_); refine goesL_ (some 60) rfl rfl Tryd.func18 (by kernel_rfl) rfl #[.slice Aoo14 t20.length coo14, .int .i64 1] rfl (by (try simp only [List.map_toArray, List.map_cons, List.map_nil]); first | done | rfl | (simp only [LEN24.out]; rfl)) ?_; (with_reducible refine (laws_heldTokenS.calls k _ _ t20 1 t40 _ ?side1 ?side2 A41.out).mono ?_); (case side1 => exact Kd.C_below (Kd.R_reads' HO13.out).2.2 (by repeat (first | (with_reducible first | exact HX.out | apply below_alloc | apply pw_below_drewN | apply below_drew1) | exact HX.out))); (case side2 => have z_ := Kd.R_reads' HO13.out; have y_ := z_.1; have x_ := z_.2.1; omega); rintro e w42 ⟨rfl, hb⟩; refine ⟨_, rfl, ?_⟩; have hx_ := lw5_hx hb (by repeat (first | (with_reducible first | exact HX.out | apply below_alloc | apply pw_below_drewN | apply below_drew1) | exact HX.out)); have hbt := below_step hx_ hb; replace HO6 := Aside0.mk (Kd.R_below HO6.out hbt); replace HO13 := Aside0.mk (Kd.R_below HO13.out hbt); replace HO34 := Aside0.mk (Kd.R_below HO34.out hbt); replace HN := Aside0.mk (Nat.le_trans (Nat.le_trans HN.out (below_size hx_)) hb.size); replace HB := Aside0.mk (below_step HB.out hbt); replace HX := Aside0.mk (Below.refl w42.heap.size w42); clear hb hbt hx_; skip))
    go_ret
    exact ⟨by first | rfl | (simp [*]; done), below_step HB.out (by repeat (first | (with_reducible first | exact HX.out | apply below_alloc | apply pw_below_drewN | apply below_drew1) | exact HX.out))⟩

end Go.Proofs.YtolickgnncfmeaaDoor.Q
namespace Go.Proofs.YtolickgnncfmeaaDoor.Q
open Go.RowKit Go.Proofs.YtolickgnncfmeaaDoorW.PrintWords Go.Proofs.YtolickgnncfmeaaDoor.Opens
set_option linter.unusedVariables false
end Go.Proofs.YtolickgnncfmeaaDoor.Q
namespace Go.Proofs.YtolickgnncfmeaaDoor.Q
open Go.RowKit Go.Proofs.YtolickgnncfmeaaDoorW.PrintWords Go.Proofs.YtolickgnncfmeaaDoor.Opens
set_option linter.unusedVariables false
def laws_FnExactLex.Pure2 : Prop := ∀ (y0 : ByteArray), y0.size ≤ 9223372036854775807 → ∃ k, laws_FnExactLex.f k y0 = some true
end Go.Proofs.YtolickgnncfmeaaDoor.Q
namespace Go.Proofs.YtolickgnncfmeaaDoor.Pure2
open Go.RowKit Go.Proofs.YtolickgnncfmeaaDoor.Q Go.Proofs.YtolickgnncfmeaaDoorW.PrintWords Go.Proofs.YtolickgnncfmeaaDoorW.PrintLast
set_option linter.unusedVariables false
set_option linter.unusedSimpArgs false
/-! small words -/
theorem wsucc {j n : Nat} (h : j < n) (hn : n ≤ 4611686018427387904) : wrap64 ((j : Int) + 1) = ((j + 1 : Nat) : Int) := by unfold wrap64; omega
theorem ev_step {α : Type} {g f : Nat → Option α} {r : α} (h : ∃ K, ∀ k, K ≤ k → g (k + 1) = f k) (k : Ev f r) : Ev g r := by
  obtain ⟨K, h⟩ := h
  obtain ⟨K', k⟩ := k
  refine ⟨max K K' + 1, fun n hn => ?_⟩
  obtain ⟨m, rfl⟩ : ∃ m, n = m + 1 := ⟨n - 1, by omega⟩
  rw [h m (by omega), k m (by omega)]
theorem ev_now {α : Type} {g : Nat → Option α} {r : α} (h : ∃ K, ∀ k, K ≤ k → g (k + 1) = some r) : Ev g r := ev_step (f := fun _ => some r) h (Ev.now r)
theorem ev_same {α : Type} {g f : Nat → Option α} {r : α} (h : ∃ K, ∀ k, K ≤ k → g k = f k) (k : Ev f r) : Ev g r := by
  obtain ⟨K, h⟩ := h
  obtain ⟨K', k⟩ := k
  exact ⟨max K K', fun n hn => by rw [h n (by omega), k n (by omega)]⟩
theorem ev_two {α β : Type} {g : Nat → Option α} {f : Nat → Option β} {r : α} {q : β} (h : Ev g r) (k : Ev f q) : ∃ K, ∀ n, K ≤ n → g n = some r ∧ f n = some q := by
  obtain ⟨K, h⟩ := h
  obtain ⟨K', k⟩ := k
  exact ⟨max K K', fun n hn => ⟨h n (by omega), k n (by omega)⟩⟩
theorem ev_mk {α : Type} {g : Nat → Option α} {r : α} (K : Nat) (h : ∀ k, K ≤ k → g k = some r) : Ev g r := ⟨K, h⟩
theorem ev_at {α : Type} {g : Nat → Option α} {r : α} (h : Ev g r) : ∃ K, ∀ k, K ≤ k → g k = some r := h
/-- A loop that counts up to n: from the end back. -/
theorem count_loop {ρ : Type} (n : Nat) (L : Nat → Int → Option ρ) (Post : Nat → ρ → Prop) (hend : ∃ r, Post n r ∧ Ev (fun k => L k (n : Int)) r)
    (hstep : ∀ j, j < n → ∀ r, Post (j + 1) r → Ev (fun k => L k ((j + 1 : Nat) : Int)) r → ∃ r', Post j r' ∧ Ev (fun k => L k (j : Int)) r') :
    ∀ j, j ≤ n → ∃ r, Post j r ∧ Ev (fun k => L k (j : Int)) r := by
  have key : ∀ d j, j ≤ n → n - j = d → ∃ r, Post j r ∧ Ev (fun k => L k (j : Int)) r := by
    intro d
    induction d with
    | zero => intro j hj hd; obtain rfl : j = n := by omega
              exact hend
    | succ d ih =>
      intro j hj hd
      obtain ⟨r, hp, he⟩ := ih (j + 1) (by omega) (by omega)
      exact hstep j (by omega) r hp he
  intro j hj
  exact key _ j hj rfl
/-- A loop that carries a state up to n. -/
theorem state_loop {σ ρ : Type} (n : Nat) (L : Nat → σ → Int → Option ρ) (Inv : Nat → σ → Prop) (Post : Nat → σ → ρ → Prop) (hend : ∀ s, Inv n s → ∃ r, Post n s r ∧ Ev (fun k => L k s (n : Int)) r)
    (hstep : ∀ j s, j < n → Inv j s → (∃ r, Post j s r ∧ Ev (fun k => L k s (j : Int)) r) ∨ ∃ s', Inv (j + 1) s' ∧ (∀ r, Post (j + 1) s' r → Post j s r) ∧ ∃ K, ∀ k, K ≤ k → L (k + 1) s (j : Int) = L k s' ((j + 1 : Nat) : Int)) :
    ∀ j s, j ≤ n → Inv j s → ∃ r, Post j s r ∧ Ev (fun k => L k s (j : Int)) r := by
  have key : ∀ d j s, j ≤ n → n - j = d → Inv j s → ∃ r, Post j s r ∧ Ev (fun k => L k s (j : Int)) r := by
    intro d
    induction d with
    | zero => intro j s hj hd hi; obtain rfl : j = n := by omega
              exact hend s hi
    | succ d ih =>
      intro j s hj hd hi
      rcases hstep j s (by omega) hi with h | ⟨s', hi', hp, hk⟩
      · exact h
      · obtain ⟨r, hr, he⟩ := ih (j + 1) s' (by omega) (by omega) hi'
        exact ⟨r, hp r hr, ev_step hk he⟩
  intro j s hj hi
  exact key _ j s hj rfl hi
/-- A loop that fills a row of its own. -/
theorem fill_loop {α β : Type} (xs : List α) (z : α) (g : α → β) (L : Nat → List β → Int → Option (List β)) (hend : ∀ y : List β, y.length = xs.length → ∃ K, ∀ k, K ≤ k → L (k + 1) y (xs.length : Int) = some y)
    (hstep : ∀ (j : Nat) (y : List β), j < xs.length → y.length = xs.length → ∃ K, ∀ k, K ≤ k → L (k + 1) y (j : Int) = L k (y.set j (g (xs.getD j z))) ((j + 1 : Nat) : Int)) (y : List β) (hy : y.length = xs.length) :
    Ev (fun k => L k y 0) (xs.map g) := by
  obtain ⟨r, hr, he⟩ := state_loop xs.length L (fun j y => y.length = xs.length ∧ ∀ i, i < j → y[i]? = (xs.map g)[i]?) (fun _ _ r => r = xs.map g) (fun y hi => ⟨y, List.ext_getElem? fun i => by
      by_cases hi' : i < xs.length
      · exact hi.2 i hi'
      · rw [List.getElem?_eq_none (by omega), List.getElem?_eq_none (by simp; omega)], ev_now (hend y hi.1)⟩) (fun j y hj hi => .inr ⟨_, ⟨by simp [hi.1], fun i hij => by
      by_cases he : i = j
      · subst he
        rw [List.getElem?_set_self (by omega)]
        simp [List.getD_eq_getElem?_getD, List.getElem?_eq_getElem hj]
      · rw [List.getElem?_set_ne (by omega)]
        exact hi.2 i (by omega)⟩, fun r h => h, hstep j y hj hi.1⟩) 0 y (by omega) ⟨hy, fun i hi => by omega⟩
  subst hr
  exact he
/-- A letter or _; a digit. -/
def isL (b : Int) : Bool := decide (97 ≤ b ∧ b ≤ 122 ∨ 65 ≤ b ∧ b ≤ 90 ∨ b = 95)
def isD (b : Int) : Bool := decide (48 ≤ b ∧ b ≤ 57)
/-- What a name is. -/
def IsName (s : ByteArray) : Prop := 1 ≤ s.size ∧ s.size ≤ 40 ∧ isL (bt s 0) = true ∧ ∀ i : Int, 1 ≤ i → i < s.size → isL (bt s i) = true ∨ isD (bt s i) = true
theorem beq95 (b : Int) (h : ¬ (97 ≤ b ∧ b ≤ 122)) (h' : ¬ (65 ≤ b ∧ b ≤ 90)) : (b == 95) = isL b := by
  unfold isL
  by_cases e : b = 95
  · subst e; rfl
  · rw [beq_eq_false_iff_ne.mpr e]; symm; simp only [decide_eq_false_iff_not]; omega
theorem impl_letter (b : Int) : impl_isLetter.f b = some (isL b) := by
  unfold impl_isLetter.f
  by_cases h1 : b ≥ 97 <;> by_cases h2 : b ≤ 122 <;> by_cases h3 : b ≥ 65 <;> by_cases h4 : b ≤ 90 <;> simp only [h1, h2, h3, h4, if_true, if_false, Option.some.injEq] <;>
    first | exact beq95 b (by omega) (by omega) | (symm; unfold isL; simp only [decide_eq_true_eq]; omega)
theorem spec_letter (b : Int) : spec_l00Letter.f b = some (isL b) := impl_letter b
theorem impl_digit (b : Int) : impl_isDigit.f b = some (isD b) := by
  unfold impl_isDigit.f isD
  by_cases h1 : b ≥ 48
  · rw [if_pos h1]; simp only [Option.some.injEq, decide_eq_decide]; omega
  · rw [if_neg h1]; simp only [Option.some.injEq]; symm; rw [decide_eq_false_iff_not]; omega
theorem spec_digit (b : Int) : spec_l00Digit.f b = some (isD b) := impl_digit b
/-- The reference's loop, from i on. -/
theorem spec_word_from (s : ByteArray) (hn : s.size ≤ 1048576) (d : Nat) : ∀ (k : Nat) (i : Int), 0 ≤ i → i ≤ s.size → (s.size : Int) - i = d → d < k →
    ∃ r, spec_l00Word.l0 k s i = some r ∧ (r = true ↔ ∀ j : Int, i ≤ j → j < s.size → isL (bt s j) = true ∨ isD (bt s j) = true) := by
  induction d with
  | zero =>
    intro k i h0 h1 hd hk
    obtain ⟨k, rfl⟩ : ∃ m, k = m + 1 := ⟨k - 1, by omega⟩
    refine ⟨true, ?_, ⟨fun _ j h2 h3 => by omega, fun _ => rfl⟩⟩
    simp only [spec_l00Word.l0]; rw [if_neg (by omega)]
  | succ d ih =>
    intro k i h0 h1 hd hk
    obtain ⟨k, rfl⟩ : ∃ m, k = m + 1 := ⟨k - 1, by omega⟩
    have hw : wrap64 (i + 1) = i + 1 := by unfold wrap64; omega
    obtain ⟨r, e, hr⟩ := ih k (i + 1) (by omega) (by omega) (by omega) (by omega)
    have step : (isL (bt s i) = true ∨ isD (bt s i) = true) → (r = true ↔ ∀ j : Int, i ≤ j → j < s.size → isL (bt s j) = true ∨ isD (bt s j) = true) := by
      intro hh
      rw [hr]
      constructor
      · intro h j h2 h3
        rcases Int.lt_or_eq_of_le h2 with h4 | h4
        · exact h j (by omega) h3
        · rw [← h4]; exact hh
      · intro h j h2 h3; exact h j (by omega) h3
    simp only [spec_l00Word.l0]; rw [if_pos (by omega), if_pos h0, spec_letter]; simp only [Option.bind_some]
    by_cases hl : isL (bt s i) = true
    · rw [if_pos hl, hw]; exact ⟨r, e, step (.inl hl)⟩
    · rw [if_neg hl, spec_digit]; simp only [Option.bind_some]
      by_cases hdg : isD (bt s i) = true
      · rw [if_pos hdg, hw]; exact ⟨r, e, step (.inr hdg)⟩
      · rw [if_neg hdg]
        exact ⟨false, rfl, ⟨fun h => (by cases h), fun h => absurd (h i (Int.le_refl _) (by omega)) (fun h => h.elim hl hdg)⟩⟩
theorem spec_name (s : ByteArray) (hn : s.size ≤ 1048576) : ∃ r, (∀ k, s.size + 1 < k → spec_NameOK.f k s = some r) ∧ (r = true ↔ IsName s) := by
  by_cases h1 : (s.size : Int) < 1
  · refine ⟨false, fun k hk => ?_, ⟨fun h => (by cases h), fun h => absurd h.1 (by omega)⟩⟩
    obtain ⟨k, rfl⟩ : ∃ m, k = m + 1 := ⟨k - 1, by omega⟩
    unfold spec_NameOK.f spec_l00Word.f
    rw [if_pos h1]; rfl
  · by_cases h2 : (s.size : Int) > 40
    · refine ⟨false, fun k hk => ?_, ⟨fun h => (by cases h), fun h => absurd h.2.1 (by omega)⟩⟩
      obtain ⟨k, rfl⟩ : ∃ m, k = m + 1 := ⟨k - 1, by omega⟩
      unfold spec_NameOK.f spec_l00Word.f
      rw [if_neg h1, if_pos h2]; rfl
    · by_cases hl : isL (bt s 0) = true
      · obtain ⟨r, _, hr⟩ := spec_word_from s hn (s.size - 1) (s.size + 1) 1 (by omega) (by omega) (by omega) (by omega)
        refine ⟨r, fun k hk => ?_, ?_⟩
        · obtain ⟨k, rfl⟩ : ∃ m, k = m + 1 := ⟨k - 1, by omega⟩
          obtain ⟨r', e', hr'⟩ := spec_word_from s hn (s.size - 1) k 1 (by omega) (by omega) (by omega) (by omega)
          have : r' = r := by rw [Bool.eq_iff_iff, hr, hr']
          subst this
          unfold spec_NameOK.f spec_l00Word.f
          rw [if_neg h1, if_neg h2, if_pos (by omega), spec_letter]; simp only [Option.bind_some, hl, Bool.not_true, spec_l00Word.j0]
          rw [if_neg (by simp), e']; rfl
        · rw [hr]; exact ⟨fun h => ⟨by omega, by omega, hl, h⟩, fun h => h.2.2.2⟩
      · refine ⟨false, fun k hk => ?_, ⟨fun h => (by cases h), fun h => absurd h.2.2.1 hl⟩⟩
        obtain ⟨k, rfl⟩ : ∃ m, k = m + 1 := ⟨k - 1, by omega⟩
        unfold spec_NameOK.f spec_l00Word.f
        rw [if_neg h1, if_neg h2, if_pos (by omega), spec_letter]; simp only [Option.bind_some]
        have : isL (bt s 0) = false := by simpa using hl
        rw [this]; rfl
/-- The program's loop, from i on. -/
theorem impl_name_from (s : ByteArray) (hn : s.size ≤ 1048576) (d : Nat) : ∀ (k : Nat) (i : Int), 0 ≤ i → i ≤ s.size → (s.size : Int) - i = d → d < k →
    ∃ r, impl_NameOK.l0 k s s.size i = some r ∧ (r = true ↔ (1 ≤ s.size ∧ s.size ≤ 40) ∧ ∀ j : Int, i ≤ j → j < s.size → isL (bt s j) = true ∨ j ≠ 0 ∧ isD (bt s j) = true) := by
  induction d with
  | zero =>
    intro k i h0 h1 hd hk
    obtain ⟨k, rfl⟩ : ∃ m, k = m + 1 := ⟨k - 1, by omega⟩
    simp only [impl_NameOK.l0]; rw [if_neg (by omega)]
    unfold impl_within.f
    by_cases h2 : (s.size : Int) ≥ 1
    · rw [if_pos h2]
      refine ⟨_, rfl, ?_⟩
      simp only [decide_eq_true_eq]
      exact ⟨fun h => ⟨⟨by omega, by omega⟩, fun j _ _ => by omega⟩, fun h => by omega⟩
    · rw [if_neg h2]
      refine ⟨_, rfl, ?_⟩
      exact ⟨fun h => by simp at h, fun h => by omega⟩
  | succ d ih =>
    intro k i h0 h1 hd hk
    obtain ⟨k, rfl⟩ : ∃ m, k = m + 1 := ⟨k - 1, by omega⟩
    have hw : wrap64 (i + 1) = i + 1 := by unfold wrap64; omega
    obtain ⟨r, e, hr⟩ := ih k (i + 1) (by omega) (by omega) (by omega) (by omega)
    have step : (isL (bt s i) = true ∨ i ≠ 0 ∧ isD (bt s i) = true) → (r = true ↔ (1 ≤ s.size ∧ s.size ≤ 40) ∧ ∀ j : Int, i ≤ j → j < s.size → isL (bt s j) = true ∨ j ≠ 0 ∧ isD (bt s j) = true) := by
      intro hh
      rw [hr]
      constructor
      · intro ⟨h', h⟩
        refine ⟨h', fun j h2 h3 => ?_⟩
        rcases Int.lt_or_eq_of_le h2 with h4 | h4
        · exact h j (by omega) h3
        · rw [← h4]; exact hh
      · intro ⟨h', h⟩; exact ⟨h', fun j h2 h3 => h j (by omega) h3⟩
    simp only [impl_NameOK.l0]; rw [if_pos (by omega), if_pos h0, if_pos (by omega), impl_letter]; simp only [Option.bind_some]
    by_cases hl : isL (bt s i) = true
    · rw [if_pos hl, hw]; exact ⟨r, e, step (.inl hl)⟩
    · rw [if_neg hl]
      by_cases hz : i = 0
      · rw [if_pos hz]
        exact ⟨false, rfl, ⟨fun h => (by cases h), fun h => absurd (h.2 i (Int.le_refl _) (by omega)) (fun h => h.elim hl (fun h => h.1 hz))⟩⟩
      · rw [if_neg hz, impl_digit]; simp only [Option.bind_some]
        by_cases hdg : isD (bt s i) = true
        · rw [if_pos hdg, hw]; exact ⟨r, e, step (.inr ⟨hz, hdg⟩)⟩
        · rw [if_neg hdg]
          exact ⟨false, rfl, ⟨fun h => (by cases h), fun h => absurd (h.2 i (Int.le_refl _) (by omega)) (fun h => h.elim hl (fun h => hdg h.2))⟩⟩
theorem impl_name (s : ByteArray) (hn : s.size ≤ 1048576) : ∃ r, (∀ k, s.size + 1 < k → impl_NameOK.f k s = some r) ∧ (r = true ↔ IsName s) := by
  obtain ⟨r, _, hr⟩ := impl_name_from s hn s.size (s.size + 1) 0 (by omega) (by omega) (by omega) (by omega)
  refine ⟨r, fun k hk => ?_, ?_⟩
  · obtain ⟨r', e', hr'⟩ := impl_name_from s hn s.size k 0 (by omega) (by omega) (by omega) (by omega)
    have : r' = r := by rw [Bool.eq_iff_iff, hr, hr']
    subst this
    exact e'
  · rw [hr]
    constructor
    · rintro ⟨⟨h1, h2⟩, h⟩
      refine ⟨h1, h2, ?_, fun j hj hj' => ?_⟩
      · have := h 0 (by omega) (by omega)
        simpa using this
      · rcases h j (by omega) hj' with h | h
        · exact .inl h
        · exact .inr h.2
    · rintro ⟨h1, h2, h3, h⟩
      refine ⟨⟨h1, h2⟩, fun j hj hj' => ?_⟩
      by_cases hz : j = 0
      · subst hz; exact .inl h3
      · rcases h j (by omega) hj' with h | h
        · exact .inl h
        · exact .inr ⟨hz, h⟩
/-- Both say the same. -/
theorem names_agree (s : ByteArray) (hn : s.size ≤ 1048576) : ∃ r, (∀ k, s.size + 1 < k → spec_NameOK.f k s = some r ∧ impl_NameOK.f k s = some r) ∧ (r = true ↔ IsName s) := by
  obtain ⟨r, e, hr⟩ := spec_name s hn
  obtain ⟨r', e', hr'⟩ := impl_name s hn
  have : r' = r := by rw [Bool.eq_iff_iff, hr, hr']
  subst this
  exact ⟨r', fun k hk => ⟨e k hk, e' k hk⟩, hr⟩
theorem names_ev (s : ByteArray) (hn : s.size ≤ 1048576) : ∃ r, Ev (fun k => spec_NameOK.f k s) r ∧ Ev (fun k => impl_NameOK.f k s) r ∧ (r = true ↔ IsName s) := by
  obtain ⟨r, h, hr⟩ := names_agree s hn
  exact ⟨r, ev_mk (s.size + 2) (fun k hk => (h k (by omega)).1), ev_mk (s.size + 2) (fun k hk => (h k (by omega)).2), hr⟩
/-! texts as rows of bytes -/
def Lb (s : ByteArray) : List UInt8 := s.data.toList
theorem lb_len (s : ByteArray) : (Lb s).length = s.size := by unfold Lb; rw [Array.length_toList]; rfl
theorem lb_ext {s t : ByteArray} (h : Lb s = Lb t) : s = t := by apply ByteArray.ext; apply Array.toList_inj.1; exact h
theorem lb_list (s : ByteArray) : s.toList = Lb s := ByteArray.toList_eq s
theorem lb_cut (s : ByteArray) (a b : Nat) : Lb (s.extract a b) = ((Lb s).drop a).take (b - a) := by
  unfold Lb
  rw [ByteArray.data_extract, Array.toList_extract]
theorem lb_from (s : ByteArray) (a : Nat) : Lb (s.extract a s.size) = (Lb s).drop a := by
  rw [lb_cut, List.take_of_length_le]
  rw [List.length_drop, lb_len]
  exact Nat.le_refl _
theorem lb_at (s : ByteArray) (n : Nat) (h : n < s.size) : ∃ b, (Lb s).drop n = b :: (Lb s).drop (n + 1) ∧ bt s (n : Int) = (b.toNat : Int) := by
  have hl : n < (Lb s).length := by rw [lb_len]; exact h
  refine ⟨(Lb s)[n], List.drop_eq_getElem_cons hl, ?_⟩
  unfold bt
  rw [dif_pos (by rw [Int.toNat_natCast]; exact h)]
  rfl
theorem lb_none (s : ByteArray) (n : Nat) (h : s.size ≤ n) : (Lb s).drop n = [] := List.drop_of_length_le (by rw [lb_len]; exact h)
theorem wnext {n : Nat} (h : n ≤ 4611686018427387904) : wrap64 ((n : Int) + 1) = ((n + 1 : Nat) : Int) := by unfold wrap64; omega
/-- How many letters and digits a row begins with. -/
def wl : List UInt8 → Nat
  | [] => 0
  | b :: r => if isL b.toNat = true ∨ isD b.toNat = true then wl r + 1 else 0
theorem wl_le : ∀ l : List UInt8, wl l ≤ l.length
  | [] => Nat.le_refl _
  | b :: r => by
    have := wl_le r
    simp only [wl, List.length_cons]
    split <;> omega
theorem spec_word_at (s : ByteArray) (hs : s.size ≤ 1048576) : ∀ (d n : Nat), n + d = s.size → Ev (fun k => spec_l01Word.l0 k s (n : Int)) ((n + wl ((Lb s).drop n) : Nat) : Int) := by
  intro d
  induction d with
  | zero =>
    intro n h
    rw [lb_none s n (by omega)]
    exact ev_now ⟨0, fun k _ => by simp only [spec_l01Word.l0]; rw [if_neg (by omega)]; rfl⟩
  | succ d ih =>
    intro n h
    obtain ⟨b, hb, he⟩ := lb_at s n (by omega)
    have hw := wnext (n := n) (by omega)
    rw [hb]
    simp only [wl]
    by_cases h1 : isL b.toNat = true
    · rw [if_pos (.inl h1), show n + (wl ((Lb s).drop (n + 1)) + 1) = (n + 1) + wl ((Lb s).drop (n + 1)) by omega]
      exact ev_step ⟨0, fun k _ => by simp only [spec_l01Word.l0]; rw [if_pos (by omega), if_pos (by omega), he, spec_letter]; simp only [Option.bind_some]; rw [if_pos h1, hw]⟩ (ih (n + 1) (by omega))
    · by_cases h2 : isD b.toNat = true
      · rw [if_pos (.inr h2), show n + (wl ((Lb s).drop (n + 1)) + 1) = (n + 1) + wl ((Lb s).drop (n + 1)) by omega]
        exact ev_step ⟨0, fun k _ => by simp only [spec_l01Word.l0]; rw [if_pos (by omega), if_pos (by omega), he, spec_letter]; simp only [Option.bind_some]; rw [if_neg h1, spec_digit]; simp only [Option.bind_some]; rw [if_pos h2, hw]⟩ (ih (n + 1) (by omega))
      · rw [if_neg (by simp [h1, h2])]
        exact ev_now ⟨0, fun k _ => by simp only [spec_l01Word.l0]; rw [if_pos (by omega), if_pos (by omega), he, spec_letter]; simp only [Option.bind_some]; rw [if_neg h1, spec_digit]; simp only [Option.bind_some]; rw [if_neg h2]; rfl⟩
theorem impl_word_at (s : ByteArray) (hs : s.size ≤ 1048576) : ∀ (d n : Nat), n + d = s.size → Ev (fun k => impl_wordAt.l0 k s (n : Int)) ((n + wl ((Lb s).drop n) : Nat) : Int) := by
  intro d
  induction d with
  | zero =>
    intro n h
    rw [lb_none s n (by omega)]
    exact ev_now ⟨0, fun k _ => by simp only [impl_wordAt.l0]; rw [if_neg (by omega)]; rfl⟩
  | succ d ih =>
    intro n h
    obtain ⟨b, hb, he⟩ := lb_at s n (by omega)
    have hw := wnext (n := n) (by omega)
    rw [hb]
    simp only [wl]
    by_cases h1 : isL b.toNat = true
    · rw [if_pos (.inl h1), show n + (wl ((Lb s).drop (n + 1)) + 1) = (n + 1) + wl ((Lb s).drop (n + 1)) by omega]
      exact ev_step ⟨0, fun k _ => by simp only [impl_wordAt.l0]; rw [if_pos (by omega), if_pos (by omega), he, impl_letter]; simp only [Option.bind_some]; rw [if_pos h1, hw]⟩ (ih (n + 1) (by omega))
    · by_cases h2 : isD b.toNat = true
      · rw [if_pos (.inr h2), show n + (wl ((Lb s).drop (n + 1)) + 1) = (n + 1) + wl ((Lb s).drop (n + 1)) by omega]
        exact ev_step ⟨0, fun k _ => by simp only [impl_wordAt.l0]; rw [if_pos (by omega), if_pos (by omega), he, impl_letter]; simp only [Option.bind_some]; rw [if_neg h1, impl_digit]; simp only [Option.bind_some]; rw [if_pos h2, hw]⟩ (ih (n + 1) (by omega))
      · rw [if_neg (by simp [h1, h2])]
        exact ev_now ⟨0, fun k _ => by simp only [impl_wordAt.l0]; rw [if_pos (by omega), if_pos (by omega), he, impl_letter]; simp only [Option.bind_some]; rw [if_neg h1, impl_digit]; simp only [Option.bind_some]; rw [if_neg h2]; rfl⟩
theorem spec_word_len (s : ByteArray) (hs : s.size ≤ 1048576) (n : Nat) (h : n ≤ s.size) : Ev (fun k => spec_l01Word.f k s (n : Int)) ((n + wl ((Lb s).drop n) : Nat) : Int) := spec_word_at s hs (s.size - n) n (by omega)
theorem impl_word_len (s : ByteArray) (hs : s.size ≤ 1048576) : Ev (fun k => impl_wordAt.f k s) ((wl (Lb s) : Nat) : Int) := by
  have h := impl_word_at s hs s.size 0 (by omega)
  rw [List.drop_zero, Nat.zero_add] at h
  exact h
end Go.Proofs.YtolickgnncfmeaaDoor.Pure2
namespace Go.Proofs.YtolickgnncfmeaaDoor.Pure2
open Go.RowKit Go.Proofs.YtolickgnncfmeaaDoor.Q Go.Proofs.YtolickgnncfmeaaDoorW.PrintWords Go.Proofs.YtolickgnncfmeaaDoorW.PrintLast
set_option linter.unusedVariables false
set_option linter.unusedSimpArgs false
/-! numerals are read back -/
theorem dec_app : ∀ (l : List UInt8) (acc : Nat) (b : UInt8), Lib.decFrom acc (l ++ [b]) = (Lib.decFrom acc l).bind fun n => (Lib.digitVal b).map fun d => n * 10 + d
  | [], acc, b => by
    simp only [List.nil_append, Lib.decFrom, Option.bind_some]
    cases Lib.digitVal b <;> rfl
  | c :: r, acc, b => by
    simp only [List.cons_append, Lib.decFrom]
    cases Lib.digitVal c with
    | none => rfl
    | some d => exact dec_app r _ b
theorem digit_val (d : Nat) (h : d < 10) : Lib.digitVal (UInt8.ofNat (48 + d)) = some d := by
  unfold Lib.digitVal
  have e : (UInt8.ofNat (48 + d)).toNat = 48 + d := by rw [UInt8.toNat_ofNat']; omega
  rw [e, if_pos (by omega)]
  congr 1
  omega
theorem dec_read (u : Nat) : Lib.decFrom 0 (Lib.decDigits u) = some u := by
  induction u using Nat.strongRecOn with
  | _ u ih =>
    rw [Lib.decDigits]
    by_cases h : u < 10
    · rw [dif_pos h]
      simp only [Lib.decFrom, digit_val u h]
      simp
    · rw [dif_neg h, dec_app, ih (u / 10) (by omega), digit_val _ (by omega)]
      simp only [Option.bind_some, Option.map_some]
      congr 1
      omega
theorem dec_digit (u : Nat) : ∀ b ∈ Lib.decDigits u, 48 ≤ b.toNat ∧ b.toNat ≤ 57 := by
  induction u using Nat.strongRecOn with
  | _ u ih =>
    have hd : ∀ d, d < 10 → 48 ≤ (UInt8.ofNat (48 + d)).toNat ∧ (UInt8.ofNat (48 + d)).toNat ≤ 57 := fun d h => by rw [UInt8.toNat_ofNat']; omega
    rw [Lib.decDigits]
    by_cases h : u < 10
    · rw [dif_pos h]
      intro b hb
      rw [List.mem_singleton.1 hb]
      exact hd u h
    · rw [dif_neg h]
      intro b hb
      rcases List.mem_append.1 hb with hb | hb
      · exact ih (u / 10) (by omega) b hb
      · rw [List.mem_singleton.1 hb]
        exact hd _ (by omega)
theorem dec_head (u : Nat) : ∃ b r, Lib.decDigits u = b :: r ∧ (b.toNat = 48 → u = 0 ∧ r = []) := by
  induction u using Nat.strongRecOn with
  | _ u ih =>
    rw [Lib.decDigits]
    by_cases h : u < 10
    · rw [dif_pos h]
      exact ⟨_, _, rfl, fun e => ⟨by rw [UInt8.toNat_ofNat'] at e; omega, rfl⟩⟩
    · rw [dif_neg h]
      obtain ⟨b, r, e, hb⟩ := ih (u / 10) (by omega)
      rw [e]
      exact ⟨b, r ++ [_], rfl, fun h0 => absurd (hb h0).1 (by omega)⟩
theorem dec_len (u : Nat) (h : u < 10000000000) : (Lib.decDigits u).length ≤ 10 := by
  have step : ∀ k u : Nat, u < 10 ^ k → 1 ≤ k → (Lib.decDigits u).length ≤ k := by
    intro k
    induction k with
    | zero => intro u _ h; omega
    | succ k ih =>
      intro u hu _
      rw [Lib.decDigits]
      by_cases h10 : u < 10
      · rw [dif_pos h10]; simp
      · rw [dif_neg h10, List.length_append]
        have := ih (u / 10) (by rw [Nat.pow_succ] at hu; omega) (by
          cases k with
          | zero => simp at hu; omega
          | succ k => omega)
        simp only [List.length_cons, List.length_nil]
        omega
  exact step 10 u h (by omega)
theorem itoa_read (n : Int) : Lib.atoi (Lib.itoa n) = some n := by
  unfold Lib.itoa
  by_cases h : n < 0
  · rw [if_pos h]
    have e : Lib.decNat (Lib.decDigits n.natAbs) = some n.natAbs := by
      unfold Lib.decNat
      obtain ⟨b, r, e, _⟩ := dec_head n.natAbs
      rw [e, if_neg (by simp), ← e, dec_read]
    simp only [Lib.atoi]
    rw [if_pos (by decide), e]
    simp only [Option.map_some]
    congr 1
    omega
  · rw [if_neg h]
    obtain ⟨b, r, e, _⟩ := dec_head n.toNat
    have hb := dec_digit n.toNat b (by rw [e]; simp)
    have e2 : Lib.decNat (b :: r) = some n.toNat := by
      unfold Lib.decNat
      rw [if_neg (by simp), ← e, dec_read]
    rw [e]
    simp only [Lib.atoi]
    have h45 : (b == 45) = false := by rw [beq_eq_false_iff_ne]; rintro rfl; exact absurd hb.1 (by decide)
    have h43 : (b == 43) = false := by rw [beq_eq_false_iff_ne]; rintro rfl; exact absurd hb.1 (by decide)
    rw [h45, h43, e2]
    simp only [Bool.false_eq_true, if_false, Option.map_some]
    congr 1
    omega
theorem itoa_len (n : Int) (h0 : -2147483648 ≤ n) (h1 : n ≤ 2147483647) : (Lib.itoa n).length ≤ 11 := by
  unfold Lib.itoa
  by_cases h : n < 0
  · rw [if_pos h]
    have := dec_len n.natAbs (by omega)
    simp only [List.length_cons]
    omega
  · rw [if_neg h]
    have := dec_len n.toNat (by omega)
    omega
theorem itoa_all (n : Int) (h0 : -2147483648 ≤ n) (h1 : n ≤ 2147483647) : Lib.atoiAll (Lib.itoa n) = .ok n := by
  rw [Lib.atoiAll_short _ (by have := itoa_len n h0 h1; omega), itoa_read]
  rfl
/-! a number's digits -/
theorem dec_digits : ∀ u : Nat, u ≤ 999999999999999999 → Ev (fun k => spec_l00Digits.f k (u : Int)) ⟨(Lib.decDigits u).toArray⟩ ∧ (Lib.decDigits u).length ≤ u + 1 := by
  intro u
  induction u using Nat.strongRecOn with
  | _ u ih =>
    intro hu
    rw [Lib.decDigits]
    by_cases h : u < 10
    · rw [dif_pos h]
      refine ⟨ev_now ⟨0, fun k _ => ?_⟩, by simp⟩
      simp only [spec_l00Digits.f]
      rw [if_neg (by omega), if_neg (by omega), if_pos (by omega)]
      have e : wrap64 (48 + (u : Int)) % 256 = ((48 + u : Nat) : Int) := by unfold wrap64; omega
      rw [e]
      rfl
    · rw [dif_neg h]
      obtain ⟨e1, hl⟩ := ih (u / 10) (by omega) (by omega)
      obtain ⟨K, h1⟩ := ev_at e1
      refine ⟨ev_mk (K + 1) fun k hk => ?_, by rw [List.length_append]; simp only [List.length_cons, List.length_nil]; omega⟩
      obtain ⟨m, rfl⟩ : ∃ m, k = m + 1 := ⟨k - 1, by omega⟩
      have e2 : wrap64 (Int.tdiv (u : Int) 10) = ((u / 10 : Nat) : Int) := by rw [Int.tdiv_eq_ediv_of_nonneg (by omega)]; unfold wrap64; omega
      have e3 : wrap64 (48 + Int.tmod (u : Int) 10) % 256 = ((48 + u % 10 : Nat) : Int) := by rw [Int.tmod_eq_emod_of_nonneg (by omega)]; unfold wrap64; omega
      simp only [spec_l00Digits.f]
      rw [if_neg (by omega), if_neg (by omega), if_neg (by omega), e2, h1 m (by omega), e3]
      simp only [Option.bind_some]
      have e4 : strOfNums [((48 + u % 10 : Nat) : Int)] = ⟨[UInt8.ofNat (48 + u % 10)].toArray⟩ := rfl
      rw [e4, if_pos (by show (Lib.decDigits (u / 10)).toArray.size + [UInt8.ofNat (48 + u % 10)].toArray.size ≤ _; simp; omega)]
      first | (congr 1; done) | (congr 1; apply ByteArray.ext; simp)
theorem digits_agree (n : Int) (h0 : -999999999999999999 ≤ n) (h1 : n ≤ 999999999999999999) : Ev (fun k => spec_l00Digits.f k n) ⟨(Lib.itoa n).toArray⟩ ∧ strconv_Itoa.f n = some ⟨(Lib.itoa n).toArray⟩ ∧ (Lib.itoa n).length ≤ 1000000000000000002 := by
  have e0 : strconv_Itoa.f n = some ⟨(Lib.itoa n).toArray⟩ := by unfold strconv_Itoa.f; rw [if_pos (by omega)]
  unfold Lib.itoa
  by_cases h : n < 0
  · rw [if_pos h]
    obtain ⟨e1, hl⟩ := dec_digits n.natAbs (by omega)
    obtain ⟨K, k1⟩ := ev_at e1
    refine ⟨ev_mk (K + 1) fun k hk => ?_, by rw [e0]; unfold Lib.itoa; rw [if_pos h], by simp only [List.length_cons]; omega⟩
    obtain ⟨m, rfl⟩ : ∃ m, k = m + 1 := ⟨k - 1, by omega⟩
    have e2 : wrap64 (-n) = (n.natAbs : Int) := by unfold wrap64; omega
    simp only [spec_l00Digits.f]
    rw [if_neg (by omega), if_pos h, e2, k1 m (by omega)]
    simp only [Option.bind_some]
    rw [if_pos (by show 1 + (Lib.decDigits n.natAbs).toArray.size ≤ _; simp; omega)]
    first | (congr 1; done) | (congr 1; apply ByteArray.ext; simp)
  · rw [if_neg h]
    obtain ⟨e1, hl⟩ := dec_digits n.toNat (by omega)
    refine ⟨?_, by rw [e0]; unfold Lib.itoa; rw [if_neg h], by omega⟩
    rw [show (n.toNat : Int) = n by omega] at e1
    exact e1
end Go.Proofs.YtolickgnncfmeaaDoor.Pure2
namespace Go.Proofs.YtolickgnncfmeaaDoor.Pure2
open Go.RowKit Go.Proofs.YtolickgnncfmeaaDoor.Q Go.Proofs.YtolickgnncfmeaaDoorW.PrintWords Go.Proofs.YtolickgnncfmeaaDoorW.PrintLast
set_option linter.unusedVariables false
set_option linter.unusedSimpArgs false
/-! numbers -/
def resN (sg : Int) : Option Nat → Int × Bool
  | some n => (sg * (n : Int), true)
  | none => (0, false)
theorem wrap_id {x : Int} (h0 : -9223372036854775808 ≤ x) (h1 : x ≤ 9223372036854775807) : wrap64 x = x := by unfold wrap64; omega
set_option maxHeartbeats 1000000 in
theorem spec_number_loop (x : ByteArray) (hx : x.size ≤ 18) (sg : Int) (hsg : sg = 1 ∨ sg = -1) : ∀ (d i acc : Nat), i + d = x.size → acc < 10 ^ i → Ev (fun k => spec_l00Number.l0 k x sg (acc : Int) (i : Int)) (resN sg (Lib.decFrom acc ((Lb x).drop i))) := by
  intro d
  induction d with
  | zero =>
    intro i acc h ha
    have hp : 10 ^ i ≤ 1000000000000000000 := Nat.le_trans (Nat.pow_le_pow_right (n := 10) (j := 18) (by decide) (by omega)) (by decide)
    generalize 10 ^ i = p at ha hp
    rw [lb_none x i (by omega)]
    refine ev_now ⟨0, fun k _ => ?_⟩
    simp only [spec_l00Number.l0, Lib.decFrom, resN]
    rw [if_neg (by omega)]
    have e : wrap64 (sg * (acc : Int)) = sg * (acc : Int) := by
      unfold wrap64
      rcases hsg with rfl | rfl <;> omega
    rw [e]
  | succ d ih =>
    intro i acc h ha
    have hp : 10 ^ i ≤ 100000000000000000 := Nat.le_trans (Nat.pow_le_pow_right (n := 10) (j := 17) (by decide) (by omega)) (by decide)
    have hq : 10 ^ (i + 1) = 10 ^ i * 10 := Nat.pow_succ ..
    generalize 10 ^ i = p at ha hp hq
    obtain ⟨b, hb, he⟩ := lb_at x i (by omega)
    have hw := wnext (n := i) (by omega)
    have hr := b.toNat_lt
    rw [hb]
    by_cases h1 : b.toNat < 48
    · refine ev_now ⟨0, fun k _ => ?_⟩
      simp only [spec_l00Number.l0, Lib.decFrom]
      rw [if_pos (by omega), if_pos (by omega), he, if_pos (by omega)]
      unfold Lib.digitVal
      rw [if_neg (by omega)]
      rfl
    · by_cases h2 : b.toNat > 57
      · refine ev_now ⟨0, fun k _ => ?_⟩
        simp only [spec_l00Number.l0, Lib.decFrom]
        rw [if_pos (by omega), if_pos (by omega), he, if_neg (by omega), if_pos (by omega)]
        unfold Lib.digitVal
        rw [if_neg (by omega)]
        rfl
      · have e : Lib.decFrom acc (b :: (Lb x).drop (i + 1)) = Lib.decFrom (acc * 10 + (b.toNat - 48)) ((Lb x).drop (i + 1)) := by
          simp only [Lib.decFrom]
          unfold Lib.digitVal
          rw [if_pos (by omega)]
        rw [e]
        refine ev_step ⟨0, fun k _ => ?_⟩ (ih (i + 1) (acc * 10 + (b.toNat - 48)) (by omega) (by rw [hq]; omega))
        simp only [spec_l00Number.l0]
        rw [if_pos (by omega), if_pos (by omega), he, if_neg (by omega), if_neg (by omega), hw]
        have e2 : wrap64 (wrap64 (wrap64 ((acc : Int) * 10) + wrap64 (b.toNat : Int)) - 48) = ((acc * 10 + (b.toNat - 48) : Nat) : Int) := by
          rw [wrap_id (x := (acc : Int) * 10) (by omega) (by omega), wrap_id (x := (b.toNat : Int)) (by omega) (by omega), wrap_id (x := (acc : Int) * 10 + (b.toNat : Int)) (by omega) (by omega), wrap_id (by omega) (by omega)]
          omega
        rw [e2]
theorem spec_number_j (x : ByteArray) (sg : Int) (hsg : sg = 1 ∨ sg = -1) : ∃ r, Ev (fun k => spec_l00Number.j1 k x sg) r ∧ (r.2 = true → -1000000000000000000 < r.1 ∧ r.1 < 1000000000000000000) ∧ ∀ u, Lb x = Lib.decDigits u → u < 10000000000 → (u = 0 → 0 < sg) → r = (sg * (u : Int), true) := by
  have no : ∀ (P : ∀ k, spec_l00Number.j1 (k + 1) x sg = spec_l00Number.j2 k x sg true), Ev (fun k => spec_l00Number.j1 k x sg) ((0 : Int), false) := fun P =>
    ev_now ⟨1, fun k hk => by
      obtain ⟨m, rfl⟩ : ∃ m, k = m + 1 := ⟨k - 1, by omega⟩
      rw [P]; simp only [spec_l00Number.j2]; rfl⟩
  by_cases h0 : (x.size : Int) = 0
  · refine ⟨(0, false), no fun k => by simp only [spec_l00Number.j1]; rw [if_pos h0], fun h => (by cases h), fun u hu _ _ => ?_⟩
    obtain ⟨b, r, e, _⟩ := dec_head u
    have := lb_len x
    rw [hu, e] at this
    simp only [List.length_cons] at this
    omega
  · by_cases h18 : (x.size : Int) > 18
    · refine ⟨(0, false), no fun k => by simp only [spec_l00Number.j1]; rw [if_neg h0, if_pos h18], fun h => (by cases h), fun u hu hu2 _ => ?_⟩
      have := dec_len u hu2
      rw [← hu, lb_len] at this
      omega
    · obtain ⟨b, hb, he⟩ := lb_at x 0 (by omega)
      rw [List.drop_zero] at hb
      have loop := spec_number_loop x (by omega) sg hsg x.size 0 0 (by omega) (by decide)
      rw [List.drop_zero] at loop
      have bound : (resN sg (Lib.decFrom 0 (Lb x))).2 = true → -1000000000000000000 < (resN sg (Lib.decFrom 0 (Lb x))).1 ∧ (resN sg (Lib.decFrom 0 (Lb x))).1 < 1000000000000000000 := by
        cases hd : Lib.decFrom 0 (Lb x) with
        | none => intro h; cases h
        | some m =>
          intro _
          have := Lib.decFrom_lt18 hd (by rw [lb_len]; omega)
          simp only [resN]
          rcases hsg with rfl | rfl <;> omega
      have read : ∀ u, Lb x = Lib.decDigits u → resN sg (Lib.decFrom 0 (Lb x)) = (sg * (u : Int), true) := fun u hu => by rw [hu, dec_read]; rfl
      have go : (∀ k, spec_l00Number.j1 (k + 1) x sg = spec_l00Number.j2 k x sg false) → Ev (fun k => spec_l00Number.j1 k x sg) (resN sg (Lib.decFrom 0 (Lb x))) := fun P =>
        ev_step (f := fun k => spec_l00Number.j2 k x sg false) ⟨0, fun k _ => P k⟩ (ev_step ⟨0, fun k _ => by simp only [spec_l00Number.j2]; rfl⟩ loop)
      by_cases h48 : bt x 0 = 48
      · have hb48 : b.toNat = 48 := by have : bt x ((0 : Nat) : Int) = (b.toNat : Int) := he; simp only [Int.natCast_zero] at this; omega
        by_cases h1 : (x.size : Int) > 1
        · refine ⟨(0, false), no fun k => by simp only [spec_l00Number.j1]; rw [if_neg h0, if_neg h18, if_pos (by omega), if_pos h48, if_pos h1], fun h => (by cases h), fun u hu _ _ => ?_⟩
          obtain ⟨b', r', e', h'⟩ := dec_head u
          rw [hu, e'] at hb
          injection hb with hb1 hb2
          subst hb1
          have hl := lb_len x
          rw [hu, e', (h' hb48).2] at hl
          simp only [List.length_cons, List.length_nil] at hl
          omega
        · rcases hsg with rfl | rfl
          · refine ⟨_, go fun k => by simp only [spec_l00Number.j1]; rw [if_neg h0, if_neg h18, if_pos (by omega), if_pos h48, if_neg h1]; rfl, bound, fun u hu _ _ => read u hu⟩
          · refine ⟨(0, false), no fun k => by simp only [spec_l00Number.j1]; rw [if_neg h0, if_neg h18, if_pos (by omega), if_pos h48, if_neg h1]; rfl, fun h => (by cases h), fun u hu _ hz => ?_⟩
            obtain ⟨b', r', e', h'⟩ := dec_head u
            rw [hu, e'] at hb
            injection hb with hb1 hb2
            subst hb1
            exact absurd (hz (h' hb48).1) (by decide)
      · exact ⟨_, go fun k => by simp only [spec_l00Number.j1]; rw [if_neg h0, if_neg h18, if_pos (by omega), if_neg h48], bound, fun u hu _ _ => read u hu⟩
/-- A text that says an int of 32 bits. -/
def IntText (t : ByteArray) (v : Int) : Prop := (-2147483648 ≤ v ∧ v ≤ 2147483647) ∧ Lb t = Lib.itoa v
theorem spec_number (t : ByteArray) : ∃ r, Ev (fun k => spec_l00Number.f k t) r ∧ (r.2 = true → -1000000000000000000 < r.1 ∧ r.1 < 1000000000000000000) ∧ ∀ v, IntText t v → r = (v, true) := by
  by_cases h0 : (t.size : Int) > 0
  · obtain ⟨b, hb, he⟩ := lb_at t 0 (by omega)
    rw [List.drop_zero] at hb
    have he0 : bt t 0 = (b.toNat : Int) := he
    by_cases h45 : (bt t 0 == 45) = true
    · obtain ⟨r, e, hr, hv⟩ := spec_number_j (t.extract 1 t.size) (-1) (.inr rfl)
      refine ⟨r, ev_same (f := fun k => spec_l00Number.j0 k t 1 true) ⟨0, fun k _ => by unfold spec_l00Number.f; rw [if_pos h0, if_pos (by omega), h45]⟩ (ev_step ⟨0, fun k _ => by simp only [spec_l00Number.j0]; rw [if_pos trivial, if_pos (by omega)]⟩ e), hr, fun v hi => ?_⟩
      have hb45 : b.toNat = 45 := by have := eq_of_beq h45; omega
      obtain ⟨hv1, hl⟩ := hi
      have hneg : v < 0 := by
        refine Int.not_le.1 fun hn => ?_
        unfold Lib.itoa at hl
        rw [if_neg (by omega)] at hl
        have := dec_digit v.toNat b (by rw [← hl, hb]; simp)
        omega
      have hl1 : Lb (t.extract 1 t.size) = Lib.decDigits v.natAbs := by
        rw [lb_from, hl]
        unfold Lib.itoa
        rw [if_pos hneg]
        rfl
      rw [hv v.natAbs hl1 (by omega) (by omega)]
      congr 1
      omega
    · have h45' : (bt t 0 == 45) = false := by simpa using h45
      obtain ⟨r, e, hr, hv⟩ := spec_number_j t 1 (.inl rfl)
      refine ⟨r, ev_same (f := fun k => spec_l00Number.j0 k t 1 false) ⟨0, fun k _ => by unfold spec_l00Number.f; rw [if_pos h0, if_pos (by omega), h45']⟩ (ev_step ⟨0, fun k _ => by simp only [spec_l00Number.j0]; rfl⟩ e), hr, fun v hi => ?_⟩
      obtain ⟨hv1, hl⟩ := hi
      have hpos : ¬ v < 0 := by
        intro hn
        unfold Lib.itoa at hl
        rw [if_pos hn, hb] at hl
        injection hl with hl1 hl2
        rw [hl1] at he0
        rw [he0] at h45'
        exact absurd h45' (by decide)
      have hl1 : Lb t = Lib.decDigits v.toNat := by
        rw [hl]
        unfold Lib.itoa
        rw [if_neg hpos]
      rw [hv v.toNat hl1 (by omega) (by omega)]
      congr 1
      omega
  · obtain ⟨r, e, hr, hv⟩ := spec_number_j t 1 (.inl rfl)
    refine ⟨r, ev_same (f := fun k => spec_l00Number.j0 k t 1 false) ⟨0, fun k _ => by unfold spec_l00Number.f; rw [if_neg h0]⟩ (ev_step ⟨0, fun k _ => by simp only [spec_l00Number.j0]; rfl⟩ e), hr, fun v hi => ?_⟩
    have hl := lb_len t
    rw [hi.2] at hl
    have : (Lib.itoa v).length ≠ 0 := by
      unfold Lib.itoa
      split
      · simp
      · obtain ⟨b, r, e, _⟩ := dec_head v.toNat
        rw [e]; simp
    omega
theorem spec_in (a : Int) : spec_IsInt.f a = some (decide (-2147483648 ≤ a ∧ a ≤ 2147483647)) := by
  unfold spec_IsInt.f spec_l01In.f
  by_cases h1 : -2147483648 ≤ a <;> simp [h1]
theorem impl_in (a : Int) : impl_IsInt.f a = some (decide (-2147483648 ≤ a ∧ a ≤ 2147483647)) := by
  unfold impl_IsInt.f impl_within.f
  by_cases h1 : -2147483648 ≤ a <;> simp [h1]
theorem spec_int (t : ByteArray) : ∃ r, Ev (fun k => spec_l01Int.f k t) r ∧ (r.2 = true → IntText t r.1) ∧ ∀ v, IntText t v → r = (v, true) := by
  obtain ⟨⟨n, ok⟩, e, hb, hv⟩ := spec_number t
  obtain ⟨K, h⟩ := ev_at e
  cases ok with
  | false => exact ⟨(n, false), ev_mk K fun k hk => by unfold spec_l01Int.f; rw [h k hk]; rfl, fun h => (by cases h), fun v hi => by cases hv v hi⟩
  | true =>
    have hb' := hb rfl
    obtain ⟨e1, _, _⟩ := digits_agree n (by omega) (by omega)
    obtain ⟨K1, h1⟩ := ev_at e1
    by_cases ht : (⟨(Lib.itoa n).toArray⟩ : ByteArray).toList = t.toList
    · refine ⟨(n, decide (-2147483648 ≤ n ∧ n ≤ 2147483647)), ev_mk (K + K1) fun k hk => ?_, fun h => ⟨of_decide_eq_true h, ?_⟩, fun v hi => ?_⟩
      · unfold spec_l01Int.f
        rw [h k (by omega)]
        simp only [Option.bind_some, if_true]
        rw [h1 k (by omega)]
        simp only [Option.bind_some]
        rw [if_pos ht, spec_in]
        rfl
      · rw [lb_list, lb_list] at ht
        exact ht.symm
      · have := hv v hi
        injection this with h1 h2
        subst h1
        rw [decide_eq_true hi.1]
    · refine ⟨(n, false), ev_mk (K + K1) fun k hk => ?_, fun h => (by cases h), fun v hi => ?_⟩
      · unfold spec_l01Int.f
        rw [h k (by omega)]
        simp only [Option.bind_some, if_true]
        rw [h1 k (by omega)]
        simp only [Option.bind_some]
        rw [if_neg ht]
      · have := hv v hi
        injection this with h1 h2
        subst h1
        exact absurd (by rw [lb_list, lb_list]; exact hi.2.symm) ht
theorem impl_int (t : ByteArray) (ht : t.size ≤ 1048576) : ∃ r, impl_intOf.f t = some r ∧ (r.2 = true → IntText t r.1) ∧ ∀ v, IntText t v → r = (v, true) := by
  have eT : ∀ v, impl_numberOf.T t v ↔ Lb t = Lib.itoa v ∧ (Lib.trimPrefix t.data.toList [45]).length ≤ 18 := fun v => by
    unfold impl_numberOf.T
    rw [lb_list, lb_list]
    show Lb ⟨(Lib.itoa v).toArray⟩ = Lb t ∧ (Lib.trimPrefix t.data.toList [45]).toArray.size ≤ 18 ↔ _
    rw [List.size_toArray]
    exact ⟨fun h => ⟨h.1.symm, h.2⟩, fun h => ⟨h.1.symm, h.2⟩⟩
  have rd : ∀ v, IntText t v → Lib.atoiAll t.data.toList = .ok v ∧ impl_numberOf.T t v := fun v hi => by
    have e : t.data.toList = Lib.itoa v := hi.2
    refine ⟨by rw [e]; exact itoa_all v hi.1.1 hi.1.2, (eT v).2 ⟨hi.2, ?_⟩⟩
    have := itoa_len v hi.1.1 hi.1.2
    have h2 : (Lib.trimPrefix t.data.toList [45]).length ≤ t.data.toList.length := by
      unfold Lib.trimPrefix
      split
      · rw [List.length_drop]; omega
      · exact Nat.le_refl _
    rw [e] at h2 ⊢
    omega
  unfold impl_intOf.f impl_numberOf.f
  rw [if_pos (by omega)]
  rcases ha : Lib.atoiAll t.data.toList with v | _ | _
  · by_cases hT : impl_numberOf.T t v
    · simp only [hT, if_true, decide_true, Option.bind_some, impl_in]
      by_cases hi : -2147483648 ≤ v ∧ v ≤ 2147483647
      · refine ⟨(v, true), by simp [hi], fun _ => ⟨hi, ((eT v).1 hT).1⟩, fun v' hi' => ?_⟩
        have := (rd v' hi').1
        rw [ha] at this
        injection this with this
        rw [this]
      · refine ⟨(0, false), by rw [decide_eq_false hi]; rfl, fun h => (by cases h), fun v' hi' => ?_⟩
        have := (rd v' hi').1
        rw [ha] at this
        injection this with this
        subst this
        exact absurd hi'.1 hi
    · refine ⟨(0, false), by simp [hT], fun h => (by cases h), fun v' hi' => ?_⟩
      have := (rd v' hi').1
      rw [ha] at this
      injection this with this
      subst this
      exact absurd (rd _ hi').2 hT
  · refine ⟨(0, false), rfl, fun h => (by cases h), fun v' hi' => ?_⟩
    have := (rd v' hi').1
    rw [ha] at this
    cases this
  · refine ⟨(0, false), rfl, fun h => (by cases h), fun v' hi' => ?_⟩
    have := (rd v' hi').1
    rw [ha] at this
    cases this
theorem int_one {t : ByteArray} {v v' : Int} (h : IntText t v) (h' : IntText t v') : v = v' := by
  have a := itoa_read v
  have b := itoa_read v'
  rw [← h.2, h'.2, b] at a
  exact (Option.some.inj a).symm
/-- Both read the same number. -/
theorem int_agree (t : ByteArray) (ht : t.size ≤ 1048576) : ∃ r r', Ev (fun k => spec_l01Int.f k t) r ∧ impl_intOf.f t = some r' ∧ r.2 = r'.2 ∧ (r.2 = true → r = r') := by
  obtain ⟨r, e, h1, h2⟩ := spec_int t
  obtain ⟨r', e', h1', h2'⟩ := impl_int t ht
  refine ⟨r, r', e, e', ?_, fun h => ?_⟩
  · cases hr : r.2 with
    | true => rw [h2' _ (h1 hr)]
    | false =>
      cases hr' : r'.2 with
      | true => rw [h2 _ (h1' hr')] at hr; cases hr
      | false => rfl
  · rw [h2' _ (h1 h), ← h]
end Go.Proofs.YtolickgnncfmeaaDoor.Pure2
namespace Go.Proofs.YtolickgnncfmeaaDoor.Pure2
open Go.RowKit Go.Proofs.YtolickgnncfmeaaDoor.Q Go.Proofs.YtolickgnncfmeaaDoorW.PrintWords Go.Proofs.YtolickgnncfmeaaDoorW.PrintLast
set_option linter.unusedVariables false
set_option linter.unusedSimpArgs false
/-- What is a mark. -/
def IsPunct (t : List UInt8) : Prop := t = [123] ∨ t = [125] ∨ t = [40] ∨ t = [41] ∨ t = [91] ∨ t = [93] ∨ t = [58] ∨ t = [33] ∨ t = [64] ∨ t = [46, 46, 46]
theorem spec_punct (s : ByteArray) : ∃ r, spec_l01Punct.f s = some r ∧ (r = true ↔ IsPunct s.toList) := by
  unfold spec_l01Punct.f IsPunct
  generalize s.toList = t
  by_cases h1 : t = [123]
  · rw [if_pos h1]; exact ⟨_, rfl, by simp [h1]⟩
  rw [if_neg h1]
  by_cases h2 : t = [125]
  · rw [if_pos h2]; exact ⟨_, rfl, by simp [h2]⟩
  rw [if_neg h2]
  by_cases h3 : t = [40]
  · rw [if_pos h3]; exact ⟨_, rfl, by simp [h3]⟩
  rw [if_neg h3]
  by_cases h4 : t = [41]
  · rw [if_pos h4]; exact ⟨_, rfl, by simp [h4]⟩
  rw [if_neg h4]
  by_cases h5 : t = [91]
  · rw [if_pos h5]; exact ⟨_, rfl, by simp [h5]⟩
  rw [if_neg h5]
  by_cases h6 : t = [93]
  · rw [if_pos h6]; exact ⟨_, rfl, by simp [h6]⟩
  rw [if_neg h6]
  by_cases h7 : t = [58]
  · rw [if_pos h7]; exact ⟨_, rfl, by simp [h7]⟩
  rw [if_neg h7]
  by_cases h8 : t = [33]
  · rw [if_pos h8]; exact ⟨_, rfl, by simp [h8]⟩
  rw [if_neg h8]
  by_cases h9 : t = [64]
  · rw [if_pos h9]; exact ⟨_, rfl, by simp [h9]⟩
  rw [if_neg h9]
  exact ⟨_, rfl, by simp [h1, h2, h3, h4, h5, h6, h7, h8, h9]⟩
/-! one token -/
def hitP (l : List UInt8) : List ByteArray → Int × Int × ByteArray × Int × Bool
  | [] => (0, 0, ⟨#[]⟩, 0, false)
  | p :: ps => if Lib.hasPrefix l (Lb p) = true then (4, 0, p, (p.size : Int), true) else hitP l ps
theorem impl_hit (t : ByteArray) (P : List ByteArray) (hP : P.length ≤ 1048576) : ∀ (d j : Nat), j + d = P.length → Ev (fun k => impl_tokenAt.l0 k t P (P.length : Int) (j : Int)) (hitP (Lb t) (P.drop j)) := by
  intro d
  induction d with
  | zero =>
    intro j h
    rw [List.drop_of_length_le (by omega)]
    exact ev_now ⟨0, fun k _ => by simp only [impl_tokenAt.l0]; rw [if_neg (by omega)]; rfl⟩
  | succ d ih =>
    intro j h
    have hw := wnext (n := j) (by omega)
    have hj : j < P.length := by omega
    have hd : rdOf ByteArray.empty P (j : Int) = P[j] := by
      unfold rdOf
      rw [Int.toNat_natCast, List.getD_eq_getElem?_getD, List.getElem?_eq_getElem hj]
      rfl
    rw [List.drop_eq_getElem_cons hj]
    simp only [hitP]
    have hp : strings_HasPrefix.f t P[j] = some (Lib.hasPrefix (Lb t) (Lb P[j])) := rfl
    by_cases hh : Lib.hasPrefix (Lb t) (Lb P[j]) = true
    · rw [if_pos hh]
      exact ev_now ⟨0, fun k _ => by simp only [impl_tokenAt.l0]; rw [if_pos (by omega), if_pos (by omega), if_pos (by omega), hd, hp]; simp only [Option.bind_some]; rw [if_pos hh]⟩
    · rw [if_neg hh]
      exact ev_step ⟨0, fun k _ => by simp only [impl_tokenAt.l0]; rw [if_pos (by omega), if_pos (by omega), if_pos (by omega), hd, hp]; simp only [Option.bind_some]; rw [if_neg hh, hw]⟩ (ih (j + 1) (by omega))
/-- What the marks' row gives at a row of bytes that is not empty. -/
theorem hit_puncts (b : UInt8) (r : List UInt8) : ∃ P, impl_puncts.f = some P ∧ P.length = 10 ∧
    ((IsPunct [b] ∧ ∃ c : ByteArray, Lb c = [b] ∧ hitP (b :: r) P = (4, 0, c, 1, true)) ∨ (¬ IsPunct [b] ∧ (b :: r).take 3 = [46, 46, 46] ∧ hitP (b :: r) P = (4, 0, ⟨#[46, 46, 46]⟩, 3, true)) ∨ (¬ IsPunct [b] ∧ (b :: r).take 3 ≠ [46, 46, 46] ∧ hitP (b :: r) P = (0, 0, ⟨#[]⟩, 0, false))) := by
  refine ⟨_, rfl, rfl, ?_⟩
  have one : ∀ c : UInt8, Lib.hasPrefix (b :: r) (Lb ⟨#[c]⟩) = (c == b) := fun c => by
    show ([c] : List UInt8).isPrefixOf (b :: r) = _
    simp [List.isPrefixOf]
  have three : (Lib.hasPrefix (b :: r) (Lb ⟨#[46, 46, 46]⟩) = true) ↔ (b :: r).take 3 = [46, 46, 46] := by
    show (([46, 46, 46] : List UInt8).isPrefixOf (b :: r) = true) ↔ _
    rw [List.isPrefixOf_iff_prefix, List.prefix_iff_eq_take]
    exact eq_comm
  have sz : ∀ c : UInt8, ((⟨#[c]⟩ : ByteArray).size : Int) = 1 := fun _ => rfl
  simp only [hitP, one, beq_iff_eq, sz]
  have hit : ∀ c : UInt8, c = b → IsPunct [c] → IsPunct [b] ∧ ∃ x : ByteArray, Lb x = [b] ∧ ((4 : Int), (0 : Int), (⟨#[c]⟩ : ByteArray), (1 : Int), true) = (4, 0, x, 1, true) := fun c h hp => by
    subst h; exact ⟨hp, _, rfl, rfl⟩
  by_cases h1 : (123 : UInt8) = b
  · rw [if_pos h1]; exact .inl (hit _ h1 (by simp [IsPunct]))
  rw [if_neg h1]
  by_cases h2 : (125 : UInt8) = b
  · rw [if_pos h2]; exact .inl (hit _ h2 (by simp [IsPunct]))
  rw [if_neg h2]
  by_cases h3 : (40 : UInt8) = b
  · rw [if_pos h3]; exact .inl (hit _ h3 (by simp [IsPunct]))
  rw [if_neg h3]
  by_cases h4 : (41 : UInt8) = b
  · rw [if_pos h4]; exact .inl (hit _ h4 (by simp [IsPunct]))
  rw [if_neg h4]
  by_cases h5 : (91 : UInt8) = b
  · rw [if_pos h5]; exact .inl (hit _ h5 (by simp [IsPunct]))
  rw [if_neg h5]
  by_cases h6 : (93 : UInt8) = b
  · rw [if_pos h6]; exact .inl (hit _ h6 (by simp [IsPunct]))
  rw [if_neg h6]
  by_cases h7 : (58 : UInt8) = b
  · rw [if_pos h7]; exact .inl (hit _ h7 (by simp [IsPunct]))
  rw [if_neg h7]
  by_cases h8 : (33 : UInt8) = b
  · rw [if_pos h8]; exact .inl (hit _ h8 (by simp [IsPunct]))
  rw [if_neg h8]
  by_cases h9 : (64 : UInt8) = b
  · rw [if_pos h9]; exact .inl (hit _ h9 (by simp [IsPunct]))
  rw [if_neg h9]
  have hno : ¬ IsPunct [b] := by
    unfold IsPunct
    simp only [List.cons.injEq, and_true, reduceCtorEq, and_false, or_false]
    intro h
    rcases h with h | h | h | h | h | h | h | h | h <;> subst h <;> contradiction
  by_cases h10 : (b :: r).take 3 = [46, 46, 46]
  · rw [if_pos (three.2 h10)]; exact .inr (.inl ⟨hno, h10, rfl⟩)
  · rw [if_neg (fun h => h10 (three.1 h))]; exact .inr (.inr ⟨hno, h10, rfl⟩)
theorem extract_same (s t : ByteArray) (n a b : Nat) (ht : Lb t = (Lb s).drop n) : t.extract a b = s.extract (n + a) (n + b) := by
  apply lb_ext
  rw [lb_cut, lb_cut, ht, List.drop_drop, show n + b - (n + a) = b - a by omega]
theorem size_cut (s : ByteArray) (a b : Nat) (h : s.size ≤ 1048576) : (s.extract a b).size ≤ 1048576 := by
  rw [← lb_len, lb_cut, List.length_take, List.length_drop, lb_len]
  omega
set_option maxHeartbeats 2000000 in
/-- Both read the same token. -/
theorem tok_agree (s : ByteArray) (hs : s.size ≤ 1048576) (n : Nat) (hn : n < s.size) : ∃ (a b : Int) (c : ByteArray) (m : Nat) (a' b' : Int) (c' : ByteArray) (m' : Int) (ok : Bool), Ev (fun k => impl_tokenAt.f k (s.extract n s.size)) (a, b, c, (m : Int), ok) ∧ Ev (fun k => spec_l01Next.f k s (n : Int)) (a', b', c', m', ok) ∧
    (ok = true → 1 ≤ m ∧ n + m ≤ s.size ∧ a' = a ∧ b' = b ∧ c' = c ∧ m' = ((n + m : Nat) : Int)) := by
  obtain ⟨b, hb, he⟩ := lb_at s n hn
  have hfrom := lb_from s n
  obtain ⟨t, ht⟩ : ∃ t, t = s.extract n s.size := ⟨_, rfl⟩
  rw [← ht] at hfrom ⊢
  have htL : Lb t = b :: (Lb s).drop (n + 1) := hfrom.trans hb
  have htz : t.size = s.size - n := by rw [← lb_len, hfrom, List.length_drop, lb_len]
  have het : bt t 0 = (b.toNat : Int) := by
    obtain ⟨b', hb', he'⟩ := lb_at t 0 (by omega)
    rw [List.drop_zero, htL] at hb'
    injection hb' with h1 h2
    subst h1
    exact he'
  have hw1 : Unit → wrap64 ((n : Int) + 1) = ((n + 1 : Nat) : Int) := fun _ => wnext (n := n) (by omega)
  have hwl := wl_le ((Lb s).drop (n + 1))
  rw [List.length_drop, lb_len] at hwl
  by_cases hL : isL b.toNat = true
  · -- a name
    have hm : wl (b :: (Lb s).drop (n + 1)) = wl ((Lb s).drop (n + 1)) + 1 := by simp only [wl]; rw [if_pos (.inl hL)]
    have e1 := impl_word_len t (by omega)
    have e2 := spec_word_len s hs n (by omega)
    rw [htL, hm] at e1
    rw [hb, hm] at e2
    generalize wl ((Lb s).drop (n + 1)) = m at e1 e2 hwl
    have hx := extract_same s t n 0 (m + 1) hfrom
    obtain ⟨r, e3, e4, _⟩ := names_ev (t.extract 0 (m + 1)) (size_cut t _ _ (by omega))
    obtain ⟨K1, k1⟩ := ev_at e1
    obtain ⟨K2, k2⟩ := ev_at e2
    obtain ⟨K3, k3⟩ := ev_at e3
    obtain ⟨K4, k4⟩ := ev_at e4
    rw [show n + 0 = n from rfl] at hx
    refine ⟨1, 0, t.extract 0 (m + 1), m + 1, 1, 0, t.extract 0 (m + 1), ((n + (m + 1) : Nat) : Int), r, ev_mk (K1 + K4) fun k hk => ?_, ev_mk (K2 + K3) fun k hk => ?_, fun _ => ⟨by omega, by omega, rfl, rfl, rfl, rfl⟩⟩
    · unfold impl_tokenAt.f
      rw [if_pos (by omega), het, impl_letter]
      simp only [Option.bind_some]
      rw [if_pos hL, k1 k (by omega)]
      simp only [Option.bind_some]
      rw [if_pos (by omega), if_pos (by omega)]
      simp only [Int.toNat_natCast]
      rw [k4 k (by omega)]
      rfl
    · have h36 : ¬ ((b.toNat : Int) = 36) := by
        intro h
        rw [show (b.toNat : Int) = 36 from h] at hL
        exact absurd hL (by decide)
      unfold spec_l01Next.f
      rw [if_pos (by omega), if_pos (by omega), he, if_neg h36, spec_letter]
      simp only [Option.bind_some]
      rw [if_pos hL, k2 k (by omega)]
      simp only [Option.bind_some]
      rw [if_pos (by omega), if_pos (by omega)]
      simp only [Int.toNat_natCast]
      rw [← hx, k3 k (by omega)]
      rfl
  · have eL : impl_isLetter.f (b.toNat : Int) = some false := by rw [impl_letter]; simp only [hL]
    have eLs : spec_l00Letter.f (b.toNat : Int) = some false := eL
    have e1 := impl_word_len (t.extract 1 t.size) (size_cut t _ _ (by omega))
    rw [lb_from, htL] at e1
    simp only [List.drop_succ_cons, List.drop_zero] at e1
    have e2 := spec_word_len s hs (n + 1) (by omega)
    generalize wl ((Lb s).drop (n + 1)) = m at e1 e2 hwl
    have hwm : Unit → wrap64 (1 + (m : Int)) = ((1 + m : Nat) : Int) := fun _ => by clear hw1; unfold wrap64; omega
    by_cases h36 : (b.toNat : Int) = 36
    · -- a variable
      have hx := extract_same s t n 1 (1 + m) hfrom
      obtain ⟨r, e3, e4, _⟩ := names_ev (t.extract 1 (1 + m)) (size_cut t _ _ (by omega))
      obtain ⟨K1, k1⟩ := ev_at e1
      obtain ⟨K2, k2⟩ := ev_at e2
      obtain ⟨K3, k3⟩ := ev_at e3
      obtain ⟨K4, k4⟩ := ev_at e4
      refine ⟨3, 0, t.extract 1 (1 + m), 1 + m, 3, 0, t.extract 1 (1 + m), ((n + 1 + m : Nat) : Int), r, ev_mk (K1 + K4 + 1) fun k hk => ?_, ev_mk (K2 + K3) fun k hk => ?_, fun _ => ⟨by omega, by omega, rfl, rfl, rfl, by omega⟩⟩
      · obtain ⟨j, rfl⟩ : ∃ j, k = j + 1 := ⟨k - 1, by omega⟩
        unfold impl_tokenAt.f
        rw [if_pos (by omega), het, eL]
        simp only [Option.bind_some]
        have hDf : isD (b.toNat : Int) = false := by rw [h36]; decide
        rw [if_neg (by simp), if_neg (by omega), impl_digit, hDf]
        simp only [Option.bind_some, impl_tokenAt.j0]
        rw [if_neg (by simp), if_pos h36, if_pos (by omega), k1 j (by omega)]
        rw [Option.bind_some, hwm (), if_pos (by omega), if_pos (by omega), Int.toNat_natCast, k4 j (by omega), Option.bind_some]
      · unfold spec_l01Next.f
        rw [if_pos (by omega), if_pos (by omega), he, if_pos h36, hw1 (), k2 k (by omega)]
        simp only [Option.bind_some]
        rw [if_pos (by omega), if_pos (by omega), if_pos (by omega)]
        simp only [Int.toNat_natCast]
        rw [show n + 1 + m = n + (1 + m) by omega, ← hx, k3 k (by omega)]
        rfl
    · by_cases hD : (b.toNat : Int) = 45 ∨ isD b.toNat = true
      · -- a number
        have hx := extract_same s t n 0 (1 + m) hfrom
        rw [show n + 0 = n from rfl] at hx
        obtain ⟨⟨v, ok⟩, ⟨v', ok'⟩, e3, e4, hok, hv⟩ := int_agree (t.extract 0 (1 + m)) (size_cut t _ _ (by omega))
        obtain ⟨K1, k1⟩ := ev_at e1
        obtain ⟨K2, k2⟩ := ev_at e2
        obtain ⟨K3, k3⟩ := ev_at e3
        have hok' : ok = ok' := hok
        subst hok'
        have gi : ∀ j, K1 ≤ j → impl_tokenAt.j0 (j + 1) t (b.toNat : Int) true = some (2, v', (⟨#[]⟩ : ByteArray), ((1 + m : Nat) : Int), ok) := fun j hj => by
          simp only [impl_tokenAt.j0]
          rw [if_pos trivial, if_pos (by omega), k1 j hj]
          rw [Option.bind_some, hwm (), if_pos (by omega), if_pos (by omega), Int.toNat_natCast, e4, Option.bind_some]
        have gs : ∀ j, K2 + K3 ≤ j → spec_l01Next.j0 (j + 1) s (n : Int) (b.toNat : Int) true = some (2, v, (⟨#[]⟩ : ByteArray), ((n + 1 + m : Nat) : Int), ok) := fun j hj => by
          simp only [spec_l01Next.j0]
          rw [if_pos trivial, hw1 (), k2 j (by omega)]
          simp only [Option.bind_some]
          rw [if_pos (by omega), if_pos (by omega), if_pos (by omega)]
          simp only [Int.toNat_natCast]
          rw [show n + 1 + m = n + (1 + m) by omega, ← hx, k3 j (by omega)]
          rfl
        refine ⟨2, v', ⟨#[]⟩, 1 + m, 2, v, ⟨#[]⟩, ((n + 1 + m : Nat) : Int), ok, ev_mk (K1 + 1) fun k hk => ?_, ev_mk (K2 + K3 + 1) fun k hk => ?_, fun h => ⟨by omega, by omega, rfl, congrArg Prod.fst (hv h), rfl, by omega⟩⟩
        · obtain ⟨j, rfl⟩ : ∃ j, k = j + 1 := ⟨k - 1, by omega⟩
          unfold impl_tokenAt.f
          rw [if_pos (by omega), het, eL]
          simp only [Option.bind_some]
          rw [if_neg (by simp)]
          by_cases h45 : (b.toNat : Int) = 45
          · rw [if_pos h45, gi j (by omega)]
          · rw [if_neg h45, impl_digit, hD.resolve_left h45]
            simp only [Option.bind_some]
            rw [gi j (by omega)]
        · obtain ⟨j, rfl⟩ : ∃ j, k = j + 1 := ⟨k - 1, by omega⟩
          unfold spec_l01Next.f
          rw [if_pos (by omega), if_pos (by omega), he, if_neg h36, eLs]
          simp only [Option.bind_some]
          rw [if_neg (by simp)]
          by_cases h45 : (b.toNat : Int) = 45
          · rw [if_pos h45, gs j (by omega)]
          · rw [if_neg h45, spec_digit, hD.resolve_left h45]
            simp only [Option.bind_some]
            rw [gs j (by omega)]
      · -- a mark
        have h45 : ¬ ((b.toNat : Int) = 45) := fun h => hD (.inl h)
        have eD : impl_isDigit.f (b.toNat : Int) = some false := by rw [impl_digit]; congr 1; exact Bool.eq_false_iff.2 fun h => hD (.inr h)
        have eDs : spec_l00Digit.f (b.toNat : Int) = some false := eD
        obtain ⟨P, hP, hPl, hhit⟩ := hit_puncts b ((Lb s).drop (n + 1))
        have e5 := impl_hit t P (by omega) P.length 0 (by omega)
        rw [List.drop_zero, htL] at e5
        obtain ⟨K5, k5⟩ := ev_at e5
        have gi : Ev (fun k => impl_tokenAt.f k t) (hitP (b :: (Lb s).drop (n + 1)) P) := ev_mk (K5 + 1) fun k hk => by
          obtain ⟨j, rfl⟩ : ∃ j, k = j + 1 := ⟨k - 1, by omega⟩
          unfold impl_tokenAt.f
          rw [if_pos (by omega), het, eL]
          simp only [Option.bind_some]
          rw [if_neg (by simp), if_neg h45, eD]
          simp only [Option.bind_some, impl_tokenAt.j0]
          rw [if_neg (by simp), if_neg h36, hP]
          simp only [Option.bind_some]
          exact k5 j (by omega)
        have gs : ∀ r, (∀ j, spec_l01Next.j0 (j + 1) s (n : Int) (b.toNat : Int) false = some r) → Ev (fun k => spec_l01Next.f k s (n : Int)) r := fun r hr => ev_mk 1 fun k hk => by
          obtain ⟨j, rfl⟩ : ∃ j, k = j + 1 := ⟨k - 1, by omega⟩
          unfold spec_l01Next.f
          rw [if_pos (by omega), if_pos (by omega), he, if_neg h36, eLs]
          simp only [Option.bind_some]
          rw [if_neg (by simp), if_neg h45, eDs]
          simp only [Option.bind_some]
          exact hr j
        have hw3 : Unit → wrap64 ((n : Int) + 3) = ((n + 3 : Nat) : Int) := fun _ => by unfold wrap64; omega
        have hwz : Unit → wrap64 ((s.size : Int) - (n : Int)) = ((s.size - n : Nat) : Int) := fun _ => by unfold wrap64; omega
        by_cases h46 : (b.toNat : Int) = 46
        · have hbn : b = 46 := UInt8.toNat_inj.1 (show b.toNat = 46 by omega)
          have hnp : ¬ IsPunct [b] := by subst hbn; simp [IsPunct]
          by_cases h3 : n + 3 ≤ s.size
          · have hx3 : (s.extract n (n + 3)).toList = (b :: (Lb s).drop (n + 1)).take 3 := by rw [lb_list, lb_cut, hb, show n + 3 - n = 3 by omega]
            have es := gs (4, 0, ⟨#[46, 46, 46]⟩, ((n + 3 : Nat) : Int), ((s.extract n (n + 3)).toList == ([46, 46, 46] : List UInt8))) fun j => by
              simp only [spec_l01Next.j0]
              rw [if_neg (by simp), if_pos h46, hwz (), if_pos (by omega), if_pos (by omega), hw3 (), if_pos (by omega), if_pos (by omega)]
              simp only [Int.toNat_natCast]
            rw [hx3] at es
            rcases hhit with ⟨h, _⟩ | ⟨_, h, e⟩ | ⟨_, h, e⟩
            · exact absurd h hnp
            · rw [h] at es
              rw [e] at gi
              exact ⟨_, _, _, 3, _, _, _, _, true, gi, es, fun _ => ⟨by omega, by omega, rfl, rfl, rfl, rfl⟩⟩
            · rw [beq_eq_false_iff_ne.2 h] at es
              rw [e] at gi
              exact ⟨_, _, _, 0, _, _, _, _, false, gi, es, fun h => by cases h⟩
          · have es := gs (4, 0, ⟨#[46, 46, 46]⟩, ((n + 3 : Nat) : Int), false) fun j => by
              simp only [spec_l01Next.j0]
              rw [if_neg (by simp), if_pos h46, hwz (), if_neg (by omega), hw3 ()]
            rcases hhit with ⟨h, _⟩ | ⟨_, h, e⟩ | ⟨_, h, e⟩
            · exact absurd h hnp
            · have h2 := congrArg List.length h
              rw [List.length_take, List.length_cons, List.length_drop, lb_len] at h2
              simp only [List.length_cons, List.length_nil] at h2
              omega
            · rw [e] at gi
              exact ⟨_, _, _, 0, _, _, _, _, false, gi, es, fun h => by cases h⟩
        · have hx1 : (s.extract n (n + 1)).toList = [b] := by rw [lb_list, lb_cut, hb, show n + 1 - n = 1 by omega]; rfl
          obtain ⟨r, er, hr⟩ := spec_punct (s.extract n (n + 1))
          rw [hx1] at hr
          have es := gs (4, 0, s.extract n (n + 1), ((n + 1 : Nat) : Int), r) fun j => by
            simp only [spec_l01Next.j0]
            rw [if_neg (by simp), if_neg h46, if_pos (by omega), hw1 (), if_pos (by omega), if_pos (by omega)]
            simp only [Int.toNat_natCast]
            rw [er]
            rfl
          rcases hhit with ⟨h, c, hc, e⟩ | ⟨_, h, _⟩ | ⟨h, _, e⟩
          · rw [e] at gi
            have hr' : r = true := hr.2 h
            subst hr'
            exact ⟨_, _, _, 1, _, _, _, _, true, gi, es, fun _ => ⟨by omega, by omega, rfl, rfl, lb_ext (by rw [← lb_list, hx1, hc]), rfl⟩⟩
          · simp only [List.take_succ_cons, List.cons.injEq] at h
            have : (b.toNat : Int) = 46 := by rw [h.1]; rfl
            exact absurd this h46
          · rw [e] at gi
            have hr' : r = false := Bool.eq_false_iff.2 fun h' => h (hr.1 h')
            subst hr'
            exact ⟨_, _, _, 0, _, _, _, _, false, gi, es, fun h => by cases h⟩
end Go.Proofs.YtolickgnncfmeaaDoor.Pure2
namespace Go.Proofs.YtolickgnncfmeaaDoor.Pure2
open Go.RowKit Go.Proofs.YtolickgnncfmeaaDoor.Q Go.Proofs.YtolickgnncfmeaaDoorW.PrintWords Go.Proofs.YtolickgnncfmeaaDoorW.PrintLast
set_option linter.unusedVariables false
set_option linter.unusedSimpArgs false
/-! what is passed over -/
def spc (b : Int) : Bool := decide (b = 32 ∨ b = 9 ∨ b = 10 ∨ b = 13 ∨ b = 44)
def sk : Bool → List UInt8 → Nat
  | _, [] => 0
  | true, b :: r => if b.toNat = 10 then sk false r + 1 else sk true r + 1
  | false, b :: r => if spc b.toNat = true then sk false r + 1 else if b.toNat = 35 then sk true r + 1 else 0
theorem sk_le : ∀ (l : List UInt8) (f : Bool), sk f l ≤ l.length
  | [], f => by cases f <;> exact Nat.le_refl _
  | b :: r, f => by
    have h1 := sk_le r true
    have h2 := sk_le r false
    cases f
    · simp only [sk, List.length_cons]
      split
      · omega
      · split <;> omega
    · simp only [sk, List.length_cons]
      split <;> omega
theorem sk_stop : ∀ (l : List UInt8) (f : Bool) (b : UInt8) (r : List UInt8), l.drop (sk f l) = b :: r → spc b.toNat = false ∧ b.toNat ≠ 35
  | [], f, b, r, h => by cases f <;> simp [sk] at h
  | c :: l, f, b, r, h => by
    cases f
    · simp only [sk] at h
      by_cases h1 : spc c.toNat = true
      · rw [if_pos h1] at h
        exact sk_stop l false b r h
      · rw [if_neg h1] at h
        by_cases h2 : c.toNat = 35
        · rw [if_pos h2] at h
          exact sk_stop l true b r h
        · rw [if_neg h2] at h
          rw [List.drop_zero] at h
          injection h with h3 h4
          subst h3
          exact ⟨by simpa using h1, h2⟩
    · simp only [sk] at h
      by_cases h1 : c.toNat = 10
      · rw [if_pos h1] at h
        exact sk_stop l false b r h
      · rw [if_neg h1] at h
        exact sk_stop l true b r h
theorem spec_space (b : Int) : spec_l01Space.f b = some (spc b) := by
  unfold spec_l01Space.f spc
  by_cases h1 : b = 32
  · rw [if_pos h1, decide_eq_true (.inl h1)]
  rw [if_neg h1]
  by_cases h2 : b = 9
  · rw [if_pos h2, decide_eq_true (.inr (.inl h2))]
  rw [if_neg h2]
  by_cases h3 : b = 10
  · rw [if_pos h3, decide_eq_true (.inr (.inr (.inl h3)))]
  rw [if_neg h3]
  by_cases h4 : b = 13
  · rw [if_pos h4, decide_eq_true (.inr (.inr (.inr (.inl h4))))]
  rw [if_neg h4]
  by_cases h5 : b = 44
  · rw [decide_eq_true (.inr (.inr (.inr (.inr h5)))), h5]; rfl
  · rw [decide_eq_false (by simp [h1, h2, h3, h4, h5]), beq_eq_false_iff_ne.2 h5]
theorem not35 {b : Int} (h : spc b = true) : ¬ b = 35 := by
  rintro rfl
  exact absurd h (by decide)
theorem is10 : spc 10 = true := by decide
theorem spec_skip (s : ByteArray) (hs : s.size ≤ 1048576) (out : List S27) (r : List S27 × Int) : ∀ (d n : Nat) (f : Bool), n + d = s.size → Ev (fun k => spec_l01Lex.l0 k s out ((n + sk f ((Lb s).drop n) : Nat) : Int)) r →
    Ev (fun k => if f = true then spec_l01Lex.l1 k s out (n : Int) else spec_l01Lex.l0 k s out (n : Int)) r := by
  intro d
  induction d with
  | zero =>
    intro n f h e
    rw [lb_none s n (by omega)] at e
    cases f
    · exact e
    · exact ev_step ⟨0, fun k _ => by simp only [if_true, spec_l01Lex.l1]; rw [if_neg (by omega)]; rfl⟩ e
  | succ d ih =>
    intro n f h e
    obtain ⟨b, hb, he⟩ := lb_at s n (by omega)
    have hw := wnext (n := n) (by omega)
    rw [hb] at e
    cases f
    · simp only [sk] at e
      by_cases h1 : spc b.toNat = true
      · rw [if_pos h1, show n + (sk false ((Lb s).drop (n + 1)) + 1) = (n + 1) + sk false ((Lb s).drop (n + 1)) by omega] at e
        refine ev_step ⟨0, fun k _ => ?_⟩ (ih (n + 1) false (by omega) e)
        simp only [Bool.false_eq_true, if_false, spec_l01Lex.l0]
        rw [if_pos (by omega), if_pos (by omega), he, if_neg (not35 h1), spec_space, Option.bind_some, if_pos h1, hw]
      · rw [if_neg h1] at e
        by_cases h2 : b.toNat = 35
        · rw [if_pos h2, show n + (sk true ((Lb s).drop (n + 1)) + 1) = (n + 1) + sk true ((Lb s).drop (n + 1)) by omega] at e
          refine ev_step (f := fun k => spec_l01Lex.l1 k s out (n : Int)) ⟨0, fun k _ => ?_⟩ (ev_step ⟨0, fun k _ => ?_⟩ (ih (n + 1) true (by omega) e))
          · simp only [Bool.false_eq_true, if_false, spec_l01Lex.l0]
            rw [if_pos (by omega), if_pos (by omega), he, if_pos (by omega)]
          · simp only [if_true, spec_l01Lex.l1]
            rw [if_pos (by omega), if_pos (by omega), he, if_neg (by omega), hw]
        · rw [if_neg h2] at e
          exact e
    · simp only [sk] at e
      by_cases h1 : b.toNat = 10
      · rw [if_pos h1, show n + (sk false ((Lb s).drop (n + 1)) + 1) = (n + 1) + sk false ((Lb s).drop (n + 1)) by omega] at e
        refine ev_step (f := fun k => spec_l01Lex.l0 k s out (n : Int)) ⟨0, fun k _ => ?_⟩ (ev_step ⟨0, fun k _ => ?_⟩ (ih (n + 1) false (by omega) e))
        · simp only [if_true, spec_l01Lex.l1]
          rw [if_pos (by omega), if_pos (by omega), he, if_pos (by omega)]
        · have h10 : (b.toNat : Int) = 10 := by omega
          simp only [Bool.false_eq_true, if_false, spec_l01Lex.l0]
          rw [if_pos (by omega), if_pos (by omega), he, h10, if_neg (by decide), spec_space, Option.bind_some, if_pos is10, hw]
      · rw [if_neg h1, show n + (sk true ((Lb s).drop (n + 1)) + 1) = (n + 1) + sk true ((Lb s).drop (n + 1)) by omega] at e
        refine ev_step ⟨0, fun k _ => ?_⟩ (ih (n + 1) true (by omega) e)
        simp only [if_true, spec_l01Lex.l1]
        rw [if_pos (by omega), if_pos (by omega), he, if_neg (by omega), hw]
/-- How many bytes stand ahead of a line's end. -/
def cl : List UInt8 → Nat
  | [] => 0
  | b :: r => if b = 10 then 0 else cl r + 1
theorem cl_index : ∀ l : List UInt8, (Lib.indexByte l 10 = -1 ∧ cl l = l.length) ∨ (Lib.indexByte l 10 = (cl l : Int) ∧ cl l < l.length)
  | [] => .inl ⟨rfl, rfl⟩
  | b :: r => by
    by_cases h : b = 10
    · subst h
      exact .inr ⟨rfl, by simp [cl]⟩
    · have hb : (b == 10) = false := beq_eq_false_iff_ne.2 h
      simp only [Lib.indexByte, cl, hb, if_neg h, Bool.false_eq_true, if_false, List.length_cons]
      rcases cl_index r with ⟨h1, h2⟩ | ⟨h1, h2⟩
      · left
        rw [h1]
        exact ⟨rfl, by omega⟩
      · right
        rw [h1, if_neg (by rw [beq_iff_eq]; omega)]
        exact ⟨by omega, by omega⟩
theorem cl_cut (l : List UInt8) : (Lib.cut l [10]).1.length = cl l := by
  unfold Lib.cut
  rw [Lib.index_one]
  rcases cl_index l with ⟨h1, h2⟩ | ⟨h1, h2⟩
  · rw [h1, if_neg (by omega), h2]
  · rw [h1, if_pos (by omega), List.length_take, Int.toNat_natCast]
    omega
theorem cl_sk : ∀ l : List UInt8, sk true l = cl l + sk false (l.drop (cl l))
  | [] => rfl
  | b :: r => by
    have ih := cl_sk r
    by_cases h : b = 10
    · subst h
      simp only [sk, cl, if_true, List.drop_zero]
      rw [if_pos (by decide), if_pos (by decide)]
      omega
    · have hb : ¬ b.toNat = 10 := fun h' => h (UInt8.toNat_inj.1 h')
      simp only [sk, cl]
      rw [if_neg hb, if_neg h, List.drop_succ_cons]
      omega
theorem impl_passed_step (t : ByteArray) (n k : Nat) (h : n < t.size) : impl_passed.l0 (k + 1) t (n : Int) = impl_passed.j1 k t (n : Int) (bt t (n : Int)) (spc (bt t (n : Int))) := by
  simp only [impl_passed.l0]
  rw [if_pos (by omega), if_pos (by omega)]
  generalize bt t (n : Int) = v
  have e : spc v = decide (v = 32 ∨ v = 9 ∨ v = 10 ∨ v = 13 ∨ v = 44) := rfl
  by_cases h1 : v = 32
  · rw [if_pos h1, show spc v = (v == 32) by rw [e, h1]; rfl]
  rw [if_neg h1]
  by_cases h2 : v = 9
  · rw [if_pos h2, show spc v = (v == 9) by rw [e, h2]; rfl]
  rw [if_neg h2]
  by_cases h3 : v = 10
  · rw [if_pos h3, show spc v = (v == 10) by rw [e, h3]; rfl]
  rw [if_neg h3]
  by_cases h4 : v = 13
  · rw [if_pos h4, show spc v = (v == 13) by rw [e, h4]; rfl]
  rw [if_neg h4]
  congr 1
  rw [e, Bool.eq_iff_iff, beq_iff_eq, decide_eq_true_eq]
  simp [h1, h2, h3, h4]
set_option maxHeartbeats 1000000 in
theorem impl_skip (t : ByteArray) (ht : t.size ≤ 1048576) : ∀ (d n : Nat), t.size - n ≤ d → n ≤ t.size → Ev (fun k => impl_passed.l0 k t (n : Int)) ((n + sk false ((Lb t).drop n) : Nat) : Int) := by
  intro d
  induction d with
  | zero =>
    intro n h hn
    rw [lb_none t n (by omega)]
    exact ev_now ⟨0, fun k _ => by simp only [impl_passed.l0]; rw [if_neg (by omega)]; rfl⟩
  | succ d ih =>
    intro n h hn
    by_cases hlt : n < t.size
    · obtain ⟨b, hb, he⟩ := lb_at t n hlt
      have hw : Unit → wrap64 ((n : Int) + 1) = ((n + 1 : Nat) : Int) := fun _ => wnext (n := n) (by omega)
      rw [hb]
      simp only [sk]
      refine ev_step (f := fun k => impl_passed.j1 k t (n : Int) (b.toNat : Int) (spc b.toNat)) ⟨0, fun k _ => by rw [impl_passed_step t n k hlt, he]⟩ ?_
      by_cases h1 : spc b.toNat = true
      · rw [if_pos h1, show n + (sk false ((Lb t).drop (n + 1)) + 1) = (n + 1) + sk false ((Lb t).drop (n + 1)) by omega]
        exact ev_step ⟨0, fun k _ => by simp only [impl_passed.j1]; rw [if_pos h1, hw ()]⟩ (ih (n + 1) (by omega) (by omega))
      · rw [if_neg h1]
        by_cases h2 : b.toNat = 35
        · rw [if_pos h2]
          have hc : cl ((Lb t).drop n) = cl ((Lb t).drop (n + 1)) + 1 := by
            rw [hb]
            simp only [cl]
            rw [if_neg (by rintro rfl; exact absurd h2 (by decide))]
          have hlen : cl ((Lb t).drop n) ≤ t.size - n := by
            rw [← cl_cut]
            have h3 : (Lib.cut ((Lb t).drop n) [10]).1.length ≤ ((Lb t).drop n).length := by
              unfold Lib.cut
              split
              · rw [List.length_take]; omega
              · exact Nat.le_refl _
            rw [List.length_drop, lb_len] at h3
            exact h3
          have hsk : sk true ((Lb t).drop (n + 1)) = cl ((Lb t).drop (n + 1)) + sk false ((Lb t).drop (n + cl ((Lb t).drop n))) := by
            rw [cl_sk, List.drop_drop, hc]
            congr 3
            omega
          rw [hsk, show n + (cl ((Lb t).drop (n + 1)) + sk false ((Lb t).drop (n + cl ((Lb t).drop n))) + 1) = (n + cl ((Lb t).drop n)) + sk false ((Lb t).drop (n + cl ((Lb t).drop n))) by omega]
          have e2 := ih (n + cl ((Lb t).drop n)) (by omega) (by omega)
          have hcut : strings_Cut.f (t.extract n t.size) (⟨#[10]⟩ : ByteArray) = some (⟨(Lib.cut ((Lb t).drop n) [10]).1.toArray⟩, ⟨(Lib.cut ((Lb t).drop n) [10]).2.1.toArray⟩, (Lib.cut ((Lb t).drop n) [10]).2.2) := by
            unfold strings_Cut.f
            rw [if_pos ⟨rfl, by have := size_cut t n t.size ht; omega⟩]
            have e3 : (t.extract n t.size).data.toList = (Lb t).drop n := lb_from t n
            rw [e3]
          have hz : (((⟨(Lib.cut ((Lb t).drop n) [10]).1.toArray⟩ : ByteArray).size : Nat) : Int) = ((cl ((Lb t).drop n) : Nat) : Int) := by
            show (((Lib.cut ((Lb t).drop n) [10]).1.toArray.size : Nat) : Int) = _
            rw [List.size_toArray, cl_cut]
          have hwc : Unit → wrap64 ((n : Int) + ((cl ((Lb t).drop n) : Nat) : Int)) = ((n + cl ((Lb t).drop n) : Nat) : Int) := fun _ => by
            generalize cl ((Lb t).drop n) = z at hlen
            exact wrap_id (x := (n : Int) + (z : Int)) (by omega) (by omega)
          refine ev_step ⟨0, fun k _ => ?_⟩ e2
          simp only [impl_passed.j1]
          rw [if_neg h1, if_pos (by omega), if_pos (by omega), if_pos (by omega), Int.toNat_natCast, hcut, Option.bind_some]
          show impl_passed.l0 k t (wrap64 ((n : Int) + (((⟨(Lib.cut ((Lb t).drop n) [10]).1.toArray⟩ : ByteArray).size : Nat) : Int))) = _
          rw [hz, hwc ()]
        · rw [if_neg h2]
          exact ev_now ⟨0, fun k _ => by simp only [impl_passed.j1]; rw [if_neg h1, if_neg (by omega)]; rfl⟩
    · rw [lb_none t n (by omega)]
      exact ev_now ⟨0, fun k _ => by simp only [impl_passed.l0]; rw [if_neg (by omega)]; rfl⟩
theorem impl_pass (t : ByteArray) (ht : t.size ≤ 1048576) : Ev (fun k => impl_passed.f k t) ((sk false (Lb t) : Nat) : Int) := by
  have h := impl_skip t ht t.size 0 (by omega) (by omega)
  rw [List.drop_zero, Nat.zero_add] at h
  exact h
/-- What the program does with a text from where it stands. -/
def goI (k : Nat) (t : ByteArray) (out : List S27) : Option (List S27 × Int) := (impl_passed.f k t).bind fun p => if 0 ≤ p then (if p ≤ (t.size : Int) then impl_lex.l0 k (t.extract (p : Int).toNat t.size) out else none) else none
theorem lex_from (s : ByteArray) (hs : s.size ≤ 1048576) : ∀ (d n : Nat) (out : List S27), s.size - n ≤ d → n ≤ s.size → out.length ≤ 4000 → ∃ r, Ev (fun k => spec_l01Lex.l0 k s out (n : Int)) r ∧ Ev (fun k => goI k (s.extract n s.size) out) r ∧ r.1.length ≤ 4000 := by
  intro d
  induction d using Nat.strongRecOn with
  | _ d ih =>
    intro n out hd hn ho
    have hfrom := lb_from s n
    have hsz := size_cut s n s.size hs
    have hlen : (s.extract n s.size).size = s.size - n := by rw [← lb_len, hfrom, List.length_drop, lb_len]
    have e1 := impl_pass (s.extract n s.size) hsz
    rw [hfrom] at e1
    have hsk := sk_le ((Lb s).drop n) false
    rw [List.length_drop, lb_len] at hsk
    have hstop := sk_stop ((Lb s).drop n) false
    rw [List.drop_drop] at hstop
    have hskip := fun out r => spec_skip s hs out r (s.size - n) n false (by omega)
    simp only [Bool.false_eq_true, if_false] at hskip
    have hx : (s.extract n s.size).extract (sk false ((Lb s).drop n)) (s.extract n s.size).size = s.extract (n + sk false ((Lb s).drop n)) s.size := by
      rw [hlen, extract_same s _ n _ _ hfrom, show n + (s.size - n) = s.size by omega]
    obtain ⟨K1, k1⟩ := ev_at e1
    have goes : ∀ r, Ev (fun k => impl_lex.l0 k (s.extract (n + sk false ((Lb s).drop n)) s.size) out) r → Ev (fun k => goI k (s.extract n s.size) out) r := fun r hr =>
      ev_same ⟨K1, fun k hk => by unfold goI; rw [k1 k hk, Option.bind_some, if_pos (by omega), if_pos (by omega), Int.toNat_natCast, hx]⟩ hr
    generalize sk false ((Lb s).drop n) = q at hsk hstop hskip hx goes k1
    have hnew := lb_len (s.extract (n + q) s.size)
    rw [lb_from, List.length_drop, lb_len] at hnew
    by_cases hend : n + q = s.size
    · refine ⟨(out, 0), hskip out _ (ev_now ⟨0, fun k _ => by simp only [spec_l01Lex.l0]; rw [if_neg (by omega)]⟩), goes _ (ev_now ⟨0, fun k _ => ?_⟩), ho⟩
      simp only [impl_lex.l0]
      rw [if_pos (by rw [lb_list, lb_from, lb_none s _ (by omega)])]
    · obtain ⟨b, hb, he⟩ := lb_at s (n + q) (by omega)
      obtain ⟨hsp, h35⟩ := hstop b _ hb
      obtain ⟨a, bb, c, m, a', b', c', m', ok, ei, es, hok⟩ := tok_agree s hs (n + q) (by omega)
      obtain ⟨Ki, ki⟩ := ev_at ei
      obtain ⟨Ks, ks⟩ := ev_at es
      have hne : ¬ (s.extract (n + q) s.size).toList = [] := by rw [lb_list, lb_from, hb]; simp
      have spec0 : ∀ k, spec_l01Lex.l0 (k + 1) s out ((n + q : Nat) : Int) = (spec_l01Next.f k s ((n + q : Nat) : Int)).bind fun bt105 => (if bt105.2.2.2.2 = true then (if (out.length : Int) = 4000 then (some ((([] : List S27)), 6)) else (if out.length < 4398046511104 then (spec_l01Lex.l0 k s (out ++ [(⟨bt105.1, bt105.2.1, bt105.2.2.1⟩ : S27)]) bt105.2.2.2.1) else (none))) else (some ((([] : List S27)), 3))) := fun k => by
        simp only [spec_l01Lex.l0]
        rw [if_pos (by omega), if_pos (by omega), he, if_neg (by omega), spec_space, hsp, Option.bind_some, if_neg (by simp)]
      cases ok with
      | false =>
        refine ⟨([], 3), hskip out _ (ev_mk (Ks + 1) fun k hk => ?_), goes _ (ev_mk (Ki + 1) fun k hk => ?_), by simp⟩
        · obtain ⟨j, rfl⟩ : ∃ j, k = j + 1 := ⟨k - 1, by omega⟩
          show spec_l01Lex.l0 (j + 1) s out ((n + q : Nat) : Int) = _
          rw [spec0, ks j (by omega), Option.bind_some, if_neg (by simp)]
        · obtain ⟨j, rfl⟩ : ∃ j, k = j + 1 := ⟨k - 1, by omega⟩
          simp only [impl_lex.l0]
          rw [if_neg hne, ki j (by omega), Option.bind_some, if_neg (by simp)]
      | true =>
        obtain ⟨hm1, hm2, rfl, rfl, rfl, rfl⟩ := hok rfl
        by_cases h4 : (out.length : Int) = 4000
        · refine ⟨([], 6), hskip out _ (ev_mk (Ks + 1) fun k hk => ?_), goes _ (ev_mk (Ki + 1) fun k hk => ?_), by simp⟩
          · obtain ⟨j, rfl⟩ : ∃ j, k = j + 1 := ⟨k - 1, by omega⟩
            show spec_l01Lex.l0 (j + 1) s out ((n + q : Nat) : Int) = _
            rw [spec0, ks j (by omega), Option.bind_some, if_pos rfl, if_pos h4]
          · obtain ⟨j, rfl⟩ : ∃ j, k = j + 1 := ⟨k - 1, by omega⟩
            simp only [impl_lex.l0]
            rw [if_neg hne, ki j (by omega), Option.bind_some, if_pos rfl, if_pos h4]
        · obtain ⟨r, e5, e6, hr⟩ := ih (s.size - (n + q + m)) (by omega) (n + q + m) (out ++ [⟨a', b', c'⟩]) (Nat.le_refl _) (by omega) (by rw [List.length_append]; simp only [List.length_cons, List.length_nil]; omega)
          obtain ⟨K5, k5⟩ := ev_at e5
          obtain ⟨K6, k6⟩ := ev_at e6
          have hx2 : (s.extract (n + q) s.size).extract m (s.extract (n + q) s.size).size = s.extract (n + q + m) s.size := by
            rw [extract_same s _ (n + q) _ _ (lb_from s (n + q)), ← hnew, show n + q + (s.size - (n + q)) = s.size by omega]
          refine ⟨r, hskip out _ (ev_mk (Ks + K5 + 1) fun k hk => ?_), goes _ (ev_mk (Ki + K6 + 1) fun k hk => ?_), hr⟩
          · obtain ⟨j, rfl⟩ : ∃ j, k = j + 1 := ⟨k - 1, by omega⟩
            show spec_l01Lex.l0 (j + 1) s out ((n + q : Nat) : Int) = _
            rw [spec0, ks j (by omega), Option.bind_some, if_pos rfl, if_neg h4, if_pos (by omega)]
            exact k5 j (by omega)
          · obtain ⟨j, rfl⟩ : ∃ j, k = j + 1 := ⟨k - 1, by omega⟩
            simp only [impl_lex.l0]
            rw [if_neg hne, ki j (by omega), Option.bind_some, if_pos rfl, if_neg h4, if_pos (by omega)]
            dsimp only
            rw [if_pos (by omega), if_pos (by omega), Int.toNat_natCast, hx2]
            exact k6 j (by omega)
/-- Both read the same tokens. -/
theorem lex_agree (s : ByteArray) (hs : s.size ≤ 1048576) : ∃ r, Ev (fun k => spec_Lex.f k s) r ∧ Ev (fun k => impl_Lex.f k s) r ∧ r.1.length ≤ 4000 := by
  have htext : impl_isText.f [s] = some (!decide ((s.size : Int) > 65536)) := by
    unfold impl_isText.f impl_isText.p
    simp
  by_cases hb : (s.size : Int) > 65536
  · refine ⟨([], 2), ev_mk 0 fun k _ => by unfold spec_Lex.f; rw [if_pos hb], ev_mk 0 fun k _ => ?_, by simp⟩
    unfold impl_Lex.f
    rw [htext, decide_eq_true hb]
    rfl
  · obtain ⟨r, e1, e2, hr⟩ := lex_from s hs s.size 0 [] (by omega) (by omega) (by simp)
    have hx : s.extract 0 s.size = s := lb_ext (by rw [lb_from, List.drop_zero])
    rw [hx] at e2
    obtain ⟨K1, k1⟩ := ev_at e1
    obtain ⟨K2, k2⟩ := ev_at e2
    refine ⟨r, ev_mk K1 fun k hk => ?_, ev_mk K2 fun k hk => ?_, hr⟩
    · unfold spec_Lex.f spec_l01Lex.f
      rw [if_neg hb, show spec_l01Lex.l0 k s [] 0 = some r from k1 k hk]
      rfl
    · unfold impl_Lex.f
      rw [htext, decide_eq_false hb]
      show (impl_lex.f k s).bind _ = _
      rw [show impl_lex.f k s = some r from k2 k hk]
      rfl
end Go.Proofs.YtolickgnncfmeaaDoor.Pure2
namespace Go.Proofs.YtolickgnncfmeaaDoor.Pure2
open Go.RowKit Go.Proofs.YtolickgnncfmeaaDoor.Q Go.Proofs.YtolickgnncfmeaaDoorW.PrintWords Go.Proofs.YtolickgnncfmeaaDoorW.PrintLast
set_option linter.unusedVariables false
set_option linter.unusedSimpArgs false
/-! marks of tokens -/
theorem eq_tokens_self (l : List S27) (hl : l.length ≤ 1048576) : Ev (fun k => laws_eqTokenS.f k l l) true := by
  obtain ⟨r, hr, he⟩ := count_loop l.length (fun k i => laws_eqTokenS.l0 k l l i) (fun _ r => r = true) ⟨true, rfl, ev_now ⟨0, fun k _ => by simp only [laws_eqTokenS.l0]; rw [if_neg (by omega)]⟩⟩
    (fun j hj r hr he => ⟨r, hr, ev_step ⟨0, fun k _ => by
      simp only [laws_eqTokenS.l0, laws_eqToken.f]
      rw [if_pos (by omega), if_pos (by omega), if_pos (by omega)]
      simp only [if_true, Option.bind_some]
      rw [wsucc hj (by omega)]⟩ he⟩) 0 (by omega)
  subst hr
  exact ev_same ⟨0, fun k _ => by unfold laws_eqTokenS.f; rw [if_pos rfl]; rfl⟩ he
theorem mark_text_loop (x : Nat) : ∀ acc : ByteArray, acc.size + x ≤ 4000000 → ∃ t, Ev (fun k => laws_markText.l0 k (x : Int) acc) t := by
  induction x using Nat.strongRecOn with
  | _ x ih =>
    intro acc h
    by_cases h0 : x = 0
    · subst h0
      exact ⟨_, ev_now ⟨0, fun k _ => by simp only [laws_markText.l0]; rw [if_neg (by omega), if_pos (by omega)]⟩⟩
    · have hz : ∀ (v : Int), (strOfNums [v]).size = 1 := fun _ => rfl
      have e2 : wrap64 (Int.tdiv (x : Int) 10) = ((x / 10 : Nat) : Int) := by rw [Int.tdiv_eq_ediv_of_nonneg (by omega)]; unfold wrap64; omega
      obtain ⟨t, ht⟩ := ih (x / 10) (by omega) (strOfNums [(wrap64 (48 + (Int.tmod (x : Int) 10))) % 256] ++ acc) (by rw [ByteArray.size_append, hz]; clear e2; omega)
      refine ⟨t, ev_step ⟨0, fun k _ => ?_⟩ ht⟩
      simp only [laws_markText.l0]
      rw [if_pos (by clear e2; omega), Option.bind_some, if_pos (by rw [hz]; clear e2; omega), e2]
theorem mark_texts : ∃ f : Nat → ByteArray, ∀ v : Nat, v ≤ 1000000 → Ev (fun k => laws_markText.f k (v : Int)) (f v) := by
  have one : ∀ v : Nat, v ≤ 1000000 → ∃ t, Ev (fun k => laws_markText.f k (v : Int)) t := fun v h => by
    by_cases h0 : (v : Int) ≤ 0
    · exact ⟨_, ev_mk 0 fun k _ => by unfold laws_markText.f; rw [if_pos h0]⟩
    · obtain ⟨t, ht⟩ := mark_text_loop v ⟨#[]⟩ (by show 0 + v ≤ _; omega)
      exact ⟨t, ev_same ⟨0, fun k _ => by unfold laws_markText.f; rw [if_neg h0]⟩ ht⟩
  refine ⟨fun v => if h : v ≤ 1000000 then (one v h).choose else ByteArray.empty, fun v h => ?_⟩
  simp only [dif_pos h]
  exact (one v h).choose_spec
def tkM (f : Nat → ByteArray) (n : Nat) : List S27 := (List.range n).map (fun (j : Nat) => ⟨1 + 3 * (j : Int), 2 + 3 * (j : Int), f (3 + 3 * j)⟩)
theorem tkM_len (f : Nat → ByteArray) (n : Nat) : (tkM f n).length = n := by simp [tkM]
theorem tkM_at (f : Nat → ByteArray) (n i : Nat) (h : i < n) : (tkM f n)[i]? = some ⟨1 + 3 * (i : Int), 2 + 3 * (i : Int), f (3 + 3 * i)⟩ := by simp [tkM, h]
theorem rd_set (l : List S27) (j : Nat) (v : S27) (h : j < l.length) : rd_T27 (l.set (j : Int).toNat v) (j : Int) = v := by
  show (l.set j v).getD j z27 = v
  rw [List.getD_eq_getElem?_getD, List.getElem?_set_self h]
  rfl
theorem mark_tokens (f : Nat → ByteArray) (hf : ∀ v : Nat, v ≤ 1000000 → Ev (fun k => laws_markText.f k (v : Int)) (f v)) (l : List S27) (hl : l.length ≤ 4000) : Ev (fun k => laws_markTokenS.f k l 1) (1 + 3 * (l.length : Int), tkM f l.length) := by
  obtain ⟨r, hr, he⟩ := state_loop l.length (fun k (s : List S27 × Int) i => laws_markTokenS.l0 k s.1 s.2 i) (fun j s => s.2 = 1 + 3 * (j : Int) ∧ s.1.length = l.length ∧ ∀ i, i < j → s.1[i]? = some ⟨1 + 3 * (i : Int), 2 + 3 * (i : Int), f (3 + 3 * i)⟩) (fun _ _ r => r = (1 + 3 * (l.length : Int), tkM f l.length))
    (fun s hi => ⟨(s.2, s.1), by
      obtain ⟨h1, h2, h3⟩ := hi
      refine Prod.ext h1 (List.ext_getElem? fun i => ?_)
      by_cases h : i < l.length
      · rw [h3 i h, tkM_at f _ i h]
      · rw [List.getElem?_eq_none (show s.1.length ≤ i by omega), List.getElem?_eq_none (by rw [tkM_len]; omega)], ev_now ⟨0, fun k _ => by
        have h2 := hi.2.1
        simp only [laws_markTokenS.l0]; rw [if_neg (by omega)]⟩⟩)
    (fun j s hj hi => by
      obtain ⟨h1, h2, h3⟩ := hi
      obtain ⟨xs, q⟩ := s
      dsimp only at h1 h2 h3 ⊢
      subst h1
      have hw : wrap64 (1 + 3 * (j : Int) + 1) = 2 + 3 * (j : Int) := by rw [wrap_id (by omega) (by omega)]; omega
      have hw2 : wrap64 (2 + 3 * (j : Int) + 1) = ((3 + 3 * j : Nat) : Int) := by rw [wrap_id (by omega) (by omega)]; omega
      have hw3 : wrap64 (((3 + 3 * j : Nat) : Int) + 1) = 1 + 3 * ((j + 1 : Nat) : Int) := by rw [wrap_id (by omega) (by omega)]; omega
      obtain ⟨K, k1⟩ := ev_at (hf (3 + 3 * j) (by omega))
      refine .inr ⟨((((xs.set (j : Int).toNat (⟨1 + 3 * (j : Int), (rd_T27 xs (j : Int)).f1, (rd_T27 xs (j : Int)).f2⟩ : S27)).set (j : Int).toNat (⟨1 + 3 * (j : Int), 2 + 3 * (j : Int), (rd_T27 xs (j : Int)).f2⟩ : S27)).set (j : Int).toNat (⟨1 + 3 * (j : Int), 2 + 3 * (j : Int), f (3 + 3 * j)⟩ : S27)), 1 + 3 * ((j + 1 : Nat) : Int)), ⟨rfl, by simp only [List.length_set]; exact h2, fun i hij => ?_⟩, fun r h => h, K, fun k hk => ?_⟩
      · rw [Int.toNat_natCast]
        by_cases he : i = j
        · subst he
          rw [List.getElem?_set_self (by simp only [List.length_set]; omega)]
        · rw [List.getElem?_set_ne (by omega), List.getElem?_set_ne (by omega), List.getElem?_set_ne (by omega)]
          exact h3 i (by omega)
      · simp only [laws_markTokenS.l0]
        rw [if_pos (by clear hw hw2 hw3; omega), if_pos (by clear hw hw2 hw3; omega), Option.bind_some, Option.bind_some, hw, hw2, k1 k hk, Option.bind_some, hw3, wsucc hj (by clear hw hw2 hw3; omega), rd_set xs j _ (by clear hw hw2 hw3; omega)]
        dsimp only
        rw [rd_set _ j _ (by rw [List.length_set]; clear hw hw2 hw3; omega)]) 0 (l, 1) (by omega) ⟨rfl, rfl, fun i hi => by omega⟩
  subst hr
  exact ev_same ⟨0, fun k _ => by unfold laws_markTokenS.f; rfl⟩ he
theorem held_tokens (f : Nat → ByteArray) (hf : ∀ v : Nat, v ≤ 1000000 → Ev (fun k => laws_markText.f k (v : Int)) (f v)) (n : Nat) (hl : n ≤ 4000) : Ev (fun k => laws_heldTokenS.f k (tkM f n) 1) (1 + 3 * (n : Int)) := by
  have hn := tkM_len f n
  obtain ⟨r, hr, he⟩ := state_loop n (fun k (s : Int) i => laws_heldTokenS.l0 k (tkM f n) s i) (fun j s => s = 1 + 3 * (j : Int)) (fun _ _ r => r = 1 + 3 * (n : Int))
    (fun s hi => ⟨s, hi, ev_now ⟨0, fun k _ => by simp only [laws_heldTokenS.l0]; rw [if_neg (by omega)]⟩⟩)
    (fun j s hj hi => by
      subst hi
      have hw : wrap64 (1 + 3 * (j : Int) + 1) = 2 + 3 * (j : Int) := by rw [wrap_id (by omega) (by omega)]; omega
      have hw2 : wrap64 (2 + 3 * (j : Int) + 1) = ((3 + 3 * j : Nat) : Int) := by rw [wrap_id (by omega) (by omega)]; omega
      have hw3 : wrap64 (((3 + 3 * j : Nat) : Int) + 1) = 1 + 3 * ((j + 1 : Nat) : Int) := by rw [wrap_id (by omega) (by omega)]; omega
      have hrd : rd_T27 (tkM f n) (j : Int) = ⟨1 + 3 * (j : Int), 2 + 3 * (j : Int), f (3 + 3 * j)⟩ := by
        show (tkM f n).getD j z27 = _
        rw [List.getD_eq_getElem?_getD, tkM_at f n j hj]
        rfl
      obtain ⟨K, k1⟩ := ev_at (hf (3 + 3 * j) (by omega))
      refine .inr ⟨_, rfl, fun r h => h, K, fun k hk => ?_⟩
      simp only [laws_heldTokenS.l0]
      rw [if_pos (by clear hw hw2 hw3; omega), if_pos (by clear hw hw2 hw3; omega), hrd]
      dsimp only
      rw [if_pos rfl, hw, if_pos rfl, hw2, k1 k hk, Option.bind_some, if_pos rfl, hw3, wsucc hj (by clear hw hw2 hw3; omega)]) 0 1 (by omega) rfl
  subst hr
  exact ev_same ⟨0, fun k _ => by unfold laws_heldTokenS.f; rfl⟩ he
end Go.Proofs.YtolickgnncfmeaaDoor.Pure2
namespace Go.Proofs.YtolickgnncfmeaaDoor.Pure2
open Go.RowKit Go.Proofs.YtolickgnncfmeaaDoor.Q Go.Proofs.YtolickgnncfmeaaDoorW.PrintWords Go.Proofs.YtolickgnncfmeaaDoorW.PrintLast
set_option linter.unusedVariables false
set_option linter.unusedSimpArgs false
theorem FnExactLex : laws_FnExactLex.Pure2 := by
  intro y hy
  refine Ev.rounds (r := true) ?_
  by_cases hb : 1048576 < (y.size : Int)
  · exact ev_mk 0 fun k _ => by unfold laws_FnExactLex.f; rw [if_pos hb]
  · obtain ⟨⟨l, c⟩, e1, e2, hl⟩ := lex_agree y (by omega)
    have hl' : l.length ≤ 4000 := hl
    obtain ⟨f, hf⟩ := mark_texts
    obtain ⟨K1, k1⟩ := ev_at e1
    obtain ⟨K2, k2⟩ := ev_at e2
    obtain ⟨K3, k3⟩ := ev_at (eq_tokens_self l (by omega))
    obtain ⟨K4, k4⟩ := ev_at (mark_tokens f hf l hl')
    obtain ⟨K5, k5⟩ := ev_at (held_tokens f hf l.length hl')
    refine ev_mk (K1 + K2 + K3 + K4 + K5) fun k hk => ?_
    unfold laws_FnExactLex.f
    rw [if_neg hb, k1 k (by omega), Option.bind_some, k2 k (by omega), Option.bind_some]
    dsimp only
    rw [k3 k (by omega), Option.bind_some, if_pos rfl, if_pos rfl, k4 k (by omega), Option.bind_some]
    dsimp only
    rw [k5 k (by omega), Option.bind_some, if_pos (by omega), if_pos rfl, Option.bind_some]
    dsimp only
    rw [k3 k (by omega), Option.bind_some, if_pos rfl, if_pos rfl, Option.bind_some, if_pos (by omega), if_pos rfl]
end Go.Proofs.YtolickgnncfmeaaDoor.Pure2
