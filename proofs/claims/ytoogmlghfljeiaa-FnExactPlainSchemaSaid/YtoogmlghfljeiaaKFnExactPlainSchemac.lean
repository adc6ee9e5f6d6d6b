/- Texts of the claim on FnExactPlainSchema, gathered by a program of this session: what the program's functions compute (proved by walks), and the plain part. -/
import Derived.Test.YtoogmlghfljeiaaKFnExactPlainSchemab
import Derived.Test.YtoogmlghfljeiaaKFnExactPlainSchemaOpens
import Derived.KernelRfl
namespace Go.Proofs.Ytoogmlghfljeiaa.Q
open Go.RowKit Go.Proofs.YtoogmlghfljeiaaW.PrintWords Go.Proofs.YtoogmlghfljeiaaW.PrintLast Go.Proofs.YtoogmlghfljeiaaW.PrintMore
attribute [local go_sem] max2_int min2_int max_two min_two max_three min_three max_four min_four
set_option linter.unusedVariables false
set_option linter.unusedSimpArgs false

def laws_heldFieldDefS.l0 : Nat → List (S38) → Int → Int → Option (Int)
 | 0, _, _, _ => none
 | k + 1, x0, x1, x5 => if x5 < (x0.length : Int) then (if 0 ≤ x5 then ((laws_markText.f k x1).bind fun t102 => (if ((rd_T38 x0 x5).f0).toList = t102.toList then ((laws_heldArgDefS.f k ((rd_T38 x0 x5).f1) (wrap64 (x1 + 1))).bind fun t104 => (if t104 < 0 then (some (-1)) else ((laws_markText.f k t104).bind fun t106 => (if ((rd_T38 x0 x5).f2).toList = t106.toList then (if (((rd_T38 x0 x5).f3) != ((Int.tmod (wrap64 (t104 + 1)) 3) == 0)) = true then (some (-1)) else (if (((rd_T38 x0 x5).f4) != ((Int.tmod (wrap64 ((wrap64 (t104 + 1)) + 1)) 3) == 0)) = true then (some (-1)) else (laws_heldFieldDefS.l0 k x0 (wrap64 ((wrap64 ((wrap64 (t104 + 1)) + 1)) + 1)) (wrap64 (x5 + 1))))) else (some (-1)))))) else (some (-1)))) else (none)) else (some x1)
def laws_heldFieldDefS.f (k : Nat) (l0 : List (S38)) (a1 : Int) : Option (Int) := laws_heldFieldDefS.l0 k l0 a1 0
def laws_heldFieldDefS.T4 : Bool × List (List Nat × List Nat) := (true, [([], []), ([], []), ([0, 1], [0, 1]), ([2], [2]), ([3], [3]), ([], []), ([5], [5]), ([4, 6], [4, 6])])
def laws_heldFieldDefS.B4 : List Nat := [0, 0, 3, 7, 15, 0, 32, 127]
theorem laws_heldFieldDefS.tab4 : rtab .any (opsOf Try.f73 4) = laws_heldFieldDefS.T4 := by kernel_rfl
theorem laws_heldFieldDefS.bits4 : waitsOk laws_heldFieldDefS.T4.2 laws_heldFieldDefS.B4 = true := by kernel_rfl
def laws_heldFieldDefS.T10 : Bool × List (List Nat × List Nat) := (true, [([], []), ([], []), ([0, 1], [0, 1]), ([2], [2]), ([3], [3]), ([], []), ([5], [5]), ([4, 6], [4, 6])])
def laws_heldFieldDefS.B10 : List Nat := [0, 0, 3, 7, 15, 0, 32, 127]
theorem laws_heldFieldDefS.tab10 : rtab .any (opsOf Try.f73 10) = laws_heldFieldDefS.T10 := by kernel_rfl
theorem laws_heldFieldDefS.bits10 : waitsOk laws_heldFieldDefS.T10.2 laws_heldFieldDefS.B10 = true := by kernel_rfl
def laws_heldFieldDefS.y0 : Array Bool := #[false, false, false, false, false, false, false, false]
def laws_heldFieldDefS.y1 : Array Bool := #[true, false, false, false, false, false, false, false]
def laws_heldFieldDefS.y2 : Array Bool := #[true, true, false, false, false, false, false, false]
def laws_heldFieldDefS.y3 : Array Bool := #[true, true, true, false, false, false, false, false]
def laws_heldFieldDefS.y4 : Array Bool := #[true, true, true, true, false, false, false, false]
def laws_heldFieldDefS.y5 : Array Bool := #[true, true, true, true, false, true, false, false]
def laws_heldFieldDefS.y6 : Array Bool := #[true, true, true, true, true, true, false, false]
def laws_heldFieldDefS.y7 : Array Bool := #[true, true, true, true, true, true, true, false]
def laws_heldFieldDefS.y8 : Array Bool := #[true, true, true, true, true, true, true, true]
set_option maxHeartbeats 8000000 in
set_option maxRecDepth 100000 in
theorem laws_heldFieldDefS.calls (k : Nat) (A0 : Option Addr) (c0 : Nat) (l0 : List (S38)) (a1 : Int) (r : Int) (w : World) (hr0 : Kd.C k38 w A0 l0.length l0) (hc0 : l0.length ≤ c0) (h : laws_heldFieldDefS.f k l0 a1 = some r) :
  Calls Try.prog 73 #[.slice A0 l0.length c0, .int .i64 a1] w fun e w' => e = .returned (.int .i64 r) ∧ Below w.heap.size w w' := by
 have HR0 := qO hr0; have HC0 := qO hc0; clear hr0 hc0; have HB := qO (Below.refl w.heap.size w); have H : (laws_heldFieldDefS.l0 k l0 a1 0) = some r := h; clear h; have H' := qO H; clear H
 go_enter Try.func73, Try.ntmps73
 go_wp2
 go_loopg [1, 5] k (fun kq v1 v5 w' => ∃ (x1_1 : Int) (x5_1 : Int), v1 = .int .i64 x1_1 ∧ v5 = .int .i64 x5_1 ∧ Aside0 (laws_heldFieldDefS.l0 kq l0 x1_1 x5_1 = some r) ∧ Aside0 (kq ≤ k) ∧ Aside0 (Below w.heap.size w w'))
 case atStart => exact ⟨(a1), (0), qa8, qa8, H', ⟨Nat.le_refl _⟩, ⟨qa4⟩⟩
 case round =>
  clear H'
  try clear p2
  obtain ⟨x1_1, x5_1, rfl, rfl, HA, HK1, HB⟩ := hrel
  cases gk with
  | zero => exact absurd HA.out (by simp [laws_heldFieldDefS.l0])
  | succ k1 =>
   have H := HA.out; clear HA; simp only [laws_heldFieldDefS.l0] at H
   by_cases c3 : x5_1 < (l0.length : Int)
   ·rw [if_pos c3] at H
    have c3b0 : decide (x5_1 < (l0.length : Int)) = true := decide_eq_true c3; clear c3
    by_cases c4 : 0 ≤ x5_1
    ·rw [if_pos c4] at H
     have c4b0 : decide (0 ≤ x5_1) = true := decide_eq_true c4; clear c4; replace H := Option.bind_eq_some_iff.mp H; obtain ⟨t102, A50, H⟩ := H; replace H : (if ((rd_T38 l0 x5_1).f0).toList = t102.toList then ((laws_heldArgDefS.f k1 ((rd_T38 l0 x5_1).f1) (wrap64 (x1_1 + 1))).bind fun t104 => (if t104 < 0 then (some (-1)) else ((laws_markText.f k1 t104).bind fun t106 => (if ((rd_T38 l0 x5_1).f2).toList = t106.toList then (if (((rd_T38 l0 x5_1).f3) != ((Int.tmod (wrap64 (t104 + 1)) 3) == 0)) = true then (some (-1)) else (if (((rd_T38 l0 x5_1).f4) != ((Int.tmod (wrap64 ((wrap64 (t104 + 1)) + 1)) 3) == 0)) = true then (some (-1)) else (laws_heldFieldDefS.l0 k1 l0 (wrap64 ((wrap64 ((wrap64 (t104 + 1)) + 1)) + 1)) (wrap64 (x5_1 + 1))))) else (some (-1)))))) else (some (-1))) = some r := H; have A5 := qO A50; clear A50
     by_cases c6 : ((rd_T38 l0 x5_1).f0).toList = t102.toList
     ·rw [if_pos c6] at H
      have c6b0 : (((rd_T38 l0 x5_1).f0).toList == t102.toList) = true := beq_iff_eq.mpr c6; have c6b1 : (((rd_T38 l0 x5_1).f0).toList != t102.toList) = false := bne_eq_false_iff_eq.mpr c6; clear c6; replace H := Option.bind_eq_some_iff.mp H; obtain ⟨t104, A70, H⟩ := H; replace H : (if t104 < 0 then (some (-1)) else ((laws_markText.f k1 t104).bind fun t106 => (if ((rd_T38 l0 x5_1).f2).toList = t106.toList then (if (((rd_T38 l0 x5_1).f3) != ((Int.tmod (wrap64 (t104 + 1)) 3) == 0)) = true then (some (-1)) else (if (((rd_T38 l0 x5_1).f4) != ((Int.tmod (wrap64 ((wrap64 (t104 + 1)) + 1)) 3) == 0)) = true then (some (-1)) else (laws_heldFieldDefS.l0 k1 l0 (wrap64 ((wrap64 ((wrap64 (t104 + 1)) + 1)) + 1)) (wrap64 (x5_1 + 1))))) else (some (-1))))) = some r := H; have A7 := qO A70; clear A70
      by_cases c8 : t104 < 0
      ·rw [if_pos c8] at H
       have c8b0 : decide (t104 < 0) = true := decide_eq_true c8; clear c8; obtain rfl := Option.some.inj H
       try go_wp2
       have n0_ := qO (qbD HB.out); clear HB; have HB := n0_; clear n0_; have p101 : 0 ≤ (x5_1 : Int) := qT qa3; have q101 : x5_1 < (l0.length : Int) := qT qa3; obtain ⟨ad101, A101_1, c101_1, e101, hx101_0, hx101_1, hx101_2, hx101_3, hx101_4, hl101_1, hi101_1⟩ := at_T38 HR0.out x5_1 p101 q101; have hw101_4 := hx101_4; have hw101_3 := hx101_3; have hw101_2 := hx101_2; have hw101_1 := hx101_1; have hw101_0 := hx101_0
       cases e101
       replace hx101_0 := (HB.out.cell (qL w _ hx101_0)).trans hx101_0; replace hx101_1 := (HB.out.cell (qL w _ hx101_1)).trans hx101_1; replace hx101_2 := (HB.out.cell (qL w _ hx101_2)).trans hx101_2; replace hx101_3 := (HB.out.cell (qL w _ hx101_3)).trans hx101_3; replace hx101_4 := (HB.out.cell (qL w _ hx101_4)).trans hx101_4; have HR101_1 := qO hi101_1; have HC101_1 := qO hl101_1; clear hi101_1 hl101_1; replace p101 := eq_true p101; replace q101 := eq_true q101; refine start_ (n := 8) (S := fun w' => w'.cell? (ad101.add ((x5_1).toNat * 5)) = some (.string ((rd_T38 l0 x5_1).f0)) ∧ w'.cell? ⟨(ad101.add ((x5_1).toNat * 5)).block, (ad101.add ((x5_1).toNat * 5)).off + 1, none⟩ = some (.slice A101_1 ((rd_T38 l0 x5_1).f1).length c101_1) ∧ w'.cell? ⟨(ad101.add ((x5_1).toNat * 5)).block, (ad101.add ((x5_1).toNat * 5)).off + 2, none⟩ = some (.string ((rd_T38 l0 x5_1).f2)) ∧ w'.cell? ⟨(ad101.add ((x5_1).toNat * 5)).block, (ad101.add ((x5_1).toNat * 5)).off + 3, none⟩ = some (.bool ((rd_T38 l0 x5_1).f3)) ∧ w'.cell? ⟨(ad101.add ((x5_1).toNat * 5)).block, (ad101.add ((x5_1).toNat * 5)).off + 4, none⟩ = some (.bool ((rd_T38 l0 x5_1).f4))) (ds := []) laws_heldFieldDefS.y0 qa9 rfl rfl ⟨((HB.out.cell (qL w _ hw101_0)).trans hw101_0), ((HB.out.cell (qL w _ hw101_1)).trans hw101_1), ((HB.out.cell (qL w _ hw101_2)).trans hw101_2), ((HB.out.cell (qL w _ hw101_3)).trans hw101_3), ((HB.out.cell (qL w _ hw101_4)).trans hw101_4)⟩ (fun hHeld => ?_); refine with_tabW laws_heldFieldDefS.tab4 laws_heldFieldDefS.bits4 (fun HT_ HW_ => ?_); generalize wr.drew = w9 at HB HR101_1 hx101_0 hx101_1 hx101_2 hx101_3 hx101_4 hHeld ⊢; refine pure_ (i := 0) (N := some 12) (v := ?_) (a' := ?_) laws_heldFieldDefS.y1 rfl rfl (any_of HT_.out qa9) (fun _ _ _ h => h) (Or.inl ⟨by rfl, ?_⟩) ?_ ?_; rotate_left; exact qa7; rotate_left; exact qa5; refine pure_ (i := 1) (N := some 13) (v := ?_) (a' := ?_) laws_heldFieldDefS.y2 rfl rfl (any_of HT_.out qa9) (fun _ _ _ h => h) (Or.inl ⟨by rfl, ?_⟩) ?_ ?_; rotate_left; exact qa7; rotate_left; exact qa5; refine pure_ (i := 2) (N := some 14) (v := ?_) (a' := ?_) laws_heldFieldDefS.y3 rfl rfl (any_of HT_.out qa9) (fun _ _ _ h => h) (Or.inl ⟨by rfl, ?_⟩) ?_ ?_; rotate_left; exact qa7; rotate_left; exact qa5; refine pure_ (i := 3) (N := some 15) (v := ?_) (a' := ?_) laws_heldFieldDefS.y4 rfl rfl (any_of HT_.out qa9) (fun _ _ _ h => h) (Or.inl ⟨by rfl, ?_⟩) ?_ ?_; rotate_left; exact qa7; rotate_left; exact qa5; refine pure_ (i := 5) (N := some 17) (v := ?_) (a' := ?_) laws_heldFieldDefS.y5 rfl rfl (any_of HT_.out qa9) (fun _ _ _ h => h) (Or.inl ⟨by rfl, ?_⟩) ?_ ?_; rotate_left; exact qa7; rotate_left; exact qa5; refine take_ (i := 4) (N := some 16) (v := ?_) (a' := ?_) laws_heldFieldDefS.y6 rfl rfl (take_ofW HT_.out HW_.out qa9) (fun _ _ _ h => h) (Or.inl ⟨by rfl, ?_⟩) hHeld ?_ ?_; rotate_left; exact qa42; rotate_left; exact qa5; refine one_ (i := 6) (N := some 18) laws_heldFieldDefS.y7 rfl rfl (one_of HT_.out qa9) qa66 (fun K hK => ?_); refine goes_ Try.func68 qa9 rfl #[.int .i64 x1_1] (by rfl) rfl rfl qa2 ?_; (with_reducible refine (laws_markText.calls k1 x1_1 t102 _ A5.out).mono ?_); rintro e w10 ⟨rfl, hb⟩; have hx_ := qHX HB hb qa0; refine ⟨_, rfl, ?_⟩; have n0_ := qO (below_step (below_step HB.out hx_) hb); clear HB; have HB := n0_; clear n0_; clear hx_; (try clear hb); (try clear hb2); (try clear hk); (try clear hi); refine hK.out _ _ ⟨((HB.out.cell (qL w _ hw101_0)).trans hw101_0), ((HB.out.cell (qL w _ hw101_1)).trans hw101_1), ((HB.out.cell (qL w _ hw101_2)).trans hw101_2), ((HB.out.cell (qL w _ hw101_3)).trans hw101_3), ((HB.out.cell (qL w _ hw101_4)).trans hw101_4)⟩ (fun hHeld => ?_); clear hK K; refine norm_ (a' := ?_) ?_ ?_; rotate_left
       ·exact qa14
       refine pure_ (i := 7) (N := some 19) (v := ?_) (a' := ?_) laws_heldFieldDefS.y8 rfl rfl (any_of HT_.out qa9) (fun _ _ _ h => h) (Or.inl ⟨by rfl, ?_⟩) ?_ ?_; rotate_left; exact qa7; rotate_left; exact qa5; refine done_ (done_of HT_.out qa9) ?_; have p103 : 0 ≤ (x5_1 : Int) := qT qa3; have q103 : x5_1 < (l0.length : Int) := qT qa3; obtain ⟨ad103, A103_1, c103_1, e103, hx103_0, hx103_1, hx103_2, hx103_3, hx103_4, hl103_1, hi103_1⟩ := at_T38 HR0.out x5_1 p103 q103; obtain rfl : ad101 = ad103 := qa67; (first | (obtain ⟨rfl, rfl⟩ : A103_1 = A101_1 ∧ c103_1 = c101_1 := qa33)); replace hx103_0 := (HB.out.cell (qL w _ hx103_0)).trans hx103_0; replace hx103_1 := (HB.out.cell (qL w _ hx103_1)).trans hx103_1; replace hx103_2 := (HB.out.cell (qL w _ hx103_2)).trans hx103_2; replace hx103_3 := (HB.out.cell (qL w _ hx103_3)).trans hx103_3; replace hx103_4 := (HB.out.cell (qL w _ hx103_4)).trans hx103_4; have HR103_1 := qO hi103_1; have HC103_1 := qO hl103_1; clear hi103_1 hl103_1; replace p103 := eq_true p103; replace q103 := eq_true q103
       try go_wp2_with (first | ((with_reducible refine gate_callee (f := 44) rfl ?_); refine goesL_ (some 28) rfl rfl Try.func44 qa9 rfl #[.slice A103_1 ((rd_T38 l0 x5_1).f1).length c103_1, .int .i64 (wrap64 (x1_1 + 1))] rfl qa2 ?_; (with_reducible refine (laws_heldArgDefS.calls k1 _ _ ((rd_T38 l0 x5_1).f1) (wrap64 (x1_1 + 1)) t104 _ ?side1 ?side2 A7.out).mono ?_); (case side1 => exact qa23); (case side2 => exact HC103_1.out); rintro e w11 ⟨rfl, hb⟩; have hx_ := qHX HB hb qa0; refine ⟨_, rfl, ?_⟩; have n0_ := qO (below_step (below_step HB.out hx_) hb); clear HB; have HB := n0_; clear n0_; clear hx_; (try clear hb); (try clear hb2); (try clear hk); (try clear hi)))
       go_ret
       exact ⟨qa6, qa4⟩
      ·rw [if_neg c8] at H
       have c8b0 : decide (t104 < 0) = false := decide_eq_false c8; clear c8; replace H := Option.bind_eq_some_iff.mp H; obtain ⟨t106, A120, H⟩ := H; replace H : (if ((rd_T38 l0 x5_1).f2).toList = t106.toList then (if (((rd_T38 l0 x5_1).f3) != ((Int.tmod (wrap64 (t104 + 1)) 3) == 0)) = true then (some (-1)) else (if (((rd_T38 l0 x5_1).f4) != ((Int.tmod (wrap64 ((wrap64 (t104 + 1)) + 1)) 3) == 0)) = true then (some (-1)) else (laws_heldFieldDefS.l0 k1 l0 (wrap64 ((wrap64 ((wrap64 (t104 + 1)) + 1)) + 1)) (wrap64 (x5_1 + 1))))) else (some (-1))) = some r := H; have A12 := qO A120; clear A120
       by_cases c13 : ((rd_T38 l0 x5_1).f2).toList = t106.toList
       ·rw [if_pos c13] at H
        have c13b0 : (((rd_T38 l0 x5_1).f2).toList == t106.toList) = true := beq_iff_eq.mpr c13; have c13b1 : (((rd_T38 l0 x5_1).f2).toList != t106.toList) = false := bne_eq_false_iff_eq.mpr c13; clear c13
        by_cases c14 : (((rd_T38 l0 x5_1).f3) != ((Int.tmod (wrap64 (t104 + 1)) 3) == 0)) = true
        ·rw [if_pos c14] at H
         have c14b0 : (((rd_T38 l0 x5_1).f3) != ((Int.tmod (wrap64 (t104 + 1)) 3) == 0)) = true := c14; (try (have c14b1 : decide (((rd_T38 l0 x5_1).f3) = ((Int.tmod (wrap64 (t104 + 1)) 3) == 0)) = false := by simpa using c14)); (try (have c14b2 : (((rd_T38 l0 x5_1).f3) == ((Int.tmod (wrap64 (t104 + 1)) 3) == 0)) = false := by simpa using c14)); (try (have c14b3 : ¬ (((rd_T38 l0 x5_1).f3) = ((Int.tmod (wrap64 (t104 + 1)) 3) == 0)) := by simpa using c14)); clear c14; obtain rfl := Option.some.inj H
         try go_wp2
         have n0_ := qO (qbD HB.out); clear HB; have HB := n0_; clear n0_; have p101 : 0 ≤ (x5_1 : Int) := qT qa3; have q101 : x5_1 < (l0.length : Int) := qT qa3; obtain ⟨ad101, A101_1, c101_1, e101, hx101_0, hx101_1, hx101_2, hx101_3, hx101_4, hl101_1, hi101_1⟩ := at_T38 HR0.out x5_1 p101 q101; have hw101_4 := hx101_4; have hw101_3 := hx101_3; have hw101_2 := hx101_2; have hw101_1 := hx101_1; have hw101_0 := hx101_0
         cases e101
         replace hx101_0 := (HB.out.cell (qL w _ hx101_0)).trans hx101_0; replace hx101_1 := (HB.out.cell (qL w _ hx101_1)).trans hx101_1; replace hx101_2 := (HB.out.cell (qL w _ hx101_2)).trans hx101_2; replace hx101_3 := (HB.out.cell (qL w _ hx101_3)).trans hx101_3; replace hx101_4 := (HB.out.cell (qL w _ hx101_4)).trans hx101_4; have HR101_1 := qO hi101_1; have HC101_1 := qO hl101_1; clear hi101_1 hl101_1; replace p101 := eq_true p101; replace q101 := eq_true q101; refine start_ (n := 8) (S := fun w' => w'.cell? (ad101.add ((x5_1).toNat * 5)) = some (.string ((rd_T38 l0 x5_1).f0)) ∧ w'.cell? ⟨(ad101.add ((x5_1).toNat * 5)).block, (ad101.add ((x5_1).toNat * 5)).off + 1, none⟩ = some (.slice A101_1 ((rd_T38 l0 x5_1).f1).length c101_1) ∧ w'.cell? ⟨(ad101.add ((x5_1).toNat * 5)).block, (ad101.add ((x5_1).toNat * 5)).off + 2, none⟩ = some (.string ((rd_T38 l0 x5_1).f2)) ∧ w'.cell? ⟨(ad101.add ((x5_1).toNat * 5)).block, (ad101.add ((x5_1).toNat * 5)).off + 3, none⟩ = some (.bool ((rd_T38 l0 x5_1).f3)) ∧ w'.cell? ⟨(ad101.add ((x5_1).toNat * 5)).block, (ad101.add ((x5_1).toNat * 5)).off + 4, none⟩ = some (.bool ((rd_T38 l0 x5_1).f4))) (ds := []) laws_heldFieldDefS.y0 qa9 rfl rfl ⟨((HB.out.cell (qL w _ hw101_0)).trans hw101_0), ((HB.out.cell (qL w _ hw101_1)).trans hw101_1), ((HB.out.cell (qL w _ hw101_2)).trans hw101_2), ((HB.out.cell (qL w _ hw101_3)).trans hw101_3), ((HB.out.cell (qL w _ hw101_4)).trans hw101_4)⟩ (fun hHeld => ?_); refine with_tabW laws_heldFieldDefS.tab4 laws_heldFieldDefS.bits4 (fun HT_ HW_ => ?_); generalize wr.drew = w15 at HB HR101_1 hx101_0 hx101_1 hx101_2 hx101_3 hx101_4 hHeld ⊢; refine pure_ (i := 0) (N := some 12) (v := ?_) (a' := ?_) laws_heldFieldDefS.y1 rfl rfl (any_of HT_.out qa9) (fun _ _ _ h => h) (Or.inl ⟨by rfl, ?_⟩) ?_ ?_; rotate_left; exact qa7; rotate_left; exact qa5; refine pure_ (i := 1) (N := some 13) (v := ?_) (a' := ?_) laws_heldFieldDefS.y2 rfl rfl (any_of HT_.out qa9) (fun _ _ _ h => h) (Or.inl ⟨by rfl, ?_⟩) ?_ ?_; rotate_left; exact qa7; rotate_left; exact qa5; refine pure_ (i := 2) (N := some 14) (v := ?_) (a' := ?_) laws_heldFieldDefS.y3 rfl rfl (any_of HT_.out qa9) (fun _ _ _ h => h) (Or.inl ⟨by rfl, ?_⟩) ?_ ?_; rotate_left; exact qa7; rotate_left; exact qa5; refine pure_ (i := 3) (N := some 15) (v := ?_) (a' := ?_) laws_heldFieldDefS.y4 rfl rfl (any_of HT_.out qa9) (fun _ _ _ h => h) (Or.inl ⟨by rfl, ?_⟩) ?_ ?_; rotate_left; exact qa7; rotate_left; exact qa5; refine pure_ (i := 5) (N := some 17) (v := ?_) (a' := ?_) laws_heldFieldDefS.y5 rfl rfl (any_of HT_.out qa9) (fun _ _ _ h => h) (Or.inl ⟨by rfl, ?_⟩) ?_ ?_; rotate_left; exact qa7; rotate_left; exact qa5; refine take_ (i := 4) (N := some 16) (v := ?_) (a' := ?_) laws_heldFieldDefS.y6 rfl rfl (take_ofW HT_.out HW_.out qa9) (fun _ _ _ h => h) (Or.inl ⟨by rfl, ?_⟩) hHeld ?_ ?_; rotate_left; exact qa42; rotate_left; exact qa5; refine one_ (i := 6) (N := some 18) laws_heldFieldDefS.y7 rfl rfl (one_of HT_.out qa9) qa66 (fun K hK => ?_); refine goes_ Try.func68 qa9 rfl #[.int .i64 x1_1] (by rfl) rfl rfl qa2 ?_; (with_reducible refine (laws_markText.calls k1 x1_1 t102 _ A5.out).mono ?_); rintro e w16 ⟨rfl, hb⟩; have hx_ := qHX HB hb qa0; refine ⟨_, rfl, ?_⟩; have n0_ := qO (below_step (below_step HB.out hx_) hb); clear HB; have HB := n0_; clear n0_; clear hx_; (try clear hb); (try clear hb2); (try clear hk); (try clear hi); refine hK.out _ _ ⟨((HB.out.cell (qL w _ hw101_0)).trans hw101_0), ((HB.out.cell (qL w _ hw101_1)).trans hw101_1), ((HB.out.cell (qL w _ hw101_2)).trans hw101_2), ((HB.out.cell (qL w _ hw101_3)).trans hw101_3), ((HB.out.cell (qL w _ hw101_4)).trans hw101_4)⟩ (fun hHeld => ?_); clear hK K; refine norm_ (a' := ?_) ?_ ?_; rotate_left
         ·exact qa14
         refine pure_ (i := 7) (N := some 19) (v := ?_) (a' := ?_) laws_heldFieldDefS.y8 rfl rfl (any_of HT_.out qa9) (fun _ _ _ h => h) (Or.inl ⟨by rfl, ?_⟩) ?_ ?_; rotate_left; exact qa7; rotate_left; exact qa5; refine done_ (done_of HT_.out qa9) ?_; have p103 : 0 ≤ (x5_1 : Int) := qT qa3; have q103 : x5_1 < (l0.length : Int) := qT qa3; obtain ⟨ad103, A103_1, c103_1, e103, hx103_0, hx103_1, hx103_2, hx103_3, hx103_4, hl103_1, hi103_1⟩ := at_T38 HR0.out x5_1 p103 q103; obtain rfl : ad101 = ad103 := qa67; (first | (obtain ⟨rfl, rfl⟩ : A103_1 = A101_1 ∧ c103_1 = c101_1 := qa33)); replace hx103_0 := (HB.out.cell (qL w _ hx103_0)).trans hx103_0; replace hx103_1 := (HB.out.cell (qL w _ hx103_1)).trans hx103_1; replace hx103_2 := (HB.out.cell (qL w _ hx103_2)).trans hx103_2; replace hx103_3 := (HB.out.cell (qL w _ hx103_3)).trans hx103_3; replace hx103_4 := (HB.out.cell (qL w _ hx103_4)).trans hx103_4; have HR103_1 := qO hi103_1; have HC103_1 := qO hl103_1; clear hi103_1 hl103_1; replace p103 := eq_true p103; replace q103 := eq_true q103
         try go_wp2_with (first | ((with_reducible refine gate_callee (f := 44) rfl ?_); refine goesL_ (some 28) rfl rfl Try.func44 qa9 rfl #[.slice A103_1 ((rd_T38 l0 x5_1).f1).length c103_1, .int .i64 (wrap64 (x1_1 + 1))] rfl qa2 ?_; (with_reducible refine (laws_heldArgDefS.calls k1 _ _ ((rd_T38 l0 x5_1).f1) (wrap64 (x1_1 + 1)) t104 _ ?side1 ?side2 A7.out).mono ?_); (case side1 => exact qa23); (case side2 => exact HC103_1.out); rintro e w17 ⟨rfl, hb⟩; have hx_ := qHX HB hb qa0; refine ⟨_, rfl, ?_⟩; have n0_ := qO (below_step (below_step HB.out hx_) hb); clear HB; have HB := n0_; clear n0_; clear hx_; (try clear hb); (try clear hb2); (try clear hk); (try clear hi)))
         have n0_ := qO (qbD HB.out); clear HB; have HB := n0_; clear n0_; have p105 : 0 ≤ (x5_1 : Int) := qT qa3; have q105 : x5_1 < (l0.length : Int) := qT qa3; obtain ⟨ad105, A105_1, c105_1, e105, hx105_0, hx105_1, hx105_2, hx105_3, hx105_4, hl105_1, hi105_1⟩ := at_T38 HR0.out x5_1 p105 q105; have hw105_4 := hx105_4; have hw105_3 := hx105_3; have hw105_2 := hx105_2; have hw105_1 := hx105_1; have hw105_0 := hx105_0; obtain rfl : ad101 = ad105 := (by injection e105); (first | (obtain ⟨rfl, rfl⟩ : A105_1 = A103_1 ∧ c105_1 = c103_1 := qa29) | (obtain ⟨rfl, rfl⟩ : A105_1 = A101_1 ∧ c105_1 = c101_1 := qa29)); replace hx105_0 := (HB.out.cell (qL w _ hx105_0)).trans hx105_0; replace hx105_1 := (HB.out.cell (qL w _ hx105_1)).trans hx105_1; replace hx105_2 := (HB.out.cell (qL w _ hx105_2)).trans hx105_2; replace hx105_3 := (HB.out.cell (qL w _ hx105_3)).trans hx105_3; replace hx105_4 := (HB.out.cell (qL w _ hx105_4)).trans hx105_4; have HR105_1 := qO hi105_1; have HC105_1 := qO hl105_1; clear hi105_1 hl105_1; replace p105 := eq_true p105; replace q105 := eq_true q105; refine start_ (n := 8) (S := fun w' => w'.cell? (ad101.add ((x5_1).toNat * 5)) = some (.string ((rd_T38 l0 x5_1).f0)) ∧ w'.cell? ⟨(ad101.add ((x5_1).toNat * 5)).block, (ad101.add ((x5_1).toNat * 5)).off + 1, none⟩ = some (.slice A105_1 ((rd_T38 l0 x5_1).f1).length c105_1) ∧ w'.cell? ⟨(ad101.add ((x5_1).toNat * 5)).block, (ad101.add ((x5_1).toNat * 5)).off + 2, none⟩ = some (.string ((rd_T38 l0 x5_1).f2)) ∧ w'.cell? ⟨(ad101.add ((x5_1).toNat * 5)).block, (ad101.add ((x5_1).toNat * 5)).off + 3, none⟩ = some (.bool ((rd_T38 l0 x5_1).f3)) ∧ w'.cell? ⟨(ad101.add ((x5_1).toNat * 5)).block, (ad101.add ((x5_1).toNat * 5)).off + 4, none⟩ = some (.bool ((rd_T38 l0 x5_1).f4))) (ds := []) laws_heldFieldDefS.y0 qa9 rfl rfl ⟨((HB.out.cell (qL w _ hw105_0)).trans hw105_0), ((HB.out.cell (qL w _ hw105_1)).trans hw105_1), ((HB.out.cell (qL w _ hw105_2)).trans hw105_2), ((HB.out.cell (qL w _ hw105_3)).trans hw105_3), ((HB.out.cell (qL w _ hw105_4)).trans hw105_4)⟩ (fun hHeld => ?_); refine with_tabW laws_heldFieldDefS.tab10 laws_heldFieldDefS.bits10 (fun HT_ HW_ => ?_); generalize w17.drew = w18 at HB HR105_1 hx105_0 hx105_1 hx105_2 hx105_3 hx105_4 hHeld ⊢; refine pure_ (i := 0) (N := some 31) (v := ?_) (a' := ?_) laws_heldFieldDefS.y1 rfl rfl (any_of HT_.out qa9) (fun _ _ _ h => h) (Or.inl ⟨by rfl, ?_⟩) ?_ ?_; rotate_left; exact qa7; rotate_left; exact qa5; refine pure_ (i := 1) (N := some 32) (v := ?_) (a' := ?_) laws_heldFieldDefS.y2 rfl rfl (any_of HT_.out qa9) (fun _ _ _ h => h) (Or.inl ⟨by rfl, ?_⟩) ?_ ?_; rotate_left; exact qa7; rotate_left; exact qa5; refine pure_ (i := 2) (N := some 33) (v := ?_) (a' := ?_) laws_heldFieldDefS.y3 rfl rfl (any_of HT_.out qa9) (fun _ _ _ h => h) (Or.inl ⟨by rfl, ?_⟩) ?_ ?_; rotate_left; exact qa7; rotate_left; exact qa5; refine pure_ (i := 3) (N := some 34) (v := ?_) (a' := ?_) laws_heldFieldDefS.y4 rfl rfl (any_of HT_.out qa9) (fun _ _ _ h => h) (Or.inl ⟨by rfl, ?_⟩) ?_ ?_; rotate_left; exact qa7; rotate_left; exact qa5; refine pure_ (i := 5) (N := some 36) (v := ?_) (a' := ?_) laws_heldFieldDefS.y5 rfl rfl (any_of HT_.out qa9) (fun _ _ _ h => h) (Or.inl ⟨by rfl, ?_⟩) ?_ ?_; rotate_left; exact qa7; rotate_left; exact qa5; refine take_ (i := 4) (N := some 35) (v := ?_) (a' := ?_) laws_heldFieldDefS.y6 rfl rfl (take_ofW HT_.out HW_.out qa9) (fun _ _ _ h => h) (Or.inl ⟨by rfl, ?_⟩) hHeld ?_ ?_; rotate_left; exact qa42; rotate_left; exact qa5; refine one_ (i := 6) (N := some 37) laws_heldFieldDefS.y7 rfl rfl (one_of HT_.out qa9) qa66 (fun K hK => ?_); refine goes_ Try.func68 qa9 rfl #[.int .i64 t104] (by rfl) rfl rfl qa2 ?_; (with_reducible refine (laws_markText.calls k1 t104 t106 _ A12.out).mono ?_); rintro e w19 ⟨rfl, hb⟩; have hx_ := qHX HB hb qa0; refine ⟨_, rfl, ?_⟩; have n0_ := qO (below_step (below_step HB.out hx_) hb); clear HB; have HB := n0_; clear n0_; clear hx_; (try clear hb); (try clear hb2); (try clear hk); (try clear hi); refine hK.out _ _ ⟨((HB.out.cell (qL w _ hw105_0)).trans hw105_0), ((HB.out.cell (qL w _ hw105_1)).trans hw105_1), ((HB.out.cell (qL w _ hw105_2)).trans hw105_2), ((HB.out.cell (qL w _ hw105_3)).trans hw105_3), ((HB.out.cell (qL w _ hw105_4)).trans hw105_4)⟩ (fun hHeld => ?_); clear hK K; refine norm_ (a' := ?_) ?_ ?_; rotate_left
         ·exact qa14
         refine pure_ (i := 7) (N := some 38) (v := ?_) (a' := ?_) laws_heldFieldDefS.y8 rfl rfl (any_of HT_.out qa9) (fun _ _ _ h => h) (Or.inl ⟨by rfl, ?_⟩) ?_ ?_; rotate_left; exact qa7; rotate_left; exact qa5; refine done_ (done_of HT_.out qa9) ?_; have p107 : 0 ≤ (x5_1 : Int) := qT qa3; have q107 : x5_1 < (l0.length : Int) := qT qa3; obtain ⟨ad107, A107_1, c107_1, e107, hx107_0, hx107_1, hx107_2, hx107_3, hx107_4, hl107_1, hi107_1⟩ := at_T38 HR0.out x5_1 p107 q107; obtain rfl : ad101 = ad107 := (by injection e107); (first | (obtain ⟨rfl, rfl⟩ : A107_1 = A105_1 ∧ c107_1 = c105_1 := qa26) | (obtain ⟨rfl, rfl⟩ : A107_1 = A103_1 ∧ c107_1 = c103_1 := qa26) | (obtain ⟨rfl, rfl⟩ : A107_1 = A101_1 ∧ c107_1 = c101_1 := qa26)); replace hx107_0 := (HB.out.cell (qL w _ hx107_0)).trans hx107_0; replace hx107_1 := (HB.out.cell (qL w _ hx107_1)).trans hx107_1; replace hx107_2 := (HB.out.cell (qL w _ hx107_2)).trans hx107_2; replace hx107_3 := (HB.out.cell (qL w _ hx107_3)).trans hx107_3; replace hx107_4 := (HB.out.cell (qL w _ hx107_4)).trans hx107_4; have HR107_1 := qO hi107_1; have HC107_1 := qO hl107_1; clear hi107_1 hl107_1; replace p107 := eq_true p107; replace q107 := eq_true q107
         try go_wp2
         go_ret
         exact ⟨qa6, qa4⟩
        ·rw [if_neg c14] at H
         have c14b0 : (((rd_T38 l0 x5_1).f3) != ((Int.tmod (wrap64 (t104 + 1)) 3) == 0)) = false := by simpa using c14
         (try (have c14b1 : decide (((rd_T38 l0 x5_1).f3) = ((Int.tmod (wrap64 (t104 + 1)) 3) == 0)) = true := by simpa using c14)); (try (have c14b2 : (((rd_T38 l0 x5_1).f3) == ((Int.tmod (wrap64 (t104 + 1)) 3) == 0)) = true := by simpa using c14)); clear c14
         by_cases c20 : (((rd_T38 l0 x5_1).f4) != ((Int.tmod (wrap64 ((wrap64 (t104 + 1)) + 1)) 3) == 0)) = true
         ·rw [if_pos c20] at H
          have c20b0 : (((rd_T38 l0 x5_1).f4) != ((Int.tmod (wrap64 ((wrap64 (t104 + 1)) + 1)) 3) == 0)) = true := c20; (try (have c20b1 : decide (((rd_T38 l0 x5_1).f4) = ((Int.tmod (wrap64 ((wrap64 (t104 + 1)) + 1)) 3) == 0)) = false := by simpa using c20)); (try (have c20b2 : (((rd_T38 l0 x5_1).f4) == ((Int.tmod (wrap64 ((wrap64 (t104 + 1)) + 1)) 3) == 0)) = false := by simpa using c20)); (try (have c20b3 : ¬ (((rd_T38 l0 x5_1).f4) = ((Int.tmod (wrap64 ((wrap64 (t104 + 1)) + 1)) 3) == 0)) := by simpa using c20)); clear c20; obtain rfl := Option.some.inj H
          try go_wp2
          have n0_ := qO (qbD HB.out); clear HB; have HB := n0_; clear n0_; have p101 : 0 ≤ (x5_1 : Int) := qT qa3; have q101 : x5_1 < (l0.length : Int) := qT qa3; obtain ⟨ad101, A101_1, c101_1, e101, hx101_0, hx101_1, hx101_2, hx101_3, hx101_4, hl101_1, hi101_1⟩ := at_T38 HR0.out x5_1 p101 q101; have hw101_4 := hx101_4; have hw101_3 := hx101_3; have hw101_2 := hx101_2; have hw101_1 := hx101_1; have hw101_0 := hx101_0
          cases e101
          replace hx101_0 := (HB.out.cell (qL w _ hx101_0)).trans hx101_0; replace hx101_1 := (HB.out.cell (qL w _ hx101_1)).trans hx101_1; replace hx101_2 := (HB.out.cell (qL w _ hx101_2)).trans hx101_2; replace hx101_3 := (HB.out.cell (qL w _ hx101_3)).trans hx101_3; replace hx101_4 := (HB.out.cell (qL w _ hx101_4)).trans hx101_4; have HR101_1 := qO hi101_1; have HC101_1 := qO hl101_1; clear hi101_1 hl101_1; replace p101 := eq_true p101; replace q101 := eq_true q101; refine start_ (n := 8) (S := fun w' => w'.cell? (ad101.add ((x5_1).toNat * 5)) = some (.string ((rd_T38 l0 x5_1).f0)) ∧ w'.cell? ⟨(ad101.add ((x5_1).toNat * 5)).block, (ad101.add ((x5_1).toNat * 5)).off + 1, none⟩ = some (.slice A101_1 ((rd_T38 l0 x5_1).f1).length c101_1) ∧ w'.cell? ⟨(ad101.add ((x5_1).toNat * 5)).block, (ad101.add ((x5_1).toNat * 5)).off + 2, none⟩ = some (.string ((rd_T38 l0 x5_1).f2)) ∧ w'.cell? ⟨(ad101.add ((x5_1).toNat * 5)).block, (ad101.add ((x5_1).toNat * 5)).off + 3, none⟩ = some (.bool ((rd_T38 l0 x5_1).f3)) ∧ w'.cell? ⟨(ad101.add ((x5_1).toNat * 5)).block, (ad101.add ((x5_1).toNat * 5)).off + 4, none⟩ = some (.bool ((rd_T38 l0 x5_1).f4))) (ds := []) laws_heldFieldDefS.y0 qa9 rfl rfl ⟨((HB.out.cell (qL w _ hw101_0)).trans hw101_0), ((HB.out.cell (qL w _ hw101_1)).trans hw101_1), ((HB.out.cell (qL w _ hw101_2)).trans hw101_2), ((HB.out.cell (qL w _ hw101_3)).trans hw101_3), ((HB.out.cell (qL w _ hw101_4)).trans hw101_4)⟩ (fun hHeld => ?_); refine with_tabW laws_heldFieldDefS.tab4 laws_heldFieldDefS.bits4 (fun HT_ HW_ => ?_); generalize wr.drew = w21 at HB HR101_1 hx101_0 hx101_1 hx101_2 hx101_3 hx101_4 hHeld ⊢; refine pure_ (i := 0) (N := some 12) (v := ?_) (a' := ?_) laws_heldFieldDefS.y1 rfl rfl (any_of HT_.out qa9) (fun _ _ _ h => h) (Or.inl ⟨by rfl, ?_⟩) ?_ ?_; rotate_left; exact qa7; rotate_left; exact qa5; refine pure_ (i := 1) (N := some 13) (v := ?_) (a' := ?_) laws_heldFieldDefS.y2 rfl rfl (any_of HT_.out qa9) (fun _ _ _ h => h) (Or.inl ⟨by rfl, ?_⟩) ?_ ?_; rotate_left; exact qa7; rotate_left; exact qa5; refine pure_ (i := 2) (N := some 14) (v := ?_) (a' := ?_) laws_heldFieldDefS.y3 rfl rfl (any_of HT_.out qa9) (fun _ _ _ h => h) (Or.inl ⟨by rfl, ?_⟩) ?_ ?_; rotate_left; exact qa7; rotate_left; exact qa5; refine pure_ (i := 3) (N := some 15) (v := ?_) (a' := ?_) laws_heldFieldDefS.y4 rfl rfl (any_of HT_.out qa9) (fun _ _ _ h => h) (Or.inl ⟨by rfl, ?_⟩) ?_ ?_; rotate_left; exact qa7; rotate_left; exact qa5; refine pure_ (i := 5) (N := some 17) (v := ?_) (a' := ?_) laws_heldFieldDefS.y5 rfl rfl (any_of HT_.out qa9) (fun _ _ _ h => h) (Or.inl ⟨by rfl, ?_⟩) ?_ ?_; rotate_left; exact qa7; rotate_left; exact qa5; refine take_ (i := 4) (N := some 16) (v := ?_) (a' := ?_) laws_heldFieldDefS.y6 rfl rfl (take_ofW HT_.out HW_.out qa9) (fun _ _ _ h => h) (Or.inl ⟨by rfl, ?_⟩) hHeld ?_ ?_; rotate_left; exact qa42; rotate_left; exact qa5; refine one_ (i := 6) (N := some 18) laws_heldFieldDefS.y7 rfl rfl (one_of HT_.out qa9) qa66 (fun K hK => ?_); refine goes_ Try.func68 qa9 rfl #[.int .i64 x1_1] (by rfl) rfl rfl qa2 ?_; (with_reducible refine (laws_markText.calls k1 x1_1 t102 _ A5.out).mono ?_); rintro e w22 ⟨rfl, hb⟩; have hx_ := qHX HB hb qa0; refine ⟨_, rfl, ?_⟩; have n0_ := qO (below_step (below_step HB.out hx_) hb); clear HB; have HB := n0_; clear n0_; clear hx_; (try clear hb); (try clear hb2); (try clear hk); (try clear hi); refine hK.out _ _ ⟨((HB.out.cell (qL w _ hw101_0)).trans hw101_0), ((HB.out.cell (qL w _ hw101_1)).trans hw101_1), ((HB.out.cell (qL w _ hw101_2)).trans hw101_2), ((HB.out.cell (qL w _ hw101_3)).trans hw101_3), ((HB.out.cell (qL w _ hw101_4)).trans hw101_4)⟩ (fun hHeld => ?_); clear hK K; refine norm_ (a' := ?_) ?_ ?_; rotate_left
          ·exact qa14
          refine pure_ (i := 7) (N := some 19) (v := ?_) (a' := ?_) laws_heldFieldDefS.y8 rfl rfl (any_of HT_.out qa9) (fun _ _ _ h => h) (Or.inl ⟨by rfl, ?_⟩) ?_ ?_; rotate_left; exact qa7; rotate_left; exact qa5; refine done_ (done_of HT_.out qa9) ?_; have p103 : 0 ≤ (x5_1 : Int) := qT qa3; have q103 : x5_1 < (l0.length : Int) := qT qa3; obtain ⟨ad103, A103_1, c103_1, e103, hx103_0, hx103_1, hx103_2, hx103_3, hx103_4, hl103_1, hi103_1⟩ := at_T38 HR0.out x5_1 p103 q103; obtain rfl : ad101 = ad103 := qa67; (first | (obtain ⟨rfl, rfl⟩ : A103_1 = A101_1 ∧ c103_1 = c101_1 := qa33)); replace hx103_0 := (HB.out.cell (qL w _ hx103_0)).trans hx103_0; replace hx103_1 := (HB.out.cell (qL w _ hx103_1)).trans hx103_1; replace hx103_2 := (HB.out.cell (qL w _ hx103_2)).trans hx103_2; replace hx103_3 := (HB.out.cell (qL w _ hx103_3)).trans hx103_3; replace hx103_4 := (HB.out.cell (qL w _ hx103_4)).trans hx103_4; have HR103_1 := qO hi103_1; have HC103_1 := qO hl103_1; clear hi103_1 hl103_1; replace p103 := eq_true p103; replace q103 := eq_true q103
          try go_wp2_with (first | ((with_reducible refine gate_callee (f := 44) rfl ?_); refine goesL_ (some 28) rfl rfl Try.func44 qa9 rfl #[.slice A103_1 ((rd_T38 l0 x5_1).f1).length c103_1, .int .i64 (wrap64 (x1_1 + 1))] rfl qa2 ?_; (with_reducible refine (laws_heldArgDefS.calls k1 _ _ ((rd_T38 l0 x5_1).f1) (wrap64 (x1_1 + 1)) t104 _ ?side1 ?side2 A7.out).mono ?_); (case side1 => exact qa23); (case side2 => exact HC103_1.out); rintro e w23 ⟨rfl, hb⟩; have hx_ := qHX HB hb qa0; refine ⟨_, rfl, ?_⟩; have n0_ := qO (below_step (below_step HB.out hx_) hb); clear HB; have HB := n0_; clear n0_; clear hx_; (try clear hb); (try clear hb2); (try clear hk); (try clear hi)))
          have n0_ := qO (qbD HB.out); clear HB; have HB := n0_; clear n0_; have p105 : 0 ≤ (x5_1 : Int) := qT qa3; have q105 : x5_1 < (l0.length : Int) := qT qa3; obtain ⟨ad105, A105_1, c105_1, e105, hx105_0, hx105_1, hx105_2, hx105_3, hx105_4, hl105_1, hi105_1⟩ := at_T38 HR0.out x5_1 p105 q105; have hw105_4 := hx105_4; have hw105_3 := hx105_3; have hw105_2 := hx105_2; have hw105_1 := hx105_1; have hw105_0 := hx105_0; obtain rfl : ad101 = ad105 := (by injection e105); (first | (obtain ⟨rfl, rfl⟩ : A105_1 = A103_1 ∧ c105_1 = c103_1 := qa29) | (obtain ⟨rfl, rfl⟩ : A105_1 = A101_1 ∧ c105_1 = c101_1 := qa29)); replace hx105_0 := (HB.out.cell (qL w _ hx105_0)).trans hx105_0; replace hx105_1 := (HB.out.cell (qL w _ hx105_1)).trans hx105_1; replace hx105_2 := (HB.out.cell (qL w _ hx105_2)).trans hx105_2; replace hx105_3 := (HB.out.cell (qL w _ hx105_3)).trans hx105_3; replace hx105_4 := (HB.out.cell (qL w _ hx105_4)).trans hx105_4; have HR105_1 := qO hi105_1; have HC105_1 := qO hl105_1; clear hi105_1 hl105_1; replace p105 := eq_true p105; replace q105 := eq_true q105; refine start_ (n := 8) (S := fun w' => w'.cell? (ad101.add ((x5_1).toNat * 5)) = some (.string ((rd_T38 l0 x5_1).f0)) ∧ w'.cell? ⟨(ad101.add ((x5_1).toNat * 5)).block, (ad101.add ((x5_1).toNat * 5)).off + 1, none⟩ = some (.slice A105_1 ((rd_T38 l0 x5_1).f1).length c105_1) ∧ w'.cell? ⟨(ad101.add ((x5_1).toNat * 5)).block, (ad101.add ((x5_1).toNat * 5)).off + 2, none⟩ = some (.string ((rd_T38 l0 x5_1).f2)) ∧ w'.cell? ⟨(ad101.add ((x5_1).toNat * 5)).block, (ad101.add ((x5_1).toNat * 5)).off + 3, none⟩ = some (.bool ((rd_T38 l0 x5_1).f3)) ∧ w'.cell? ⟨(ad101.add ((x5_1).toNat * 5)).block, (ad101.add ((x5_1).toNat * 5)).off + 4, none⟩ = some (.bool ((rd_T38 l0 x5_1).f4))) (ds := []) laws_heldFieldDefS.y0 qa9 rfl rfl ⟨((HB.out.cell (qL w _ hw105_0)).trans hw105_0), ((HB.out.cell (qL w _ hw105_1)).trans hw105_1), ((HB.out.cell (qL w _ hw105_2)).trans hw105_2), ((HB.out.cell (qL w _ hw105_3)).trans hw105_3), ((HB.out.cell (qL w _ hw105_4)).trans hw105_4)⟩ (fun hHeld => ?_); refine with_tabW laws_heldFieldDefS.tab10 laws_heldFieldDefS.bits10 (fun HT_ HW_ => ?_); generalize w23.drew = w24 at HB HR105_1 hx105_0 hx105_1 hx105_2 hx105_3 hx105_4 hHeld ⊢; refine pure_ (i := 0) (N := some 31) (v := ?_) (a' := ?_) laws_heldFieldDefS.y1 rfl rfl (any_of HT_.out qa9) (fun _ _ _ h => h) (Or.inl ⟨by rfl, ?_⟩) ?_ ?_; rotate_left; exact qa7; rotate_left; exact qa5; refine pure_ (i := 1) (N := some 32) (v := ?_) (a' := ?_) laws_heldFieldDefS.y2 rfl rfl (any_of HT_.out qa9) (fun _ _ _ h => h) (Or.inl ⟨by rfl, ?_⟩) ?_ ?_; rotate_left; exact qa7; rotate_left; exact qa5; refine pure_ (i := 2) (N := some 33) (v := ?_) (a' := ?_) laws_heldFieldDefS.y3 rfl rfl (any_of HT_.out qa9) (fun _ _ _ h => h) (Or.inl ⟨by rfl, ?_⟩) ?_ ?_; rotate_left; exact qa7; rotate_left; exact qa5; refine pure_ (i := 3) (N := some 34) (v := ?_) (a' := ?_) laws_heldFieldDefS.y4 rfl rfl (any_of HT_.out qa9) (fun _ _ _ h => h) (Or.inl ⟨by rfl, ?_⟩) ?_ ?_; rotate_left; exact qa7; rotate_left; exact qa5; refine pure_ (i := 5) (N := some 36) (v := ?_) (a' := ?_) laws_heldFieldDefS.y5 rfl rfl (any_of HT_.out qa9) (fun _ _ _ h => h) (Or.inl ⟨by rfl, ?_⟩) ?_ ?_; rotate_left; exact qa7; rotate_left; exact qa5; refine take_ (i := 4) (N := some 35) (v := ?_) (a' := ?_) laws_heldFieldDefS.y6 rfl rfl (take_ofW HT_.out HW_.out qa9) (fun _ _ _ h => h) (Or.inl ⟨by rfl, ?_⟩) hHeld ?_ ?_; rotate_left; exact qa42; rotate_left; exact qa5; refine one_ (i := 6) (N := some 37) laws_heldFieldDefS.y7 rfl rfl (one_of HT_.out qa9) qa66 (fun K hK => ?_); refine goes_ Try.func68 qa9 rfl #[.int .i64 t104] (by rfl) rfl rfl qa2 ?_; (with_reducible refine (laws_markText.calls k1 t104 t106 _ A12.out).mono ?_); rintro e w25 ⟨rfl, hb⟩; have hx_ := qHX HB hb qa0; refine ⟨_, rfl, ?_⟩; have n0_ := qO (below_step (below_step HB.out hx_) hb); clear HB; have HB := n0_; clear n0_; clear hx_; (try clear hb); (try clear hb2); (try clear hk); (try clear hi); refine hK.out _ _ ⟨((HB.out.cell (qL w _ hw105_0)).trans hw105_0), ((HB.out.cell (qL w _ hw105_1)).trans hw105_1), ((HB.out.cell (qL w _ hw105_2)).trans hw105_2), ((HB.out.cell (qL w _ hw105_3)).trans hw105_3), ((HB.out.cell (qL w _ hw105_4)).trans hw105_4)⟩ (fun hHeld => ?_); clear hK K; refine norm_ (a' := ?_) ?_ ?_; rotate_left
          ·exact qa14
          refine pure_ (i := 7) (N := some 38) (v := ?_) (a' := ?_) laws_heldFieldDefS.y8 rfl rfl (any_of HT_.out qa9) (fun _ _ _ h => h) (Or.inl ⟨by rfl, ?_⟩) ?_ ?_; rotate_left; exact qa7; rotate_left; exact qa5; refine done_ (done_of HT_.out qa9) ?_; have p107 : 0 ≤ (x5_1 : Int) := qT qa3; have q107 : x5_1 < (l0.length : Int) := qT qa3; obtain ⟨ad107, A107_1, c107_1, e107, hx107_0, hx107_1, hx107_2, hx107_3, hx107_4, hl107_1, hi107_1⟩ := at_T38 HR0.out x5_1 p107 q107; obtain rfl : ad101 = ad107 := (by injection e107); (first | (obtain ⟨rfl, rfl⟩ : A107_1 = A105_1 ∧ c107_1 = c105_1 := qa26) | (obtain ⟨rfl, rfl⟩ : A107_1 = A103_1 ∧ c107_1 = c103_1 := qa26) | (obtain ⟨rfl, rfl⟩ : A107_1 = A101_1 ∧ c107_1 = c101_1 := qa26)); replace hx107_0 := (HB.out.cell (qL w _ hx107_0)).trans hx107_0; replace hx107_1 := (HB.out.cell (qL w _ hx107_1)).trans hx107_1; replace hx107_2 := (HB.out.cell (qL w _ hx107_2)).trans hx107_2; replace hx107_3 := (HB.out.cell (qL w _ hx107_3)).trans hx107_3; replace hx107_4 := (HB.out.cell (qL w _ hx107_4)).trans hx107_4; have HR107_1 := qO hi107_1; have HC107_1 := qO hl107_1; clear hi107_1 hl107_1; replace p107 := eq_true p107; replace q107 := eq_true q107; have p108 : 0 ≤ (x5_1 : Int) := qT qa3; have q108 : x5_1 < (l0.length : Int) := qT qa3; obtain ⟨ad108, A108_1, c108_1, e108, hx108_0, hx108_1, hx108_2, hx108_3, hx108_4, hl108_1, hi108_1⟩ := at_T38 HR0.out x5_1 p108 q108; obtain rfl : ad101 = ad108 := (by injection e108); (first | (obtain ⟨rfl, rfl⟩ : A108_1 = A107_1 ∧ c108_1 = c107_1 := qa30) | (obtain ⟨rfl, rfl⟩ : A108_1 = A105_1 ∧ c108_1 = c105_1 := qa30) | (obtain ⟨rfl, rfl⟩ : A108_1 = A103_1 ∧ c108_1 = c103_1 := qa30) | (obtain ⟨rfl, rfl⟩ : A108_1 = A101_1 ∧ c108_1 = c101_1 := qa30)); replace hx108_0 := (HB.out.cell (qL w _ hx108_0)).trans hx108_0; replace hx108_1 := (HB.out.cell (qL w _ hx108_1)).trans hx108_1; replace hx108_2 := (HB.out.cell (qL w _ hx108_2)).trans hx108_2; replace hx108_3 := (HB.out.cell (qL w _ hx108_3)).trans hx108_3; replace hx108_4 := (HB.out.cell (qL w _ hx108_4)).trans hx108_4; have HR108_1 := qO hi108_1; have HC108_1 := qO hl108_1; clear hi108_1 hl108_1; replace p108 := eq_true p108; replace q108 := eq_true q108; have ea_ := Option.some.inj (hx107_1.symm.trans hx108_1); injection ea_ with ea_ en_ ec_
          try subst ea_
          try subst ec_
          clear en_
          try go_wp2
          go_ret
          exact ⟨qa6, qa4⟩
         ·rw [if_neg c20] at H
          have c20b0 : (((rd_T38 l0 x5_1).f4) != ((Int.tmod (wrap64 ((wrap64 (t104 + 1)) + 1)) 3) == 0)) = false := by simpa using c20
          (try (have c20b1 : decide (((rd_T38 l0 x5_1).f4) = ((Int.tmod (wrap64 ((wrap64 (t104 + 1)) + 1)) 3) == 0)) = true := by simpa using c20)); (try (have c20b2 : (((rd_T38 l0 x5_1).f4) == ((Int.tmod (wrap64 ((wrap64 (t104 + 1)) + 1)) 3) == 0)) = true := by simpa using c20)); clear c20; have H' := qO H; clear H
          try go_wp2
          have n0_ := qO (qbD HB.out); clear HB; have HB := n0_; clear n0_; have p101 : 0 ≤ (x5_1 : Int) := qT qa3; have q101 : x5_1 < (l0.length : Int) := qT qa3; obtain ⟨ad101, A101_1, c101_1, e101, hx101_0, hx101_1, hx101_2, hx101_3, hx101_4, hl101_1, hi101_1⟩ := at_T38 HR0.out x5_1 p101 q101; have hw101_4 := hx101_4; have hw101_3 := hx101_3; have hw101_2 := hx101_2; have hw101_1 := hx101_1; have hw101_0 := hx101_0
          cases e101
          replace hx101_0 := (HB.out.cell (qL w _ hx101_0)).trans hx101_0; replace hx101_1 := (HB.out.cell (qL w _ hx101_1)).trans hx101_1; replace hx101_2 := (HB.out.cell (qL w _ hx101_2)).trans hx101_2; replace hx101_3 := (HB.out.cell (qL w _ hx101_3)).trans hx101_3; replace hx101_4 := (HB.out.cell (qL w _ hx101_4)).trans hx101_4; have HR101_1 := qO hi101_1; have HC101_1 := qO hl101_1; clear hi101_1 hl101_1; replace p101 := eq_true p101; replace q101 := eq_true q101; refine start_ (n := 8) (S := fun w' => w'.cell? (ad101.add ((x5_1).toNat * 5)) = some (.string ((rd_T38 l0 x5_1).f0)) ∧ w'.cell? ⟨(ad101.add ((x5_1).toNat * 5)).block, (ad101.add ((x5_1).toNat * 5)).off + 1, none⟩ = some (.slice A101_1 ((rd_T38 l0 x5_1).f1).length c101_1) ∧ w'.cell? ⟨(ad101.add ((x5_1).toNat * 5)).block, (ad101.add ((x5_1).toNat * 5)).off + 2, none⟩ = some (.string ((rd_T38 l0 x5_1).f2)) ∧ w'.cell? ⟨(ad101.add ((x5_1).toNat * 5)).block, (ad101.add ((x5_1).toNat * 5)).off + 3, none⟩ = some (.bool ((rd_T38 l0 x5_1).f3)) ∧ w'.cell? ⟨(ad101.add ((x5_1).toNat * 5)).block, (ad101.add ((x5_1).toNat * 5)).off + 4, none⟩ = some (.bool ((rd_T38 l0 x5_1).f4))) (ds := []) laws_heldFieldDefS.y0 qa9 rfl rfl ⟨((HB.out.cell (qL w _ hw101_0)).trans hw101_0), ((HB.out.cell (qL w _ hw101_1)).trans hw101_1), ((HB.out.cell (qL w _ hw101_2)).trans hw101_2), ((HB.out.cell (qL w _ hw101_3)).trans hw101_3), ((HB.out.cell (qL w _ hw101_4)).trans hw101_4)⟩ (fun hHeld => ?_); refine with_tabW laws_heldFieldDefS.tab4 laws_heldFieldDefS.bits4 (fun HT_ HW_ => ?_); generalize wr.drew = w26 at HB HR101_1 hx101_0 hx101_1 hx101_2 hx101_3 hx101_4 hHeld ⊢; refine pure_ (i := 0) (N := some 12) (v := ?_) (a' := ?_) laws_heldFieldDefS.y1 rfl rfl (any_of HT_.out qa9) (fun _ _ _ h => h) (Or.inl ⟨by rfl, ?_⟩) ?_ ?_; rotate_left; exact qa7; rotate_left; exact qa5; refine pure_ (i := 1) (N := some 13) (v := ?_) (a' := ?_) laws_heldFieldDefS.y2 rfl rfl (any_of HT_.out qa9) (fun _ _ _ h => h) (Or.inl ⟨by rfl, ?_⟩) ?_ ?_; rotate_left; exact qa7; rotate_left; exact qa5; refine pure_ (i := 2) (N := some 14) (v := ?_) (a' := ?_) laws_heldFieldDefS.y3 rfl rfl (any_of HT_.out qa9) (fun _ _ _ h => h) (Or.inl ⟨by rfl, ?_⟩) ?_ ?_; rotate_left; exact qa7; rotate_left; exact qa5; refine pure_ (i := 3) (N := some 15) (v := ?_) (a' := ?_) laws_heldFieldDefS.y4 rfl rfl (any_of HT_.out qa9) (fun _ _ _ h => h) (Or.inl ⟨by rfl, ?_⟩) ?_ ?_; rotate_left; exact qa7; rotate_left; exact qa5; refine pure_ (i := 5) (N := some 17) (v := ?_) (a' := ?_) laws_heldFieldDefS.y5 rfl rfl (any_of HT_.out qa9) (fun _ _ _ h => h) (Or.inl ⟨by rfl, ?_⟩) ?_ ?_; rotate_left; exact qa7; rotate_left; exact qa5; refine take_ (i := 4) (N := some 16) (v := ?_) (a' := ?_) laws_heldFieldDefS.y6 rfl rfl (take_ofW HT_.out HW_.out qa9) (fun _ _ _ h => h) (Or.inl ⟨by rfl, ?_⟩) hHeld ?_ ?_; rotate_left; exact qa42; rotate_left; exact qa5; refine one_ (i := 6) (N := some 18) laws_heldFieldDefS.y7 rfl rfl (one_of HT_.out qa9) qa66 (fun K hK => ?_); refine goes_ Try.func68 qa9 rfl #[.int .i64 x1_1] (by rfl) rfl rfl qa2 ?_; (with_reducible refine (laws_markText.calls k1 x1_1 t102 _ A5.out).mono ?_); rintro e w27 ⟨rfl, hb⟩; have hx_ := qHX HB hb qa0; refine ⟨_, rfl, ?_⟩; have n0_ := qO (below_step (below_step HB.out hx_) hb); clear HB; have HB := n0_; clear n0_; clear hx_; (try clear hb); (try clear hb2); (try clear hk); (try clear hi); refine hK.out _ _ ⟨((HB.out.cell (qL w _ hw101_0)).trans hw101_0), ((HB.out.cell (qL w _ hw101_1)).trans hw101_1), ((HB.out.cell (qL w _ hw101_2)).trans hw101_2), ((HB.out.cell (qL w _ hw101_3)).trans hw101_3), ((HB.out.cell (qL w _ hw101_4)).trans hw101_4)⟩ (fun hHeld => ?_); clear hK K; refine norm_ (a' := ?_) ?_ ?_; rotate_left
          ·exact qa14
          refine pure_ (i := 7) (N := some 19) (v := ?_) (a' := ?_) laws_heldFieldDefS.y8 rfl rfl (any_of HT_.out qa9) (fun _ _ _ h => h) (Or.inl ⟨by rfl, ?_⟩) ?_ ?_; rotate_left; exact qa7; rotate_left; exact qa5; refine done_ (done_of HT_.out qa9) ?_; have p103 : 0 ≤ (x5_1 : Int) := qT qa3; have q103 : x5_1 < (l0.length : Int) := qT qa3; obtain ⟨ad103, A103_1, c103_1, e103, hx103_0, hx103_1, hx103_2, hx103_3, hx103_4, hl103_1, hi103_1⟩ := at_T38 HR0.out x5_1 p103 q103; obtain rfl : ad101 = ad103 := qa67; (first | (obtain ⟨rfl, rfl⟩ : A103_1 = A101_1 ∧ c103_1 = c101_1 := qa33)); replace hx103_0 := (HB.out.cell (qL w _ hx103_0)).trans hx103_0; replace hx103_1 := (HB.out.cell (qL w _ hx103_1)).trans hx103_1; replace hx103_2 := (HB.out.cell (qL w _ hx103_2)).trans hx103_2; replace hx103_3 := (HB.out.cell (qL w _ hx103_3)).trans hx103_3; replace hx103_4 := (HB.out.cell (qL w _ hx103_4)).trans hx103_4; have HR103_1 := qO hi103_1; have HC103_1 := qO hl103_1; clear hi103_1 hl103_1; replace p103 := eq_true p103; replace q103 := eq_true q103
          try go_wp2_with (first | ((with_reducible refine gate_callee (f := 44) rfl ?_); refine goesL_ (some 28) rfl rfl Try.func44 qa9 rfl #[.slice A103_1 ((rd_T38 l0 x5_1).f1).length c103_1, .int .i64 (wrap64 (x1_1 + 1))] rfl qa2 ?_; (with_reducible refine (laws_heldArgDefS.calls k1 _ _ ((rd_T38 l0 x5_1).f1) (wrap64 (x1_1 + 1)) t104 _ ?side1 ?side2 A7.out).mono ?_); (case side1 => exact qa23); (case side2 => exact HC103_1.out); rintro e w28 ⟨rfl, hb⟩; have hx_ := qHX HB hb qa0; refine ⟨_, rfl, ?_⟩; have n0_ := qO (below_step (below_step HB.out hx_) hb); clear HB; have HB := n0_; clear n0_; clear hx_; (try clear hb); (try clear hb2); (try clear hk); (try clear hi)))
          have n0_ := qO (qbD HB.out); clear HB; have HB := n0_; clear n0_; have p105 : 0 ≤ (x5_1 : Int) := qT qa3; have q105 : x5_1 < (l0.length : Int) := qT qa3; obtain ⟨ad105, A105_1, c105_1, e105, hx105_0, hx105_1, hx105_2, hx105_3, hx105_4, hl105_1, hi105_1⟩ := at_T38 HR0.out x5_1 p105 q105; have hw105_4 := hx105_4; have hw105_3 := hx105_3; have hw105_2 := hx105_2; have hw105_1 := hx105_1; have hw105_0 := hx105_0; obtain rfl : ad101 = ad105 := (by injection e105); (first | (obtain ⟨rfl, rfl⟩ : A105_1 = A103_1 ∧ c105_1 = c103_1 := qa29) | (obtain ⟨rfl, rfl⟩ : A105_1 = A101_1 ∧ c105_1 = c101_1 := qa29)); replace hx105_0 := (HB.out.cell (qL w _ hx105_0)).trans hx105_0; replace hx105_1 := (HB.out.cell (qL w _ hx105_1)).trans hx105_1; replace hx105_2 := (HB.out.cell (qL w _ hx105_2)).trans hx105_2; replace hx105_3 := (HB.out.cell (qL w _ hx105_3)).trans hx105_3; replace hx105_4 := (HB.out.cell (qL w _ hx105_4)).trans hx105_4; have HR105_1 := qO hi105_1; have HC105_1 := qO hl105_1; clear hi105_1 hl105_1; replace p105 := eq_true p105; replace q105 := eq_true q105; refine start_ (n := 8) (S := fun w' => w'.cell? (ad101.add ((x5_1).toNat * 5)) = some (.string ((rd_T38 l0 x5_1).f0)) ∧ w'.cell? ⟨(ad101.add ((x5_1).toNat * 5)).block, (ad101.add ((x5_1).toNat * 5)).off + 1, none⟩ = some (.slice A105_1 ((rd_T38 l0 x5_1).f1).length c105_1) ∧ w'.cell? ⟨(ad101.add ((x5_1).toNat * 5)).block, (ad101.add ((x5_1).toNat * 5)).off + 2, none⟩ = some (.string ((rd_T38 l0 x5_1).f2)) ∧ w'.cell? ⟨(ad101.add ((x5_1).toNat * 5)).block, (ad101.add ((x5_1).toNat * 5)).off + 3, none⟩ = some (.bool ((rd_T38 l0 x5_1).f3)) ∧ w'.cell? ⟨(ad101.add ((x5_1).toNat * 5)).block, (ad101.add ((x5_1).toNat * 5)).off + 4, none⟩ = some (.bool ((rd_T38 l0 x5_1).f4))) (ds := []) laws_heldFieldDefS.y0 qa9 rfl rfl ⟨((HB.out.cell (qL w _ hw105_0)).trans hw105_0), ((HB.out.cell (qL w _ hw105_1)).trans hw105_1), ((HB.out.cell (qL w _ hw105_2)).trans hw105_2), ((HB.out.cell (qL w _ hw105_3)).trans hw105_3), ((HB.out.cell (qL w _ hw105_4)).trans hw105_4)⟩ (fun hHeld => ?_); refine with_tabW laws_heldFieldDefS.tab10 laws_heldFieldDefS.bits10 (fun HT_ HW_ => ?_); generalize w28.drew = w29 at HB HR105_1 hx105_0 hx105_1 hx105_2 hx105_3 hx105_4 hHeld ⊢; refine pure_ (i := 0) (N := some 31) (v := ?_) (a' := ?_) laws_heldFieldDefS.y1 rfl rfl (any_of HT_.out qa9) (fun _ _ _ h => h) (Or.inl ⟨by rfl, ?_⟩) ?_ ?_; rotate_left; exact qa7; rotate_left; exact qa5; refine pure_ (i := 1) (N := some 32) (v := ?_) (a' := ?_) laws_heldFieldDefS.y2 rfl rfl (any_of HT_.out qa9) (fun _ _ _ h => h) (Or.inl ⟨by rfl, ?_⟩) ?_ ?_; rotate_left; exact qa7; rotate_left; exact qa5; refine pure_ (i := 2) (N := some 33) (v := ?_) (a' := ?_) laws_heldFieldDefS.y3 rfl rfl (any_of HT_.out qa9) (fun _ _ _ h => h) (Or.inl ⟨by rfl, ?_⟩) ?_ ?_; rotate_left; exact qa7; rotate_left; exact qa5; refine pure_ (i := 3) (N := some 34) (v := ?_) (a' := ?_) laws_heldFieldDefS.y4 rfl rfl (any_of HT_.out qa9) (fun _ _ _ h => h) (Or.inl ⟨by rfl, ?_⟩) ?_ ?_; rotate_left; exact qa7; rotate_left; exact qa5; refine pure_ (i := 5) (N := some 36) (v := ?_) (a' := ?_) laws_heldFieldDefS.y5 rfl rfl (any_of HT_.out qa9) (fun _ _ _ h => h) (Or.inl ⟨by rfl, ?_⟩) ?_ ?_; rotate_left; exact qa7; rotate_left; exact qa5; refine take_ (i := 4) (N := some 35) (v := ?_) (a' := ?_) laws_heldFieldDefS.y6 rfl rfl (take_ofW HT_.out HW_.out qa9) (fun _ _ _ h => h) (Or.inl ⟨by rfl, ?_⟩) hHeld ?_ ?_; rotate_left; exact qa42; rotate_left; exact qa5; refine one_ (i := 6) (N := some 37) laws_heldFieldDefS.y7 rfl rfl (one_of HT_.out qa9) qa66 (fun K hK => ?_); refine goes_ Try.func68 qa9 rfl #[.int .i64 t104] (by rfl) rfl rfl qa2 ?_; (with_reducible refine (laws_markText.calls k1 t104 t106 _ A12.out).mono ?_); rintro e w30 ⟨rfl, hb⟩; have hx_ := qHX HB hb qa0; refine ⟨_, rfl, ?_⟩; have n0_ := qO (below_step (below_step HB.out hx_) hb); clear HB; have HB := n0_; clear n0_; clear hx_; (try clear hb); (try clear hb2); (try clear hk); (try clear hi); refine hK.out _ _ ⟨((HB.out.cell (qL w _ hw105_0)).trans hw105_0), ((HB.out.cell (qL w _ hw105_1)).trans hw105_1), ((HB.out.cell (qL w _ hw105_2)).trans hw105_2), ((HB.out.cell (qL w _ hw105_3)).trans hw105_3), ((HB.out.cell (qL w _ hw105_4)).trans hw105_4)⟩ (fun hHeld => ?_); clear hK K; refine norm_ (a' := ?_) ?_ ?_; rotate_left
          ·exact qa14
          refine pure_ (i := 7) (N := some 38) (v := ?_) (a' := ?_) laws_heldFieldDefS.y8 rfl rfl (any_of HT_.out qa9) (fun _ _ _ h => h) (Or.inl ⟨by rfl, ?_⟩) ?_ ?_; rotate_left; exact qa7; rotate_left; exact qa5; refine done_ (done_of HT_.out qa9) ?_; have p107 : 0 ≤ (x5_1 : Int) := qT qa3; have q107 : x5_1 < (l0.length : Int) := qT qa3; obtain ⟨ad107, A107_1, c107_1, e107, hx107_0, hx107_1, hx107_2, hx107_3, hx107_4, hl107_1, hi107_1⟩ := at_T38 HR0.out x5_1 p107 q107; obtain rfl : ad101 = ad107 := (by injection e107); (first | (obtain ⟨rfl, rfl⟩ : A107_1 = A105_1 ∧ c107_1 = c105_1 := qa26) | (obtain ⟨rfl, rfl⟩ : A107_1 = A103_1 ∧ c107_1 = c103_1 := qa26) | (obtain ⟨rfl, rfl⟩ : A107_1 = A101_1 ∧ c107_1 = c101_1 := qa26)); replace hx107_0 := (HB.out.cell (qL w _ hx107_0)).trans hx107_0; replace hx107_1 := (HB.out.cell (qL w _ hx107_1)).trans hx107_1; replace hx107_2 := (HB.out.cell (qL w _ hx107_2)).trans hx107_2; replace hx107_3 := (HB.out.cell (qL w _ hx107_3)).trans hx107_3; replace hx107_4 := (HB.out.cell (qL w _ hx107_4)).trans hx107_4; have HR107_1 := qO hi107_1; have HC107_1 := qO hl107_1; clear hi107_1 hl107_1; replace p107 := eq_true p107; replace q107 := eq_true q107; have p108 : 0 ≤ (x5_1 : Int) := qT qa3; have q108 : x5_1 < (l0.length : Int) := qT qa3; obtain ⟨ad108, A108_1, c108_1, e108, hx108_0, hx108_1, hx108_2, hx108_3, hx108_4, hl108_1, hi108_1⟩ := at_T38 HR0.out x5_1 p108 q108; obtain rfl : ad101 = ad108 := (by injection e108); (first | (obtain ⟨rfl, rfl⟩ : A108_1 = A107_1 ∧ c108_1 = c107_1 := qa30) | (obtain ⟨rfl, rfl⟩ : A108_1 = A105_1 ∧ c108_1 = c105_1 := qa30) | (obtain ⟨rfl, rfl⟩ : A108_1 = A103_1 ∧ c108_1 = c103_1 := qa30) | (obtain ⟨rfl, rfl⟩ : A108_1 = A101_1 ∧ c108_1 = c101_1 := qa30)); replace hx108_0 := (HB.out.cell (qL w _ hx108_0)).trans hx108_0; replace hx108_1 := (HB.out.cell (qL w _ hx108_1)).trans hx108_1; replace hx108_2 := (HB.out.cell (qL w _ hx108_2)).trans hx108_2; replace hx108_3 := (HB.out.cell (qL w _ hx108_3)).trans hx108_3; replace hx108_4 := (HB.out.cell (qL w _ hx108_4)).trans hx108_4; have HR108_1 := qO hi108_1; have HC108_1 := qO hl108_1; clear hi108_1 hl108_1; replace p108 := eq_true p108; replace q108 := eq_true q108; have ea_ := Option.some.inj (hx107_1.symm.trans hx108_1); injection ea_ with ea_ en_ ec_
          try subst ea_
          try subst ec_
          clear en_
          try go_wp2
          go_roundg k1
          case measure => have := HK1.out; omega
          case rel => exact ⟨(wrap64 ((wrap64 ((wrap64 (t104 + 1)) + 1)) + 1)), (wrap64 (x5_1 + 1)), qa8, qa8, H', ⟨qa55⟩, ⟨qa4⟩⟩
       ·rw [if_neg c13] at H
        have c13b0 : (((rd_T38 l0 x5_1).f2).toList == t106.toList) = false := beq_eq_false_iff_ne.mpr c13; have c13b1 : (((rd_T38 l0 x5_1).f2).toList != t106.toList) = true := bne_iff_ne.mpr c13; obtain rfl := Option.some.inj H
        try go_wp2
        have n0_ := qO (qbD HB.out); clear HB; have HB := n0_; clear n0_; have p101 : 0 ≤ (x5_1 : Int) := qT qa3; have q101 : x5_1 < (l0.length : Int) := qT qa3; obtain ⟨ad101, A101_1, c101_1, e101, hx101_0, hx101_1, hx101_2, hx101_3, hx101_4, hl101_1, hi101_1⟩ := at_T38 HR0.out x5_1 p101 q101; have hw101_4 := hx101_4; have hw101_3 := hx101_3; have hw101_2 := hx101_2; have hw101_1 := hx101_1; have hw101_0 := hx101_0
        cases e101
        replace hx101_0 := (HB.out.cell (qL w _ hx101_0)).trans hx101_0; replace hx101_1 := (HB.out.cell (qL w _ hx101_1)).trans hx101_1; replace hx101_2 := (HB.out.cell (qL w _ hx101_2)).trans hx101_2; replace hx101_3 := (HB.out.cell (qL w _ hx101_3)).trans hx101_3; replace hx101_4 := (HB.out.cell (qL w _ hx101_4)).trans hx101_4; have HR101_1 := qO hi101_1; have HC101_1 := qO hl101_1; clear hi101_1 hl101_1; replace p101 := eq_true p101; replace q101 := eq_true q101; refine start_ (n := 8) (S := fun w' => w'.cell? (ad101.add ((x5_1).toNat * 5)) = some (.string ((rd_T38 l0 x5_1).f0)) ∧ w'.cell? ⟨(ad101.add ((x5_1).toNat * 5)).block, (ad101.add ((x5_1).toNat * 5)).off + 1, none⟩ = some (.slice A101_1 ((rd_T38 l0 x5_1).f1).length c101_1) ∧ w'.cell? ⟨(ad101.add ((x5_1).toNat * 5)).block, (ad101.add ((x5_1).toNat * 5)).off + 2, none⟩ = some (.string ((rd_T38 l0 x5_1).f2)) ∧ w'.cell? ⟨(ad101.add ((x5_1).toNat * 5)).block, (ad101.add ((x5_1).toNat * 5)).off + 3, none⟩ = some (.bool ((rd_T38 l0 x5_1).f3)) ∧ w'.cell? ⟨(ad101.add ((x5_1).toNat * 5)).block, (ad101.add ((x5_1).toNat * 5)).off + 4, none⟩ = some (.bool ((rd_T38 l0 x5_1).f4))) (ds := []) laws_heldFieldDefS.y0 qa9 rfl rfl ⟨((HB.out.cell (qL w _ hw101_0)).trans hw101_0), ((HB.out.cell (qL w _ hw101_1)).trans hw101_1), ((HB.out.cell (qL w _ hw101_2)).trans hw101_2), ((HB.out.cell (qL w _ hw101_3)).trans hw101_3), ((HB.out.cell (qL w _ hw101_4)).trans hw101_4)⟩ (fun hHeld => ?_); refine with_tabW laws_heldFieldDefS.tab4 laws_heldFieldDefS.bits4 (fun HT_ HW_ => ?_); generalize wr.drew = w31 at HB HR101_1 hx101_0 hx101_1 hx101_2 hx101_3 hx101_4 hHeld ⊢; refine pure_ (i := 0) (N := some 12) (v := ?_) (a' := ?_) laws_heldFieldDefS.y1 rfl rfl (any_of HT_.out qa9) (fun _ _ _ h => h) (Or.inl ⟨by rfl, ?_⟩) ?_ ?_; rotate_left; exact qa7; rotate_left; exact qa5; refine pure_ (i := 1) (N := some 13) (v := ?_) (a' := ?_) laws_heldFieldDefS.y2 rfl rfl (any_of HT_.out qa9) (fun _ _ _ h => h) (Or.inl ⟨by rfl, ?_⟩) ?_ ?_; rotate_left; exact qa7; rotate_left; exact qa5; refine pure_ (i := 2) (N := some 14) (v := ?_) (a' := ?_) laws_heldFieldDefS.y3 rfl rfl (any_of HT_.out qa9) (fun _ _ _ h => h) (Or.inl ⟨by rfl, ?_⟩) ?_ ?_; rotate_left; exact qa7; rotate_left; exact qa5; refine pure_ (i := 3) (N := some 15) (v := ?_) (a' := ?_) laws_heldFieldDefS.y4 rfl rfl (any_of HT_.out qa9) (fun _ _ _ h => h) (Or.inl ⟨by rfl, ?_⟩) ?_ ?_; rotate_left; exact qa7; rotate_left; exact qa5; refine pure_ (i := 5) (N := some 17) (v := ?_) (a' := ?_) laws_heldFieldDefS.y5 rfl rfl (any_of HT_.out qa9) (fun _ _ _ h => h) (Or.inl ⟨by rfl, ?_⟩) ?_ ?_; rotate_left; exact qa7; rotate_left; exact qa5; refine take_ (i := 4) (N := some 16) (v := ?_) (a' := ?_) laws_heldFieldDefS.y6 rfl rfl (take_ofW HT_.out HW_.out qa9) (fun _ _ _ h => h) (Or.inl ⟨by rfl, ?_⟩) hHeld ?_ ?_; rotate_left; exact qa42; rotate_left; exact qa5; refine one_ (i := 6) (N := some 18) laws_heldFieldDefS.y7 rfl rfl (one_of HT_.out qa9) qa66 (fun K hK => ?_); refine goes_ Try.func68 qa9 rfl #[.int .i64 x1_1] (by rfl) rfl rfl qa2 ?_; (with_reducible refine (laws_markText.calls k1 x1_1 t102 _ A5.out).mono ?_); rintro e w32 ⟨rfl, hb⟩; have hx_ := qHX HB hb qa0; refine ⟨_, rfl, ?_⟩; have n0_ := qO (below_step (below_step HB.out hx_) hb); clear HB; have HB := n0_; clear n0_; clear hx_; (try clear hb); (try clear hb2); (try clear hk); (try clear hi); refine hK.out _ _ ⟨((HB.out.cell (qL w _ hw101_0)).trans hw101_0), ((HB.out.cell (qL w _ hw101_1)).trans hw101_1), ((HB.out.cell (qL w _ hw101_2)).trans hw101_2), ((HB.out.cell (qL w _ hw101_3)).trans hw101_3), ((HB.out.cell (qL w _ hw101_4)).trans hw101_4)⟩ (fun hHeld => ?_); clear hK K; refine norm_ (a' := ?_) ?_ ?_; rotate_left
        ·exact qa14
        refine pure_ (i := 7) (N := some 19) (v := ?_) (a' := ?_) laws_heldFieldDefS.y8 rfl rfl (any_of HT_.out qa9) (fun _ _ _ h => h) (Or.inl ⟨by rfl, ?_⟩) ?_ ?_; rotate_left; exact qa7; rotate_left; exact qa5; refine done_ (done_of HT_.out qa9) ?_; have p103 : 0 ≤ (x5_1 : Int) := qT qa3; have q103 : x5_1 < (l0.length : Int) := qT qa3; obtain ⟨ad103, A103_1, c103_1, e103, hx103_0, hx103_1, hx103_2, hx103_3, hx103_4, hl103_1, hi103_1⟩ := at_T38 HR0.out x5_1 p103 q103; obtain rfl : ad101 = ad103 := qa67; (first | (obtain ⟨rfl, rfl⟩ : A103_1 = A101_1 ∧ c103_1 = c101_1 := qa33)); replace hx103_0 := (HB.out.cell (qL w _ hx103_0)).trans hx103_0; replace hx103_1 := (HB.out.cell (qL w _ hx103_1)).trans hx103_1; replace hx103_2 := (HB.out.cell (qL w _ hx103_2)).trans hx103_2; replace hx103_3 := (HB.out.cell (qL w _ hx103_3)).trans hx103_3; replace hx103_4 := (HB.out.cell (qL w _ hx103_4)).trans hx103_4; have HR103_1 := qO hi103_1; have HC103_1 := qO hl103_1; clear hi103_1 hl103_1; replace p103 := eq_true p103; replace q103 := eq_true q103
        try go_wp2_with (first | ((with_reducible refine gate_callee (f := 44) rfl ?_); refine goesL_ (some 28) rfl rfl Try.func44 qa9 rfl #[.slice A103_1 ((rd_T38 l0 x5_1).f1).length c103_1, .int .i64 (wrap64 (x1_1 + 1))] rfl qa2 ?_; (with_reducible refine (laws_heldArgDefS.calls k1 _ _ ((rd_T38 l0 x5_1).f1) (wrap64 (x1_1 + 1)) t104 _ ?side1 ?side2 A7.out).mono ?_); (case side1 => exact qa23); (case side2 => exact HC103_1.out); rintro e w33 ⟨rfl, hb⟩; have hx_ := qHX HB hb qa0; refine ⟨_, rfl, ?_⟩; have n0_ := qO (below_step (below_step HB.out hx_) hb); clear HB; have HB := n0_; clear n0_; clear hx_; (try clear hb); (try clear hb2); (try clear hk); (try clear hi)))
        have n0_ := qO (qbD HB.out); clear HB; have HB := n0_; clear n0_; have p105 : 0 ≤ (x5_1 : Int) := qT qa3; have q105 : x5_1 < (l0.length : Int) := qT qa3; obtain ⟨ad105, A105_1, c105_1, e105, hx105_0, hx105_1, hx105_2, hx105_3, hx105_4, hl105_1, hi105_1⟩ := at_T38 HR0.out x5_1 p105 q105; have hw105_4 := hx105_4; have hw105_3 := hx105_3; have hw105_2 := hx105_2; have hw105_1 := hx105_1; have hw105_0 := hx105_0; obtain rfl : ad101 = ad105 := (by injection e105); (first | (obtain ⟨rfl, rfl⟩ : A105_1 = A103_1 ∧ c105_1 = c103_1 := qa29) | (obtain ⟨rfl, rfl⟩ : A105_1 = A101_1 ∧ c105_1 = c101_1 := qa29)); replace hx105_0 := (HB.out.cell (qL w _ hx105_0)).trans hx105_0; replace hx105_1 := (HB.out.cell (qL w _ hx105_1)).trans hx105_1; replace hx105_2 := (HB.out.cell (qL w _ hx105_2)).trans hx105_2; replace hx105_3 := (HB.out.cell (qL w _ hx105_3)).trans hx105_3; replace hx105_4 := (HB.out.cell (qL w _ hx105_4)).trans hx105_4; have HR105_1 := qO hi105_1; have HC105_1 := qO hl105_1; clear hi105_1 hl105_1; replace p105 := eq_true p105; replace q105 := eq_true q105; refine start_ (n := 8) (S := fun w' => w'.cell? (ad101.add ((x5_1).toNat * 5)) = some (.string ((rd_T38 l0 x5_1).f0)) ∧ w'.cell? ⟨(ad101.add ((x5_1).toNat * 5)).block, (ad101.add ((x5_1).toNat * 5)).off + 1, none⟩ = some (.slice A105_1 ((rd_T38 l0 x5_1).f1).length c105_1) ∧ w'.cell? ⟨(ad101.add ((x5_1).toNat * 5)).block, (ad101.add ((x5_1).toNat * 5)).off + 2, none⟩ = some (.string ((rd_T38 l0 x5_1).f2)) ∧ w'.cell? ⟨(ad101.add ((x5_1).toNat * 5)).block, (ad101.add ((x5_1).toNat * 5)).off + 3, none⟩ = some (.bool ((rd_T38 l0 x5_1).f3)) ∧ w'.cell? ⟨(ad101.add ((x5_1).toNat * 5)).block, (ad101.add ((x5_1).toNat * 5)).off + 4, none⟩ = some (.bool ((rd_T38 l0 x5_1).f4))) (ds := []) laws_heldFieldDefS.y0 qa9 rfl rfl ⟨((HB.out.cell (qL w _ hw105_0)).trans hw105_0), ((HB.out.cell (qL w _ hw105_1)).trans hw105_1), ((HB.out.cell (qL w _ hw105_2)).trans hw105_2), ((HB.out.cell (qL w _ hw105_3)).trans hw105_3), ((HB.out.cell (qL w _ hw105_4)).trans hw105_4)⟩ (fun hHeld => ?_); refine with_tabW laws_heldFieldDefS.tab10 laws_heldFieldDefS.bits10 (fun HT_ HW_ => ?_); generalize w33.drew = w34 at HB HR105_1 hx105_0 hx105_1 hx105_2 hx105_3 hx105_4 hHeld ⊢; refine pure_ (i := 0) (N := some 31) (v := ?_) (a' := ?_) laws_heldFieldDefS.y1 rfl rfl (any_of HT_.out qa9) (fun _ _ _ h => h) (Or.inl ⟨by rfl, ?_⟩) ?_ ?_; rotate_left; exact qa7; rotate_left; exact qa5; refine pure_ (i := 1) (N := some 32) (v := ?_) (a' := ?_) laws_heldFieldDefS.y2 rfl rfl (any_of HT_.out qa9) (fun _ _ _ h => h) (Or.inl ⟨by rfl, ?_⟩) ?_ ?_; rotate_left; exact qa7; rotate_left; exact qa5; refine pure_ (i := 2) (N := some 33) (v := ?_) (a' := ?_) laws_heldFieldDefS.y3 rfl rfl (any_of HT_.out qa9) (fun _ _ _ h => h) (Or.inl ⟨by rfl, ?_⟩) ?_ ?_; rotate_left; exact qa7; rotate_left; exact qa5; refine pure_ (i := 3) (N := some 34) (v := ?_) (a' := ?_) laws_heldFieldDefS.y4 rfl rfl (any_of HT_.out qa9) (fun _ _ _ h => h) (Or.inl ⟨by rfl, ?_⟩) ?_ ?_; rotate_left; exact qa7; rotate_left; exact qa5; refine pure_ (i := 5) (N := some 36) (v := ?_) (a' := ?_) laws_heldFieldDefS.y5 rfl rfl (any_of HT_.out qa9) (fun _ _ _ h => h) (Or.inl ⟨by rfl, ?_⟩) ?_ ?_; rotate_left; exact qa7; rotate_left; exact qa5; refine take_ (i := 4) (N := some 35) (v := ?_) (a' := ?_) laws_heldFieldDefS.y6 rfl rfl (take_ofW HT_.out HW_.out qa9) (fun _ _ _ h => h) (Or.inl ⟨by rfl, ?_⟩) hHeld ?_ ?_; rotate_left; exact qa42; rotate_left; exact qa5; refine one_ (i := 6) (N := some 37) laws_heldFieldDefS.y7 rfl rfl (one_of HT_.out qa9) qa66 (fun K hK => ?_); refine goes_ Try.func68 qa9 rfl #[.int .i64 t104] (by rfl) rfl rfl qa2 ?_; (with_reducible refine (laws_markText.calls k1 t104 t106 _ A12.out).mono ?_); rintro e w35 ⟨rfl, hb⟩; have hx_ := qHX HB hb qa0; refine ⟨_, rfl, ?_⟩; have n0_ := qO (below_step (below_step HB.out hx_) hb); clear HB; have HB := n0_; clear n0_; clear hx_; (try clear hb); (try clear hb2); (try clear hk); (try clear hi); refine hK.out _ _ ⟨((HB.out.cell (qL w _ hw105_0)).trans hw105_0), ((HB.out.cell (qL w _ hw105_1)).trans hw105_1), ((HB.out.cell (qL w _ hw105_2)).trans hw105_2), ((HB.out.cell (qL w _ hw105_3)).trans hw105_3), ((HB.out.cell (qL w _ hw105_4)).trans hw105_4)⟩ (fun hHeld => ?_); clear hK K; refine norm_ (a' := ?_) ?_ ?_; rotate_left
        ·exact qa14
        refine pure_ (i := 7) (N := some 38) (v := ?_) (a' := ?_) laws_heldFieldDefS.y8 rfl rfl (any_of HT_.out qa9) (fun _ _ _ h => h) (Or.inl ⟨by rfl, ?_⟩) ?_ ?_; rotate_left; exact qa7; rotate_left; exact qa5; refine done_ (done_of HT_.out qa9) ?_
        try go_wp2
        go_ret
        exact ⟨qa6, qa4⟩
     ·rw [if_neg c6] at H
      have c6b0 : (((rd_T38 l0 x5_1).f0).toList == t102.toList) = false := beq_eq_false_iff_ne.mpr c6; have c6b1 : (((rd_T38 l0 x5_1).f0).toList != t102.toList) = true := bne_iff_ne.mpr c6; obtain rfl := Option.some.inj H
      try go_wp2
      have n0_ := qO (qbD HB.out); clear HB; have HB := n0_; clear n0_; have p101 : 0 ≤ (x5_1 : Int) := qT qa3; have q101 : x5_1 < (l0.length : Int) := qT qa3; obtain ⟨ad101, A101_1, c101_1, e101, hx101_0, hx101_1, hx101_2, hx101_3, hx101_4, hl101_1, hi101_1⟩ := at_T38 HR0.out x5_1 p101 q101; have hw101_4 := hx101_4; have hw101_3 := hx101_3; have hw101_2 := hx101_2; have hw101_1 := hx101_1; have hw101_0 := hx101_0
      cases e101
      replace hx101_0 := (HB.out.cell (qL w _ hx101_0)).trans hx101_0; replace hx101_1 := (HB.out.cell (qL w _ hx101_1)).trans hx101_1; replace hx101_2 := (HB.out.cell (qL w _ hx101_2)).trans hx101_2; replace hx101_3 := (HB.out.cell (qL w _ hx101_3)).trans hx101_3; replace hx101_4 := (HB.out.cell (qL w _ hx101_4)).trans hx101_4; have HR101_1 := qO hi101_1; have HC101_1 := qO hl101_1; clear hi101_1 hl101_1; replace p101 := eq_true p101; replace q101 := eq_true q101; refine start_ (n := 8) (S := fun w' => w'.cell? (ad101.add ((x5_1).toNat * 5)) = some (.string ((rd_T38 l0 x5_1).f0)) ∧ w'.cell? ⟨(ad101.add ((x5_1).toNat * 5)).block, (ad101.add ((x5_1).toNat * 5)).off + 1, none⟩ = some (.slice A101_1 ((rd_T38 l0 x5_1).f1).length c101_1) ∧ w'.cell? ⟨(ad101.add ((x5_1).toNat * 5)).block, (ad101.add ((x5_1).toNat * 5)).off + 2, none⟩ = some (.string ((rd_T38 l0 x5_1).f2)) ∧ w'.cell? ⟨(ad101.add ((x5_1).toNat * 5)).block, (ad101.add ((x5_1).toNat * 5)).off + 3, none⟩ = some (.bool ((rd_T38 l0 x5_1).f3)) ∧ w'.cell? ⟨(ad101.add ((x5_1).toNat * 5)).block, (ad101.add ((x5_1).toNat * 5)).off + 4, none⟩ = some (.bool ((rd_T38 l0 x5_1).f4))) (ds := []) laws_heldFieldDefS.y0 qa9 rfl rfl ⟨((HB.out.cell (qL w _ hw101_0)).trans hw101_0), ((HB.out.cell (qL w _ hw101_1)).trans hw101_1), ((HB.out.cell (qL w _ hw101_2)).trans hw101_2), ((HB.out.cell (qL w _ hw101_3)).trans hw101_3), ((HB.out.cell (qL w _ hw101_4)).trans hw101_4)⟩ (fun hHeld => ?_); refine with_tabW laws_heldFieldDefS.tab4 laws_heldFieldDefS.bits4 (fun HT_ HW_ => ?_); generalize wr.drew = w36 at HB HR101_1 hx101_0 hx101_1 hx101_2 hx101_3 hx101_4 hHeld ⊢; refine pure_ (i := 0) (N := some 12) (v := ?_) (a' := ?_) laws_heldFieldDefS.y1 rfl rfl (any_of HT_.out qa9) (fun _ _ _ h => h) (Or.inl ⟨by rfl, ?_⟩) ?_ ?_; rotate_left; exact qa7; rotate_left; exact qa5; refine pure_ (i := 1) (N := some 13) (v := ?_) (a' := ?_) laws_heldFieldDefS.y2 rfl rfl (any_of HT_.out qa9) (fun _ _ _ h => h) (Or.inl ⟨by rfl, ?_⟩) ?_ ?_; rotate_left; exact qa7; rotate_left; exact qa5; refine pure_ (i := 2) (N := some 14) (v := ?_) (a' := ?_) laws_heldFieldDefS.y3 rfl rfl (any_of HT_.out qa9) (fun _ _ _ h => h) (Or.inl ⟨by rfl, ?_⟩) ?_ ?_; rotate_left; exact qa7; rotate_left; exact qa5; refine pure_ (i := 3) (N := some 15) (v := ?_) (a' := ?_) laws_heldFieldDefS.y4 rfl rfl (any_of HT_.out qa9) (fun _ _ _ h => h) (Or.inl ⟨by rfl, ?_⟩) ?_ ?_; rotate_left; exact qa7; rotate_left; exact qa5; refine pure_ (i := 5) (N := some 17) (v := ?_) (a' := ?_) laws_heldFieldDefS.y5 rfl rfl (any_of HT_.out qa9) (fun _ _ _ h => h) (Or.inl ⟨by rfl, ?_⟩) ?_ ?_; rotate_left; exact qa7; rotate_left; exact qa5; refine take_ (i := 4) (N := some 16) (v := ?_) (a' := ?_) laws_heldFieldDefS.y6 rfl rfl (take_ofW HT_.out HW_.out qa9) (fun _ _ _ h => h) (Or.inl ⟨by rfl, ?_⟩) hHeld ?_ ?_; rotate_left; exact qa42; rotate_left; exact qa5; refine one_ (i := 6) (N := some 18) laws_heldFieldDefS.y7 rfl rfl (one_of HT_.out qa9) qa66 (fun K hK => ?_); refine goes_ Try.func68 qa9 rfl #[.int .i64 x1_1] (by rfl) rfl rfl qa2 ?_; (with_reducible refine (laws_markText.calls k1 x1_1 t102 _ A5.out).mono ?_); rintro e w37 ⟨rfl, hb⟩; have hx_ := qHX HB hb qa0; refine ⟨_, rfl, ?_⟩; have n0_ := qO (below_step (below_step HB.out hx_) hb); clear HB; have HB := n0_; clear n0_; clear hx_; (try clear hb); (try clear hb2); (try clear hk); (try clear hi); refine hK.out _ _ ⟨((HB.out.cell (qL w _ hw101_0)).trans hw101_0), ((HB.out.cell (qL w _ hw101_1)).trans hw101_1), ((HB.out.cell (qL w _ hw101_2)).trans hw101_2), ((HB.out.cell (qL w _ hw101_3)).trans hw101_3), ((HB.out.cell (qL w _ hw101_4)).trans hw101_4)⟩ (fun hHeld => ?_); clear hK K; refine norm_ (a' := ?_) ?_ ?_; rotate_left
      ·exact qa14
      refine pure_ (i := 7) (N := some 19) (v := ?_) (a' := ?_) laws_heldFieldDefS.y8 rfl rfl (any_of HT_.out qa9) (fun _ _ _ h => h) (Or.inl ⟨by rfl, ?_⟩) ?_ ?_; rotate_left; exact qa7; rotate_left; exact qa5; refine done_ (done_of HT_.out qa9) ?_
      try go_wp2
      go_ret
      exact ⟨qa6, qa4⟩
    ·rw [if_neg c4] at H
     exact absurd H qa61
   ·rw [if_neg c3] at H
    have c3b0 : decide (x5_1 < (l0.length : Int)) = false := decide_eq_false c3; clear c3; obtain rfl := Option.some.inj H; go_wp2
    go_ret
    exact ⟨qa6, qa4⟩


def laws_heldTypeDefS.l0 : Nat → List (S53) → Int → Int → Option (Int)
 | 0, _, _, _ => none
 | k + 1, x0, x1, x5 => if x5 < (x0.length : Int) then (if 0 ≤ x5 then ((laws_markText.f k x1).bind fun t102 => (if ((rd_T53 x0 x5).f0).toList = t102.toList then ((laws_heldFieldDefS.f k ((rd_T53 x0 x5).f1) (wrap64 (x1 + 1))).bind fun t104 => (if t104 < 0 then (some (-1)) else (laws_heldTypeDefS.l0 k x0 t104 (wrap64 (x5 + 1))))) else (some (-1)))) else (none)) else (some x1)
def laws_heldTypeDefS.f (k : Nat) (l0 : List (S53)) (a1 : Int) : Option (Int) := laws_heldTypeDefS.l0 k l0 a1 0
def laws_heldTypeDefS.T4 : Bool × List (List Nat × List Nat) := (true, [([], []), ([], []), ([0, 1], [0, 1]), ([2], [2]), ([3], [3]), ([], []), ([5], [5]), ([4, 6], [4, 6])])
def laws_heldTypeDefS.B4 : List Nat := [0, 0, 3, 7, 15, 0, 32, 127]
theorem laws_heldTypeDefS.tab4 : rtab .any (opsOf Try.f53 4) = laws_heldTypeDefS.T4 := by kernel_rfl
theorem laws_heldTypeDefS.bits4 : waitsOk laws_heldTypeDefS.T4.2 laws_heldTypeDefS.B4 = true := by kernel_rfl
def laws_heldTypeDefS.y0 : Array Bool := #[false, false, false, false, false, false, false, false]
def laws_heldTypeDefS.y1 : Array Bool := #[true, false, false, false, false, false, false, false]
def laws_heldTypeDefS.y2 : Array Bool := #[true, true, false, false, false, false, false, false]
def laws_heldTypeDefS.y3 : Array Bool := #[true, true, true, false, false, false, false, false]
def laws_heldTypeDefS.y4 : Array Bool := #[true, true, true, true, false, false, false, false]
def laws_heldTypeDefS.y5 : Array Bool := #[true, true, true, true, false, true, false, false]
def laws_heldTypeDefS.y6 : Array Bool := #[true, true, true, true, true, true, false, false]
def laws_heldTypeDefS.y7 : Array Bool := #[true, true, true, true, true, true, true, false]
def laws_heldTypeDefS.y8 : Array Bool := #[true, true, true, true, true, true, true, true]
set_option maxHeartbeats 8000000 in
set_option maxRecDepth 100000 in
theorem laws_heldTypeDefS.calls (k : Nat) (A0 : Option Addr) (c0 : Nat) (l0 : List (S53)) (a1 : Int) (r : Int) (w : World) (hr0 : Kd.C k53 w A0 l0.length l0) (hc0 : l0.length ≤ c0) (h : laws_heldTypeDefS.f k l0 a1 = some r) :
  Calls Try.prog 53 #[.slice A0 l0.length c0, .int .i64 a1] w fun e w' => e = .returned (.int .i64 r) ∧ Below w.heap.size w w' := by
 have HR0 := qO hr0; have HC0 := qO hc0; clear hr0 hc0; have HB := qO (Below.refl w.heap.size w); have H : (laws_heldTypeDefS.l0 k l0 a1 0) = some r := h; clear h; have H' := qO H; clear H
 go_enter Try.func53, Try.ntmps53
 go_wp2
 go_loopg [1, 5] k (fun kq v1 v5 w' => ∃ (x1_1 : Int) (x5_1 : Int), v1 = .int .i64 x1_1 ∧ v5 = .int .i64 x5_1 ∧ Aside0 (laws_heldTypeDefS.l0 kq l0 x1_1 x5_1 = some r) ∧ Aside0 (kq ≤ k) ∧ Aside0 (Below w.heap.size w w'))
 case atStart => exact ⟨(a1), (0), qa8, qa8, H', ⟨Nat.le_refl _⟩, ⟨qa4⟩⟩
 case round =>
  clear H'
  try clear p2
  obtain ⟨x1_1, x5_1, rfl, rfl, HA, HK1, HB⟩ := hrel
  cases gk with
  | zero => exact absurd HA.out (by simp [laws_heldTypeDefS.l0])
  | succ k1 =>
   have H := HA.out; clear HA; simp only [laws_heldTypeDefS.l0] at H
   by_cases c3 : x5_1 < (l0.length : Int)
   ·rw [if_pos c3] at H
    have c3b0 : decide (x5_1 < (l0.length : Int)) = true := decide_eq_true c3; clear c3
    by_cases c4 : 0 ≤ x5_1
    ·rw [if_pos c4] at H
     have c4b0 : decide (0 ≤ x5_1) = true := decide_eq_true c4; clear c4; replace H := Option.bind_eq_some_iff.mp H; obtain ⟨t102, A50, H⟩ := H; replace H : (if ((rd_T53 l0 x5_1).f0).toList = t102.toList then ((laws_heldFieldDefS.f k1 ((rd_T53 l0 x5_1).f1) (wrap64 (x1_1 + 1))).bind fun t104 => (if t104 < 0 then (some (-1)) else (laws_heldTypeDefS.l0 k1 l0 t104 (wrap64 (x5_1 + 1))))) else (some (-1))) = some r := H; have A5 := qO A50; clear A50
     by_cases c6 : ((rd_T53 l0 x5_1).f0).toList = t102.toList
     ·rw [if_pos c6] at H
      have c6b0 : (((rd_T53 l0 x5_1).f0).toList == t102.toList) = true := beq_iff_eq.mpr c6; have c6b1 : (((rd_T53 l0 x5_1).f0).toList != t102.toList) = false := bne_eq_false_iff_eq.mpr c6; clear c6; replace H := Option.bind_eq_some_iff.mp H; obtain ⟨t104, A70, H⟩ := H; replace H : (if t104 < 0 then (some (-1)) else (laws_heldTypeDefS.l0 k1 l0 t104 (wrap64 (x5_1 + 1)))) = some r := H; have A7 := qO A70; clear A70
      by_cases c8 : t104 < 0
      ·rw [if_pos c8] at H
       have c8b0 : decide (t104 < 0) = true := decide_eq_true c8; clear c8; obtain rfl := Option.some.inj H
       try go_wp2
       have n0_ := qO (qbD HB.out); clear HB; have HB := n0_; clear n0_; have p101 : 0 ≤ (x5_1 : Int) := qT qa3; have q101 : x5_1 < (l0.length : Int) := qT qa3; obtain ⟨ad101, A101_1, c101_1, e101, hx101_0, hx101_1, hl101_1, hi101_1⟩ := at_T53 HR0.out x5_1 p101 q101; have hw101_1 := hx101_1; have hw101_0 := hx101_0
       cases e101
       replace hx101_0 := (HB.out.cell (qL w _ hx101_0)).trans hx101_0; replace hx101_1 := (HB.out.cell (qL w _ hx101_1)).trans hx101_1; have HR101_1 := qO hi101_1; have HC101_1 := qO hl101_1; clear hi101_1 hl101_1; replace p101 := eq_true p101; replace q101 := eq_true q101; refine start_ (n := 8) (S := fun w' => w'.cell? (ad101.add ((x5_1).toNat * 2)) = some (.string ((rd_T53 l0 x5_1).f0)) ∧ w'.cell? ⟨(ad101.add ((x5_1).toNat * 2)).block, (ad101.add ((x5_1).toNat * 2)).off + 1, none⟩ = some (.slice A101_1 ((rd_T53 l0 x5_1).f1).length c101_1)) (ds := []) laws_heldTypeDefS.y0 qa9 rfl rfl ⟨((HB.out.cell (qL w _ hw101_0)).trans hw101_0), ((HB.out.cell (qL w _ hw101_1)).trans hw101_1)⟩ (fun hHeld => ?_); refine with_tabW laws_heldTypeDefS.tab4 laws_heldTypeDefS.bits4 (fun HT_ HW_ => ?_); generalize wr.drew = w9 at HB HR101_1 hx101_0 hx101_1 hHeld ⊢; refine pure_ (i := 0) (N := some 12) (v := ?_) (a' := ?_) laws_heldTypeDefS.y1 rfl rfl (any_of HT_.out qa9) (fun _ _ _ h => h) (Or.inl ⟨by rfl, ?_⟩) ?_ ?_; rotate_left; exact qa7; rotate_left; exact qa5; refine pure_ (i := 1) (N := some 13) (v := ?_) (a' := ?_) laws_heldTypeDefS.y2 rfl rfl (any_of HT_.out qa9) (fun _ _ _ h => h) (Or.inl ⟨by rfl, ?_⟩) ?_ ?_; rotate_left; exact qa7; rotate_left; exact qa5; refine pure_ (i := 2) (N := some 14) (v := ?_) (a' := ?_) laws_heldTypeDefS.y3 rfl rfl (any_of HT_.out qa9) (fun _ _ _ h => h) (Or.inl ⟨by rfl, ?_⟩) ?_ ?_; rotate_left; exact qa7; rotate_left; exact qa5; refine pure_ (i := 3) (N := some 15) (v := ?_) (a' := ?_) laws_heldTypeDefS.y4 rfl rfl (any_of HT_.out qa9) (fun _ _ _ h => h) (Or.inl ⟨by rfl, ?_⟩) ?_ ?_; rotate_left; exact qa7; rotate_left; exact qa5; refine pure_ (i := 5) (N := some 17) (v := ?_) (a' := ?_) laws_heldTypeDefS.y5 rfl rfl (any_of HT_.out qa9) (fun _ _ _ h => h) (Or.inl ⟨by rfl, ?_⟩) ?_ ?_; rotate_left; exact qa7; rotate_left; exact qa5; refine take_ (i := 4) (N := some 16) (v := ?_) (a' := ?_) laws_heldTypeDefS.y6 rfl rfl (take_ofW HT_.out HW_.out qa9) (fun _ _ _ h => h) (Or.inl ⟨by rfl, ?_⟩) hHeld ?_ ?_; rotate_left; exact qa60; rotate_left; exact qa5; refine one_ (i := 6) (N := some 18) laws_heldTypeDefS.y7 rfl rfl (one_of HT_.out qa9) qa66 (fun K hK => ?_); refine goes_ Try.func68 qa9 rfl #[.int .i64 x1_1] (by rfl) rfl rfl qa2 ?_; (with_reducible refine (laws_markText.calls k1 x1_1 t102 _ A5.out).mono ?_); rintro e w10 ⟨rfl, hb⟩; have hx_ := qHX HB hb qa0; refine ⟨_, rfl, ?_⟩; have n0_ := qO (below_step (below_step HB.out hx_) hb); clear HB; have HB := n0_; clear n0_; clear hx_; (try clear hb); (try clear hb2); (try clear hk); (try clear hi); refine hK.out _ _ ⟨((HB.out.cell (qL w _ hw101_0)).trans hw101_0), ((HB.out.cell (qL w _ hw101_1)).trans hw101_1)⟩ (fun hHeld => ?_); clear hK K; refine norm_ (a' := ?_) ?_ ?_; rotate_left
       ·exact qa14
       refine pure_ (i := 7) (N := some 19) (v := ?_) (a' := ?_) laws_heldTypeDefS.y8 rfl rfl (any_of HT_.out qa9) (fun _ _ _ h => h) (Or.inl ⟨by rfl, ?_⟩) ?_ ?_; rotate_left; exact qa7; rotate_left; exact qa5; refine done_ (done_of HT_.out qa9) ?_; have p103 : 0 ≤ (x5_1 : Int) := qT qa3; have q103 : x5_1 < (l0.length : Int) := qT qa3; obtain ⟨ad103, A103_1, c103_1, e103, hx103_0, hx103_1, hl103_1, hi103_1⟩ := at_T53 HR0.out x5_1 p103 q103; obtain rfl : ad101 = ad103 := qa67; (first | (obtain ⟨rfl, rfl⟩ : A103_1 = A101_1 ∧ c103_1 = c101_1 := qa33)); replace hx103_0 := (HB.out.cell (qL w _ hx103_0)).trans hx103_0; replace hx103_1 := (HB.out.cell (qL w _ hx103_1)).trans hx103_1; have HR103_1 := qO hi103_1; have HC103_1 := qO hl103_1; clear hi103_1 hl103_1; replace p103 := eq_true p103; replace q103 := eq_true q103
       try go_wp2_with (first | ((with_reducible refine gate_callee (f := 73) rfl ?_); refine goesL_ (some 28) rfl rfl Try.func73 qa9 rfl #[.slice A103_1 ((rd_T53 l0 x5_1).f1).length c103_1, .int .i64 (wrap64 (x1_1 + 1))] rfl qa2 ?_; (with_reducible refine (laws_heldFieldDefS.calls k1 _ _ ((rd_T53 l0 x5_1).f1) (wrap64 (x1_1 + 1)) t104 _ ?side1 ?side2 A7.out).mono ?_); (case side1 => exact qa23); (case side2 => exact HC103_1.out); rintro e w11 ⟨rfl, hb⟩; have hx_ := qHX HB hb qa0; refine ⟨_, rfl, ?_⟩; have n0_ := qO (below_step (below_step HB.out hx_) hb); clear HB; have HB := n0_; clear n0_; clear hx_; (try clear hb); (try clear hb2); (try clear hk); (try clear hi)))
       go_ret
       exact ⟨qa6, qa4⟩
      ·rw [if_neg c8] at H
       have c8b0 : decide (t104 < 0) = false := decide_eq_false c8; clear c8; have H' := qO H; clear H
       try go_wp2
       have n0_ := qO (qbD HB.out); clear HB; have HB := n0_; clear n0_; have p101 : 0 ≤ (x5_1 : Int) := qT qa3; have q101 : x5_1 < (l0.length : Int) := qT qa3; obtain ⟨ad101, A101_1, c101_1, e101, hx101_0, hx101_1, hl101_1, hi101_1⟩ := at_T53 HR0.out x5_1 p101 q101; have hw101_1 := hx101_1; have hw101_0 := hx101_0
       cases e101
       replace hx101_0 := (HB.out.cell (qL w _ hx101_0)).trans hx101_0; replace hx101_1 := (HB.out.cell (qL w _ hx101_1)).trans hx101_1; have HR101_1 := qO hi101_1; have HC101_1 := qO hl101_1; clear hi101_1 hl101_1; replace p101 := eq_true p101; replace q101 := eq_true q101; refine start_ (n := 8) (S := fun w' => w'.cell? (ad101.add ((x5_1).toNat * 2)) = some (.string ((rd_T53 l0 x5_1).f0)) ∧ w'.cell? ⟨(ad101.add ((x5_1).toNat * 2)).block, (ad101.add ((x5_1).toNat * 2)).off + 1, none⟩ = some (.slice A101_1 ((rd_T53 l0 x5_1).f1).length c101_1)) (ds := []) laws_heldTypeDefS.y0 qa9 rfl rfl ⟨((HB.out.cell (qL w _ hw101_0)).trans hw101_0), ((HB.out.cell (qL w _ hw101_1)).trans hw101_1)⟩ (fun hHeld => ?_); refine with_tabW laws_heldTypeDefS.tab4 laws_heldTypeDefS.bits4 (fun HT_ HW_ => ?_); generalize wr.drew = w12 at HB HR101_1 hx101_0 hx101_1 hHeld ⊢; refine pure_ (i := 0) (N := some 12) (v := ?_) (a' := ?_) laws_heldTypeDefS.y1 rfl rfl (any_of HT_.out qa9) (fun _ _ _ h => h) (Or.inl ⟨by rfl, ?_⟩) ?_ ?_; rotate_left; exact qa7; rotate_left; exact qa5; refine pure_ (i := 1) (N := some 13) (v := ?_) (a' := ?_) laws_heldTypeDefS.y2 rfl rfl (any_of HT_.out qa9) (fun _ _ _ h => h) (Or.inl ⟨by rfl, ?_⟩) ?_ ?_; rotate_left; exact qa7; rotate_left; exact qa5; refine pure_ (i := 2) (N := some 14) (v := ?_) (a' := ?_) laws_heldTypeDefS.y3 rfl rfl (any_of HT_.out qa9) (fun _ _ _ h => h) (Or.inl ⟨by rfl, ?_⟩) ?_ ?_; rotate_left; exact qa7; rotate_left; exact qa5; refine pure_ (i := 3) (N := some 15) (v := ?_) (a' := ?_) laws_heldTypeDefS.y4 rfl rfl (any_of HT_.out qa9) (fun _ _ _ h => h) (Or.inl ⟨by rfl, ?_⟩) ?_ ?_; rotate_left; exact qa7; rotate_left; exact qa5; refine pure_ (i := 5) (N := some 17) (v := ?_) (a' := ?_) laws_heldTypeDefS.y5 rfl rfl (any_of HT_.out qa9) (fun _ _ _ h => h) (Or.inl ⟨by rfl, ?_⟩) ?_ ?_; rotate_left; exact qa7; rotate_left; exact qa5; refine take_ (i := 4) (N := some 16) (v := ?_) (a' := ?_) laws_heldTypeDefS.y6 rfl rfl (take_ofW HT_.out HW_.out qa9) (fun _ _ _ h => h) (Or.inl ⟨by rfl, ?_⟩) hHeld ?_ ?_; rotate_left; exact qa60; rotate_left; exact qa5; refine one_ (i := 6) (N := some 18) laws_heldTypeDefS.y7 rfl rfl (one_of HT_.out qa9) qa66 (fun K hK => ?_); refine goes_ Try.func68 qa9 rfl #[.int .i64 x1_1] (by rfl) rfl rfl qa2 ?_; (with_reducible refine (laws_markText.calls k1 x1_1 t102 _ A5.out).mono ?_); rintro e w13 ⟨rfl, hb⟩; have hx_ := qHX HB hb qa0; refine ⟨_, rfl, ?_⟩; have n0_ := qO (below_step (below_step HB.out hx_) hb); clear HB; have HB := n0_; clear n0_; clear hx_; (try clear hb); (try clear hb2); (try clear hk); (try clear hi); refine hK.out _ _ ⟨((HB.out.cell (qL w _ hw101_0)).trans hw101_0), ((HB.out.cell (qL w _ hw101_1)).trans hw101_1)⟩ (fun hHeld => ?_); clear hK K; refine norm_ (a' := ?_) ?_ ?_; rotate_left
       ·exact qa14
       refine pure_ (i := 7) (N := some 19) (v := ?_) (a' := ?_) laws_heldTypeDefS.y8 rfl rfl (any_of HT_.out qa9) (fun _ _ _ h => h) (Or.inl ⟨by rfl, ?_⟩) ?_ ?_; rotate_left; exact qa7; rotate_left; exact qa5; refine done_ (done_of HT_.out qa9) ?_; have p103 : 0 ≤ (x5_1 : Int) := qT qa3; have q103 : x5_1 < (l0.length : Int) := qT qa3; obtain ⟨ad103, A103_1, c103_1, e103, hx103_0, hx103_1, hl103_1, hi103_1⟩ := at_T53 HR0.out x5_1 p103 q103; obtain rfl : ad101 = ad103 := qa67; (first | (obtain ⟨rfl, rfl⟩ : A103_1 = A101_1 ∧ c103_1 = c101_1 := qa33)); replace hx103_0 := (HB.out.cell (qL w _ hx103_0)).trans hx103_0; replace hx103_1 := (HB.out.cell (qL w _ hx103_1)).trans hx103_1; have HR103_1 := qO hi103_1; have HC103_1 := qO hl103_1; clear hi103_1 hl103_1; replace p103 := eq_true p103; replace q103 := eq_true q103
       try go_wp2_with (first | ((with_reducible refine gate_callee (f := 73) rfl ?_); refine goesL_ (some 28) rfl rfl Try.func73 qa9 rfl #[.slice A103_1 ((rd_T53 l0 x5_1).f1).length c103_1, .int .i64 (wrap64 (x1_1 + 1))] rfl qa2 ?_; (with_reducible refine (laws_heldFieldDefS.calls k1 _ _ ((rd_T53 l0 x5_1).f1) (wrap64 (x1_1 + 1)) t104 _ ?side1 ?side2 A7.out).mono ?_); (case side1 => exact qa23); (case side2 => exact HC103_1.out); rintro e w14 ⟨rfl, hb⟩; have hx_ := qHX HB hb qa0; refine ⟨_, rfl, ?_⟩; have n0_ := qO (below_step (below_step HB.out hx_) hb); clear HB; have HB := n0_; clear n0_; clear hx_; (try clear hb); (try clear hb2); (try clear hk); (try clear hi)))
       go_roundg k1
       case measure => have := HK1.out; omega
       case rel => exact ⟨(t104), (wrap64 (x5_1 + 1)), qa8, qa8, H', ⟨qa55⟩, ⟨qa4⟩⟩
     ·rw [if_neg c6] at H
      have c6b0 : (((rd_T53 l0 x5_1).f0).toList == t102.toList) = false := beq_eq_false_iff_ne.mpr c6; have c6b1 : (((rd_T53 l0 x5_1).f0).toList != t102.toList) = true := bne_iff_ne.mpr c6; obtain rfl := Option.some.inj H
      try go_wp2
      have n0_ := qO (qbD HB.out); clear HB; have HB := n0_; clear n0_; have p101 : 0 ≤ (x5_1 : Int) := qT qa3; have q101 : x5_1 < (l0.length : Int) := qT qa3; obtain ⟨ad101, A101_1, c101_1, e101, hx101_0, hx101_1, hl101_1, hi101_1⟩ := at_T53 HR0.out x5_1 p101 q101; have hw101_1 := hx101_1; have hw101_0 := hx101_0
      cases e101
      replace hx101_0 := (HB.out.cell (qL w _ hx101_0)).trans hx101_0; replace hx101_1 := (HB.out.cell (qL w _ hx101_1)).trans hx101_1; have HR101_1 := qO hi101_1; have HC101_1 := qO hl101_1; clear hi101_1 hl101_1; replace p101 := eq_true p101; replace q101 := eq_true q101; refine start_ (n := 8) (S := fun w' => w'.cell? (ad101.add ((x5_1).toNat * 2)) = some (.string ((rd_T53 l0 x5_1).f0)) ∧ w'.cell? ⟨(ad101.add ((x5_1).toNat * 2)).block, (ad101.add ((x5_1).toNat * 2)).off + 1, none⟩ = some (.slice A101_1 ((rd_T53 l0 x5_1).f1).length c101_1)) (ds := []) laws_heldTypeDefS.y0 qa9 rfl rfl ⟨((HB.out.cell (qL w _ hw101_0)).trans hw101_0), ((HB.out.cell (qL w _ hw101_1)).trans hw101_1)⟩ (fun hHeld => ?_); refine with_tabW laws_heldTypeDefS.tab4 laws_heldTypeDefS.bits4 (fun HT_ HW_ => ?_); generalize wr.drew = w15 at HB HR101_1 hx101_0 hx101_1 hHeld ⊢; refine pure_ (i := 0) (N := some 12) (v := ?_) (a' := ?_) laws_heldTypeDefS.y1 rfl rfl (any_of HT_.out qa9) (fun _ _ _ h => h) (Or.inl ⟨by rfl, ?_⟩) ?_ ?_; rotate_left; exact qa7; rotate_left; exact qa5; refine pure_ (i := 1) (N := some 13) (v := ?_) (a' := ?_) laws_heldTypeDefS.y2 rfl rfl (any_of HT_.out qa9) (fun _ _ _ h => h) (Or.inl ⟨by rfl, ?_⟩) ?_ ?_; rotate_left; exact qa7; rotate_left; exact qa5; refine pure_ (i := 2) (N := some 14) (v := ?_) (a' := ?_) laws_heldTypeDefS.y3 rfl rfl (any_of HT_.out qa9) (fun _ _ _ h => h) (Or.inl ⟨by rfl, ?_⟩) ?_ ?_; rotate_left; exact qa7; rotate_left; exact qa5; refine pure_ (i := 3) (N := some 15) (v := ?_) (a' := ?_) laws_heldTypeDefS.y4 rfl rfl (any_of HT_.out qa9) (fun _ _ _ h => h) (Or.inl ⟨by rfl, ?_⟩) ?_ ?_; rotate_left; exact qa7; rotate_left; exact qa5; refine pure_ (i := 5) (N := some 17) (v := ?_) (a' := ?_) laws_heldTypeDefS.y5 rfl rfl (any_of HT_.out qa9) (fun _ _ _ h => h) (Or.inl ⟨by rfl, ?_⟩) ?_ ?_; rotate_left; exact qa7; rotate_left; exact qa5; refine take_ (i := 4) (N := some 16) (v := ?_) (a' := ?_) laws_heldTypeDefS.y6 rfl rfl (take_ofW HT_.out HW_.out qa9) (fun _ _ _ h => h) (Or.inl ⟨by rfl, ?_⟩) hHeld ?_ ?_; rotate_left; exact qa60; rotate_left; exact qa5; refine one_ (i := 6) (N := some 18) laws_heldTypeDefS.y7 rfl rfl (one_of HT_.out qa9) qa66 (fun K hK => ?_); refine goes_ Try.func68 qa9 rfl #[.int .i64 x1_1] (by rfl) rfl rfl qa2 ?_; (with_reducible refine (laws_markText.calls k1 x1_1 t102 _ A5.out).mono ?_); rintro e w16 ⟨rfl, hb⟩; have hx_ := qHX HB hb qa0; refine ⟨_, rfl, ?_⟩; have n0_ := qO (below_step (below_step HB.out hx_) hb); clear HB; have HB := n0_; clear n0_; clear hx_; (try clear hb); (try clear hb2); (try clear hk); (try clear hi); refine hK.out _ _ ⟨((HB.out.cell (qL w _ hw101_0)).trans hw101_0), ((HB.out.cell (qL w _ hw101_1)).trans hw101_1)⟩ (fun hHeld => ?_); clear hK K; refine norm_ (a' := ?_) ?_ ?_; rotate_left
      ·exact qa14
      refine pure_ (i := 7) (N := some 19) (v := ?_) (a' := ?_) laws_heldTypeDefS.y8 rfl rfl (any_of HT_.out qa9) (fun _ _ _ h => h) (Or.inl ⟨by rfl, ?_⟩) ?_ ?_; rotate_left; exact qa7; rotate_left; exact qa5; refine done_ (done_of HT_.out qa9) ?_
      try go_wp2
      go_ret
      exact ⟨qa6, qa4⟩
    ·rw [if_neg c4] at H
     exact absurd H qa61
   ·rw [if_neg c3] at H
    have c3b0 : decide (x5_1 < (l0.length : Int)) = false := decide_eq_false c3; clear c3; obtain rfl := Option.some.inj H; go_wp2
    go_ret
    exact ⟨qa6, qa4⟩


def laws_heldSchema.f (k : Nat) (l0_0 : List (S53)) (a1 : Int) : Option (Int) := (laws_heldTypeDefS.f k l0_0 a1).bind fun t102 => (if t102 < 0 then (some (-1)) else (some t102))
set_option maxHeartbeats 8000000 in
set_option maxRecDepth 100000 in
theorem laws_heldSchema.calls (k : Nat) (A0_0 : Option Addr) (c0_0 : Nat) (l0_0 : List (S53)) (a1 : Int) (r : Int) (w : World) (hr0_0 : Kd.C k53 w A0_0 l0_0.length l0_0) (hc0_0 : l0_0.length ≤ c0_0) (h : laws_heldSchema.f k l0_0 a1 = some r) :
  Calls Try.prog 25 #[.agg #[.slice A0_0 l0_0.length c0_0], .int .i64 a1] w fun e w' => e = .returned (.int .i64 r) ∧ Below w.heap.size w w' := by
 have hu29 := Try.underlying29; have HR0_0 := qO hr0_0; have HC0_0 := qO hc0_0; clear hr0_0 hc0_0; have HB := qO (Below.refl w.heap.size w); have H : ((laws_heldTypeDefS.f k l0_0 a1).bind fun t102 => (if t102 < 0 then (some (-1)) else (some t102))) = some r := h; clear h; replace H := Option.bind_eq_some_iff.mp H; obtain ⟨t102, A30, H⟩ := H; replace H : (if t102 < 0 then (some (-1)) else (some t102)) = some r := H; have A3 := qO A30; clear A30
 by_cases c4 : t102 < 0
 ·rw [if_pos c4] at H
  have c4b0 : decide (t102 < 0) = true := decide_eq_true c4; clear c4; obtain rfl := Option.some.inj H
  go_enter Try.func25, Try.ntmps25
  go_wp2_with (first | ((with_reducible refine gate_dst (N := 2) rfl ?_); refine box_event ?hg (N := 2) ?hd (cs := #[.slice A0_0 l0_0.length c0_0]) (t := 29) ?hr ?_; (case hd => rfl); (case hg => rfl); (case hr => exact qa12); intro gb101 hg w5 hbox hb; have hx_ := qHX HB hb qa0; have n0_ := qO (below_step (below_step HB.out hx_) hb); have n1_ := qO (hbox); have n2_ := qO ((qa11 : w.heap.size ≤ gb101)); have n3_ := n2_; clear HB; have HB := n0_; have BK101 := n1_; have GW101 := n2_; have GE101 := n3_; clear n0_ n1_ n2_ n3_; clear hx_; clear hb hbox hg; have hcz6_0 : w5.cell? ⟨gb101, 0, none⟩ = some (.slice A0_0 l0_0.length c0_0) := (blk_cell BK101.out 0).trans rfl; have hfz6_0 := blk_frozen BK101.out 0) | ((with_reducible refine gate_callee (f := 53) rfl ?_); refine goesL_ (some 8) rfl rfl Try.func53 qa9 rfl #[.slice A0_0 l0_0.length c0_0, .int .i64 a1] rfl qa2 ?_; (with_reducible refine (laws_heldTypeDefS.calls k _ _ l0_0 a1 t102 _ ?side1 ?side2 A3.out).mono ?_); (case side1 => exact qa25); (case side2 => exact HC0_0.out); rintro e w7 ⟨rfl, hb⟩; have hx_ := qHX HB hb qa0; refine ⟨_, rfl, ?_⟩; have n0_ := qO (qB BK101.out hx_ hb); have n1_ := qO (below_step (below_step HB.out hx_) hb); clear BK101; clear HB; have BK101 := n0_; have HB := n1_; clear n0_ n1_; clear hx_; (try clear hb); (try clear hb2); (try clear hk); (try clear hi)))
  go_ret
  exact ⟨qa6, qa16⟩
 ·rw [if_neg c4] at H
  have c4b0 : decide (t102 < 0) = false := decide_eq_false c4; clear c4; obtain rfl := Option.some.inj H
  go_enter Try.func25, Try.ntmps25
  go_wp2_with (first | ((with_reducible refine gate_dst (N := 2) rfl ?_); refine box_event ?hg (N := 2) ?hd (cs := #[.slice A0_0 l0_0.length c0_0]) (t := 29) ?hr ?_; (case hd => rfl); (case hg => rfl); (case hr => exact qa12); intro gb101 hg w8 hbox hb; have hx_ := qHX HB hb qa0; have n0_ := qO (below_step (below_step HB.out hx_) hb); have n1_ := qO (hbox); have n2_ := qO ((qa11 : w.heap.size ≤ gb101)); have n3_ := n2_; clear HB; have HB := n0_; have BK101 := n1_; have GW101 := n2_; have GE101 := n3_; clear n0_ n1_ n2_ n3_; clear hx_; clear hb hbox hg; have hcz9_0 : w8.cell? ⟨gb101, 0, none⟩ = some (.slice A0_0 l0_0.length c0_0) := (blk_cell BK101.out 0).trans rfl; have hfz9_0 := blk_frozen BK101.out 0) | ((with_reducible refine gate_callee (f := 53) rfl ?_); refine goesL_ (some 8) rfl rfl Try.func53 qa9 rfl #[.slice A0_0 l0_0.length c0_0, .int .i64 a1] rfl qa2 ?_; (with_reducible refine (laws_heldTypeDefS.calls k _ _ l0_0 a1 t102 _ ?side1 ?side2 A3.out).mono ?_); (case side1 => exact qa25); (case side2 => exact HC0_0.out); rintro e w10 ⟨rfl, hb⟩; have hx_ := qHX HB hb qa0; refine ⟨_, rfl, ?_⟩; have n0_ := qO (qB BK101.out hx_ hb); have n1_ := qO (below_step (below_step HB.out hx_) hb); clear BK101; clear HB; have BK101 := n0_; have HB := n1_; clear n0_ n1_; clear hx_; (try clear hb); (try clear hb2); (try clear hk); (try clear hi)))
  go_ret
  exact ⟨qa6, qa16⟩

set_option maxHeartbeats 4000000 in
set_option maxRecDepth 100000 in
theorem laws_FnExactPlainSchema.walk (k : Nat) (m : Int) (psM spL : List S53) (h1 : spec_PlainSchema.f = some spL) (h2 : laws_eqSchema.f k psL spL = some true) (h3 : mt k psL 1 = some (m, psM)) (h4 : laws_heldSchema.f k psM 1 = some m) (h5 : 0 ≤ m) (w : World) :
  Calls Try.prog 7 #[] w fun e w' => e = .returned (.bool true) ∧ Below w.heap.size w w' := by
 have hu29 := Try.underlying29
 have n3 : (3 : Nat) ≤ 9223372036854775807 := by omega
 have c5 : decide (m < 0) = false := decide_eq_false (by omega)
 go_enter Try.func7, Try.ntmps7
 go_wp2_with (first
  | (go_at_call 23; (with_reducible refine (spec_PlainSchema.calls spL _ h1).mono ?_); rintro e W1 ⟨v0, rfl, hN, hb⟩; obtain ⟨A, c, ev, hle, hC⟩ := Kd.N_reads hN; subst ev; have B1 := Aside0.mk hb; have C1 := Aside0.mk hC; have L1 := Aside0.mk hle; clear hb hC hle hN)
  | ((with_reducible refine gate_dst (N := 1) rfl ?_); refine box_event ?hg (N := 1) ?hd (cs := #[.slice none 0 0]) (t := 29) ?hr ?_; (case hd => rfl); (case hg => rfl); (case hr => first | (go_simp; done) | (go_simp; rfl)); intro g1 hg W2 hbox hb; have GEg1 := Aside0.mk (show W1.heap.size ≤ g1 by rw [hg]; exact Nat.le_refl _); have BW2 := Aside0.mk hb; have hczg1 : W2.cell? ⟨g1, 0, none⟩ = some (.slice none 0 0) := (blk_cell hbox 0).trans rfl; have hfzg1 := blk_frozen hbox 0; have BKg1 := Aside0.mk hbox; clear hb hbox hg; skip)
  | ((with_reducible refine gate_store (t := 29) (p := 1) rfl ?_); refine store_event (t := 29) (p := 1) (v := ?vo1) (w1 := (W2.setCell ⟨g1, 0, none⟩ (.slice A spL.length c))) ?hg ?ho ?hn ?hr ?_; (case ho => rfl); (case hg => rfl); (case hn => rfl); (case hr => first | (go_simp; done) | (go_simp; rfl)); intro W3 hw; have Sg1 : Aside0 (Below W1.heap.size W1 W3 ∧ W3.heap[g1]? = some (.cells #[.slice A spL.length c] 29 (0, 0))) := ⟨by rw [hw]; exact ⟨below_set BW2.out GEg1.out, blk_put (cs := #[.slice none 0 0]) BKg1.out 0 _ rfl⟩⟩; clear hw hczg1 hfzg1 BKg1 BW2; have B3 := Aside0.mk (below_step B1.out Sg1.out.1); have C3 := Aside0.mk (Kd.C_below C1.out Sg1.out.1); have K3 := Aside0.mk Sg1.out.2; clear Sg1 C1 B1)
  | (go_at_call 24; (with_reducible refine (ps_whole W3).mono ?_); rintro e W4 ⟨vs, lo, hi, he, hR, hp, hne, hb⟩; have e33 : vs 33 = .slice (some ⟨lo 33, 0, none⟩) 3 3 := (hp 33 (by omega)).1.1; rw [e33] at he; subst he; have F := Aside0.mk (ps_TF W3 vs W4 lo hi (fun i h => (hp i h).1) (fun i h => (hp i h).2) hne); have T4 := Aside0.mk (ps_TS W3 vs W4 lo hi (fun i h => (hp i h).1) (fun i h => (hp i h).2) hb); clear hR hp hne hb e33)
  | ((with_reducible refine gate_dst (N := 2) rfl ?_); refine box_event ?hg (N := 2) ?hd (cs := #[.slice none 0 0]) (t := 29) ?hr ?_; (case hd => rfl); (case hg => rfl); (case hr => first | (go_simp; done) | (go_simp; rfl)); intro g2 hg W5 hbox hb; have GEg2 := Aside0.mk (show W4.heap.size ≤ g2 by rw [hg]; exact Nat.le_refl _); have BW5 := Aside0.mk hb; have hczg2 : W5.cell? ⟨g2, 0, none⟩ = some (.slice none 0 0) := (blk_cell hbox 0).trans rfl; have hfzg2 := blk_frozen hbox 0; have BKg2 := Aside0.mk hbox; clear hb hbox hg; skip)
  | ((with_reducible refine gate_store (t := 29) (p := 2) rfl ?_); refine store_event (t := 29) (p := 2) (v := ?vo2) (w1 := (W5.setCell ⟨g2, 0, none⟩ (.slice (some ⟨lo 33, 0, none⟩) 3 3))) ?hg ?ho ?hn ?hr ?_; (case ho => rfl); (case hg => rfl); (case hn => rfl); (case hr => first | (go_simp; done) | (go_simp; rfl)); intro W6 hw; have Sg2 : Aside0 (Below W4.heap.size W4 W6 ∧ W6.heap[g2]? = some (.cells #[.slice (some ⟨lo 33, 0, none⟩) 3 3] 29 (0, 0))) := ⟨by rw [hw]; exact ⟨below_set BW5.out GEg2.out, blk_put (cs := #[.slice none 0 0]) BKg2.out 0 _ rfl⟩⟩; clear hw hczg2 hfzg2 BKg2 BW5; have T6 := Aside0.mk (T4.out.grow Sg2.out.1); have NT : Aside0 (¬ TB (lo 33) 3 (fun i => lo (psB i)) psN (psV vs) g2) := ⟨fun hb => Nat.not_le_of_lt (T4.out.tb_lt F.out (by omega) g2 hb) GEg2.out⟩; have K26 := Aside0.mk Sg2.out.2; have hd1 : W6.cell? ⟨g1, 0, none⟩ = some (.slice A spL.length c) := (blk_cell (blk_below K3.out T6.out.below) 0).trans rfl; have hd2 : W6.cell? ⟨g2, 0, none⟩ = some (.slice (some ⟨lo 33, 0, none⟩) 3 3) := (blk_cell K26.out 0).trans rfl; clear Sg2 T4)
  | (go_at_call 12; have hq := laws_eqSchema.calls k (some ⟨lo 33, 0, none⟩) 3 psL A c spL true W6 (T6.out.reads F.out n3) (by decide) (Kd.C_below C3.out T6.out.below) L1.out h2; rw [show psL.length = 3 from rfl] at hq; (with_reducible refine hq.mono ?_); rintro e W7 ⟨rfl, hb⟩; have T7 := Aside0.mk (T6.out.grow hb); have K27 := Aside0.mk (blk_below K26.out hb); clear hd1 hd2; have hd2 : W7.cell? ⟨g2, 0, none⟩ = some (.slice (some ⟨lo 33, 0, none⟩) 3 3) := (blk_cell K27.out 0).trans rfl; clear hb hq T6 K26)
  | (go_at_call 18; (with_reducible refine (mark18 k 3 (lo 33) 3 psL psM (by omega) (fun i => lo (psB i)) psN psN (psV vs) 1 m W3 W7 (by omega) F.out T7.out.again h3).mono ?_); rintro e W8 ⟨rfl, hT⟩; have T8 := Aside0.mk hT; have K28 := Aside0.mk ((hT.kept.2 g2 (blk_lt K27.out) NT.out).trans K27.out); clear hd2; have hd2 : W8.cell? ⟨g2, 0, none⟩ = some (.slice (some ⟨lo 33, 0, none⟩) 3 3) := (blk_cell K28.out 0).trans rfl; clear hT T7 K27)
  | (go_at_call 25; have hl : psM.length = 3 := T8.out.len; have hq := laws_heldSchema.calls k (some ⟨lo 33, 0, none⟩) 3 psM 1 m W8 (by rw [hl]; exact T8.out.reads F.out n3) (by omega) h4; rw [hl] at hq; (with_reducible refine hq.mono ?_); rintro e W9 ⟨rfl, hb⟩; have T9 := Aside0.mk (T8.out.grow hb); have K29 := Aside0.mk (blk_below K28.out hb); clear hd2 hl; clear hb hq T8 K28)
  | (go_at_call 24; (with_reducible refine (ps_whole W9).mono ?_); rintro e W10 ⟨vs2, lo2, hi2, he, hR, hp_, hne_, hb⟩; obtain ⟨A2, c2, e2, hl2, hC2⟩ := Kd.R_reads hR; rw [e2, show psL.length = 3 from rfl] at he; subst he; have T10 := Aside0.mk (T9.out.grow hb); have K210 := Aside0.mk (blk_below K29.out hb); have C10 := Aside0.mk hC2; have L10 := Aside0.mk hl2; clear hR hb hC2 hl2 hp_ hne_ e2 T9 K29)
  | ((with_reducible refine gate_dst (N := 5) rfl ?_); refine box_event ?hg (N := 5) ?hd (cs := #[.slice none 0 0]) (t := 29) ?hr ?_; (case hd => rfl); (case hg => rfl); (case hr => first | (go_simp; done) | (go_simp; rfl)); intro g5 hg W11 hbox hb; have GEg5 := Aside0.mk (show W10.heap.size ≤ g5 by rw [hg]; exact Nat.le_refl _); have BW11 := Aside0.mk hb; have hczg5 : W11.cell? ⟨g5, 0, none⟩ = some (.slice none 0 0) := (blk_cell hbox 0).trans rfl; have hfzg5 := blk_frozen hbox 0; have BKg5 := Aside0.mk hbox; clear hb hbox hg; skip)
  | ((with_reducible refine gate_store (t := 29) (p := 5) rfl ?_); refine store_event (t := 29) (p := 5) (v := ?vo5) (w1 := (W11.setCell ⟨g5, 0, none⟩ (.slice A2 3 c2))) ?hg ?ho ?hn ?hr ?_; (case ho => rfl); (case hg => rfl); (case hn => rfl); (case hr => first | (go_simp; done) | (go_simp; rfl)); intro W12 hw; have Sg5 : Aside0 (Below W10.heap.size W10 W12 ∧ W12.heap[g5]? = some (.cells #[.slice A2 3 c2] 29 (0, 0))) := ⟨by rw [hw]; exact ⟨below_set BW11.out GEg5.out, blk_put (cs := #[.slice none 0 0]) BKg5.out 0 _ rfl⟩⟩; clear hw hczg5 hfzg5 BKg5 BW11; have T12 := Aside0.mk (T10.out.grow Sg5.out.1); have K212 := Aside0.mk (blk_below K210.out Sg5.out.1); have C12 := Aside0.mk (Kd.C_below C10.out Sg5.out.1); have hd5 : W12.cell? ⟨g5, 0, none⟩ = some (.slice A2 3 c2) := (blk_cell Sg5.out.2 0).trans rfl; have hd1 : W12.cell? ⟨g1, 0, none⟩ = some (.slice A spL.length c) := (blk_cell (blk_below K3.out T12.out.below) 0).trans rfl; clear Sg5 T10 K210 C10)
  | (go_at_call 12; have hq := laws_eqSchema.calls k A2 c2 psL A c spL true W12 C12.out L10.out (Kd.C_below C3.out T12.out.below) L1.out h2; rw [show psL.length = 3 from rfl] at hq; (with_reducible refine hq.mono ?_); rintro e W13 ⟨rfl, hb⟩; have T13 := Aside0.mk (T12.out.grow hb); have K213 := Aside0.mk (blk_below K212.out hb); clear hd1 hd5; have hd2 : W13.cell? ⟨g2, 0, none⟩ = some (.slice (some ⟨lo 33, 0, none⟩) 3 3) := (blk_cell K213.out 0).trans rfl; clear hb hq T12 K212)
  | (go_at_call 25; have hl : psM.length = 3 := T13.out.len; have hq := laws_heldSchema.calls k (some ⟨lo 33, 0, none⟩) 3 psM 1 m W13 (by rw [hl]; exact T13.out.reads F.out n3) (by omega) h4; rw [hl] at hq; (with_reducible refine hq.mono ?_); rintro e W14 ⟨rfl, hb⟩; have T14 := Aside0.mk (T13.out.grow hb); clear hd2 hl; clear hb hq T13))
 go_ret
 exact ⟨rfl, below_step B3.out T14.out.below⟩
end Go.Proofs.Ytoogmlghfljeiaa.Q
namespace Go.Proofs.Ytoogmlghfljeiaa.Q
open Go.RowKit Go.Proofs.YtoogmlghfljeiaaW.PrintWords Go.Proofs.Ytoogmlghfljeiaa.Opens
set_option linter.unusedVariables false
def i106 (x : S106) : Prop := x.f0.size ≤ 9223372036854775807 ∧ True
theorem o106 : Opens Try.prog 106 k106 i106 := opens_struct (N := 2) Try.underlying106 qa9 (opensF_cons rfl qa9 (opens_string Try.underlying9) (opensF_one rfl rfl qa9 (opens_bool Try.underlying4))) (fun y => ⟨y.1, y.2⟩) (fun _ => rfl)
def i101 (x : S101) : Prop := x.f0.size ≤ 9223372036854775807 ∧ (x.f1.length ≤ 9223372036854775807 ∧ ∀ y1_ ∈ x.f1, i106 y1_) ∧ x.f2.size ≤ 9223372036854775807 ∧ True ∧ True
theorem o101 : Opens Try.prog 101 k101 i101 := opens_struct (N := 5) Try.underlying101 qa9 (opensF_cons rfl qa9 (opens_string Try.underlying9) (opensF_cons rfl qa9 (opens_slice Try.underlying99 qa9 o106) (opensF_cons rfl qa9 (opens_string Try.underlying9) (opensF_cons rfl qa9 (opens_bool Try.underlying4) (opensF_one rfl rfl qa9 (opens_bool Try.underlying4)))))) (fun y => ⟨y.1, y.2.1, y.2.2.1, y.2.2.2.1, y.2.2.2.2⟩) (fun _ => rfl)
def i77 (x : S77) : Prop := x.f0.size ≤ 9223372036854775807 ∧ (x.f1.length ≤ 9223372036854775807 ∧ ∀ y1_ ∈ x.f1, i101 y1_)
theorem o77 : Opens Try.prog 77 k77 i77 := opens_struct (N := 2) Try.underlying77 qa9 (opensF_cons rfl qa9 (opens_string Try.underlying9) (opensF_one rfl rfl qa9 (opens_slice Try.underlying75 qa9 o101))) (fun y => ⟨y.1, y.2⟩) (fun _ => rfl)
def i24 (x : S24) : Prop := (x.f0.length ≤ 9223372036854775807 ∧ ∀ y1_ ∈ x.f0, i77 y1_)
theorem o24 : Opens Try.prog 24 k24 i24 := opens_struct (N := 1) Try.underlying24 qa9 (opensF_one rfl rfl qa9 (opens_slice Try.underlying22 qa9 o77)) (fun y => ⟨y⟩) (fun _ => rfl)
end Go.Proofs.Ytoogmlghfljeiaa.Q
namespace Go.Proofs.Ytoogmlghfljeiaa.Q
open Go.RowKit Go.Proofs.YtoogmlghfljeiaaW.PrintWords Go.Proofs.YtoogmlghfljeiaaW.PrintLast Go.Proofs.YtoogmlghfljeiaaW.PrintMore
attribute [local go_sem] max2_int min2_int max_two min_two max_three min_three max_four min_four
set_option linter.unusedVariables false
set_option linter.unusedSimpArgs false

def spec_l01In.f (a0 : Int) (a1 : Int) (a2 : Int) : Option (Bool) := if a1 ≤ a0 then (some (decide (a0 ≤ a2))) else (some false)
set_option maxHeartbeats 8000000 in
set_option maxRecDepth 100000 in
theorem spec_l01In.calls (a0 : Int) (a1 : Int) (a2 : Int) (r : Bool) (w : World) (h : spec_l01In.f a0 a1 a2 = some r) :
  Calls Try.prog 27 #[.int .i64 a0, .int .i64 a1, .int .i64 a2] w fun e w' => e = .returned (.bool r) ∧ Drawn0 w w' := by
 have H : (if a1 ≤ a0 then (some (decide (a0 ≤ a2))) else (some false)) = some r := h; clear h
 by_cases c4 : a1 ≤ a0
 ·rw [if_pos c4] at H
  have c4b0 : decide (a1 ≤ a0) = true := decide_eq_true c4; clear c4; obtain rfl := Option.some.inj H
  go_enter Try.func27, Try.ntmps27
  go_wp2
  go_ret
  exact ⟨qa8, qa13⟩
 ·rw [if_neg c4] at H
  have c4b0 : decide (a1 ≤ a0) = false := decide_eq_false c4; clear c4; obtain rfl := Option.some.inj H
  go_enter Try.func27, Try.ntmps27
  go_wp2
  go_ret
  exact ⟨qa8, qa13⟩


def spec_l00Letter.f (a0 : Int) : Option (Bool) := if a0 ≥ 97 then (if a0 ≤ 122 then (some true) else (if a0 ≥ 65 then (if a0 ≤ 90 then (some true) else (some (a0 == 95))) else (some (a0 == 95)))) else (if a0 ≥ 65 then (if a0 ≤ 90 then (some true) else (some (a0 == 95))) else (some (a0 == 95)))
set_option maxHeartbeats 8000000 in
set_option maxRecDepth 100000 in
theorem spec_l00Letter.calls (a0 : Int) (r : Bool) (w : World) (h : spec_l00Letter.f a0 = some r) :
  Calls Try.prog 75 #[.int .u8 a0] w fun e w' => e = .returned (.bool r) ∧ Drawn0 w w' := by
 have H : (if a0 ≥ 97 then (if a0 ≤ 122 then (some true) else (if a0 ≥ 65 then (if a0 ≤ 90 then (some true) else (some (a0 == 95))) else (some (a0 == 95)))) else (if a0 ≥ 65 then (if a0 ≤ 90 then (some true) else (some (a0 == 95))) else (some (a0 == 95)))) = some r := h; clear h
 by_cases c2 : a0 ≥ 97
 ·rw [if_pos c2] at H
  have c2b0 : decide (97 ≤ a0) = true := decide_eq_true c2; clear c2
  by_cases c3 : a0 ≤ 122
  ·rw [if_pos c3] at H
   have c3b0 : decide (a0 ≤ 122) = true := decide_eq_true c3; clear c3; obtain rfl := Option.some.inj H
   go_enter Try.func75, Try.ntmps75
   go_wp2
   go_ret
   exact ⟨qa8, qa13⟩
  ·rw [if_neg c3] at H
   have c3b0 : decide (a0 ≤ 122) = false := decide_eq_false c3; clear c3
   by_cases c4 : a0 ≥ 65
   ·rw [if_pos c4] at H
    have c4b0 : decide (65 ≤ a0) = true := decide_eq_true c4; clear c4
    by_cases c5 : a0 ≤ 90
    ·rw [if_pos c5] at H
     have c5b0 : decide (a0 ≤ 90) = true := decide_eq_true c5; clear c5; obtain rfl := Option.some.inj H
     go_enter Try.func75, Try.ntmps75
     go_wp2
     go_ret
     exact ⟨qa8, qa13⟩
    ·rw [if_neg c5] at H
     have c5b0 : decide (a0 ≤ 90) = false := decide_eq_false c5; clear c5; obtain rfl := Option.some.inj H
     go_enter Try.func75, Try.ntmps75
     go_wp2
     go_ret
     exact ⟨qa8, qa13⟩
   ·rw [if_neg c4] at H
    have c4b0 : decide (65 ≤ a0) = false := decide_eq_false c4; clear c4; obtain rfl := Option.some.inj H
    go_enter Try.func75, Try.ntmps75
    go_wp2
    go_ret
    exact ⟨qa8, qa13⟩
 ·rw [if_neg c2] at H
  have c2b0 : decide (97 ≤ a0) = false := decide_eq_false c2; clear c2
  by_cases c6 : a0 ≥ 65
  ·rw [if_pos c6] at H
   have c6b0 : decide (65 ≤ a0) = true := decide_eq_true c6; clear c6
   by_cases c7 : a0 ≤ 90
   ·rw [if_pos c7] at H
    have c7b0 : decide (a0 ≤ 90) = true := decide_eq_true c7; clear c7; obtain rfl := Option.some.inj H
    go_enter Try.func75, Try.ntmps75
    go_wp2
    go_ret
    exact ⟨qa8, qa13⟩
   ·rw [if_neg c7] at H
    have c7b0 : decide (a0 ≤ 90) = false := decide_eq_false c7; clear c7; obtain rfl := Option.some.inj H
    go_enter Try.func75, Try.ntmps75
    go_wp2
    go_ret
    exact ⟨qa8, qa13⟩
  ·rw [if_neg c6] at H
   have c6b0 : decide (65 ≤ a0) = false := decide_eq_false c6; clear c6; obtain rfl := Option.some.inj H
   go_enter Try.func75, Try.ntmps75
   go_wp2
   go_ret
   exact ⟨qa8, qa13⟩


def spec_l00Digit.f (a0 : Int) : Option (Bool) := if a0 ≥ 48 then (some (decide (a0 ≤ 57))) else (some false)
set_option maxHeartbeats 8000000 in
set_option maxRecDepth 100000 in
theorem spec_l00Digit.calls (a0 : Int) (r : Bool) (w : World) (h : spec_l00Digit.f a0 = some r) :
  Calls Try.prog 76 #[.int .u8 a0] w fun e w' => e = .returned (.bool r) ∧ Drawn0 w w' := by
 have H : (if a0 ≥ 48 then (some (decide (a0 ≤ 57))) else (some false)) = some r := h; clear h
 by_cases c2 : a0 ≥ 48
 ·rw [if_pos c2] at H
  have c2b0 : decide (48 ≤ a0) = true := decide_eq_true c2; clear c2; obtain rfl := Option.some.inj H
  go_enter Try.func76, Try.ntmps76
  go_wp2
  go_ret
  exact ⟨qa8, qa13⟩
 ·rw [if_neg c2] at H
  have c2b0 : decide (48 ≤ a0) = false := decide_eq_false c2; clear c2; obtain rfl := Option.some.inj H
  go_enter Try.func76, Try.ntmps76
  go_wp2
  go_ret
  exact ⟨qa8, qa13⟩


mutual
def spec_l00Word.j0 : Nat → ByteArray → Bool → Option (Bool)
 | 0, _, _ => none
 | k + 1, x0, x17 => if x17 = true then (some false) else (spec_l00Word.l0 k x0 1)
def spec_l00Word.l0 : Nat → ByteArray → Int → Option (Bool)
 | 0, _, _ => none
 | k + 1, x0, x3 => if x3 < (x0.size : Int) then (if 0 ≤ x3 then ((spec_l00Letter.f (bt x0 x3)).bind fun t102 => (if t102 = true then (spec_l00Word.l0 k x0 (wrap64 (x3 + 1))) else ((spec_l00Digit.f (bt x0 x3)).bind fun t103 => (if t103 = true then (spec_l00Word.l0 k x0 (wrap64 (x3 + 1))) else (some false))))) else (none)) else (some true)
end
def spec_l00Word.f (k : Nat) (a0 : ByteArray) : Option (Bool) := if (a0.size : Int) < 1 then (spec_l00Word.j0 k a0 true) else (if (a0.size : Int) > 40 then (spec_l00Word.j0 k a0 true) else (if 0 < (a0.size : Int) then ((spec_l00Letter.f (bt a0 0)).bind fun t101 => (spec_l00Word.j0 k a0 (!t101))) else (none)))
set_option maxHeartbeats 8000000 in
set_option maxRecDepth 100000 in
theorem spec_l00Word.calls (k : Nat) (a0 : ByteArray) (r : Bool) (w : World) (h : spec_l00Word.f k a0 = some r) :
  Calls Try.prog 55 #[.string a0] w fun e w' => e = .returned (.bool r) ∧ Drawn0 w w' := by
 have H : (if (a0.size : Int) < 1 then (spec_l00Word.j0 k a0 true) else (if (a0.size : Int) > 40 then (spec_l00Word.j0 k a0 true) else (if 0 < (a0.size : Int) then ((spec_l00Letter.f (bt a0 0)).bind fun t101 => (spec_l00Word.j0 k a0 (!t101))) else (none)))) = some r := h; clear h; have HC2 := qO H; clear H
 go_enter Try.func55, Try.ntmps55
 go_upto_region 1 with (fail)
 go_cut [17] (fun v17 wc => ∃ (kq : Nat) (x17_1 : Bool), v17 = .bool x17_1 ∧ Aside0 (spec_l00Word.j0 kq a0 x17_1 = some r) ∧ Aside0 (kq ≤ k) ∧ Drawn0 w wc)
 case first =>
  have H := HC2.out; clear HC2
  by_cases c3 : (a0.size : Int) < 1
  ·rw [if_pos c3] at H
   have c3b0 : decide ((a0.size : Int) < 1) = true := decide_eq_true c3; have c3b1 : decide (a0.size < 1) = true := decide_eq_true qa22; clear c3; (first | rw [c3b0] | (simp only [i64_w, i32_w]; rw [c3b0]) | skip); have H' := qO H; clear H; go_wp2
   go_meet
   case rel => exact ⟨_, (true), qa8, H', ⟨qa68⟩, qa13⟩
  ·rw [if_neg c3] at H
   have c3b0 : decide ((a0.size : Int) < 1) = false := decide_eq_false c3; have c3b1 : decide (a0.size < 1) = false := decide_eq_false qa22; clear c3; (first | rw [c3b0] | (simp only [i64_w, i32_w]; rw [c3b0]) | skip)
   by_cases c4 : (a0.size : Int) > 40
   ·rw [if_pos c4] at H
    have c4b0 : decide (40 < (a0.size : Int)) = true := decide_eq_true c4; have c4b1 : decide (40 < a0.size) = true := decide_eq_true qa22; clear c4; have H' := qO H; clear H; go_wp2
    go_meet
    case rel => exact ⟨_, (true), qa8, H', ⟨qa68⟩, qa13⟩
   ·rw [if_neg c4] at H
    have c4b0 : decide (40 < (a0.size : Int)) = false := decide_eq_false c4; have c4b1 : decide (40 < a0.size) = false := decide_eq_false qa22; clear c4
    by_cases c5 : 0 < (a0.size : Int)
    ·rw [if_pos c5] at H
     have c5b0 : decide (0 < (a0.size : Int)) = true := decide_eq_true c5; have c5b1 : decide (0 < a0.size) = true := decide_eq_true qa22; clear c5; replace H := Option.bind_eq_some_iff.mp H; obtain ⟨t101, A70, H⟩ := H; replace H : (spec_l00Word.j0 k a0 (!t101)) = some r := H; have A7 := qO A70; clear A70; have H' := qO H; clear H; have p6 : 0 ≤ (0 : Int) := qa22; have q6 : 0 < a0.size := (by have : (0 : Int) < (a0.size : Int) := qT qa3; omega); have hx6 : ∀ h : 0 < a0.size, ((a0[0]'h).toNat : Int) = bt a0 0 := bt_at a0 0; clear p6; have qi6 : (0 < (a0.size : Int)) = True := eq_true (qT qa3); replace q6 := eq_true q6
     go_wp2_with (first | (go_at_call 75; (with_reducible refine (spec_l00Letter.calls (bt a0 0) t101 _ A7.out).mono ?_); rintro e w' ⟨rfl, ⟨nd, rfl⟩⟩))
     go_meet
     case rel => exact ⟨_, (!t101), qa8, H', ⟨qa68⟩, qa13⟩
    ·rw [if_neg c5] at H
     exact absurd H qa61
 case rest =>
  clear HC2
  try clear p2
  try clear c3
  try clear c3b0
  try clear c3b1
  try clear c4
  try clear c4b0
  try clear c4b1
  try clear c5
  try clear c5b0
  try clear c5b1
  try clear p6
  try clear q6
  try clear hx6
  try clear qi6
  try clear p6
  try clear q6
  obtain ⟨kq, x17_1, rfl, HA, HJ1, ⟨mc1, rfl⟩⟩ := hcut
  cases kq with
  | zero => exact absurd HA.out (by simp [spec_l00Word.j0])
  | succ kj1 =>
   have H := HA.out; clear HA; simp only [spec_l00Word.j0] at H
   by_cases c8 : x17_1 = true
   ·subst c8
    have H1 : (some false) = some r := by rw [if_pos rfl] at H; exact H
    clear H; have H := H1; clear H1; obtain rfl := Option.some.inj H; go_wp2
    go_ret
    exact ⟨qa8, qa13⟩
   ·replace c8 := Bool.eq_false_iff.mpr c8
    subst c8; have H1 : (spec_l00Word.l0 kj1 a0 1) = some r := by rw [if_neg (show ¬ (false = true) by decide)] at H; exact H
    clear H; have H := H1; clear H1; have H' := qO H; clear H; go_wp2
    go_loopg [3] kj1 (fun kq v3 w' => ∃ (x3_2 : Int), v3 = .int .i64 x3_2 ∧ Aside0 (spec_l00Word.l0 kq a0 x3_2 = some r) ∧ Aside0 (kq ≤ kj1) ∧ Drawn0 w w')
    case atStart => exact ⟨(1), qa8, H', ⟨Nat.le_refl _⟩, qa13⟩
    case round =>
     clear H'
     try clear c1
     try clear p2
     try clear c3
     try clear c3b0
     try clear c3b1
     try clear c4
     try clear c4b0
     try clear c4b1
     try clear c5
     try clear c5b0
     try clear c5b1
     try clear p6
     try clear q6
     try clear hx6
     try clear qi6
     try clear c8
     try clear p2
     try clear p6
     try clear q6
     obtain ⟨x3_2, rfl, HA, HK2, ⟨m2, rfl⟩⟩ := hrel
     cases gk with
     | zero => exact absurd HA.out (by simp [spec_l00Word.l0])
     | succ k2 =>
      have H := HA.out; clear HA; simp only [spec_l00Word.l0] at H
      by_cases c9 : x3_2 < (a0.size : Int)
      ·rw [if_pos c9] at H
       have c9b0 : decide (x3_2 < (a0.size : Int)) = true := decide_eq_true c9; clear c9
       by_cases c10 : 0 ≤ x3_2
       ·rw [if_pos c10] at H
        have c10b0 : decide (0 ≤ x3_2) = true := decide_eq_true c10; clear c10; replace H := Option.bind_eq_some_iff.mp H; obtain ⟨t102, A120, H⟩ := H; replace H : (if t102 = true then (spec_l00Word.l0 k2 a0 (wrap64 (x3_2 + 1))) else ((spec_l00Digit.f (bt a0 x3_2)).bind fun t103 => (if t103 = true then (spec_l00Word.l0 k2 a0 (wrap64 (x3_2 + 1))) else (some false)))) = some r := H; have A12 := qO A120; clear A120
        by_cases c13 : t102 = true
        ·subst c13
         have H1 : (spec_l00Word.l0 k2 a0 (wrap64 (x3_2 + 1))) = some r := by rw [if_pos rfl] at H; exact H
         clear H; have H := H1; clear H1; have H' := qO H; clear H; have p11 : 0 ≤ (x3_2 : Int) := qT qa3; have q11 : x3_2 < (a0.size : Int) := qT qa3; have hx11 := bt_at a0 x3_2; replace p11 := eq_true p11; replace q11 := eq_true q11
         go_wp2_with (first | ((with_reducible refine gate_callee (f := 75) rfl ?_); refine goesL_ (some 27) rfl rfl Try.func75 qa9 rfl #[.int .u8 (bt a0 x3_2)] rfl qa2 ?_; (with_reducible refine (spec_l00Letter.calls (bt a0 x3_2) true _ A12.out).mono ?_); rintro e w' ⟨rfl, ⟨nd, rfl⟩⟩; refine ⟨_, rfl, ?_⟩))
         go_roundg k2
         case measure => have := HJ1.out; have := HK2.out; omega
         case rel => exact ⟨(wrap64 (x3_2 + 1)), qa8, H', ⟨by have := HJ1.out; have := HK2.out; omega⟩, qa13⟩
        ·replace c13 := Bool.eq_false_iff.mpr c13
         subst c13; have H1 : ((spec_l00Digit.f (bt a0 x3_2)).bind fun t103 => (if t103 = true then (spec_l00Word.l0 k2 a0 (wrap64 (x3_2 + 1))) else (some false))) = some r := by rw [if_neg (show ¬ (false = true) by decide)] at H; exact H
         clear H; have H := H1; clear H1; replace H := Option.bind_eq_some_iff.mp H; obtain ⟨t103, A150, H⟩ := H; replace H : (if t103 = true then (spec_l00Word.l0 k2 a0 (wrap64 (x3_2 + 1))) else (some false)) = some r := H; have A15 := qO A150; clear A150
         by_cases c16 : t103 = true
         ·subst c16
          have H1 : (spec_l00Word.l0 k2 a0 (wrap64 (x3_2 + 1))) = some r := by rw [if_pos rfl] at H; exact H
          clear H; have H := H1; clear H1; have H' := qO H; clear H; have p11 : 0 ≤ (x3_2 : Int) := qT qa3; have q11 : x3_2 < (a0.size : Int) := qT qa3; have hx11 := bt_at a0 x3_2; replace p11 := eq_true p11; replace q11 := eq_true q11
          go_wp2_with (first | ((with_reducible refine gate_callee (f := 75) rfl ?_); refine goesL_ (some 27) rfl rfl Try.func75 qa9 rfl #[.int .u8 (bt a0 x3_2)] rfl qa2 ?_; (with_reducible refine (spec_l00Letter.calls (bt a0 x3_2) false _ A12.out).mono ?_); rintro e w' ⟨rfl, ⟨nd, rfl⟩⟩; refine ⟨_, rfl, ?_⟩; have p14 : 0 ≤ (x3_2 : Int) := qT qa3; have q14 : x3_2 < (a0.size : Int) := qT qa3; have hx14 := bt_at a0 x3_2; replace p14 := eq_true p14; replace q14 := eq_true q14) | (go_at_call 76; (with_reducible refine (spec_l00Digit.calls (bt a0 x3_2) true _ A15.out).mono ?_); rintro e w' ⟨rfl, ⟨nd, rfl⟩⟩))
          go_roundg k2
          case measure => have := HJ1.out; have := HK2.out; omega
          case rel => exact ⟨(wrap64 (x3_2 + 1)), qa8, H', ⟨by have := HJ1.out; have := HK2.out; omega⟩, qa13⟩
         ·replace c16 := Bool.eq_false_iff.mpr c16
          subst c16; have H1 : (some false) = some r := by rw [if_neg (show ¬ (false = true) by decide)] at H; exact H
          clear H; have H := H1; clear H1; obtain rfl := Option.some.inj H; have p11 : 0 ≤ (x3_2 : Int) := qT qa3; have q11 : x3_2 < (a0.size : Int) := qT qa3; have hx11 := bt_at a0 x3_2; replace p11 := eq_true p11; replace q11 := eq_true q11
          go_wp2_with (first | ((with_reducible refine gate_callee (f := 75) rfl ?_); refine goesL_ (some 27) rfl rfl Try.func75 qa9 rfl #[.int .u8 (bt a0 x3_2)] rfl qa2 ?_; (with_reducible refine (spec_l00Letter.calls (bt a0 x3_2) false _ A12.out).mono ?_); rintro e w' ⟨rfl, ⟨nd, rfl⟩⟩; refine ⟨_, rfl, ?_⟩; have p14 : 0 ≤ (x3_2 : Int) := qT qa3; have q14 : x3_2 < (a0.size : Int) := qT qa3; have hx14 := bt_at a0 x3_2; replace p14 := eq_true p14; replace q14 := eq_true q14) | (go_at_call 76; (with_reducible refine (spec_l00Digit.calls (bt a0 x3_2) false _ A15.out).mono ?_); rintro e w' ⟨rfl, ⟨nd, rfl⟩⟩))
          go_ret
          exact ⟨qa8, qa13⟩
       ·rw [if_neg c10] at H
        exact absurd H qa61
      ·rw [if_neg c9] at H
       have c9b0 : decide (x3_2 < (a0.size : Int)) = false := decide_eq_false c9; clear c9; obtain rfl := Option.some.inj H; go_wp2
       go_ret
       exact ⟨qa8, qa13⟩


def spec_NameOK.f (k : Nat) (a0 : ByteArray) : Option (Bool) := (spec_l00Word.f k a0).bind fun t101 => (some t101)
set_option maxHeartbeats 8000000 in
set_option maxRecDepth 100000 in
theorem spec_NameOK.calls (k : Nat) (a0 : ByteArray) (r : Bool) (w : World) (h : spec_NameOK.f k a0 = some r) :
  Calls Try.prog 29 #[.string a0] w fun e w' => e = .returned (.bool r) ∧ Drawn0 w w' := by
 have H : ((spec_l00Word.f k a0).bind fun t101 => (some t101)) = some r := h; clear h; replace H := Option.bind_eq_some_iff.mp H; obtain ⟨t101, A20, H⟩ := H; replace H : (some t101) = some r := H; have A2 := qO A20; clear A20; obtain rfl := Option.some.inj H
 go_enter Try.func29, Try.ntmps29
 go_wp2_with (first | ((with_reducible refine gate_callee (f := 55) rfl ?_); refine goesL_ (some 4) rfl rfl Try.func55 qa9 rfl #[.string a0] rfl qa2 ?_; (with_reducible refine (spec_l00Word.calls k a0 t101 _ A2.out).mono ?_); rintro e w' ⟨rfl, ⟨nd, rfl⟩⟩; refine ⟨_, rfl, ?_⟩))
 go_ret
 exact ⟨qa8, qa13⟩


def impl_within.f (a0 : Int) (a1 : Int) (a2 : Int) : Option (Bool) := if a0 ≥ a1 then (some (decide (a0 ≤ a2))) else (some false)
set_option maxHeartbeats 8000000 in
set_option maxRecDepth 100000 in
theorem impl_within.calls (a0 : Int) (a1 : Int) (a2 : Int) (r : Bool) (w : World) (h : impl_within.f a0 a1 a2 = some r) :
  Calls Try.prog 33 #[.int .i64 a0, .int .i64 a1, .int .i64 a2] w fun e w' => e = .returned (.bool r) ∧ Drawn0 w w' := by
 have H : (if a0 ≥ a1 then (some (decide (a0 ≤ a2))) else (some false)) = some r := h; clear h
 by_cases c4 : a0 ≥ a1
 ·rw [if_pos c4] at H
  have c4b0 : decide (a1 ≤ a0) = true := decide_eq_true c4; clear c4; obtain rfl := Option.some.inj H
  go_enter Try.func33, Try.ntmps33
  go_wp2
  go_ret
  exact ⟨qa8, qa13⟩
 ·rw [if_neg c4] at H
  have c4b0 : decide (a1 ≤ a0) = false := decide_eq_false c4; clear c4; obtain rfl := Option.some.inj H
  go_enter Try.func33, Try.ntmps33
  go_wp2
  go_ret
  exact ⟨qa8, qa13⟩


def impl_isLetter.f (a0 : Int) : Option (Bool) := if a0 ≥ 97 then (if a0 ≤ 122 then (some true) else (if a0 ≥ 65 then (if a0 ≤ 90 then (some true) else (some (a0 == 95))) else (some (a0 == 95)))) else (if a0 ≥ 65 then (if a0 ≤ 90 then (some true) else (some (a0 == 95))) else (some (a0 == 95)))
set_option maxHeartbeats 8000000 in
set_option maxRecDepth 100000 in
theorem impl_isLetter.calls (a0 : Int) (r : Bool) (w : World) (h : impl_isLetter.f a0 = some r) :
  Calls Try.prog 59 #[.int .u8 a0] w fun e w' => e = .returned (.bool r) ∧ Drawn0 w w' := by
 have H : (if a0 ≥ 97 then (if a0 ≤ 122 then (some true) else (if a0 ≥ 65 then (if a0 ≤ 90 then (some true) else (some (a0 == 95))) else (some (a0 == 95)))) else (if a0 ≥ 65 then (if a0 ≤ 90 then (some true) else (some (a0 == 95))) else (some (a0 == 95)))) = some r := h; clear h
 by_cases c2 : a0 ≥ 97
 ·rw [if_pos c2] at H
  have c2b0 : decide (97 ≤ a0) = true := decide_eq_true c2; clear c2
  by_cases c3 : a0 ≤ 122
  ·rw [if_pos c3] at H
   have c3b0 : decide (a0 ≤ 122) = true := decide_eq_true c3; clear c3; obtain rfl := Option.some.inj H
   go_enter Try.func59, Try.ntmps59
   go_wp2
   go_ret
   exact ⟨qa8, qa13⟩
  ·rw [if_neg c3] at H
   have c3b0 : decide (a0 ≤ 122) = false := decide_eq_false c3; clear c3
   by_cases c4 : a0 ≥ 65
   ·rw [if_pos c4] at H
    have c4b0 : decide (65 ≤ a0) = true := decide_eq_true c4; clear c4
    by_cases c5 : a0 ≤ 90
    ·rw [if_pos c5] at H
     have c5b0 : decide (a0 ≤ 90) = true := decide_eq_true c5; clear c5; obtain rfl := Option.some.inj H
     go_enter Try.func59, Try.ntmps59
     go_wp2
     go_ret
     exact ⟨qa8, qa13⟩
    ·rw [if_neg c5] at H
     have c5b0 : decide (a0 ≤ 90) = false := decide_eq_false c5; clear c5; obtain rfl := Option.some.inj H
     go_enter Try.func59, Try.ntmps59
     go_wp2
     go_ret
     exact ⟨qa8, qa13⟩
   ·rw [if_neg c4] at H
    have c4b0 : decide (65 ≤ a0) = false := decide_eq_false c4; clear c4; obtain rfl := Option.some.inj H
    go_enter Try.func59, Try.ntmps59
    go_wp2
    go_ret
    exact ⟨qa8, qa13⟩
 ·rw [if_neg c2] at H
  have c2b0 : decide (97 ≤ a0) = false := decide_eq_false c2; clear c2
  by_cases c6 : a0 ≥ 65
  ·rw [if_pos c6] at H
   have c6b0 : decide (65 ≤ a0) = true := decide_eq_true c6; clear c6
   by_cases c7 : a0 ≤ 90
   ·rw [if_pos c7] at H
    have c7b0 : decide (a0 ≤ 90) = true := decide_eq_true c7; clear c7; obtain rfl := Option.some.inj H
    go_enter Try.func59, Try.ntmps59
    go_wp2
    go_ret
    exact ⟨qa8, qa13⟩
   ·rw [if_neg c7] at H
    have c7b0 : decide (a0 ≤ 90) = false := decide_eq_false c7; clear c7; obtain rfl := Option.some.inj H
    go_enter Try.func59, Try.ntmps59
    go_wp2
    go_ret
    exact ⟨qa8, qa13⟩
  ·rw [if_neg c6] at H
   have c6b0 : decide (65 ≤ a0) = false := decide_eq_false c6; clear c6; obtain rfl := Option.some.inj H
   go_enter Try.func59, Try.ntmps59
   go_wp2
   go_ret
   exact ⟨qa8, qa13⟩


def impl_isDigit.f (a0 : Int) : Option (Bool) := if a0 ≥ 48 then (some (decide (a0 ≤ 57))) else (some false)
set_option maxHeartbeats 8000000 in
set_option maxRecDepth 100000 in
theorem impl_isDigit.calls (a0 : Int) (r : Bool) (w : World) (h : impl_isDigit.f a0 = some r) :
  Calls Try.prog 60 #[.int .u8 a0] w fun e w' => e = .returned (.bool r) ∧ Drawn0 w w' := by
 have H : (if a0 ≥ 48 then (some (decide (a0 ≤ 57))) else (some false)) = some r := h; clear h
 by_cases c2 : a0 ≥ 48
 ·rw [if_pos c2] at H
  have c2b0 : decide (48 ≤ a0) = true := decide_eq_true c2; clear c2; obtain rfl := Option.some.inj H
  go_enter Try.func60, Try.ntmps60
  go_wp2
  go_ret
  exact ⟨qa8, qa13⟩
 ·rw [if_neg c2] at H
  have c2b0 : decide (48 ≤ a0) = false := decide_eq_false c2; clear c2; obtain rfl := Option.some.inj H
  go_enter Try.func60, Try.ntmps60
  go_wp2
  go_ret
  exact ⟨qa8, qa13⟩


def impl_NameOK.l0 : Nat → ByteArray → Int → Int → Option (Bool)
 | 0, _, _, _ => none
 | k + 1, x0, x5, x6 => if x6 < x5 then (if 0 ≤ x6 then (if x6 < (x0.size : Int) then ((impl_isLetter.f (bt x0 x6)).bind fun t102 => (if t102 = true then (impl_NameOK.l0 k x0 x5 (wrap64 (x6 + 1))) else (if x6 = 0 then (some false) else ((impl_isDigit.f (bt x0 x6)).bind fun t103 => (if t103 = true then (impl_NameOK.l0 k x0 x5 (wrap64 (x6 + 1))) else (some false)))))) else (none)) else (none)) else ((impl_within.f (x0.size : Int) 1 40).bind fun t101 => (some t101))
def impl_NameOK.f (k : Nat) (a0 : ByteArray) : Option (Bool) := impl_NameOK.l0 k a0 (a0.size : Int) 0
set_option maxHeartbeats 8000000 in
set_option maxRecDepth 100000 in
theorem impl_NameOK.calls (k : Nat) (a0 : ByteArray) (r : Bool) (w : World) (h : impl_NameOK.f k a0 = some r) :
  Calls Try.prog 35 #[.string a0] w fun e w' => e = .returned (.bool r) ∧ Drawn0 w w' := by
 have H : (impl_NameOK.l0 k a0 (a0.size : Int) 0) = some r := h; clear h; have H' := qO H; clear H
 go_enter Try.func35, Try.ntmps35
 go_wp2
 go_loopg [6] k (fun kq v6 w' => ∃ (x6_1 : Int), v6 = .int .i64 x6_1 ∧ Aside0 (impl_NameOK.l0 kq a0 (a0.size : Int) x6_1 = some r) ∧ Aside0 (kq ≤ k) ∧ Drawn0 w w')
 case atStart => exact ⟨(0), qa8, H', ⟨Nat.le_refl _⟩, qa13⟩
 case round =>
  clear H'; obtain ⟨x6_1, rfl, HA, HK1, ⟨m1, rfl⟩⟩ := hrel
  cases gk with
  | zero => exact absurd HA.out (by simp [impl_NameOK.l0])
  | succ k1 =>
   have H := HA.out; clear HA; simp only [impl_NameOK.l0] at H
   by_cases c2 : x6_1 < (a0.size : Int)
   ·rw [if_pos c2] at H
    have c2b0 : decide (x6_1 < (a0.size : Int)) = true := decide_eq_true c2; clear c2
    by_cases c3 : 0 ≤ x6_1
    ·rw [if_pos c3] at H
     have c3b0 : decide (0 ≤ x6_1) = true := decide_eq_true c3; clear c3
     by_cases c4 : x6_1 < (a0.size : Int)
     ·rw [if_pos c4] at H
      have c4b0 : decide (x6_1 < (a0.size : Int)) = true := decide_eq_true c4; clear c4; replace H := Option.bind_eq_some_iff.mp H; obtain ⟨t102, A60, H⟩ := H; replace H : (if t102 = true then (impl_NameOK.l0 k1 a0 (a0.size : Int) (wrap64 (x6_1 + 1))) else (if x6_1 = 0 then (some false) else ((impl_isDigit.f (bt a0 x6_1)).bind fun t103 => (if t103 = true then (impl_NameOK.l0 k1 a0 (a0.size : Int) (wrap64 (x6_1 + 1))) else (some false))))) = some r := H; have A6 := qO A60; clear A60
      by_cases c7 : t102 = true
      ·subst c7
       have H1 : (impl_NameOK.l0 k1 a0 (a0.size : Int) (wrap64 (x6_1 + 1))) = some r := by rw [if_pos rfl] at H; exact H
       clear H; have H := H1; clear H1; have H' := qO H; clear H; have p5 : 0 ≤ (x6_1 : Int) := qT qa3; have q5 : x6_1 < (a0.size : Int) := qT qa3; have hx5 := bt_at a0 x6_1; replace p5 := eq_true p5; replace q5 := eq_true q5
       go_wp2_with (first | ((with_reducible refine gate_callee (f := 59) rfl ?_); refine goesL_ (some 12) rfl rfl Try.func59 qa9 rfl #[.int .u8 (bt a0 x6_1)] rfl qa2 ?_; (with_reducible refine (impl_isLetter.calls (bt a0 x6_1) true _ A6.out).mono ?_); rintro e w' ⟨rfl, ⟨nd, rfl⟩⟩; refine ⟨_, rfl, ?_⟩))
       go_roundg k1
       case measure => have := HK1.out; omega
       case rel => exact ⟨(wrap64 (x6_1 + 1)), qa8, H', ⟨qa55⟩, qa13⟩
      ·replace c7 := Bool.eq_false_iff.mpr c7
       subst c7; have H1 : (if x6_1 = 0 then (some false) else ((impl_isDigit.f (bt a0 x6_1)).bind fun t103 => (if t103 = true then (impl_NameOK.l0 k1 a0 (a0.size : Int) (wrap64 (x6_1 + 1))) else (some false)))) = some r := by rw [if_neg (show ¬ (false = true) by decide)] at H; exact H
       clear H; have H := H1; clear H1
       by_cases c8 : x6_1 = 0
       ·rw [if_pos c8] at H
        have c8b0 : (x6_1 == 0) = true := beq_iff_eq.mpr c8; have c8b1 : (x6_1 != 0) = false := bne_eq_false_iff_eq.mpr c8; clear c8; obtain rfl := Option.some.inj H; have p5 : 0 ≤ (x6_1 : Int) := qT qa3; have q5 : x6_1 < (a0.size : Int) := qT qa3; have hx5 := bt_at a0 x6_1; replace p5 := eq_true p5; replace q5 := eq_true q5
        go_wp2_with (first | ((with_reducible refine gate_callee (f := 59) rfl ?_); refine goesL_ (some 12) rfl rfl Try.func59 qa9 rfl #[.int .u8 (bt a0 x6_1)] rfl qa2 ?_; (with_reducible refine (impl_isLetter.calls (bt a0 x6_1) false _ A6.out).mono ?_); rintro e w' ⟨rfl, ⟨nd, rfl⟩⟩; refine ⟨_, rfl, ?_⟩))
        go_ret
        exact ⟨qa8, qa13⟩
       ·rw [if_neg c8] at H
        have c8b0 : (x6_1 == 0) = false := beq_eq_false_iff_ne.mpr c8; have c8b1 : (x6_1 != 0) = true := bne_iff_ne.mpr c8; replace H := Option.bind_eq_some_iff.mp H; obtain ⟨t103, A100, H⟩ := H; replace H : (if t103 = true then (impl_NameOK.l0 k1 a0 (a0.size : Int) (wrap64 (x6_1 + 1))) else (some false)) = some r := H; have A10 := qO A100; clear A100
        by_cases c11 : t103 = true
        ·subst c11
         have H1 : (impl_NameOK.l0 k1 a0 (a0.size : Int) (wrap64 (x6_1 + 1))) = some r := by rw [if_pos rfl] at H; exact H
         clear H; have H := H1; clear H1; have H' := qO H; clear H; have p5 : 0 ≤ (x6_1 : Int) := qT qa3; have q5 : x6_1 < (a0.size : Int) := qT qa3; have hx5 := bt_at a0 x6_1; replace p5 := eq_true p5; replace q5 := eq_true q5
         go_wp2_with (first | ((with_reducible refine gate_callee (f := 59) rfl ?_); refine goesL_ (some 12) rfl rfl Try.func59 qa9 rfl #[.int .u8 (bt a0 x6_1)] rfl qa2 ?_; (with_reducible refine (impl_isLetter.calls (bt a0 x6_1) false _ A6.out).mono ?_); rintro e w' ⟨rfl, ⟨nd, rfl⟩⟩; refine ⟨_, rfl, ?_⟩; have p9 : 0 ≤ (x6_1 : Int) := qT qa3; have q9 : x6_1 < (a0.size : Int) := qT qa3; have hx9 := bt_at a0 x6_1; replace p9 := eq_true p9; replace q9 := eq_true q9) | (go_at_call 60; (with_reducible refine (impl_isDigit.calls (bt a0 x6_1) true _ A10.out).mono ?_); rintro e w' ⟨rfl, ⟨nd, rfl⟩⟩))
         go_roundg k1
         case measure => have := HK1.out; omega
         case rel => exact ⟨(wrap64 (x6_1 + 1)), qa8, H', ⟨qa55⟩, qa13⟩
        ·replace c11 := Bool.eq_false_iff.mpr c11
         subst c11; have H1 : (some false) = some r := by rw [if_neg (show ¬ (false = true) by decide)] at H; exact H
         clear H; have H := H1; clear H1; obtain rfl := Option.some.inj H; have p5 : 0 ≤ (x6_1 : Int) := qT qa3; have q5 : x6_1 < (a0.size : Int) := qT qa3; have hx5 := bt_at a0 x6_1; replace p5 := eq_true p5; replace q5 := eq_true q5
         go_wp2_with (first | ((with_reducible refine gate_callee (f := 59) rfl ?_); refine goesL_ (some 12) rfl rfl Try.func59 qa9 rfl #[.int .u8 (bt a0 x6_1)] rfl qa2 ?_; (with_reducible refine (impl_isLetter.calls (bt a0 x6_1) false _ A6.out).mono ?_); rintro e w' ⟨rfl, ⟨nd, rfl⟩⟩; refine ⟨_, rfl, ?_⟩; have p9 : 0 ≤ (x6_1 : Int) := qT qa3; have q9 : x6_1 < (a0.size : Int) := qT qa3; have hx9 := bt_at a0 x6_1; replace p9 := eq_true p9; replace q9 := eq_true q9) | (go_at_call 60; (with_reducible refine (impl_isDigit.calls (bt a0 x6_1) false _ A10.out).mono ?_); rintro e w' ⟨rfl, ⟨nd, rfl⟩⟩))
         go_ret
         exact ⟨qa8, qa13⟩
     ·rw [if_neg c4] at H
      exact absurd H qa61
    ·rw [if_neg c3] at H
     exact absurd H qa61
   ·rw [if_neg c2] at H
    have c2b0 : decide (x6_1 < (a0.size : Int)) = false := decide_eq_false c2; clear c2; replace H := Option.bind_eq_some_iff.mp H; obtain ⟨t101, A120, H⟩ := H; replace H : (some t101) = some r := H; have A12 := qO A120; clear A120; obtain rfl := Option.some.inj H
    go_wp2_with (first | ((with_reducible refine gate_callee (f := 33) rfl ?_); refine goesL_ (some 28) rfl rfl Try.func33 qa9 rfl #[.int .i64 (a0.size : Int), .int .i64 1, .int .i64 40] rfl qa2 ?_; (with_reducible refine (impl_within.calls (a0.size : Int) 1 40 t101 _ A12.out).mono ?_); rintro e w' ⟨rfl, ⟨nd, rfl⟩⟩; refine ⟨_, rfl, ?_⟩))
    go_ret
    exact ⟨qa8, qa13⟩

end Go.Proofs.Ytoogmlghfljeiaa.Q
namespace Go.Proofs.Ytoogmlghfljeiaa.Pure2
open Go.RowKit Go.Proofs.Ytoogmlghfljeiaa.Q Go.Proofs.YtoogmlghfljeiaaW.PrintWords Go.Proofs.YtoogmlghfljeiaaW.PrintLast
set_option linter.unusedVariables false
set_option linter.unusedSimpArgs false
/-! small words -/
theorem wsucc {j n : Nat} (h : j < n) (hn : n ≤ 4611686018427387904) : wrap64 ((j : Int) + 1) = ((j + 1 : Nat) : Int) := by unfold wrap64; omega
theorem ev_step {α : Type} {g f : Nat → Option α} {r : α} (h : ∃ K, ∀ k, K ≤ k → g (k + 1) = f k) (k : Ev f r) : Ev g r := by
  obtain ⟨K, h⟩ := h
  obtain ⟨K', k⟩ := k
  refine ⟨max K K' + 1, fun n hn => ?_⟩
  obtain ⟨m, rfl⟩ : ∃ m, n = m + 1 := ⟨n - 1, qa22⟩
  rw [h m qa22, k m qa22]
theorem ev_now {α : Type} {g : Nat → Option α} {r : α} (h : ∃ K, ∀ k, K ≤ k → g (k + 1) = some r) : Ev g r := ev_step (f := fun _ => some r) h (Ev.now r)
theorem ev_same {α : Type} {g f : Nat → Option α} {r : α} (h : ∃ K, ∀ k, K ≤ k → g k = f k) (k : Ev f r) : Ev g r := by
  obtain ⟨K, h⟩ := h
  obtain ⟨K', k⟩ := k
  exact ⟨max K K', fun n hn => by rw [h n qa22, k n qa22]⟩
theorem ev_two {α β : Type} {g : Nat → Option α} {f : Nat → Option β} {r : α} {q : β} (h : Ev g r) (k : Ev f q) : ∃ K, ∀ n, K ≤ n → g n = some r ∧ f n = some q := by
  obtain ⟨K, h⟩ := h
  obtain ⟨K', k⟩ := k
  exact ⟨max K K', fun n hn => ⟨h n qa22, k n qa22⟩⟩
theorem ev_mk {α : Type} {g : Nat → Option α} {r : α} (K : Nat) (h : ∀ k, K ≤ k → g k = some r) : Ev g r := ⟨K, h⟩
theorem ev_at {α : Type} {g : Nat → Option α} {r : α} (h : Ev g r) : ∃ K, ∀ k, K ≤ k → g k = some r := h
/-- A loop that counts up to n: from the end back. -/
theorem count_loop {ρ : Type} (n : Nat) (L : Nat → Int → Option ρ) (Post : Nat → ρ → Prop) (hend : ∃ r, Post n r ∧ Ev (fun k => L k (n : Int)) r)
    (hstep : ∀ j, j < n → ∀ r, Post (j + 1) r → Ev (fun k => L k ((j + 1 : Nat) : Int)) r → ∃ r', Post j r' ∧ Ev (fun k => L k (j : Int)) r') :
    ∀ j, j ≤ n → ∃ r, Post j r ∧ Ev (fun k => L k (j : Int)) r := by
  have key : ∀ d j, j ≤ n → n - j = d → ∃ r, Post j r ∧ Ev (fun k => L k (j : Int)) r := by
    intro d
    induction d with
    | zero => intro j hj hd; obtain rfl : j = n := by omega
              exact hend
    | succ d ih =>
      intro j hj hd
      obtain ⟨r, hp, he⟩ := ih (j + 1) qa22 qa22
      exact hstep j qa22 r hp he
  intro j hj
  exact key _ j hj rfl
/-- A loop that carries a state up to n. -/
theorem state_loop {σ ρ : Type} (n : Nat) (L : Nat → σ → Int → Option ρ) (Inv : Nat → σ → Prop) (Post : Nat → σ → ρ → Prop) (hend : ∀ s, Inv n s → ∃ r, Post n s r ∧ Ev (fun k => L k s (n : Int)) r)
    (hstep : ∀ j s, j < n → Inv j s → (∃ r, Post j s r ∧ Ev (fun k => L k s (j : Int)) r) ∨ ∃ s', Inv (j + 1) s' ∧ (∀ r, Post (j + 1) s' r → Post j s r) ∧ ∃ K, ∀ k, K ≤ k → L (k + 1) s (j : Int) = L k s' ((j + 1 : Nat) : Int)) :
    ∀ j s, j ≤ n → Inv j s → ∃ r, Post j s r ∧ Ev (fun k => L k s (j : Int)) r := by
  have key : ∀ d j s, j ≤ n → n - j = d → Inv j s → ∃ r, Post j s r ∧ Ev (fun k => L k s (j : Int)) r := by
    intro d
    induction d with
    | zero => intro j s hj hd hi; obtain rfl : j = n := by omega
              exact hend s hi
    | succ d ih =>
      intro j s hj hd hi
      rcases hstep j s qa22 hi with h | ⟨s', hi', hp, hk⟩
      · exact h
      · obtain ⟨r, hr, he⟩ := ih (j + 1) s' qa22 qa22 hi'
        exact ⟨r, hp r hr, ev_step hk he⟩
  intro j s hj hi
  exact key _ j s hj rfl hi
/-- A loop that fills a row of its own. -/
theorem fill_loop {α β : Type} (xs : List α) (z : α) (g : α → β) (L : Nat → List β → Int → Option (List β)) (hend : ∀ y : List β, y.length = xs.length → ∃ K, ∀ k, K ≤ k → L (k + 1) y (xs.length : Int) = some y)
    (hstep : ∀ (j : Nat) (y : List β), j < xs.length → y.length = xs.length → ∃ K, ∀ k, K ≤ k → L (k + 1) y (j : Int) = L k (y.set j (g (xs.getD j z))) ((j + 1 : Nat) : Int)) (y : List β) (hy : y.length = xs.length) :
    Ev (fun k => L k y 0) (xs.map g) := by
  obtain ⟨r, hr, he⟩ := state_loop xs.length L (fun j y => y.length = xs.length ∧ ∀ i, i < j → y[i]? = (xs.map g)[i]?) (fun _ _ r => r = xs.map g) (fun y hi => ⟨y, List.ext_getElem? fun i => by
      by_cases hi' : i < xs.length
      · exact hi.2 i hi'
      · rw [List.getElem?_eq_none qa22, List.getElem?_eq_none (by simp; omega)], ev_now (hend y hi.1)⟩) (fun j y hj hi => .inr ⟨_, ⟨by simp [hi.1], fun i hij => by
      by_cases he : i = j
      · subst he
        rw [List.getElem?_set_self qa22]
        simp [List.getD_eq_getElem?_getD, List.getElem?_eq_getElem hj]
      · rw [List.getElem?_set_ne qa22]
        exact hi.2 i qa22⟩, fun r h => h, hstep j y hj hi.1⟩) 0 y qa22 ⟨hy, fun i hi => by omega⟩
  subst hr
  exact he
theorem spec_in (a b c : Int) : spec_l01In.f a b c = some (decide (b ≤ a ∧ a ≤ c)) := by
  unfold spec_l01In.f
  by_cases h : b ≤ a
  · rw [if_pos h]; simp [h]
  · rw [if_neg h]; simp [h]
theorem impl_in (a b c : Int) : impl_within.f a b c = some (decide (b ≤ a ∧ a ≤ c)) := spec_in a b c
/-- A letter or _; a digit. -/
def isL (b : Int) : Bool := decide (97 ≤ b ∧ b ≤ 122 ∨ 65 ≤ b ∧ b ≤ 90 ∨ b = 95)
def isD (b : Int) : Bool := decide (48 ≤ b ∧ b ≤ 57)
/-- What a name is. -/
def IsName (s : ByteArray) : Prop := 1 ≤ s.size ∧ s.size ≤ 40 ∧ isL (bt s 0) = true ∧ ∀ i : Int, 1 ≤ i → i < s.size → isL (bt s i) = true ∨ isD (bt s i) = true
theorem beq95 (b : Int) (h : ¬ (97 ≤ b ∧ b ≤ 122)) (h' : ¬ (65 ≤ b ∧ b ≤ 90)) : (b == 95) = isL b := by
  unfold isL
  by_cases e : b = 95
  · subst e; rfl
  · rw [beq_eq_false_iff_ne.mpr e]; symm; simp only [decide_eq_false_iff_not]; omega
theorem impl_letter (b : Int) : impl_isLetter.f b = some (isL b) := by
  unfold impl_isLetter.f
  by_cases h1 : b ≥ 97 <;> by_cases h2 : b ≤ 122 <;> by_cases h3 : b ≥ 65 <;> by_cases h4 : b ≤ 90 <;> simp only [h1, h2, h3, h4, if_true, if_false, Option.some.injEq] <;>
    first | exact beq95 b qa22 qa22 | (symm; unfold isL; simp only [decide_eq_true_eq]; omega)
theorem spec_letter (b : Int) : spec_l00Letter.f b = some (isL b) := impl_letter b
theorem impl_digit (b : Int) : impl_isDigit.f b = some (isD b) := by
  unfold impl_isDigit.f isD
  by_cases h1 : b ≥ 48
  · rw [if_pos h1]; simp only [Option.some.injEq, decide_eq_decide]; omega
  · rw [if_neg h1]; simp only [Option.some.injEq]; symm; rw [decide_eq_false_iff_not]; omega
theorem spec_digit (b : Int) : spec_l00Digit.f b = some (isD b) := impl_digit b
/-- The reference's loop, from i on. -/
theorem spec_word_from (s : ByteArray) (hn : s.size ≤ 1048576) (d : Nat) : ∀ (k : Nat) (i : Int), 0 ≤ i → i ≤ s.size → (s.size : Int) - i = d → d < k →
    ∃ r, spec_l00Word.l0 k s i = some r ∧ (r = true ↔ ∀ j : Int, i ≤ j → j < s.size → isL (bt s j) = true ∨ isD (bt s j) = true) := by
  induction d with
  | zero =>
    intro k i h0 h1 hd hk
    obtain ⟨k, rfl⟩ : ∃ m, k = m + 1 := ⟨k - 1, qa22⟩
    refine ⟨true, ?_, ⟨fun _ j h2 h3 => by omega, fun _ => rfl⟩⟩
    simp only [spec_l00Word.l0]; rw [if_neg qa22]
  | succ d ih =>
    intro k i h0 h1 hd hk
    obtain ⟨k, rfl⟩ : ∃ m, k = m + 1 := ⟨k - 1, qa22⟩
    have hw : wrap64 (i + 1) = i + 1 := by unfold wrap64; omega
    obtain ⟨r, e, hr⟩ := ih k (i + 1) qa22 qa22 qa22 qa22
    have step : (isL (bt s i) = true ∨ isD (bt s i) = true) → (r = true ↔ ∀ j : Int, i ≤ j → j < s.size → isL (bt s j) = true ∨ isD (bt s j) = true) := by
      intro hh
      rw [hr]
      constructor
      · intro h j h2 h3
        rcases Int.lt_or_eq_of_le h2 with h4 | h4
        · exact h j qa22 h3
        · rw [← h4]; exact hh
      · intro h j h2 h3; exact h j qa22 h3
    simp only [spec_l00Word.l0]; rw [if_pos qa22, if_pos h0, spec_letter]; simp only [Option.bind_some]
    by_cases hl : isL (bt s i) = true
    · rw [if_pos hl, hw]; exact ⟨r, e, step (.inl hl)⟩
    · rw [if_neg hl, spec_digit]; simp only [Option.bind_some]
      by_cases hdg : isD (bt s i) = true
      · rw [if_pos hdg, hw]; exact ⟨r, e, step (.inr hdg)⟩
      · rw [if_neg hdg]
        exact ⟨false, rfl, ⟨fun h => (by cases h), fun h => absurd (h i (Int.le_refl _) qa22) (fun h => h.elim hl hdg)⟩⟩
theorem spec_name (s : ByteArray) (hn : s.size ≤ 1048576) : ∃ r, (∀ k, s.size + 1 < k → spec_NameOK.f k s = some r) ∧ (r = true ↔ IsName s) := by
  by_cases h1 : (s.size : Int) < 1
  · refine ⟨false, fun k hk => ?_, ⟨fun h => (by cases h), fun h => absurd h.1 qa22⟩⟩
    obtain ⟨k, rfl⟩ : ∃ m, k = m + 1 := ⟨k - 1, qa22⟩
    unfold spec_NameOK.f spec_l00Word.f
    rw [if_pos h1]; rfl
  · by_cases h2 : (s.size : Int) > 40
    · refine ⟨false, fun k hk => ?_, ⟨fun h => (by cases h), fun h => absurd h.2.1 qa22⟩⟩
      obtain ⟨k, rfl⟩ : ∃ m, k = m + 1 := ⟨k - 1, qa22⟩
      unfold spec_NameOK.f spec_l00Word.f
      rw [if_neg h1, if_pos h2]; rfl
    · by_cases hl : isL (bt s 0) = true
      · obtain ⟨r, _, hr⟩ := spec_word_from s hn (s.size - 1) (s.size + 1) 1 qa22 qa22 qa22 qa22
        refine ⟨r, fun k hk => ?_, ?_⟩
        · obtain ⟨k, rfl⟩ : ∃ m, k = m + 1 := ⟨k - 1, qa22⟩
          obtain ⟨r', e', hr'⟩ := spec_word_from s hn (s.size - 1) k 1 qa22 qa22 qa22 qa22
          have : r' = r := by rw [Bool.eq_iff_iff, hr, hr']
          subst this
          unfold spec_NameOK.f spec_l00Word.f
          rw [if_neg h1, if_neg h2, if_pos qa22, spec_letter]; simp only [Option.bind_some, hl, Bool.not_true, spec_l00Word.j0]
          rw [if_neg qa61, e']; rfl
        · rw [hr]; exact ⟨fun h => ⟨qa22, qa22, hl, h⟩, fun h => h.2.2.2⟩
      · refine ⟨false, fun k hk => ?_, ⟨fun h => (by cases h), fun h => absurd h.2.2.1 hl⟩⟩
        obtain ⟨k, rfl⟩ : ∃ m, k = m + 1 := ⟨k - 1, qa22⟩
        unfold spec_NameOK.f spec_l00Word.f
        rw [if_neg h1, if_neg h2, if_pos qa22, spec_letter]; simp only [Option.bind_some]
        have : isL (bt s 0) = false := by simpa using hl
        rw [this]; rfl
/-- The program's loop, from i on. -/
theorem impl_name_from (s : ByteArray) (hn : s.size ≤ 1048576) (d : Nat) : ∀ (k : Nat) (i : Int), 0 ≤ i → i ≤ s.size → (s.size : Int) - i = d → d < k →
    ∃ r, impl_NameOK.l0 k s s.size i = some r ∧ (r = true ↔ (1 ≤ s.size ∧ s.size ≤ 40) ∧ ∀ j : Int, i ≤ j → j < s.size → isL (bt s j) = true ∨ j ≠ 0 ∧ isD (bt s j) = true) := by
  induction d with
  | zero =>
    intro k i h0 h1 hd hk
    obtain ⟨k, rfl⟩ : ∃ m, k = m + 1 := ⟨k - 1, qa22⟩
    simp only [impl_NameOK.l0]; rw [if_neg qa22]
    unfold impl_within.f
    by_cases h2 : (s.size : Int) ≥ 1
    · rw [if_pos h2]
      refine ⟨_, rfl, ?_⟩
      simp only [decide_eq_true_eq]
      exact ⟨fun h => ⟨⟨qa22, qa22⟩, fun j _ _ => by omega⟩, fun h => by omega⟩
    · rw [if_neg h2]
      refine ⟨_, rfl, ?_⟩
      exact ⟨fun h => by simp at h, fun h => by omega⟩
  | succ d ih =>
    intro k i h0 h1 hd hk
    obtain ⟨k, rfl⟩ : ∃ m, k = m + 1 := ⟨k - 1, qa22⟩
    have hw : wrap64 (i + 1) = i + 1 := by unfold wrap64; omega
    obtain ⟨r, e, hr⟩ := ih k (i + 1) qa22 qa22 qa22 qa22
    have step : (isL (bt s i) = true ∨ i ≠ 0 ∧ isD (bt s i) = true) → (r = true ↔ (1 ≤ s.size ∧ s.size ≤ 40) ∧ ∀ j : Int, i ≤ j → j < s.size → isL (bt s j) = true ∨ j ≠ 0 ∧ isD (bt s j) = true) := by
      intro hh
      rw [hr]
      constructor
      · intro ⟨h', h⟩
        refine ⟨h', fun j h2 h3 => ?_⟩
        rcases Int.lt_or_eq_of_le h2 with h4 | h4
        · exact h j qa22 h3
        · rw [← h4]; exact hh
      · intro ⟨h', h⟩; exact ⟨h', fun j h2 h3 => h j qa22 h3⟩
    simp only [impl_NameOK.l0]; rw [if_pos qa22, if_pos h0, if_pos qa22, impl_letter]; simp only [Option.bind_some]
    by_cases hl : isL (bt s i) = true
    · rw [if_pos hl, hw]; exact ⟨r, e, step (.inl hl)⟩
    · rw [if_neg hl]
      by_cases hz : i = 0
      · rw [if_pos hz]
        exact ⟨false, rfl, ⟨fun h => (by cases h), fun h => absurd (h.2 i (Int.le_refl _) qa22) (fun h => h.elim hl (fun h => h.1 hz))⟩⟩
      · rw [if_neg hz, impl_digit]; simp only [Option.bind_some]
        by_cases hdg : isD (bt s i) = true
        · rw [if_pos hdg, hw]; exact ⟨r, e, step (.inr ⟨hz, hdg⟩)⟩
        · rw [if_neg hdg]
          exact ⟨false, rfl, ⟨fun h => (by cases h), fun h => absurd (h.2 i (Int.le_refl _) qa22) (fun h => h.elim hl (fun h => hdg h.2))⟩⟩
theorem impl_name (s : ByteArray) (hn : s.size ≤ 1048576) : ∃ r, (∀ k, s.size + 1 < k → impl_NameOK.f k s = some r) ∧ (r = true ↔ IsName s) := by
  obtain ⟨r, _, hr⟩ := impl_name_from s hn s.size (s.size + 1) 0 qa22 qa22 qa22 qa22
  refine ⟨r, fun k hk => ?_, ?_⟩
  · obtain ⟨r', e', hr'⟩ := impl_name_from s hn s.size k 0 qa22 qa22 qa22 qa22
    have : r' = r := by rw [Bool.eq_iff_iff, hr, hr']
    subst this
    exact e'
  · rw [hr]
    constructor
    · rintro ⟨⟨h1, h2⟩, h⟩
      refine ⟨h1, h2, ?_, fun j hj hj' => ?_⟩
      · have := h 0 qa22 qa22
        simpa using this
      · rcases h j qa22 hj' with h | h
        · exact .inl h
        · exact .inr h.2
    · rintro ⟨h1, h2, h3, h⟩
      refine ⟨⟨h1, h2⟩, fun j hj hj' => ?_⟩
      by_cases hz : j = 0
      · subst hz; exact .inl h3
      · rcases h j qa22 hj' with h | h
        · exact .inl h
        · exact .inr ⟨hz, h⟩
/-- Both say the same. -/
theorem names_agree (s : ByteArray) (hn : s.size ≤ 1048576) : ∃ r, (∀ k, s.size + 1 < k → spec_NameOK.f k s = some r ∧ impl_NameOK.f k s = some r) ∧ (r = true ↔ IsName s) := by
  obtain ⟨r, e, hr⟩ := spec_name s hn
  obtain ⟨r', e', hr'⟩ := impl_name s hn
  have : r' = r := by rw [Bool.eq_iff_iff, hr, hr']
  subst this
  exact ⟨r', fun k hk => ⟨e k hk, e' k hk⟩, hr⟩
theorem names_ev (s : ByteArray) (hn : s.size ≤ 1048576) : ∃ r, Ev (fun k => spec_NameOK.f k s) r ∧ Ev (fun k => impl_NameOK.f k s) r ∧ (r = true ↔ IsName s) := by
  obtain ⟨r, h, hr⟩ := names_agree s hn
  exact ⟨r, ev_mk (s.size + 2) (fun k hk => (h k qa22).1), ev_mk (s.size + 2) (fun k hk => (h k qa22).2), hr⟩
end Go.Proofs.Ytoogmlghfljeiaa.Pure2
namespace Go.Proofs.Ytoogmlghfljeiaa.Q
open Go.RowKit Go.Proofs.YtoogmlghfljeiaaW.PrintWords Go.Proofs.YtoogmlghfljeiaaW.PrintLast Go.Proofs.YtoogmlghfljeiaaW.PrintMore
attribute [local go_sem] max2_int min2_int max_two min_two max_three min_three max_four min_four
set_option linter.unusedVariables false
set_option linter.unusedSimpArgs false

def laws_toArgDef.f (a0_0 : ByteArray) (a0_1 : Bool) : Option (ByteArray × Bool) := some (a0_0, a0_1)
set_option maxHeartbeats 8000000 in
set_option maxRecDepth 100000 in
theorem laws_toArgDef.calls (a0_0 : ByteArray) (a0_1 : Bool) (r1 : ByteArray) (r2 : Bool) (w : World) (h : laws_toArgDef.f a0_0 a0_1 = some (r1, r2)) :
  Calls Try.prog 87 #[.agg #[.string a0_0, .bool a0_1]] w fun e w' => e = .returned (.agg #[.string r1, .bool r2]) ∧ Below w.heap.size w w' := by
 have hu106 := Try.underlying106; have hu57 := Try.underlying57; have HB := qO (Below.refl w.heap.size w); have H : (some (a0_0, a0_1)) = some (r1, r2) := h; clear h; simp only [Option.some.injEq, Prod.mk.injEq] at H; obtain ⟨rfl, rfl⟩ := H
 go_enter Try.func87, Try.ntmps87
 go_wp2_with (first | ((with_reducible refine gate_dst (N := 1) rfl ?_); refine box_event ?hg (N := 1) ?hd (cs := #[.string a0_0, .bool a0_1]) (t := 106) ?hr ?_; (case hd => rfl); (case hg => rfl); (case hr => exact qa12); intro gb101 hg w2 hbox hb; have hx_ := qHX HB hb qa0; have n0_ := qO (below_step (below_step HB.out hx_) hb); have n1_ := qO (hbox); have n2_ := qO ((qa11 : w.heap.size ≤ gb101)); have n3_ := n2_; clear HB; have HB := n0_; have BK101 := n1_; have GW101 := n2_; have GE101 := n3_; clear n0_ n1_ n2_ n3_; clear hx_; clear hb hbox hg) | ((with_reducible refine gate_dst (N := 2) rfl ?_); refine box_event ?hg (N := 2) ?hd (cs := #[.string (⟨#[]⟩ : ByteArray), .bool false]) (t := 57) ?hr ?_; (case hd => rfl); (case hg => rfl); (case hr => exact qa12); intro gb102 hg w3 hbox hb; have hx_ := qHX HB hb qa0; have n0_ := qO (qB BK101.out hx_ hb); have n1_ := qO (below_step (below_step HB.out hx_) hb); have n2_ := qO (hbox); have n3_ := qO ((qa11 : w.heap.size ≤ gb102)); have n4_ := n3_; have n5_ := qO ((qa51 : gb101 ≠ gb102)); have n6_ := qO (Ne.symm n5_.out); clear BK101; clear HB; have BK101 := n0_; have HB := n1_; have BK102 := n2_; have GW102 := n3_; have GE102 := n4_; have NB101_102 := n5_; have NB102_101 := n6_; clear n0_ n1_ n2_ n3_ n4_ n5_ n6_; clear hx_; clear hb hbox hg) | ((with_reducible refine gate_dst (N := 3) rfl ?_); refine box_event ?hg (N := 3) ?hd (cs := #[.string (⟨#[]⟩ : ByteArray), .bool false]) (t := 57) ?hr ?_; (case hd => rfl); (case hg => rfl); (case hr => exact qa12); intro gb103 hg w4 hbox hb; have hx_ := qHX HB hb qa0; have n0_ := qO (qB BK101.out hx_ hb); have n1_ := qO (qB BK102.out hx_ hb); have n2_ := qO (below_step (below_step HB.out hx_) hb); have n3_ := qO (hbox); have n4_ := qO ((qa11 : w.heap.size ≤ gb103)); have n5_ := n4_; have n6_ := qO ((qa51 : gb101 ≠ gb103)); have n7_ := qO (Ne.symm n6_.out); have n8_ := qO ((by rw [hg]; exact Nat.ne_of_lt (blk_lt (g := gb102) (o := .cells #[.string (⟨#[]⟩ : ByteArray), .bool false] 57 (0, 0)) (by (with_reducible repeat (first | refine qkN ?_ _ | refine qkD ?_ | refine qkA ?_ _)); exact BK102.out)) : gb102 ≠ gb103)); have n9_ := qO (Ne.symm n8_.out); clear BK101; clear BK102; clear HB; have BK101 := n0_; have BK102 := n1_; have HB := n2_; have BK103 := n3_; have GW103 := n4_; have GE103 := n5_; have NB101_103 := n6_; have NB103_101 := n7_; have NB102_103 := n8_; have NB103_102 := n9_; clear n0_ n1_ n2_ n3_ n4_ n5_ n6_ n7_ n8_ n9_; clear hx_; clear hb hbox hg; have hnb5 := NB101_102.out; have hnc5 := NB102_101.out; have hnb6 := NB101_103.out; have hnc6 := NB103_101.out; have hcz7_0 : w4.cell? ⟨gb101, 0, none⟩ = some (.string a0_0) := (blk_cell BK101.out 0).trans rfl; have hcz7_1 : w4.cell? ⟨gb101, 1, none⟩ = some (.bool a0_1) := (blk_cell BK101.out 1).trans rfl; have hfz7_0 := blk_frozen BK101.out 0; have hfz7_1 := blk_frozen BK101.out 1; have hnb8 := NB103_102.out; have hnc8 := NB102_103.out; have hcz9_0 : w4.cell? ⟨gb103, 0, none⟩ = some (.string (⟨#[]⟩ : ByteArray)) := (blk_cell BK103.out 0).trans rfl; have hcz9_1 : w4.cell? ⟨gb103, 1, none⟩ = some (.bool false) := (blk_cell BK103.out 1).trans rfl; have hfz9_0 := blk_frozen BK103.out 0; have hfz9_1 := blk_frozen BK103.out 1; have hcz10_0 : w4.cell? ⟨gb102, 0, none⟩ = some (.string (⟨#[]⟩ : ByteArray)) := (blk_cell BK102.out 0).trans rfl; have hcz10_1 : w4.cell? ⟨gb102, 1, none⟩ = some (.bool false) := (blk_cell BK102.out 1).trans rfl; have hfz10_0 := blk_frozen BK102.out 0; have hfz10_1 := blk_frozen BK102.out 1))
 refine bodyPost_ret (results_cell_row rfl _ _ gb102 57 #[.string a0_0, .bool a0_1] (0, 0) _ rfl (by (with_reducible repeat (first | refine qkN ?_ _ | refine qkD ?_ | refine qkA ?_ _)); refine blk_put (cs := #[.string a0_0, .bool false]) ?_ 1 _ rfl; (with_reducible repeat (first | refine qkN ?_ _ | refine qkD ?_ | refine qkA ?_ _)); refine blk_put (cs := #[.string (⟨#[]⟩ : ByteArray), .bool false]) ?_ 0 _ rfl; (with_reducible repeat (first | refine qkN ?_ _ | refine qkD ?_ | refine qkA ?_ _)); refine blk_far ?_ NB102_103.out _; (with_reducible repeat (first | refine qkN ?_ _ | refine qkD ?_ | refine qkA ?_ _)); refine blk_far ?_ NB102_103.out _; (with_reducible repeat (first | refine qkN ?_ _ | refine qkD ?_ | refine qkA ?_ _)); exact BK102.out) Try.underlying57 rfl qa9) rfl ?_
 exact ⟨qa6, qa19⟩


def laws_toArgDefS.l0 : Nat → List (S106) → List (S57) → Int → Option ((List (S57)))
 | 0, _, _, _ => none
 | k + 1, x0, x3, x4 => if x4 < (x0.length : Int) then (if 0 ≤ x4 then ((laws_toArgDef.f ((rd_T106 x0 x4).f0) ((rd_T106 x0 x4).f1)).bind fun bt105 => (if x4 < (x3.length : Int) then (laws_toArgDefS.l0 k x0 (x3.set (x4 : Int).toNat (⟨bt105.1, bt105.2⟩ : S57)) (wrap64 (x4 + 1))) else (none))) else (none)) else (some x3)
def laws_toArgDefS.f (k : Nat) (l0 : List (S106)) : Option ((List (S57))) := if 0 ≤ (l0.length : Int) then (if ((l0.length : Int) : Int).toNat ≤ 11728124029610 then (laws_toArgDefS.l0 k l0 (List.replicate ((l0.length : Int) : Int).toNat z57) 0) else (none)) else (none)
set_option maxHeartbeats 8000000 in
set_option maxRecDepth 100000 in
theorem laws_toArgDefS.calls (k : Nat) (A0 : Option Addr) (c0 : Nat) (l0 : List (S106)) (r : List (S57)) (w : World) (hr0 : Kd.C k106 w A0 l0.length l0) (hc0 : l0.length ≤ c0) (h : laws_toArgDefS.f k l0 = some r) :
  Calls Try.prog 85 #[.slice A0 l0.length c0] w fun e w' => ∃ v0_ : Value, e = .returned (v0_) ∧ Kd.R k57 57 w' w.heap.size (fun _ => True) v0_ r ∧ Below w.heap.size w w' := by
 have hu106 := Try.underlying106; have hu57 := Try.underlying57; have HR0 := qO hr0; have HC0 := qO hc0; clear hr0 hc0; have HB := qO (Below.refl w.heap.size w); have H : (if 0 ≤ (l0.length : Int) then (if ((l0.length : Int) : Int).toNat ≤ 11728124029610 then (laws_toArgDefS.l0 k l0 (List.replicate ((l0.length : Int) : Int).toNat z57) 0) else (none)) else (none)) = some r := h; clear h
 by_cases c2 : 0 ≤ (l0.length : Int)
 ·rw [if_pos c2] at H
  have c2b0 := eq_true c2; have c2b1 : decide (0 ≤ (l0.length : Int)) = true := decide_eq_true c2; clear c2
  by_cases c3 : ((l0.length : Int) : Int).toNat ≤ 11728124029610
  ·rw [if_pos c3] at H
   have c3b0 := eq_true c3; have c3b1 : decide (((l0.length : Int) : Int).toNat ≤ 11728124029610) = true := decide_eq_true c3; clear c3; obtain ⟨y101, hy101⟩ : ∃ y_ : List (S57), y_ = (List.replicate ((l0.length : Int) : Int).toNat z57) := ⟨_, rfl⟩; replace H : (laws_toArgDefS.l0 k l0 y101 0) = some r := by first | (rw [hy101]; with_reducible exact H) | (have H2_ := (Option.bind_some _ _).symm.trans H; rw [hy101]; with_reducible exact H2_) | (have H2_ := (Option.bind_some _ _).symm.trans H; with_reducible exact H2_) | with_reducible exact H | (rw [hy101]; exact H) | exact H
   have Ny101 := qO hy101; clear hy101; have H' := qO H; clear H
   go_enter Try.func85, Try.ntmps85
   go_wp2_with (first | ((with_reducible refine gate_dst (N := 7) rfl ?_); refine Kd.R_make k57 _ 57 rfl (N := 7) rfl 36 _ _ rfl (l0.length : Int) rfl rfl Try.underlying36 (.agg #[(.string ⟨#[]⟩), (.bool false)]) 24 info57 rfl qa66 qa22 z57 (ok := fun _ => True) (okp := fun _ => True) (k57_mkM _ _ _ z57 ) (fun _ hk => hk) trivial (qT qa3) (Nat.le_trans (Nat.mul_le_mul_right _ (qT qa3 : (l0.length : Int).toNat ≤ 11728124029610)) qa22) (Below.refl _ _) (Nat.le_refl _) ?_; intro v102 w4 ho5 hb hg_ hnew_; clear hg_ hnew_; (first | rw [← Ny101.out] at ho5 | (simp only [Int.reduceToNat] at ho5; rw [← Ny101.out] at ho5)); have n0_ := qO (Kd.R_lower ho5 (below_size qa4)); have n1_ := qO (below_step qa4 hb); clear HB; have HO103 := n0_; have HB := n1_; clear n0_ n1_; clear hb ho5))
   go_loopg [4] k (fun kq v4 w' => ∃ (x3_1 : List (S57)) (x4_1 : Int), v4 = .int .i64 x4_1 ∧ Aside0 (laws_toArgDefS.l0 kq l0 x3_1 x4_1 = some r) ∧ Aside0 (kq ≤ k) ∧ Aside0 (Kd.R k57 57 w' w.heap.size (fun _ => True) v102 x3_1) ∧ Aside0 (Below w.heap.size w w'))
   case atStart => exact ⟨(y101), (0), qa8, H', ⟨Nat.le_refl _⟩, ⟨qa65⟩, ⟨qa4⟩⟩
   case round =>
    clear H'
    try clear c2
    try clear c2b0
    try clear c2b1
    try clear p2
    try clear c3
    try clear c3b0
    try clear c3b1
    obtain ⟨x3_1, x4_1, rfl, HA, HK1, HO_3, HB⟩ := hrel
    cases gk with
    | zero => exact absurd HA.out (by simp [laws_toArgDefS.l0])
    | succ k1 =>
     have H := HA.out; clear HA; simp only [laws_toArgDefS.l0] at H
     by_cases c6 : x4_1 < (l0.length : Int)
     ·rw [if_pos c6] at H
      have c6b0 : decide (x4_1 < (l0.length : Int)) = true := decide_eq_true c6; clear c6
      by_cases c7 : 0 ≤ x4_1
      ·rw [if_pos c7] at H
       have c7b0 : decide (0 ≤ x4_1) = true := decide_eq_true c7; clear c7; replace H := Option.bind_eq_some_iff.mp H; obtain ⟨⟨t105, t106⟩, A80, H⟩ := H; replace H : (if x4_1 < (x3_1.length : Int) then (laws_toArgDefS.l0 k1 l0 (x3_1.set (x4_1 : Int).toNat (⟨t105, t106⟩ : S57)) (wrap64 (x4_1 + 1))) else (none)) = some r := H; have A8 := qO A80; clear A80
       by_cases c9 : x4_1 < (x3_1.length : Int)
       ·rw [if_pos c9] at H
        have c9b0 : decide (x4_1 < (x3_1.length : Int)) = true := decide_eq_true c9; clear c9; obtain ⟨y107, hy107⟩ : ∃ y_ : List (S57), y_ = (x3_1.set (x4_1 : Int).toNat (⟨t105, t106⟩ : S57)) := ⟨_, rfl⟩; replace H : (laws_toArgDefS.l0 k1 l0 y107 (wrap64 (x4_1 + 1))) = some r := by first | (rw [hy107]; with_reducible exact H) | (have H2_ := (Option.bind_some _ _).symm.trans H; rw [hy107]; with_reducible exact H2_) | (have H2_ := (Option.bind_some _ _).symm.trans H; with_reducible exact H2_) | with_reducible exact H | (rw [hy107]; exact H) | exact H
        have Ny107 := qO hy107; clear hy107; have H' := qO H; clear H; have p104 : 0 ≤ (x4_1 : Int) := qT qa3; have q104 : x4_1 < (l0.length : Int) := qT qa3; obtain ⟨ad104, e104, hx104_0, hx104_1⟩ := at_T106 HR0.out x4_1 p104 q104
        cases e104
        replace hx104_0 := (HB.out.cell (qL w _ hx104_0)).trans hx104_0; replace hx104_1 := (HB.out.cell (qL w _ hx104_1)).trans hx104_1; replace p104 := eq_true p104; replace q104 := eq_true q104
        go_wp2_with (first | ((with_reducible refine gate_callee (f := 87) rfl ?_); refine goesL_ (some 20) rfl rfl Try.func87 qa9 rfl #[.agg #[.string ((rd_T106 l0 x4_1).f0), .bool ((rd_T106 l0 x4_1).f1)]] rfl qa2 ?_; (with_reducible refine (laws_toArgDef.calls ((rd_T106 l0 x4_1).f0) ((rd_T106 l0 x4_1).f1) t105 t106 _ A8.out).mono ?_); rintro e w11 ⟨rfl, hb⟩; have hx_ := qHX HB hb qa0; refine ⟨_, rfl, ?_⟩; have n0_ := qO (Kd.R_below qa34 hb); have n1_ := qO (below_step (below_step HB.out hx_) hb); clear HO_3; clear HB; have HO_3 := n0_; have HB := n1_; clear n0_ n1_; clear hx_; (try clear hb); (try clear hb2); (try clear hk); (try clear hi); have p10 : 0 ≤ (x4_1 : Int) := qT qa3; have q10 : (x4_1 : Int) < ((x3_1.length : Int) : Int) := qT qa3; obtain ⟨go10, co10, eo10, gb10, gl10, cl10, HG10⟩ := Kd.R_form HO_3.out qa22; (first | cases eo10 | (injection eo10 with ea_ en_ ec_; (first | subst ea_ | (injection ea_ with ea_; subst ea_)); subst ec_; clear en_)); have GB10 := qO gb10; have GG10 := qO HG10; clear gb10 gl10 HG10; obtain ⟨ce10, hcl10, hM10, hcc10, hfr10⟩ := Kd.R_elem HO_3.out z57 (x4_1 : Int) p10 q10; obtain rfl := k57_openM hM10; have hx10_0 : w11.cell? ⟨go10, (x4_1 : Int).toNat * 2, none⟩ = some (.string ((rd_T57 x3_1 x4_1).f0)) := hcc10 0 _ rfl; have hx10_1 : w11.cell? ⟨go10, (x4_1 : Int).toNat * 2 + 1, none⟩ = some (.bool ((rd_T57 x3_1 x4_1).f1)) := hcc10 1 _ rfl; have hf10_0 : w11.frozen? ⟨go10, (x4_1 : Int).toNat * 2, none⟩ = false := hfr10 0; have hf10_1 : w11.frozen? ⟨go10, (x4_1 : Int).toNat * 2 + 1, none⟩ = false := hfr10 1; clear hcl10 hcc10 hfr10; (try clear hM10); replace p10 := eq_true p10; replace q10 := eq_true q10; have HX12 := qO (show Kd.R k57 57 w11 w.heap.size (fun _ => True) (.slice (some ⟨go10, 0, none⟩) x3_1.length co10) x3_1 from qa34); obtain ⟨ce12, hcl12, hM12, hcc12, hfr12⟩ := Kd.R_elem HX12.out z57 (x4_1 : Int) (qT qa3) (by have h_ : (x4_1 : Int) < ((x3_1.length : Int) : Int) := qT qa3; first | exact h_ | (have e_ := (Kd.R_reads' HO_3.out).1; omega) | simpa using h_); obtain rfl := k57_openM hM12; have HP12 := Kd.R_seg HX12.out (x4_1 : Int) (qT qa3) (by have h_ : (x4_1 : Int) < ((x3_1.length : Int) : Int) := qT qa3; first | exact h_ | (have e_ := (Kd.R_reads' HO_3.out).1; omega) | simpa using h_) (seg := [.string t105, .bool t106]) (j := 0) hcl12 hcc12 (show 2 ≤ 2 from by decide) (x' := (⟨t105, t106⟩ : S57)) (k57_mkM _ _ _ (⟨t105, t106⟩ : S57) ) (fun _ hk => hk); have hx12_0 := hcc12 0 _ rfl; (try simp only [show (k57).sz = 2 from rfl, Nat.mul_one, Nat.add_zero] at hx12_0); have hf12_0 := hfr12 0; (try simp only [show (k57).sz = 2 from rfl, Nat.mul_one, Nat.add_zero] at hf12_0); have hx12_1 := hcc12 1 _ rfl; (try simp only [show (k57).sz = 2 from rfl, Nat.mul_one, Nat.add_zero] at hx12_1); have hf12_1 := hfr12 1; (try simp only [show (k57).sz = 2 from rfl, Nat.mul_one, Nat.add_zero] at hf12_1); clear hcl12 hcc12 hfr12; (try clear hM12)) | ((with_reducible refine gate_store (t := 57) (p := 21) rfl ?_); refine store_event (t := 57) (p := 21) (v := ?vo_w13) (w1 := ((w11.setCell ⟨go10, (x4_1 : Int).toNat * 2, none⟩ (.string t105)).setCell ⟨go10, (x4_1 : Int).toNat * 2 + 1, none⟩ (.bool t106))) ?hg ?ho ?hn ?hr ?_; (case ho => rfl); (case hg => rfl); (case hn => rfl); (case hr => exact qa12); intro w13 hw; have hg : w11.grownBy w13 (some go10) := qa69; have hp_ : Kd.R k57 57 w13 w.heap.size (fun _ => True) (.slice (some ⟨go10, 0, none⟩) x3_1.length co10) y107 := (by rw [hw, Ny107.out]; exact HP12.1); clear HP12; have n0_ := qO (hp_); have n1_ := qO ((by rw [hw]; exact qbS (qbS (HB.out) GB10.out) GB10.out : Below w.heap.size w w13)); clear HO_3; clear HB; have HO_3 := n0_; have HB := n1_; clear n0_ n1_; clear hg hw hp_))
        go_roundg k1
        case measure => have := HK1.out; omega
        case rel => exact ⟨(y107), (wrap64 (x4_1 + 1)), qa8, H', ⟨qa55⟩, ⟨qa34⟩, ⟨qa4⟩⟩
       ·rw [if_neg c9] at H
        exact absurd H qa61
      ·rw [if_neg c7] at H
       exact absurd H qa61
     ·rw [if_neg c6] at H
      have c6b0 : decide (x4_1 < (l0.length : Int)) = false := decide_eq_false c6; clear c6; obtain rfl := Option.some.inj H; go_wp2
      go_ret
      exact ⟨_, qa6, qa34, qa4⟩
  ·rw [if_neg c3] at H
   exact absurd H qa61
 ·rw [if_neg c2] at H
  exact absurd H qa61


def laws_toFieldDef.f (k : Nat) (a0_0 : ByteArray) (l0_1 : List (S106)) (a0_2 : ByteArray) (a0_3 : Bool) (a0_4 : Bool) : Option (ByteArray × (List (S57)) × ByteArray × Bool × Bool) := (laws_toArgDefS.f k l0_1).bind fun t104 => (some (a0_0, t104, a0_2, a0_3, a0_4))
set_option maxHeartbeats 8000000 in
set_option maxRecDepth 100000 in
theorem laws_toFieldDef.calls (k : Nat) (a0_0 : ByteArray) (A0_1 : Option Addr) (c0_1 : Nat) (l0_1 : List (S106)) (a0_2 : ByteArray) (a0_3 : Bool) (a0_4 : Bool) (r1 : ByteArray) (r2 : List (S57)) (r3 : ByteArray) (r4 : Bool) (r5 : Bool) (w : World) (hr0_1 : Kd.C k106 w A0_1 l0_1.length l0_1) (hc0_1 : l0_1.length ≤ c0_1) (h : laws_toFieldDef.f k a0_0 l0_1 a0_2 a0_3 a0_4 = some (r1, r2, r3, r4, r5)) :
  Calls Try.prog 83 #[.agg #[.string a0_0, .slice A0_1 l0_1.length c0_1, .string a0_2, .bool a0_3, .bool a0_4]] w fun e w' => ∃ v1_ : Value, e = .returned (.agg #[.string r1, v1_, .string r3, .bool r4, .bool r5]) ∧ Kd.R k57 57 w' w.heap.size (fun _ => True) v1_ r2 ∧ Below w.heap.size w w' := by
 have hu101 := Try.underlying101; have hu38 := Try.underlying38; have HR0_1 := qO hr0_1; have HC0_1 := qO hc0_1; clear hr0_1 hc0_1; have HB := qO (Below.refl w.heap.size w); have H : ((laws_toArgDefS.f k l0_1).bind fun t104 => (some (a0_0, t104, a0_2, a0_3, a0_4))) = some (r1, r2, r3, r4, r5) := h; clear h; replace H := Option.bind_eq_some_iff.mp H; obtain ⟨t104, A20, H⟩ := H; replace H : (some (a0_0, t104, a0_2, a0_3, a0_4)) = some (r1, r2, r3, r4, r5) := H; have A2 := qO A20; clear A20; simp only [Option.some.injEq, Prod.mk.injEq] at H; obtain ⟨rfl, rfl, rfl, rfl, rfl⟩ := H
 go_enter Try.func83, Try.ntmps83
 go_wp2_with (first | ((with_reducible refine gate_dst (N := 1) rfl ?_); refine box_event ?hg (N := 1) ?hd (cs := #[.string a0_0, .slice A0_1 l0_1.length c0_1, .string a0_2, .bool a0_3, .bool a0_4]) (t := 101) ?hr ?_; (case hd => rfl); (case hg => rfl); (case hr => exact qa12); intro gb101 hg w3 hbox hb; have hx_ := qHX HB hb qa0; have n0_ := qO (below_step (below_step HB.out hx_) hb); have n1_ := qO (hbox); have n2_ := qO ((qa11 : w.heap.size ≤ gb101)); have n3_ := n2_; clear HB; have HB := n0_; have BK101 := n1_; have GW101 := n2_; have GE101 := n3_; clear n0_ n1_ n2_ n3_; clear hx_; clear hb hbox hg) | ((with_reducible refine gate_dst (N := 2) rfl ?_); refine box_event ?hg (N := 2) ?hd (cs := #[.string (⟨#[]⟩ : ByteArray), .slice none 0 0, .string (⟨#[]⟩ : ByteArray), .bool false, .bool false]) (t := 38) ?hr ?_; (case hd => rfl); (case hg => rfl); (case hr => exact qa12); intro gb102 hg w4 hbox hb; have hx_ := qHX HB hb qa0; have n0_ := qO (qB BK101.out hx_ hb); have n1_ := qO (below_step (below_step HB.out hx_) hb); have n2_ := qO (hbox); have n3_ := qO ((qa11 : w.heap.size ≤ gb102)); have n4_ := n3_; have n5_ := qO ((qa40 : gb101 ≠ gb102)); have n6_ := qO (Ne.symm n5_.out); clear BK101; clear HB; have BK101 := n0_; have HB := n1_; have BK102 := n2_; have GW102 := n3_; have GE102 := n4_; have NB101_102 := n5_; have NB102_101 := n6_; clear n0_ n1_ n2_ n3_ n4_ n5_ n6_; clear hx_; clear hb hbox hg) | ((with_reducible refine gate_dst (N := 3) rfl ?_); refine box_event ?hg (N := 3) ?hd (cs := #[.string (⟨#[]⟩ : ByteArray), .slice none 0 0, .string (⟨#[]⟩ : ByteArray), .bool false, .bool false]) (t := 38) ?hr ?_; (case hd => rfl); (case hg => rfl); (case hr => exact qa12); intro gb103 hg w5 hbox hb; have hx_ := qHX HB hb qa0; have n0_ := qO (qB BK101.out hx_ hb); have n1_ := qO (qB BK102.out hx_ hb); have n2_ := qO (below_step (below_step HB.out hx_) hb); have n3_ := qO (hbox); have n4_ := qO ((qa11 : w.heap.size ≤ gb103)); have n5_ := n4_; have n6_ := qO ((qa40 : gb101 ≠ gb103)); have n7_ := qO (Ne.symm n6_.out); have n8_ := qO ((by rw [hg]; exact Nat.ne_of_lt (blk_lt (g := gb102) (o := .cells #[.string (⟨#[]⟩ : ByteArray), .slice none 0 0, .string (⟨#[]⟩ : ByteArray), .bool false, .bool false] 38 (0, 0)) (by (with_reducible repeat (first | refine qkN ?_ _ | refine qkD ?_ | refine qkA ?_ _)); exact BK102.out)) : gb102 ≠ gb103)); have n9_ := qO (Ne.symm n8_.out); clear BK101; clear BK102; clear HB; have BK101 := n0_; have BK102 := n1_; have HB := n2_; have BK103 := n3_; have GW103 := n4_; have GE103 := n5_; have NB101_103 := n6_; have NB103_101 := n7_; have NB102_103 := n8_; have NB103_102 := n9_; clear n0_ n1_ n2_ n3_ n4_ n5_ n6_ n7_ n8_ n9_; clear hx_; clear hb hbox hg; have hnb6 := NB101_102.out; have hnc6 := NB102_101.out; have hnb7 := NB101_103.out; have hnc7 := NB103_101.out; have hcz8_0 : w5.cell? ⟨gb101, 0, none⟩ = some (.string a0_0) := (blk_cell BK101.out 0).trans rfl; have hcz8_1 : w5.cell? ⟨gb101, 1, none⟩ = some (.slice A0_1 l0_1.length c0_1) := (blk_cell BK101.out 1).trans rfl; have hcz8_2 : w5.cell? ⟨gb101, 2, none⟩ = some (.string a0_2) := (blk_cell BK101.out 2).trans rfl; have hcz8_3 : w5.cell? ⟨gb101, 3, none⟩ = some (.bool a0_3) := (blk_cell BK101.out 3).trans rfl; have hcz8_4 : w5.cell? ⟨gb101, 4, none⟩ = some (.bool a0_4) := (blk_cell BK101.out 4).trans rfl; have hfz8_0 := blk_frozen BK101.out 0; have hfz8_1 := blk_frozen BK101.out 1; have hfz8_2 := blk_frozen BK101.out 2; have hfz8_3 := blk_frozen BK101.out 3; have hfz8_4 := blk_frozen BK101.out 4; have hnb9 := NB103_102.out; have hnc9 := NB102_103.out; have hcz10_0 : w5.cell? ⟨gb103, 0, none⟩ = some (.string (⟨#[]⟩ : ByteArray)) := (blk_cell BK103.out 0).trans rfl; have hcz10_1 : w5.cell? ⟨gb103, 1, none⟩ = some (.slice none 0 0) := (blk_cell BK103.out 1).trans rfl; have hcz10_2 : w5.cell? ⟨gb103, 2, none⟩ = some (.string (⟨#[]⟩ : ByteArray)) := (blk_cell BK103.out 2).trans rfl; have hcz10_3 : w5.cell? ⟨gb103, 3, none⟩ = some (.bool false) := (blk_cell BK103.out 3).trans rfl; have hcz10_4 : w5.cell? ⟨gb103, 4, none⟩ = some (.bool false) := (blk_cell BK103.out 4).trans rfl; have hfz10_0 := blk_frozen BK103.out 0; have hfz10_1 := blk_frozen BK103.out 1; have hfz10_2 := blk_frozen BK103.out 2; have hfz10_3 := blk_frozen BK103.out 3; have hfz10_4 := blk_frozen BK103.out 4) | ((with_reducible refine gate_callee (f := 85) rfl ?_); refine goesL_ (some 9) rfl rfl Try.func85 qa9 rfl #[.slice A0_1 l0_1.length c0_1] rfl qa2 ?_; (with_reducible refine (laws_toArgDefS.calls k _ _ l0_1 t104 _ ?side1 ?side2 A2.out).mono ?_); (case side1 => exact qa52); (case side2 => exact HC0_1.out); rintro e w11 ⟨v105, rfl, ho0, hb⟩; refine ⟨_, rfl, ?_⟩; have n0_ := qO (Kd.R_lower ho0 (below_size qa19)); have n1_ := qO (blk_below (g := gb101) (o := .cells #[.string a0_0, .slice A0_1 l0_1.length c0_1, .string a0_2, .bool a0_3, .bool a0_4] 101 (0, 0)) qa44 hb); have n2_ := qO (blk_below (g := gb102) (o := .cells #[.string (⟨#[]⟩ : ByteArray), .slice none 0 0, .string (⟨#[]⟩ : ByteArray), .bool false, .bool false] 38 (0, 0)) qa45 hb); have n3_ := qO (blk_below (g := gb103) (o := .cells #[.string a0_0, .slice none 0 0, .string (⟨#[]⟩ : ByteArray), .bool false, .bool false] 38 (0, 0)) (by (with_reducible repeat (first | refine qkN ?_ _ | refine qkD ?_ | refine qkA ?_ _)); refine blk_put (cs := #[.string (⟨#[]⟩ : ByteArray), .slice none 0 0, .string (⟨#[]⟩ : ByteArray), .bool false, .bool false]) ?_ 0 _ rfl; (with_reducible repeat (first | refine qkN ?_ _ | refine qkD ?_ | refine qkA ?_ _)); exact BK103.out) hb); have n4_ := qO (below_step qa19 hb); clear BK101; clear BK102; clear BK103; clear HB; have HO106 := n0_; have BK101 := n1_; have BK102 := n2_; have BK103 := n3_; have HB := n4_; clear n0_ n1_ n2_ n3_ n4_; (try clear hb); (try clear hb2); (try clear hk); (try clear hi); (try clear ho0); obtain ⟨Ao12, co12, eo12⟩ := Kd.R_slice HO106.out; subst eo12; have hcz13_0 : w11.cell? ⟨gb103, 0, none⟩ = some (.string a0_0) := (blk_cell BK103.out 0).trans rfl; have hcz13_1 : w11.cell? ⟨gb103, 1, none⟩ = some (.slice none 0 0) := (blk_cell BK103.out 1).trans rfl; have hcz13_2 : w11.cell? ⟨gb103, 2, none⟩ = some (.string (⟨#[]⟩ : ByteArray)) := (blk_cell BK103.out 2).trans rfl; have hcz13_3 : w11.cell? ⟨gb103, 3, none⟩ = some (.bool false) := (blk_cell BK103.out 3).trans rfl; have hcz13_4 : w11.cell? ⟨gb103, 4, none⟩ = some (.bool false) := (blk_cell BK103.out 4).trans rfl; have hfz13_0 := blk_frozen BK103.out 0; have hfz13_1 := blk_frozen BK103.out 1; have hfz13_2 := blk_frozen BK103.out 2; have hfz13_3 := blk_frozen BK103.out 3; have hfz13_4 := blk_frozen BK103.out 4; have hcz14_0 : w11.cell? ⟨gb101, 0, none⟩ = some (.string a0_0) := (blk_cell BK101.out 0).trans rfl; have hcz14_1 : w11.cell? ⟨gb101, 1, none⟩ = some (.slice A0_1 l0_1.length c0_1) := (blk_cell BK101.out 1).trans rfl; have hcz14_2 : w11.cell? ⟨gb101, 2, none⟩ = some (.string a0_2) := (blk_cell BK101.out 2).trans rfl; have hcz14_3 : w11.cell? ⟨gb101, 3, none⟩ = some (.bool a0_3) := (blk_cell BK101.out 3).trans rfl; have hcz14_4 : w11.cell? ⟨gb101, 4, none⟩ = some (.bool a0_4) := (blk_cell BK101.out 4).trans rfl; have hfz14_0 := blk_frozen BK101.out 0; have hfz14_1 := blk_frozen BK101.out 1; have hfz14_2 := blk_frozen BK101.out 2; have hfz14_3 := blk_frozen BK101.out 3; have hfz14_4 := blk_frozen BK101.out 4; have hcz15_0 : w11.cell? ⟨gb102, 0, none⟩ = some (.string (⟨#[]⟩ : ByteArray)) := (blk_cell BK102.out 0).trans rfl; have hcz15_1 : w11.cell? ⟨gb102, 1, none⟩ = some (.slice none 0 0) := (blk_cell BK102.out 1).trans rfl; have hcz15_2 : w11.cell? ⟨gb102, 2, none⟩ = some (.string (⟨#[]⟩ : ByteArray)) := (blk_cell BK102.out 2).trans rfl; have hcz15_3 : w11.cell? ⟨gb102, 3, none⟩ = some (.bool false) := (blk_cell BK102.out 3).trans rfl; have hcz15_4 : w11.cell? ⟨gb102, 4, none⟩ = some (.bool false) := (blk_cell BK102.out 4).trans rfl; have hfz15_0 := blk_frozen BK102.out 0; have hfz15_1 := blk_frozen BK102.out 1; have hfz15_2 := blk_frozen BK102.out 2; have hfz15_3 := blk_frozen BK102.out 3; have hfz15_4 := blk_frozen BK102.out 4))
 refine bodyPost_ret (results_cell_row rfl _ _ gb102 38 #[.string a0_0, .slice Ao12 t104.length co12, .string a0_2, .bool a0_3, .bool a0_4] (0, 0) _ rfl (by (with_reducible repeat (first | refine qkN ?_ _ | refine qkD ?_ | refine qkA ?_ _)); refine blk_put (cs := #[.string a0_0, .slice Ao12 t104.length co12, .string a0_2, .bool a0_3, .bool false]) ?_ 4 _ rfl; (with_reducible repeat (first | refine qkN ?_ _ | refine qkD ?_ | refine qkA ?_ _)); refine blk_put (cs := #[.string a0_0, .slice Ao12 t104.length co12, .string a0_2, .bool false, .bool false]) ?_ 3 _ rfl; (with_reducible repeat (first | refine qkN ?_ _ | refine qkD ?_ | refine qkA ?_ _)); refine blk_put (cs := #[.string a0_0, .slice Ao12 t104.length co12, .string (⟨#[]⟩ : ByteArray), .bool false, .bool false]) ?_ 2 _ rfl; (with_reducible repeat (first | refine qkN ?_ _ | refine qkD ?_ | refine qkA ?_ _)); refine blk_put (cs := #[.string a0_0, .slice none 0 0, .string (⟨#[]⟩ : ByteArray), .bool false, .bool false]) ?_ 1 _ rfl; (with_reducible repeat (first | refine qkN ?_ _ | refine qkD ?_ | refine qkA ?_ _)); refine blk_put (cs := #[.string (⟨#[]⟩ : ByteArray), .slice none 0 0, .string (⟨#[]⟩ : ByteArray), .bool false, .bool false]) ?_ 0 _ rfl; (with_reducible repeat (first | refine qkN ?_ _ | refine qkD ?_ | refine qkA ?_ _)); refine blk_far ?_ NB102_103.out _; (with_reducible repeat (first | refine qkN ?_ _ | refine qkD ?_ | refine qkA ?_ _)); refine blk_far ?_ NB102_103.out _; (with_reducible repeat (first | refine qkN ?_ _ | refine qkD ?_ | refine qkA ?_ _)); refine blk_far ?_ NB102_103.out _; (with_reducible repeat (first | refine qkN ?_ _ | refine qkD ?_ | refine qkA ?_ _)); refine blk_far ?_ NB102_103.out _; (with_reducible repeat (first | refine qkN ?_ _ | refine qkD ?_ | refine qkA ?_ _)); exact BK102.out) Try.underlying38 rfl qa9) rfl ?_
 exact ⟨_, qa6, by (with_reducible repeat (first | apply Kd.R_alloc | apply Kd.R_drewN | apply Kd.R_drew)); exact Kd.R_mono (Kd.R_far (p := ⟨gb102, 4, none⟩) (Kd.R_far (p := ⟨gb102, 3, none⟩) (Kd.R_far (p := ⟨gb102, 2, none⟩) (Kd.R_far (p := ⟨gb102, 1, none⟩) (Kd.R_far (p := ⟨gb102, 0, none⟩) (Kd.R_far (p := ⟨gb103, 4, none⟩) (Kd.R_far (p := ⟨gb103, 3, none⟩) (Kd.R_far (p := ⟨gb103, 2, none⟩) (Kd.R_far (p := ⟨gb103, 1, none⟩) (Kd.R_types (Kd.R_types HO106.out BK103.out (by decide)) BK102.out (by decide)) (fun _ hk => hk.1.2) (.slice Ao12 t104.length co12)) (fun _ hk => hk.1.2) (.string a0_2)) (fun _ hk => hk.1.2) (.bool a0_3)) (fun _ hk => hk.1.2) (.bool a0_4)) (fun _ hk => hk.2) (.string a0_0)) (fun _ hk => hk.2) (.slice Ao12 t104.length co12)) (fun _ hk => hk.2) (.string a0_2)) (fun _ hk => hk.2) (.bool a0_3)) (fun _ hk => hk.2) (.bool a0_4)) (fun _ hk => trivial), qa19⟩


def laws_toFieldDefS.l0 : Nat → List (S101) → List (S38) → Int → Option ((List (S38)))
 | 0, _, _, _ => none
 | k + 1, x0, x3, x4 => if x4 < (x0.length : Int) then (if 0 ≤ x4 then ((laws_toFieldDef.f k ((rd_T101 x0 x4).f0) ((rd_T101 x0 x4).f1) ((rd_T101 x0 x4).f2) ((rd_T101 x0 x4).f3) ((rd_T101 x0 x4).f4)).bind fun bt105 => (if x4 < (x3.length : Int) then (laws_toFieldDefS.l0 k x0 (x3.set (x4 : Int).toNat (⟨bt105.1, bt105.2.1, bt105.2.2.1, bt105.2.2.2.1, bt105.2.2.2.2⟩ : S38)) (wrap64 (x4 + 1))) else (none))) else (none)) else (some x3)
def laws_toFieldDefS.f (k : Nat) (l0 : List (S101)) : Option ((List (S38))) := if 0 ≤ (l0.length : Int) then (if ((l0.length : Int) : Int).toNat ≤ 4398046511104 then (laws_toFieldDefS.l0 k l0 (List.replicate ((l0.length : Int) : Int).toNat z38) 0) else (none)) else (none)
set_option maxHeartbeats 8000000 in
set_option maxRecDepth 100000 in
theorem laws_toFieldDefS.calls (k : Nat) (A0 : Option Addr) (c0 : Nat) (l0 : List (S101)) (r : List (S38)) (w : World) (hr0 : Kd.C k101 w A0 l0.length l0) (hc0 : l0.length ≤ c0) (h : laws_toFieldDefS.f k l0 = some r) :
  Calls Try.prog 77 #[.slice A0 l0.length c0] w fun e w' => ∃ v0_ : Value, e = .returned (v0_) ∧ Kd.S k38 38 w' w.heap.size (fun _ => True) v0_ r ∧ Below w.heap.size w w' := by
 have hu101 := Try.underlying101; have hu38 := Try.underlying38; have HR0 := qO hr0; have HC0 := qO hc0; clear hr0 hc0; have HB := qO (Below.refl w.heap.size w); have H : (if 0 ≤ (l0.length : Int) then (if ((l0.length : Int) : Int).toNat ≤ 4398046511104 then (laws_toFieldDefS.l0 k l0 (List.replicate ((l0.length : Int) : Int).toNat z38) 0) else (none)) else (none)) = some r := h; clear h
 by_cases c2 : 0 ≤ (l0.length : Int)
 ·rw [if_pos c2] at H
  have c2b0 := eq_true c2; have c2b1 : decide (0 ≤ (l0.length : Int)) = true := decide_eq_true c2; clear c2
  by_cases c3 : ((l0.length : Int) : Int).toNat ≤ 4398046511104
  ·rw [if_pos c3] at H
   have c3b0 := eq_true c3; have c3b1 : decide (((l0.length : Int) : Int).toNat ≤ 4398046511104) = true := decide_eq_true c3; clear c3; obtain ⟨y101, hy101⟩ : ∃ y_ : List (S38), y_ = (List.replicate ((l0.length : Int) : Int).toNat z38) := ⟨_, rfl⟩; replace H : (laws_toFieldDefS.l0 k l0 y101 0) = some r := by first | (rw [hy101]; with_reducible exact H) | (have H2_ := (Option.bind_some _ _).symm.trans H; rw [hy101]; with_reducible exact H2_) | (have H2_ := (Option.bind_some _ _).symm.trans H; with_reducible exact H2_) | with_reducible exact H | (rw [hy101]; exact H) | exact H
   have Ny101 := qO hy101; clear hy101; have H' := qO H; clear H
   go_enter Try.func77, Try.ntmps77
   go_wp2_with (first | ((with_reducible refine gate_dst (N := 7) rfl ?_); refine Kd.S_make k38 _ 38 rfl (N := 7) rfl 51 _ _ rfl (l0.length : Int) rfl rfl Try.underlying51 (.agg #[(.string ⟨#[]⟩), (.slice none 0 0), (.string ⟨#[]⟩), (.bool false), (.bool false)]) 64 info38 rfl qa66 qa22 z38 (ok := fun _ => True) (okp := fun _ => True) (k38_mkM _ _ _ z38 (Kd.R_nil _ _ _ _ _)) (fun _ hk => hk) trivial (qT qa3) (Nat.le_trans (Nat.mul_le_mul_right _ (qT qa3 : (l0.length : Int).toNat ≤ 4398046511104)) qa22) (Below.refl _ _) (Nat.le_refl _) ?_; intro v102 w4 ho5 hb hg_ hnew_; clear hg_ hnew_; (first | rw [← Ny101.out] at ho5 | (simp only [Int.reduceToNat] at ho5; rw [← Ny101.out] at ho5)); have n0_ := qO (Kd.S_lower ho5 (below_size qa4)); have n1_ := qO (below_step qa4 hb); clear HB; have HO103 := n0_; have HB := n1_; clear n0_ n1_; clear hb ho5))
   go_loopg [4] k (fun kq v4 w' => ∃ (x3_1 : List (S38)) (x4_1 : Int), v4 = .int .i64 x4_1 ∧ Aside0 (laws_toFieldDefS.l0 kq l0 x3_1 x4_1 = some r) ∧ Aside0 (kq ≤ k) ∧ Aside0 (Kd.S k38 38 w' w.heap.size (fun _ => True) v102 x3_1) ∧ Aside0 (Below w.heap.size w w'))
   case atStart => exact ⟨(y101), (0), qa8, H', ⟨Nat.le_refl _⟩, ⟨by (with_reducible repeat (first | apply Kd.S_alloc | apply Kd.S_drewN | apply Kd.S_drew)); exact HO103.out⟩, ⟨qa4⟩⟩
   case round =>
    clear H'
    try clear c2
    try clear c2b0
    try clear c2b1
    try clear p2
    try clear c3
    try clear c3b0
    try clear c3b1
    obtain ⟨x3_1, x4_1, rfl, HA, HK1, HO_3, HB⟩ := hrel
    cases gk with
    | zero => exact absurd HA.out (by simp [laws_toFieldDefS.l0])
    | succ k1 =>
     have H := HA.out; clear HA; simp only [laws_toFieldDefS.l0] at H
     by_cases c6 : x4_1 < (l0.length : Int)
     ·rw [if_pos c6] at H
      have c6b0 : decide (x4_1 < (l0.length : Int)) = true := decide_eq_true c6; clear c6
      by_cases c7 : 0 ≤ x4_1
      ·rw [if_pos c7] at H
       have c7b0 : decide (0 ≤ x4_1) = true := decide_eq_true c7; clear c7; replace H := Option.bind_eq_some_iff.mp H; obtain ⟨⟨t105, t106, t109, t110, t111⟩, A80, H⟩ := H; replace H : (if x4_1 < (x3_1.length : Int) then (laws_toFieldDefS.l0 k1 l0 (x3_1.set (x4_1 : Int).toNat (⟨t105, t106, t109, t110, t111⟩ : S38)) (wrap64 (x4_1 + 1))) else (none)) = some r := H; have A8 := qO A80; clear A80
       by_cases c9 : x4_1 < (x3_1.length : Int)
       ·rw [if_pos c9] at H
        have c9b0 : decide (x4_1 < (x3_1.length : Int)) = true := decide_eq_true c9; clear c9; obtain ⟨y112, hy112⟩ : ∃ y_ : List (S38), y_ = (x3_1.set (x4_1 : Int).toNat (⟨t105, t106, t109, t110, t111⟩ : S38)) := ⟨_, rfl⟩; replace H : (laws_toFieldDefS.l0 k1 l0 y112 (wrap64 (x4_1 + 1))) = some r := by first | (rw [hy112]; with_reducible exact H) | (have H2_ := (Option.bind_some _ _).symm.trans H; rw [hy112]; with_reducible exact H2_) | (have H2_ := (Option.bind_some _ _).symm.trans H; with_reducible exact H2_) | with_reducible exact H | (rw [hy112]; exact H) | exact H
        have Ny112 := qO hy112; clear hy112; have H' := qO H; clear H; have p104 : 0 ≤ (x4_1 : Int) := qT qa3; have q104 : x4_1 < (l0.length : Int) := qT qa3; obtain ⟨ad104, A104_1, c104_1, e104, hx104_0, hx104_1, hx104_2, hx104_3, hx104_4, hl104_1, hi104_1⟩ := at_T101 HR0.out x4_1 p104 q104
        cases e104
        replace hx104_0 := (HB.out.cell (qL w _ hx104_0)).trans hx104_0; replace hx104_1 := (HB.out.cell (qL w _ hx104_1)).trans hx104_1; replace hx104_2 := (HB.out.cell (qL w _ hx104_2)).trans hx104_2; replace hx104_3 := (HB.out.cell (qL w _ hx104_3)).trans hx104_3; replace hx104_4 := (HB.out.cell (qL w _ hx104_4)).trans hx104_4; have HR104_1 := qO hi104_1; have HC104_1 := qO hl104_1; clear hi104_1 hl104_1; replace p104 := eq_true p104; replace q104 := eq_true q104
        go_wp2_with (first | ((with_reducible refine gate_callee (f := 83) rfl ?_); refine goesL_ (some 20) rfl rfl Try.func83 qa9 rfl #[.agg #[.string ((rd_T101 l0 x4_1).f0), .slice A104_1 ((rd_T101 l0 x4_1).f1).length c104_1, .string ((rd_T101 l0 x4_1).f2), .bool ((rd_T101 l0 x4_1).f3), .bool ((rd_T101 l0 x4_1).f4)]] rfl qa2 ?_; (with_reducible refine (laws_toFieldDef.calls k1 ((rd_T101 l0 x4_1).f0) _ _ ((rd_T101 l0 x4_1).f1) ((rd_T101 l0 x4_1).f2) ((rd_T101 l0 x4_1).f3) ((rd_T101 l0 x4_1).f4) t105 t106 t109 t110 t111 _ ?side1 ?side2 A8.out).mono ?_); (case side1 => exact qa58); (case side2 => exact HC104_1.out); rintro e w11 ⟨v107, rfl, ho0, hb⟩; have hx_ := qHX HB hb qa0; refine ⟨_, rfl, ?_⟩; have n0_ := qO (Kd.S_elder' qa56 (Kd.R_base ho0) hb); have n1_ := qO (Kd.R_lower ho0 (below_size (below_step HB.out hx_))); have n2_ := qO (below_step (below_step HB.out hx_) hb); clear HO_3; clear HB; have HO_3 := n0_; have HO108 := n1_; have HB := n2_; clear n0_ n1_ n2_; clear hx_; (try clear hb); (try clear hb2); (try clear hk); (try clear hi); (try clear ho0); have p10 : 0 ≤ (x4_1 : Int) := qT qa3; have q10 : (x4_1 : Int) < ((x3_1.length : Int) : Int) := qT qa3; obtain ⟨go10, co10, eo10, gb10, gl10, cl10, HG10⟩ := Kd.S_form HO_3.out qa22; (first | cases eo10 | (injection eo10 with ea_ en_ ec_; (first | subst ea_ | (injection ea_ with ea_; subst ea_)); subst ec_; clear en_)); have GB10 := qO gb10; have GG10 := qO HG10; clear gb10 gl10 HG10; obtain ⟨_, ce10, hcl10, hM10, hcc10, hfr10, _, _⟩ := Kd.S_elem HO_3.out z38 (x4_1 : Int) p10 q10; obtain ⟨ve10_1, rfl, ge10_1⟩ := k38_openM hM10; have hx10_0 : w11.cell? ⟨go10, (x4_1 : Int).toNat * 5, none⟩ = some (.string ((rd_T38 x3_1 x4_1).f0)) := hcc10 0 _ rfl; have hx10_1 : w11.cell? ⟨go10, (x4_1 : Int).toNat * 5 + 1, none⟩ = some (ve10_1) := hcc10 1 _ rfl; have hx10_2 : w11.cell? ⟨go10, (x4_1 : Int).toNat * 5 + 2, none⟩ = some (.string ((rd_T38 x3_1 x4_1).f2)) := hcc10 2 _ rfl; have hx10_3 : w11.cell? ⟨go10, (x4_1 : Int).toNat * 5 + 3, none⟩ = some (.bool ((rd_T38 x3_1 x4_1).f3)) := hcc10 3 _ rfl; have hx10_4 : w11.cell? ⟨go10, (x4_1 : Int).toNat * 5 + 4, none⟩ = some (.bool ((rd_T38 x3_1 x4_1).f4)) := hcc10 4 _ rfl; have hf10_0 : w11.frozen? ⟨go10, (x4_1 : Int).toNat * 5, none⟩ = false := hfr10 0; have hf10_1 : w11.frozen? ⟨go10, (x4_1 : Int).toNat * 5 + 1, none⟩ = false := hfr10 1; have hf10_2 : w11.frozen? ⟨go10, (x4_1 : Int).toNat * 5 + 2, none⟩ = false := hfr10 2; have hf10_3 : w11.frozen? ⟨go10, (x4_1 : Int).toNat * 5 + 3, none⟩ = false := hfr10 3; have hf10_4 : w11.frozen? ⟨go10, (x4_1 : Int).toNat * 5 + 4, none⟩ = false := hfr10 4; clear hcl10 hcc10 hfr10; (try clear hM10); replace p10 := eq_true p10; replace q10 := eq_true q10; have n_ := qO (Kd.S_mono (ok' := (fun k_ => some k_ ≠ (v107 : Value).ownBlock)) HO_3.out (fun k_ hk => hk.2)); clear HO_3; have HO_3 := n_; clear n_; have HX12 := qO (show Kd.S k38 38 w11 w.heap.size (fun k_ => ((fun _ => True)) k_ ∧ ¬ ((fun k_ => some k_ = (v107 : Value).ownBlock)) k_) (.slice (some ⟨go10, 0, none⟩) x3_1.length co10) x3_1 from (by (with_reducible repeat (first | apply Kd.S_alloc | apply Kd.S_drewN | apply Kd.S_drew)); exact Kd.S_mono HO_3.out (fun k_ hk => ⟨trivial, fun e_ => hk e_⟩))); obtain ⟨oki12, ce12, hcl12, hM12, hcc12, hfr12, hoki12, hH12⟩ := Kd.S_elem HX12.out z38 (x4_1 : Int) (qT qa3) (by have h_ : (x4_1 : Int) < ((x3_1.length : Int) : Int) := qT qa3; first | exact h_ | (have e_ := (Kd.S_reads' HO_3.out).1; omega) | simpa using h_); obtain ⟨ve12_1, rfl, ge12_1⟩ := k38_openM hM12; have HP12 := Kd.S_seg hH12 (qT qa3) (by have h_ : (x4_1 : Int) < ((x3_1.length : Int) : Int) := qT qa3; first | exact h_ | (have e_ := (Kd.S_reads' HO_3.out).1; omega) | simpa using h_) (seg := [.string t105, v107, .string t109, .bool t110, .bool t111]) (j := 0) (show 5 ≤ 5 from by decide) (x' := (⟨t105, t106, t109, t110, t111⟩ : S38)) (k38_mkM _ _ _ (⟨t105, t106, t109, t110, t111⟩ : S38) (Kd.R_mono (Kd.R_tight rfl (Kd.R_mono (ok' := fun k_ => ((fun _ => True)) k_ ∧ k_ ≠ go10) (Kd.R_apart' (HO108.out) (Kd.S_typed HO_3.out) qa66) (fun k_ hk => ⟨trivial, fun e_ => (hk.2) (by rw [e_]; rfl)⟩))) (fun _ h_ => Or.inr (h_)))) (fun _ hk => hk) (fun k_ hk_ => ((Kd.R_mono (ok' := fun k_ => ((fun _ => True)) k_ ∧ k_ ≠ go10) (Kd.R_apart' (HO108.out) (Kd.S_typed HO_3.out) qa66) (fun k_ hk => ⟨trivial, fun e_ => (hk.2) (by rw [e_]; rfl)⟩))).1 k_ hk_.symm); have hx12_0 := hcc12 0 _ rfl; (try simp only [show (k38).sz = 5 from rfl, Nat.mul_one, Nat.add_zero] at hx12_0); have hf12_0 := hfr12 0; (try simp only [show (k38).sz = 5 from rfl, Nat.mul_one, Nat.add_zero] at hf12_0); have hx12_1 := hcc12 1 _ rfl; (try simp only [show (k38).sz = 5 from rfl, Nat.mul_one, Nat.add_zero] at hx12_1); have hf12_1 := hfr12 1; (try simp only [show (k38).sz = 5 from rfl, Nat.mul_one, Nat.add_zero] at hf12_1); have hx12_2 := hcc12 2 _ rfl; (try simp only [show (k38).sz = 5 from rfl, Nat.mul_one, Nat.add_zero] at hx12_2); have hf12_2 := hfr12 2; (try simp only [show (k38).sz = 5 from rfl, Nat.mul_one, Nat.add_zero] at hf12_2); have hx12_3 := hcc12 3 _ rfl; (try simp only [show (k38).sz = 5 from rfl, Nat.mul_one, Nat.add_zero] at hx12_3); have hf12_3 := hfr12 3; (try simp only [show (k38).sz = 5 from rfl, Nat.mul_one, Nat.add_zero] at hf12_3); have hx12_4 := hcc12 4 _ rfl; (try simp only [show (k38).sz = 5 from rfl, Nat.mul_one, Nat.add_zero] at hx12_4); have hf12_4 := hfr12 4; (try simp only [show (k38).sz = 5 from rfl, Nat.mul_one, Nat.add_zero] at hf12_4); clear hcl12 hcc12 hfr12; (try clear hM12); clear hoki12 hH12) | ((with_reducible refine gate_store (t := 38) (p := 21) rfl ?_); refine store_event (t := 38) (p := 21) (v := ?vo_w13) (w1 := (((((w11.setCell ⟨go10, (x4_1 : Int).toNat * 5, none⟩ (.string t105)).setCell ⟨go10, (x4_1 : Int).toNat * 5 + 1, none⟩ (v107)).setCell ⟨go10, (x4_1 : Int).toNat * 5 + 2, none⟩ (.string t109)).setCell ⟨go10, (x4_1 : Int).toNat * 5 + 3, none⟩ (.bool t110)).setCell ⟨go10, (x4_1 : Int).toNat * 5 + 4, none⟩ (.bool t111))) ?hg ?ho ?hn ?hr ?_; (case ho => rfl); (case hg => rfl); (case hn => rfl); (case hr => obtain ⟨Av0_, cv0_, ev0_⟩ := Kd.R_slice HO108.out; rw [ev0_]; first | (go_simp; done) | (go_simp; rfl)); intro w13 hw; have hg : w11.grownBy w13 (some go10) := qa69; have hp_ : Kd.S k38 38 w13 w.heap.size (fun _ => True) (.slice (some ⟨go10, 0, none⟩) x3_1.length co10) y112 := (by rw [hw, Ny112.out]; exact HP12.1); clear HP12; have n0_ := qO (hp_); have n1_ := qO ((by rw [hw]; exact qbS (qbS (qbS (qbS (qbS (HB.out) GB10.out) GB10.out) GB10.out) GB10.out) GB10.out : Below w.heap.size w w13)); clear HO_3; clear HB; clear HO108; have HO_3 := n0_; have HB := n1_; clear n0_ n1_; clear hg hw hp_))
        go_roundg k1
        case measure => have := HK1.out; omega
        case rel => exact ⟨(y112), (wrap64 (x4_1 + 1)), qa8, H', ⟨qa55⟩, ⟨qa56⟩, ⟨qa4⟩⟩
       ·rw [if_neg c9] at H
        exact absurd H qa61
      ·rw [if_neg c7] at H
       exact absurd H qa61
     ·rw [if_neg c6] at H
      have c6b0 : decide (x4_1 < (l0.length : Int)) = false := decide_eq_false c6; clear c6; obtain rfl := Option.some.inj H; go_wp2
      go_ret
      exact ⟨_, qa6, qa56, qa4⟩
  ·rw [if_neg c3] at H
   exact absurd H qa61
 ·rw [if_neg c2] at H
  exact absurd H qa61


def laws_toTypeDef.f (k : Nat) (a0_0 : ByteArray) (l0_1 : List (S101)) : Option (ByteArray × (List (S38))) := (laws_toFieldDefS.f k l0_1).bind fun t104 => (some (a0_0, t104))
set_option maxHeartbeats 8000000 in
set_option maxRecDepth 100000 in
theorem laws_toTypeDef.calls (k : Nat) (a0_0 : ByteArray) (A0_1 : Option Addr) (c0_1 : Nat) (l0_1 : List (S101)) (r1 : ByteArray) (r2 : List (S38)) (w : World) (hr0_1 : Kd.C k101 w A0_1 l0_1.length l0_1) (hc0_1 : l0_1.length ≤ c0_1) (h : laws_toTypeDef.f k a0_0 l0_1 = some (r1, r2)) :
  Calls Try.prog 56 #[.agg #[.string a0_0, .slice A0_1 l0_1.length c0_1]] w fun e w' => ∃ v1_ : Value, e = .returned (.agg #[.string r1, v1_]) ∧ Kd.S k38 38 w' w.heap.size (fun _ => True) v1_ r2 ∧ Below w.heap.size w w' := by
 have hu77 := Try.underlying77; have hu53 := Try.underlying53; have HR0_1 := qO hr0_1; have HC0_1 := qO hc0_1; clear hr0_1 hc0_1; have HB := qO (Below.refl w.heap.size w); have H : ((laws_toFieldDefS.f k l0_1).bind fun t104 => (some (a0_0, t104))) = some (r1, r2) := h; clear h; replace H := Option.bind_eq_some_iff.mp H; obtain ⟨t104, A20, H⟩ := H; replace H : (some (a0_0, t104)) = some (r1, r2) := H; have A2 := qO A20; clear A20; simp only [Option.some.injEq, Prod.mk.injEq] at H; obtain ⟨rfl, rfl⟩ := H
 go_enter Try.func56, Try.ntmps56
 go_wp2_with (first | ((with_reducible refine gate_dst (N := 1) rfl ?_); refine box_event ?hg (N := 1) ?hd (cs := #[.string a0_0, .slice A0_1 l0_1.length c0_1]) (t := 77) ?hr ?_; (case hd => rfl); (case hg => rfl); (case hr => exact qa12); intro gb101 hg w3 hbox hb; have hx_ := qHX HB hb qa0; have n0_ := qO (below_step (below_step HB.out hx_) hb); have n1_ := qO (hbox); have n2_ := qO ((qa11 : w.heap.size ≤ gb101)); have n3_ := n2_; clear HB; have HB := n0_; have BK101 := n1_; have GW101 := n2_; have GE101 := n3_; clear n0_ n1_ n2_ n3_; clear hx_; clear hb hbox hg) | ((with_reducible refine gate_dst (N := 2) rfl ?_); refine box_event ?hg (N := 2) ?hd (cs := #[.string (⟨#[]⟩ : ByteArray), .slice none 0 0]) (t := 53) ?hr ?_; (case hd => rfl); (case hg => rfl); (case hr => exact qa12); intro gb102 hg w4 hbox hb; have hx_ := qHX HB hb qa0; have n0_ := qO (qB BK101.out hx_ hb); have n1_ := qO (below_step (below_step HB.out hx_) hb); have n2_ := qO (hbox); have n3_ := qO ((qa11 : w.heap.size ≤ gb102)); have n4_ := n3_; have n5_ := qO ((qa43 : gb101 ≠ gb102)); have n6_ := qO (Ne.symm n5_.out); clear BK101; clear HB; have BK101 := n0_; have HB := n1_; have BK102 := n2_; have GW102 := n3_; have GE102 := n4_; have NB101_102 := n5_; have NB102_101 := n6_; clear n0_ n1_ n2_ n3_ n4_ n5_ n6_; clear hx_; clear hb hbox hg) | ((with_reducible refine gate_dst (N := 3) rfl ?_); refine box_event ?hg (N := 3) ?hd (cs := #[.string (⟨#[]⟩ : ByteArray), .slice none 0 0]) (t := 53) ?hr ?_; (case hd => rfl); (case hg => rfl); (case hr => exact qa12); intro gb103 hg w5 hbox hb; have hx_ := qHX HB hb qa0; have n0_ := qO (qB BK101.out hx_ hb); have n1_ := qO (qB BK102.out hx_ hb); have n2_ := qO (below_step (below_step HB.out hx_) hb); have n3_ := qO (hbox); have n4_ := qO ((qa11 : w.heap.size ≤ gb103)); have n5_ := n4_; have n6_ := qO ((qa43 : gb101 ≠ gb103)); have n7_ := qO (Ne.symm n6_.out); have n8_ := qO ((by rw [hg]; exact Nat.ne_of_lt (blk_lt (g := gb102) (o := .cells #[.string (⟨#[]⟩ : ByteArray), .slice none 0 0] 53 (0, 0)) (by (with_reducible repeat (first | refine qkN ?_ _ | refine qkD ?_ | refine qkA ?_ _)); exact BK102.out)) : gb102 ≠ gb103)); have n9_ := qO (Ne.symm n8_.out); clear BK101; clear BK102; clear HB; have BK101 := n0_; have BK102 := n1_; have HB := n2_; have BK103 := n3_; have GW103 := n4_; have GE103 := n5_; have NB101_103 := n6_; have NB103_101 := n7_; have NB102_103 := n8_; have NB103_102 := n9_; clear n0_ n1_ n2_ n3_ n4_ n5_ n6_ n7_ n8_ n9_; clear hx_; clear hb hbox hg; have hnb6 := NB101_102.out; have hnc6 := NB102_101.out; have hnb7 := NB101_103.out; have hnc7 := NB103_101.out; have hcz8_0 : w5.cell? ⟨gb101, 0, none⟩ = some (.string a0_0) := (blk_cell BK101.out 0).trans rfl; have hcz8_1 : w5.cell? ⟨gb101, 1, none⟩ = some (.slice A0_1 l0_1.length c0_1) := (blk_cell BK101.out 1).trans rfl; have hfz8_0 := blk_frozen BK101.out 0; have hfz8_1 := blk_frozen BK101.out 1; have hnb9 := NB103_102.out; have hnc9 := NB102_103.out; have hcz10_0 : w5.cell? ⟨gb103, 0, none⟩ = some (.string (⟨#[]⟩ : ByteArray)) := (blk_cell BK103.out 0).trans rfl; have hcz10_1 : w5.cell? ⟨gb103, 1, none⟩ = some (.slice none 0 0) := (blk_cell BK103.out 1).trans rfl; have hfz10_0 := blk_frozen BK103.out 0; have hfz10_1 := blk_frozen BK103.out 1) | ((with_reducible refine gate_callee (f := 77) rfl ?_); refine goesL_ (some 9) rfl rfl Try.func77 qa9 rfl #[.slice A0_1 l0_1.length c0_1] rfl qa2 ?_; (with_reducible refine (laws_toFieldDefS.calls k _ _ l0_1 t104 _ ?side1 ?side2 A2.out).mono ?_); (case side1 => exact qa52); (case side2 => exact HC0_1.out); rintro e w11 ⟨v105, rfl, ho0, hb⟩; refine ⟨_, rfl, ?_⟩; have n0_ := qO (Kd.S_lower ho0 (below_size qa19)); have n1_ := qO (blk_below (g := gb101) (o := .cells #[.string a0_0, .slice A0_1 l0_1.length c0_1] 77 (0, 0)) qa44 hb); have n2_ := qO (blk_below (g := gb102) (o := .cells #[.string (⟨#[]⟩ : ByteArray), .slice none 0 0] 53 (0, 0)) qa45 hb); have n3_ := qO (blk_below (g := gb103) (o := .cells #[.string a0_0, .slice none 0 0] 53 (0, 0)) (by (with_reducible repeat (first | refine qkN ?_ _ | refine qkD ?_ | refine qkA ?_ _)); refine blk_put (cs := #[.string (⟨#[]⟩ : ByteArray), .slice none 0 0]) ?_ 0 _ rfl; (with_reducible repeat (first | refine qkN ?_ _ | refine qkD ?_ | refine qkA ?_ _)); exact BK103.out) hb); have n4_ := qO (below_step qa19 hb); clear BK101; clear BK102; clear BK103; clear HB; have HO106 := n0_; have BK101 := n1_; have BK102 := n2_; have BK103 := n3_; have HB := n4_; clear n0_ n1_ n2_ n3_ n4_; (try clear hb); (try clear hb2); (try clear hk); (try clear hi); (try clear ho0); obtain ⟨Ao12, co12, eo12⟩ := Kd.S_slice HO106.out; subst eo12; have hcz13_0 : w11.cell? ⟨gb103, 0, none⟩ = some (.string a0_0) := (blk_cell BK103.out 0).trans rfl; have hcz13_1 : w11.cell? ⟨gb103, 1, none⟩ = some (.slice none 0 0) := (blk_cell BK103.out 1).trans rfl; have hfz13_0 := blk_frozen BK103.out 0; have hfz13_1 := blk_frozen BK103.out 1; have hcz14_0 : w11.cell? ⟨gb102, 0, none⟩ = some (.string (⟨#[]⟩ : ByteArray)) := (blk_cell BK102.out 0).trans rfl; have hcz14_1 : w11.cell? ⟨gb102, 1, none⟩ = some (.slice none 0 0) := (blk_cell BK102.out 1).trans rfl; have hfz14_0 := blk_frozen BK102.out 0; have hfz14_1 := blk_frozen BK102.out 1))
 refine bodyPost_ret (results_cell_row rfl _ _ gb102 53 #[.string a0_0, .slice Ao12 t104.length co12] (0, 0) _ rfl (by (with_reducible repeat (first | refine qkN ?_ _ | refine qkD ?_ | refine qkA ?_ _)); refine blk_put (cs := #[.string a0_0, .slice none 0 0]) ?_ 1 _ rfl; (with_reducible repeat (first | refine qkN ?_ _ | refine qkD ?_ | refine qkA ?_ _)); refine blk_put (cs := #[.string (⟨#[]⟩ : ByteArray), .slice none 0 0]) ?_ 0 _ rfl; (with_reducible repeat (first | refine qkN ?_ _ | refine qkD ?_ | refine qkA ?_ _)); refine blk_far ?_ NB102_103.out _; (with_reducible repeat (first | refine qkN ?_ _ | refine qkD ?_ | refine qkA ?_ _)); exact BK102.out) Try.underlying53 rfl qa9) rfl ?_
 exact ⟨_, qa6, by (with_reducible repeat (first | apply Kd.S_alloc | apply Kd.S_drewN | apply Kd.S_drew)); exact Kd.S_mono (Kd.S_far (p := ⟨gb102, 1, none⟩) (Kd.S_far (p := ⟨gb102, 0, none⟩) (Kd.S_far (p := ⟨gb103, 1, none⟩) (Kd.S_types (Kd.S_types HO106.out BK103.out (by decide)) BK102.out (by decide)) (fun _ hk => hk.1.2) (.slice Ao12 t104.length co12)) (fun _ hk => hk.2) (.string a0_0)) (fun _ hk => hk.2) (.slice Ao12 t104.length co12)) (fun _ hk => trivial), qa19⟩


def laws_toTypeDefS.l0 : Nat → List (S77) → List (S53) → Int → Option ((List (S53)))
 | 0, _, _, _ => none
 | k + 1, x0, x3, x4 => if x4 < (x0.length : Int) then (if 0 ≤ x4 then ((laws_toTypeDef.f k ((rd_T77 x0 x4).f0) ((rd_T77 x0 x4).f1)).bind fun bt105 => (if x4 < (x3.length : Int) then (laws_toTypeDefS.l0 k x0 (x3.set (x4 : Int).toNat (⟨bt105.1, bt105.2⟩ : S53)) (wrap64 (x4 + 1))) else (none))) else (none)) else (some x3)
def laws_toTypeDefS.f (k : Nat) (l0 : List (S77)) : Option ((List (S53))) := if 0 ≤ (l0.length : Int) then (if ((l0.length : Int) : Int).toNat ≤ 7036874417766 then (laws_toTypeDefS.l0 k l0 (List.replicate ((l0.length : Int) : Int).toNat z53) 0) else (none)) else (none)
set_option maxHeartbeats 8000000 in
set_option maxRecDepth 100000 in
theorem laws_toTypeDefS.calls (k : Nat) (A0 : Option Addr) (c0 : Nat) (l0 : List (S77)) (r : List (S53)) (w : World) (hr0 : Kd.C k77 w A0 l0.length l0) (hc0 : l0.length ≤ c0) (h : laws_toTypeDefS.f k l0 = some r) :
  Calls Try.prog 32 #[.slice A0 l0.length c0] w fun e w' => ∃ v0_ : Value, e = .returned (v0_) ∧ Kd.R k53 53 w' w.heap.size (fun _ => True) v0_ r ∧ Below w.heap.size w w' := by
 have hu77 := Try.underlying77; have hu53 := Try.underlying53; have HR0 := qO hr0; have HC0 := qO hc0; clear hr0 hc0; have HB := qO (Below.refl w.heap.size w); have H : (if 0 ≤ (l0.length : Int) then (if ((l0.length : Int) : Int).toNat ≤ 7036874417766 then (laws_toTypeDefS.l0 k l0 (List.replicate ((l0.length : Int) : Int).toNat z53) 0) else (none)) else (none)) = some r := h; clear h
 by_cases c2 : 0 ≤ (l0.length : Int)
 ·rw [if_pos c2] at H
  have c2b0 := eq_true c2; have c2b1 : decide (0 ≤ (l0.length : Int)) = true := decide_eq_true c2; clear c2
  by_cases c3 : ((l0.length : Int) : Int).toNat ≤ 7036874417766
  ·rw [if_pos c3] at H
   have c3b0 := eq_true c3; have c3b1 : decide (((l0.length : Int) : Int).toNat ≤ 7036874417766) = true := decide_eq_true c3; clear c3; obtain ⟨y101, hy101⟩ : ∃ y_ : List (S53), y_ = (List.replicate ((l0.length : Int) : Int).toNat z53) := ⟨_, rfl⟩; replace H : (laws_toTypeDefS.l0 k l0 y101 0) = some r := by first | (rw [hy101]; with_reducible exact H) | (have H2_ := (Option.bind_some _ _).symm.trans H; rw [hy101]; with_reducible exact H2_) | (have H2_ := (Option.bind_some _ _).symm.trans H; with_reducible exact H2_) | with_reducible exact H | (rw [hy101]; exact H) | exact H
   have Ny101 := qO hy101; clear hy101; have H' := qO H; clear H
   go_enter Try.func32, Try.ntmps32
   go_wp2_with (first | ((with_reducible refine gate_dst (N := 7) rfl ?_); refine Kd.R_make k53 _ 53 rfl (N := 7) rfl 27 _ _ rfl (l0.length : Int) rfl rfl Try.underlying27 (.agg #[(.string ⟨#[]⟩), (.slice none 0 0)]) 40 info53 rfl qa66 qa22 z53 (ok := fun _ => True) (okp := fun _ => True) (k53_mkM _ _ _ z53 (Kd.R_nil _ _ _ _ _)) (fun _ hk => hk) trivial (qT qa3) (Nat.le_trans (Nat.mul_le_mul_right _ (qT qa3 : (l0.length : Int).toNat ≤ 7036874417766)) qa22) (Below.refl _ _) (Nat.le_refl _) ?_; intro v102 w4 ho5 hb hg_ hnew_; clear hg_ hnew_; (first | rw [← Ny101.out] at ho5 | (simp only [Int.reduceToNat] at ho5; rw [← Ny101.out] at ho5)); have n0_ := qO (Kd.R_lower ho5 (below_size qa4)); have n1_ := qO (below_step qa4 hb); clear HB; have HO103 := n0_; have HB := n1_; clear n0_ n1_; clear hb ho5))
   go_loopg [4] k (fun kq v4 w' => ∃ (x3_1 : List (S53)) (x4_1 : Int), v4 = .int .i64 x4_1 ∧ Aside0 (laws_toTypeDefS.l0 kq l0 x3_1 x4_1 = some r) ∧ Aside0 (kq ≤ k) ∧ Aside0 (Kd.R k53 53 w' w.heap.size (fun _ => True) v102 x3_1) ∧ Aside0 (Below w.heap.size w w'))
   case atStart => exact ⟨(y101), (0), qa8, H', ⟨Nat.le_refl _⟩, ⟨qa65⟩, ⟨qa4⟩⟩
   case round =>
    clear H'
    try clear c2
    try clear c2b0
    try clear c2b1
    try clear p2
    try clear c3
    try clear c3b0
    try clear c3b1
    obtain ⟨x3_1, x4_1, rfl, HA, HK1, HO_3, HB⟩ := hrel
    cases gk with
    | zero => exact absurd HA.out (by simp [laws_toTypeDefS.l0])
    | succ k1 =>
     have H := HA.out; clear HA; simp only [laws_toTypeDefS.l0] at H
     by_cases c6 : x4_1 < (l0.length : Int)
     ·rw [if_pos c6] at H
      have c6b0 : decide (x4_1 < (l0.length : Int)) = true := decide_eq_true c6; clear c6
      by_cases c7 : 0 ≤ x4_1
      ·rw [if_pos c7] at H
       have c7b0 : decide (0 ≤ x4_1) = true := decide_eq_true c7; clear c7; replace H := Option.bind_eq_some_iff.mp H; obtain ⟨⟨t105, t106⟩, A80, H⟩ := H; replace H : (if x4_1 < (x3_1.length : Int) then (laws_toTypeDefS.l0 k1 l0 (x3_1.set (x4_1 : Int).toNat (⟨t105, t106⟩ : S53)) (wrap64 (x4_1 + 1))) else (none)) = some r := H; have A8 := qO A80; clear A80
       by_cases c9 : x4_1 < (x3_1.length : Int)
       ·rw [if_pos c9] at H
        have c9b0 : decide (x4_1 < (x3_1.length : Int)) = true := decide_eq_true c9; clear c9; obtain ⟨y109, hy109⟩ : ∃ y_ : List (S53), y_ = (x3_1.set (x4_1 : Int).toNat (⟨t105, t106⟩ : S53)) := ⟨_, rfl⟩; replace H : (laws_toTypeDefS.l0 k1 l0 y109 (wrap64 (x4_1 + 1))) = some r := by first | (rw [hy109]; with_reducible exact H) | (have H2_ := (Option.bind_some _ _).symm.trans H; rw [hy109]; with_reducible exact H2_) | (have H2_ := (Option.bind_some _ _).symm.trans H; with_reducible exact H2_) | with_reducible exact H | (rw [hy109]; exact H) | exact H
        have Ny109 := qO hy109; clear hy109; have H' := qO H; clear H; have p104 : 0 ≤ (x4_1 : Int) := qT qa3; have q104 : x4_1 < (l0.length : Int) := qT qa3; obtain ⟨ad104, A104_1, c104_1, e104, hx104_0, hx104_1, hl104_1, hi104_1⟩ := at_T77 HR0.out x4_1 p104 q104
        cases e104
        replace hx104_0 := (HB.out.cell (qL w _ hx104_0)).trans hx104_0; replace hx104_1 := (HB.out.cell (qL w _ hx104_1)).trans hx104_1; have HR104_1 := qO hi104_1; have HC104_1 := qO hl104_1; clear hi104_1 hl104_1; replace p104 := eq_true p104; replace q104 := eq_true q104
        go_wp2_with (first | ((with_reducible refine gate_callee (f := 56) rfl ?_); refine goesL_ (some 20) rfl rfl Try.func56 qa9 rfl #[.agg #[.string ((rd_T77 l0 x4_1).f0), .slice A104_1 ((rd_T77 l0 x4_1).f1).length c104_1]] rfl qa2 ?_; (with_reducible refine (laws_toTypeDef.calls k1 ((rd_T77 l0 x4_1).f0) _ _ ((rd_T77 l0 x4_1).f1) t105 t106 _ ?side1 ?side2 A8.out).mono ?_); (case side1 => exact qa58); (case side2 => exact HC104_1.out); rintro e w11 ⟨v107, rfl, ho0, hb⟩; have hx_ := qHX HB hb qa0; refine ⟨_, rfl, ?_⟩; have n0_ := qO (Kd.R_elder' qa34 (Kd.S_base ho0) hb); have n1_ := qO (Kd.S_lower ho0 (below_size (below_step HB.out hx_))); have n2_ := qO (below_step (below_step HB.out hx_) hb); clear HO_3; clear HB; have HO_3 := n0_; have HO108 := n1_; have HB := n2_; clear n0_ n1_ n2_; clear hx_; (try clear hb); (try clear hb2); (try clear hk); (try clear hi); (try clear ho0); have p10 : 0 ≤ (x4_1 : Int) := qT qa3; have q10 : (x4_1 : Int) < ((x3_1.length : Int) : Int) := qT qa3; obtain ⟨go10, co10, eo10, gb10, gl10, cl10, HG10⟩ := Kd.R_form HO_3.out qa22; (first | cases eo10 | (injection eo10 with ea_ en_ ec_; (first | subst ea_ | (injection ea_ with ea_; subst ea_)); subst ec_; clear en_)); have GB10 := qO gb10; have GG10 := qO HG10; clear gb10 gl10 HG10; obtain ⟨ce10, hcl10, hM10, hcc10, hfr10⟩ := Kd.R_elem HO_3.out z53 (x4_1 : Int) p10 q10; obtain ⟨ve10_1, rfl, ge10_1⟩ := k53_openM hM10; have hx10_0 : w11.cell? ⟨go10, (x4_1 : Int).toNat * 2, none⟩ = some (.string ((rd_T53 x3_1 x4_1).f0)) := hcc10 0 _ rfl; have hx10_1 : w11.cell? ⟨go10, (x4_1 : Int).toNat * 2 + 1, none⟩ = some (ve10_1) := hcc10 1 _ rfl; have hf10_0 : w11.frozen? ⟨go10, (x4_1 : Int).toNat * 2, none⟩ = false := hfr10 0; have hf10_1 : w11.frozen? ⟨go10, (x4_1 : Int).toNat * 2 + 1, none⟩ = false := hfr10 1; clear hcl10 hcc10 hfr10; (try clear hM10); replace p10 := eq_true p10; replace q10 := eq_true q10; have n_ := qO (Kd.R_mono (ok' := (fun k_ => some k_ ≠ (v107 : Value).ownBlock)) HO_3.out (fun k_ hk => hk.2)); clear HO_3; have HO_3 := n_; clear n_; have HX12 := qO (show Kd.R k53 53 w11 w.heap.size (fun _ => True) (.slice (some ⟨go10, 0, none⟩) x3_1.length co10) x3_1 from (by (with_reducible repeat (first | apply Kd.R_alloc | apply Kd.R_drewN | apply Kd.R_drew)); exact Kd.R_mono HO_3.out (fun _ hk => trivial))); obtain ⟨ce12, hcl12, hM12, hcc12, hfr12⟩ := Kd.R_elem HX12.out z53 (x4_1 : Int) (qT qa3) (by have h_ : (x4_1 : Int) < ((x3_1.length : Int) : Int) := qT qa3; first | exact h_ | (have e_ := (Kd.R_reads' HO_3.out).1; omega) | simpa using h_); obtain ⟨ve12_1, rfl, ge12_1⟩ := k53_openM hM12; have HP12 := Kd.R_seg HX12.out (x4_1 : Int) (qT qa3) (by have h_ : (x4_1 : Int) < ((x3_1.length : Int) : Int) := qT qa3; first | exact h_ | (have e_ := (Kd.R_reads' HO_3.out).1; omega) | simpa using h_) (seg := [.string t105, v107]) (j := 0) hcl12 hcc12 (show 2 ≤ 2 from by decide) (x' := (⟨t105, t106⟩ : S53)) (k53_mkM _ _ _ (⟨t105, t106⟩ : S53) (Kd.R_mono (Kd.R_apart' ((Kd.S_R HO108.out)) (Kd.R_typed HO_3.out) qa66) (fun k_ hk => ⟨trivial, fun e_ => (hk.2) (by rw [e_]; rfl)⟩))) (fun _ hk => hk); have hx12_0 := hcc12 0 _ rfl; (try simp only [show (k53).sz = 2 from rfl, Nat.mul_one, Nat.add_zero] at hx12_0); have hf12_0 := hfr12 0; (try simp only [show (k53).sz = 2 from rfl, Nat.mul_one, Nat.add_zero] at hf12_0); have hx12_1 := hcc12 1 _ rfl; (try simp only [show (k53).sz = 2 from rfl, Nat.mul_one, Nat.add_zero] at hx12_1); have hf12_1 := hfr12 1; (try simp only [show (k53).sz = 2 from rfl, Nat.mul_one, Nat.add_zero] at hf12_1); clear hcl12 hcc12 hfr12; (try clear hM12)) | ((with_reducible refine gate_store (t := 53) (p := 21) rfl ?_); refine store_event (t := 53) (p := 21) (v := ?vo_w13) (w1 := ((w11.setCell ⟨go10, (x4_1 : Int).toNat * 2, none⟩ (.string t105)).setCell ⟨go10, (x4_1 : Int).toNat * 2 + 1, none⟩ (v107))) ?hg ?ho ?hn ?hr ?_; (case ho => rfl); (case hg => rfl); (case hn => rfl); (case hr => obtain ⟨Av0_, cv0_, ev0_⟩ := Kd.R_slice (Kd.S_R HO108.out); rw [ev0_]; first | (go_simp; done) | (go_simp; rfl)); intro w13 hw; have hg : w11.grownBy w13 (some go10) := qa69; have hp_ : Kd.R k53 53 w13 w.heap.size (fun _ => True) (.slice (some ⟨go10, 0, none⟩) x3_1.length co10) y109 := (by rw [hw, Ny109.out]; exact HP12.1); clear HP12; have n0_ := qO (hp_); have n1_ := qO ((by rw [hw]; exact qbS (qbS (HB.out) GB10.out) GB10.out : Below w.heap.size w w13)); clear HO_3; clear HB; clear HO108; have HO_3 := n0_; have HB := n1_; clear n0_ n1_; clear hg hw hp_))
        go_roundg k1
        case measure => have := HK1.out; omega
        case rel => exact ⟨(y109), (wrap64 (x4_1 + 1)), qa8, H', ⟨qa55⟩, ⟨qa34⟩, ⟨qa4⟩⟩
       ·rw [if_neg c9] at H
        exact absurd H qa61
      ·rw [if_neg c7] at H
       exact absurd H qa61
     ·rw [if_neg c6] at H
      have c6b0 : decide (x4_1 < (l0.length : Int)) = false := decide_eq_false c6; clear c6; obtain rfl := Option.some.inj H; go_wp2
      go_ret
      exact ⟨_, qa6, qa34, qa4⟩
  ·rw [if_neg c3] at H
   exact absurd H qa61
 ·rw [if_neg c2] at H
  exact absurd H qa61


def laws_toSchema.f (k : Nat) (l0_0 : List (S77)) : Option ((List (S53))) := (laws_toTypeDefS.f k l0_0).bind fun t104 => (some t104)
set_option maxHeartbeats 8000000 in
set_option maxRecDepth 100000 in
theorem laws_toSchema.calls (k : Nat) (A0_0 : Option Addr) (c0_0 : Nat) (l0_0 : List (S77)) (r : List (S53)) (w : World) (hr0_0 : Kd.C k77 w A0_0 l0_0.length l0_0) (hc0_0 : l0_0.length ≤ c0_0) (h : laws_toSchema.f k l0_0 = some r) :
  Calls Try.prog 10 #[.agg #[.slice A0_0 l0_0.length c0_0]] w fun e w' => ∃ v0_ : Value, e = .returned (.agg #[v0_]) ∧ Kd.R k53 53 w' w.heap.size (fun _ => True) v0_ r ∧ Below w.heap.size w w' := by
 have hu24 := Try.underlying24; have hu29 := Try.underlying29; have HR0_0 := qO hr0_0; have HC0_0 := qO hc0_0; clear hr0_0 hc0_0; have HB := qO (Below.refl w.heap.size w); have H : ((laws_toTypeDefS.f k l0_0).bind fun t104 => (some t104)) = some r := h; clear h; replace H := Option.bind_eq_some_iff.mp H; obtain ⟨t104, A20, H⟩ := H; replace H : (some t104) = some r := H; have A2 := qO A20; clear A20; obtain rfl := Option.some.inj H
 go_enter Try.func10, Try.ntmps10
 go_wp2_with (first | ((with_reducible refine gate_dst (N := 1) rfl ?_); refine box_event ?hg (N := 1) ?hd (cs := #[.slice A0_0 l0_0.length c0_0]) (t := 24) ?hr ?_; (case hd => rfl); (case hg => rfl); (case hr => exact qa12); intro gb101 hg w3 hbox hb; have hx_ := qHX HB hb qa0; have n0_ := qO (below_step (below_step HB.out hx_) hb); have n1_ := qO (hbox); have n2_ := qO ((qa11 : w.heap.size ≤ gb101)); have n3_ := n2_; clear HB; have HB := n0_; have BK101 := n1_; have GW101 := n2_; have GE101 := n3_; clear n0_ n1_ n2_ n3_; clear hx_; clear hb hbox hg) | ((with_reducible refine gate_dst (N := 2) rfl ?_); refine box_event ?hg (N := 2) ?hd (cs := #[.slice none 0 0]) (t := 29) ?hr ?_; (case hd => rfl); (case hg => rfl); (case hr => exact qa12); intro gb102 hg w4 hbox hb; have hx_ := qHX HB hb qa0; have n0_ := qO (qB BK101.out hx_ hb); have n1_ := qO (below_step (below_step HB.out hx_) hb); have n2_ := qO (hbox); have n3_ := qO ((qa11 : w.heap.size ≤ gb102)); have n4_ := n3_; have n5_ := qO ((qa47 : gb101 ≠ gb102)); have n6_ := qO (Ne.symm n5_.out); clear BK101; clear HB; have BK101 := n0_; have HB := n1_; have BK102 := n2_; have GW102 := n3_; have GE102 := n4_; have NB101_102 := n5_; have NB102_101 := n6_; clear n0_ n1_ n2_ n3_ n4_ n5_ n6_; clear hx_; clear hb hbox hg) | ((with_reducible refine gate_dst (N := 3) rfl ?_); refine box_event ?hg (N := 3) ?hd (cs := #[.slice none 0 0]) (t := 29) ?hr ?_; (case hd => rfl); (case hg => rfl); (case hr => exact qa12); intro gb103 hg w5 hbox hb; have hx_ := qHX HB hb qa0; have n0_ := qO (qB BK101.out hx_ hb); have n1_ := qO (qB BK102.out hx_ hb); have n2_ := qO (below_step (below_step HB.out hx_) hb); have n3_ := qO (hbox); have n4_ := qO ((qa11 : w.heap.size ≤ gb103)); have n5_ := n4_; have n6_ := qO ((qa47 : gb101 ≠ gb103)); have n7_ := qO (Ne.symm n6_.out); have n8_ := qO ((by rw [hg]; exact Nat.ne_of_lt (blk_lt (g := gb102) (o := .cells #[.slice none 0 0] 29 (0, 0)) (by (with_reducible repeat (first | refine qkN ?_ _ | refine qkD ?_ | refine qkA ?_ _)); exact BK102.out)) : gb102 ≠ gb103)); have n9_ := qO (Ne.symm n8_.out); clear BK101; clear BK102; clear HB; have BK101 := n0_; have BK102 := n1_; have HB := n2_; have BK103 := n3_; have GW103 := n4_; have GE103 := n5_; have NB101_103 := n6_; have NB103_101 := n7_; have NB102_103 := n8_; have NB103_102 := n9_; clear n0_ n1_ n2_ n3_ n4_ n5_ n6_ n7_ n8_ n9_; clear hx_; clear hb hbox hg; have hnb6 := NB101_102.out; have hnc6 := NB102_101.out; have hnb7 := NB101_103.out; have hnc7 := NB103_101.out; have hcz8_0 : w5.cell? ⟨gb101, 0, none⟩ = some (.slice A0_0 l0_0.length c0_0) := (blk_cell BK101.out 0).trans rfl; have hfz8_0 := blk_frozen BK101.out 0) | ((with_reducible refine gate_callee (f := 32) rfl ?_); refine goesL_ (some 6) rfl rfl Try.func32 qa9 rfl #[.slice A0_0 l0_0.length c0_0] rfl qa2 ?_; (with_reducible refine (laws_toTypeDefS.calls k _ _ l0_0 t104 _ ?side1 ?side2 A2.out).mono ?_); (case side1 => exact qa25); (case side2 => exact HC0_0.out); rintro e w9 ⟨v105, rfl, ho0, hb⟩; have hx_ := qHX HB hb qa0; refine ⟨_, rfl, ?_⟩; have n0_ := qO (Kd.R_lower ho0 (below_size (below_step HB.out hx_))); have n1_ := qO (qB BK101.out hx_ hb); have n2_ := qO (qB BK102.out hx_ hb); have n3_ := qO (qB BK103.out hx_ hb); have n4_ := qO (below_step (below_step HB.out hx_) hb); clear BK101; clear BK102; clear BK103; clear HB; have HO106 := n0_; have BK101 := n1_; have BK102 := n2_; have BK103 := n3_; have HB := n4_; clear n0_ n1_ n2_ n3_ n4_; clear hx_; (try clear hb); (try clear hb2); (try clear hk); (try clear hi); (try clear ho0); obtain ⟨Ao10, co10, eo10⟩ := Kd.R_slice HO106.out; subst eo10; have hnb11 := NB103_102.out; have hnc11 := NB102_103.out; have hcz12_0 : w9.cell? ⟨gb103, 0, none⟩ = some (.slice none 0 0) := (blk_cell BK103.out 0).trans rfl; have hfz12_0 := blk_frozen BK103.out 0; have hcz13_0 : w9.cell? ⟨gb102, 0, none⟩ = some (.slice none 0 0) := (blk_cell BK102.out 0).trans rfl; have hfz13_0 := blk_frozen BK102.out 0))
 refine bodyPost_ret (results_cell_row rfl _ _ gb102 29 #[.slice Ao10 t104.length co10] (0, 0) _ rfl (by (with_reducible repeat (first | refine qkN ?_ _ | refine qkD ?_ | refine qkA ?_ _)); refine blk_put (cs := #[.slice none 0 0]) ?_ 0 _ rfl; (with_reducible repeat (first | refine qkN ?_ _ | refine qkD ?_ | refine qkA ?_ _)); refine blk_far ?_ NB102_103.out _; (with_reducible repeat (first | refine qkN ?_ _ | refine qkD ?_ | refine qkA ?_ _)); exact BK102.out) Try.underlying29 rfl qa9) rfl ?_
 exact ⟨_, qa6, by (with_reducible repeat (first | apply Kd.R_alloc | apply Kd.R_drewN | apply Kd.R_drew)); exact Kd.R_mono (Kd.R_far (p := ⟨gb102, 0, none⟩) (Kd.R_far (p := ⟨gb103, 0, none⟩) (Kd.R_types (Kd.R_types HO106.out BK103.out (by decide)) BK102.out (by decide)) (fun _ hk => hk.1.2) (.slice Ao10 t104.length co10)) (fun _ hk => hk.2) (.slice Ao10 t104.length co10)) (fun _ hk => trivial), qa19⟩


def laws_szArgDef.f (a0_0 : ByteArray) (a0_1 : Bool) (a1 : Int) : Option (Int) := if (wrap64 (a1 - (a0_0.size : Int))) < 0 then (some (-1)) else (some (wrap64 (a1 - (a0_0.size : Int))))
set_option maxHeartbeats 8000000 in
set_option maxRecDepth 100000 in
theorem laws_szArgDef.calls (a0_0 : ByteArray) (a0_1 : Bool) (a1 : Int) (r : Int) (w : World) (h : laws_szArgDef.f a0_0 a0_1 a1 = some r) :
  Calls Try.prog 86 #[.agg #[.string a0_0, .bool a0_1], .int .i64 a1] w fun e w' => e = .returned (.int .i64 r) ∧ Below w.heap.size w w' := by
 have hu106 := Try.underlying106; have HB := qO (Below.refl w.heap.size w); have H : (if (wrap64 (a1 - (a0_0.size : Int))) < 0 then (some (-1)) else (some (wrap64 (a1 - (a0_0.size : Int))))) = some r := h; clear h
 by_cases c3 : (wrap64 (a1 - (a0_0.size : Int))) < 0
 ·rw [if_pos c3] at H
  have c3b0 : decide ((wrap64 (a1 - (a0_0.size : Int))) < 0) = true := decide_eq_true c3; clear c3; obtain rfl := Option.some.inj H
  go_enter Try.func86, Try.ntmps86
  go_wp2_with (first | ((with_reducible refine gate_dst (N := 2) rfl ?_); refine box_event ?hg (N := 2) ?hd (cs := #[.string a0_0, .bool a0_1]) (t := 106) ?hr ?_; (case hd => rfl); (case hg => rfl); (case hr => exact qa12); intro gb101 hg w4 hbox hb; have hx_ := qHX HB hb qa0; have n0_ := qO (below_step (below_step HB.out hx_) hb); have n1_ := qO (hbox); have n2_ := qO ((qa11 : w.heap.size ≤ gb101)); have n3_ := n2_; clear HB; have HB := n0_; have BK101 := n1_; have GW101 := n2_; have GE101 := n3_; clear n0_ n1_ n2_ n3_; clear hx_; clear hb hbox hg; have hcz5_0 : w4.cell? ⟨gb101, 0, none⟩ = some (.string a0_0) := (blk_cell BK101.out 0).trans rfl; have hcz5_1 : w4.cell? ⟨gb101, 1, none⟩ = some (.bool a0_1) := (blk_cell BK101.out 1).trans rfl; have hfz5_0 := blk_frozen BK101.out 0; have hfz5_1 := blk_frozen BK101.out 1))
  go_ret
  exact ⟨qa6, qa16⟩
 ·rw [if_neg c3] at H
  have c3b0 : decide ((wrap64 (a1 - (a0_0.size : Int))) < 0) = false := decide_eq_false c3; clear c3; obtain rfl := Option.some.inj H
  go_enter Try.func86, Try.ntmps86
  go_wp2_with (first | ((with_reducible refine gate_dst (N := 2) rfl ?_); refine box_event ?hg (N := 2) ?hd (cs := #[.string a0_0, .bool a0_1]) (t := 106) ?hr ?_; (case hd => rfl); (case hg => rfl); (case hr => exact qa12); intro gb101 hg w6 hbox hb; have hx_ := qHX HB hb qa0; have n0_ := qO (below_step (below_step HB.out hx_) hb); have n1_ := qO (hbox); have n2_ := qO ((qa11 : w.heap.size ≤ gb101)); have n3_ := n2_; clear HB; have HB := n0_; have BK101 := n1_; have GW101 := n2_; have GE101 := n3_; clear n0_ n1_ n2_ n3_; clear hx_; clear hb hbox hg; have hcz7_0 : w6.cell? ⟨gb101, 0, none⟩ = some (.string a0_0) := (blk_cell BK101.out 0).trans rfl; have hcz7_1 : w6.cell? ⟨gb101, 1, none⟩ = some (.bool a0_1) := (blk_cell BK101.out 1).trans rfl; have hfz7_0 := blk_frozen BK101.out 0; have hfz7_1 := blk_frozen BK101.out 1))
  go_ret
  exact ⟨qa6, qa16⟩


def laws_szArgDefS.l0 : Nat → List (S106) → Int → Int → Option (Int)
 | 0, _, _, _ => none
 | k + 1, x0, x1, x5 => if x5 < (x0.length : Int) then (if 0 ≤ x5 then ((laws_szArgDef.f ((rd_T106 x0 x5).f0) ((rd_T106 x0 x5).f1) x1).bind fun t102 => (if t102 < 0 then (some (-1)) else (laws_szArgDefS.l0 k x0 t102 (wrap64 (x5 + 1))))) else (none)) else (some x1)
def laws_szArgDefS.f (k : Nat) (l0 : List (S106)) (a1 : Int) : Option (Int) := if (wrap64 (a1 - (l0.length : Int))) < 0 then (some (-1)) else (laws_szArgDefS.l0 k l0 (wrap64 (a1 - (l0.length : Int))) 0)
set_option maxHeartbeats 8000000 in
set_option maxRecDepth 100000 in
theorem laws_szArgDefS.calls (k : Nat) (A0 : Option Addr) (c0 : Nat) (l0 : List (S106)) (a1 : Int) (r : Int) (w : World) (hr0 : Kd.C k106 w A0 l0.length l0) (hc0 : l0.length ≤ c0) (h : laws_szArgDefS.f k l0 a1 = some r) :
  Calls Try.prog 84 #[.slice A0 l0.length c0, .int .i64 a1] w fun e w' => e = .returned (.int .i64 r) ∧ Below w.heap.size w w' := by
 have hu106 := Try.underlying106; have HR0 := qO hr0; have HC0 := qO hc0; clear hr0 hc0; have HB := qO (Below.refl w.heap.size w); have H : (if (wrap64 (a1 - (l0.length : Int))) < 0 then (some (-1)) else (laws_szArgDefS.l0 k l0 (wrap64 (a1 - (l0.length : Int))) 0)) = some r := h; clear h
 by_cases c3 : (wrap64 (a1 - (l0.length : Int))) < 0
 ·rw [if_pos c3] at H
  have c3b0 : decide ((wrap64 (a1 - (l0.length : Int))) < 0) = true := decide_eq_true c3; clear c3; obtain rfl := Option.some.inj H
  go_enter Try.func84, Try.ntmps84
  go_wp2
  go_ret
  exact ⟨qa6, qa4⟩
 ·rw [if_neg c3] at H
  have c3b0 : decide ((wrap64 (a1 - (l0.length : Int))) < 0) = false := decide_eq_false c3; clear c3; have H' := qO H; clear H
  go_enter Try.func84, Try.ntmps84
  go_wp2
  go_loopg [1, 5] k (fun kq v1 v5 w' => ∃ (x1_1 : Int) (x5_1 : Int), v1 = .int .i64 x1_1 ∧ v5 = .int .i64 x5_1 ∧ Aside0 (laws_szArgDefS.l0 kq l0 x1_1 x5_1 = some r) ∧ Aside0 (kq ≤ k) ∧ Aside0 (Below w.heap.size w w'))
  case atStart => exact ⟨(wrap64 (a1 - (l0.length : Int))), (0), qa8, qa8, H', ⟨Nat.le_refl _⟩, ⟨qa4⟩⟩
  case round =>
   clear H'
   try clear p2
   try clear c3
   try clear c3b0
   obtain ⟨x1_1, x5_1, rfl, rfl, HA, HK1, HB⟩ := hrel
   cases gk with
   | zero => exact absurd HA.out (by simp [laws_szArgDefS.l0])
   | succ k1 =>
    have H := HA.out; clear HA; simp only [laws_szArgDefS.l0] at H
    by_cases c4 : x5_1 < (l0.length : Int)
    ·rw [if_pos c4] at H
     have c4b0 : decide (x5_1 < (l0.length : Int)) = true := decide_eq_true c4; clear c4
     by_cases c5 : 0 ≤ x5_1
     ·rw [if_pos c5] at H
      have c5b0 : decide (0 ≤ x5_1) = true := decide_eq_true c5; clear c5; replace H := Option.bind_eq_some_iff.mp H; obtain ⟨t102, A60, H⟩ := H; replace H : (if t102 < 0 then (some (-1)) else (laws_szArgDefS.l0 k1 l0 t102 (wrap64 (x5_1 + 1)))) = some r := H; have A6 := qO A60; clear A60
      by_cases c7 : t102 < 0
      ·rw [if_pos c7] at H
       have c7b0 : decide (t102 < 0) = true := decide_eq_true c7; clear c7; obtain rfl := Option.some.inj H; have p101 : 0 ≤ (x5_1 : Int) := qT qa3; have q101 : x5_1 < (l0.length : Int) := qT qa3; obtain ⟨ad101, e101, hx101_0, hx101_1⟩ := at_T106 HR0.out x5_1 p101 q101
       cases e101
       replace hx101_0 := (HB.out.cell (qL w _ hx101_0)).trans hx101_0; replace hx101_1 := (HB.out.cell (qL w _ hx101_1)).trans hx101_1; replace p101 := eq_true p101; replace q101 := eq_true q101
       go_wp2_with (first | ((with_reducible refine gate_callee (f := 86) rfl ?_); refine goesL_ (some 23) rfl rfl Try.func86 qa9 rfl #[.agg #[.string ((rd_T106 l0 x5_1).f0), .bool ((rd_T106 l0 x5_1).f1)], .int .i64 x1_1] rfl qa2 ?_; (with_reducible refine (laws_szArgDef.calls ((rd_T106 l0 x5_1).f0) ((rd_T106 l0 x5_1).f1) x1_1 t102 _ A6.out).mono ?_); rintro e w8 ⟨rfl, hb⟩; have hx_ := qHX HB hb qa0; refine ⟨_, rfl, ?_⟩; have n0_ := qO (below_step (below_step HB.out hx_) hb); clear HB; have HB := n0_; clear n0_; clear hx_; (try clear hb); (try clear hb2); (try clear hk); (try clear hi)))
       go_ret
       exact ⟨qa6, qa4⟩
      ·rw [if_neg c7] at H
       have c7b0 : decide (t102 < 0) = false := decide_eq_false c7; clear c7; have H' := qO H; clear H; have p101 : 0 ≤ (x5_1 : Int) := qT qa3; have q101 : x5_1 < (l0.length : Int) := qT qa3; obtain ⟨ad101, e101, hx101_0, hx101_1⟩ := at_T106 HR0.out x5_1 p101 q101
       cases e101
       replace hx101_0 := (HB.out.cell (qL w _ hx101_0)).trans hx101_0; replace hx101_1 := (HB.out.cell (qL w _ hx101_1)).trans hx101_1; replace p101 := eq_true p101; replace q101 := eq_true q101
       go_wp2_with (first | ((with_reducible refine gate_callee (f := 86) rfl ?_); refine goesL_ (some 23) rfl rfl Try.func86 qa9 rfl #[.agg #[.string ((rd_T106 l0 x5_1).f0), .bool ((rd_T106 l0 x5_1).f1)], .int .i64 x1_1] rfl qa2 ?_; (with_reducible refine (laws_szArgDef.calls ((rd_T106 l0 x5_1).f0) ((rd_T106 l0 x5_1).f1) x1_1 t102 _ A6.out).mono ?_); rintro e w9 ⟨rfl, hb⟩; have hx_ := qHX HB hb qa0; refine ⟨_, rfl, ?_⟩; have n0_ := qO (below_step (below_step HB.out hx_) hb); clear HB; have HB := n0_; clear n0_; clear hx_; (try clear hb); (try clear hb2); (try clear hk); (try clear hi)))
       go_roundg k1
       case measure => have := HK1.out; omega
       case rel => exact ⟨(t102), (wrap64 (x5_1 + 1)), qa8, qa8, H', ⟨qa55⟩, ⟨qa4⟩⟩
     ·rw [if_neg c5] at H
      exact absurd H qa61
    ·rw [if_neg c4] at H
     have c4b0 : decide (x5_1 < (l0.length : Int)) = false := decide_eq_false c4; clear c4; obtain rfl := Option.some.inj H; go_wp2
     go_ret
     exact ⟨qa6, qa4⟩


def laws_szFieldDef.f (k : Nat) (a0_0 : ByteArray) (l0_1 : List (S106)) (a0_2 : ByteArray) (a0_3 : Bool) (a0_4 : Bool) (a1 : Int) : Option (Int) := if (wrap64 (a1 - (a0_0.size : Int))) < 0 then (some (-1)) else ((laws_szArgDefS.f k l0_1 (wrap64 (a1 - (a0_0.size : Int)))).bind fun t102 => (if t102 < 0 then (some (-1)) else (if (wrap64 (t102 - (a0_2.size : Int))) < 0 then (some (-1)) else (some (wrap64 (t102 - (a0_2.size : Int)))))))
set_option maxHeartbeats 8000000 in
set_option maxRecDepth 100000 in
theorem laws_szFieldDef.calls (k : Nat) (a0_0 : ByteArray) (A0_1 : Option Addr) (c0_1 : Nat) (l0_1 : List (S106)) (a0_2 : ByteArray) (a0_3 : Bool) (a0_4 : Bool) (a1 : Int) (r : Int) (w : World) (hr0_1 : Kd.C k106 w A0_1 l0_1.length l0_1) (hc0_1 : l0_1.length ≤ c0_1) (h : laws_szFieldDef.f k a0_0 l0_1 a0_2 a0_3 a0_4 a1 = some r) :
  Calls Try.prog 82 #[.agg #[.string a0_0, .slice A0_1 l0_1.length c0_1, .string a0_2, .bool a0_3, .bool a0_4], .int .i64 a1] w fun e w' => e = .returned (.int .i64 r) ∧ Below w.heap.size w w' := by
 have hu101 := Try.underlying101; have HR0_1 := qO hr0_1; have HC0_1 := qO hc0_1; clear hr0_1 hc0_1; have HB := qO (Below.refl w.heap.size w); have H : (if (wrap64 (a1 - (a0_0.size : Int))) < 0 then (some (-1)) else ((laws_szArgDefS.f k l0_1 (wrap64 (a1 - (a0_0.size : Int)))).bind fun t102 => (if t102 < 0 then (some (-1)) else (if (wrap64 (t102 - (a0_2.size : Int))) < 0 then (some (-1)) else (some (wrap64 (t102 - (a0_2.size : Int)))))))) = some r := h; clear h
 by_cases c3 : (wrap64 (a1 - (a0_0.size : Int))) < 0
 ·rw [if_pos c3] at H
  have c3b0 : decide ((wrap64 (a1 - (a0_0.size : Int))) < 0) = true := decide_eq_true c3; clear c3; obtain rfl := Option.some.inj H
  go_enter Try.func82, Try.ntmps82
  go_wp2_with (first | ((with_reducible refine gate_dst (N := 2) rfl ?_); refine box_event ?hg (N := 2) ?hd (cs := #[.string a0_0, .slice A0_1 l0_1.length c0_1, .string a0_2, .bool a0_3, .bool a0_4]) (t := 101) ?hr ?_; (case hd => rfl); (case hg => rfl); (case hr => exact qa12); intro gb101 hg w4 hbox hb; have hx_ := qHX HB hb qa0; have n0_ := qO (below_step (below_step HB.out hx_) hb); have n1_ := qO (hbox); have n2_ := qO ((qa11 : w.heap.size ≤ gb101)); have n3_ := n2_; clear HB; have HB := n0_; have BK101 := n1_; have GW101 := n2_; have GE101 := n3_; clear n0_ n1_ n2_ n3_; clear hx_; clear hb hbox hg; have hcz5_0 : w4.cell? ⟨gb101, 0, none⟩ = some (.string a0_0) := (blk_cell BK101.out 0).trans rfl; have hcz5_1 : w4.cell? ⟨gb101, 1, none⟩ = some (.slice A0_1 l0_1.length c0_1) := (blk_cell BK101.out 1).trans rfl; have hcz5_2 : w4.cell? ⟨gb101, 2, none⟩ = some (.string a0_2) := (blk_cell BK101.out 2).trans rfl; have hcz5_3 : w4.cell? ⟨gb101, 3, none⟩ = some (.bool a0_3) := (blk_cell BK101.out 3).trans rfl; have hcz5_4 : w4.cell? ⟨gb101, 4, none⟩ = some (.bool a0_4) := (blk_cell BK101.out 4).trans rfl; have hfz5_0 := blk_frozen BK101.out 0; have hfz5_1 := blk_frozen BK101.out 1; have hfz5_2 := blk_frozen BK101.out 2; have hfz5_3 := blk_frozen BK101.out 3; have hfz5_4 := blk_frozen BK101.out 4))
  go_ret
  exact ⟨qa6, qa16⟩
 ·rw [if_neg c3] at H
  have c3b0 : decide ((wrap64 (a1 - (a0_0.size : Int))) < 0) = false := decide_eq_false c3; clear c3; replace H := Option.bind_eq_some_iff.mp H; obtain ⟨t102, A60, H⟩ := H; replace H : (if t102 < 0 then (some (-1)) else (if (wrap64 (t102 - (a0_2.size : Int))) < 0 then (some (-1)) else (some (wrap64 (t102 - (a0_2.size : Int)))))) = some r := H; have A6 := qO A60; clear A60
  by_cases c7 : t102 < 0
  ·rw [if_pos c7] at H
   have c7b0 : decide (t102 < 0) = true := decide_eq_true c7; clear c7; obtain rfl := Option.some.inj H
   go_enter Try.func82, Try.ntmps82
   go_wp2_with (first | ((with_reducible refine gate_dst (N := 2) rfl ?_); refine box_event ?hg (N := 2) ?hd (cs := #[.string a0_0, .slice A0_1 l0_1.length c0_1, .string a0_2, .bool a0_3, .bool a0_4]) (t := 101) ?hr ?_; (case hd => rfl); (case hg => rfl); (case hr => exact qa12); intro gb101 hg w8 hbox hb; have hx_ := qHX HB hb qa0; have n0_ := qO (below_step (below_step HB.out hx_) hb); have n1_ := qO (hbox); have n2_ := qO ((qa11 : w.heap.size ≤ gb101)); have n3_ := n2_; clear HB; have HB := n0_; have BK101 := n1_; have GW101 := n2_; have GE101 := n3_; clear n0_ n1_ n2_ n3_; clear hx_; clear hb hbox hg; have hcz9_0 : w8.cell? ⟨gb101, 0, none⟩ = some (.string a0_0) := (blk_cell BK101.out 0).trans rfl; have hcz9_1 : w8.cell? ⟨gb101, 1, none⟩ = some (.slice A0_1 l0_1.length c0_1) := (blk_cell BK101.out 1).trans rfl; have hcz9_2 : w8.cell? ⟨gb101, 2, none⟩ = some (.string a0_2) := (blk_cell BK101.out 2).trans rfl; have hcz9_3 : w8.cell? ⟨gb101, 3, none⟩ = some (.bool a0_3) := (blk_cell BK101.out 3).trans rfl; have hcz9_4 : w8.cell? ⟨gb101, 4, none⟩ = some (.bool a0_4) := (blk_cell BK101.out 4).trans rfl; have hfz9_0 := blk_frozen BK101.out 0; have hfz9_1 := blk_frozen BK101.out 1; have hfz9_2 := blk_frozen BK101.out 2; have hfz9_3 := blk_frozen BK101.out 3; have hfz9_4 := blk_frozen BK101.out 4) | ((with_reducible refine gate_callee (f := 84) rfl ?_); refine goesL_ (some 15) rfl rfl Try.func84 qa9 rfl #[.slice A0_1 l0_1.length c0_1, .int .i64 (wrap64 (a1 - (a0_0.size : Int)))] rfl qa2 ?_; (with_reducible refine (laws_szArgDefS.calls k _ _ l0_1 (wrap64 (a1 - (a0_0.size : Int))) t102 _ ?side1 ?side2 A6.out).mono ?_); (case side1 => exact qa17); (case side2 => exact HC0_1.out); rintro e w10 ⟨rfl, hb⟩; have hx_ := qHX HB hb qa0; refine ⟨_, rfl, ?_⟩; have n0_ := qO (qB BK101.out hx_ hb); have n1_ := qO (below_step (below_step HB.out hx_) hb); clear BK101; clear HB; have BK101 := n0_; have HB := n1_; clear n0_ n1_; clear hx_; (try clear hb); (try clear hb2); (try clear hk); (try clear hi)))
   go_ret
   exact ⟨qa6, qa16⟩
  ·rw [if_neg c7] at H
   have c7b0 : decide (t102 < 0) = false := decide_eq_false c7; clear c7
   by_cases c11 : (wrap64 (t102 - (a0_2.size : Int))) < 0
   ·rw [if_pos c11] at H
    have c11b0 : decide ((wrap64 (t102 - (a0_2.size : Int))) < 0) = true := decide_eq_true c11; clear c11; obtain rfl := Option.some.inj H
    go_enter Try.func82, Try.ntmps82
    go_wp2_with (first | ((with_reducible refine gate_dst (N := 2) rfl ?_); refine box_event ?hg (N := 2) ?hd (cs := #[.string a0_0, .slice A0_1 l0_1.length c0_1, .string a0_2, .bool a0_3, .bool a0_4]) (t := 101) ?hr ?_; (case hd => rfl); (case hg => rfl); (case hr => exact qa12); intro gb101 hg w12 hbox hb; have hx_ := qHX HB hb qa0; have n0_ := qO (below_step (below_step HB.out hx_) hb); have n1_ := qO (hbox); have n2_ := qO ((qa11 : w.heap.size ≤ gb101)); have n3_ := n2_; clear HB; have HB := n0_; have BK101 := n1_; have GW101 := n2_; have GE101 := n3_; clear n0_ n1_ n2_ n3_; clear hx_; clear hb hbox hg; have hcz13_0 : w12.cell? ⟨gb101, 0, none⟩ = some (.string a0_0) := (blk_cell BK101.out 0).trans rfl; have hcz13_1 : w12.cell? ⟨gb101, 1, none⟩ = some (.slice A0_1 l0_1.length c0_1) := (blk_cell BK101.out 1).trans rfl; have hcz13_2 : w12.cell? ⟨gb101, 2, none⟩ = some (.string a0_2) := (blk_cell BK101.out 2).trans rfl; have hcz13_3 : w12.cell? ⟨gb101, 3, none⟩ = some (.bool a0_3) := (blk_cell BK101.out 3).trans rfl; have hcz13_4 : w12.cell? ⟨gb101, 4, none⟩ = some (.bool a0_4) := (blk_cell BK101.out 4).trans rfl; have hfz13_0 := blk_frozen BK101.out 0; have hfz13_1 := blk_frozen BK101.out 1; have hfz13_2 := blk_frozen BK101.out 2; have hfz13_3 := blk_frozen BK101.out 3; have hfz13_4 := blk_frozen BK101.out 4) | ((with_reducible refine gate_callee (f := 84) rfl ?_); refine goesL_ (some 15) rfl rfl Try.func84 qa9 rfl #[.slice A0_1 l0_1.length c0_1, .int .i64 (wrap64 (a1 - (a0_0.size : Int)))] rfl qa2 ?_; (with_reducible refine (laws_szArgDefS.calls k _ _ l0_1 (wrap64 (a1 - (a0_0.size : Int))) t102 _ ?side1 ?side2 A6.out).mono ?_); (case side1 => exact qa17); (case side2 => exact HC0_1.out); rintro e w14 ⟨rfl, hb⟩; have hx_ := qHX HB hb qa0; refine ⟨_, rfl, ?_⟩; have n0_ := qO (qB BK101.out hx_ hb); have n1_ := qO (below_step (below_step HB.out hx_) hb); clear BK101; clear HB; have BK101 := n0_; have HB := n1_; clear n0_ n1_; clear hx_; (try clear hb); (try clear hb2); (try clear hk); (try clear hi); have hcz15_0 : w14.cell? ⟨gb101, 0, none⟩ = some (.string a0_0) := (blk_cell BK101.out 0).trans rfl; have hcz15_1 : w14.cell? ⟨gb101, 1, none⟩ = some (.slice A0_1 l0_1.length c0_1) := (blk_cell BK101.out 1).trans rfl; have hcz15_2 : w14.cell? ⟨gb101, 2, none⟩ = some (.string a0_2) := (blk_cell BK101.out 2).trans rfl; have hcz15_3 : w14.cell? ⟨gb101, 3, none⟩ = some (.bool a0_3) := (blk_cell BK101.out 3).trans rfl; have hcz15_4 : w14.cell? ⟨gb101, 4, none⟩ = some (.bool a0_4) := (blk_cell BK101.out 4).trans rfl; have hfz15_0 := blk_frozen BK101.out 0; have hfz15_1 := blk_frozen BK101.out 1; have hfz15_2 := blk_frozen BK101.out 2; have hfz15_3 := blk_frozen BK101.out 3; have hfz15_4 := blk_frozen BK101.out 4))
    go_ret
    exact ⟨qa6, qa16⟩
   ·rw [if_neg c11] at H
    have c11b0 : decide ((wrap64 (t102 - (a0_2.size : Int))) < 0) = false := decide_eq_false c11; clear c11; obtain rfl := Option.some.inj H
    go_enter Try.func82, Try.ntmps82
    go_wp2_with (first | ((with_reducible refine gate_dst (N := 2) rfl ?_); refine box_event ?hg (N := 2) ?hd (cs := #[.string a0_0, .slice A0_1 l0_1.length c0_1, .string a0_2, .bool a0_3, .bool a0_4]) (t := 101) ?hr ?_; (case hd => rfl); (case hg => rfl); (case hr => exact qa12); intro gb101 hg w16 hbox hb; have hx_ := qHX HB hb qa0; have n0_ := qO (below_step (below_step HB.out hx_) hb); have n1_ := qO (hbox); have n2_ := qO ((qa11 : w.heap.size ≤ gb101)); have n3_ := n2_; clear HB; have HB := n0_; have BK101 := n1_; have GW101 := n2_; have GE101 := n3_; clear n0_ n1_ n2_ n3_; clear hx_; clear hb hbox hg; have hcz17_0 : w16.cell? ⟨gb101, 0, none⟩ = some (.string a0_0) := (blk_cell BK101.out 0).trans rfl; have hcz17_1 : w16.cell? ⟨gb101, 1, none⟩ = some (.slice A0_1 l0_1.length c0_1) := (blk_cell BK101.out 1).trans rfl; have hcz17_2 : w16.cell? ⟨gb101, 2, none⟩ = some (.string a0_2) := (blk_cell BK101.out 2).trans rfl; have hcz17_3 : w16.cell? ⟨gb101, 3, none⟩ = some (.bool a0_3) := (blk_cell BK101.out 3).trans rfl; have hcz17_4 : w16.cell? ⟨gb101, 4, none⟩ = some (.bool a0_4) := (blk_cell BK101.out 4).trans rfl; have hfz17_0 := blk_frozen BK101.out 0; have hfz17_1 := blk_frozen BK101.out 1; have hfz17_2 := blk_frozen BK101.out 2; have hfz17_3 := blk_frozen BK101.out 3; have hfz17_4 := blk_frozen BK101.out 4) | ((with_reducible refine gate_callee (f := 84) rfl ?_); refine goesL_ (some 15) rfl rfl Try.func84 qa9 rfl #[.slice A0_1 l0_1.length c0_1, .int .i64 (wrap64 (a1 - (a0_0.size : Int)))] rfl qa2 ?_; (with_reducible refine (laws_szArgDefS.calls k _ _ l0_1 (wrap64 (a1 - (a0_0.size : Int))) t102 _ ?side1 ?side2 A6.out).mono ?_); (case side1 => exact qa17); (case side2 => exact HC0_1.out); rintro e w18 ⟨rfl, hb⟩; have hx_ := qHX HB hb qa0; refine ⟨_, rfl, ?_⟩; have n0_ := qO (qB BK101.out hx_ hb); have n1_ := qO (below_step (below_step HB.out hx_) hb); clear BK101; clear HB; have BK101 := n0_; have HB := n1_; clear n0_ n1_; clear hx_; (try clear hb); (try clear hb2); (try clear hk); (try clear hi); have hcz19_0 : w18.cell? ⟨gb101, 0, none⟩ = some (.string a0_0) := (blk_cell BK101.out 0).trans rfl; have hcz19_1 : w18.cell? ⟨gb101, 1, none⟩ = some (.slice A0_1 l0_1.length c0_1) := (blk_cell BK101.out 1).trans rfl; have hcz19_2 : w18.cell? ⟨gb101, 2, none⟩ = some (.string a0_2) := (blk_cell BK101.out 2).trans rfl; have hcz19_3 : w18.cell? ⟨gb101, 3, none⟩ = some (.bool a0_3) := (blk_cell BK101.out 3).trans rfl; have hcz19_4 : w18.cell? ⟨gb101, 4, none⟩ = some (.bool a0_4) := (blk_cell BK101.out 4).trans rfl; have hfz19_0 := blk_frozen BK101.out 0; have hfz19_1 := blk_frozen BK101.out 1; have hfz19_2 := blk_frozen BK101.out 2; have hfz19_3 := blk_frozen BK101.out 3; have hfz19_4 := blk_frozen BK101.out 4))
    go_ret
    exact ⟨qa6, qa16⟩


def laws_szFieldDefS.l0 : Nat → List (S101) → Int → Int → Option (Int)
 | 0, _, _, _ => none
 | k + 1, x0, x1, x5 => if x5 < (x0.length : Int) then (if 0 ≤ x5 then ((laws_szFieldDef.f k ((rd_T101 x0 x5).f0) ((rd_T101 x0 x5).f1) ((rd_T101 x0 x5).f2) ((rd_T101 x0 x5).f3) ((rd_T101 x0 x5).f4) x1).bind fun t102 => (if t102 < 0 then (some (-1)) else (laws_szFieldDefS.l0 k x0 t102 (wrap64 (x5 + 1))))) else (none)) else (some x1)
def laws_szFieldDefS.f (k : Nat) (l0 : List (S101)) (a1 : Int) : Option (Int) := if (wrap64 (a1 - (l0.length : Int))) < 0 then (some (-1)) else (laws_szFieldDefS.l0 k l0 (wrap64 (a1 - (l0.length : Int))) 0)
set_option maxHeartbeats 8000000 in
set_option maxRecDepth 100000 in
theorem laws_szFieldDefS.calls (k : Nat) (A0 : Option Addr) (c0 : Nat) (l0 : List (S101)) (a1 : Int) (r : Int) (w : World) (hr0 : Kd.C k101 w A0 l0.length l0) (hc0 : l0.length ≤ c0) (h : laws_szFieldDefS.f k l0 a1 = some r) :
  Calls Try.prog 74 #[.slice A0 l0.length c0, .int .i64 a1] w fun e w' => e = .returned (.int .i64 r) ∧ Below w.heap.size w w' := by
 have hu101 := Try.underlying101; have HR0 := qO hr0; have HC0 := qO hc0; clear hr0 hc0; have HB := qO (Below.refl w.heap.size w); have H : (if (wrap64 (a1 - (l0.length : Int))) < 0 then (some (-1)) else (laws_szFieldDefS.l0 k l0 (wrap64 (a1 - (l0.length : Int))) 0)) = some r := h; clear h
 by_cases c3 : (wrap64 (a1 - (l0.length : Int))) < 0
 ·rw [if_pos c3] at H
  have c3b0 : decide ((wrap64 (a1 - (l0.length : Int))) < 0) = true := decide_eq_true c3; clear c3; obtain rfl := Option.some.inj H
  go_enter Try.func74, Try.ntmps74
  go_wp2
  go_ret
  exact ⟨qa6, qa4⟩
 ·rw [if_neg c3] at H
  have c3b0 : decide ((wrap64 (a1 - (l0.length : Int))) < 0) = false := decide_eq_false c3; clear c3; have H' := qO H; clear H
  go_enter Try.func74, Try.ntmps74
  go_wp2
  go_loopg [1, 5] k (fun kq v1 v5 w' => ∃ (x1_1 : Int) (x5_1 : Int), v1 = .int .i64 x1_1 ∧ v5 = .int .i64 x5_1 ∧ Aside0 (laws_szFieldDefS.l0 kq l0 x1_1 x5_1 = some r) ∧ Aside0 (kq ≤ k) ∧ Aside0 (Below w.heap.size w w'))
  case atStart => exact ⟨(wrap64 (a1 - (l0.length : Int))), (0), qa8, qa8, H', ⟨Nat.le_refl _⟩, ⟨qa4⟩⟩
  case round =>
   clear H'
   try clear p2
   try clear c3
   try clear c3b0
   obtain ⟨x1_1, x5_1, rfl, rfl, HA, HK1, HB⟩ := hrel
   cases gk with
   | zero => exact absurd HA.out (by simp [laws_szFieldDefS.l0])
   | succ k1 =>
    have H := HA.out; clear HA; simp only [laws_szFieldDefS.l0] at H
    by_cases c4 : x5_1 < (l0.length : Int)
    ·rw [if_pos c4] at H
     have c4b0 : decide (x5_1 < (l0.length : Int)) = true := decide_eq_true c4; clear c4
     by_cases c5 : 0 ≤ x5_1
     ·rw [if_pos c5] at H
      have c5b0 : decide (0 ≤ x5_1) = true := decide_eq_true c5; clear c5; replace H := Option.bind_eq_some_iff.mp H; obtain ⟨t102, A60, H⟩ := H; replace H : (if t102 < 0 then (some (-1)) else (laws_szFieldDefS.l0 k1 l0 t102 (wrap64 (x5_1 + 1)))) = some r := H; have A6 := qO A60; clear A60
      by_cases c7 : t102 < 0
      ·rw [if_pos c7] at H
       have c7b0 : decide (t102 < 0) = true := decide_eq_true c7; clear c7; obtain rfl := Option.some.inj H; have p101 : 0 ≤ (x5_1 : Int) := qT qa3; have q101 : x5_1 < (l0.length : Int) := qT qa3; obtain ⟨ad101, A101_1, c101_1, e101, hx101_0, hx101_1, hx101_2, hx101_3, hx101_4, hl101_1, hi101_1⟩ := at_T101 HR0.out x5_1 p101 q101
       cases e101
       replace hx101_0 := (HB.out.cell (qL w _ hx101_0)).trans hx101_0; replace hx101_1 := (HB.out.cell (qL w _ hx101_1)).trans hx101_1; replace hx101_2 := (HB.out.cell (qL w _ hx101_2)).trans hx101_2; replace hx101_3 := (HB.out.cell (qL w _ hx101_3)).trans hx101_3; replace hx101_4 := (HB.out.cell (qL w _ hx101_4)).trans hx101_4; have HR101_1 := qO hi101_1; have HC101_1 := qO hl101_1; clear hi101_1 hl101_1; replace p101 := eq_true p101; replace q101 := eq_true q101
       go_wp2_with (first | ((with_reducible refine gate_callee (f := 82) rfl ?_); refine goesL_ (some 23) rfl rfl Try.func82 qa9 rfl #[.agg #[.string ((rd_T101 l0 x5_1).f0), .slice A101_1 ((rd_T101 l0 x5_1).f1).length c101_1, .string ((rd_T101 l0 x5_1).f2), .bool ((rd_T101 l0 x5_1).f3), .bool ((rd_T101 l0 x5_1).f4)], .int .i64 x1_1] rfl qa2 ?_; (with_reducible refine (laws_szFieldDef.calls k1 ((rd_T101 l0 x5_1).f0) _ _ ((rd_T101 l0 x5_1).f1) ((rd_T101 l0 x5_1).f2) ((rd_T101 l0 x5_1).f3) ((rd_T101 l0 x5_1).f4) x1_1 t102 _ ?side1 ?side2 A6.out).mono ?_); (case side1 => exact qa21); (case side2 => exact HC101_1.out); rintro e w8 ⟨rfl, hb⟩; have hx_ := qHX HB hb qa0; refine ⟨_, rfl, ?_⟩; have n0_ := qO (below_step (below_step HB.out hx_) hb); clear HB; have HB := n0_; clear n0_; clear hx_; (try clear hb); (try clear hb2); (try clear hk); (try clear hi)))
       go_ret
       exact ⟨qa6, qa4⟩
      ·rw [if_neg c7] at H
       have c7b0 : decide (t102 < 0) = false := decide_eq_false c7; clear c7; have H' := qO H; clear H; have p101 : 0 ≤ (x5_1 : Int) := qT qa3; have q101 : x5_1 < (l0.length : Int) := qT qa3; obtain ⟨ad101, A101_1, c101_1, e101, hx101_0, hx101_1, hx101_2, hx101_3, hx101_4, hl101_1, hi101_1⟩ := at_T101 HR0.out x5_1 p101 q101
       cases e101
       replace hx101_0 := (HB.out.cell (qL w _ hx101_0)).trans hx101_0; replace hx101_1 := (HB.out.cell (qL w _ hx101_1)).trans hx101_1; replace hx101_2 := (HB.out.cell (qL w _ hx101_2)).trans hx101_2; replace hx101_3 := (HB.out.cell (qL w _ hx101_3)).trans hx101_3; replace hx101_4 := (HB.out.cell (qL w _ hx101_4)).trans hx101_4; have HR101_1 := qO hi101_1; have HC101_1 := qO hl101_1; clear hi101_1 hl101_1; replace p101 := eq_true p101; replace q101 := eq_true q101
       go_wp2_with (first | ((with_reducible refine gate_callee (f := 82) rfl ?_); refine goesL_ (some 23) rfl rfl Try.func82 qa9 rfl #[.agg #[.string ((rd_T101 l0 x5_1).f0), .slice A101_1 ((rd_T101 l0 x5_1).f1).length c101_1, .string ((rd_T101 l0 x5_1).f2), .bool ((rd_T101 l0 x5_1).f3), .bool ((rd_T101 l0 x5_1).f4)], .int .i64 x1_1] rfl qa2 ?_; (with_reducible refine (laws_szFieldDef.calls k1 ((rd_T101 l0 x5_1).f0) _ _ ((rd_T101 l0 x5_1).f1) ((rd_T101 l0 x5_1).f2) ((rd_T101 l0 x5_1).f3) ((rd_T101 l0 x5_1).f4) x1_1 t102 _ ?side1 ?side2 A6.out).mono ?_); (case side1 => exact qa21); (case side2 => exact HC101_1.out); rintro e w9 ⟨rfl, hb⟩; have hx_ := qHX HB hb qa0; refine ⟨_, rfl, ?_⟩; have n0_ := qO (below_step (below_step HB.out hx_) hb); clear HB; have HB := n0_; clear n0_; clear hx_; (try clear hb); (try clear hb2); (try clear hk); (try clear hi)))
       go_roundg k1
       case measure => have := HK1.out; omega
       case rel => exact ⟨(t102), (wrap64 (x5_1 + 1)), qa8, qa8, H', ⟨qa55⟩, ⟨qa4⟩⟩
     ·rw [if_neg c5] at H
      exact absurd H qa61
    ·rw [if_neg c4] at H
     have c4b0 : decide (x5_1 < (l0.length : Int)) = false := decide_eq_false c4; clear c4; obtain rfl := Option.some.inj H; go_wp2
     go_ret
     exact ⟨qa6, qa4⟩


def laws_szTypeDef.f (k : Nat) (a0_0 : ByteArray) (l0_1 : List (S101)) (a1 : Int) : Option (Int) := if (wrap64 (a1 - (a0_0.size : Int))) < 0 then (some (-1)) else ((laws_szFieldDefS.f k l0_1 (wrap64 (a1 - (a0_0.size : Int)))).bind fun t102 => (if t102 < 0 then (some (-1)) else (some t102)))
set_option maxHeartbeats 8000000 in
set_option maxRecDepth 100000 in
theorem laws_szTypeDef.calls (k : Nat) (a0_0 : ByteArray) (A0_1 : Option Addr) (c0_1 : Nat) (l0_1 : List (S101)) (a1 : Int) (r : Int) (w : World) (hr0_1 : Kd.C k101 w A0_1 l0_1.length l0_1) (hc0_1 : l0_1.length ≤ c0_1) (h : laws_szTypeDef.f k a0_0 l0_1 a1 = some r) :
  Calls Try.prog 54 #[.agg #[.string a0_0, .slice A0_1 l0_1.length c0_1], .int .i64 a1] w fun e w' => e = .returned (.int .i64 r) ∧ Below w.heap.size w w' := by
 have hu77 := Try.underlying77; have HR0_1 := qO hr0_1; have HC0_1 := qO hc0_1; clear hr0_1 hc0_1; have HB := qO (Below.refl w.heap.size w); have H : (if (wrap64 (a1 - (a0_0.size : Int))) < 0 then (some (-1)) else ((laws_szFieldDefS.f k l0_1 (wrap64 (a1 - (a0_0.size : Int)))).bind fun t102 => (if t102 < 0 then (some (-1)) else (some t102)))) = some r := h; clear h
 by_cases c3 : (wrap64 (a1 - (a0_0.size : Int))) < 0
 ·rw [if_pos c3] at H
  have c3b0 : decide ((wrap64 (a1 - (a0_0.size : Int))) < 0) = true := decide_eq_true c3; clear c3; obtain rfl := Option.some.inj H
  go_enter Try.func54, Try.ntmps54
  go_wp2_with (first | ((with_reducible refine gate_dst (N := 2) rfl ?_); refine box_event ?hg (N := 2) ?hd (cs := #[.string a0_0, .slice A0_1 l0_1.length c0_1]) (t := 77) ?hr ?_; (case hd => rfl); (case hg => rfl); (case hr => exact qa12); intro gb101 hg w4 hbox hb; have hx_ := qHX HB hb qa0; have n0_ := qO (below_step (below_step HB.out hx_) hb); have n1_ := qO (hbox); have n2_ := qO ((qa11 : w.heap.size ≤ gb101)); have n3_ := n2_; clear HB; have HB := n0_; have BK101 := n1_; have GW101 := n2_; have GE101 := n3_; clear n0_ n1_ n2_ n3_; clear hx_; clear hb hbox hg; have hcz5_0 : w4.cell? ⟨gb101, 0, none⟩ = some (.string a0_0) := (blk_cell BK101.out 0).trans rfl; have hcz5_1 : w4.cell? ⟨gb101, 1, none⟩ = some (.slice A0_1 l0_1.length c0_1) := (blk_cell BK101.out 1).trans rfl; have hfz5_0 := blk_frozen BK101.out 0; have hfz5_1 := blk_frozen BK101.out 1))
  go_ret
  exact ⟨qa6, qa16⟩
 ·rw [if_neg c3] at H
  have c3b0 : decide ((wrap64 (a1 - (a0_0.size : Int))) < 0) = false := decide_eq_false c3; clear c3; replace H := Option.bind_eq_some_iff.mp H; obtain ⟨t102, A60, H⟩ := H; replace H : (if t102 < 0 then (some (-1)) else (some t102)) = some r := H; have A6 := qO A60; clear A60
  by_cases c7 : t102 < 0
  ·rw [if_pos c7] at H
   have c7b0 : decide (t102 < 0) = true := decide_eq_true c7; clear c7; obtain rfl := Option.some.inj H
   go_enter Try.func54, Try.ntmps54
   go_wp2_with (first | ((with_reducible refine gate_dst (N := 2) rfl ?_); refine box_event ?hg (N := 2) ?hd (cs := #[.string a0_0, .slice A0_1 l0_1.length c0_1]) (t := 77) ?hr ?_; (case hd => rfl); (case hg => rfl); (case hr => exact qa12); intro gb101 hg w8 hbox hb; have hx_ := qHX HB hb qa0; have n0_ := qO (below_step (below_step HB.out hx_) hb); have n1_ := qO (hbox); have n2_ := qO ((qa11 : w.heap.size ≤ gb101)); have n3_ := n2_; clear HB; have HB := n0_; have BK101 := n1_; have GW101 := n2_; have GE101 := n3_; clear n0_ n1_ n2_ n3_; clear hx_; clear hb hbox hg; have hcz9_0 : w8.cell? ⟨gb101, 0, none⟩ = some (.string a0_0) := (blk_cell BK101.out 0).trans rfl; have hcz9_1 : w8.cell? ⟨gb101, 1, none⟩ = some (.slice A0_1 l0_1.length c0_1) := (blk_cell BK101.out 1).trans rfl; have hfz9_0 := blk_frozen BK101.out 0; have hfz9_1 := blk_frozen BK101.out 1) | ((with_reducible refine gate_callee (f := 74) rfl ?_); refine goesL_ (some 15) rfl rfl Try.func74 qa9 rfl #[.slice A0_1 l0_1.length c0_1, .int .i64 (wrap64 (a1 - (a0_0.size : Int)))] rfl qa2 ?_; (with_reducible refine (laws_szFieldDefS.calls k _ _ l0_1 (wrap64 (a1 - (a0_0.size : Int))) t102 _ ?side1 ?side2 A6.out).mono ?_); (case side1 => exact qa17); (case side2 => exact HC0_1.out); rintro e w10 ⟨rfl, hb⟩; have hx_ := qHX HB hb qa0; refine ⟨_, rfl, ?_⟩; have n0_ := qO (qB BK101.out hx_ hb); have n1_ := qO (below_step (below_step HB.out hx_) hb); clear BK101; clear HB; have BK101 := n0_; have HB := n1_; clear n0_ n1_; clear hx_; (try clear hb); (try clear hb2); (try clear hk); (try clear hi)))
   go_ret
   exact ⟨qa6, qa16⟩
  ·rw [if_neg c7] at H
   have c7b0 : decide (t102 < 0) = false := decide_eq_false c7; clear c7; obtain rfl := Option.some.inj H
   go_enter Try.func54, Try.ntmps54
   go_wp2_with (first | ((with_reducible refine gate_dst (N := 2) rfl ?_); refine box_event ?hg (N := 2) ?hd (cs := #[.string a0_0, .slice A0_1 l0_1.length c0_1]) (t := 77) ?hr ?_; (case hd => rfl); (case hg => rfl); (case hr => exact qa12); intro gb101 hg w11 hbox hb; have hx_ := qHX HB hb qa0; have n0_ := qO (below_step (below_step HB.out hx_) hb); have n1_ := qO (hbox); have n2_ := qO ((qa11 : w.heap.size ≤ gb101)); have n3_ := n2_; clear HB; have HB := n0_; have BK101 := n1_; have GW101 := n2_; have GE101 := n3_; clear n0_ n1_ n2_ n3_; clear hx_; clear hb hbox hg; have hcz12_0 : w11.cell? ⟨gb101, 0, none⟩ = some (.string a0_0) := (blk_cell BK101.out 0).trans rfl; have hcz12_1 : w11.cell? ⟨gb101, 1, none⟩ = some (.slice A0_1 l0_1.length c0_1) := (blk_cell BK101.out 1).trans rfl; have hfz12_0 := blk_frozen BK101.out 0; have hfz12_1 := blk_frozen BK101.out 1) | ((with_reducible refine gate_callee (f := 74) rfl ?_); refine goesL_ (some 15) rfl rfl Try.func74 qa9 rfl #[.slice A0_1 l0_1.length c0_1, .int .i64 (wrap64 (a1 - (a0_0.size : Int)))] rfl qa2 ?_; (with_reducible refine (laws_szFieldDefS.calls k _ _ l0_1 (wrap64 (a1 - (a0_0.size : Int))) t102 _ ?side1 ?side2 A6.out).mono ?_); (case side1 => exact qa17); (case side2 => exact HC0_1.out); rintro e w13 ⟨rfl, hb⟩; have hx_ := qHX HB hb qa0; refine ⟨_, rfl, ?_⟩; have n0_ := qO (qB BK101.out hx_ hb); have n1_ := qO (below_step (below_step HB.out hx_) hb); clear BK101; clear HB; have BK101 := n0_; have HB := n1_; clear n0_ n1_; clear hx_; (try clear hb); (try clear hb2); (try clear hk); (try clear hi)))
   go_ret
   exact ⟨qa6, qa16⟩


def laws_szTypeDefS.l0 : Nat → List (S77) → Int → Int → Option (Int)
 | 0, _, _, _ => none
 | k + 1, x0, x1, x5 => if x5 < (x0.length : Int) then (if 0 ≤ x5 then ((laws_szTypeDef.f k ((rd_T77 x0 x5).f0) ((rd_T77 x0 x5).f1) x1).bind fun t102 => (if t102 < 0 then (some (-1)) else (laws_szTypeDefS.l0 k x0 t102 (wrap64 (x5 + 1))))) else (none)) else (some x1)
def laws_szTypeDefS.f (k : Nat) (l0 : List (S77)) (a1 : Int) : Option (Int) := if (wrap64 (a1 - (l0.length : Int))) < 0 then (some (-1)) else (laws_szTypeDefS.l0 k l0 (wrap64 (a1 - (l0.length : Int))) 0)
set_option maxHeartbeats 8000000 in
set_option maxRecDepth 100000 in
theorem laws_szTypeDefS.calls (k : Nat) (A0 : Option Addr) (c0 : Nat) (l0 : List (S77)) (a1 : Int) (r : Int) (w : World) (hr0 : Kd.C k77 w A0 l0.length l0) (hc0 : l0.length ≤ c0) (h : laws_szTypeDefS.f k l0 a1 = some r) :
  Calls Try.prog 26 #[.slice A0 l0.length c0, .int .i64 a1] w fun e w' => e = .returned (.int .i64 r) ∧ Below w.heap.size w w' := by
 have hu77 := Try.underlying77; have HR0 := qO hr0; have HC0 := qO hc0; clear hr0 hc0; have HB := qO (Below.refl w.heap.size w); have H : (if (wrap64 (a1 - (l0.length : Int))) < 0 then (some (-1)) else (laws_szTypeDefS.l0 k l0 (wrap64 (a1 - (l0.length : Int))) 0)) = some r := h; clear h
 by_cases c3 : (wrap64 (a1 - (l0.length : Int))) < 0
 ·rw [if_pos c3] at H
  have c3b0 : decide ((wrap64 (a1 - (l0.length : Int))) < 0) = true := decide_eq_true c3; clear c3; obtain rfl := Option.some.inj H
  go_enter Try.func26, Try.ntmps26
  go_wp2
  go_ret
  exact ⟨qa6, qa4⟩
 ·rw [if_neg c3] at H
  have c3b0 : decide ((wrap64 (a1 - (l0.length : Int))) < 0) = false := decide_eq_false c3; clear c3; have H' := qO H; clear H
  go_enter Try.func26, Try.ntmps26
  go_wp2
  go_loopg [1, 5] k (fun kq v1 v5 w' => ∃ (x1_1 : Int) (x5_1 : Int), v1 = .int .i64 x1_1 ∧ v5 = .int .i64 x5_1 ∧ Aside0 (laws_szTypeDefS.l0 kq l0 x1_1 x5_1 = some r) ∧ Aside0 (kq ≤ k) ∧ Aside0 (Below w.heap.size w w'))
  case atStart => exact ⟨(wrap64 (a1 - (l0.length : Int))), (0), qa8, qa8, H', ⟨Nat.le_refl _⟩, ⟨qa4⟩⟩
  case round =>
   clear H'
   try clear c2
   try clear p2
   try clear c3
   try clear c3b0
   obtain ⟨x1_1, x5_1, rfl, rfl, HA, HK1, HB⟩ := hrel
   cases gk with
   | zero => exact absurd HA.out (by simp [laws_szTypeDefS.l0])
   | succ k1 =>
    have H := HA.out; clear HA; simp only [laws_szTypeDefS.l0] at H
    by_cases c4 : x5_1 < (l0.length : Int)
    ·rw [if_pos c4] at H
     have c4b0 : decide (x5_1 < (l0.length : Int)) = true := decide_eq_true c4; clear c4
     by_cases c5 : 0 ≤ x5_1
     ·rw [if_pos c5] at H
      have c5b0 : decide (0 ≤ x5_1) = true := decide_eq_true c5; clear c5; replace H := Option.bind_eq_some_iff.mp H; obtain ⟨t102, A60, H⟩ := H; replace H : (if t102 < 0 then (some (-1)) else (laws_szTypeDefS.l0 k1 l0 t102 (wrap64 (x5_1 + 1)))) = some r := H; have A6 := qO A60; clear A60
      by_cases c7 : t102 < 0
      ·rw [if_pos c7] at H
       have c7b0 : decide (t102 < 0) = true := decide_eq_true c7; clear c7; obtain rfl := Option.some.inj H; have p101 : 0 ≤ (x5_1 : Int) := qT qa3; have q101 : x5_1 < (l0.length : Int) := qT qa3; obtain ⟨ad101, A101_1, c101_1, e101, hx101_0, hx101_1, hl101_1, hi101_1⟩ := at_T77 HR0.out x5_1 p101 q101
       cases e101
       replace hx101_0 := (HB.out.cell (qL w _ hx101_0)).trans hx101_0; replace hx101_1 := (HB.out.cell (qL w _ hx101_1)).trans hx101_1; have HR101_1 := qO hi101_1; have HC101_1 := qO hl101_1; clear hi101_1 hl101_1; replace p101 := eq_true p101; replace q101 := eq_true q101
       go_wp2_with (first | ((with_reducible refine gate_callee (f := 54) rfl ?_); refine goesL_ (some 23) rfl rfl Try.func54 qa9 rfl #[.agg #[.string ((rd_T77 l0 x5_1).f0), .slice A101_1 ((rd_T77 l0 x5_1).f1).length c101_1], .int .i64 x1_1] rfl qa2 ?_; (with_reducible refine (laws_szTypeDef.calls k1 ((rd_T77 l0 x5_1).f0) _ _ ((rd_T77 l0 x5_1).f1) x1_1 t102 _ ?side1 ?side2 A6.out).mono ?_); (case side1 => exact qa21); (case side2 => exact HC101_1.out); rintro e w8 ⟨rfl, hb⟩; have hx_ := qHX HB hb qa0; refine ⟨_, rfl, ?_⟩; have n0_ := qO (below_step (below_step HB.out hx_) hb); clear HB; have HB := n0_; clear n0_; clear hx_; (try clear hb); (try clear hb2); (try clear hk); (try clear hi)))
       go_ret
       exact ⟨qa6, qa4⟩
      ·rw [if_neg c7] at H
       have c7b0 : decide (t102 < 0) = false := decide_eq_false c7; clear c7; have H' := qO H; clear H; have p101 : 0 ≤ (x5_1 : Int) := qT qa3; have q101 : x5_1 < (l0.length : Int) := qT qa3; obtain ⟨ad101, A101_1, c101_1, e101, hx101_0, hx101_1, hl101_1, hi101_1⟩ := at_T77 HR0.out x5_1 p101 q101
       cases e101
       replace hx101_0 := (HB.out.cell (qL w _ hx101_0)).trans hx101_0; replace hx101_1 := (HB.out.cell (qL w _ hx101_1)).trans hx101_1; have HR101_1 := qO hi101_1; have HC101_1 := qO hl101_1; clear hi101_1 hl101_1; replace p101 := eq_true p101; replace q101 := eq_true q101
       go_wp2_with (first | ((with_reducible refine gate_callee (f := 54) rfl ?_); refine goesL_ (some 23) rfl rfl Try.func54 qa9 rfl #[.agg #[.string ((rd_T77 l0 x5_1).f0), .slice A101_1 ((rd_T77 l0 x5_1).f1).length c101_1], .int .i64 x1_1] rfl qa2 ?_; (with_reducible refine (laws_szTypeDef.calls k1 ((rd_T77 l0 x5_1).f0) _ _ ((rd_T77 l0 x5_1).f1) x1_1 t102 _ ?side1 ?side2 A6.out).mono ?_); (case side1 => exact qa21); (case side2 => exact HC101_1.out); rintro e w9 ⟨rfl, hb⟩; have hx_ := qHX HB hb qa0; refine ⟨_, rfl, ?_⟩; have n0_ := qO (below_step (below_step HB.out hx_) hb); clear HB; have HB := n0_; clear n0_; clear hx_; (try clear hb); (try clear hb2); (try clear hk); (try clear hi)))
       go_roundg k1
       case measure => have := HK1.out; omega
       case rel => exact ⟨(t102), (wrap64 (x5_1 + 1)), qa8, qa8, H', ⟨qa55⟩, ⟨qa4⟩⟩
     ·rw [if_neg c5] at H
      exact absurd H qa61
    ·rw [if_neg c4] at H
     have c4b0 : decide (x5_1 < (l0.length : Int)) = false := decide_eq_false c4; clear c4; obtain rfl := Option.some.inj H; go_wp2
     go_ret
     exact ⟨qa6, qa4⟩


def laws_szSchema.f (k : Nat) (l0_0 : List (S77)) (a1 : Int) : Option (Int) := (laws_szTypeDefS.f k l0_0 a1).bind fun t102 => (if t102 < 0 then (some (-1)) else (some t102))
set_option maxHeartbeats 8000000 in
set_option maxRecDepth 100000 in
theorem laws_szSchema.calls (k : Nat) (A0_0 : Option Addr) (c0_0 : Nat) (l0_0 : List (S77)) (a1 : Int) (r : Int) (w : World) (hr0_0 : Kd.C k77 w A0_0 l0_0.length l0_0) (hc0_0 : l0_0.length ≤ c0_0) (h : laws_szSchema.f k l0_0 a1 = some r) :
  Calls Try.prog 8 #[.agg #[.slice A0_0 l0_0.length c0_0], .int .i64 a1] w fun e w' => e = .returned (.int .i64 r) ∧ Below w.heap.size w w' := by
 have hu24 := Try.underlying24; have HR0_0 := qO hr0_0; have HC0_0 := qO hc0_0; clear hr0_0 hc0_0; have HB := qO (Below.refl w.heap.size w); have H : ((laws_szTypeDefS.f k l0_0 a1).bind fun t102 => (if t102 < 0 then (some (-1)) else (some t102))) = some r := h; clear h; replace H := Option.bind_eq_some_iff.mp H; obtain ⟨t102, A30, H⟩ := H; replace H : (if t102 < 0 then (some (-1)) else (some t102)) = some r := H; have A3 := qO A30; clear A30
 by_cases c4 : t102 < 0
 ·rw [if_pos c4] at H
  have c4b0 : decide (t102 < 0) = true := decide_eq_true c4; clear c4; obtain rfl := Option.some.inj H
  go_enter Try.func8, Try.ntmps8
  go_wp2_with (first | ((with_reducible refine gate_dst (N := 2) rfl ?_); refine box_event ?hg (N := 2) ?hd (cs := #[.slice A0_0 l0_0.length c0_0]) (t := 24) ?hr ?_; (case hd => rfl); (case hg => rfl); (case hr => exact qa12); intro gb101 hg w5 hbox hb; have hx_ := qHX HB hb qa0; have n0_ := qO (below_step (below_step HB.out hx_) hb); have n1_ := qO (hbox); have n2_ := qO ((qa11 : w.heap.size ≤ gb101)); have n3_ := n2_; clear HB; have HB := n0_; have BK101 := n1_; have GW101 := n2_; have GE101 := n3_; clear n0_ n1_ n2_ n3_; clear hx_; clear hb hbox hg; have hcz6_0 : w5.cell? ⟨gb101, 0, none⟩ = some (.slice A0_0 l0_0.length c0_0) := (blk_cell BK101.out 0).trans rfl; have hfz6_0 := blk_frozen BK101.out 0) | ((with_reducible refine gate_callee (f := 26) rfl ?_); refine goesL_ (some 8) rfl rfl Try.func26 qa9 rfl #[.slice A0_0 l0_0.length c0_0, .int .i64 a1] rfl qa2 ?_; (with_reducible refine (laws_szTypeDefS.calls k _ _ l0_0 a1 t102 _ ?side1 ?side2 A3.out).mono ?_); (case side1 => exact qa25); (case side2 => exact HC0_0.out); rintro e w7 ⟨rfl, hb⟩; have hx_ := qHX HB hb qa0; refine ⟨_, rfl, ?_⟩; have n0_ := qO (qB BK101.out hx_ hb); have n1_ := qO (below_step (below_step HB.out hx_) hb); clear BK101; clear HB; have BK101 := n0_; have HB := n1_; clear n0_ n1_; clear hx_; (try clear hb); (try clear hb2); (try clear hk); (try clear hi)))
  go_ret
  exact ⟨qa6, qa16⟩
 ·rw [if_neg c4] at H
  have c4b0 : decide (t102 < 0) = false := decide_eq_false c4; clear c4; obtain rfl := Option.some.inj H
  go_enter Try.func8, Try.ntmps8
  go_wp2_with (first | ((with_reducible refine gate_dst (N := 2) rfl ?_); refine box_event ?hg (N := 2) ?hd (cs := #[.slice A0_0 l0_0.length c0_0]) (t := 24) ?hr ?_; (case hd => rfl); (case hg => rfl); (case hr => exact qa12); intro gb101 hg w8 hbox hb; have hx_ := qHX HB hb qa0; have n0_ := qO (below_step (below_step HB.out hx_) hb); have n1_ := qO (hbox); have n2_ := qO ((qa11 : w.heap.size ≤ gb101)); have n3_ := n2_; clear HB; have HB := n0_; have BK101 := n1_; have GW101 := n2_; have GE101 := n3_; clear n0_ n1_ n2_ n3_; clear hx_; clear hb hbox hg; have hcz9_0 : w8.cell? ⟨gb101, 0, none⟩ = some (.slice A0_0 l0_0.length c0_0) := (blk_cell BK101.out 0).trans rfl; have hfz9_0 := blk_frozen BK101.out 0) | ((with_reducible refine gate_callee (f := 26) rfl ?_); refine goesL_ (some 8) rfl rfl Try.func26 qa9 rfl #[.slice A0_0 l0_0.length c0_0, .int .i64 a1] rfl qa2 ?_; (with_reducible refine (laws_szTypeDefS.calls k _ _ l0_0 a1 t102 _ ?side1 ?side2 A3.out).mono ?_); (case side1 => exact qa25); (case side2 => exact HC0_0.out); rintro e w10 ⟨rfl, hb⟩; have hx_ := qHX HB hb qa0; refine ⟨_, rfl, ?_⟩; have n0_ := qO (qB BK101.out hx_ hb); have n1_ := qO (below_step (below_step HB.out hx_) hb); clear BK101; clear HB; have BK101 := n0_; have HB := n1_; clear n0_ n1_; clear hx_; (try clear hb); (try clear hb2); (try clear hk); (try clear hi)))
  go_ret
  exact ⟨qa6, qa16⟩

end Go.Proofs.Ytoogmlghfljeiaa.Q
