/- Texts of the claim on FnExactCommittedOf, gathered by a program of this session: what the program's functions compute (proved by walks), and the plain part. -/
import Derived.Test.YtfpkooafbeejmaaKFnExactCommittedOfc
import Derived.Test.YtfpkooafbeejmaaKFnExactCommittedOfOpens
import Derived.KernelRfl
namespace Go.Proofs.Ytfpkooafbeejmaa.Q
open Go.RowKit Go.Proofs.YtfpkooafbeejmaaW.PrintWords Go.Proofs.YtfpkooafbeejmaaW.PrintLast Go.Proofs.YtfpkooafbeejmaaW.PrintMore
attribute [local go_sem] max2_int min2_int max_two min_two max_three min_three max_four min_four
set_option linter.unusedVariables false
set_option linter.unusedSimpArgs false

def laws_eqDoneS.l0 : Nat → List (S115) → List (S115) → Int → Option (Bool)
 | 0, _, _, _ => none
 | k + 1, x0, x1, x5 => if x5 < (x0.length : Int) then (if 0 ≤ x5 then (if x5 < (x1.length : Int) then ((laws_eqDone.f k ((rd_T115 x0 x5).f0) ((rd_T115 x0 x5).f1) ((rd_T115 x0 x5).f2) ((rd_T115 x0 x5).f3) ((rd_T115 x0 x5).f4) ((rd_T115 x0 x5).f5.f0.f0) ((rd_T115 x0 x5).f5.f1) ((rd_T115 x0 x5).f6) ((rd_T115 x1 x5).f0) ((rd_T115 x1 x5).f1) ((rd_T115 x1 x5).f2) ((rd_T115 x1 x5).f3) ((rd_T115 x1 x5).f4) ((rd_T115 x1 x5).f5.f0.f0) ((rd_T115 x1 x5).f5.f1) ((rd_T115 x1 x5).f6)).bind fun t103 => (if t103 = true then (laws_eqDoneS.l0 k x0 x1 (wrap64 (x5 + 1))) else (some false))) else (none)) else (none)) else (some true)
def laws_eqDoneS.f (k : Nat) (l0 : List (S115)) (l1 : List (S115)) : Option (Bool) := if (l0.length : Int) = (l1.length : Int) then (laws_eqDoneS.l0 k l0 l1 0) else (some false)
def laws_eqDoneS.T6 : Bool × List (List Nat × List Nat) := (true, [([], []), ([], []), ([0, 1], [0, 1]), ([2], [2]), ([], []), ([], []), ([4, 5], [4, 5]), ([6], [6]), ([3, 7], [3, 7]), ([8], [8])])
def laws_eqDoneS.B6 : List Nat := [0, 0, 3, 7, 0, 0, 48, 112, 255, 511]
theorem laws_eqDoneS.tab6 : rtab .any (opsOf Try.f33 6) = laws_eqDoneS.T6 := by kernel_rfl
theorem laws_eqDoneS.bits6 : waitsOk laws_eqDoneS.T6.2 laws_eqDoneS.B6 = true := by kernel_rfl
def laws_eqDoneS.y0 : Array Bool := #[false, false, false, false, false, false, false, false, false, false]
def laws_eqDoneS.y1 : Array Bool := #[true, false, false, false, false, false, false, false, false, false]
def laws_eqDoneS.y2 : Array Bool := #[true, true, false, false, false, false, false, false, false, false]
def laws_eqDoneS.y3 : Array Bool := #[true, true, true, false, false, false, false, false, false, false]
def laws_eqDoneS.y4 : Array Bool := #[true, true, true, false, true, false, false, false, false, false]
def laws_eqDoneS.y5 : Array Bool := #[true, true, true, false, true, true, false, false, false, false]
def laws_eqDoneS.y6 : Array Bool := #[true, true, true, false, true, true, true, false, false, false]
def laws_eqDoneS.y7 : Array Bool := #[true, true, true, true, true, true, true, false, false, false]
def laws_eqDoneS.y8 : Array Bool := #[true, true, true, true, true, true, true, true, false, false]
def laws_eqDoneS.y9 : Array Bool := #[true, true, true, true, true, true, true, true, true, false]
def laws_eqDoneS.y10 : Array Bool := #[true, true, true, true, true, true, true, true, true, true]
set_option maxHeartbeats 8000000 in
set_option maxRecDepth 100000 in
theorem laws_eqDoneS.calls (k : Nat) (A0 : Option Addr) (c0 : Nat) (l0 : List (S115)) (A1 : Option Addr) (c1 : Nat) (l1 : List (S115)) (r : Bool) (w : World) (hr0 : Kd.C k115 w A0 l0.length l0) (hc0 : l0.length ≤ c0) (hr1 : Kd.C k115 w A1 l1.length l1) (hc1 : l1.length ≤ c1) (h : laws_eqDoneS.f k l0 l1 = some r) :
  Calls Try.prog 33 #[.slice A0 l0.length c0, .slice A1 l1.length c1] w fun e w' => e = .returned (.bool r) ∧ Below w.heap.size w w' := by
 have hu115 := Try.underlying115; have HR0 := qO hr0; have HC0 := qO hc0; clear hr0 hc0; have HR1 := qO hr1; have HC1 := qO hc1; clear hr1 hc1; have HB := qO (Below.refl w.heap.size w); have H : (if (l0.length : Int) = (l1.length : Int) then (laws_eqDoneS.l0 k l0 l1 0) else (some false)) = some r := h; clear h
 by_cases c3 : (l0.length : Int) = (l1.length : Int)
 ·rw [if_pos c3] at H
  have c3b0 : ((l0.length : Int) == (l1.length : Int)) = true := beq_iff_eq.mpr c3; have c3b1 : ((l0.length : Int) != (l1.length : Int)) = false := bne_eq_false_iff_eq.mpr c3; have c3b2 : (l0.length == l1.length) = true := by first | simpa using c3 | (simp at c3 ⊢; omega)
  clear c3; have H' := qO H; clear H
  go_enter Try.func33, Try.ntmps33
  go_wp2
  go_loopg [5] k (fun kq v5 w' => ∃ (x5_1 : Int), v5 = .int .i64 x5_1 ∧ Aside0 (laws_eqDoneS.l0 kq l0 l1 x5_1 = some r) ∧ Aside0 (kq ≤ k) ∧ Aside0 (Below w.heap.size w w'))
  case atStart => exact ⟨(0), qa7, H', ⟨Nat.le_refl _⟩, ⟨qa2⟩⟩
  case round =>
   clear H'
   try clear c1
   try clear p2
   try clear c3
   try clear c3b0
   try clear c3b1
   try clear c3b2
   obtain ⟨x5_1, rfl, HA, HK1, HB⟩ := hrel
   cases gk with
   | zero => exact absurd HA.out (by simp [laws_eqDoneS.l0])
   | succ k1 =>
    have H := HA.out; clear HA; simp only [laws_eqDoneS.l0] at H
    by_cases c4 : x5_1 < (l0.length : Int)
    ·rw [if_pos c4] at H
     have c4b0 : decide (x5_1 < (l0.length : Int)) = true := decide_eq_true c4; clear c4
     by_cases c5 : 0 ≤ x5_1
     ·rw [if_pos c5] at H
      have c5b0 : decide (0 ≤ x5_1) = true := decide_eq_true c5; clear c5
      by_cases c6 : x5_1 < (l1.length : Int)
      ·rw [if_pos c6] at H
       have c6b0 : decide (x5_1 < (l1.length : Int)) = true := decide_eq_true c6; clear c6; replace H := Option.bind_eq_some_iff.mp H; obtain ⟨t103, A70, H⟩ := H; replace H : (if t103 = true then (laws_eqDoneS.l0 k1 l0 l1 (wrap64 (x5_1 + 1))) else (some false)) = some r := H; have A7 := qO A70; clear A70
       by_cases c8 : t103 = true
       ·subst c8
        have H1 : (laws_eqDoneS.l0 k1 l0 l1 (wrap64 (x5_1 + 1))) = some r := by rw [if_pos rfl] at H; exact H
        clear H; have H := H1; clear H1; have H' := qO H; clear H
        try go_wp2
        have n0_ := qO (qbD HB.out); clear HB; have HB := n0_; clear n0_; have p101 : 0 ≤ (x5_1 : Int) := qT qa4; have q101 : x5_1 < (l0.length : Int) := qT qa4; obtain ⟨ad101, A101_5, c101_5, A101_6, c101_6, e101, hx101_0, hx101_1, hx101_2, hx101_3, hx101_4, hx101_5, hx101_6, hx101_7, hl101_5, hi101_5, hl101_6, hi101_6⟩ := at_T115 HR0.out x5_1 p101 q101; have hw101_7 := hx101_7; have hw101_6 := hx101_6; have hw101_5 := hx101_5; have hw101_4 := hx101_4; have hw101_3 := hx101_3; have hw101_2 := hx101_2; have hw101_1 := hx101_1; have hw101_0 := hx101_0
        cases e101
        replace hx101_0 := (HB.out.cell (qL w _ hx101_0)).trans hx101_0; replace hx101_1 := (HB.out.cell (qL w _ hx101_1)).trans hx101_1; replace hx101_2 := (HB.out.cell (qL w _ hx101_2)).trans hx101_2; replace hx101_3 := (HB.out.cell (qL w _ hx101_3)).trans hx101_3; replace hx101_4 := (HB.out.cell (qL w _ hx101_4)).trans hx101_4; replace hx101_5 := (HB.out.cell (qL w _ hx101_5)).trans hx101_5; replace hx101_6 := (HB.out.cell (qL w _ hx101_6)).trans hx101_6; replace hx101_7 := (HB.out.cell (qL w _ hx101_7)).trans hx101_7; have HR101_5 := qO hi101_5; have HC101_5 := qO hl101_5; clear hi101_5 hl101_5; have HR101_6 := qO hi101_6; have HC101_6 := qO hl101_6; clear hi101_6 hl101_6; replace p101 := eq_true p101; replace q101 := eq_true q101; have p102 : 0 ≤ (x5_1 : Int) := qT qa4; have q102 : x5_1 < (l1.length : Int) := qT qa4; obtain ⟨ad102, A102_5, c102_5, A102_6, c102_6, e102, hx102_0, hx102_1, hx102_2, hx102_3, hx102_4, hx102_5, hx102_6, hx102_7, hl102_5, hi102_5, hl102_6, hi102_6⟩ := at_T115 HR1.out x5_1 p102 q102; have hw102_7 := hx102_7; have hw102_6 := hx102_6; have hw102_5 := hx102_5; have hw102_4 := hx102_4; have hw102_3 := hx102_3; have hw102_2 := hx102_2; have hw102_1 := hx102_1; have hw102_0 := hx102_0
        cases e102
        replace hx102_0 := (HB.out.cell (qL w _ hx102_0)).trans hx102_0; replace hx102_1 := (HB.out.cell (qL w _ hx102_1)).trans hx102_1; replace hx102_2 := (HB.out.cell (qL w _ hx102_2)).trans hx102_2; replace hx102_3 := (HB.out.cell (qL w _ hx102_3)).trans hx102_3; replace hx102_4 := (HB.out.cell (qL w _ hx102_4)).trans hx102_4; replace hx102_5 := (HB.out.cell (qL w _ hx102_5)).trans hx102_5; replace hx102_6 := (HB.out.cell (qL w _ hx102_6)).trans hx102_6; replace hx102_7 := (HB.out.cell (qL w _ hx102_7)).trans hx102_7; have HR102_5 := qO hi102_5; have HC102_5 := qO hl102_5; clear hi102_5 hl102_5; have HR102_6 := qO hi102_6; have HC102_6 := qO hl102_6; clear hi102_6 hl102_6; replace p102 := eq_true p102; replace q102 := eq_true q102; refine start_ (n := 10) (S := fun w' => w'.cell? (ad101.add ((x5_1).toNat * 8)) = some (.int .i64 ((rd_T115 l0 x5_1).f0)) ∧ w'.cell? ⟨(ad101.add ((x5_1).toNat * 8)).block, (ad101.add ((x5_1).toNat * 8)).off + 1, none⟩ = some (.int .i64 ((rd_T115 l0 x5_1).f1)) ∧ w'.cell? ⟨(ad101.add ((x5_1).toNat * 8)).block, (ad101.add ((x5_1).toNat * 8)).off + 2, none⟩ = some (.int .i64 ((rd_T115 l0 x5_1).f2)) ∧ w'.cell? ⟨(ad101.add ((x5_1).toNat * 8)).block, (ad101.add ((x5_1).toNat * 8)).off + 3, none⟩ = some (.int .i64 ((rd_T115 l0 x5_1).f3)) ∧ w'.cell? ⟨(ad101.add ((x5_1).toNat * 8)).block, (ad101.add ((x5_1).toNat * 8)).off + 4, none⟩ = some (.bool ((rd_T115 l0 x5_1).f4)) ∧ w'.cell? ⟨(ad101.add ((x5_1).toNat * 8)).block, (ad101.add ((x5_1).toNat * 8)).off + 5, none⟩ = some (.slice A101_5 ((rd_T115 l0 x5_1).f5.f0.f0).length c101_5) ∧ w'.cell? ⟨(ad101.add ((x5_1).toNat * 8)).block, (ad101.add ((x5_1).toNat * 8)).off + 6, none⟩ = some (.slice A101_6 ((rd_T115 l0 x5_1).f5.f1).length c101_6) ∧ w'.cell? ⟨(ad101.add ((x5_1).toNat * 8)).block, (ad101.add ((x5_1).toNat * 8)).off + 7, none⟩ = some (.string ((rd_T115 l0 x5_1).f6)) ∧ w'.cell? (ad102.add ((x5_1).toNat * 8)) = some (.int .i64 ((rd_T115 l1 x5_1).f0)) ∧ w'.cell? ⟨(ad102.add ((x5_1).toNat * 8)).block, (ad102.add ((x5_1).toNat * 8)).off + 1, none⟩ = some (.int .i64 ((rd_T115 l1 x5_1).f1)) ∧ w'.cell? ⟨(ad102.add ((x5_1).toNat * 8)).block, (ad102.add ((x5_1).toNat * 8)).off + 2, none⟩ = some (.int .i64 ((rd_T115 l1 x5_1).f2)) ∧ w'.cell? ⟨(ad102.add ((x5_1).toNat * 8)).block, (ad102.add ((x5_1).toNat * 8)).off + 3, none⟩ = some (.int .i64 ((rd_T115 l1 x5_1).f3)) ∧ w'.cell? ⟨(ad102.add ((x5_1).toNat * 8)).block, (ad102.add ((x5_1).toNat * 8)).off + 4, none⟩ = some (.bool ((rd_T115 l1 x5_1).f4)) ∧ w'.cell? ⟨(ad102.add ((x5_1).toNat * 8)).block, (ad102.add ((x5_1).toNat * 8)).off + 5, none⟩ = some (.slice A102_5 ((rd_T115 l1 x5_1).f5.f0.f0).length c102_5) ∧ w'.cell? ⟨(ad102.add ((x5_1).toNat * 8)).block, (ad102.add ((x5_1).toNat * 8)).off + 6, none⟩ = some (.slice A102_6 ((rd_T115 l1 x5_1).f5.f1).length c102_6) ∧ w'.cell? ⟨(ad102.add ((x5_1).toNat * 8)).block, (ad102.add ((x5_1).toNat * 8)).off + 7, none⟩ = some (.string ((rd_T115 l1 x5_1).f6))) (ds := []) laws_eqDoneS.y0 qa12 rfl rfl ⟨((HB.out.cell (qL w _ hw101_0)).trans hw101_0), ((HB.out.cell (qL w _ hw101_1)).trans hw101_1), ((HB.out.cell (qL w _ hw101_2)).trans hw101_2), ((HB.out.cell (qL w _ hw101_3)).trans hw101_3), ((HB.out.cell (qL w _ hw101_4)).trans hw101_4), ((HB.out.cell (qL w _ hw101_5)).trans hw101_5), ((HB.out.cell (qL w _ hw101_6)).trans hw101_6), ((HB.out.cell (qL w _ hw101_7)).trans hw101_7), ((HB.out.cell (qL w _ hw102_0)).trans hw102_0), ((HB.out.cell (qL w _ hw102_1)).trans hw102_1), ((HB.out.cell (qL w _ hw102_2)).trans hw102_2), ((HB.out.cell (qL w _ hw102_3)).trans hw102_3), ((HB.out.cell (qL w _ hw102_4)).trans hw102_4), ((HB.out.cell (qL w _ hw102_5)).trans hw102_5), ((HB.out.cell (qL w _ hw102_6)).trans hw102_6), ((HB.out.cell (qL w _ hw102_7)).trans hw102_7)⟩ (fun hHeld => ?_); refine with_tabW laws_eqDoneS.tab6 laws_eqDoneS.bits6 (fun HT_ HW_ => ?_); generalize wr.drew = w9 at HB HR101_5 HR101_6 HR102_5 HR102_6 hx101_0 hx101_1 hx101_2 hx101_3 hx101_4 hx101_5 hx101_6 hx101_7 hx102_0 hx102_1 hx102_2 hx102_3 hx102_4 hx102_5 hx102_6 hx102_7 hHeld ⊢; refine pure_ (i := 0) (N := some 17) (v := ?_) (a' := ?_) laws_eqDoneS.y1 rfl rfl (any_of HT_.out qa12) (fun _ _ _ h => h) (Or.inl ⟨by rfl, ?_⟩) ?_ ?_; rotate_left; exact qa19; rotate_left; exact qa8; refine pure_ (i := 1) (N := some 18) (v := ?_) (a' := ?_) laws_eqDoneS.y2 rfl rfl (any_of HT_.out qa12) (fun _ _ _ h => h) (Or.inl ⟨by rfl, ?_⟩) ?_ ?_; rotate_left; exact qa19; rotate_left; exact qa8; refine pure_ (i := 2) (N := some 19) (v := ?_) (a' := ?_) laws_eqDoneS.y3 rfl rfl (any_of HT_.out qa12) (fun _ _ _ h => h) (Or.inl ⟨by rfl, ?_⟩) ?_ ?_; rotate_left; exact qa19; rotate_left; exact qa8; refine pure_ (i := 4) (N := some 21) (v := ?_) (a' := ?_) laws_eqDoneS.y4 rfl rfl (any_of HT_.out qa12) (fun _ _ _ h => h) (Or.inl ⟨by rfl, ?_⟩) ?_ ?_; rotate_left; exact qa19; rotate_left; exact qa8; refine pure_ (i := 5) (N := some 22) (v := ?_) (a' := ?_) laws_eqDoneS.y5 rfl rfl (any_of HT_.out qa12) (fun _ _ _ h => h) (Or.inl ⟨by rfl, ?_⟩) ?_ ?_; rotate_left; exact qa19; rotate_left; exact qa8; refine pure_ (i := 6) (N := some 23) (v := ?_) (a' := ?_) laws_eqDoneS.y6 rfl rfl (any_of HT_.out qa12) (fun _ _ _ h => h) (Or.inl ⟨by rfl, ?_⟩) ?_ ?_; rotate_left; exact qa19; rotate_left; exact qa8; refine take_ (i := 3) (N := some 20) (v := ?_) (a' := ?_) laws_eqDoneS.y7 rfl rfl (take_ofW HT_.out HW_.out qa12) (fun _ _ _ h => h) (Or.inl ⟨by rfl, ?_⟩) hHeld ?_ ?_; rotate_left; exact qa78; rotate_left; exact qa8; refine take_ (i := 7) (N := some 24) (v := ?_) (a' := ?_) laws_eqDoneS.y8 rfl rfl (take_ofW HT_.out HW_.out qa12) (fun _ _ _ h => h) (Or.inl ⟨by rfl, ?_⟩) hHeld ?_ ?_; rotate_left; exact qa78; rotate_left; exact qa8; refine one_ (i := 8) (N := some 25) laws_eqDoneS.y9 rfl rfl (one_of HT_.out qa12) qa98 (fun K hK => ?_); refine goes_ Try.func74 qa12 rfl #[.agg #[.int .i64 ((rd_T115 l0 x5_1).f0), .int .i64 ((rd_T115 l0 x5_1).f1), .int .i64 ((rd_T115 l0 x5_1).f2), .int .i64 ((rd_T115 l0 x5_1).f3), .bool ((rd_T115 l0 x5_1).f4), .slice A101_5 ((rd_T115 l0 x5_1).f5.f0.f0).length c101_5, .slice A101_6 ((rd_T115 l0 x5_1).f5.f1).length c101_6, .string ((rd_T115 l0 x5_1).f6)], .agg #[.int .i64 ((rd_T115 l1 x5_1).f0), .int .i64 ((rd_T115 l1 x5_1).f1), .int .i64 ((rd_T115 l1 x5_1).f2), .int .i64 ((rd_T115 l1 x5_1).f3), .bool ((rd_T115 l1 x5_1).f4), .slice A102_5 ((rd_T115 l1 x5_1).f5.f0.f0).length c102_5, .slice A102_6 ((rd_T115 l1 x5_1).f5.f1).length c102_6, .string ((rd_T115 l1 x5_1).f6)]] (by rfl) rfl rfl qa1 ?_; (with_reducible refine (laws_eqDone.calls k1 ((rd_T115 l0 x5_1).f0) ((rd_T115 l0 x5_1).f1) ((rd_T115 l0 x5_1).f2) ((rd_T115 l0 x5_1).f3) ((rd_T115 l0 x5_1).f4) _ _ ((rd_T115 l0 x5_1).f5.f0.f0) _ _ ((rd_T115 l0 x5_1).f5.f1) ((rd_T115 l0 x5_1).f6) ((rd_T115 l1 x5_1).f0) ((rd_T115 l1 x5_1).f1) ((rd_T115 l1 x5_1).f2) ((rd_T115 l1 x5_1).f3) ((rd_T115 l1 x5_1).f4) _ _ ((rd_T115 l1 x5_1).f5.f0.f0) _ _ ((rd_T115 l1 x5_1).f5.f1) ((rd_T115 l1 x5_1).f6) true _ ?side1 ?side2 ?side3 ?side4 ?side5 ?side6 ?side7 ?side8 A7.out).mono ?_); (case side1 => exact qa29); (case side2 => exact HC101_5.out); (case side3 => exact qa55); (case side4 => exact HC101_6.out); (case side5 => exact qa57); (case side6 => exact HC102_5.out); (case side7 => exact qa87); (case side8 => exact HC102_6.out); rintro e w10 ⟨rfl, hb⟩; have hx_ := qHX HB hb qa0; refine ⟨_, rfl, ?_⟩; have n0_ := qO (below_step (below_step HB.out hx_) hb); clear HB; have HB := n0_; clear n0_; clear hx_; (try clear hb); (try clear hb2); (try clear hk); (try clear hi); refine hK.out _ _ ⟨((HB.out.cell (qL w _ hw101_0)).trans hw101_0), ((HB.out.cell (qL w _ hw101_1)).trans hw101_1), ((HB.out.cell (qL w _ hw101_2)).trans hw101_2), ((HB.out.cell (qL w _ hw101_3)).trans hw101_3), ((HB.out.cell (qL w _ hw101_4)).trans hw101_4), ((HB.out.cell (qL w _ hw101_5)).trans hw101_5), ((HB.out.cell (qL w _ hw101_6)).trans hw101_6), ((HB.out.cell (qL w _ hw101_7)).trans hw101_7), ((HB.out.cell (qL w _ hw102_0)).trans hw102_0), ((HB.out.cell (qL w _ hw102_1)).trans hw102_1), ((HB.out.cell (qL w _ hw102_2)).trans hw102_2), ((HB.out.cell (qL w _ hw102_3)).trans hw102_3), ((HB.out.cell (qL w _ hw102_4)).trans hw102_4), ((HB.out.cell (qL w _ hw102_5)).trans hw102_5), ((HB.out.cell (qL w _ hw102_6)).trans hw102_6), ((HB.out.cell (qL w _ hw102_7)).trans hw102_7)⟩ (fun hHeld => ?_); clear hK K; refine norm_ (a' := ?_) ?_ ?_; rotate_left
        ·exact qa30
        refine pure_ (i := 9) (N := some 26) (v := ?_) (a' := ?_) laws_eqDoneS.y10 rfl rfl (any_of HT_.out qa12) (fun _ _ _ h => h) (Or.inl ⟨by rfl, ?_⟩) ?_ ?_; rotate_left; exact qa19; rotate_left; exact qa8; refine done_ (done_of HT_.out qa12) ?_
        try go_wp2
        go_roundg k1
        case measure => have := HK1.out; omega
        case rel => exact ⟨(wrap64 (x5_1 + 1)), qa7, H', ⟨qa37⟩, ⟨qa2⟩⟩
       ·replace c8 := Bool.eq_false_iff.mpr c8
        subst c8; have H1 : (some false) = some r := by rw [if_neg (show ¬ (false = true) by decide)] at H; exact H
        clear H; have H := H1; clear H1; obtain rfl := Option.some.inj H
        try go_wp2
        have n0_ := qO (qbD HB.out); clear HB; have HB := n0_; clear n0_; have p101 : 0 ≤ (x5_1 : Int) := qT qa4; have q101 : x5_1 < (l0.length : Int) := qT qa4; obtain ⟨ad101, A101_5, c101_5, A101_6, c101_6, e101, hx101_0, hx101_1, hx101_2, hx101_3, hx101_4, hx101_5, hx101_6, hx101_7, hl101_5, hi101_5, hl101_6, hi101_6⟩ := at_T115 HR0.out x5_1 p101 q101; have hw101_7 := hx101_7; have hw101_6 := hx101_6; have hw101_5 := hx101_5; have hw101_4 := hx101_4; have hw101_3 := hx101_3; have hw101_2 := hx101_2; have hw101_1 := hx101_1; have hw101_0 := hx101_0
        cases e101
        replace hx101_0 := (HB.out.cell (qL w _ hx101_0)).trans hx101_0; replace hx101_1 := (HB.out.cell (qL w _ hx101_1)).trans hx101_1; replace hx101_2 := (HB.out.cell (qL w _ hx101_2)).trans hx101_2; replace hx101_3 := (HB.out.cell (qL w _ hx101_3)).trans hx101_3; replace hx101_4 := (HB.out.cell (qL w _ hx101_4)).trans hx101_4; replace hx101_5 := (HB.out.cell (qL w _ hx101_5)).trans hx101_5; replace hx101_6 := (HB.out.cell (qL w _ hx101_6)).trans hx101_6; replace hx101_7 := (HB.out.cell (qL w _ hx101_7)).trans hx101_7; have HR101_5 := qO hi101_5; have HC101_5 := qO hl101_5; clear hi101_5 hl101_5; have HR101_6 := qO hi101_6; have HC101_6 := qO hl101_6; clear hi101_6 hl101_6; replace p101 := eq_true p101; replace q101 := eq_true q101; have p102 : 0 ≤ (x5_1 : Int) := qT qa4; have q102 : x5_1 < (l1.length : Int) := qT qa4; obtain ⟨ad102, A102_5, c102_5, A102_6, c102_6, e102, hx102_0, hx102_1, hx102_2, hx102_3, hx102_4, hx102_5, hx102_6, hx102_7, hl102_5, hi102_5, hl102_6, hi102_6⟩ := at_T115 HR1.out x5_1 p102 q102; have hw102_7 := hx102_7; have hw102_6 := hx102_6; have hw102_5 := hx102_5; have hw102_4 := hx102_4; have hw102_3 := hx102_3; have hw102_2 := hx102_2; have hw102_1 := hx102_1; have hw102_0 := hx102_0
        cases e102
        replace hx102_0 := (HB.out.cell (qL w _ hx102_0)).trans hx102_0; replace hx102_1 := (HB.out.cell (qL w _ hx102_1)).trans hx102_1; replace hx102_2 := (HB.out.cell (qL w _ hx102_2)).trans hx102_2; replace hx102_3 := (HB.out.cell (qL w _ hx102_3)).trans hx102_3; replace hx102_4 := (HB.out.cell (qL w _ hx102_4)).trans hx102_4; replace hx102_5 := (HB.out.cell (qL w _ hx102_5)).trans hx102_5; replace hx102_6 := (HB.out.cell (qL w _ hx102_6)).trans hx102_6; replace hx102_7 := (HB.out.cell (qL w _ hx102_7)).trans hx102_7; have HR102_5 := qO hi102_5; have HC102_5 := qO hl102_5; clear hi102_5 hl102_5; have HR102_6 := qO hi102_6; have HC102_6 := qO hl102_6; clear hi102_6 hl102_6; replace p102 := eq_true p102; replace q102 := eq_true q102; refine start_ (n := 10) (S := fun w' => w'.cell? (ad101.add ((x5_1).toNat * 8)) = some (.int .i64 ((rd_T115 l0 x5_1).f0)) ∧ w'.cell? ⟨(ad101.add ((x5_1).toNat * 8)).block, (ad101.add ((x5_1).toNat * 8)).off + 1, none⟩ = some (.int .i64 ((rd_T115 l0 x5_1).f1)) ∧ w'.cell? ⟨(ad101.add ((x5_1).toNat * 8)).block, (ad101.add ((x5_1).toNat * 8)).off + 2, none⟩ = some (.int .i64 ((rd_T115 l0 x5_1).f2)) ∧ w'.cell? ⟨(ad101.add ((x5_1).toNat * 8)).block, (ad101.add ((x5_1).toNat * 8)).off + 3, none⟩ = some (.int .i64 ((rd_T115 l0 x5_1).f3)) ∧ w'.cell? ⟨(ad101.add ((x5_1).toNat * 8)).block, (ad101.add ((x5_1).toNat * 8)).off + 4, none⟩ = some (.bool ((rd_T115 l0 x5_1).f4)) ∧ w'.cell? ⟨(ad101.add ((x5_1).toNat * 8)).block, (ad101.add ((x5_1).toNat * 8)).off + 5, none⟩ = some (.slice A101_5 ((rd_T115 l0 x5_1).f5.f0.f0).length c101_5) ∧ w'.cell? ⟨(ad101.add ((x5_1).toNat * 8)).block, (ad101.add ((x5_1).toNat * 8)).off + 6, none⟩ = some (.slice A101_6 ((rd_T115 l0 x5_1).f5.f1).length c101_6) ∧ w'.cell? ⟨(ad101.add ((x5_1).toNat * 8)).block, (ad101.add ((x5_1).toNat * 8)).off + 7, none⟩ = some (.string ((rd_T115 l0 x5_1).f6)) ∧ w'.cell? (ad102.add ((x5_1).toNat * 8)) = some (.int .i64 ((rd_T115 l1 x5_1).f0)) ∧ w'.cell? ⟨(ad102.add ((x5_1).toNat * 8)).block, (ad102.add ((x5_1).toNat * 8)).off + 1, none⟩ = some (.int .i64 ((rd_T115 l1 x5_1).f1)) ∧ w'.cell? ⟨(ad102.add ((x5_1).toNat * 8)).block, (ad102.add ((x5_1).toNat * 8)).off + 2, none⟩ = some (.int .i64 ((rd_T115 l1 x5_1).f2)) ∧ w'.cell? ⟨(ad102.add ((x5_1).toNat * 8)).block, (ad102.add ((x5_1).toNat * 8)).off + 3, none⟩ = some (.int .i64 ((rd_T115 l1 x5_1).f3)) ∧ w'.cell? ⟨(ad102.add ((x5_1).toNat * 8)).block, (ad102.add ((x5_1).toNat * 8)).off + 4, none⟩ = some (.bool ((rd_T115 l1 x5_1).f4)) ∧ w'.cell? ⟨(ad102.add ((x5_1).toNat * 8)).block, (ad102.add ((x5_1).toNat * 8)).off + 5, none⟩ = some (.slice A102_5 ((rd_T115 l1 x5_1).f5.f0.f0).length c102_5) ∧ w'.cell? ⟨(ad102.add ((x5_1).toNat * 8)).block, (ad102.add ((x5_1).toNat * 8)).off + 6, none⟩ = some (.slice A102_6 ((rd_T115 l1 x5_1).f5.f1).length c102_6) ∧ w'.cell? ⟨(ad102.add ((x5_1).toNat * 8)).block, (ad102.add ((x5_1).toNat * 8)).off + 7, none⟩ = some (.string ((rd_T115 l1 x5_1).f6))) (ds := []) laws_eqDoneS.y0 qa12 rfl rfl ⟨((HB.out.cell (qL w _ hw101_0)).trans hw101_0), ((HB.out.cell (qL w _ hw101_1)).trans hw101_1), ((HB.out.cell (qL w _ hw101_2)).trans hw101_2), ((HB.out.cell (qL w _ hw101_3)).trans hw101_3), ((HB.out.cell (qL w _ hw101_4)).trans hw101_4), ((HB.out.cell (qL w _ hw101_5)).trans hw101_5), ((HB.out.cell (qL w _ hw101_6)).trans hw101_6), ((HB.out.cell (qL w _ hw101_7)).trans hw101_7), ((HB.out.cell (qL w _ hw102_0)).trans hw102_0), ((HB.out.cell (qL w _ hw102_1)).trans hw102_1), ((HB.out.cell (qL w _ hw102_2)).trans hw102_2), ((HB.out.cell (qL w _ hw102_3)).trans hw102_3), ((HB.out.cell (qL w _ hw102_4)).trans hw102_4), ((HB.out.cell (qL w _ hw102_5)).trans hw102_5), ((HB.out.cell (qL w _ hw102_6)).trans hw102_6), ((HB.out.cell (qL w _ hw102_7)).trans hw102_7)⟩ (fun hHeld => ?_); refine with_tabW laws_eqDoneS.tab6 laws_eqDoneS.bits6 (fun HT_ HW_ => ?_); generalize wr.drew = w11 at HB HR101_5 HR101_6 HR102_5 HR102_6 hx101_0 hx101_1 hx101_2 hx101_3 hx101_4 hx101_5 hx101_6 hx101_7 hx102_0 hx102_1 hx102_2 hx102_3 hx102_4 hx102_5 hx102_6 hx102_7 hHeld ⊢; refine pure_ (i := 0) (N := some 17) (v := ?_) (a' := ?_) laws_eqDoneS.y1 rfl rfl (any_of HT_.out qa12) (fun _ _ _ h => h) (Or.inl ⟨by rfl, ?_⟩) ?_ ?_; rotate_left; exact qa19; rotate_left; exact qa8; refine pure_ (i := 1) (N := some 18) (v := ?_) (a' := ?_) laws_eqDoneS.y2 rfl rfl (any_of HT_.out qa12) (fun _ _ _ h => h) (Or.inl ⟨by rfl, ?_⟩) ?_ ?_; rotate_left; exact qa19; rotate_left; exact qa8; refine pure_ (i := 2) (N := some 19) (v := ?_) (a' := ?_) laws_eqDoneS.y3 rfl rfl (any_of HT_.out qa12) (fun _ _ _ h => h) (Or.inl ⟨by rfl, ?_⟩) ?_ ?_; rotate_left; exact qa19; rotate_left; exact qa8; refine pure_ (i := 4) (N := some 21) (v := ?_) (a' := ?_) laws_eqDoneS.y4 rfl rfl (any_of HT_.out qa12) (fun _ _ _ h => h) (Or.inl ⟨by rfl, ?_⟩) ?_ ?_; rotate_left; exact qa19; rotate_left; exact qa8; refine pure_ (i := 5) (N := some 22) (v := ?_) (a' := ?_) laws_eqDoneS.y5 rfl rfl (any_of HT_.out qa12) (fun _ _ _ h => h) (Or.inl ⟨by rfl, ?_⟩) ?_ ?_; rotate_left; exact qa19; rotate_left; exact qa8; refine pure_ (i := 6) (N := some 23) (v := ?_) (a' := ?_) laws_eqDoneS.y6 rfl rfl (any_of HT_.out qa12) (fun _ _ _ h => h) (Or.inl ⟨by rfl, ?_⟩) ?_ ?_; rotate_left; exact qa19; rotate_left; exact qa8; refine take_ (i := 3) (N := some 20) (v := ?_) (a' := ?_) laws_eqDoneS.y7 rfl rfl (take_ofW HT_.out HW_.out qa12) (fun _ _ _ h => h) (Or.inl ⟨by rfl, ?_⟩) hHeld ?_ ?_; rotate_left; exact qa78; rotate_left; exact qa8; refine take_ (i := 7) (N := some 24) (v := ?_) (a' := ?_) laws_eqDoneS.y8 rfl rfl (take_ofW HT_.out HW_.out qa12) (fun _ _ _ h => h) (Or.inl ⟨by rfl, ?_⟩) hHeld ?_ ?_; rotate_left; exact qa78; rotate_left; exact qa8; refine one_ (i := 8) (N := some 25) laws_eqDoneS.y9 rfl rfl (one_of HT_.out qa12) qa98 (fun K hK => ?_); refine goes_ Try.func74 qa12 rfl #[.agg #[.int .i64 ((rd_T115 l0 x5_1).f0), .int .i64 ((rd_T115 l0 x5_1).f1), .int .i64 ((rd_T115 l0 x5_1).f2), .int .i64 ((rd_T115 l0 x5_1).f3), .bool ((rd_T115 l0 x5_1).f4), .slice A101_5 ((rd_T115 l0 x5_1).f5.f0.f0).length c101_5, .slice A101_6 ((rd_T115 l0 x5_1).f5.f1).length c101_6, .string ((rd_T115 l0 x5_1).f6)], .agg #[.int .i64 ((rd_T115 l1 x5_1).f0), .int .i64 ((rd_T115 l1 x5_1).f1), .int .i64 ((rd_T115 l1 x5_1).f2), .int .i64 ((rd_T115 l1 x5_1).f3), .bool ((rd_T115 l1 x5_1).f4), .slice A102_5 ((rd_T115 l1 x5_1).f5.f0.f0).length c102_5, .slice A102_6 ((rd_T115 l1 x5_1).f5.f1).length c102_6, .string ((rd_T115 l1 x5_1).f6)]] (by rfl) rfl rfl qa1 ?_; (with_reducible refine (laws_eqDone.calls k1 ((rd_T115 l0 x5_1).f0) ((rd_T115 l0 x5_1).f1) ((rd_T115 l0 x5_1).f2) ((rd_T115 l0 x5_1).f3) ((rd_T115 l0 x5_1).f4) _ _ ((rd_T115 l0 x5_1).f5.f0.f0) _ _ ((rd_T115 l0 x5_1).f5.f1) ((rd_T115 l0 x5_1).f6) ((rd_T115 l1 x5_1).f0) ((rd_T115 l1 x5_1).f1) ((rd_T115 l1 x5_1).f2) ((rd_T115 l1 x5_1).f3) ((rd_T115 l1 x5_1).f4) _ _ ((rd_T115 l1 x5_1).f5.f0.f0) _ _ ((rd_T115 l1 x5_1).f5.f1) ((rd_T115 l1 x5_1).f6) false _ ?side1 ?side2 ?side3 ?side4 ?side5 ?side6 ?side7 ?side8 A7.out).mono ?_); (case side1 => exact qa29); (case side2 => exact HC101_5.out); (case side3 => exact qa55); (case side4 => exact HC101_6.out); (case side5 => exact qa57); (case side6 => exact HC102_5.out); (case side7 => exact qa87); (case side8 => exact HC102_6.out); rintro e w12 ⟨rfl, hb⟩; have hx_ := qHX HB hb qa0; refine ⟨_, rfl, ?_⟩; have n0_ := qO (below_step (below_step HB.out hx_) hb); clear HB; have HB := n0_; clear n0_; clear hx_; (try clear hb); (try clear hb2); (try clear hk); (try clear hi); refine hK.out _ _ ⟨((HB.out.cell (qL w _ hw101_0)).trans hw101_0), ((HB.out.cell (qL w _ hw101_1)).trans hw101_1), ((HB.out.cell (qL w _ hw101_2)).trans hw101_2), ((HB.out.cell (qL w _ hw101_3)).trans hw101_3), ((HB.out.cell (qL w _ hw101_4)).trans hw101_4), ((HB.out.cell (qL w _ hw101_5)).trans hw101_5), ((HB.out.cell (qL w _ hw101_6)).trans hw101_6), ((HB.out.cell (qL w _ hw101_7)).trans hw101_7), ((HB.out.cell (qL w _ hw102_0)).trans hw102_0), ((HB.out.cell (qL w _ hw102_1)).trans hw102_1), ((HB.out.cell (qL w _ hw102_2)).trans hw102_2), ((HB.out.cell (qL w _ hw102_3)).trans hw102_3), ((HB.out.cell (qL w _ hw102_4)).trans hw102_4), ((HB.out.cell (qL w _ hw102_5)).trans hw102_5), ((HB.out.cell (qL w _ hw102_6)).trans hw102_6), ((HB.out.cell (qL w _ hw102_7)).trans hw102_7)⟩ (fun hHeld => ?_); clear hK K; refine norm_ (a' := ?_) ?_ ?_; rotate_left
        ·exact qa30
        refine pure_ (i := 9) (N := some 26) (v := ?_) (a' := ?_) laws_eqDoneS.y10 rfl rfl (any_of HT_.out qa12) (fun _ _ _ h => h) (Or.inl ⟨by rfl, ?_⟩) ?_ ?_; rotate_left; exact qa19; rotate_left; exact qa8; refine done_ (done_of HT_.out qa12) ?_
        try go_wp2
        go_ret
        exact ⟨qa3, qa2⟩
      ·rw [if_neg c6] at H
       exact absurd H qa79
     ·rw [if_neg c5] at H
      exact absurd H qa79
    ·rw [if_neg c4] at H
     have c4b0 : decide (x5_1 < (l0.length : Int)) = false := decide_eq_false c4; clear c4; obtain rfl := Option.some.inj H; go_wp2
     go_ret
     exact ⟨qa3, qa2⟩
 ·rw [if_neg c3] at H
  have c3b0 : ((l0.length : Int) == (l1.length : Int)) = false := beq_eq_false_iff_ne.mpr c3; have c3b1 : ((l0.length : Int) != (l1.length : Int)) = true := bne_iff_ne.mpr c3; have c3b2 : (l0.length == l1.length) = false := by first | simpa using c3 | (simp at c3 ⊢; omega)
  obtain rfl := Option.some.inj H
  go_enter Try.func33, Try.ntmps33
  go_wp2
  go_ret
  exact ⟨qa3, qa2⟩


def laws_markText.l0 : Nat → Int → ByteArray → Option (ByteArray)
 | 0, _, _ => none
 | k + 1, x0, x3 => if x0 > 0 then ((some (([(wrap64 (48 + (Int.tmod x0 10))) % 256] : List Int) : List Int)).bind fun y101 => (if (strOfNums y101).size + x3.size ≤ 9223372036854775807 then (laws_markText.l0 k (wrap64 (Int.tdiv x0 10)) ((strOfNums y101) ++ x3)) else (none))) else (if 1 + x3.size ≤ 9223372036854775807 then (some ((⟨#[109]⟩ : ByteArray) ++ x3)) else (none))
def laws_markText.f (k : Nat) (a0 : Int) : Option (ByteArray) := if a0 ≤ 0 then (some (⟨#[109, 48]⟩ : ByteArray)) else (laws_markText.l0 k a0 (⟨#[]⟩ : ByteArray))
set_option maxHeartbeats 8000000 in
set_option maxRecDepth 100000 in
theorem laws_markText.calls (k : Nat) (a0 : Int) (r : ByteArray) (w : World) (h : laws_markText.f k a0 = some r) :
  Calls Try.prog 77 #[.int .i64 a0] w fun e w' => e = .returned (.string r) ∧ Below w.heap.size w w' := by
 have HB := qO (Below.refl w.heap.size w); have H : (if a0 ≤ 0 then (some (⟨#[109, 48]⟩ : ByteArray)) else (laws_markText.l0 k a0 (⟨#[]⟩ : ByteArray))) = some r := h; clear h
 by_cases c2 : a0 ≤ 0
 ·rw [if_pos c2] at H
  have c2b0 : decide (a0 ≤ 0) = true := decide_eq_true c2; clear c2; obtain rfl := Option.some.inj H
  go_enter Try.func77, Try.ntmps77
  go_wp2
  go_ret
  exact ⟨qa3, qa2⟩
 ·rw [if_neg c2] at H
  have c2b0 : decide (a0 ≤ 0) = false := decide_eq_false c2; clear c2; have H' := qO H; clear H
  go_enter Try.func77, Try.ntmps77
  go_wp2
  go_loopg [0, 3] k (fun kq v0 v3 w' => ∃ (x0_1 : Int) (x3_1 : ByteArray), v0 = .int .i64 x0_1 ∧ v3 = .string x3_1 ∧ Aside0 (laws_markText.l0 kq x0_1 x3_1 = some r) ∧ Aside0 (kq ≤ k) ∧ Aside0 (Below w.heap.size w w'))
  case atStart => exact ⟨(a0), ((⟨#[]⟩ : ByteArray)), qa7, qa7, H', ⟨Nat.le_refl _⟩, ⟨qa2⟩⟩
  case round =>
   clear H'
   try clear c2
   try clear c2b0
   try clear p2
   obtain ⟨x0_1, x3_1, rfl, rfl, HA, HK1, HB⟩ := hrel
   cases gk with
   | zero => exact absurd HA.out (by simp [laws_markText.l0])
   | succ k1 =>
    have H := HA.out; clear HA; simp only [laws_markText.l0] at H
    by_cases c3 : x0_1 > 0
    ·rw [if_pos c3] at H
     have c3b0 : decide (0 < x0_1) = true := decide_eq_true c3; clear c3; obtain ⟨y101, hy101⟩ : ∃ y_ : List Int, y_ = (([(wrap64 (48 + (Int.tmod x0_1 10))) % 256] : List Int)) := ⟨_, rfl⟩; replace H : (if (strOfNums y101).size + x3_1.size ≤ 9223372036854775807 then (laws_markText.l0 k1 (wrap64 (Int.tdiv x0_1 10)) ((strOfNums y101) ++ x3_1)) else (none)) = some r := by first | (rw [hy101]; with_reducible exact H) | (have H2_ := (Option.bind_some _ _).symm.trans H; rw [hy101]; with_reducible exact H2_) | (have H2_ := (Option.bind_some _ _).symm.trans H; with_reducible exact H2_) | with_reducible exact H | (rw [hy101]; exact H) | exact H
     have Ny101 := qO hy101; clear hy101
     by_cases c4 : (strOfNums y101).size + x3_1.size ≤ 9223372036854775807
     ·rw [if_pos c4] at H
      have c4b0 := eq_true c4; have c4b1 : decide ((strOfNums y101).size + x3_1.size ≤ 9223372036854775807) = true := decide_eq_true c4
      try have c4b2 : (9223372036854775807 < (strOfNums y101).size + x3_1.size) = False := eq_false (Nat.not_lt.2 c4)
      have H' := qO H; clear H
      go_wp2_with (first | ((with_reducible refine gate_dst (N := 12) rfl ?_); refine Kd.R_lit (Kd.int .u8) _ 5 ?hg (N := 12) ?hd (xs := ([(wrap64 (48 + (Int.tmod x0_1 10))) % 256] : List Int)) (inner := [.int .u8 ((wrap64 (48 + (Int.tmod x0_1 10))) % 256)]) (ok := fun _ => True) (okp := fun _ => True) ?hr ?hp (fun _ hk => hk) trivial (Below.refl _ _) (Nat.le_refl _) qa79 ?_; (case hd => rfl); (case hg => rfl); (case hr => exact qa10); (case hp => exact (Reps.one (show Kd.M (Kd.int .u8) _ _ _ ((wrap64 (48 + (Int.tmod x0_1 10))) % 256) [.int .u8 ((wrap64 (48 + (Int.tmod x0_1 10))) % 256)] from rfl) (Reps.none _ _))); intro v102 w5 ho6 hb hg_ hnew_; clear hg_ hnew_; (first | rw [← Ny101.out] at ho6 | (simp only [Int.reduceToNat] at ho6; rw [← Ny101.out] at ho6)); have n0_ := qO (Kd.R_lower ho6 (below_size qa2)); have n1_ := qO (below_step qa2 hb); clear HB; have HO103 := n0_; have HB := n1_; clear n0_ n1_; clear hb ho6; have hcv7 := own_string (P := Try.prog) Try.underlying143 Try.underlying5 Try.underlying9 (Kd.own_of_R HO103.out)))
      go_roundg k1
      case measure => have := HK1.out; omega
      case rel => exact ⟨(wrap64 (Int.tdiv x0_1 10)), ((strOfNums y101) ++ x3_1), qa7, qa7, H', ⟨qa37⟩, ⟨qa2⟩⟩
     ·rw [if_neg c4] at H
      exact absurd H qa79
    ·rw [if_neg c3] at H
     have c3b0 : decide (0 < x0_1) = false := decide_eq_false c3; clear c3
     by_cases c8 : 1 + x3_1.size ≤ 9223372036854775807
     ·rw [if_pos c8] at H
      have c8b0 := eq_true c8; have c8b1 : decide (1 + x3_1.size ≤ 9223372036854775807) = true := decide_eq_true c8
      try have c8b2 : (9223372036854775807 < 1 + x3_1.size) = False := eq_false (Nat.not_lt.2 c8)
      obtain rfl := Option.some.inj H; go_wp2
      go_ret
      exact ⟨qa3, qa2⟩
     ·rw [if_neg c8] at H
      exact absurd H qa79


def wk_Sk (ok : Nat → Prop) (d w : World) : Prop := (w.os = d.os ∧ w.tape = d.tape ∧ w.output = d.output) ∧ Kept d w ok ∧ ∀ (k : Nat) (cs : Array Value) (t : TypeId), d.heap[k]? = some (.cells cs t (0, 0)) → ∃ cs', w.heap[k]? = some (.cells cs' t (0, 0)) ∧ cs'.size = cs.size ∧ ∀ (j : Nat) (A : Option Addr) (n c : Nat), cs[j]? = some (Value.slice A n c) → cs'[j]? = some (Value.slice A n c)
theorem wk_refl (ok : Nat → Prop) (d : World) : wk_Sk ok d d := ⟨⟨rfl, rfl, rfl⟩, Kept.refl d ok, fun _ cs _ h => ⟨cs, h, rfl, fun _ _ _ _ h => h⟩⟩
theorem wk_below {ok : Nat → Prop} {d w w1 : World} (h : wk_Sk ok d w) (hb : Below w.heap.size w w1) : wk_Sk ok d w1 :=
 ⟨⟨hb.os.trans h.1.1, hb.tape.trans h.1.2.1, hb.output.trans h.1.2.2⟩, h.2.1.below hb, fun k cs t hk => by
  obtain ⟨cs', h1, h2, h3⟩ := h.2.2 k cs t hk
  exact ⟨cs', blk_below h1 hb, h2, h3⟩⟩
theorem wk_set {ok : Nat → Prop} {d w : World} {g j : Nat} {cs : Array Value} {t : TypeId} {v : Value} (h : wk_Sk ok d w) (hg : d.heap[g]? = some (.cells cs t (0, 0))) (hok : ok g) (hc : d.cell? ⟨g, j, none⟩ = some v) (hv : ∀ A n c, v ≠ .slice A n c) (u : Value) : wk_Sk ok d (w.setCell ⟨g, j, none⟩ u) := by
 refine ⟨⟨h.1.1, h.1.2.1, h.1.2.2⟩, Kept.setCell h.2.1 (.inl hok) u, fun k cs1 t1 hk => ?_⟩; obtain ⟨cs', h1, h2, h3⟩ := h.2.2 k cs1 t1 hk
 by_cases e : k = g
 ·subst e
  refine ⟨_, blk_set h1 j u, by simpa using h2, fun j' A n c hj' => ?_⟩
  by_cases e' : j = j'
  ·subst e'
   rw [blk_cell hk] at hc; rw [hj'] at hc
   exact absurd (Option.some.inj hc).symm (hv A n c)
  ·rw [Array.getElem?_setIfInBounds_ne e']
   exact h3 j' A n c hj'
 ·exact ⟨cs', blk_far h1 (p := ⟨g, j, none⟩) e u, h2, h3⟩
theorem wk_mono {ok ok' : Nat → Prop} {d w : World} (h : wk_Sk ok d w) (ho : ∀ k, ok k → ok' k) : wk_Sk ok' d w := ⟨h.1, h.2.1.mono ho, h.2.2⟩
theorem wk_froz {ok : Nat → Prop} {d w : World} {g : Nat} {cs : Array Value} {t : TypeId} (h : wk_Sk ok d w) (hg : d.heap[g]? = some (.cells cs t (0, 0))) (j : Nat) : w.frozen? ⟨g, j, none⟩ = false := by
 obtain ⟨cs', h1, _, _⟩ := h.2.2 g cs t hg
 exact blk_frozen h1 j
theorem wk_some {ok : Nat → Prop} {d w : World} {g j : Nat} {cs : Array Value} {t : TypeId} {v : Value} (h : wk_Sk ok d w) (hg : d.heap[g]? = some (.cells cs t (0, 0))) (hc : d.cell? ⟨g, j, none⟩ = some v) : ∃ u, w.cell? ⟨g, j, none⟩ = some u := by
 obtain ⟨cs', h1, h2, _⟩ := h.2.2 g cs t hg; rw [blk_cell hg] at hc; rw [blk_cell h1]; have := (Array.getElem?_eq_some_iff.1 hc).1
 exact ⟨_, Array.getElem?_eq_getElem qa14⟩
theorem wk_slice {ok : Nat → Prop} {d w : World} {g j n c : Nat} {A : Option Addr} {cs : Array Value} {t : TypeId} (h : wk_Sk ok d w) (hg : d.heap[g]? = some (.cells cs t (0, 0))) (hc : d.cell? ⟨g, j, none⟩ = some (.slice A n c)) : w.cell? ⟨g, j, none⟩ = some (.slice A n c) := by
 obtain ⟨cs', h1, _, h3⟩ := h.2.2 g cs t hg; rw [blk_cell hg] at hc; rw [blk_cell h1]
 exact h3 j A n c hc
theorem wk_Below {B : Nat} {ok : Nat → Prop} {w0 d w : World} (hB : Below B w0 d) (h : wk_Sk ok d w) (hok : ∀ k, ok k → B ≤ k) (hs : B ≤ d.heap.size) : Below B w0 w :=
 ⟨h.1.1.trans hB.os, h.1.2.1.trans hB.tape, h.1.2.2.trans hB.output, Nat.le_trans hB.size h.2.1.1, fun k hk => (h.2.1.2 k (Nat.lt_of_lt_of_le hk hs) (fun ho => by have := hok k ho; omega)).trans (hB.block k hk)⟩
def laws_markArgS.l0 : Nat → List (S172) → Int → Int → Option Int
 | 0, _, _, _ => none
 | k + 1, l, m, i => if i < (l.length : Int) then (if 0 ≤ i then ((laws_markText.f k m).bind fun t1_ => ((laws_markText.f k (wrap64 ((wrap64 ((wrap64 (m + 1)) + 1)) + 1))).bind fun t2_ => laws_markArgS.l0 k l (wrap64 ((wrap64 ((wrap64 ((wrap64 (m + 1)) + 1)) + 1)) + 1)) (wrap64 (i + 1)))) else none) else some m
def laws_markArgS.f (k : Nat) (l0 : List (S172)) (a1 : Int) : Option Int := laws_markArgS.l0 k l0 a1 0
set_option maxHeartbeats 8000000 in
set_option maxRecDepth 100000 in
theorem laws_markArgS.callsW (k : Nat) : ∀ (ok : Nat → Prop) (base : Nat) (v : Value) (l : List (S172)) (m r : Int) (d w : World) (hR : Kd.R (k172) 172 d base ok v l) (hS : wk_Sk ok d w) (h : laws_markArgS.l0 k l m 0 = some r),
  Calls Try.prog 128 #[v, .int .i64 m] w fun e w' => e = .returned (.int .i64 r) ∧ wk_Sk ok d w' := by
 induction k using Nat.strongRecOn with
 | _ k ih =>
 intro ok base v l m r d w hR hS h; have hu32 := Try.underlying32; have hu172 := Try.underlying172; obtain ⟨A0, c0, e0⟩ := Kd.R_slice hR; subst e0; have HR := qO hR; have HS0 := qO hS; have H0' := qO h; clear h hR hS
 go_enter Try.func128, Try.ntmps128
 go_wp2
 go_loopg [1, 5] k (fun kq v1 v5 w' => ∃ (m i : Int), v1 = .int .i64 m ∧ v5 = .int .i64 i ∧ Aside0 (laws_markArgS.l0 kq l m i = some r) ∧ Aside0 (kq ≤ k) ∧ Aside0 (wk_Sk ok d w'))
 case atStart => exact ⟨m, 0, rfl, rfl, H0', ⟨Nat.le_refl _⟩, HS0⟩
 case round =>
  clear H0' HS0; obtain ⟨m, i, rfl, rfl, HA, HK1, HSwr⟩ := hrel
  cases gk with
  | zero => exact absurd HA.out (by simp [laws_markArgS.l0])
  | succ k1 =>
   have H := HA.out; clear HA; simp only [laws_markArgS.l0] at H
   by_cases c1 : i < (l.length : Int)
   ·rw [if_pos c1] at H
    by_cases c2 : 0 ≤ i
    ·rw [if_pos c2] at H
     obtain ⟨xe, hxe⟩ : ∃ xe, xe = rd_T172 l i := ⟨_, rfl⟩; (try rw [← hxe] at H); replace H := Option.bind_eq_some_iff.mp H; obtain ⟨t1_, A1_0, H⟩ := H; have A1_ := qO A1_0; clear A1_0; replace H := Option.bind_eq_some_iff.mp H; obtain ⟨t2_, A2_0, H⟩ := H; have A2_ := qO A2_0; clear A2_0; have H' := qO (show laws_markArgS.l0 k1 l (wrap64 ((wrap64 ((wrap64 ((wrap64 (m + 1)) + 1)) + 1)) + 1)) (wrap64 (i + 1)) = some r from H); clear H; have c1b := decide_eq_true c1; have c2b := decide_eq_true c2; obtain ⟨go, co, eo, gb, gl, cl, HG⟩ := Kd.R_form HR.out qa14; (first | cases eo | (injection eo with ea_ en_ ec_; (first | subst ea_ | (injection ea_ with ea_; subst ea_)); subst ec_; clear en_)); have HOK := qO (HR.out.1 go rfl); have HGd := qO HG; obtain ⟨ce, hcl, hM, hcc, hfr⟩ := Kd.R_elem HR.out z172 i c2 c1; rw [show List.getD l i.toNat z172 = xe from hxe.symm] at hM; clear hxe; obtain rfl := k172_openM hM; have hd0 : d.cell? ⟨go, i.toNat * 4, none⟩ = some (.string (xe.f0)) := hcc 0 _ rfl; have hd1 : d.cell? ⟨go, i.toNat * 4 + 1, none⟩ = some (.int .i64 (xe.f1.f0)) := hcc 1 _ rfl; have hd2 : d.cell? ⟨go, i.toNat * 4 + 2, none⟩ = some (.int .i64 (xe.f1.f1)) := hcc 2 _ rfl; have hd3 : d.cell? ⟨go, i.toNat * 4 + 3, none⟩ = some (.string (xe.f1.f2)) := hcc 3 _ rfl
     
     obtain ⟨uwr_0, hxwr_0⟩ := wk_some HSwr.out HGd.out hd0; obtain ⟨uwr_1, hxwr_1⟩ := wk_some HSwr.out HGd.out hd1; obtain ⟨uwr_2, hxwr_2⟩ := wk_some HSwr.out HGd.out hd2; obtain ⟨uwr_3, hxwr_3⟩ := wk_some HSwr.out HGd.out hd3; have hfwr_0 : wr.frozen? ⟨go, i.toNat * 4, none⟩ = false := wk_froz HSwr.out HGd.out _; have hfwr_1 : wr.frozen? ⟨go, i.toNat * 4 + 1, none⟩ = false := wk_froz HSwr.out HGd.out _; have hfwr_2 : wr.frozen? ⟨go, i.toNat * 4 + 2, none⟩ = false := wk_froz HSwr.out HGd.out _; have hfwr_3 : wr.frozen? ⟨go, i.toNat * 4 + 3, none⟩ = false := wk_froz HSwr.out HGd.out _; clear hcc hfr hcl HG gb gl; (try clear hM); replace c1 := eq_true c1; replace c2 := eq_true c2
     go_wp2_with (first | ((with_reducible refine gate_callee (f := 77) rfl ?_); refine goesL_ (some 15) rfl rfl Try.func77 qa12 rfl #[.int .i64 m] rfl qa18 ?_; (with_reducible refine (laws_markText.calls k1 m t1_ _ A1_.out).mono ?_); rintro e w1x ⟨rfl, hd_⟩; have HSw1x := qO (wk_below HSwr.out hd_); clear hd_; refine ⟨_, rfl, ?_⟩; obtain ⟨uw1x_0, hxw1x_0⟩ := wk_some HSw1x.out HGd.out hd0; obtain ⟨uw1x_1, hxw1x_1⟩ := wk_some HSw1x.out HGd.out hd1; obtain ⟨uw1x_2, hxw1x_2⟩ := wk_some HSw1x.out HGd.out hd2; obtain ⟨uw1x_3, hxw1x_3⟩ := wk_some HSw1x.out HGd.out hd3; have hfw1x_0 : w1x.frozen? ⟨go, i.toNat * 4, none⟩ = false := wk_froz HSw1x.out HGd.out _; have hfw1x_1 : w1x.frozen? ⟨go, i.toNat * 4 + 1, none⟩ = false := wk_froz HSw1x.out HGd.out _; have hfw1x_2 : w1x.frozen? ⟨go, i.toNat * 4 + 2, none⟩ = false := wk_froz HSw1x.out HGd.out _; have hfw1x_3 : w1x.frozen? ⟨go, i.toNat * 4 + 3, none⟩ = false := wk_froz HSw1x.out HGd.out _) | ((with_reducible refine gate_callee (f := 77) rfl ?_); refine goesL_ (some 39) rfl rfl Try.func77 qa12 rfl #[.int .i64 (wrap64 ((wrap64 ((wrap64 (m + 1)) + 1)) + 1))] rfl qa18 ?_; (with_reducible refine (laws_markText.calls k1 (wrap64 ((wrap64 ((wrap64 (m + 1)) + 1)) + 1)) t2_ _ A2_.out).mono ?_); rintro e w2x ⟨rfl, hd_⟩; have HSw2x := qO (wk_below (wk_set (wk_set (wk_set HSw1x.out HGd.out HOK.out hd0 qa52 _) HGd.out HOK.out hd1 qa52 _) HGd.out HOK.out hd2 qa52 _) hd_); clear hd_; refine ⟨_, rfl, ?_⟩; obtain ⟨uw2x_0, hxw2x_0⟩ := wk_some HSw2x.out HGd.out hd0; obtain ⟨uw2x_1, hxw2x_1⟩ := wk_some HSw2x.out HGd.out hd1; obtain ⟨uw2x_2, hxw2x_2⟩ := wk_some HSw2x.out HGd.out hd2; obtain ⟨uw2x_3, hxw2x_3⟩ := wk_some HSw2x.out HGd.out hd3; have hfw2x_0 : w2x.frozen? ⟨go, i.toNat * 4, none⟩ = false := wk_froz HSw2x.out HGd.out _; have hfw2x_1 : w2x.frozen? ⟨go, i.toNat * 4 + 1, none⟩ = false := wk_froz HSw2x.out HGd.out _; have hfw2x_2 : w2x.frozen? ⟨go, i.toNat * 4 + 2, none⟩ = false := wk_froz HSw2x.out HGd.out _; have hfw2x_3 : w2x.frozen? ⟨go, i.toNat * 4 + 3, none⟩ = false := wk_froz HSw2x.out HGd.out _))
     go_roundg k1
     case measure => have := HK1.out; omega
     case rel => exact ⟨(wrap64 ((wrap64 ((wrap64 ((wrap64 (m + 1)) + 1)) + 1)) + 1)), wrap64 (i + 1), qa7, qa7, H', ⟨qa37⟩, ⟨(wk_set HSw2x.out HGd.out HOK.out hd3 qa52 _)⟩⟩
    ·rw [if_neg c2] at H
     exact absurd H qa79
   ·rw [if_neg c1] at H
    have c1b := decide_eq_false c1; clear c1; simp only [Option.some.injEq] at H; subst H; go_wp2
    go_ret
    exact ⟨rfl, HSwr.out⟩
theorem laws_markArgS.calls (k : Nat) (P0_ : Nat → Prop) (u9000_ : Value) (l0 : List (S172)) (a1 : Int) (r1 : Int) (w0 w : World) (hB : Below w0.heap.size w0 w) (ho0 : Kd.R (k172) 172 w w0.heap.size P0_ u9000_ l0) (h : laws_markArgS.f k l0 a1 = some r1) :
  Calls Try.prog 128 #[u9000_, .int .i64 a1] w fun e w' => e = .returned (.int .i64 r1) ∧ Below w0.heap.size w0 w' ∧ Kept w w' (fun k_ => P0_ k_) := by
 refine (laws_markArgS.callsW k (fun k_ => P0_ k_ ∧ w0.heap.size ≤ k_) w0.heap.size u9000_ l0 a1 r1 w w (Kd.R_mono (Kd.R_bound ho0) (fun k_ hk_ => ⟨hk_.1, hk_.2.1⟩)) (wk_refl _ _) h).mono ?_; rintro e w' ⟨rfl, hS⟩
 exact ⟨rfl, wk_Below hB hS (fun k_ hk_ => hk_.2) hB.size, hS.2.1.mono (fun k_ hk_ => hk_.1)⟩


def laws_markDirS.l0 : Nat → List (S174) → Int → Int → Option Int
 | 0, _, _, _ => none
 | k + 1, l, m, i => if i < (l.length : Int) then (if 0 ≤ i then ((laws_markText.f k (wrap64 ((wrap64 ((wrap64 (m + 1)) + 1)) + 1))).bind fun t1_ => laws_markDirS.l0 k l (wrap64 ((wrap64 ((wrap64 ((wrap64 (m + 1)) + 1)) + 1)) + 1)) (wrap64 (i + 1))) else none) else some m
def laws_markDirS.f (k : Nat) (l0 : List (S174)) (a1 : Int) : Option Int := laws_markDirS.l0 k l0 a1 0
set_option maxHeartbeats 8000000 in
set_option maxRecDepth 100000 in
theorem laws_markDirS.callsW (k : Nat) : ∀ (ok : Nat → Prop) (base : Nat) (v : Value) (l : List (S174)) (m r : Int) (d w : World) (hR : Kd.R (k174) 174 d base ok v l) (hS : wk_Sk ok d w) (h : laws_markDirS.l0 k l m 0 = some r),
  Calls Try.prog 129 #[v, .int .i64 m] w fun e w' => e = .returned (.int .i64 r) ∧ wk_Sk ok d w' := by
 induction k using Nat.strongRecOn with
 | _ k ih =>
 intro ok base v l m r d w hR hS h; have hu32 := Try.underlying32; have hu174 := Try.underlying174; obtain ⟨A0, c0, e0⟩ := Kd.R_slice hR; subst e0; have HR := qO hR; have HS0 := qO hS; have H0' := qO h; clear h hR hS
 go_enter Try.func129, Try.ntmps129
 go_wp2
 go_loopg [1, 5] k (fun kq v1 v5 w' => ∃ (m i : Int), v1 = .int .i64 m ∧ v5 = .int .i64 i ∧ Aside0 (laws_markDirS.l0 kq l m i = some r) ∧ Aside0 (kq ≤ k) ∧ Aside0 (wk_Sk ok d w'))
 case atStart => exact ⟨m, 0, rfl, rfl, H0', ⟨Nat.le_refl _⟩, HS0⟩
 case round =>
  clear H0' HS0; obtain ⟨m, i, rfl, rfl, HA, HK1, HSwr⟩ := hrel
  cases gk with
  | zero => exact absurd HA.out (by simp [laws_markDirS.l0])
  | succ k1 =>
   have H := HA.out; clear HA; simp only [laws_markDirS.l0] at H
   by_cases c1 : i < (l.length : Int)
   ·rw [if_pos c1] at H
    by_cases c2 : 0 ≤ i
    ·rw [if_pos c2] at H
     obtain ⟨xe, hxe⟩ : ∃ xe, xe = rd_T174 l i := ⟨_, rfl⟩; (try rw [← hxe] at H); replace H := Option.bind_eq_some_iff.mp H; obtain ⟨t1_, A1_0, H⟩ := H; have A1_ := qO A1_0; clear A1_0; have H' := qO (show laws_markDirS.l0 k1 l (wrap64 ((wrap64 ((wrap64 ((wrap64 (m + 1)) + 1)) + 1)) + 1)) (wrap64 (i + 1)) = some r from H); clear H; have c1b := decide_eq_true c1; have c2b := decide_eq_true c2; obtain ⟨go, co, eo, gb, gl, cl, HG⟩ := Kd.R_form HR.out qa14; (first | cases eo | (injection eo with ea_ en_ ec_; (first | subst ea_ | (injection ea_ with ea_; subst ea_)); subst ec_; clear en_)); have HOK := qO (HR.out.1 go rfl); have HGd := qO HG; obtain ⟨ce, hcl, hM, hcc, hfr⟩ := Kd.R_elem HR.out z174 i c2 c1; rw [show List.getD l i.toNat z174 = xe from hxe.symm] at hM; clear hxe; obtain rfl := k174_openM hM; have hd0 : d.cell? ⟨go, i.toNat * 4, none⟩ = some (.bool (xe.f0)) := hcc 0 _ rfl; have hd1 : d.cell? ⟨go, i.toNat * 4 + 1, none⟩ = some (.int .i64 (xe.f1.f0)) := hcc 1 _ rfl; have hd2 : d.cell? ⟨go, i.toNat * 4 + 2, none⟩ = some (.int .i64 (xe.f1.f1)) := hcc 2 _ rfl; have hd3 : d.cell? ⟨go, i.toNat * 4 + 3, none⟩ = some (.string (xe.f1.f2)) := hcc 3 _ rfl
     
     obtain ⟨uwr_0, hxwr_0⟩ := wk_some HSwr.out HGd.out hd0; obtain ⟨uwr_1, hxwr_1⟩ := wk_some HSwr.out HGd.out hd1; obtain ⟨uwr_2, hxwr_2⟩ := wk_some HSwr.out HGd.out hd2; obtain ⟨uwr_3, hxwr_3⟩ := wk_some HSwr.out HGd.out hd3; have hfwr_0 : wr.frozen? ⟨go, i.toNat * 4, none⟩ = false := wk_froz HSwr.out HGd.out _; have hfwr_1 : wr.frozen? ⟨go, i.toNat * 4 + 1, none⟩ = false := wk_froz HSwr.out HGd.out _; have hfwr_2 : wr.frozen? ⟨go, i.toNat * 4 + 2, none⟩ = false := wk_froz HSwr.out HGd.out _; have hfwr_3 : wr.frozen? ⟨go, i.toNat * 4 + 3, none⟩ = false := wk_froz HSwr.out HGd.out _; clear hcc hfr hcl HG gb gl; (try clear hM); replace c1 := eq_true c1; replace c2 := eq_true c2
     go_wp2_with (first | ((with_reducible refine gate_callee (f := 77) rfl ?_); refine goesL_ (some 40) rfl rfl Try.func77 qa12 rfl #[.int .i64 (wrap64 ((wrap64 ((wrap64 (m + 1)) + 1)) + 1))] rfl qa18 ?_; (with_reducible refine (laws_markText.calls k1 (wrap64 ((wrap64 ((wrap64 (m + 1)) + 1)) + 1)) t1_ _ A1_.out).mono ?_); rintro e w1x ⟨rfl, hd_⟩; have HSw1x := qO (wk_below (wk_set (wk_set (wk_set HSwr.out HGd.out HOK.out hd0 qa52 _) HGd.out HOK.out hd1 qa52 _) HGd.out HOK.out hd2 qa52 _) hd_); clear hd_; refine ⟨_, rfl, ?_⟩; obtain ⟨uw1x_0, hxw1x_0⟩ := wk_some HSw1x.out HGd.out hd0; obtain ⟨uw1x_1, hxw1x_1⟩ := wk_some HSw1x.out HGd.out hd1; obtain ⟨uw1x_2, hxw1x_2⟩ := wk_some HSw1x.out HGd.out hd2; obtain ⟨uw1x_3, hxw1x_3⟩ := wk_some HSw1x.out HGd.out hd3; have hfw1x_0 : w1x.frozen? ⟨go, i.toNat * 4, none⟩ = false := wk_froz HSw1x.out HGd.out _; have hfw1x_1 : w1x.frozen? ⟨go, i.toNat * 4 + 1, none⟩ = false := wk_froz HSw1x.out HGd.out _; have hfw1x_2 : w1x.frozen? ⟨go, i.toNat * 4 + 2, none⟩ = false := wk_froz HSw1x.out HGd.out _; have hfw1x_3 : w1x.frozen? ⟨go, i.toNat * 4 + 3, none⟩ = false := wk_froz HSw1x.out HGd.out _))
     go_roundg k1
     case measure => have := HK1.out; omega
     case rel => exact ⟨(wrap64 ((wrap64 ((wrap64 ((wrap64 (m + 1)) + 1)) + 1)) + 1)), wrap64 (i + 1), qa7, qa7, H', ⟨qa37⟩, ⟨(wk_set HSw1x.out HGd.out HOK.out hd3 qa52 _)⟩⟩
    ·rw [if_neg c2] at H
     exact absurd H qa79
   ·rw [if_neg c1] at H
    have c1b := decide_eq_false c1; clear c1; simp only [Option.some.injEq] at H; subst H; go_wp2
    go_ret
    exact ⟨rfl, HSwr.out⟩
theorem laws_markDirS.calls (k : Nat) (P0_ : Nat → Prop) (u9000_ : Value) (l0 : List (S174)) (a1 : Int) (r1 : Int) (w0 w : World) (hB : Below w0.heap.size w0 w) (ho0 : Kd.R (k174) 174 w w0.heap.size P0_ u9000_ l0) (h : laws_markDirS.f k l0 a1 = some r1) :
  Calls Try.prog 129 #[u9000_, .int .i64 a1] w fun e w' => e = .returned (.int .i64 r1) ∧ Below w0.heap.size w0 w' ∧ Kept w w' (fun k_ => P0_ k_) := by
 refine (laws_markDirS.callsW k (fun k_ => P0_ k_ ∧ w0.heap.size ≤ k_) w0.heap.size u9000_ l0 a1 r1 w w (Kd.R_mono (Kd.R_bound ho0) (fun k_ hk_ => ⟨hk_.1, hk_.2.1⟩)) (wk_refl _ _) h).mono ?_; rintro e w' ⟨rfl, hS⟩
 exact ⟨rfl, wk_Below hB hS (fun k_ hk_ => hk_.2) hB.size, hS.2.1.mono (fun k_ hk_ => hk_.1)⟩


def laws_markSelS.l0 : Nat → List (S161) → Int → Int → Option Int
 | 0, _, _, _ => none
 | k + 1, l, m, i => if i < (l.length : Int) then (if 0 ≤ i then ((laws_markText.f k (wrap64 (m + 1))).bind fun t1_ => ((laws_markText.f k (wrap64 ((wrap64 (m + 1)) + 1))).bind fun t2_ => ((laws_markArgS.l0 k (rd_T161 l i).f3 (wrap64 ((wrap64 ((wrap64 (m + 1)) + 1)) + 1)) 0).bind fun t3_ => ((laws_markDirS.l0 k (rd_T161 l i).f4 t3_ 0).bind fun t4_ => ((laws_markSelS.l0 k (rd_T161 l i).f5 t4_ 0).bind fun t5_ => laws_markSelS.l0 k l t5_ (wrap64 (i + 1))))))) else none) else some m
def laws_markSelS.f (k : Nat) (l0 : List (S161)) (a1 : Int) : Option Int := laws_markSelS.l0 k l0 a1 0
set_option maxHeartbeats 8000000 in
set_option maxRecDepth 100000 in
theorem laws_markSelS.callsW (k : Nat) : ∀ (ok : Nat → Prop) (base : Nat) (v : Value) (l : List (S161)) (m r : Int) (d w : World) (hR : Kd.R (k161) 161 d base ok v l) (hS : wk_Sk ok d w) (h : laws_markSelS.l0 k l m 0 = some r),
  Calls Try.prog 111 #[v, .int .i64 m] w fun e w' => e = .returned (.int .i64 r) ∧ wk_Sk ok d w' := by
 induction k using Nat.strongRecOn with
 | _ k ih =>
 intro ok base v l m r d w hR hS h; have hu161 := Try.underlying161; obtain ⟨A0, c0, e0⟩ := Kd.R_slice hR; subst e0; have HR := qO hR; have HS0 := qO hS; have H0' := qO h; clear h hR hS
 go_enter Try.func111, Try.ntmps111
 go_wp2
 go_loopg [1, 5] k (fun kq v1 v5 w' => ∃ (m i : Int), v1 = .int .i64 m ∧ v5 = .int .i64 i ∧ Aside0 (laws_markSelS.l0 kq l m i = some r) ∧ Aside0 (kq ≤ k) ∧ Aside0 (wk_Sk ok d w'))
 case atStart => exact ⟨m, 0, rfl, rfl, H0', ⟨Nat.le_refl _⟩, HS0⟩
 case round =>
  clear H0' HS0; obtain ⟨m, i, rfl, rfl, HA, HK1, HSwr⟩ := hrel
  cases gk with
  | zero => exact absurd HA.out (by simp [laws_markSelS.l0])
  | succ k1 =>
   have H := HA.out; clear HA; simp only [laws_markSelS.l0] at H
   by_cases c1 : i < (l.length : Int)
   ·rw [if_pos c1] at H
    by_cases c2 : 0 ≤ i
    ·rw [if_pos c2] at H
     obtain ⟨xe, hxe⟩ : ∃ xe, xe = rd_T161 l i := ⟨_, rfl⟩; (try rw [← hxe] at H); replace H := Option.bind_eq_some_iff.mp H; obtain ⟨t1_, A1_0, H⟩ := H; have A1_ := qO A1_0; clear A1_0; replace H := Option.bind_eq_some_iff.mp H; obtain ⟨t2_, A2_0, H⟩ := H; have A2_ := qO A2_0; clear A2_0; replace H := Option.bind_eq_some_iff.mp H; obtain ⟨t3_, A3_0, H⟩ := H; have A3_ := qO A3_0; clear A3_0; replace H := Option.bind_eq_some_iff.mp H; obtain ⟨t4_, A4_0, H⟩ := H; have A4_ := qO A4_0; clear A4_0; replace H := Option.bind_eq_some_iff.mp H; obtain ⟨t5_, A5_0, H⟩ := H; have A5_ := qO A5_0; clear A5_0; have H' := qO (show laws_markSelS.l0 k1 l t5_ (wrap64 (i + 1)) = some r from H); clear H; have c1b := decide_eq_true c1; have c2b := decide_eq_true c2; obtain ⟨go, co, eo, gb, gl, cl, HG⟩ := Kd.R_form HR.out qa14; (first | cases eo | (injection eo with ea_ en_ ec_; (first | subst ea_ | (injection ea_ with ea_; subst ea_)); subst ec_; clear en_)); have HOK := qO (HR.out.1 go rfl); have HGd := qO HG; obtain ⟨ce, hcl, hM, hcc, hfr⟩ := Kd.R_elem HR.out z161 i c2 c1; rw [show List.getD l i.toNat z161 = xe from hxe.symm] at hM; clear hxe; obtain ⟨v3_, v4_, v5_, rfl, g3_, g4_, g5_⟩ := k161_openM hM; have hd0 : d.cell? ⟨go, i.toNat * 6, none⟩ = some (.int .i64 (xe.f0)) := hcc 0 _ rfl; have hd1 : d.cell? ⟨go, i.toNat * 6 + 1, none⟩ = some (.string (xe.f1)) := hcc 1 _ rfl; have hd2 : d.cell? ⟨go, i.toNat * 6 + 2, none⟩ = some (.string (xe.f2)) := hcc 2 _ rfl; have hd3 : d.cell? ⟨go, i.toNat * 6 + 3, none⟩ = some (v3_) := hcc 3 _ rfl; have hd4 : d.cell? ⟨go, i.toNat * 6 + 4, none⟩ = some (v4_) := hcc 4 _ rfl; have hd5 : d.cell? ⟨go, i.toNat * 6 + 5, none⟩ = some (v5_) := hcc 5 _ rfl; obtain ⟨Av3, cv3, ev3⟩ := Kd.R_slice g3_; obtain ⟨Av4, cv4, ev4⟩ := Kd.R_slice g4_; obtain ⟨Av5, cv5, ev5⟩ := Kd.R_slice g5_; subst ev3; subst ev4; subst ev5; have HR3 := qO (Kd.R_mono (ok' := ok) g3_ (fun _ hk => hk.1)); have HR4 := qO (Kd.R_mono (ok' := ok) g4_ (fun _ hk => hk.1)); have HR5 := qO (Kd.R_mono (ok' := ok) g5_ (fun _ hk => hk.1)); obtain ⟨uwr_0, hxwr_0⟩ := wk_some HSwr.out HGd.out hd0; obtain ⟨uwr_1, hxwr_1⟩ := wk_some HSwr.out HGd.out hd1; obtain ⟨uwr_2, hxwr_2⟩ := wk_some HSwr.out HGd.out hd2; have hxwr_3 := wk_slice HSwr.out HGd.out hd3; have hxwr_4 := wk_slice HSwr.out HGd.out hd4; have hxwr_5 := wk_slice HSwr.out HGd.out hd5; have hfwr_0 : wr.frozen? ⟨go, i.toNat * 6, none⟩ = false := wk_froz HSwr.out HGd.out _; have hfwr_1 : wr.frozen? ⟨go, i.toNat * 6 + 1, none⟩ = false := wk_froz HSwr.out HGd.out _; have hfwr_2 : wr.frozen? ⟨go, i.toNat * 6 + 2, none⟩ = false := wk_froz HSwr.out HGd.out _; clear hcc hfr hcl HG gb gl g3_ g4_ g5_; (try clear hM); replace c1 := eq_true c1; replace c2 := eq_true c2
     go_wp2_with (first | ((with_reducible refine gate_callee (f := 77) rfl ?_); refine goesL_ (some 22) rfl rfl Try.func77 qa12 rfl #[.int .i64 (wrap64 (m + 1))] rfl qa18 ?_; (with_reducible refine (laws_markText.calls k1 (wrap64 (m + 1)) t1_ _ A1_.out).mono ?_); rintro e w1x ⟨rfl, hd_⟩; have HSw1x := qO (wk_below (wk_set HSwr.out HGd.out HOK.out hd0 qa52 _) hd_); clear hd_; refine ⟨_, rfl, ?_⟩; obtain ⟨uw1x_0, hxw1x_0⟩ := wk_some HSw1x.out HGd.out hd0; obtain ⟨uw1x_1, hxw1x_1⟩ := wk_some HSw1x.out HGd.out hd1; obtain ⟨uw1x_2, hxw1x_2⟩ := wk_some HSw1x.out HGd.out hd2; have hxw1x_3 := wk_slice HSw1x.out HGd.out hd3; have hxw1x_4 := wk_slice HSw1x.out HGd.out hd4; have hxw1x_5 := wk_slice HSw1x.out HGd.out hd5; have hfw1x_0 : w1x.frozen? ⟨go, i.toNat * 6, none⟩ = false := wk_froz HSw1x.out HGd.out _; have hfw1x_1 : w1x.frozen? ⟨go, i.toNat * 6 + 1, none⟩ = false := wk_froz HSw1x.out HGd.out _; have hfw1x_2 : w1x.frozen? ⟨go, i.toNat * 6 + 2, none⟩ = false := wk_froz HSw1x.out HGd.out _) | ((with_reducible refine gate_callee (f := 77) rfl ?_); refine goesL_ (some 30) rfl rfl Try.func77 qa12 rfl #[.int .i64 (wrap64 ((wrap64 (m + 1)) + 1))] rfl qa18 ?_; (with_reducible refine (laws_markText.calls k1 (wrap64 ((wrap64 (m + 1)) + 1)) t2_ _ A2_.out).mono ?_); rintro e w2x ⟨rfl, hd_⟩; have HSw2x := qO (wk_below (wk_set HSw1x.out HGd.out HOK.out hd1 qa52 _) hd_); clear hd_; refine ⟨_, rfl, ?_⟩; obtain ⟨uw2x_0, hxw2x_0⟩ := wk_some HSw2x.out HGd.out hd0; obtain ⟨uw2x_1, hxw2x_1⟩ := wk_some HSw2x.out HGd.out hd1; obtain ⟨uw2x_2, hxw2x_2⟩ := wk_some HSw2x.out HGd.out hd2; have hxw2x_3 := wk_slice HSw2x.out HGd.out hd3; have hxw2x_4 := wk_slice HSw2x.out HGd.out hd4; have hxw2x_5 := wk_slice HSw2x.out HGd.out hd5; have hfw2x_0 : w2x.frozen? ⟨go, i.toNat * 6, none⟩ = false := wk_froz HSw2x.out HGd.out _; have hfw2x_1 : w2x.frozen? ⟨go, i.toNat * 6 + 1, none⟩ = false := wk_froz HSw2x.out HGd.out _; have hfw2x_2 : w2x.frozen? ⟨go, i.toNat * 6 + 2, none⟩ = false := wk_froz HSw2x.out HGd.out _) | ((with_reducible refine gate_callee (f := 128) rfl ?_); refine goesL_ (some 41) rfl rfl Try.func128 qa12 rfl #[.slice Av3 (xe.f3).length cv3, .int .i64 (wrap64 ((wrap64 ((wrap64 (m + 1)) + 1)) + 1))] rfl qa18 ?_; refine ((laws_markArgS.callsW k1) ok base _ _ (wrap64 ((wrap64 ((wrap64 (m + 1)) + 1)) + 1)) t3_ d _ HR3.out (wk_set HSw2x.out HGd.out HOK.out hd2 qa52 _) A3_.out).mono ?_; rintro e w3x ⟨rfl, hS_⟩; have HSw3x := qO hS_; clear hS_; refine ⟨_, rfl, ?_⟩; obtain ⟨uw3x_0, hxw3x_0⟩ := wk_some HSw3x.out HGd.out hd0; obtain ⟨uw3x_1, hxw3x_1⟩ := wk_some HSw3x.out HGd.out hd1; obtain ⟨uw3x_2, hxw3x_2⟩ := wk_some HSw3x.out HGd.out hd2; have hxw3x_3 := wk_slice HSw3x.out HGd.out hd3; have hxw3x_4 := wk_slice HSw3x.out HGd.out hd4; have hxw3x_5 := wk_slice HSw3x.out HGd.out hd5; have hfw3x_0 : w3x.frozen? ⟨go, i.toNat * 6, none⟩ = false := wk_froz HSw3x.out HGd.out _; have hfw3x_1 : w3x.frozen? ⟨go, i.toNat * 6 + 1, none⟩ = false := wk_froz HSw3x.out HGd.out _; have hfw3x_2 : w3x.frozen? ⟨go, i.toNat * 6 + 2, none⟩ = false := wk_froz HSw3x.out HGd.out _) | ((with_reducible refine gate_callee (f := 129) rfl ?_); refine goesL_ (some 48) rfl rfl Try.func129 qa12 rfl #[.slice Av4 (xe.f4).length cv4, .int .i64 t3_] rfl qa18 ?_; refine ((laws_markDirS.callsW k1) ok base _ _ t3_ t4_ d _ HR4.out HSw3x.out A4_.out).mono ?_; rintro e w4x ⟨rfl, hS_⟩; have HSw4x := qO hS_; clear hS_; refine ⟨_, rfl, ?_⟩; obtain ⟨uw4x_0, hxw4x_0⟩ := wk_some HSw4x.out HGd.out hd0; obtain ⟨uw4x_1, hxw4x_1⟩ := wk_some HSw4x.out HGd.out hd1; obtain ⟨uw4x_2, hxw4x_2⟩ := wk_some HSw4x.out HGd.out hd2; have hxw4x_3 := wk_slice HSw4x.out HGd.out hd3; have hxw4x_4 := wk_slice HSw4x.out HGd.out hd4; have hxw4x_5 := wk_slice HSw4x.out HGd.out hd5; have hfw4x_0 : w4x.frozen? ⟨go, i.toNat * 6, none⟩ = false := wk_froz HSw4x.out HGd.out _; have hfw4x_1 : w4x.frozen? ⟨go, i.toNat * 6 + 1, none⟩ = false := wk_froz HSw4x.out HGd.out _; have hfw4x_2 : w4x.frozen? ⟨go, i.toNat * 6 + 2, none⟩ = false := wk_froz HSw4x.out HGd.out _) | ((with_reducible refine gate_callee (f := 111) rfl ?_); refine goesL_ (some 55) rfl rfl Try.func111 qa12 rfl #[.slice Av5 (xe.f5).length cv5, .int .i64 t4_] rfl qa18 ?_; refine ((ih k1 qa37) ok base _ _ t4_ t5_ d _ HR5.out HSw4x.out A5_.out).mono ?_; rintro e w5x ⟨rfl, hS_⟩; have HSw5x := qO hS_; clear hS_; refine ⟨_, rfl, ?_⟩; obtain ⟨uw5x_0, hxw5x_0⟩ := wk_some HSw5x.out HGd.out hd0; obtain ⟨uw5x_1, hxw5x_1⟩ := wk_some HSw5x.out HGd.out hd1; obtain ⟨uw5x_2, hxw5x_2⟩ := wk_some HSw5x.out HGd.out hd2; have hxw5x_3 := wk_slice HSw5x.out HGd.out hd3; have hxw5x_4 := wk_slice HSw5x.out HGd.out hd4; have hxw5x_5 := wk_slice HSw5x.out HGd.out hd5; have hfw5x_0 : w5x.frozen? ⟨go, i.toNat * 6, none⟩ = false := wk_froz HSw5x.out HGd.out _; have hfw5x_1 : w5x.frozen? ⟨go, i.toNat * 6 + 1, none⟩ = false := wk_froz HSw5x.out HGd.out _; have hfw5x_2 : w5x.frozen? ⟨go, i.toNat * 6 + 2, none⟩ = false := wk_froz HSw5x.out HGd.out _))
     go_roundg k1
     case measure => have := HK1.out; omega
     case rel => exact ⟨t5_, wrap64 (i + 1), qa7, qa7, H', ⟨qa37⟩, ⟨HSw5x.out⟩⟩
    ·rw [if_neg c2] at H
     exact absurd H qa79
   ·rw [if_neg c1] at H
    have c1b := decide_eq_false c1; clear c1; simp only [Option.some.injEq] at H; subst H; go_wp2
    go_ret
    exact ⟨rfl, HSwr.out⟩
theorem laws_markSelS.calls (k : Nat) (P0_ : Nat → Prop) (u9000_ : Value) (l0 : List (S161)) (a1 : Int) (r1 : Int) (w0 w : World) (hB : Below w0.heap.size w0 w) (ho0 : Kd.R (k161) 161 w w0.heap.size P0_ u9000_ l0) (h : laws_markSelS.f k l0 a1 = some r1) :
  Calls Try.prog 111 #[u9000_, .int .i64 a1] w fun e w' => e = .returned (.int .i64 r1) ∧ Below w0.heap.size w0 w' ∧ Kept w w' (fun k_ => P0_ k_) := by
 refine (laws_markSelS.callsW k (fun k_ => P0_ k_ ∧ w0.heap.size ≤ k_) w0.heap.size u9000_ l0 a1 r1 w w (Kd.R_mono (Kd.R_bound ho0) (fun k_ hk_ => ⟨hk_.1, hk_.2.1⟩)) (wk_refl _ _) h).mono ?_; rintro e w' ⟨rfl, hS⟩
 exact ⟨rfl, wk_Below hB hS (fun k_ hk_ => hk_.2) hB.size, hS.2.1.mono (fun k_ hk_ => hk_.1)⟩


def laws_markDefS.l0 : Nat → List (S141) → Int → Int → Option Int
 | 0, _, _, _ => none
 | k + 1, l, m, i => if i < (l.length : Int) then (if 0 ≤ i then ((laws_markText.f k (wrap64 (m + 1))).bind fun t1_ => ((laws_markText.f k (wrap64 ((wrap64 (m + 1)) + 1))).bind fun t2_ => ((laws_markSelS.l0 k (rd_T141 l i).f3 (wrap64 ((wrap64 ((wrap64 (m + 1)) + 1)) + 1)) 0).bind fun t3_ => laws_markDefS.l0 k l t3_ (wrap64 (i + 1))))) else none) else some m
def laws_markDefS.f (k : Nat) (l0 : List (S141)) (a1 : Int) : Option Int := laws_markDefS.l0 k l0 a1 0
set_option maxHeartbeats 8000000 in
set_option maxRecDepth 100000 in
theorem laws_markDefS.callsW (k : Nat) : ∀ (ok : Nat → Prop) (base : Nat) (v : Value) (l : List (S141)) (m r : Int) (d w : World) (hR : Kd.R (k141) 141 d base ok v l) (hS : wk_Sk ok d w) (h : laws_markDefS.l0 k l m 0 = some r),
  Calls Try.prog 75 #[v, .int .i64 m] w fun e w' => e = .returned (.int .i64 r) ∧ wk_Sk ok d w' := by
 induction k using Nat.strongRecOn with
 | _ k ih =>
 intro ok base v l m r d w hR hS h; have hu141 := Try.underlying141; obtain ⟨A0, c0, e0⟩ := Kd.R_slice hR; subst e0; have HR := qO hR; have HS0 := qO hS; have H0' := qO h; clear h hR hS
 go_enter Try.func75, Try.ntmps75
 go_wp2
 go_loopg [1, 5] k (fun kq v1 v5 w' => ∃ (m i : Int), v1 = .int .i64 m ∧ v5 = .int .i64 i ∧ Aside0 (laws_markDefS.l0 kq l m i = some r) ∧ Aside0 (kq ≤ k) ∧ Aside0 (wk_Sk ok d w'))
 case atStart => exact ⟨m, 0, rfl, rfl, H0', ⟨Nat.le_refl _⟩, HS0⟩
 case round =>
  clear H0' HS0; obtain ⟨m, i, rfl, rfl, HA, HK1, HSwr⟩ := hrel
  cases gk with
  | zero => exact absurd HA.out (by simp [laws_markDefS.l0])
  | succ k1 =>
   have H := HA.out; clear HA; simp only [laws_markDefS.l0] at H
   by_cases c1 : i < (l.length : Int)
   ·rw [if_pos c1] at H
    by_cases c2 : 0 ≤ i
    ·rw [if_pos c2] at H
     obtain ⟨xe, hxe⟩ : ∃ xe, xe = rd_T141 l i := ⟨_, rfl⟩; (try rw [← hxe] at H); replace H := Option.bind_eq_some_iff.mp H; obtain ⟨t1_, A1_0, H⟩ := H; have A1_ := qO A1_0; clear A1_0; replace H := Option.bind_eq_some_iff.mp H; obtain ⟨t2_, A2_0, H⟩ := H; have A2_ := qO A2_0; clear A2_0; replace H := Option.bind_eq_some_iff.mp H; obtain ⟨t3_, A3_0, H⟩ := H; have A3_ := qO A3_0; clear A3_0; have H' := qO (show laws_markDefS.l0 k1 l t3_ (wrap64 (i + 1)) = some r from H); clear H; have c1b := decide_eq_true c1; have c2b := decide_eq_true c2; obtain ⟨go, co, eo, gb, gl, cl, HG⟩ := Kd.R_form HR.out qa14; (first | cases eo | (injection eo with ea_ en_ ec_; (first | subst ea_ | (injection ea_ with ea_; subst ea_)); subst ec_; clear en_)); have HOK := qO (HR.out.1 go rfl); have HGd := qO HG; obtain ⟨ce, hcl, hM, hcc, hfr⟩ := Kd.R_elem HR.out z141 i c2 c1; rw [show List.getD l i.toNat z141 = xe from hxe.symm] at hM; clear hxe; obtain ⟨v3_, rfl, g3_⟩ := k141_openM hM; have hd0 : d.cell? ⟨go, i.toNat * 4, none⟩ = some (.int .i64 (xe.f0)) := hcc 0 _ rfl; have hd1 : d.cell? ⟨go, i.toNat * 4 + 1, none⟩ = some (.string (xe.f1)) := hcc 1 _ rfl; have hd2 : d.cell? ⟨go, i.toNat * 4 + 2, none⟩ = some (.string (xe.f2)) := hcc 2 _ rfl; have hd3 : d.cell? ⟨go, i.toNat * 4 + 3, none⟩ = some (v3_) := hcc 3 _ rfl; obtain ⟨Av3, cv3, ev3⟩ := Kd.R_slice g3_; subst ev3; have HR3 := qO (Kd.R_mono (ok' := ok) g3_ (fun _ hk => hk.1)); obtain ⟨uwr_0, hxwr_0⟩ := wk_some HSwr.out HGd.out hd0; obtain ⟨uwr_1, hxwr_1⟩ := wk_some HSwr.out HGd.out hd1; obtain ⟨uwr_2, hxwr_2⟩ := wk_some HSwr.out HGd.out hd2; have hxwr_3 := wk_slice HSwr.out HGd.out hd3; have hfwr_0 : wr.frozen? ⟨go, i.toNat * 4, none⟩ = false := wk_froz HSwr.out HGd.out _; have hfwr_1 : wr.frozen? ⟨go, i.toNat * 4 + 1, none⟩ = false := wk_froz HSwr.out HGd.out _; have hfwr_2 : wr.frozen? ⟨go, i.toNat * 4 + 2, none⟩ = false := wk_froz HSwr.out HGd.out _; clear hcc hfr hcl HG gb gl g3_; (try clear hM); replace c1 := eq_true c1; replace c2 := eq_true c2
     go_wp2_with (first | ((with_reducible refine gate_callee (f := 77) rfl ?_); refine goesL_ (some 22) rfl rfl Try.func77 qa12 rfl #[.int .i64 (wrap64 (m + 1))] rfl qa18 ?_; (with_reducible refine (laws_markText.calls k1 (wrap64 (m + 1)) t1_ _ A1_.out).mono ?_); rintro e w1x ⟨rfl, hd_⟩; have HSw1x := qO (wk_below (wk_set HSwr.out HGd.out HOK.out hd0 qa52 _) hd_); clear hd_; refine ⟨_, rfl, ?_⟩; obtain ⟨uw1x_0, hxw1x_0⟩ := wk_some HSw1x.out HGd.out hd0; obtain ⟨uw1x_1, hxw1x_1⟩ := wk_some HSw1x.out HGd.out hd1; obtain ⟨uw1x_2, hxw1x_2⟩ := wk_some HSw1x.out HGd.out hd2; have hxw1x_3 := wk_slice HSw1x.out HGd.out hd3; have hfw1x_0 : w1x.frozen? ⟨go, i.toNat * 4, none⟩ = false := wk_froz HSw1x.out HGd.out _; have hfw1x_1 : w1x.frozen? ⟨go, i.toNat * 4 + 1, none⟩ = false := wk_froz HSw1x.out HGd.out _; have hfw1x_2 : w1x.frozen? ⟨go, i.toNat * 4 + 2, none⟩ = false := wk_froz HSw1x.out HGd.out _) | ((with_reducible refine gate_callee (f := 77) rfl ?_); refine goesL_ (some 30) rfl rfl Try.func77 qa12 rfl #[.int .i64 (wrap64 ((wrap64 (m + 1)) + 1))] rfl qa18 ?_; (with_reducible refine (laws_markText.calls k1 (wrap64 ((wrap64 (m + 1)) + 1)) t2_ _ A2_.out).mono ?_); rintro e w2x ⟨rfl, hd_⟩; have HSw2x := qO (wk_below (wk_set HSw1x.out HGd.out HOK.out hd1 qa52 _) hd_); clear hd_; refine ⟨_, rfl, ?_⟩; obtain ⟨uw2x_0, hxw2x_0⟩ := wk_some HSw2x.out HGd.out hd0; obtain ⟨uw2x_1, hxw2x_1⟩ := wk_some HSw2x.out HGd.out hd1; obtain ⟨uw2x_2, hxw2x_2⟩ := wk_some HSw2x.out HGd.out hd2; have hxw2x_3 := wk_slice HSw2x.out HGd.out hd3; have hfw2x_0 : w2x.frozen? ⟨go, i.toNat * 4, none⟩ = false := wk_froz HSw2x.out HGd.out _; have hfw2x_1 : w2x.frozen? ⟨go, i.toNat * 4 + 1, none⟩ = false := wk_froz HSw2x.out HGd.out _; have hfw2x_2 : w2x.frozen? ⟨go, i.toNat * 4 + 2, none⟩ = false := wk_froz HSw2x.out HGd.out _) | ((with_reducible refine gate_callee (f := 111) rfl ?_); refine goesL_ (some 41) rfl rfl Try.func111 qa12 rfl #[.slice Av3 (xe.f3).length cv3, .int .i64 (wrap64 ((wrap64 ((wrap64 (m + 1)) + 1)) + 1))] rfl qa18 ?_; refine ((laws_markSelS.callsW k1) ok base _ _ (wrap64 ((wrap64 ((wrap64 (m + 1)) + 1)) + 1)) t3_ d _ HR3.out (wk_set HSw2x.out HGd.out HOK.out hd2 qa52 _) A3_.out).mono ?_; rintro e w3x ⟨rfl, hS_⟩; have HSw3x := qO hS_; clear hS_; refine ⟨_, rfl, ?_⟩; obtain ⟨uw3x_0, hxw3x_0⟩ := wk_some HSw3x.out HGd.out hd0; obtain ⟨uw3x_1, hxw3x_1⟩ := wk_some HSw3x.out HGd.out hd1; obtain ⟨uw3x_2, hxw3x_2⟩ := wk_some HSw3x.out HGd.out hd2; have hxw3x_3 := wk_slice HSw3x.out HGd.out hd3; have hfw3x_0 : w3x.frozen? ⟨go, i.toNat * 4, none⟩ = false := wk_froz HSw3x.out HGd.out _; have hfw3x_1 : w3x.frozen? ⟨go, i.toNat * 4 + 1, none⟩ = false := wk_froz HSw3x.out HGd.out _; have hfw3x_2 : w3x.frozen? ⟨go, i.toNat * 4 + 2, none⟩ = false := wk_froz HSw3x.out HGd.out _))
     go_roundg k1
     case measure => have := HK1.out; omega
     case rel => exact ⟨t3_, wrap64 (i + 1), qa7, qa7, H', ⟨qa37⟩, ⟨HSw3x.out⟩⟩
    ·rw [if_neg c2] at H
     exact absurd H qa79
   ·rw [if_neg c1] at H
    have c1b := decide_eq_false c1; clear c1; simp only [Option.some.injEq] at H; subst H; go_wp2
    go_ret
    exact ⟨rfl, HSwr.out⟩
theorem laws_markDefS.calls (k : Nat) (P0_ : Nat → Prop) (u9000_ : Value) (l0 : List (S141)) (a1 : Int) (r1 : Int) (w0 w : World) (hB : Below w0.heap.size w0 w) (ho0 : Kd.R (k141) 141 w w0.heap.size P0_ u9000_ l0) (h : laws_markDefS.f k l0 a1 = some r1) :
  Calls Try.prog 75 #[u9000_, .int .i64 a1] w fun e w' => e = .returned (.int .i64 r1) ∧ Below w0.heap.size w0 w' ∧ Kept w w' (fun k_ => P0_ k_) := by
 refine (laws_markDefS.callsW k (fun k_ => P0_ k_ ∧ w0.heap.size ≤ k_) w0.heap.size u9000_ l0 a1 r1 w w (Kd.R_mono (Kd.R_bound ho0) (fun k_ hk_ => ⟨hk_.1, hk_.2.1⟩)) (wk_refl _ _) h).mono ?_; rintro e w' ⟨rfl, hS⟩
 exact ⟨rfl, wk_Below hB hS (fun k_ hk_ => hk_.2) hB.size, hS.2.1.mono (fun k_ hk_ => hk_.1)⟩


def laws_markBindingS.l0 : Nat → List (S80) → Int → Int → Option Int
 | 0, _, _, _ => none
 | k + 1, l, m, i => if i < (l.length : Int) then (if 0 ≤ i then ((laws_markText.f k m).bind fun t1_ => ((laws_markText.f k (wrap64 ((wrap64 ((wrap64 (m + 1)) + 1)) + 1))).bind fun t2_ => laws_markBindingS.l0 k l (wrap64 ((wrap64 ((wrap64 ((wrap64 (m + 1)) + 1)) + 1)) + 1)) (wrap64 (i + 1)))) else none) else some m
def laws_markBindingS.f (k : Nat) (l0 : List (S80)) (a1 : Int) : Option Int := laws_markBindingS.l0 k l0 a1 0
set_option maxHeartbeats 8000000 in
set_option maxRecDepth 100000 in
theorem laws_markBindingS.callsW (k : Nat) : ∀ (ok : Nat → Prop) (base : Nat) (v : Value) (l : List (S80)) (m r : Int) (d w : World) (hR : Kd.R (k80) 80 d base ok v l) (hS : wk_Sk ok d w) (h : laws_markBindingS.l0 k l m 0 = some r),
  Calls Try.prog 76 #[v, .int .i64 m] w fun e w' => e = .returned (.int .i64 r) ∧ wk_Sk ok d w' := by
 induction k using Nat.strongRecOn with
 | _ k ih =>
 intro ok base v l m r d w hR hS h; have hu32 := Try.underlying32; have hu80 := Try.underlying80; obtain ⟨A0, c0, e0⟩ := Kd.R_slice hR; subst e0; have HR := qO hR; have HS0 := qO hS; have H0' := qO h; clear h hR hS
 go_enter Try.func76, Try.ntmps76
 go_wp2
 go_loopg [1, 5] k (fun kq v1 v5 w' => ∃ (m i : Int), v1 = .int .i64 m ∧ v5 = .int .i64 i ∧ Aside0 (laws_markBindingS.l0 kq l m i = some r) ∧ Aside0 (kq ≤ k) ∧ Aside0 (wk_Sk ok d w'))
 case atStart => exact ⟨m, 0, rfl, rfl, H0', ⟨Nat.le_refl _⟩, HS0⟩
 case round =>
  clear H0' HS0; obtain ⟨m, i, rfl, rfl, HA, HK1, HSwr⟩ := hrel
  cases gk with
  | zero => exact absurd HA.out (by simp [laws_markBindingS.l0])
  | succ k1 =>
   have H := HA.out; clear HA; simp only [laws_markBindingS.l0] at H
   by_cases c1 : i < (l.length : Int)
   ·rw [if_pos c1] at H
    by_cases c2 : 0 ≤ i
    ·rw [if_pos c2] at H
     obtain ⟨xe, hxe⟩ : ∃ xe, xe = rd_T80 l i := ⟨_, rfl⟩; (try rw [← hxe] at H); replace H := Option.bind_eq_some_iff.mp H; obtain ⟨t1_, A1_0, H⟩ := H; have A1_ := qO A1_0; clear A1_0; replace H := Option.bind_eq_some_iff.mp H; obtain ⟨t2_, A2_0, H⟩ := H; have A2_ := qO A2_0; clear A2_0; have H' := qO (show laws_markBindingS.l0 k1 l (wrap64 ((wrap64 ((wrap64 ((wrap64 (m + 1)) + 1)) + 1)) + 1)) (wrap64 (i + 1)) = some r from H); clear H; have c1b := decide_eq_true c1; have c2b := decide_eq_true c2; obtain ⟨go, co, eo, gb, gl, cl, HG⟩ := Kd.R_form HR.out qa14; (first | cases eo | (injection eo with ea_ en_ ec_; (first | subst ea_ | (injection ea_ with ea_; subst ea_)); subst ec_; clear en_)); have HOK := qO (HR.out.1 go rfl); have HGd := qO HG; obtain ⟨ce, hcl, hM, hcc, hfr⟩ := Kd.R_elem HR.out z80 i c2 c1; rw [show List.getD l i.toNat z80 = xe from hxe.symm] at hM; clear hxe; obtain rfl := k80_openM hM; have hd0 : d.cell? ⟨go, i.toNat * 4, none⟩ = some (.string (xe.f0)) := hcc 0 _ rfl; have hd1 : d.cell? ⟨go, i.toNat * 4 + 1, none⟩ = some (.int .i64 (xe.f1.f0)) := hcc 1 _ rfl; have hd2 : d.cell? ⟨go, i.toNat * 4 + 2, none⟩ = some (.int .i64 (xe.f1.f1)) := hcc 2 _ rfl; have hd3 : d.cell? ⟨go, i.toNat * 4 + 3, none⟩ = some (.string (xe.f1.f2)) := hcc 3 _ rfl
     
     obtain ⟨uwr_0, hxwr_0⟩ := wk_some HSwr.out HGd.out hd0; obtain ⟨uwr_1, hxwr_1⟩ := wk_some HSwr.out HGd.out hd1; obtain ⟨uwr_2, hxwr_2⟩ := wk_some HSwr.out HGd.out hd2; obtain ⟨uwr_3, hxwr_3⟩ := wk_some HSwr.out HGd.out hd3; have hfwr_0 : wr.frozen? ⟨go, i.toNat * 4, none⟩ = false := wk_froz HSwr.out HGd.out _; have hfwr_1 : wr.frozen? ⟨go, i.toNat * 4 + 1, none⟩ = false := wk_froz HSwr.out HGd.out _; have hfwr_2 : wr.frozen? ⟨go, i.toNat * 4 + 2, none⟩ = false := wk_froz HSwr.out HGd.out _; have hfwr_3 : wr.frozen? ⟨go, i.toNat * 4 + 3, none⟩ = false := wk_froz HSwr.out HGd.out _; clear hcc hfr hcl HG gb gl; (try clear hM); replace c1 := eq_true c1; replace c2 := eq_true c2
     go_wp2_with (first | ((with_reducible refine gate_callee (f := 77) rfl ?_); refine goesL_ (some 15) rfl rfl Try.func77 qa12 rfl #[.int .i64 m] rfl qa18 ?_; (with_reducible refine (laws_markText.calls k1 m t1_ _ A1_.out).mono ?_); rintro e w1x ⟨rfl, hd_⟩; have HSw1x := qO (wk_below HSwr.out hd_); clear hd_; refine ⟨_, rfl, ?_⟩; obtain ⟨uw1x_0, hxw1x_0⟩ := wk_some HSw1x.out HGd.out hd0; obtain ⟨uw1x_1, hxw1x_1⟩ := wk_some HSw1x.out HGd.out hd1; obtain ⟨uw1x_2, hxw1x_2⟩ := wk_some HSw1x.out HGd.out hd2; obtain ⟨uw1x_3, hxw1x_3⟩ := wk_some HSw1x.out HGd.out hd3; have hfw1x_0 : w1x.frozen? ⟨go, i.toNat * 4, none⟩ = false := wk_froz HSw1x.out HGd.out _; have hfw1x_1 : w1x.frozen? ⟨go, i.toNat * 4 + 1, none⟩ = false := wk_froz HSw1x.out HGd.out _; have hfw1x_2 : w1x.frozen? ⟨go, i.toNat * 4 + 2, none⟩ = false := wk_froz HSw1x.out HGd.out _; have hfw1x_3 : w1x.frozen? ⟨go, i.toNat * 4 + 3, none⟩ = false := wk_froz HSw1x.out HGd.out _) | ((with_reducible refine gate_callee (f := 77) rfl ?_); refine goesL_ (some 39) rfl rfl Try.func77 qa12 rfl #[.int .i64 (wrap64 ((wrap64 ((wrap64 (m + 1)) + 1)) + 1))] rfl qa18 ?_; (with_reducible refine (laws_markText.calls k1 (wrap64 ((wrap64 ((wrap64 (m + 1)) + 1)) + 1)) t2_ _ A2_.out).mono ?_); rintro e w2x ⟨rfl, hd_⟩; have HSw2x := qO (wk_below (wk_set (wk_set (wk_set HSw1x.out HGd.out HOK.out hd0 qa52 _) HGd.out HOK.out hd1 qa52 _) HGd.out HOK.out hd2 qa52 _) hd_); clear hd_; refine ⟨_, rfl, ?_⟩; obtain ⟨uw2x_0, hxw2x_0⟩ := wk_some HSw2x.out HGd.out hd0; obtain ⟨uw2x_1, hxw2x_1⟩ := wk_some HSw2x.out HGd.out hd1; obtain ⟨uw2x_2, hxw2x_2⟩ := wk_some HSw2x.out HGd.out hd2; obtain ⟨uw2x_3, hxw2x_3⟩ := wk_some HSw2x.out HGd.out hd3; have hfw2x_0 : w2x.frozen? ⟨go, i.toNat * 4, none⟩ = false := wk_froz HSw2x.out HGd.out _; have hfw2x_1 : w2x.frozen? ⟨go, i.toNat * 4 + 1, none⟩ = false := wk_froz HSw2x.out HGd.out _; have hfw2x_2 : w2x.frozen? ⟨go, i.toNat * 4 + 2, none⟩ = false := wk_froz HSw2x.out HGd.out _; have hfw2x_3 : w2x.frozen? ⟨go, i.toNat * 4 + 3, none⟩ = false := wk_froz HSw2x.out HGd.out _))
     go_roundg k1
     case measure => have := HK1.out; omega
     case rel => exact ⟨(wrap64 ((wrap64 ((wrap64 ((wrap64 (m + 1)) + 1)) + 1)) + 1)), wrap64 (i + 1), qa7, qa7, H', ⟨qa37⟩, ⟨(wk_set HSw2x.out HGd.out HOK.out hd3 qa52 _)⟩⟩
    ·rw [if_neg c2] at H
     exact absurd H qa79
   ·rw [if_neg c1] at H
    have c1b := decide_eq_false c1; clear c1; simp only [Option.some.injEq] at H; subst H; go_wp2
    go_ret
    exact ⟨rfl, HSwr.out⟩
theorem laws_markBindingS.calls (k : Nat) (P0_ : Nat → Prop) (u9000_ : Value) (l0 : List (S80)) (a1 : Int) (r1 : Int) (w0 w : World) (hB : Below w0.heap.size w0 w) (ho0 : Kd.R (k80) 80 w w0.heap.size P0_ u9000_ l0) (h : laws_markBindingS.f k l0 a1 = some r1) :
  Calls Try.prog 76 #[u9000_, .int .i64 a1] w fun e w' => e = .returned (.int .i64 r1) ∧ Below w0.heap.size w0 w' ∧ Kept w w' (fun k_ => P0_ k_) := by
 refine (laws_markBindingS.callsW k (fun k_ => P0_ k_ ∧ w0.heap.size ≤ k_) w0.heap.size u9000_ l0 a1 r1 w w (Kd.R_mono (Kd.R_bound ho0) (fun k_ hk_ => ⟨hk_.1, hk_.2.1⟩)) (wk_refl _ _) h).mono ?_; rintro e w' ⟨rfl, hS⟩
 exact ⟨rfl, wk_Below hB hS (fun k_ hk_ => hk_.2) hB.size, hS.2.1.mono (fun k_ hk_ => hk_.1)⟩


def laws_markDoneS.l0 : Nat → List (S115) → Int → Int → Option Int
 | 0, _, _, _ => none
 | k + 1, l, m, i => if i < (l.length : Int) then (if 0 ≤ i then ((laws_markDefS.l0 k (rd_T115 l i).f5.f0.f0 (wrap64 ((wrap64 ((wrap64 ((wrap64 ((wrap64 (m + 1)) + 1)) + 1)) + 1)) + 1)) 0).bind fun t1_ => ((laws_markBindingS.l0 k (rd_T115 l i).f5.f1 t1_ 0).bind fun t2_ => ((laws_markText.f k t2_).bind fun t3_ => laws_markDoneS.l0 k l (wrap64 (t2_ + 1)) (wrap64 (i + 1))))) else none) else some m
def laws_markDoneS.f (k : Nat) (l0 : List (S115)) (a1 : Int) : Option Int := laws_markDoneS.l0 k l0 a1 0
set_option maxHeartbeats 8000000 in
set_option maxRecDepth 100000 in
theorem laws_markDoneS.callsW (k : Nat) : ∀ (ok : Nat → Prop) (base : Nat) (v : Value) (l : List (S115)) (m r : Int) (d w : World) (hR : Kd.R (k115) 115 d base ok v l) (hS : wk_Sk ok d w) (h : laws_markDoneS.l0 k l m 0 = some r),
  Calls Try.prog 34 #[v, .int .i64 m] w fun e w' => e = .returned (.int .i64 r) ∧ wk_Sk ok d w' := by
 induction k using Nat.strongRecOn with
 | _ k ih =>
 intro ok base v l m r d w hR hS h; have hu111 := Try.underlying111; have hu113 := Try.underlying113; have hu115 := Try.underlying115; obtain ⟨A0, c0, e0⟩ := Kd.R_slice hR; subst e0; have HR := qO hR; have HS0 := qO hS; have H0' := qO h; clear h hR hS
 go_enter Try.func34, Try.ntmps34
 go_wp2
 go_loopg [1, 5] k (fun kq v1 v5 w' => ∃ (m i : Int), v1 = .int .i64 m ∧ v5 = .int .i64 i ∧ Aside0 (laws_markDoneS.l0 kq l m i = some r) ∧ Aside0 (kq ≤ k) ∧ Aside0 (wk_Sk ok d w'))
 case atStart => exact ⟨m, 0, rfl, rfl, H0', ⟨Nat.le_refl _⟩, HS0⟩
 case round =>
  clear H0' HS0; obtain ⟨m, i, rfl, rfl, HA, HK1, HSwr⟩ := hrel
  cases gk with
  | zero => exact absurd HA.out (by simp [laws_markDoneS.l0])
  | succ k1 =>
   have H := HA.out; clear HA; simp only [laws_markDoneS.l0] at H
   by_cases c1 : i < (l.length : Int)
   ·rw [if_pos c1] at H
    by_cases c2 : 0 ≤ i
    ·rw [if_pos c2] at H
     obtain ⟨xe, hxe⟩ : ∃ xe, xe = rd_T115 l i := ⟨_, rfl⟩; (try rw [← hxe] at H); replace H := Option.bind_eq_some_iff.mp H; obtain ⟨t1_, A1_0, H⟩ := H; have A1_ := qO A1_0; clear A1_0; replace H := Option.bind_eq_some_iff.mp H; obtain ⟨t2_, A2_0, H⟩ := H; have A2_ := qO A2_0; clear A2_0; replace H := Option.bind_eq_some_iff.mp H; obtain ⟨t3_, A3_0, H⟩ := H; have A3_ := qO A3_0; clear A3_0; have H' := qO (show laws_markDoneS.l0 k1 l (wrap64 (t2_ + 1)) (wrap64 (i + 1)) = some r from H); clear H; have c1b := decide_eq_true c1; have c2b := decide_eq_true c2; obtain ⟨go, co, eo, gb, gl, cl, HG⟩ := Kd.R_form HR.out qa14; (first | cases eo | (injection eo with ea_ en_ ec_; (first | subst ea_ | (injection ea_ with ea_; subst ea_)); subst ec_; clear en_)); have HOK := qO (HR.out.1 go rfl); have HGd := qO HG; obtain ⟨ce, hcl, hM, hcc, hfr⟩ := Kd.R_elem HR.out z115 i c2 c1; rw [show List.getD l i.toNat z115 = xe from hxe.symm] at hM; clear hxe; obtain ⟨v5_, v6_, rfl, g5_, g6_⟩ := k115_openM hM; have hd0 : d.cell? ⟨go, i.toNat * 8, none⟩ = some (.int .i64 (xe.f0)) := hcc 0 _ rfl; have hd1 : d.cell? ⟨go, i.toNat * 8 + 1, none⟩ = some (.int .i64 (xe.f1)) := hcc 1 _ rfl; have hd2 : d.cell? ⟨go, i.toNat * 8 + 2, none⟩ = some (.int .i64 (xe.f2)) := hcc 2 _ rfl; have hd3 : d.cell? ⟨go, i.toNat * 8 + 3, none⟩ = some (.int .i64 (xe.f3)) := hcc 3 _ rfl; have hd4 : d.cell? ⟨go, i.toNat * 8 + 4, none⟩ = some (.bool (xe.f4)) := hcc 4 _ rfl; have hd5 : d.cell? ⟨go, i.toNat * 8 + 5, none⟩ = some (v5_) := hcc 5 _ rfl; have hd6 : d.cell? ⟨go, i.toNat * 8 + 6, none⟩ = some (v6_) := hcc 6 _ rfl; have hd7 : d.cell? ⟨go, i.toNat * 8 + 7, none⟩ = some (.string (xe.f6)) := hcc 7 _ rfl; obtain ⟨Av5, cv5, ev5⟩ := Kd.R_slice g5_; obtain ⟨Av6, cv6, ev6⟩ := Kd.R_slice g6_; subst ev5; subst ev6; have HR5 := qO (Kd.R_mono (ok' := ok) g5_ (fun _ hk => hk.1)); have HR6 := qO (Kd.R_mono (ok' := ok) g6_ (fun _ hk => hk.1)); obtain ⟨uwr_0, hxwr_0⟩ := wk_some HSwr.out HGd.out hd0; obtain ⟨uwr_1, hxwr_1⟩ := wk_some HSwr.out HGd.out hd1; obtain ⟨uwr_2, hxwr_2⟩ := wk_some HSwr.out HGd.out hd2; obtain ⟨uwr_3, hxwr_3⟩ := wk_some HSwr.out HGd.out hd3; obtain ⟨uwr_4, hxwr_4⟩ := wk_some HSwr.out HGd.out hd4; have hxwr_5 := wk_slice HSwr.out HGd.out hd5; have hxwr_6 := wk_slice HSwr.out HGd.out hd6; obtain ⟨uwr_7, hxwr_7⟩ := wk_some HSwr.out HGd.out hd7; have hfwr_0 : wr.frozen? ⟨go, i.toNat * 8, none⟩ = false := wk_froz HSwr.out HGd.out _; have hfwr_1 : wr.frozen? ⟨go, i.toNat * 8 + 1, none⟩ = false := wk_froz HSwr.out HGd.out _; have hfwr_2 : wr.frozen? ⟨go, i.toNat * 8 + 2, none⟩ = false := wk_froz HSwr.out HGd.out _; have hfwr_3 : wr.frozen? ⟨go, i.toNat * 8 + 3, none⟩ = false := wk_froz HSwr.out HGd.out _; have hfwr_4 : wr.frozen? ⟨go, i.toNat * 8 + 4, none⟩ = false := wk_froz HSwr.out HGd.out _; have hfwr_7 : wr.frozen? ⟨go, i.toNat * 8 + 7, none⟩ = false := wk_froz HSwr.out HGd.out _; clear hcc hfr hcl HG gb gl g5_ g6_; (try clear hM); replace c1 := eq_true c1; replace c2 := eq_true c2
     go_wp2_with (first | ((with_reducible refine gate_callee (f := 75) rfl ?_); refine goesL_ (some 57) rfl rfl Try.func75 qa12 rfl #[.slice Av5 (xe.f5.f0.f0).length cv5, .int .i64 (wrap64 ((wrap64 ((wrap64 ((wrap64 ((wrap64 (m + 1)) + 1)) + 1)) + 1)) + 1))] rfl qa18 ?_; refine ((laws_markDefS.callsW k1) ok base _ _ (wrap64 ((wrap64 ((wrap64 ((wrap64 ((wrap64 (m + 1)) + 1)) + 1)) + 1)) + 1)) t1_ d _ HR5.out (wk_set (wk_set (wk_set (wk_set (wk_set HSwr.out HGd.out HOK.out hd0 qa52 _) HGd.out HOK.out hd1 qa52 _) HGd.out HOK.out hd2 qa52 _) HGd.out HOK.out hd3 qa52 _) HGd.out HOK.out hd4 qa52 _) A1_.out).mono ?_; rintro e w1x ⟨rfl, hS_⟩; have HSw1x := qO hS_; clear hS_; refine ⟨_, rfl, ?_⟩; obtain ⟨uw1x_0, hxw1x_0⟩ := wk_some HSw1x.out HGd.out hd0; obtain ⟨uw1x_1, hxw1x_1⟩ := wk_some HSw1x.out HGd.out hd1; obtain ⟨uw1x_2, hxw1x_2⟩ := wk_some HSw1x.out HGd.out hd2; obtain ⟨uw1x_3, hxw1x_3⟩ := wk_some HSw1x.out HGd.out hd3; obtain ⟨uw1x_4, hxw1x_4⟩ := wk_some HSw1x.out HGd.out hd4; have hxw1x_5 := wk_slice HSw1x.out HGd.out hd5; have hxw1x_6 := wk_slice HSw1x.out HGd.out hd6; obtain ⟨uw1x_7, hxw1x_7⟩ := wk_some HSw1x.out HGd.out hd7; have hfw1x_0 : w1x.frozen? ⟨go, i.toNat * 8, none⟩ = false := wk_froz HSw1x.out HGd.out _; have hfw1x_1 : w1x.frozen? ⟨go, i.toNat * 8 + 1, none⟩ = false := wk_froz HSw1x.out HGd.out _; have hfw1x_2 : w1x.frozen? ⟨go, i.toNat * 8 + 2, none⟩ = false := wk_froz HSw1x.out HGd.out _; have hfw1x_3 : w1x.frozen? ⟨go, i.toNat * 8 + 3, none⟩ = false := wk_froz HSw1x.out HGd.out _; have hfw1x_4 : w1x.frozen? ⟨go, i.toNat * 8 + 4, none⟩ = false := wk_froz HSw1x.out HGd.out _; have hfw1x_7 : w1x.frozen? ⟨go, i.toNat * 8 + 7, none⟩ = false := wk_froz HSw1x.out HGd.out _) | ((with_reducible refine gate_callee (f := 76) rfl ?_); refine goesL_ (some 65) rfl rfl Try.func76 qa12 rfl #[.slice Av6 (xe.f5.f1).length cv6, .int .i64 t1_] rfl qa18 ?_; refine ((laws_markBindingS.callsW k1) ok base _ _ t1_ t2_ d _ HR6.out HSw1x.out A2_.out).mono ?_; rintro e w2x ⟨rfl, hS_⟩; have HSw2x := qO hS_; clear hS_; refine ⟨_, rfl, ?_⟩; obtain ⟨uw2x_0, hxw2x_0⟩ := wk_some HSw2x.out HGd.out hd0; obtain ⟨uw2x_1, hxw2x_1⟩ := wk_some HSw2x.out HGd.out hd1; obtain ⟨uw2x_2, hxw2x_2⟩ := wk_some HSw2x.out HGd.out hd2; obtain ⟨uw2x_3, hxw2x_3⟩ := wk_some HSw2x.out HGd.out hd3; obtain ⟨uw2x_4, hxw2x_4⟩ := wk_some HSw2x.out HGd.out hd4; have hxw2x_5 := wk_slice HSw2x.out HGd.out hd5; have hxw2x_6 := wk_slice HSw2x.out HGd.out hd6; obtain ⟨uw2x_7, hxw2x_7⟩ := wk_some HSw2x.out HGd.out hd7; have hfw2x_0 : w2x.frozen? ⟨go, i.toNat * 8, none⟩ = false := wk_froz HSw2x.out HGd.out _; have hfw2x_1 : w2x.frozen? ⟨go, i.toNat * 8 + 1, none⟩ = false := wk_froz HSw2x.out HGd.out _; have hfw2x_2 : w2x.frozen? ⟨go, i.toNat * 8 + 2, none⟩ = false := wk_froz HSw2x.out HGd.out _; have hfw2x_3 : w2x.frozen? ⟨go, i.toNat * 8 + 3, none⟩ = false := wk_froz HSw2x.out HGd.out _; have hfw2x_4 : w2x.frozen? ⟨go, i.toNat * 8 + 4, none⟩ = false := wk_froz HSw2x.out HGd.out _; have hfw2x_7 : w2x.frozen? ⟨go, i.toNat * 8 + 7, none⟩ = false := wk_froz HSw2x.out HGd.out _) | ((with_reducible refine gate_callee (f := 77) rfl ?_); refine goesL_ (some 69) rfl rfl Try.func77 qa12 rfl #[.int .i64 t2_] rfl qa18 ?_; (with_reducible refine (laws_markText.calls k1 t2_ t3_ _ A3_.out).mono ?_); rintro e w3x ⟨rfl, hd_⟩; have HSw3x := qO (wk_below HSw2x.out hd_); clear hd_; refine ⟨_, rfl, ?_⟩; obtain ⟨uw3x_0, hxw3x_0⟩ := wk_some HSw3x.out HGd.out hd0; obtain ⟨uw3x_1, hxw3x_1⟩ := wk_some HSw3x.out HGd.out hd1; obtain ⟨uw3x_2, hxw3x_2⟩ := wk_some HSw3x.out HGd.out hd2; obtain ⟨uw3x_3, hxw3x_3⟩ := wk_some HSw3x.out HGd.out hd3; obtain ⟨uw3x_4, hxw3x_4⟩ := wk_some HSw3x.out HGd.out hd4; have hxw3x_5 := wk_slice HSw3x.out HGd.out hd5; have hxw3x_6 := wk_slice HSw3x.out HGd.out hd6; obtain ⟨uw3x_7, hxw3x_7⟩ := wk_some HSw3x.out HGd.out hd7; have hfw3x_0 : w3x.frozen? ⟨go, i.toNat * 8, none⟩ = false := wk_froz HSw3x.out HGd.out _; have hfw3x_1 : w3x.frozen? ⟨go, i.toNat * 8 + 1, none⟩ = false := wk_froz HSw3x.out HGd.out _; have hfw3x_2 : w3x.frozen? ⟨go, i.toNat * 8 + 2, none⟩ = false := wk_froz HSw3x.out HGd.out _; have hfw3x_3 : w3x.frozen? ⟨go, i.toNat * 8 + 3, none⟩ = false := wk_froz HSw3x.out HGd.out _; have hfw3x_4 : w3x.frozen? ⟨go, i.toNat * 8 + 4, none⟩ = false := wk_froz HSw3x.out HGd.out _; have hfw3x_7 : w3x.frozen? ⟨go, i.toNat * 8 + 7, none⟩ = false := wk_froz HSw3x.out HGd.out _))
     go_roundg k1
     case measure => have := HK1.out; omega
     case rel => exact ⟨(wrap64 (t2_ + 1)), wrap64 (i + 1), qa7, qa7, H', ⟨qa37⟩, ⟨(wk_set HSw3x.out HGd.out HOK.out hd7 qa52 _)⟩⟩
    ·rw [if_neg c2] at H
     exact absurd H qa79
   ·rw [if_neg c1] at H
    have c1b := decide_eq_false c1; clear c1; simp only [Option.some.injEq] at H; subst H; go_wp2
    go_ret
    exact ⟨rfl, HSwr.out⟩
theorem laws_markDoneS.calls (k : Nat) (P0_ : Nat → Prop) (u9000_ : Value) (l0 : List (S115)) (a1 : Int) (r1 : Int) (w0 w : World) (hB : Below w0.heap.size w0 w) (ho0 : Kd.R (k115) 115 w w0.heap.size P0_ u9000_ l0) (h : laws_markDoneS.f k l0 a1 = some r1) :
  Calls Try.prog 34 #[u9000_, .int .i64 a1] w fun e w' => e = .returned (.int .i64 r1) ∧ Below w0.heap.size w0 w' ∧ Kept w w' (fun k_ => P0_ k_) := by
 refine (laws_markDoneS.callsW k (fun k_ => P0_ k_ ∧ w0.heap.size ≤ k_) w0.heap.size u9000_ l0 a1 r1 w w (Kd.R_mono (Kd.R_bound ho0) (fun k_ hk_ => ⟨hk_.1, hk_.2.1⟩)) (wk_refl _ _) h).mono ?_; rintro e w' ⟨rfl, hS⟩
 exact ⟨rfl, wk_Below hB hS (fun k_ hk_ => hk_.2) hB.size, hS.2.1.mono (fun k_ hk_ => hk_.1)⟩


def laws_markIntS.l0 : Nat → List Int → Int → Int → Option (Int × List Int)
 | 0, _, _, _ => none
 | k + 1, x0, x1, x5 => if x5 < (x0.length : Int) then (if 0 ≤ x5 then (laws_markIntS.l0 k (x0.set (x5 : Int).toNat x1) (wrap64 (x1 + 1)) (wrap64 (x5 + 1))) else (none)) else (some (x1, x0))
def laws_markIntS.f (k : Nat) (l0 : List Int) (a1 : Int) : Option (Int × List Int) := laws_markIntS.l0 k l0 a1 0
set_option maxHeartbeats 8000000 in
set_option maxRecDepth 100000 in
theorem laws_markIntS.calls (k : Nat) (P0_ : Nat → Prop) (u9000_ : Value) (l0 : List Int) (a1 : Int) (r1 : Int) (r2 : List Int) (w0 w : World) (hB : Below w0.heap.size w0 w) (ho0 : Kd.R (Kd.int .i64) 3 w w0.heap.size P0_ u9000_ l0) (h : laws_markIntS.f k l0 a1 = some (r1, r2)) :
  Calls Try.prog 35 #[u9000_, .int .i64 a1] w fun e w' => e = .returned (.int .i64 r1) ∧ Kd.R (Kd.int .i64) 3 w' w0.heap.size (fun k_ => (P0_ k_ ∨ w.heap.size ≤ k_)) u9000_ r2 ∧ Below w0.heap.size w0 w' ∧ Kept w w' (fun k_ => P0_ k_) := by
 have HO0 := qO (show Kd.R (Kd.int .i64) 3 w w0.heap.size (fun k_ => (P0_ k_ ∨ w.heap.size ≤ k_)) u9000_ l0 from Kd.R_mono ho0 (fun k_ hk => (.inl hk))); have HK := qO (Kept.refl w (fun k_ => P0_ k_)); have HW0 := qO hB.size; have HB := qO hB; clear hB; have H : (laws_markIntS.l0 k l0 a1 0) = some (r1, r2) := h; clear h; have H' := qO H; clear H
 go_enter Try.func35, Try.ntmps35
 go_wp2
 go_loopg [1, 5] k (fun kq v1 v5 w' => ∃ (x0_1 : List Int) (x1_1 : Int) (x5_1 : Int), v1 = .int .i64 x1_1 ∧ v5 = .int .i64 x5_1 ∧ Aside0 (laws_markIntS.l0 kq x0_1 x1_1 x5_1 = some (r1, r2)) ∧ Aside0 (kq ≤ k) ∧ Aside0 (Kd.R (Kd.int .i64) 3 w' w0.heap.size (fun k_ => (P0_ k_ ∨ w.heap.size ≤ k_)) u9000_ x0_1) ∧ Aside0 (Kept w w' (fun k_ => P0_ k_)) ∧ Aside0 (Below w0.heap.size w0 w'))
 case atStart => exact ⟨(l0), (a1), (0), qa7, qa7, H', ⟨Nat.le_refl _⟩, ⟨by (with_reducible repeat (first | apply Kd.R_alloc | apply Kd.R_drewN | apply Kd.R_drew)); exact HO0.out⟩, ⟨qa64⟩, ⟨qa2⟩⟩
 case round =>
  clear H'
  try clear p2
  obtain ⟨x0_1, x1_1, x5_1, rfl, rfl, HA, HK1, HO_0, HK, HB⟩ := hrel
  cases gk with
  | zero => exact absurd HA.out (by simp [laws_markIntS.l0])
  | succ k1 =>
   have H := HA.out; clear HA; simp only [laws_markIntS.l0] at H
   by_cases c3 : x5_1 < (x0_1.length : Int)
   ·rw [if_pos c3] at H
    have c3b0 : decide (x5_1 < (x0_1.length : Int)) = true := decide_eq_true c3; clear c3
    by_cases c4 : 0 ≤ x5_1
    ·rw [if_pos c4] at H
     have c4b0 : decide (0 ≤ x5_1) = true := decide_eq_true c4; clear c4; obtain ⟨y101, hy101⟩ : ∃ y_ : List Int, y_ = (x0_1.set (x5_1 : Int).toNat x1_1) := ⟨_, rfl⟩; replace H : (laws_markIntS.l0 k1 y101 (wrap64 (x1_1 + 1)) (wrap64 (x5_1 + 1))) = some (r1, r2) := by first | (rw [hy101]; with_reducible exact H) | (have H2_ := (Option.bind_some _ _).symm.trans H; rw [hy101]; with_reducible exact H2_) | (have H2_ := (Option.bind_some _ _).symm.trans H; with_reducible exact H2_) | with_reducible exact H | (rw [hy101]; exact H) | exact H
     have Ny101 := qO hy101; clear hy101; have H' := qO H; clear H; obtain ⟨Ao6, co6, eo6⟩ := Kd.R_slice HO_0.out; subst eo6; have p5 : 0 ≤ (x5_1 : Int) := qT qa4; have q5 : (x5_1 : Int) < ((x0_1.length : Int) : Int) := qT qa4; obtain ⟨go5, co5, eo5, gb5, gl5, cl5, HG5⟩ := Kd.R_form HO_0.out qa14; (first | cases eo5 | (injection eo5 with ea_ en_ ec_; (first | subst ea_ | (injection ea_ with ea_; subst ea_)); subst ec_; clear en_)); have GB5 := qO gb5; have GG5 := qO HG5; clear gb5 gl5 HG5; have HMgo5 := qO (show (P0_ go5 ∨ w.heap.size ≤ go5) from (HO_0.out.1 _ rfl)); obtain ⟨hx5_0, hf5_0⟩ := Kd.R_celln 0 HO_0.out (x5_1 : Int) p5 q5; replace p5 := eq_true p5; replace q5 := eq_true q5; have HP7 := Kd.R_putg HO_0.out (x5_1 : Int) x1_1
     go_wp2_with (first | ((with_reducible refine gate_store (t := 3) (p := 15) rfl ?_); refine store_event (t := 3) (p := 15) (v := ?vo_w8) (w1 := (wr.setCell ⟨go5, (x5_1 : Int).toNat, none⟩ (.int .i64 x1_1))) ?hg ?ho ?hn ?hr ?_; (case ho => rfl); (case hg => rfl); (case hn => rfl); (case hr => exact qa10); intro w8 hw; have hg : wr.grownBy w8 (some go5) := (by rw [hw]; exact HP7.2); have hp_ : Kd.R (Kd.int .i64) 3 w8 w0.heap.size (fun k_ => (P0_ k_ ∨ w.heap.size ≤ k_)) (.slice (some ⟨go5, 0, none⟩) x0_1.length co6) y101 := (by rw [hw, Ny101.out]; exact HP7.1); clear HP7; have n0_ := qO (hp_); have n1_ := qO ((by rw [hw]; exact qbS (HB.out) GB5.out : Below w0.heap.size w0 w8)); have n2_ := qO (Kept.of_grown (S := (fun k_ => P0_ k_)) hg qa64 (fun k_ e_ => (HO_0.out.1 k_ e_))); clear HO_0; clear HB; clear HK; have HO_0 := n0_; have HB := n1_; have HK := n2_; clear n0_ n1_ n2_; clear hg hw hp_))
     go_roundg k1
     case measure => have := HK1.out; omega
     case rel => exact ⟨(y101), (wrap64 (x1_1 + 1)), (wrap64 (x5_1 + 1)), qa7, qa7, H', ⟨qa37⟩, ⟨qa95⟩, ⟨qa64⟩, ⟨qa2⟩⟩
    ·rw [if_neg c4] at H
     exact absurd H qa79
   ·rw [if_neg c3] at H
    have c3b0 : decide (x5_1 < (x0_1.length : Int)) = false := decide_eq_false c3; clear c3; simp only [Option.some.injEq, Prod.mk.injEq] at H; obtain ⟨rfl, rfl⟩ := H; obtain ⟨Ao9, co9, eo9⟩ := Kd.R_slice HO_0.out; subst eo9; go_wp2
    go_ret
    exact ⟨qa3, qa95, qa2, qa64⟩


def laws_heldIntS.l0 : Nat → List Int → Int → Int → Option (Int)
 | 0, _, _, _ => none
 | k + 1, x0, x1, x5 => if x5 < (x0.length : Int) then (if 0 ≤ x5 then (if (rd x0 x5) = x1 then (laws_heldIntS.l0 k x0 (wrap64 (x1 + 1)) (wrap64 (x5 + 1))) else (some (-1))) else (none)) else (some x1)
def laws_heldIntS.f (k : Nat) (l0 : List Int) (a1 : Int) : Option (Int) := laws_heldIntS.l0 k l0 a1 0
set_option maxHeartbeats 8000000 in
set_option maxRecDepth 100000 in
theorem laws_heldIntS.calls (k : Nat) (A0 : Option Addr) (c0 : Nat) (l0 : List Int) (a1 : Int) (r : Int) (w : World) (hr0 : Kd.C (Kd.int .i64) w A0 l0.length l0) (hc0 : l0.length ≤ c0) (h : laws_heldIntS.f k l0 a1 = some r) :
  Calls Try.prog 36 #[.slice A0 l0.length c0, .int .i64 a1] w fun e w' => e = .returned (.int .i64 r) ∧ Drawn0 w w' := by
 have HR0 := qO hr0; have HC0 := qO hc0; clear hr0 hc0; have H : (laws_heldIntS.l0 k l0 a1 0) = some r := h; clear h; have H' := qO H; clear H
 go_enter Try.func36, Try.ntmps36
 go_wp2
 go_loopg [1, 5] k (fun kq v1 v5 w' => ∃ (x1_1 : Int) (x5_1 : Int), v1 = .int .i64 x1_1 ∧ v5 = .int .i64 x5_1 ∧ Aside0 (laws_heldIntS.l0 kq l0 x1_1 x5_1 = some r) ∧ Aside0 (kq ≤ k) ∧ Drawn0 w w')
 case atStart => exact ⟨(a1), (0), qa7, qa7, H', ⟨Nat.le_refl _⟩, qa16⟩
 case round =>
  clear H'
  try clear p2
  obtain ⟨x1_1, x5_1, rfl, rfl, HA, HK1, ⟨m1, rfl⟩⟩ := hrel
  cases gk with
  | zero => exact absurd HA.out (by simp [laws_heldIntS.l0])
  | succ k1 =>
   have H := HA.out; clear HA; simp only [laws_heldIntS.l0] at H
   by_cases c3 : x5_1 < (l0.length : Int)
   ·rw [if_pos c3] at H
    have c3b0 : decide (x5_1 < (l0.length : Int)) = true := decide_eq_true c3; clear c3
    by_cases c4 : 0 ≤ x5_1
    ·rw [if_pos c4] at H
     have c4b0 : decide (0 ≤ x5_1) = true := decide_eq_true c4; clear c4
     by_cases c5 : (rd l0 x5_1) = x1_1
     ·rw [if_pos c5] at H
      have c5b0 : ((rd l0 x5_1) == x1_1) = true := beq_iff_eq.mpr c5; have c5b1 : ((rd l0 x5_1) != x1_1) = false := bne_eq_false_iff_eq.mpr c5; clear c5; have H' := qO H; clear H; have p101 : 0 ≤ (x5_1 : Int) := qT qa4; have q101 : x5_1 < (l0.length : Int) := qT qa4; obtain ⟨ad101, e101, hx101_0⟩ := Kd.at_int HR0.out x5_1 p101 q101
      cases e101
      replace p101 := eq_true p101; replace q101 := eq_true q101; go_wp2
      go_roundg k1
      case measure => have := HK1.out; omega
      case rel => exact ⟨(wrap64 (x1_1 + 1)), (wrap64 (x5_1 + 1)), qa7, qa7, H', ⟨qa37⟩, qa16⟩
     ·rw [if_neg c5] at H
      have c5b0 : ((rd l0 x5_1) == x1_1) = false := beq_eq_false_iff_ne.mpr c5; have c5b1 : ((rd l0 x5_1) != x1_1) = true := bne_iff_ne.mpr c5; obtain rfl := Option.some.inj H; have p101 : 0 ≤ (x5_1 : Int) := qT qa4; have q101 : x5_1 < (l0.length : Int) := qT qa4; obtain ⟨ad101, e101, hx101_0⟩ := Kd.at_int HR0.out x5_1 p101 q101
      cases e101
      replace p101 := eq_true p101; replace q101 := eq_true q101; go_wp2
      go_ret
      exact ⟨qa7, qa16⟩
    ·rw [if_neg c4] at H
     exact absurd H qa79
   ·rw [if_neg c3] at H
    have c3b0 : decide (x5_1 < (l0.length : Int)) = false := decide_eq_false c3; clear c3; obtain rfl := Option.some.inj H; go_wp2
    go_ret
    exact ⟨qa7, qa16⟩


theorem lw7_hxr {w wf W W' : World} {P : Nat → Prop} (hx : Below wf.heap.size wf W) (hB : Below w.heap.size w W) (hb : Below w.heap.size w W') (hk : Kept W W' P) (hP : ∀ k, P k → wf.heap.size ≤ k) : Below wf.heap.size wf W' :=
 ⟨hb.os.trans (hB.os.symm.trans hx.os), hb.tape.trans (hB.tape.symm.trans hx.tape), hb.output.trans (hB.output.symm.trans hx.output), Nat.le_trans hx.size hk.1, fun k hlt => (hk.2 k (Nat.lt_of_lt_of_le hlt hx.size) (fun hp => absurd (hP k hp) (Nat.not_le_of_lt hlt))).trans (hx.block k hlt)⟩
theorem lw7_iv {W W' : World} {n : Nat} (hn : n ≤ W.heap.size) (hb : W.heap.size ≤ W'.heap.size) : ∃ lo hi, lo = W.heap.size ∧ hi = W'.heap.size ∧ (n ≤ lo ∧ lo ≤ hi) := ⟨_, _, rfl, rfl, hn, hb⟩
theorem lw7_need {α : Type} {p : Prop} [Decidable p] {X : Option α} {r : α} (h : (if p then X else none) = some r) : p ∧ X = some r := by
 by_cases c : p
 ·rw [if_pos c] at h; exact ⟨c, h⟩
 ·rw [if_neg c] at h; cases h
def lw7_sets (g : Nat) : Nat → List Value → World → World
 | _, [], w => w
 | j, v :: vs, w => lw7_sets g (j + 1) vs (w.setCell ⟨g, j, none⟩ v)
def lw7_all : Nat → List Value → Array Value → Array Value
 | _, [], cs => cs
 | j, v :: vs, cs => lw7_all (j + 1) vs (cs.setIfInBounds j v)
theorem lw7_sets_heap {g t : Nat} : ∀ (vs : List Value) (j : Nat) (cs : Array Value) (w : World), w.heap[g]? = some (.cells cs t (0, 0)) → (lw7_sets g j vs w).heap[g]? = some (.cells (lw7_all j vs cs) t (0, 0))
 | [], _, _, _, h => h
 | v :: vs, j, cs, w, h => lw7_sets_heap vs (j + 1) _ _ (blk_set h j v)
theorem lw7_sets_kept {g : Nat} : ∀ (vs : List Value) (j : Nat) (w : World), Kept w (lw7_sets g j vs w) (fun k_ => g ≤ k_ ∧ k_ < g + 1)
 | [], _, w => Kept.refl w _
 | v :: vs, j, w => Kept.then_ (Kept.setCell (Kept.refl w _) (.inl (show g ≤ g ∧ g < g + 1 from ⟨Nat.le_refl _, Nat.lt_succ_self _⟩)) v) (lw7_sets_kept vs (j + 1) _) (fun _ h => .inl h)
theorem lw7_sets_below {g : Nat} {w0 : World} (hg : w0.heap.size ≤ g) : ∀ (vs : List Value) (j : Nat) (w : World), Below w0.heap.size w0 w → Below w0.heap.size w0 (lw7_sets g j vs w)
 | [], _, _, h => h
 | v :: vs, j, w, h => lw7_sets_below hg vs (j + 1) _ (qbS h hg)
theorem lw7_store {P : Program} {ops : Array Oper} {o : Oper} {a : Act} {Q : Exit → Act → World → Prop} {Kc : Act → World → Prop} {w0 W : World} (g t : Nat) (vs : List Value) (cs : Array Value) (hw : Region.wanted o (yielded ops a.tmps) = true) (hN : o.dst = none)
  (hrun : (execOp a.eval o).run P W = .ok .skip (lw7_sets g 0 vs W)) (hg : w0.heap.size ≤ g) (HB : Below w0.heap.size w0 W) (hb : W.heap[g]? = some (.cells cs t (0, 0)))
  (h : ∀ w1, w1.heap[g]? = some (.cells (lw7_all 0 vs cs) t (0, 0)) → Kept W w1 (fun k_ => g ≤ k_ ∧ k_ < g + 1) → Below w0.heap.size w0 w1 → Kc a w1) : if Region.wanted o (yielded ops a.tmps) = true then Oper.wp P o a W Kc Q else Kc (a.put none undef) W := by
 rw [if_pos hw]
 unfold Oper.wp
 rw [hrun]
 show Kc (a.put o.dst undef) _
 rw [hN]
 exact h _ (lw7_sets_heap vs 0 cs W hb) (lw7_sets_kept vs 0 W) (lw7_sets_below hg vs 0 W HB)
theorem lw7_no {lo hi a b k : Nat} (h1 : lo ≤ k ∧ k < hi) (h2 : a ≤ k ∧ k < b) (h : hi ≤ a ∨ b ≤ lo) : False := by omega
theorem lw7_no2 {lo hi a b c d k : Nat} (h1 : lo ≤ k ∧ k < hi) (h2 : (a ≤ k ∧ k < b) ∨ (c ≤ k ∧ k < d)) (h : (hi ≤ a ∨ b ≤ lo) ∧ (hi ≤ c ∨ d ≤ lo)) : False := by omega
theorem lw7_no3 {lo hi a b c d x y k : Nat} (h1 : lo ≤ k ∧ k < hi) (h2 : (a ≤ k ∧ k < b) ∨ (c ≤ k ∧ k < d) ∨ (x ≤ k ∧ k < y)) (h : (hi ≤ a ∨ b ≤ lo) ∧ (hi ≤ c ∨ d ≤ lo) ∧ (hi ≤ x ∨ y ≤ lo)) : False := by omega
theorem lw7_on {lo hi c d a b k : Nat} (h1 : (lo ≤ k ∧ k < hi) ∨ (c ≤ k ∧ k < d)) (h2 : a ≤ k ∧ k < b) (h : (hi ≤ a ∨ b ≤ lo) ∧ (d ≤ a ∨ b ≤ c)) : False := by omega
theorem lw7_on2 {lo hi c d a b x y k : Nat} (h1 : (lo ≤ k ∧ k < hi) ∨ (c ≤ k ∧ k < d)) (h2 : (a ≤ k ∧ k < b) ∨ (x ≤ k ∧ k < y)) (h : ((hi ≤ a ∨ b ≤ lo) ∧ (d ≤ a ∨ b ≤ c)) ∧ ((hi ≤ x ∨ y ≤ lo) ∧ (d ≤ x ∨ y ≤ c))) : False := by omega
theorem lw7_ivk {W W' : World} {S : Nat → Prop} {n : Nat} (hk : Kept W W' S) (hn : n ≤ W.heap.size) : ∃ lo hi, lo = W.heap.size ∧ hi = W'.heap.size ∧ (n ≤ lo ∧ lo ≤ hi) := ⟨_, _, rfl, rfl, hn, hk.1⟩
theorem lw7_hx {w0 W wn : World} (_hb : Below W.heap.size W wn) (hx : Below w0.heap.size w0 W) : Below w0.heap.size w0 W := hx
theorem lw7_bind {α β : Type} {X : Option α} {f : α → Option β} {r : β} (h : X.bind f = some r) : ∃ x, X = some x ∧ f x = some r := Option.bind_eq_some_iff.mp h
theorem lw7_draw {P : Program} {Q : Exit → Act → World → Prop} {id : Nat} {ops : Array Oper} {a : Act} {W : World} (h : ∀ w1, w1 = W → Below W.heap.size W w1 → (Code.region id ops true).wp P Q a w1) : (Code.region id ops true).wp P Q a W := h W rfl (Below.refl _ _)
theorem lw7_lt {W w' : World} {g : Nat} {o : Obj} (hb : Below W.heap.size W w') (h : W.heap[g]? = some o) : g + 1 ≤ W.heap.size ∧ w'.heap[g]? = some o := ⟨blk_lt h, blk_below h hb⟩
def laws_FnExactCommittedOf.f (k : Nat) (l0 : List (S106)) : Option (Bool) := ((laws_szDoneS.f k l0 1048576).bind fun b0_ => (if b0_ < 0 then (some true) else ((laws_toDoneS.f k l0).bind fun b2_ => ((spec_CommittedOf.f k b2_).bind fun b3_ => ((laws_toDoneS.f k l0).bind fun b4_ => ((impl_CommittedOf.f k b4_).bind fun b5_ => ((laws_eqIntS.f k b5_.1 b3_.1).bind fun b6_ => (if b6_ = true then (if b5_.2 = b3_.2 then ((laws_toDoneS.f k l0).bind fun b9_ => ((laws_eqDoneS.f k b4_ b9_).bind fun b10_ => (if b10_ = true then ((laws_markDoneS.f k b4_ 1).bind fun b12_ => (if ¬ (b12_ < 0) then ((laws_eqIntS.f k b5_.1 b3_.1).bind fun b14_ => (if b14_ = true then ((laws_markIntS.f k b5_.1 1).bind fun b16_ => ((laws_heldIntS.f k b16_.2 1).bind fun b17_ => (if ¬ (b17_ < 0) then (if b17_ = b16_.1 then ((laws_toDoneS.f k l0).bind fun b20_ => ((impl_CommittedOf.f k b20_).bind fun b21_ => ((laws_eqIntS.f k b21_.1 b3_.1).bind fun b22_ => (if b22_ = true then (if b21_.2 = b3_.2 then ((laws_heldIntS.f k b16_.2 1).bind fun b25_ => (if ¬ (b25_ < 0) then (if b25_ = b16_.1 then (some true) else (none)) else (none))) else (none)) else (none))))) else (none)) else (none)))) else (none))) else (none))) else (none)))) else (none)) else (none)))))))))
set_option maxHeartbeats 8000000 in
set_option maxRecDepth 100000 in
theorem laws_FnExactCommittedOf.calls (k : Nat) (A0 : Option Addr) (c0 : Nat) (l0 : List (S106)) (r : Bool) (w : World) (hr0 : Kd.C k106 w A0 l0.length l0) (hc0 : l0.length ≤ c0) (h : laws_FnExactCommittedOf.f k l0 = some r) :
  Calls Try.prog 7 #[.slice A0 l0.length c0] w fun e w' => e = .returned (.bool r) ∧ Below w.heap.size w w' := by
 have HR0 := qO hr0; have HC0 := qO hc0; clear hr0 hc0; have HB := qO (Below.refl w.heap.size w); have HX := qO (Below.refl w.heap.size w); have HN := qO (Nat.le_refl w.heap.size); have H : ((laws_szDoneS.f k l0 1048576).bind fun b0_ => (if b0_ < 0 then (some true) else ((laws_toDoneS.f k l0).bind fun b2_ => ((spec_CommittedOf.f k b2_).bind fun b3_ => ((laws_toDoneS.f k l0).bind fun b4_ => ((impl_CommittedOf.f k b4_).bind fun b5_ => ((laws_eqIntS.f k b5_.1 b3_.1).bind fun b6_ => (if b6_ = true then (if b5_.2 = b3_.2 then ((laws_toDoneS.f k l0).bind fun b9_ => ((laws_eqDoneS.f k b4_ b9_).bind fun b10_ => (if b10_ = true then ((laws_markDoneS.f k b4_ 1).bind fun b12_ => (if ¬ (b12_ < 0) then ((laws_eqIntS.f k b5_.1 b3_.1).bind fun b14_ => (if b14_ = true then ((laws_markIntS.f k b5_.1 1).bind fun b16_ => ((laws_heldIntS.f k b16_.2 1).bind fun b17_ => (if ¬ (b17_ < 0) then (if b17_ = b16_.1 then ((laws_toDoneS.f k l0).bind fun b20_ => ((impl_CommittedOf.f k b20_).bind fun b21_ => ((laws_eqIntS.f k b21_.1 b3_.1).bind fun b22_ => (if b22_ = true then (if b21_.2 = b3_.2 then ((laws_heldIntS.f k b16_.2 1).bind fun b25_ => (if ¬ (b25_ < 0) then (if b25_ = b16_.1 then (some true) else (none)) else (none))) else (none)) else (none))))) else (none)) else (none)))) else (none))) else (none))) else (none)))) else (none)) else (none))))))))) = some r := h; clear h; obtain ⟨t1, A0_, H⟩ := lw7_bind H; (try dsimp only at H); have A2 := qO A0_; clear A0_
 by_cases c1 : t1 < 0
 ·rw [if_pos c1] at H
  have c1b : decide (t1 < 0) = true := decide_eq_true c1; clear c1; obtain rfl := Option.some.inj H
  go_enter Try.func7, Try.ntmps7
  go_wp2_with (first | ((with_reducible refine gate_callee (f := 28) rfl ?_); refine goesL_ (some 16) rfl rfl Try.func28 qa12 rfl #[.slice A0 l0.length c0, .int .i64 1048576] rfl qa18 ?_; (with_reducible refine (laws_szDoneS.calls k _ _ l0 1048576 t1 _ ?side1 ?side2 A2.out).mono ?_); (case side1 => exact qa36); (case side2 => exact HC0.out); rintro e w3 ⟨rfl, hb⟩; refine ⟨_, rfl, ?_⟩; have hx_ := lw7_hx hb qa21; have hbt := below_step hx_ hb; replace HN := qO (Nat.le_trans (Nat.le_trans HN.out (below_size hx_)) hb.size); replace HB := qO (below_step HB.out hbt); replace HX := qO (Below.refl w3.heap.size w3); clear hb hbt hx_; skip))
  go_ret
  exact ⟨by first | rfl | (simp [*]; done), below_step HB.out qa21⟩
 ·rw [if_neg c1] at H
  have c1b : decide (t1 < 0) = false := decide_eq_false c1; clear c1; obtain ⟨t5, A0_, H⟩ := lw7_bind H; (try dsimp only at H); have A6 := qO A0_; clear A0_; obtain ⟨⟨t11, t12⟩, A0_, H⟩ := lw7_bind H; (try dsimp only at H); have A13 := qO A0_; clear A0_; obtain ⟨t18, A0_, H⟩ := lw7_bind H; (try dsimp only at H); have A19 := qO A0_; clear A0_; obtain ⟨⟨t24, t25⟩, A0_, H⟩ := lw7_bind H; (try dsimp only at H); have A26 := qO A0_; clear A0_; obtain ⟨t31, A0_, H⟩ := lw7_bind H; (try dsimp only at H); have A32 := qO A0_; clear A0_; replace H := lw7_need H; obtain ⟨c7, H⟩ := H; subst c7; replace H := lw7_need H; obtain ⟨c8, H⟩ := H; have c8b0 : (t25 == t12) = true := beq_iff_eq.mpr c8; have c8b1 : (t25 != t12) = false := bne_eq_false_iff_eq.mpr c8; clear c8; obtain ⟨t35, A0_, H⟩ := lw7_bind H; (try dsimp only at H); have A36 := qO A0_; clear A0_; obtain ⟨t41, A0_, H⟩ := lw7_bind H; (try dsimp only at H); have A42 := qO A0_; clear A0_; replace H := lw7_need H; obtain ⟨c11, H⟩ := H; subst c11; obtain ⟨t45, A0_, H⟩ := lw7_bind H; (try dsimp only at H); have A46 := qO A0_; clear A0_; replace H := lw7_need H; obtain ⟨c13, H⟩ := H; have c13b0 : decide (t45 < 0) = false := decide_eq_false c13; clear c13; obtain ⟨t48, A0_, H⟩ := lw7_bind H; (try dsimp only at H); have A49 := qO A0_; clear A0_; replace H := lw7_need H; obtain ⟨c15, H⟩ := H; subst c15; obtain ⟨⟨t52, t53⟩, A0_, H⟩ := lw7_bind H; (try dsimp only at H); have A54 := qO A0_; clear A0_; obtain ⟨t58, A0_, H⟩ := lw7_bind H; (try dsimp only at H); have A59 := qO A0_; clear A0_; replace H := lw7_need H; obtain ⟨c18, H⟩ := H; have c18b0 : decide (t58 < 0) = false := decide_eq_false c18; clear c18; replace H := lw7_need H; obtain ⟨c19, H⟩ := H; have c19b0 : (t58 == t52) = true := beq_iff_eq.mpr c19; have c19b1 : (t58 != t52) = false := bne_eq_false_iff_eq.mpr c19; clear c19; obtain ⟨t62, A0_, H⟩ := lw7_bind H; (try dsimp only at H); have A63 := qO A0_; clear A0_; obtain ⟨⟨t68, t69⟩, A0_, H⟩ := lw7_bind H; (try dsimp only at H); have A70 := qO A0_; clear A0_; obtain ⟨t75, A0_, H⟩ := lw7_bind H; (try dsimp only at H); have A76 := qO A0_; clear A0_; replace H := lw7_need H; obtain ⟨c23, H⟩ := H; subst c23; replace H := lw7_need H; obtain ⟨c24, H⟩ := H; have c24b0 : (t69 == t12) = true := beq_iff_eq.mpr c24; have c24b1 : (t69 != t12) = false := bne_eq_false_iff_eq.mpr c24; clear c24; obtain ⟨t79, A0_, H⟩ := lw7_bind H; (try dsimp only at H); have A80 := qO A0_; clear A0_; replace H := lw7_need H; obtain ⟨c26, H⟩ := H; have c26b0 : decide (t79 < 0) = false := decide_eq_false c26; clear c26; replace H := lw7_need H; obtain ⟨c27, H⟩ := H; have c27b0 : (t79 == t52) = true := beq_iff_eq.mpr c27; have c27b1 : (t79 != t52) = false := bne_eq_false_iff_eq.mpr c27; clear c27; obtain rfl := Option.some.inj H
  go_enter Try.func7, Try.ntmps7
  go_wp2_with (first | ((with_reducible refine gate_callee (f := 28) rfl ?_); refine goesL_ (some 16) rfl rfl Try.func28 qa12 rfl #[.slice A0 l0.length c0, .int .i64 1048576] rfl qa18 ?_; (with_reducible refine (laws_szDoneS.calls k _ _ l0 1048576 t1 _ ?side1 ?side2 A2.out).mono ?_); (case side1 => exact qa36); (case side2 => exact HC0.out); rintro e w3 ⟨rfl, hb⟩; refine ⟨_, rfl, ?_⟩; have hx_ := lw7_hx hb qa21; have hbt := below_step hx_ hb; replace HN := qO (Nat.le_trans (Nat.le_trans HN.out (below_size hx_)) hb.size); replace HB := qO (below_step HB.out hbt); replace HX := qO (Below.refl w3.heap.size w3); clear hb hbt hx_; skip) | ((with_reducible refine gate_callee (f := 30) rfl ?_); refine goesL_ (some 21) rfl rfl Try.func30 qa12 rfl #[.slice A0 l0.length c0] rfl qa18 ?_; (with_reducible refine (laws_toDoneS.calls k _ _ l0 t5 _ ?side1 ?side2 A6.out).mono ?_); (case side1 => exact qa36); (case side2 => exact HC0.out); rintro e w7 ⟨vt5, rfl, ho0, hb⟩; refine ⟨_, rfl, ?_⟩; have hx_ := lw7_hx hb qa21; have hbt := below_step hx_ hb; obtain ⟨lo8, hi8, hl_, hh_, hc_⟩ := lw7_iv (Nat.le_trans HN.out (below_size hx_)) hb.size; have CHlo8 := qO (show w.heap.size ≤ lo8 ∧ lo8 ≤ hi8 from hc_); clear hc_; have HO9 := qO (Kd.R_mono (ok' := fun k_ => lo8 ≤ k_ ∧ k_ < hi8) (Kd.R_lower (Kd.R_bound ho0) (below_size (below_step HB.out hx_))) (fun k_ hk_ => ⟨qa99, qa97⟩)); replace HN := qO ((show hi8 ≤ w7.heap.size from Nat.le_of_eq hh_)); replace HB := qO (below_step HB.out hbt); replace HX := qO (Below.refl w7.heap.size w7); clear hb hbt hx_ hl_ hh_; (try clear ho0); obtain ⟨Aoo10, coo10, eoo10⟩ := Kd.R_slice HO9.out; (first | subst eoo10 | (injection eoo10 with f1_ f2_ f3_; have f4_ := f1_.symm; have f5_ := f3_.symm; clear f1_ f2_ f3_; subst f4_; subst f5_)); skip) | ((with_reducible refine gate_callee (f := 29) rfl ?_); refine goesL_ (some 22) rfl rfl Try.func29 qa12 rfl #[.slice Aoo10 t5.length coo10] rfl qa18 ?_; (with_reducible refine (spec_CommittedOf.calls k _ _ t5 t11 t12 _ ?side1 ?side2 A13.out).mono ?_); (case side1 => exact Kd.C_below (Kd.R_reads' HO9.out).2.2 (by repeat (first | (with_reducible first | exact HX.out | apply qbA | apply qbN | apply qbD) | exact HX.out))); (case side2 => have z_ := Kd.R_reads' HO9.out; have y_ := z_.1; have x_ := z_.2.1; omega); rintro e w14 ⟨vt11, rfl, ho0, hb⟩; refine ⟨_, rfl, ?_⟩; have hx_ := lw7_hx hb qa21; have hbt := below_step hx_ hb; obtain ⟨lo15, hi15, hl_, hh_, hc_⟩ := lw7_iv (Nat.le_trans HN.out (below_size hx_)) hb.size; have CHlo15 := qO (show hi8 ≤ lo15 ∧ lo15 ≤ hi15 from hc_); clear hc_; replace HO9 := qO (Kd.R_below HO9.out hbt); have HO16 := qO (Kd.R_mono (ok' := fun k_ => lo15 ≤ k_ ∧ k_ < hi15) (Kd.R_lower (Kd.R_bound ho0) (below_size (below_step HB.out hx_))) (fun k_ hk_ => ⟨qa99, qa97⟩)); replace HN := qO ((show hi15 ≤ w14.heap.size from Nat.le_of_eq hh_)); replace HB := qO (below_step HB.out hbt); replace HX := qO (Below.refl w14.heap.size w14); clear hb hbt hx_ hl_ hh_; (try clear ho0); obtain ⟨Aoo17, coo17, eoo17⟩ := Kd.R_slice HO16.out; (first | subst eoo17 | (injection eoo17 with f1_ f2_ f3_; have f4_ := f1_.symm; have f5_ := f3_.symm; clear f1_ f2_ f3_; subst f4_; subst f5_)); skip) | ((with_reducible refine gate_callee (f := 30) rfl ?_); refine goesL_ (some 26) rfl rfl Try.func30 qa12 rfl #[.slice A0 l0.length c0] rfl qa18 ?_; (with_reducible refine (laws_toDoneS.calls k _ _ l0 t18 _ ?side1 ?side2 A19.out).mono ?_); (case side1 => exact qa36); (case side2 => exact HC0.out); rintro e w20 ⟨vt18, rfl, ho0, hb⟩; refine ⟨_, rfl, ?_⟩; have hx_ := lw7_hx hb qa21; have hbt := below_step hx_ hb; obtain ⟨lo21, hi21, hl_, hh_, hc_⟩ := lw7_iv (Nat.le_trans HN.out (below_size hx_)) hb.size; have CHlo21 := qO (show hi15 ≤ lo21 ∧ lo21 ≤ hi21 from hc_); clear hc_; replace HO9 := qO (Kd.R_below HO9.out hbt); replace HO16 := qO (Kd.R_below HO16.out hbt); have HO22 := qO (Kd.R_mono (ok' := fun k_ => lo21 ≤ k_ ∧ k_ < hi21) (Kd.R_lower (Kd.R_bound ho0) (below_size (below_step HB.out hx_))) (fun k_ hk_ => ⟨qa99, qa97⟩)); replace HN := qO ((show hi21 ≤ w20.heap.size from Nat.le_of_eq hh_)); replace HB := qO (below_step HB.out hbt); replace HX := qO (Below.refl w20.heap.size w20); clear hb hbt hx_ hl_ hh_; (try clear ho0); obtain ⟨Aoo23, coo23, eoo23⟩ := Kd.R_slice HO22.out; (first | subst eoo23 | (injection eoo23 with f1_ f2_ f3_; have f4_ := f1_.symm; have f5_ := f3_.symm; clear f1_ f2_ f3_; subst f4_; subst f5_)); skip) | ((with_reducible refine gate_callee (f := 31) rfl ?_); refine goesL_ (some 29) rfl rfl Try.func31 qa12 rfl #[.slice Aoo23 t18.length coo23] rfl qa18 ?_; (with_reducible refine (impl_CommittedOf.calls k _ _ t18 t24 t25 _ ?side1 ?side2 A26.out).mono ?_); (case side1 => exact qa83); (case side2 => have z_ := Kd.R_reads' HO22.out; have y_ := z_.1; have x_ := z_.2.1; omega); rintro e w27 ⟨vt24, rfl, ho0, hb⟩; refine ⟨_, rfl, ?_⟩; have hx_ := lw7_hx hb qa21; have hbt := below_step hx_ hb; obtain ⟨lo28, hi28, hl_, hh_, hc_⟩ := lw7_iv (Nat.le_trans HN.out (below_size hx_)) hb.size; have CHlo28 := qO (show hi21 ≤ lo28 ∧ lo28 ≤ hi28 from hc_); clear hc_; replace HO9 := qO (Kd.R_below HO9.out hbt); replace HO16 := qO (Kd.R_below HO16.out hbt); replace HO22 := qO (Kd.R_below HO22.out hbt); have HO29 := qO (Kd.R_mono (ok' := fun k_ => lo28 ≤ k_ ∧ k_ < hi28) (Kd.R_lower (Kd.R_bound ho0) (below_size (below_step HB.out hx_))) (fun k_ hk_ => ⟨qa99, qa97⟩)); replace HN := qO ((show hi28 ≤ w27.heap.size from Nat.le_of_eq hh_)); replace HB := qO (below_step HB.out hbt); replace HX := qO (Below.refl w27.heap.size w27); clear hb hbt hx_ hl_ hh_; (try clear ho0); obtain ⟨Aoo30, coo30, eoo30⟩ := Kd.R_slice HO29.out; (first | subst eoo30 | (injection eoo30 with f1_ f2_ f3_; have f4_ := f1_.symm; have f5_ := f3_.symm; clear f1_ f2_ f3_; subst f4_; subst f5_)); skip) | ((with_reducible refine gate_callee (f := 32) rfl ?_); refine goesL_ (some 34) rfl rfl Try.func32 qa12 rfl #[.slice Aoo30 t24.length coo30, .slice Aoo17 t11.length coo17] rfl qa18 ?_; (with_reducible refine (laws_eqIntS.calls k _ _ t24 _ _ t11 true _ ?side1 ?side2 ?side3 ?side4 A32.out).mono ?_); (case side1 => exact qa53); (case side2 => exact qa91); (case side3 => exact qa70); (case side4 => exact qa96); rintro e w33 ⟨rfl, hd_⟩; refine ⟨_, rfl, ?_⟩; have hb := hd_.below; have hx_ := lw7_hx hb qa21; have hbt := below_step hx_ hb; replace HO9 := qO (Kd.R_below HO9.out hbt); replace HO16 := qO (Kd.R_below HO16.out hbt); replace HO22 := qO (Kd.R_below HO22.out hbt); replace HO29 := qO (Kd.R_below HO29.out hbt); replace HN := qO (Nat.le_trans (Nat.le_trans HN.out (below_size hx_)) hb.size); replace HB := qO (below_step HB.out hbt); replace HX := qO (Below.refl w33.heap.size w33); clear hb hbt hx_ hd_; skip) | ((with_reducible refine gate_callee (f := 30) rfl ?_); refine goesL_ (some 43) rfl rfl Try.func30 qa12 rfl #[.slice A0 l0.length c0] rfl qa18 ?_; (with_reducible refine (laws_toDoneS.calls k _ _ l0 t35 _ ?side1 ?side2 A36.out).mono ?_); (case side1 => exact qa36); (case side2 => exact HC0.out); rintro e w37 ⟨vt35, rfl, ho0, hb⟩; refine ⟨_, rfl, ?_⟩; have hx_ := lw7_hx hb qa21; have hbt := below_step hx_ hb; obtain ⟨lo38, hi38, hl_, hh_, hc_⟩ := lw7_iv (Nat.le_trans HN.out (below_size hx_)) hb.size; have CHlo38 := qO (show hi28 ≤ lo38 ∧ lo38 ≤ hi38 from hc_); clear hc_; replace HO9 := qO (Kd.R_below HO9.out hbt); replace HO16 := qO (Kd.R_below HO16.out hbt); replace HO22 := qO (Kd.R_below HO22.out hbt); replace HO29 := qO (Kd.R_below HO29.out hbt); have HO39 := qO (Kd.R_mono (ok' := fun k_ => lo38 ≤ k_ ∧ k_ < hi38) (Kd.R_lower (Kd.R_bound ho0) (below_size (below_step HB.out hx_))) (fun k_ hk_ => ⟨qa99, qa97⟩)); replace HN := qO ((show hi38 ≤ w37.heap.size from Nat.le_of_eq hh_)); replace HB := qO (below_step HB.out hbt); replace HX := qO (Below.refl w37.heap.size w37); clear hb hbt hx_ hl_ hh_; (try clear ho0); obtain ⟨Aoo40, coo40, eoo40⟩ := Kd.R_slice HO39.out; (first | subst eoo40 | (injection eoo40 with f1_ f2_ f3_; have f4_ := f1_.symm; have f5_ := f3_.symm; clear f1_ f2_ f3_; subst f4_; subst f5_)); skip) | ((with_reducible refine gate_callee (f := 33) rfl ?_); refine goesL_ (some 44) rfl rfl Try.func33 qa12 rfl #[.slice Aoo23 t18.length coo23, .slice Aoo40 t35.length coo40] rfl qa18 ?_; (with_reducible refine (laws_eqDoneS.calls k _ _ t18 _ _ t35 true _ ?side1 ?side2 ?side3 ?side4 A42.out).mono ?_); (case side1 => exact qa83); (case side2 => have z_ := Kd.R_reads' HO22.out; have y_ := z_.1; have x_ := z_.2.1; omega); (case side3 => exact Kd.C_below (Kd.R_reads' HO39.out).2.2 (by repeat (first | (with_reducible first | exact HX.out | apply qbA | apply qbN | apply qbD) | exact HX.out))); (case side4 => have z_ := Kd.R_reads' HO39.out; have y_ := z_.1; have x_ := z_.2.1; omega); rintro e w43 ⟨rfl, hb⟩; refine ⟨_, rfl, ?_⟩; have hx_ := lw7_hx hb qa21; have hbt := below_step hx_ hb; replace HO9 := qO (Kd.R_below HO9.out hbt); replace HO16 := qO (Kd.R_below HO16.out hbt); replace HO22 := qO (Kd.R_below HO22.out hbt); replace HO29 := qO (Kd.R_below HO29.out hbt); replace HO39 := qO (Kd.R_below HO39.out hbt); replace HN := qO (Nat.le_trans (Nat.le_trans HN.out (below_size hx_)) hb.size); replace HB := qO (below_step HB.out hbt); replace HX := qO (Below.refl w43.heap.size w43); clear hb hbt hx_; skip) | ((with_reducible refine gate_callee (f := 34) rfl ?_); refine goesL_ (some 48) rfl rfl Try.func34 qa12 rfl #[.slice Aoo23 t18.length coo23, .int .i64 1] rfl qa18 ?_; (with_reducible refine (laws_markDoneS.calls k (fun k_ => lo21 ≤ k_ ∧ k_ < hi21) _ t18 1 t45 w _ ?sB ?s0 A46.out).mono ?_); (case sB => exact qa92); (case s0 => exact Kd.R_below HO22.out (by repeat (first | (with_reducible first | exact HX.out | apply qbA | apply qbN | apply qbD) | exact HX.out))); rintro e w47 ⟨rfl, hb0, hkp⟩; refine ⟨_, rfl, ?_⟩; have hkt := Kept.then_ (Kept.of_below qa21 (fun k_ => (lo21 ≤ k_ ∧ k_ < hi21))) hkp (fun k_ h_ => .inl h_); have zz_ := And.intro CHlo8.out (And.intro CHlo15.out (And.intro CHlo21.out (And.intro CHlo28.out (CHlo38.out)))); replace HO9 := qO (Kd.R_kept HO9.out hkt (fun _ h1_ h2_ => lw7_no h1_ h2_ qa14)); replace HO16 := qO (Kd.R_kept HO16.out hkt (fun _ h1_ h2_ => lw7_no h1_ h2_ qa14)); replace HO29 := qO (Kd.R_kept HO29.out hkt (fun _ h1_ h2_ => lw7_no h1_ h2_ qa14)); replace HO39 := qO (Kd.R_kept HO39.out hkt (fun _ h1_ h2_ => lw7_no h1_ h2_ qa14)); replace HN := qO (Nat.le_trans HN.out hkt.1); replace HB := qO (hb0); replace HX := qO (Below.refl w47.heap.size w47); clear hkp hb0 hkt zz_; (try clear HO22); skip) | (go_at_call 32; (with_reducible refine (laws_eqIntS.calls k _ _ t24 _ _ t11 true _ ?side1 ?side2 ?side3 ?side4 A49.out).mono ?_); (case side1 => exact qa53); (case side2 => exact qa91); (case side3 => exact qa70); (case side4 => exact qa96); rintro e w50 ⟨rfl, hd_⟩; have hb := hd_.below; have hx_ := lw7_hx hb qa21; have hbt := below_step hx_ hb; replace HO9 := qO (Kd.R_below HO9.out hbt); replace HO16 := qO (Kd.R_below HO16.out hbt); replace HO29 := qO (Kd.R_below HO29.out hbt); replace HO39 := qO (Kd.R_below HO39.out hbt); replace HN := qO (Nat.le_trans (Nat.le_trans HN.out (below_size hx_)) hb.size); replace HB := qO (below_step HB.out hbt); replace HX := qO (Below.refl w50.heap.size w50); clear hb hbt hx_ hd_; skip) | ((with_reducible refine gate_callee (f := 35) rfl ?_); refine goesL_ (some 64) rfl rfl Try.func35 qa12 rfl #[.slice Aoo30 t24.length coo30, .int .i64 1] rfl qa18 ?_; (with_reducible refine (laws_markIntS.calls k (fun k_ => lo28 ≤ k_ ∧ k_ < hi28) _ t24 1 t52 t53 w _ ?sB ?s0 A54.out).mono ?_); (case sB => exact qa92); (case s0 => exact Kd.R_below HO29.out (by repeat (first | (with_reducible first | exact HX.out | apply qbA | apply qbN | apply qbD) | exact HX.out))); rintro e w55 ⟨rfl, hy0, hb0, hkp⟩; refine ⟨_, rfl, ?_⟩; have hkt := Kept.then_ (Kept.of_below qa21 (fun k_ => (lo28 ≤ k_ ∧ k_ < hi28))) hkp (fun k_ h_ => .inl h_); have zz_ := And.intro CHlo8.out (And.intro CHlo15.out (And.intro CHlo21.out (And.intro CHlo28.out (CHlo38.out)))); obtain ⟨lo56, hi56, hl_, hh_, hc_⟩ := lw7_ivk hkp (Nat.le_trans HN.out (below_size qa21)); have CHlo56 := qO (show hi38 ≤ lo56 ∧ lo56 ≤ hi56 from hc_); clear hc_; replace HO9 := qO (Kd.R_kept HO9.out hkt (fun _ h1_ h2_ => lw7_no h1_ h2_ qa14)); replace HO16 := qO (Kd.R_kept HO16.out hkt (fun _ h1_ h2_ => lw7_no h1_ h2_ qa14)); replace HO39 := qO (Kd.R_kept HO39.out hkt (fun _ h1_ h2_ => lw7_no h1_ h2_ qa14)); replace HO29 := qO ((show Kd.R (Kd.int .i64) 3 w55 w.heap.size (fun k_ => (lo28 ≤ k_ ∧ k_ < hi28) ∨ (lo56 ≤ k_ ∧ k_ < hi56)) (.slice Aoo30 t24.length coo30) t53 from Kd.R_mono (Kd.R_bound hy0) (fun _ hk_ => hk_.1.elim (fun z_ => .inl z_) (fun z_ => .inr ⟨by rw [hl_]; exact z_, qa97⟩)))); replace HN := qO ((show hi56 ≤ w55.heap.size from Nat.le_of_eq hh_)); replace HB := qO (hb0); replace HX := qO (Below.refl w55.heap.size w55); clear hkp hb0 hkt zz_ hl_ hh_; (try clear hy0); have LEN57 := qO (Kd.R_reads' HO29.out).1; skip) | ((with_reducible refine gate_callee (f := 36) rfl ?_); refine goesL_ (some 67) rfl rfl Try.func36 qa12 rfl #[.slice Aoo30 t53.length coo30, .int .i64 1] rfl qa93 ?_; (with_reducible refine (laws_heldIntS.calls k _ _ t53 1 t58 _ ?side1 ?side2 A59.out).mono ?_); (case side1 => exact qa53); (case side2 => exact qa91); rintro e w60 ⟨rfl, hd_⟩; refine ⟨_, rfl, ?_⟩; have hb := hd_.below; have hx_ := lw7_hx hb qa21; have hbt := below_step hx_ hb; replace HO9 := qO (Kd.R_below HO9.out hbt); replace HO16 := qO (Kd.R_below HO16.out hbt); replace HO29 := qO (Kd.R_below HO29.out hbt); replace HO39 := qO (Kd.R_below HO39.out hbt); replace HN := qO (Nat.le_trans (Nat.le_trans HN.out (below_size hx_)) hb.size); replace HB := qO (below_step HB.out hbt); replace HX := qO (Below.refl w60.heap.size w60); clear hb hbt hx_ hd_; skip) | ((with_reducible refine gate_callee (f := 30) rfl ?_); refine goesL_ (some 75) rfl rfl Try.func30 qa12 rfl #[.slice A0 l0.length c0] rfl qa18 ?_; (with_reducible refine (laws_toDoneS.calls k _ _ l0 t62 _ ?side1 ?side2 A63.out).mono ?_); (case side1 => exact qa36); (case side2 => exact HC0.out); rintro e w64 ⟨vt62, rfl, ho0, hb⟩; refine ⟨_, rfl, ?_⟩; have hx_ := lw7_hx hb qa21; have hbt := below_step hx_ hb; obtain ⟨lo65, hi65, hl_, hh_, hc_⟩ := lw7_iv (Nat.le_trans HN.out (below_size hx_)) hb.size; have CHlo65 := qO (show hi56 ≤ lo65 ∧ lo65 ≤ hi65 from hc_); clear hc_; replace HO9 := qO (Kd.R_below HO9.out hbt); replace HO16 := qO (Kd.R_below HO16.out hbt); replace HO29 := qO (Kd.R_below HO29.out hbt); replace HO39 := qO (Kd.R_below HO39.out hbt); have HO66 := qO (Kd.R_mono (ok' := fun k_ => lo65 ≤ k_ ∧ k_ < hi65) (Kd.R_lower (Kd.R_bound ho0) (below_size (below_step HB.out hx_))) (fun k_ hk_ => ⟨qa99, qa97⟩)); replace HN := qO ((show hi65 ≤ w64.heap.size from Nat.le_of_eq hh_)); replace HB := qO (below_step HB.out hbt); replace HX := qO (Below.refl w64.heap.size w64); clear hb hbt hx_ hl_ hh_; (try clear ho0); obtain ⟨Aoo67, coo67, eoo67⟩ := Kd.R_slice HO66.out; (first | subst eoo67 | (injection eoo67 with f1_ f2_ f3_; have f4_ := f1_.symm; have f5_ := f3_.symm; clear f1_ f2_ f3_; subst f4_; subst f5_)); skip) | ((with_reducible refine gate_callee (f := 31) rfl ?_); refine goesL_ (some 76) rfl rfl Try.func31 qa12 rfl #[.slice Aoo67 t62.length coo67] rfl qa18 ?_; (with_reducible refine (impl_CommittedOf.calls k _ _ t62 t68 t69 _ ?side1 ?side2 A70.out).mono ?_); (case side1 => exact Kd.C_below (Kd.R_reads' HO66.out).2.2 (by repeat (first | (with_reducible first | exact HX.out | apply qbA | apply qbN | apply qbD) | exact HX.out))); (case side2 => have z_ := Kd.R_reads' HO66.out; have y_ := z_.1; have x_ := z_.2.1; omega); rintro e w71 ⟨vt68, rfl, ho0, hb⟩; refine ⟨_, rfl, ?_⟩; have hx_ := lw7_hx hb qa21; have hbt := below_step hx_ hb; obtain ⟨lo72, hi72, hl_, hh_, hc_⟩ := lw7_iv (Nat.le_trans HN.out (below_size hx_)) hb.size; have CHlo72 := qO (show hi65 ≤ lo72 ∧ lo72 ≤ hi72 from hc_); clear hc_; replace HO9 := qO (Kd.R_below HO9.out hbt); replace HO16 := qO (Kd.R_below HO16.out hbt); replace HO29 := qO (Kd.R_below HO29.out hbt); replace HO39 := qO (Kd.R_below HO39.out hbt); replace HO66 := qO (Kd.R_below HO66.out hbt); have HO73 := qO (Kd.R_mono (ok' := fun k_ => lo72 ≤ k_ ∧ k_ < hi72) (Kd.R_lower (Kd.R_bound ho0) (below_size (below_step HB.out hx_))) (fun k_ hk_ => ⟨qa99, qa97⟩)); replace HN := qO ((show hi72 ≤ w71.heap.size from Nat.le_of_eq hh_)); replace HB := qO (below_step HB.out hbt); replace HX := qO (Below.refl w71.heap.size w71); clear hb hbt hx_ hl_ hh_; (try clear ho0); obtain ⟨Aoo74, coo74, eoo74⟩ := Kd.R_slice HO73.out; (first | subst eoo74 | (injection eoo74 with f1_ f2_ f3_; have f4_ := f1_.symm; have f5_ := f3_.symm; clear f1_ f2_ f3_; subst f4_; subst f5_)); skip) | ((with_reducible refine gate_callee (f := 32) rfl ?_); refine goesL_ (some 81) rfl rfl Try.func32 qa12 rfl #[.slice Aoo74 t68.length coo74, .slice Aoo17 t11.length coo17] rfl qa18 ?_; (with_reducible refine (laws_eqIntS.calls k _ _ t68 _ _ t11 true _ ?side1 ?side2 ?side3 ?side4 A76.out).mono ?_); (case side1 => exact Kd.C_below (Kd.R_reads' HO73.out).2.2 (by repeat (first | (with_reducible first | exact HX.out | apply qbA | apply qbN | apply qbD) | exact HX.out))); (case side2 => have z_ := Kd.R_reads' HO73.out; have y_ := z_.1; have x_ := z_.2.1; omega); (case side3 => exact qa70); (case side4 => exact qa96); rintro e w77 ⟨rfl, hd_⟩; refine ⟨_, rfl, ?_⟩; have hb := hd_.below; have hx_ := lw7_hx hb qa21; have hbt := below_step hx_ hb; replace HO9 := qO (Kd.R_below HO9.out hbt); replace HO16 := qO (Kd.R_below HO16.out hbt); replace HO29 := qO (Kd.R_below HO29.out hbt); replace HO39 := qO (Kd.R_below HO39.out hbt); replace HO66 := qO (Kd.R_below HO66.out hbt); replace HO73 := qO (Kd.R_below HO73.out hbt); replace HN := qO (Nat.le_trans (Nat.le_trans HN.out (below_size hx_)) hb.size); replace HB := qO (below_step HB.out hbt); replace HX := qO (Below.refl w77.heap.size w77); clear hb hbt hx_ hd_; skip) | ((with_reducible refine gate_callee (f := 36) rfl ?_); refine goesL_ (some 90) rfl rfl Try.func36 qa12 rfl #[.slice Aoo30 t53.length coo30, .int .i64 1] rfl qa93 ?_; (with_reducible refine (laws_heldIntS.calls k _ _ t53 1 t79 _ ?side1 ?side2 A80.out).mono ?_); (case side1 => exact qa53); (case side2 => exact qa91); rintro e w81 ⟨rfl, hd_⟩; refine ⟨_, rfl, ?_⟩; have hb := hd_.below; have hx_ := lw7_hx hb qa21; have hbt := below_step hx_ hb; replace HO9 := qO (Kd.R_below HO9.out hbt); replace HO16 := qO (Kd.R_below HO16.out hbt); replace HO29 := qO (Kd.R_below HO29.out hbt); replace HO39 := qO (Kd.R_below HO39.out hbt); replace HO66 := qO (Kd.R_below HO66.out hbt); replace HO73 := qO (Kd.R_below HO73.out hbt); replace HN := qO (Nat.le_trans (Nat.le_trans HN.out (below_size hx_)) hb.size); replace HB := qO (below_step HB.out hbt); replace HX := qO (Below.refl w81.heap.size w81); clear hb hbt hx_ hd_; skip))
  go_ret
  exact ⟨by first | rfl | (simp [*]; done), below_step HB.out qa21⟩

end Go.Proofs.Ytfpkooafbeejmaa.Q
namespace Go.Proofs.Ytfpkooafbeejmaa.Q
open Go.RowKit Go.Proofs.YtfpkooafbeejmaaW.PrintWords Go.Proofs.Ytfpkooafbeejmaa.Opens
set_option linter.unusedVariables false
def i30 (x : S30) : Prop := (Lit.int .i64 x.f0).wf = true ∧ (Lit.int .i64 x.f1).wf = true ∧ x.f2.size ≤ 9223372036854775807
theorem o30 : Opens Try.prog 30 k30 i30 := opens_struct (N := 3) Try.underlying30 qa12 (opensF_cons rfl qa12 (opens_int Try.underlying3) (opensF_cons rfl qa12 (opens_int Try.underlying3) (opensF_one rfl rfl qa12 (opens_string Try.underlying9)))) (fun y => ⟨y.1, y.2.1, y.2.2⟩) (fun _ => rfl)
def i204 (x : S204) : Prop := x.f0.size ≤ 9223372036854775807 ∧ i30 x.f1
theorem o204 : Opens Try.prog 204 k204 i204 := opens_struct (N := 4) Try.underlying204 qa12 (opensF_cons rfl qa12 (opens_string Try.underlying9) (opensF_one rfl rfl qa12 o30)) (fun y => ⟨y.1, y.2⟩) (fun _ => rfl)
def i207 (x : S207) : Prop := True ∧ i30 x.f1
theorem o207 : Opens Try.prog 207 k207 i207 := opens_struct (N := 4) Try.underlying207 qa12 (opensF_cons rfl qa12 (opens_bool Try.underlying4) (opensF_one rfl rfl qa12 o30)) (fun y => ⟨y.1, y.2⟩) (fun _ => rfl)
def i194n : Nat → S194 → Prop
 | 0 => fun _ => False
 | n + 1 => fun x => (Lit.int .i64 x.f0).wf = true ∧ x.f1.size ≤ 9223372036854775807 ∧ x.f2.size ≤ 9223372036854775807 ∧ (x.f3.length ≤ 9223372036854775807 ∧ ∀ y1_ ∈ x.f3, i204 y1_) ∧ (x.f4.length ≤ 9223372036854775807 ∧ ∀ y1_ ∈ x.f4, i207 y1_) ∧ (x.f5.length ≤ 9223372036854775807 ∧ ∀ y1_ ∈ x.f5, i194n n y1_)
def i194 (x : S194) : Prop := ∃ n, i194n n x
theorem o194n : ∀ m, OpensL m Try.prog 194 (Kd.upto F194 6 [194, 204, 207] m) (i194n m)
 | 0 => opensL_none Try.underlying194
 | m + 1 => opensL_struct (N := 6) Try.underlying194 qa12 (opensFL_cons rfl qa12 (Opens.lim (opens_int Try.underlying3) m) (opensFL_cons rfl qa12 (Opens.lim (opens_string Try.underlying9) m) (opensFL_cons rfl qa12 (Opens.lim (opens_string Try.underlying9) m) (opensFL_cons rfl qa12 (Opens.lim (opens_slice Try.underlying191 qa12 o204) m) (opensFL_cons rfl qa12 (Opens.lim (opens_slice Try.underlying192 qa12 o207) m) (opensFL_one rfl rfl qa12 (opensL_slice Try.underlying181 (by rw [sz194]; kernel_rfl) (o194n m)))))))) (fun y => ⟨y.1, y.2.1, y.2.2.1, y.2.2.2.1, y.2.2.2.2.1, y.2.2.2.2.2⟩) (fun _ => rfl)
theorem o194 : Opens Try.prog 194 k194 i194 := opens_fix o194n
def i183 (x : S183) : Prop := (Lit.int .i64 x.f0).wf = true ∧ x.f1.size ≤ 9223372036854775807 ∧ x.f2.size ≤ 9223372036854775807 ∧ (x.f3.length ≤ 9223372036854775807 ∧ ∀ y1_ ∈ x.f3, i194 y1_)
theorem o183 : Opens Try.prog 183 k183 i183 := opens_struct (N := 4) Try.underlying183 qa12 (opensF_cons rfl qa12 (opens_int Try.underlying3) (opensF_cons rfl qa12 (opens_string Try.underlying9) (opensF_cons rfl qa12 (opens_string Try.underlying9) (opensF_one rfl rfl qa12 (opens_slice Try.underlying181 qa12 o194))))) (fun y => ⟨y.1, y.2.1, y.2.2.1, y.2.2.2⟩) (fun _ => rfl)
def i102 (x : S102) : Prop := (x.f0.length ≤ 9223372036854775807 ∧ ∀ y1_ ∈ x.f0, i183 y1_)
theorem o102 : Opens Try.prog 102 k102 i102 := opens_struct (N := 1) Try.underlying102 qa12 (opensF_one rfl rfl qa12 (opens_slice Try.underlying100 qa12 o183)) (fun y => ⟨y⟩) (fun _ => rfl)
def i77 (x : S77) : Prop := x.f0.size ≤ 9223372036854775807 ∧ i30 x.f1
theorem o77 : Opens Try.prog 77 k77 i77 := opens_struct (N := 4) Try.underlying77 qa12 (opensF_cons rfl qa12 (opens_string Try.underlying9) (opensF_one rfl rfl qa12 o30)) (fun y => ⟨y.1, y.2⟩) (fun _ => rfl)
def i104 (x : S104) : Prop := i102 x.f0 ∧ (x.f1.length ≤ 9223372036854775807 ∧ ∀ y1_ ∈ x.f1, i77 y1_)
theorem o104 : Opens Try.prog 104 k104 i104 := opens_struct (N := 2) Try.underlying104 qa12 (opensF_cons rfl qa12 o102 (opensF_one rfl rfl qa12 (opens_slice Try.underlying22 qa12 o77))) (fun y => ⟨y.1, y.2⟩) (fun _ => rfl)
def i106 (x : S106) : Prop := (Lit.int .i64 x.f0).wf = true ∧ (Lit.int .i64 x.f1).wf = true ∧ (Lit.int .i64 x.f2).wf = true ∧ (Lit.int .i64 x.f3).wf = true ∧ True ∧ i104 x.f5 ∧ x.f6.size ≤ 9223372036854775807
theorem o106 : Opens Try.prog 106 k106 i106 := opens_struct (N := 8) Try.underlying106 qa12 (opensF_cons rfl qa12 (opens_int Try.underlying3) (opensF_cons rfl qa12 (opens_int Try.underlying3) (opensF_cons rfl qa12 (opens_int Try.underlying3) (opensF_cons rfl qa12 (opens_int Try.underlying3) (opensF_cons rfl qa12 (opens_bool Try.underlying4) (opensF_cons rfl qa12 o104 (opensF_one rfl rfl qa12 (opens_string Try.underlying9)))))))) (fun y => ⟨y.1, y.2.1, y.2.2.1, y.2.2.2.1, y.2.2.2.2.1, y.2.2.2.2.2.1, y.2.2.2.2.2.2⟩) (fun _ => rfl)
def laws_FnExactCommittedOf.Pure2 : Prop := ∀ (y0 : List (S106)), (y0.length ≤ 9223372036854775807 ∧ ∀ y1_ ∈ y0, i106 y1_) → ∃ k, laws_FnExactCommittedOf.f k y0 = some true
end Go.Proofs.Ytfpkooafbeejmaa.Q
namespace Go.Proofs.Ytfpkooafbeejmaa.Q
open Go.RowKit Go.Proofs.YtfpkooafbeejmaaW.PrintWords Go.Proofs.YtfpkooafbeejmaaW.PrintLast Go.Proofs.YtfpkooafbeejmaaW.PrintMore
attribute [local go_sem] max2_int min2_int max_two min_two max_three min_three max_four min_four
set_option linter.unusedVariables false
set_option linter.unusedSimpArgs false

def spec_l00Letter.f (a0 : Int) : Option (Bool) := if a0 ≥ 97 then (if a0 ≤ 122 then (some true) else (if a0 ≥ 65 then (if a0 ≤ 90 then (some true) else (some (a0 == 95))) else (some (a0 == 95)))) else (if a0 ≥ 65 then (if a0 ≤ 90 then (some true) else (some (a0 == 95))) else (some (a0 == 95)))
set_option maxHeartbeats 8000000 in
set_option maxRecDepth 100000 in
theorem spec_l00Letter.calls (a0 : Int) (r : Bool) (w : World) (h : spec_l00Letter.f a0 = some r) :
  Calls Try.prog 123 #[.int .u8 a0] w fun e w' => e = .returned (.bool r) ∧ Drawn0 w w' := by
 have H : (if a0 ≥ 97 then (if a0 ≤ 122 then (some true) else (if a0 ≥ 65 then (if a0 ≤ 90 then (some true) else (some (a0 == 95))) else (some (a0 == 95)))) else (if a0 ≥ 65 then (if a0 ≤ 90 then (some true) else (some (a0 == 95))) else (some (a0 == 95)))) = some r := h; clear h
 by_cases c2 : a0 ≥ 97
 ·rw [if_pos c2] at H
  have c2b0 : decide (97 ≤ a0) = true := decide_eq_true c2; clear c2
  by_cases c3 : a0 ≤ 122
  ·rw [if_pos c3] at H
   have c3b0 : decide (a0 ≤ 122) = true := decide_eq_true c3; clear c3; obtain rfl := Option.some.inj H
   go_enter Try.func123, Try.ntmps123
   go_wp2
   go_ret
   exact ⟨qa7, qa16⟩
  ·rw [if_neg c3] at H
   have c3b0 : decide (a0 ≤ 122) = false := decide_eq_false c3; clear c3
   by_cases c4 : a0 ≥ 65
   ·rw [if_pos c4] at H
    have c4b0 : decide (65 ≤ a0) = true := decide_eq_true c4; clear c4
    by_cases c5 : a0 ≤ 90
    ·rw [if_pos c5] at H
     have c5b0 : decide (a0 ≤ 90) = true := decide_eq_true c5; clear c5; obtain rfl := Option.some.inj H
     go_enter Try.func123, Try.ntmps123
     go_wp2
     go_ret
     exact ⟨qa7, qa16⟩
    ·rw [if_neg c5] at H
     have c5b0 : decide (a0 ≤ 90) = false := decide_eq_false c5; clear c5; obtain rfl := Option.some.inj H
     go_enter Try.func123, Try.ntmps123
     go_wp2
     go_ret
     exact ⟨qa7, qa16⟩
   ·rw [if_neg c4] at H
    have c4b0 : decide (65 ≤ a0) = false := decide_eq_false c4; clear c4; obtain rfl := Option.some.inj H
    go_enter Try.func123, Try.ntmps123
    go_wp2
    go_ret
    exact ⟨qa7, qa16⟩
 ·rw [if_neg c2] at H
  have c2b0 : decide (97 ≤ a0) = false := decide_eq_false c2; clear c2
  by_cases c6 : a0 ≥ 65
  ·rw [if_pos c6] at H
   have c6b0 : decide (65 ≤ a0) = true := decide_eq_true c6; clear c6
   by_cases c7 : a0 ≤ 90
   ·rw [if_pos c7] at H
    have c7b0 : decide (a0 ≤ 90) = true := decide_eq_true c7; clear c7; obtain rfl := Option.some.inj H
    go_enter Try.func123, Try.ntmps123
    go_wp2
    go_ret
    exact ⟨qa7, qa16⟩
   ·rw [if_neg c7] at H
    have c7b0 : decide (a0 ≤ 90) = false := decide_eq_false c7; clear c7; obtain rfl := Option.some.inj H
    go_enter Try.func123, Try.ntmps123
    go_wp2
    go_ret
    exact ⟨qa7, qa16⟩
  ·rw [if_neg c6] at H
   have c6b0 : decide (65 ≤ a0) = false := decide_eq_false c6; clear c6; obtain rfl := Option.some.inj H
   go_enter Try.func123, Try.ntmps123
   go_wp2
   go_ret
   exact ⟨qa7, qa16⟩


def spec_l00Digit.f (a0 : Int) : Option (Bool) := if a0 ≥ 48 then (some (decide (a0 ≤ 57))) else (some false)
set_option maxHeartbeats 8000000 in
set_option maxRecDepth 100000 in
theorem spec_l00Digit.calls (a0 : Int) (r : Bool) (w : World) (h : spec_l00Digit.f a0 = some r) :
  Calls Try.prog 124 #[.int .u8 a0] w fun e w' => e = .returned (.bool r) ∧ Drawn0 w w' := by
 have H : (if a0 ≥ 48 then (some (decide (a0 ≤ 57))) else (some false)) = some r := h; clear h
 by_cases c2 : a0 ≥ 48
 ·rw [if_pos c2] at H
  have c2b0 : decide (48 ≤ a0) = true := decide_eq_true c2; clear c2; obtain rfl := Option.some.inj H
  go_enter Try.func124, Try.ntmps124
  go_wp2
  go_ret
  exact ⟨qa7, qa16⟩
 ·rw [if_neg c2] at H
  have c2b0 : decide (48 ≤ a0) = false := decide_eq_false c2; clear c2; obtain rfl := Option.some.inj H
  go_enter Try.func124, Try.ntmps124
  go_wp2
  go_ret
  exact ⟨qa7, qa16⟩


mutual
def spec_l00Word.j0 : Nat → ByteArray → Bool → Option (Bool)
 | 0, _, _ => none
 | k + 1, x0, x17 => if x17 = true then (some false) else (spec_l00Word.l0 k x0 1)
def spec_l00Word.l0 : Nat → ByteArray → Int → Option (Bool)
 | 0, _, _ => none
 | k + 1, x0, x3 => if x3 < (x0.size : Int) then (if 0 ≤ x3 then ((spec_l00Letter.f (bt x0 x3)).bind fun t102 => (if t102 = true then (spec_l00Word.l0 k x0 (wrap64 (x3 + 1))) else ((spec_l00Digit.f (bt x0 x3)).bind fun t103 => (if t103 = true then (spec_l00Word.l0 k x0 (wrap64 (x3 + 1))) else (some false))))) else (none)) else (some true)
end
def spec_l00Word.f (k : Nat) (a0 : ByteArray) : Option (Bool) := if (a0.size : Int) < 1 then (spec_l00Word.j0 k a0 true) else (if (a0.size : Int) > 40 then (spec_l00Word.j0 k a0 true) else (if 0 < (a0.size : Int) then ((spec_l00Letter.f (bt a0 0)).bind fun t101 => (spec_l00Word.j0 k a0 (!t101))) else (none)))
set_option maxHeartbeats 8000000 in
set_option maxRecDepth 100000 in
theorem spec_l00Word.calls (k : Nat) (a0 : ByteArray) (r : Bool) (w : World) (h : spec_l00Word.f k a0 = some r) :
  Calls Try.prog 92 #[.string a0] w fun e w' => e = .returned (.bool r) ∧ Drawn0 w w' := by
 have H : (if (a0.size : Int) < 1 then (spec_l00Word.j0 k a0 true) else (if (a0.size : Int) > 40 then (spec_l00Word.j0 k a0 true) else (if 0 < (a0.size : Int) then ((spec_l00Letter.f (bt a0 0)).bind fun t101 => (spec_l00Word.j0 k a0 (!t101))) else (none)))) = some r := h; clear h; have HC2 := qO H; clear H
 go_enter Try.func92, Try.ntmps92
 go_upto_region 1 with (fail)
 go_cut [17] (fun v17 wc => ∃ (kq : Nat) (x17_1 : Bool), v17 = .bool x17_1 ∧ Aside0 (spec_l00Word.j0 kq a0 x17_1 = some r) ∧ Aside0 (kq ≤ k) ∧ Drawn0 w wc)
 case first =>
  have H := HC2.out; clear HC2
  by_cases c3 : (a0.size : Int) < 1
  ·rw [if_pos c3] at H
   have c3b0 : decide ((a0.size : Int) < 1) = true := decide_eq_true c3; have c3b1 : decide (a0.size < 1) = true := decide_eq_true qa14; clear c3; (first | rw [c3b0] | (simp only [i64_w, i32_w]; rw [c3b0]) | skip); have H' := qO H; clear H; go_wp2
   go_meet
   case rel => exact ⟨_, (true), qa7, H', ⟨qa101⟩, qa16⟩
  ·rw [if_neg c3] at H
   have c3b0 : decide ((a0.size : Int) < 1) = false := decide_eq_false c3; have c3b1 : decide (a0.size < 1) = false := decide_eq_false qa14; clear c3; (first | rw [c3b0] | (simp only [i64_w, i32_w]; rw [c3b0]) | skip)
   by_cases c4 : (a0.size : Int) > 40
   ·rw [if_pos c4] at H
    have c4b0 : decide (40 < (a0.size : Int)) = true := decide_eq_true c4; have c4b1 : decide (40 < a0.size) = true := decide_eq_true qa14; clear c4; have H' := qO H; clear H; go_wp2
    go_meet
    case rel => exact ⟨_, (true), qa7, H', ⟨qa101⟩, qa16⟩
   ·rw [if_neg c4] at H
    have c4b0 : decide (40 < (a0.size : Int)) = false := decide_eq_false c4; have c4b1 : decide (40 < a0.size) = false := decide_eq_false qa14; clear c4
    by_cases c5 : 0 < (a0.size : Int)
    ·rw [if_pos c5] at H
     have c5b0 : decide (0 < (a0.size : Int)) = true := decide_eq_true c5; have c5b1 : decide (0 < a0.size) = true := decide_eq_true qa14; clear c5; replace H := Option.bind_eq_some_iff.mp H; obtain ⟨t101, A70, H⟩ := H; replace H : (spec_l00Word.j0 k a0 (!t101)) = some r := H; have A7 := qO A70; clear A70; have H' := qO H; clear H; have p6 : 0 ≤ (0 : Int) := qa14; have q6 : 0 < a0.size := (by have : (0 : Int) < (a0.size : Int) := qT qa4; omega); have hx6 : ∀ h : 0 < a0.size, ((a0[0]'h).toNat : Int) = bt a0 0 := bt_at a0 0; clear p6; have qi6 : (0 < (a0.size : Int)) = True := eq_true (qT qa4); replace q6 := eq_true q6
     go_wp2_with (first | (go_at_call 123; (with_reducible refine (spec_l00Letter.calls (bt a0 0) t101 _ A7.out).mono ?_); rintro e w' ⟨rfl, ⟨nd, rfl⟩⟩))
     go_meet
     case rel => exact ⟨_, (!t101), qa7, H', ⟨qa101⟩, qa16⟩
    ·rw [if_neg c5] at H
     exact absurd H qa79
 case rest =>
  clear HC2
  try clear p2
  try clear c3
  try clear c3b0
  try clear c3b1
  try clear c4
  try clear c4b0
  try clear c4b1
  try clear c5
  try clear c5b0
  try clear c5b1
  try clear p6
  try clear q6
  try clear hx6
  try clear qi6
  try clear p6
  try clear q6
  obtain ⟨kq, x17_1, rfl, HA, HJ1, ⟨mc1, rfl⟩⟩ := hcut
  cases kq with
  | zero => exact absurd HA.out (by simp [spec_l00Word.j0])
  | succ kj1 =>
   have H := HA.out; clear HA; simp only [spec_l00Word.j0] at H
   by_cases c8 : x17_1 = true
   ·subst c8
    have H1 : (some false) = some r := by rw [if_pos rfl] at H; exact H
    clear H; have H := H1; clear H1; obtain rfl := Option.some.inj H; go_wp2
    go_ret
    exact ⟨qa7, qa16⟩
   ·replace c8 := Bool.eq_false_iff.mpr c8
    subst c8; have H1 : (spec_l00Word.l0 kj1 a0 1) = some r := by rw [if_neg (show ¬ (false = true) by decide)] at H; exact H
    clear H; have H := H1; clear H1; have H' := qO H; clear H; go_wp2
    go_loopg [3] kj1 (fun kq v3 w' => ∃ (x3_2 : Int), v3 = .int .i64 x3_2 ∧ Aside0 (spec_l00Word.l0 kq a0 x3_2 = some r) ∧ Aside0 (kq ≤ kj1) ∧ Drawn0 w w')
    case atStart => exact ⟨(1), qa7, H', ⟨Nat.le_refl _⟩, qa16⟩
    case round =>
     clear H'
     try clear c1
     try clear p2
     try clear c3
     try clear c3b0
     try clear c3b1
     try clear c4
     try clear c4b0
     try clear c4b1
     try clear c5
     try clear c5b0
     try clear c5b1
     try clear p6
     try clear q6
     try clear hx6
     try clear qi6
     try clear c8
     try clear p2
     try clear p6
     try clear q6
     obtain ⟨x3_2, rfl, HA, HK2, ⟨m2, rfl⟩⟩ := hrel
     cases gk with
     | zero => exact absurd HA.out (by simp [spec_l00Word.l0])
     | succ k2 =>
      have H := HA.out; clear HA; simp only [spec_l00Word.l0] at H
      by_cases c9 : x3_2 < (a0.size : Int)
      ·rw [if_pos c9] at H
       have c9b0 : decide (x3_2 < (a0.size : Int)) = true := decide_eq_true c9; clear c9
       by_cases c10 : 0 ≤ x3_2
       ·rw [if_pos c10] at H
        have c10b0 : decide (0 ≤ x3_2) = true := decide_eq_true c10; clear c10; replace H := Option.bind_eq_some_iff.mp H; obtain ⟨t102, A120, H⟩ := H; replace H : (if t102 = true then (spec_l00Word.l0 k2 a0 (wrap64 (x3_2 + 1))) else ((spec_l00Digit.f (bt a0 x3_2)).bind fun t103 => (if t103 = true then (spec_l00Word.l0 k2 a0 (wrap64 (x3_2 + 1))) else (some false)))) = some r := H; have A12 := qO A120; clear A120
        by_cases c13 : t102 = true
        ·subst c13
         have H1 : (spec_l00Word.l0 k2 a0 (wrap64 (x3_2 + 1))) = some r := by rw [if_pos rfl] at H; exact H
         clear H; have H := H1; clear H1; have H' := qO H; clear H; have p11 : 0 ≤ (x3_2 : Int) := qT qa4; have q11 : x3_2 < (a0.size : Int) := qT qa4; have hx11 := bt_at a0 x3_2; replace p11 := eq_true p11; replace q11 := eq_true q11
         go_wp2_with (first | ((with_reducible refine gate_callee (f := 123) rfl ?_); refine goesL_ (some 27) rfl rfl Try.func123 qa12 rfl #[.int .u8 (bt a0 x3_2)] rfl qa1 ?_; (with_reducible refine (spec_l00Letter.calls (bt a0 x3_2) true _ A12.out).mono ?_); rintro e w' ⟨rfl, ⟨nd, rfl⟩⟩; refine ⟨_, rfl, ?_⟩))
         go_roundg k2
         case measure => have := HJ1.out; have := HK2.out; omega
         case rel => exact ⟨(wrap64 (x3_2 + 1)), qa7, H', ⟨by have := HJ1.out; have := HK2.out; omega⟩, qa16⟩
        ·replace c13 := Bool.eq_false_iff.mpr c13
         subst c13; have H1 : ((spec_l00Digit.f (bt a0 x3_2)).bind fun t103 => (if t103 = true then (spec_l00Word.l0 k2 a0 (wrap64 (x3_2 + 1))) else (some false))) = some r := by rw [if_neg (show ¬ (false = true) by decide)] at H; exact H
         clear H; have H := H1; clear H1; replace H := Option.bind_eq_some_iff.mp H; obtain ⟨t103, A150, H⟩ := H; replace H : (if t103 = true then (spec_l00Word.l0 k2 a0 (wrap64 (x3_2 + 1))) else (some false)) = some r := H; have A15 := qO A150; clear A150
         by_cases c16 : t103 = true
         ·subst c16
          have H1 : (spec_l00Word.l0 k2 a0 (wrap64 (x3_2 + 1))) = some r := by rw [if_pos rfl] at H; exact H
          clear H; have H := H1; clear H1; have H' := qO H; clear H; have p11 : 0 ≤ (x3_2 : Int) := qT qa4; have q11 : x3_2 < (a0.size : Int) := qT qa4; have hx11 := bt_at a0 x3_2; replace p11 := eq_true p11; replace q11 := eq_true q11
          go_wp2_with (first | ((with_reducible refine gate_callee (f := 123) rfl ?_); refine goesL_ (some 27) rfl rfl Try.func123 qa12 rfl #[.int .u8 (bt a0 x3_2)] rfl qa1 ?_; (with_reducible refine (spec_l00Letter.calls (bt a0 x3_2) false _ A12.out).mono ?_); rintro e w' ⟨rfl, ⟨nd, rfl⟩⟩; refine ⟨_, rfl, ?_⟩; have p14 : 0 ≤ (x3_2 : Int) := qT qa4; have q14 : x3_2 < (a0.size : Int) := qT qa4; have hx14 := bt_at a0 x3_2; replace p14 := eq_true p14; replace q14 := eq_true q14) | (go_at_call 124; (with_reducible refine (spec_l00Digit.calls (bt a0 x3_2) true _ A15.out).mono ?_); rintro e w' ⟨rfl, ⟨nd, rfl⟩⟩))
          go_roundg k2
          case measure => have := HJ1.out; have := HK2.out; omega
          case rel => exact ⟨(wrap64 (x3_2 + 1)), qa7, H', ⟨by have := HJ1.out; have := HK2.out; omega⟩, qa16⟩
         ·replace c16 := Bool.eq_false_iff.mpr c16
          subst c16; have H1 : (some false) = some r := by rw [if_neg (show ¬ (false = true) by decide)] at H; exact H
          clear H; have H := H1; clear H1; obtain rfl := Option.some.inj H; have p11 : 0 ≤ (x3_2 : Int) := qT qa4; have q11 : x3_2 < (a0.size : Int) := qT qa4; have hx11 := bt_at a0 x3_2; replace p11 := eq_true p11; replace q11 := eq_true q11
          go_wp2_with (first | ((with_reducible refine gate_callee (f := 123) rfl ?_); refine goesL_ (some 27) rfl rfl Try.func123 qa12 rfl #[.int .u8 (bt a0 x3_2)] rfl qa1 ?_; (with_reducible refine (spec_l00Letter.calls (bt a0 x3_2) false _ A12.out).mono ?_); rintro e w' ⟨rfl, ⟨nd, rfl⟩⟩; refine ⟨_, rfl, ?_⟩; have p14 : 0 ≤ (x3_2 : Int) := qT qa4; have q14 : x3_2 < (a0.size : Int) := qT qa4; have hx14 := bt_at a0 x3_2; replace p14 := eq_true p14; replace q14 := eq_true q14) | (go_at_call 124; (with_reducible refine (spec_l00Digit.calls (bt a0 x3_2) false _ A15.out).mono ?_); rintro e w' ⟨rfl, ⟨nd, rfl⟩⟩))
          go_ret
          exact ⟨qa7, qa16⟩
       ·rw [if_neg c10] at H
        exact absurd H qa79
      ·rw [if_neg c9] at H
       have c9b0 : decide (x3_2 < (a0.size : Int)) = false := decide_eq_false c9; clear c9; obtain rfl := Option.some.inj H; go_wp2
       go_ret
       exact ⟨qa7, qa16⟩


def spec_NameOK.f (k : Nat) (a0 : ByteArray) : Option (Bool) := (spec_l00Word.f k a0).bind fun t101 => (some t101)
set_option maxHeartbeats 8000000 in
set_option maxRecDepth 100000 in
theorem spec_NameOK.calls (k : Nat) (a0 : ByteArray) (r : Bool) (w : World) (h : spec_NameOK.f k a0 = some r) :
  Calls Try.prog 47 #[.string a0] w fun e w' => e = .returned (.bool r) ∧ Drawn0 w w' := by
 have H : ((spec_l00Word.f k a0).bind fun t101 => (some t101)) = some r := h; clear h; replace H := Option.bind_eq_some_iff.mp H; obtain ⟨t101, A20, H⟩ := H; replace H : (some t101) = some r := H; have A2 := qO A20; clear A20; obtain rfl := Option.some.inj H
 go_enter Try.func47, Try.ntmps47
 go_wp2_with (first | ((with_reducible refine gate_callee (f := 92) rfl ?_); refine goesL_ (some 4) rfl rfl Try.func92 qa12 rfl #[.string a0] rfl qa1 ?_; (with_reducible refine (spec_l00Word.calls k a0 t101 _ A2.out).mono ?_); rintro e w' ⟨rfl, ⟨nd, rfl⟩⟩; refine ⟨_, rfl, ?_⟩))
 go_ret
 exact ⟨qa7, qa16⟩


def impl_isLetter.f (a0 : Int) : Option (Bool) := if a0 ≥ 97 then (if a0 ≤ 122 then (some true) else (if a0 ≥ 65 then (if a0 ≤ 90 then (some true) else (some (a0 == 95))) else (some (a0 == 95)))) else (if a0 ≥ 65 then (if a0 ≤ 90 then (some true) else (some (a0 == 95))) else (some (a0 == 95)))
set_option maxHeartbeats 8000000 in
set_option maxRecDepth 100000 in
theorem impl_isLetter.calls (a0 : Int) (r : Bool) (w : World) (h : impl_isLetter.f a0 = some r) :
  Calls Try.prog 96 #[.int .u8 a0] w fun e w' => e = .returned (.bool r) ∧ Drawn0 w w' := by
 have H : (if a0 ≥ 97 then (if a0 ≤ 122 then (some true) else (if a0 ≥ 65 then (if a0 ≤ 90 then (some true) else (some (a0 == 95))) else (some (a0 == 95)))) else (if a0 ≥ 65 then (if a0 ≤ 90 then (some true) else (some (a0 == 95))) else (some (a0 == 95)))) = some r := h; clear h
 by_cases c2 : a0 ≥ 97
 ·rw [if_pos c2] at H
  have c2b0 : decide (97 ≤ a0) = true := decide_eq_true c2; clear c2
  by_cases c3 : a0 ≤ 122
  ·rw [if_pos c3] at H
   have c3b0 : decide (a0 ≤ 122) = true := decide_eq_true c3; clear c3; obtain rfl := Option.some.inj H
   go_enter Try.func96, Try.ntmps96
   go_wp2
   go_ret
   exact ⟨qa7, qa16⟩
  ·rw [if_neg c3] at H
   have c3b0 : decide (a0 ≤ 122) = false := decide_eq_false c3; clear c3
   by_cases c4 : a0 ≥ 65
   ·rw [if_pos c4] at H
    have c4b0 : decide (65 ≤ a0) = true := decide_eq_true c4; clear c4
    by_cases c5 : a0 ≤ 90
    ·rw [if_pos c5] at H
     have c5b0 : decide (a0 ≤ 90) = true := decide_eq_true c5; clear c5; obtain rfl := Option.some.inj H
     go_enter Try.func96, Try.ntmps96
     go_wp2
     go_ret
     exact ⟨qa7, qa16⟩
    ·rw [if_neg c5] at H
     have c5b0 : decide (a0 ≤ 90) = false := decide_eq_false c5; clear c5; obtain rfl := Option.some.inj H
     go_enter Try.func96, Try.ntmps96
     go_wp2
     go_ret
     exact ⟨qa7, qa16⟩
   ·rw [if_neg c4] at H
    have c4b0 : decide (65 ≤ a0) = false := decide_eq_false c4; clear c4; obtain rfl := Option.some.inj H
    go_enter Try.func96, Try.ntmps96
    go_wp2
    go_ret
    exact ⟨qa7, qa16⟩
 ·rw [if_neg c2] at H
  have c2b0 : decide (97 ≤ a0) = false := decide_eq_false c2; clear c2
  by_cases c6 : a0 ≥ 65
  ·rw [if_pos c6] at H
   have c6b0 : decide (65 ≤ a0) = true := decide_eq_true c6; clear c6
   by_cases c7 : a0 ≤ 90
   ·rw [if_pos c7] at H
    have c7b0 : decide (a0 ≤ 90) = true := decide_eq_true c7; clear c7; obtain rfl := Option.some.inj H
    go_enter Try.func96, Try.ntmps96
    go_wp2
    go_ret
    exact ⟨qa7, qa16⟩
   ·rw [if_neg c7] at H
    have c7b0 : decide (a0 ≤ 90) = false := decide_eq_false c7; clear c7; obtain rfl := Option.some.inj H
    go_enter Try.func96, Try.ntmps96
    go_wp2
    go_ret
    exact ⟨qa7, qa16⟩
  ·rw [if_neg c6] at H
   have c6b0 : decide (65 ≤ a0) = false := decide_eq_false c6; clear c6; obtain rfl := Option.some.inj H
   go_enter Try.func96, Try.ntmps96
   go_wp2
   go_ret
   exact ⟨qa7, qa16⟩


def impl_isDigit.f (a0 : Int) : Option (Bool) := if a0 ≥ 48 then (some (decide (a0 ≤ 57))) else (some false)
set_option maxHeartbeats 8000000 in
set_option maxRecDepth 100000 in
theorem impl_isDigit.calls (a0 : Int) (r : Bool) (w : World) (h : impl_isDigit.f a0 = some r) :
  Calls Try.prog 97 #[.int .u8 a0] w fun e w' => e = .returned (.bool r) ∧ Drawn0 w w' := by
 have H : (if a0 ≥ 48 then (some (decide (a0 ≤ 57))) else (some false)) = some r := h; clear h
 by_cases c2 : a0 ≥ 48
 ·rw [if_pos c2] at H
  have c2b0 : decide (48 ≤ a0) = true := decide_eq_true c2; clear c2; obtain rfl := Option.some.inj H
  go_enter Try.func97, Try.ntmps97
  go_wp2
  go_ret
  exact ⟨qa7, qa16⟩
 ·rw [if_neg c2] at H
  have c2b0 : decide (48 ≤ a0) = false := decide_eq_false c2; clear c2; obtain rfl := Option.some.inj H
  go_enter Try.func97, Try.ntmps97
  go_wp2
  go_ret
  exact ⟨qa7, qa16⟩


def impl_NameOK.l0 : Nat → ByteArray → Int → Int → Option (Bool)
 | 0, _, _, _ => none
 | k + 1, x0, x5, x6 => if x6 < x5 then (if 0 ≤ x6 then (if x6 < (x0.size : Int) then ((impl_isLetter.f (bt x0 x6)).bind fun t102 => (if t102 = true then (impl_NameOK.l0 k x0 x5 (wrap64 (x6 + 1))) else (if x6 = 0 then (some false) else ((impl_isDigit.f (bt x0 x6)).bind fun t103 => (if t103 = true then (impl_NameOK.l0 k x0 x5 (wrap64 (x6 + 1))) else (some false)))))) else (none)) else (none)) else ((impl_within.f (x0.size : Int) 1 40).bind fun t101 => (some t101))
def impl_NameOK.f (k : Nat) (a0 : ByteArray) : Option (Bool) := impl_NameOK.l0 k a0 (a0.size : Int) 0
set_option maxHeartbeats 8000000 in
set_option maxRecDepth 100000 in
theorem impl_NameOK.calls (k : Nat) (a0 : ByteArray) (r : Bool) (w : World) (h : impl_NameOK.f k a0 = some r) :
  Calls Try.prog 52 #[.string a0] w fun e w' => e = .returned (.bool r) ∧ Drawn0 w w' := by
 have H : (impl_NameOK.l0 k a0 (a0.size : Int) 0) = some r := h; clear h; have H' := qO H; clear H
 go_enter Try.func52, Try.ntmps52
 go_wp2
 go_loopg [6] k (fun kq v6 w' => ∃ (x6_1 : Int), v6 = .int .i64 x6_1 ∧ Aside0 (impl_NameOK.l0 kq a0 (a0.size : Int) x6_1 = some r) ∧ Aside0 (kq ≤ k) ∧ Drawn0 w w')
 case atStart => exact ⟨(0), qa7, H', ⟨Nat.le_refl _⟩, qa16⟩
 case round =>
  clear H'; obtain ⟨x6_1, rfl, HA, HK1, ⟨m1, rfl⟩⟩ := hrel
  cases gk with
  | zero => exact absurd HA.out (by simp [impl_NameOK.l0])
  | succ k1 =>
   have H := HA.out; clear HA; simp only [impl_NameOK.l0] at H
   by_cases c2 : x6_1 < (a0.size : Int)
   ·rw [if_pos c2] at H
    have c2b0 : decide (x6_1 < (a0.size : Int)) = true := decide_eq_true c2; clear c2
    by_cases c3 : 0 ≤ x6_1
    ·rw [if_pos c3] at H
     have c3b0 : decide (0 ≤ x6_1) = true := decide_eq_true c3; clear c3
     by_cases c4 : x6_1 < (a0.size : Int)
     ·rw [if_pos c4] at H
      have c4b0 : decide (x6_1 < (a0.size : Int)) = true := decide_eq_true c4; clear c4; replace H := Option.bind_eq_some_iff.mp H; obtain ⟨t102, A60, H⟩ := H; replace H : (if t102 = true then (impl_NameOK.l0 k1 a0 (a0.size : Int) (wrap64 (x6_1 + 1))) else (if x6_1 = 0 then (some false) else ((impl_isDigit.f (bt a0 x6_1)).bind fun t103 => (if t103 = true then (impl_NameOK.l0 k1 a0 (a0.size : Int) (wrap64 (x6_1 + 1))) else (some false))))) = some r := H; have A6 := qO A60; clear A60
      by_cases c7 : t102 = true
      ·subst c7
       have H1 : (impl_NameOK.l0 k1 a0 (a0.size : Int) (wrap64 (x6_1 + 1))) = some r := by rw [if_pos rfl] at H; exact H
       clear H; have H := H1; clear H1; have H' := qO H; clear H; have p5 : 0 ≤ (x6_1 : Int) := qT qa4; have q5 : x6_1 < (a0.size : Int) := qT qa4; have hx5 := bt_at a0 x6_1; replace p5 := eq_true p5; replace q5 := eq_true q5
       go_wp2_with (first | ((with_reducible refine gate_callee (f := 96) rfl ?_); refine goesL_ (some 12) rfl rfl Try.func96 qa12 rfl #[.int .u8 (bt a0 x6_1)] rfl qa1 ?_; (with_reducible refine (impl_isLetter.calls (bt a0 x6_1) true _ A6.out).mono ?_); rintro e w' ⟨rfl, ⟨nd, rfl⟩⟩; refine ⟨_, rfl, ?_⟩))
       go_roundg k1
       case measure => have := HK1.out; omega
       case rel => exact ⟨(wrap64 (x6_1 + 1)), qa7, H', ⟨qa37⟩, qa16⟩
      ·replace c7 := Bool.eq_false_iff.mpr c7
       subst c7; have H1 : (if x6_1 = 0 then (some false) else ((impl_isDigit.f (bt a0 x6_1)).bind fun t103 => (if t103 = true then (impl_NameOK.l0 k1 a0 (a0.size : Int) (wrap64 (x6_1 + 1))) else (some false)))) = some r := by rw [if_neg (show ¬ (false = true) by decide)] at H; exact H
       clear H; have H := H1; clear H1
       by_cases c8 : x6_1 = 0
       ·rw [if_pos c8] at H
        have c8b0 : (x6_1 == 0) = true := beq_iff_eq.mpr c8; have c8b1 : (x6_1 != 0) = false := bne_eq_false_iff_eq.mpr c8; clear c8; obtain rfl := Option.some.inj H; have p5 : 0 ≤ (x6_1 : Int) := qT qa4; have q5 : x6_1 < (a0.size : Int) := qT qa4; have hx5 := bt_at a0 x6_1; replace p5 := eq_true p5; replace q5 := eq_true q5
        go_wp2_with (first | ((with_reducible refine gate_callee (f := 96) rfl ?_); refine goesL_ (some 12) rfl rfl Try.func96 qa12 rfl #[.int .u8 (bt a0 x6_1)] rfl qa1 ?_; (with_reducible refine (impl_isLetter.calls (bt a0 x6_1) false _ A6.out).mono ?_); rintro e w' ⟨rfl, ⟨nd, rfl⟩⟩; refine ⟨_, rfl, ?_⟩))
        go_ret
        exact ⟨qa7, qa16⟩
       ·rw [if_neg c8] at H
        have c8b0 : (x6_1 == 0) = false := beq_eq_false_iff_ne.mpr c8; have c8b1 : (x6_1 != 0) = true := bne_iff_ne.mpr c8; replace H := Option.bind_eq_some_iff.mp H; obtain ⟨t103, A100, H⟩ := H; replace H : (if t103 = true then (impl_NameOK.l0 k1 a0 (a0.size : Int) (wrap64 (x6_1 + 1))) else (some false)) = some r := H; have A10 := qO A100; clear A100
        by_cases c11 : t103 = true
        ·subst c11
         have H1 : (impl_NameOK.l0 k1 a0 (a0.size : Int) (wrap64 (x6_1 + 1))) = some r := by rw [if_pos rfl] at H; exact H
         clear H; have H := H1; clear H1; have H' := qO H; clear H; have p5 : 0 ≤ (x6_1 : Int) := qT qa4; have q5 : x6_1 < (a0.size : Int) := qT qa4; have hx5 := bt_at a0 x6_1; replace p5 := eq_true p5; replace q5 := eq_true q5
         go_wp2_with (first | ((with_reducible refine gate_callee (f := 96) rfl ?_); refine goesL_ (some 12) rfl rfl Try.func96 qa12 rfl #[.int .u8 (bt a0 x6_1)] rfl qa1 ?_; (with_reducible refine (impl_isLetter.calls (bt a0 x6_1) false _ A6.out).mono ?_); rintro e w' ⟨rfl, ⟨nd, rfl⟩⟩; refine ⟨_, rfl, ?_⟩; have p9 : 0 ≤ (x6_1 : Int) := qT qa4; have q9 : x6_1 < (a0.size : Int) := qT qa4; have hx9 := bt_at a0 x6_1; replace p9 := eq_true p9; replace q9 := eq_true q9) | (go_at_call 97; (with_reducible refine (impl_isDigit.calls (bt a0 x6_1) true _ A10.out).mono ?_); rintro e w' ⟨rfl, ⟨nd, rfl⟩⟩))
         go_roundg k1
         case measure => have := HK1.out; omega
         case rel => exact ⟨(wrap64 (x6_1 + 1)), qa7, H', ⟨qa37⟩, qa16⟩
        ·replace c11 := Bool.eq_false_iff.mpr c11
         subst c11; have H1 : (some false) = some r := by rw [if_neg (show ¬ (false = true) by decide)] at H; exact H
         clear H; have H := H1; clear H1; obtain rfl := Option.some.inj H; have p5 : 0 ≤ (x6_1 : Int) := qT qa4; have q5 : x6_1 < (a0.size : Int) := qT qa4; have hx5 := bt_at a0 x6_1; replace p5 := eq_true p5; replace q5 := eq_true q5
         go_wp2_with (first | ((with_reducible refine gate_callee (f := 96) rfl ?_); refine goesL_ (some 12) rfl rfl Try.func96 qa12 rfl #[.int .u8 (bt a0 x6_1)] rfl qa1 ?_; (with_reducible refine (impl_isLetter.calls (bt a0 x6_1) false _ A6.out).mono ?_); rintro e w' ⟨rfl, ⟨nd, rfl⟩⟩; refine ⟨_, rfl, ?_⟩; have p9 : 0 ≤ (x6_1 : Int) := qT qa4; have q9 : x6_1 < (a0.size : Int) := qT qa4; have hx9 := bt_at a0 x6_1; replace p9 := eq_true p9; replace q9 := eq_true q9) | (go_at_call 97; (with_reducible refine (impl_isDigit.calls (bt a0 x6_1) false _ A10.out).mono ?_); rintro e w' ⟨rfl, ⟨nd, rfl⟩⟩))
         go_ret
         exact ⟨qa7, qa16⟩
     ·rw [if_neg c4] at H
      exact absurd H qa79
    ·rw [if_neg c3] at H
     exact absurd H qa79
   ·rw [if_neg c2] at H
    have c2b0 : decide (x6_1 < (a0.size : Int)) = false := decide_eq_false c2; clear c2; replace H := Option.bind_eq_some_iff.mp H; obtain ⟨t101, A120, H⟩ := H; replace H : (some t101) = some r := H; have A12 := qO A120; clear A120; obtain rfl := Option.some.inj H
    go_wp2_with (first | ((with_reducible refine gate_callee (f := 98) rfl ?_); refine goesL_ (some 28) rfl rfl Try.func98 qa12 rfl #[.int .i64 (a0.size : Int), .int .i64 1, .int .i64 40] rfl qa1 ?_; (with_reducible refine (impl_within.calls (a0.size : Int) 1 40 t101 _ A12.out).mono ?_); rintro e w' ⟨rfl, ⟨nd, rfl⟩⟩; refine ⟨_, rfl, ?_⟩))
    go_ret
    exact ⟨qa7, qa16⟩

end Go.Proofs.Ytfpkooafbeejmaa.Q
namespace Go.Proofs.Ytfpkooafbeejmaa.Pure2
open Go.RowKit Go.Proofs.Ytfpkooafbeejmaa.Q Go.Proofs.YtfpkooafbeejmaaW.PrintWords Go.Proofs.YtfpkooafbeejmaaW.PrintLast
set_option linter.unusedVariables false
set_option linter.unusedSimpArgs false
/-! small words -/
theorem wsucc {j n : Nat} (h : j < n) (hn : n ≤ 4611686018427387904) : wrap64 ((j : Int) + 1) = ((j + 1 : Nat) : Int) := by unfold wrap64; omega
theorem ev_step {α : Type} {g f : Nat → Option α} {r : α} (h : ∃ K, ∀ k, K ≤ k → g (k + 1) = f k) (k : Ev f r) : Ev g r := by
  obtain ⟨K, h⟩ := h
  obtain ⟨K', k⟩ := k
  refine ⟨max K K' + 1, fun n hn => ?_⟩
  obtain ⟨m, rfl⟩ : ∃ m, n = m + 1 := ⟨n - 1, qa14⟩
  rw [h m qa14, k m qa14]
theorem ev_now {α : Type} {g : Nat → Option α} {r : α} (h : ∃ K, ∀ k, K ≤ k → g (k + 1) = some r) : Ev g r := ev_step (f := fun _ => some r) h (Ev.now r)
theorem ev_same {α : Type} {g f : Nat → Option α} {r : α} (h : ∃ K, ∀ k, K ≤ k → g k = f k) (k : Ev f r) : Ev g r := by
  obtain ⟨K, h⟩ := h
  obtain ⟨K', k⟩ := k
  exact ⟨max K K', fun n hn => by rw [h n qa14, k n qa14]⟩
theorem ev_two {α β : Type} {g : Nat → Option α} {f : Nat → Option β} {r : α} {q : β} (h : Ev g r) (k : Ev f q) : ∃ K, ∀ n, K ≤ n → g n = some r ∧ f n = some q := by
  obtain ⟨K, h⟩ := h
  obtain ⟨K', k⟩ := k
  exact ⟨max K K', fun n hn => ⟨h n qa14, k n qa14⟩⟩
theorem ev_mk {α : Type} {g : Nat → Option α} {r : α} (K : Nat) (h : ∀ k, K ≤ k → g k = some r) : Ev g r := ⟨K, h⟩
theorem ev_at {α : Type} {g : Nat → Option α} {r : α} (h : Ev g r) : ∃ K, ∀ k, K ≤ k → g k = some r := h
/-- A loop that counts up to n: from the end back. -/
theorem count_loop {ρ : Type} (n : Nat) (L : Nat → Int → Option ρ) (Post : Nat → ρ → Prop) (hend : ∃ r, Post n r ∧ Ev (fun k => L k (n : Int)) r)
    (hstep : ∀ j, j < n → ∀ r, Post (j + 1) r → Ev (fun k => L k ((j + 1 : Nat) : Int)) r → ∃ r', Post j r' ∧ Ev (fun k => L k (j : Int)) r') :
    ∀ j, j ≤ n → ∃ r, Post j r ∧ Ev (fun k => L k (j : Int)) r := by
  have key : ∀ d j, j ≤ n → n - j = d → ∃ r, Post j r ∧ Ev (fun k => L k (j : Int)) r := by
    intro d
    induction d with
    | zero => intro j hj hd; obtain rfl : j = n := by omega
              exact hend
    | succ d ih =>
      intro j hj hd
      obtain ⟨r, hp, he⟩ := ih (j + 1) qa14 qa14
      exact hstep j qa14 r hp he
  intro j hj
  exact key _ j hj rfl
/-- A loop that carries a state up to n. -/
theorem state_loop {σ ρ : Type} (n : Nat) (L : Nat → σ → Int → Option ρ) (Inv : Nat → σ → Prop) (Post : Nat → σ → ρ → Prop) (hend : ∀ s, Inv n s → ∃ r, Post n s r ∧ Ev (fun k => L k s (n : Int)) r)
    (hstep : ∀ j s, j < n → Inv j s → (∃ r, Post j s r ∧ Ev (fun k => L k s (j : Int)) r) ∨ ∃ s', Inv (j + 1) s' ∧ (∀ r, Post (j + 1) s' r → Post j s r) ∧ ∃ K, ∀ k, K ≤ k → L (k + 1) s (j : Int) = L k s' ((j + 1 : Nat) : Int)) :
    ∀ j s, j ≤ n → Inv j s → ∃ r, Post j s r ∧ Ev (fun k => L k s (j : Int)) r := by
  have key : ∀ d j s, j ≤ n → n - j = d → Inv j s → ∃ r, Post j s r ∧ Ev (fun k => L k s (j : Int)) r := by
    intro d
    induction d with
    | zero => intro j s hj hd hi; obtain rfl : j = n := by omega
              exact hend s hi
    | succ d ih =>
      intro j s hj hd hi
      rcases hstep j s qa14 hi with h | ⟨s', hi', hp, hk⟩
      · exact h
      · obtain ⟨r, hr, he⟩ := ih (j + 1) s' qa14 qa14 hi'
        exact ⟨r, hp r hr, ev_step hk he⟩
  intro j s hj hi
  exact key _ j s hj rfl hi
/-- A loop that fills a row of its own. -/
theorem fill_loop {α β : Type} (xs : List α) (z : α) (g : α → β) (L : Nat → List β → Int → Option (List β)) (hend : ∀ y : List β, y.length = xs.length → ∃ K, ∀ k, K ≤ k → L (k + 1) y (xs.length : Int) = some y)
    (hstep : ∀ (j : Nat) (y : List β), j < xs.length → y.length = xs.length → ∃ K, ∀ k, K ≤ k → L (k + 1) y (j : Int) = L k (y.set j (g (xs.getD j z))) ((j + 1 : Nat) : Int)) (y : List β) (hy : y.length = xs.length) :
    Ev (fun k => L k y 0) (xs.map g) := by
  obtain ⟨r, hr, he⟩ := state_loop xs.length L (fun j y => y.length = xs.length ∧ ∀ i, i < j → y[i]? = (xs.map g)[i]?) (fun _ _ r => r = xs.map g) (fun y hi => ⟨y, List.ext_getElem? fun i => by
      by_cases hi' : i < xs.length
      · exact hi.2 i hi'
      · rw [List.getElem?_eq_none qa14, List.getElem?_eq_none qa103], ev_now (hend y hi.1)⟩) (fun j y hj hi => .inr ⟨_, ⟨by simp [hi.1], fun i hij => by
      by_cases he : i = j
      · subst he
        rw [List.getElem?_set_self qa14]
        simp [List.getD_eq_getElem?_getD, List.getElem?_eq_getElem hj]
      · rw [List.getElem?_set_ne qa14]
        exact hi.2 i qa14⟩, fun r h => h, hstep j y hj hi.1⟩) 0 y qa14 ⟨hy, fun i hi => by omega⟩
  subst hr
  exact he
theorem spec_in (a b c : Int) : spec_l01In.f a b c = some (decide (b ≤ a ∧ a ≤ c)) := by
  unfold spec_l01In.f
  by_cases h : b ≤ a
  · rw [if_pos h]; simp [h]
  · rw [if_neg h]; simp [h]
theorem impl_in (a b c : Int) : impl_within.f a b c = some (decide (b ≤ a ∧ a ≤ c)) := spec_in a b c
/-- A letter or _; a digit. -/
def isL (b : Int) : Bool := decide (97 ≤ b ∧ b ≤ 122 ∨ 65 ≤ b ∧ b ≤ 90 ∨ b = 95)
def isD (b : Int) : Bool := decide (48 ≤ b ∧ b ≤ 57)
/-- What a name is. -/
def IsName (s : ByteArray) : Prop := 1 ≤ s.size ∧ s.size ≤ 40 ∧ isL (bt s 0) = true ∧ ∀ i : Int, 1 ≤ i → i < s.size → isL (bt s i) = true ∨ isD (bt s i) = true
theorem beq95 (b : Int) (h : ¬ (97 ≤ b ∧ b ≤ 122)) (h' : ¬ (65 ≤ b ∧ b ≤ 90)) : (b == 95) = isL b := by
  unfold isL
  by_cases e : b = 95
  · subst e; rfl
  · rw [beq_eq_false_iff_ne.mpr e]; symm; simp only [decide_eq_false_iff_not]; omega
theorem impl_letter (b : Int) : impl_isLetter.f b = some (isL b) := by
  unfold impl_isLetter.f
  by_cases h1 : b ≥ 97 <;> by_cases h2 : b ≤ 122 <;> by_cases h3 : b ≥ 65 <;> by_cases h4 : b ≤ 90 <;> simp only [h1, h2, h3, h4, if_true, if_false, Option.some.injEq] <;>
    first | exact beq95 b qa14 qa14 | (symm; unfold isL; simp only [decide_eq_true_eq]; omega)
theorem spec_letter (b : Int) : spec_l00Letter.f b = some (isL b) := impl_letter b
theorem impl_digit (b : Int) : impl_isDigit.f b = some (isD b) := by
  unfold impl_isDigit.f isD
  by_cases h1 : b ≥ 48
  · rw [if_pos h1]; simp only [Option.some.injEq, decide_eq_decide]; omega
  · rw [if_neg h1]; simp only [Option.some.injEq]; symm; rw [decide_eq_false_iff_not]; omega
theorem spec_digit (b : Int) : spec_l00Digit.f b = some (isD b) := impl_digit b
/-- The reference's loop, from i on. -/
theorem spec_word_from (s : ByteArray) (hn : s.size ≤ 1048576) (d : Nat) : ∀ (k : Nat) (i : Int), 0 ≤ i → i ≤ s.size → (s.size : Int) - i = d → d < k →
    ∃ r, spec_l00Word.l0 k s i = some r ∧ (r = true ↔ ∀ j : Int, i ≤ j → j < s.size → isL (bt s j) = true ∨ isD (bt s j) = true) := by
  induction d with
  | zero =>
    intro k i h0 h1 hd hk
    obtain ⟨k, rfl⟩ : ∃ m, k = m + 1 := ⟨k - 1, qa14⟩
    refine ⟨true, ?_, ⟨fun _ j h2 h3 => by omega, fun _ => rfl⟩⟩
    simp only [spec_l00Word.l0]; rw [if_neg qa14]
  | succ d ih =>
    intro k i h0 h1 hd hk
    obtain ⟨k, rfl⟩ : ∃ m, k = m + 1 := ⟨k - 1, qa14⟩
    have hw : wrap64 (i + 1) = i + 1 := by unfold wrap64; omega
    obtain ⟨r, e, hr⟩ := ih k (i + 1) qa14 qa14 qa14 qa14
    have step : (isL (bt s i) = true ∨ isD (bt s i) = true) → (r = true ↔ ∀ j : Int, i ≤ j → j < s.size → isL (bt s j) = true ∨ isD (bt s j) = true) := by
      intro hh
      rw [hr]
      constructor
      · intro h j h2 h3
        rcases Int.lt_or_eq_of_le h2 with h4 | h4
        · exact h j qa14 h3
        · rw [← h4]; exact hh
      · intro h j h2 h3; exact h j qa14 h3
    simp only [spec_l00Word.l0]; rw [if_pos qa14, if_pos h0, spec_letter]; simp only [Option.bind_some]
    by_cases hl : isL (bt s i) = true
    · rw [if_pos hl, hw]; exact ⟨r, e, step (.inl hl)⟩
    · rw [if_neg hl, spec_digit]; simp only [Option.bind_some]
      by_cases hdg : isD (bt s i) = true
      · rw [if_pos hdg, hw]; exact ⟨r, e, step (.inr hdg)⟩
      · rw [if_neg hdg]
        exact ⟨false, rfl, ⟨fun h => (by cases h), fun h => absurd (h i (Int.le_refl _) qa14) (fun h => h.elim hl hdg)⟩⟩
theorem spec_name (s : ByteArray) (hn : s.size ≤ 1048576) : ∃ r, (∀ k, s.size + 1 < k → spec_NameOK.f k s = some r) ∧ (r = true ↔ IsName s) := by
  by_cases h1 : (s.size : Int) < 1
  · refine ⟨false, fun k hk => ?_, ⟨fun h => (by cases h), fun h => absurd h.1 qa14⟩⟩
    obtain ⟨k, rfl⟩ : ∃ m, k = m + 1 := ⟨k - 1, qa14⟩
    unfold spec_NameOK.f spec_l00Word.f
    rw [if_pos h1]; rfl
  · by_cases h2 : (s.size : Int) > 40
    · refine ⟨false, fun k hk => ?_, ⟨fun h => (by cases h), fun h => absurd h.2.1 qa14⟩⟩
      obtain ⟨k, rfl⟩ : ∃ m, k = m + 1 := ⟨k - 1, qa14⟩
      unfold spec_NameOK.f spec_l00Word.f
      rw [if_neg h1, if_pos h2]; rfl
    · by_cases hl : isL (bt s 0) = true
      · obtain ⟨r, _, hr⟩ := spec_word_from s hn (s.size - 1) (s.size + 1) 1 qa14 qa14 qa14 qa14
        refine ⟨r, fun k hk => ?_, ?_⟩
        · obtain ⟨k, rfl⟩ : ∃ m, k = m + 1 := ⟨k - 1, qa14⟩
          obtain ⟨r', e', hr'⟩ := spec_word_from s hn (s.size - 1) k 1 qa14 qa14 qa14 qa14
          have : r' = r := by rw [Bool.eq_iff_iff, hr, hr']
          subst this
          unfold spec_NameOK.f spec_l00Word.f
          rw [if_neg h1, if_neg h2, if_pos qa14, spec_letter]; simp only [Option.bind_some, hl, Bool.not_true, spec_l00Word.j0]
          rw [if_neg qa79, e']; rfl
        · rw [hr]; exact ⟨fun h => ⟨qa14, qa14, hl, h⟩, fun h => h.2.2.2⟩
      · refine ⟨false, fun k hk => ?_, ⟨fun h => (by cases h), fun h => absurd h.2.2.1 hl⟩⟩
        obtain ⟨k, rfl⟩ : ∃ m, k = m + 1 := ⟨k - 1, qa14⟩
        unfold spec_NameOK.f spec_l00Word.f
        rw [if_neg h1, if_neg h2, if_pos qa14, spec_letter]; simp only [Option.bind_some]
        have : isL (bt s 0) = false := by simpa using hl
        rw [this]; rfl
/-- The program's loop, from i on. -/
theorem impl_name_from (s : ByteArray) (hn : s.size ≤ 1048576) (d : Nat) : ∀ (k : Nat) (i : Int), 0 ≤ i → i ≤ s.size → (s.size : Int) - i = d → d < k →
    ∃ r, impl_NameOK.l0 k s s.size i = some r ∧ (r = true ↔ (1 ≤ s.size ∧ s.size ≤ 40) ∧ ∀ j : Int, i ≤ j → j < s.size → isL (bt s j) = true ∨ j ≠ 0 ∧ isD (bt s j) = true) := by
  induction d with
  | zero =>
    intro k i h0 h1 hd hk
    obtain ⟨k, rfl⟩ : ∃ m, k = m + 1 := ⟨k - 1, qa14⟩
    simp only [impl_NameOK.l0]; rw [if_neg qa14]
    unfold impl_within.f
    by_cases h2 : (s.size : Int) ≥ 1
    · rw [if_pos h2]
      refine ⟨_, rfl, ?_⟩
      simp only [decide_eq_true_eq]
      exact ⟨fun h => ⟨⟨qa14, qa14⟩, fun j _ _ => by omega⟩, fun h => by omega⟩
    · rw [if_neg h2]
      refine ⟨_, rfl, ?_⟩
      exact ⟨fun h => by simp at h, fun h => by omega⟩
  | succ d ih =>
    intro k i h0 h1 hd hk
    obtain ⟨k, rfl⟩ : ∃ m, k = m + 1 := ⟨k - 1, qa14⟩
    have hw : wrap64 (i + 1) = i + 1 := by unfold wrap64; omega
    obtain ⟨r, e, hr⟩ := ih k (i + 1) qa14 qa14 qa14 qa14
    have step : (isL (bt s i) = true ∨ i ≠ 0 ∧ isD (bt s i) = true) → (r = true ↔ (1 ≤ s.size ∧ s.size ≤ 40) ∧ ∀ j : Int, i ≤ j → j < s.size → isL (bt s j) = true ∨ j ≠ 0 ∧ isD (bt s j) = true) := by
      intro hh
      rw [hr]
      constructor
      · intro ⟨h', h⟩
        refine ⟨h', fun j h2 h3 => ?_⟩
        rcases Int.lt_or_eq_of_le h2 with h4 | h4
        · exact h j qa14 h3
        · rw [← h4]; exact hh
      · intro ⟨h', h⟩; exact ⟨h', fun j h2 h3 => h j qa14 h3⟩
    simp only [impl_NameOK.l0]; rw [if_pos qa14, if_pos h0, if_pos qa14, impl_letter]; simp only [Option.bind_some]
    by_cases hl : isL (bt s i) = true
    · rw [if_pos hl, hw]; exact ⟨r, e, step (.inl hl)⟩
    · rw [if_neg hl]
      by_cases hz : i = 0
      · rw [if_pos hz]
        exact ⟨false, rfl, ⟨fun h => (by cases h), fun h => absurd (h.2 i (Int.le_refl _) qa14) (fun h => h.elim hl (fun h => h.1 hz))⟩⟩
      · rw [if_neg hz, impl_digit]; simp only [Option.bind_some]
        by_cases hdg : isD (bt s i) = true
        · rw [if_pos hdg, hw]; exact ⟨r, e, step (.inr ⟨hz, hdg⟩)⟩
        · rw [if_neg hdg]
          exact ⟨false, rfl, ⟨fun h => (by cases h), fun h => absurd (h.2 i (Int.le_refl _) qa14) (fun h => h.elim hl (fun h => hdg h.2))⟩⟩
theorem impl_name (s : ByteArray) (hn : s.size ≤ 1048576) : ∃ r, (∀ k, s.size + 1 < k → impl_NameOK.f k s = some r) ∧ (r = true ↔ IsName s) := by
  obtain ⟨r, _, hr⟩ := impl_name_from s hn s.size (s.size + 1) 0 qa14 qa14 qa14 qa14
  refine ⟨r, fun k hk => ?_, ?_⟩
  · obtain ⟨r', e', hr'⟩ := impl_name_from s hn s.size k 0 qa14 qa14 qa14 qa14
    have : r' = r := by rw [Bool.eq_iff_iff, hr, hr']
    subst this
    exact e'
  · rw [hr]
    constructor
    · rintro ⟨⟨h1, h2⟩, h⟩
      refine ⟨h1, h2, ?_, fun j hj hj' => ?_⟩
      · have := h 0 qa14 qa14
        simpa using this
      · rcases h j qa14 hj' with h | h
        · exact .inl h
        · exact .inr h.2
    · rintro ⟨h1, h2, h3, h⟩
      refine ⟨⟨h1, h2⟩, fun j hj hj' => ?_⟩
      by_cases hz : j = 0
      · subst hz; exact .inl h3
      · rcases h j qa14 hj' with h | h
        · exact .inl h
        · exact .inr ⟨hz, h⟩
/-- Both say the same. -/
theorem names_agree (s : ByteArray) (hn : s.size ≤ 1048576) : ∃ r, (∀ k, s.size + 1 < k → spec_NameOK.f k s = some r ∧ impl_NameOK.f k s = some r) ∧ (r = true ↔ IsName s) := by
  obtain ⟨r, e, hr⟩ := spec_name s hn
  obtain ⟨r', e', hr'⟩ := impl_name s hn
  have : r' = r := by rw [Bool.eq_iff_iff, hr, hr']
  subst this
  exact ⟨r', fun k hk => ⟨e k hk, e' k hk⟩, hr⟩
theorem names_ev (s : ByteArray) (hn : s.size ≤ 1048576) : ∃ r, Ev (fun k => spec_NameOK.f k s) r ∧ Ev (fun k => impl_NameOK.f k s) r ∧ (r = true ↔ IsName s) := by
  obtain ⟨r, h, hr⟩ := names_agree s hn
  exact ⟨r, ev_mk (s.size + 2) (fun k hk => (h k qa14).1), ev_mk (s.size + 2) (fun k hk => (h k qa14).2), hr⟩
end Go.Proofs.Ytfpkooafbeejmaa.Pure2
namespace Go.Proofs.Ytfpkooafbeejmaa.Pure2
open Go.RowKit Go.Proofs.Ytfpkooafbeejmaa.Q Go.Proofs.YtfpkooafbeejmaaW.PrintWords Go.Proofs.YtfpkooafbeejmaaW.PrintLast
set_option linter.unusedVariables false
set_option linter.unusedSimpArgs false
/-! loops over lists -/
theorem getD_mem {α : Type} (l : List α) (z : α) (j : Nat) (h : j < l.length) : l.getD j z ∈ l := by rw [List.getD_eq_getElem?_getD, List.getElem?_eq_getElem h]; exact List.getElem_mem h
theorem wsub (a : Int) (n : Nat) (h0 : 0 ≤ a) (h1 : a ≤ 1048576) (hn : n ≤ 9223372036854775807) : wrap64 (a - (n : Int)) = a - (n : Int) := by unfold wrap64; omega
theorem sz_loop {α : Type} (l : List α) (z : α) (P : α → Prop) (a : Int) (h0 : 0 ≤ a) (L : Nat → Int → Int → Option Int) (hend : ∀ k s, L (k + 1) s (l.length : Int) = some s)
    (hx : ∀ j, j < l.length → ∀ s, 0 ≤ s → s ≤ a → ∃ t, (t < 0 ∨ 0 ≤ t ∧ t ≤ s ∧ P (l.getD j z)) ∧ ∃ K, ∀ k, K ≤ k → L (k + 1) s (j : Int) = if t < 0 then some (-1) else L k t ((j + 1 : Nat) : Int)) :
    ∃ r, Ev (fun k => L k a 0) r ∧ (r < 0 ∨ 0 ≤ r ∧ r ≤ a ∧ ∀ x ∈ l, P x) := by
  obtain ⟨r, hr, he⟩ := state_loop l.length L (fun j s => 0 ≤ s ∧ s ≤ a ∧ ∀ i, i < j → P (l.getD i z)) (fun _ _ r => r < 0 ∨ 0 ≤ r ∧ r ≤ a ∧ ∀ i, i < l.length → P (l.getD i z))
    (fun s hi => ⟨s, .inr hi, ev_now ⟨0, fun k _ => hend k s⟩⟩)
    (fun j s hj hi => by
      obtain ⟨t, ht, K, hk⟩ := hx j hj s hi.1 hi.2.1
      rcases ht with ht | ⟨t0, t1, t2⟩
      · exact .inl ⟨-1, .inl qa14, ev_now ⟨K, fun k h => by rw [hk k h, if_pos ht]⟩⟩
      · refine .inr ⟨t, ⟨t0, qa14, fun i hij => ?_⟩, fun r h => h, K, fun k h => by rw [hk k h, if_neg qa14]⟩
        rcases Nat.lt_or_eq_of_le (Nat.le_of_lt_succ hij) with h' | rfl
        · exact hi.2.2 i h'
        · exact t2) 0 a qa14 ⟨h0, qa14, fun i hi => by omega⟩
  refine ⟨r, he, ?_⟩
  rcases hr with hr | ⟨h2, h3, h4⟩
  · exact .inl hr
  · refine .inr ⟨h2, h3, fun x hx' => ?_⟩
    obtain ⟨i, hi, rfl⟩ := List.getElem_of_mem hx'
    have := h4 i hi
    rw [List.getD_eq_getElem?_getD, List.getElem?_eq_getElem hi] at this
    exact this
theorem eq_loop {α : Type} (n : Nat) (L : Nat → Int → Option Bool) (hend : ∀ k, L (k + 1) (n : Int) = some true) (hs : ∀ j, j < n → ∃ K, ∀ k, K ≤ k → L (k + 1) (j : Int) = L k ((j + 1 : Nat) : Int)) : Ev (fun k => L k 0) true := by
  obtain ⟨r, hr, he⟩ := count_loop n L (fun _ r => r = true) ⟨true, rfl, ev_now ⟨0, fun k _ => hend k⟩⟩ (fun j hj r hr he => ⟨r, hr, ev_step (hs j hj) he⟩) 0 qa14
  subst hr
  exact he
/-! loops over lists, counted by what they hold -/
theorem psum_succ {α : Type} (f : α → Nat) (l : List α) (z : α) (j : Nat) (h : j < l.length) : ((l.take (j + 1)).map f).sum = ((l.take j).map f).sum + f (l.getD j z) := by
  rw [List.take_succ_eq_append_getElem h, List.map_append, List.sum_append]
  simp [List.getD_eq_getElem?_getD, List.getElem?_eq_getElem h]
theorem psum_le {α : Type} (f : α → Nat) (l : List α) (j : Nat) : ((l.take j).map f).sum ≤ (l.map f).sum := by
  have h : (l.map f).sum = ((l.take j).map f).sum + ((l.drop j).map f).sum := by rw [← List.sum_append, ← List.map_append, List.take_append_drop]
  omega
theorem psum_len {α : Type} (f : α → Nat) (l : List α) : ((l.take l.length).map f).sum = (l.map f).sum := by rw [List.take_length]
theorem sum_one {α : Type} (c : α → Nat) : ∀ l : List α, (l.map (fun x => 1 + c x)).sum = l.length + (l.map c).sum
  | [] => rfl
  | a :: l => by simp only [List.map_cons, List.sum_cons, List.length_cons, sum_one c l]; omega
theorem sum_ones {α : Type} : ∀ l : List α, (l.map (fun _ : α => 1)).sum = l.length
  | [] => rfl
  | a :: l => by simp only [List.map_cons, List.sum_cons, List.length_cons, sum_ones l]; omega
theorem mem_sum {α : Type} (c : α → Nat) : ∀ (l : List α) (x : α), x ∈ l → c x ≤ (l.map c).sum
  | a :: l, x, h => by
    rcases List.mem_cons.1 h with h | h
    · subst h; simp only [List.map_cons, List.sum_cons]; omega
    · have := mem_sum c l x h; simp only [List.map_cons, List.sum_cons]; omega
theorem ev_shift {α : Type} {g f : Nat → Option α} {r : α} (m : Nat) (h : ∃ K, ∀ k, K ≤ k → g (k + m) = f k) (k : Ev f r) : Ev g r := by
  obtain ⟨K, h⟩ := h
  obtain ⟨K', k⟩ := k
  refine ⟨max K K' + m, fun n hn => ?_⟩
  obtain ⟨q, rfl⟩ : ∃ q, n = q + m := ⟨n - m, qa14⟩
  rw [h q qa14, k q qa14]
theorem state_loop2 {σ ρ : Type} (n : Nat) (L : Nat → σ → Int → Option ρ) (Inv : Nat → σ → Prop) (Post : ρ → Prop) (hend : ∀ s, Inv n s → ∃ r, Post r ∧ Ev (fun k => L k s (n : Int)) r)
    (hstep : ∀ j s, j < n → Inv j s → (∃ r, Post r ∧ Ev (fun k => L k s (j : Int)) r) ∨ ∃ s', Inv (j + 1) s' ∧ ∀ r, Ev (fun k => L k s' ((j + 1 : Nat) : Int)) r → Ev (fun k => L k s (j : Int)) r) :
    ∀ j s, j ≤ n → Inv j s → ∃ r, Post r ∧ Ev (fun k => L k s (j : Int)) r := by
  have key : ∀ d j s, j ≤ n → n - j = d → Inv j s → ∃ r, Post r ∧ Ev (fun k => L k s (j : Int)) r := by
    intro d
    induction d with
    | zero => intro j s hj hd hi; obtain rfl : j = n := by omega
              exact hend s hi
    | succ d ih =>
      intro j s hj hd hi
      rcases hstep j s qa14 hi with h | ⟨s', hi', hk⟩
      · exact h
      · obtain ⟨r, hr, he⟩ := ih (j + 1) s' qa14 qa14 hi'
        exact ⟨r, hr, hk r he⟩
  intro j s hj hi
  exact key _ j s hj rfl hi
/-- The measure of a list. -/
theorem szs {α : Type} (z : α) (c : α → Nat) (F : Nat → Option Int) (L : Nat → Int → Int → Option Int) (l : List α) (a : Int) (h0 : 0 ≤ a) (h1 : a ≤ 1048576)
    (hneg : a - (l.length : Int) < 0 → Ev F (-1)) (hpos : ¬ a - (l.length : Int) < 0 → ∀ r, Ev (fun k => L k (a - (l.length : Int)) 0) r → Ev F r)
    (hL0 : ∀ k s, L (k + 1) s (l.length : Int) = some s)
    (hL1 : ∀ j, j < l.length → l.length ≤ 1048576 → ∀ s : Int, 0 ≤ s → s ≤ 1048576 → ∃ t : Int, (t < 0 ∨ 0 ≤ t ∧ t + (c (l.getD j z) : Nat) ≤ s) ∧ ∃ K, ∀ k, K ≤ k → L (k + 1) s (j : Int) = if t < 0 then some (-1) else L k t ((j + 1 : Nat) : Int)) :
    ∃ r : Int, Ev F r ∧ (r < 0 ∨ 0 ≤ r ∧ r + ((l.map (fun x => 1 + c x)).sum : Nat) ≤ a) := by
  rw [sum_one]
  by_cases h : a - (l.length : Int) < 0
  · exact ⟨-1, hneg h, .inl qa14⟩
  · obtain ⟨r, hr, he⟩ := state_loop2 l.length L (fun j s => 0 ≤ s ∧ s + (((l.take j).map c).sum : Nat) ≤ a - (l.length : Int)) (fun r => r < 0 ∨ 0 ≤ r ∧ r + ((l.map c).sum : Nat) ≤ a - (l.length : Int))
      (fun s hi => ⟨s, .inr ⟨hi.1, by have := hi.2; rw [psum_len] at this; exact this⟩, ev_now ⟨0, fun k _ => hL0 k s⟩⟩)
      (fun j s hj hi => by
        obtain ⟨t, ht, K, hK⟩ := hL1 j hj qa14 s hi.1 (by have := hi.2; omega)
        have ps := psum_succ c l z j hj
        rcases ht with ht | ⟨t0, t1⟩
        · exact .inl ⟨-1, .inl qa14, ev_now ⟨K, fun k hk => by rw [hK k hk, if_pos ht]⟩⟩
        · exact .inr ⟨t, ⟨t0, by have := hi.2; omega⟩, fun r hr => ev_shift 1 ⟨K, fun k hk => by rw [hK k hk, if_neg qa14]⟩ hr⟩) 0 (a - l.length) qa14 ⟨qa14, qa79⟩
    refine ⟨r, hpos h r he, ?_⟩
    rcases hr with hr | hr
    · exact .inl hr
    · exact .inr ⟨hr.1, qa14⟩
/-- Marks of a list: only how far they count. -/
theorem mks {α : Type} (z : α) (c : α → Nat) (L : Nat → Int → Int → Option Int) (l : List α) (m0 : Int) (h1 : 1 ≤ m0) (hB : m0 + 6 * ((l.map c).sum : Nat) ≤ 1099511627776)
    (hL0 : ∀ k m, L (k + 1) m (l.length : Int) = some m)
    (hL1 : ∀ j, j < l.length → ∀ m : Int, 1 ≤ m → m + 6 * (c (l.getD j z) : Nat) ≤ 1099511627776 → ∃ m' : Int, m ≤ m' ∧ m' ≤ m + 6 * (c (l.getD j z) : Nat) ∧ ∃ K, ∀ k, K ≤ k → L (k + 1) m (j : Int) = L k m' ((j + 1 : Nat) : Int)) :
    ∃ r : Int, Ev (fun k => L k m0 0) r ∧ m0 ≤ r ∧ r ≤ m0 + 6 * ((l.map c).sum : Nat) := by
  obtain ⟨r, ⟨hr1, hr2⟩, he⟩ := state_loop2 l.length L (fun j m => m0 ≤ m ∧ m ≤ m0 + 6 * (((l.take j).map c).sum : Nat)) (fun r => m0 ≤ r ∧ r ≤ m0 + 6 * ((l.map c).sum : Nat))
    (fun m hi => ⟨m, by have := hi.2; rw [psum_len] at this; exact ⟨hi.1, this⟩, ev_now ⟨0, fun k _ => hL0 k m⟩⟩)
    (fun j m hj hi => by
      have ps := psum_succ c l z j hj
      have hle := psum_le c l (j + 1)
      obtain ⟨m', a1, a2, K, hK⟩ := hL1 j hj m qa14 qa14
      exact .inr ⟨m', ⟨qa14, qa14⟩, fun r hr => ev_shift 1 ⟨K, hK⟩ hr⟩) 0 m0 qa14 ⟨qa14, qa79⟩
  exact ⟨r, he, hr1, hr2⟩
theorem mark_text_from : ∀ (d : Nat) (a : Nat) (s : ByteArray), a < d → d ≤ 4611686018427387904 → s.size + d ≤ 4611686018427387904 → ∃ t, Ev (fun k => laws_markText.l0 k (a : Int) s) t := by
  intro d
  induction d with
  | zero => intro a s h; omega
  | succ d ih =>
    intro a s h h1 h2
    by_cases hz : a = 0
    · subst hz
      exact ⟨_, ev_now ⟨0, fun k _ => by simp only [laws_markText.l0]; rw [if_neg qa14, if_pos qa14]⟩⟩
    · have e2 : wrap64 (Int.tdiv (a : Int) 10) = ((a / 10 : Nat) : Int) := by rw [Int.tdiv_eq_ediv_of_nonneg qa14]; unfold wrap64; omega
      have hs : ∀ x : Int, (strOfNums [x]).size = 1 := fun x => rfl
      obtain ⟨t, ht⟩ := ih (a / 10) ((strOfNums ([(wrap64 (48 + (Int.tmod (a : Int) 10))) % 256] : List Int)) ++ s) qa14 qa14 (by rw [ByteArray.size_append, hs]; omega)
      refine ⟨t, ev_step ⟨0, fun k _ => ?_⟩ ht⟩
      simp only [laws_markText.l0, Option.bind_some]
      rw [if_pos qa14, if_pos (by rw [hs]; omega), e2]
theorem mark_text (a : Int) (h1 : a ≤ 1099511627776) : ∃ t, Ev (fun k => laws_markText.f k a) t := by
  by_cases h : a ≤ 0
  · exact ⟨_, ev_mk 0 fun k _ => by unfold laws_markText.f; rw [if_pos h]⟩
  · obtain ⟨t, ht⟩ := mark_text_from (a.toNat + 1) a.toNat (⟨#[]⟩ : ByteArray) qa14 qa14 (by show 0 + _ ≤ _; omega)
    refine ⟨t, ev_same ⟨0, fun k _ => ?_⟩ ht⟩
    unfold laws_markText.f
    rw [if_neg h, show ((a.toNat : Nat) : Int) = a by omega]
theorem w1 (m : Int) (h : 0 ≤ m) (h1 : m ≤ 1099511627776) : wrap64 (m + 1) = m + 1 := by unfold wrap64; omega
theorem sz_Arg (x : S204) (s : Int) (h0 : 0 ≤ s) (h1 : s ≤ 1048576) (hi : i204 x) : ∃ t, laws_szArg.f x.f0 x.f1.f0 x.f1.f1 x.f1.f2 s = some t ∧ (t < 0 ∨ 0 ≤ t ∧ t + (0 : Nat) ≤ s) := by
  have hw := wsub s x.f0.size h0 h1 hi.1
  unfold laws_szArg.f
  rw [hw]
  by_cases h : s - (x.f0.size : Int) < 0
  · rw [if_pos h]; exact ⟨_, rfl, .inl qa14⟩
  · rw [if_neg h]
    have hw2 := wsub (s - (x.f0.size : Int)) x.f1.f2.size qa14 qa14 hi.2.2.2
    unfold laws_szValue.f
    rw [hw2]
    by_cases h2 : s - (x.f0.size : Int) - (x.f1.f2.size : Int) < 0
    · rw [if_pos h2]; exact ⟨-1, rfl, .inl qa14⟩
    · rw [if_neg h2]; simp only [Option.bind_some]; rw [if_neg h2]; exact ⟨_, rfl, .inr qa14⟩
theorem sz_ArgS (l : List S204) (a : Int) (h0 : 0 ≤ a) (h1 : a ≤ 1048576) (hl : l.length ≤ 9223372036854775807) (hx : ∀ x ∈ l, i204 x) : ∃ r, Ev (fun k => laws_szArgS.f k l a) r ∧ (r < 0 ∨ 0 ≤ r ∧ r + (l.length : Nat) ≤ a) := by
  have hw := wsub a l.length h0 h1 hl
  obtain ⟨r, he, hr⟩ := szs z204 (fun _ => 0) (fun k => laws_szArgS.f k l a) (fun k s i => laws_szArgS.l0 k l s i) l a h0 h1
    (fun h => ev_mk 0 fun k _ => by unfold laws_szArgS.f; rw [hw, if_pos h])
    (fun h r he => ev_same ⟨0, fun k _ => by unfold laws_szArgS.f; rw [hw, if_neg h]⟩ he)
    (fun k s => by simp only [laws_szArgS.l0]; rw [if_neg qa14])
    (fun j hj hl' s s0 s1 => by
      obtain ⟨t, e, ht⟩ := sz_Arg (l.getD j z204) s s0 s1 (hx _ (getD_mem l _ j hj))
      refine ⟨t, ht, 0, fun k _ => ?_⟩
      simp only [laws_szArgS.l0]
      rw [if_pos qa14, if_pos qa14, show rd_T204 l (j : Int) = l.getD j z204 from rfl, e]; simp only [Option.bind_some]; rw [wsucc hj qa14])
  refine ⟨r, he, hr.imp (fun h => h) (fun h => ⟨h.1, ?_⟩)⟩
  have := h.2
  rw [sum_one] at this
  omega
def cvArg (x : S204) : S172 := ⟨x.f0, ⟨x.f1.f0, x.f1.f1, x.f1.f2⟩⟩
theorem to_ArgS (l : List S204) (hl : l.length ≤ 1048576) : Ev (fun k => laws_toArgS.f k l) (l.map cvArg) := by
  have h := fill_loop l z204 cvArg (fun k y i => laws_toArgS.l0 k l y i) (fun y hy => ⟨0, fun k _ => by simp only [laws_toArgS.l0]; rw [if_neg qa14]⟩)
    (fun j y hj hy => ⟨0, fun k _ => by
      simp only [laws_toArgS.l0, laws_toArg.f, laws_toValue.f, Option.bind_some]; rw [if_pos qa14, if_pos qa14, if_pos qa14, wsucc hj qa14]; rfl⟩) (List.replicate l.length z172) qa79
  refine ev_same ⟨0, fun k _ => ?_⟩ h
  unfold laws_toArgS.f
  rw [if_pos qa14, if_pos qa103, Int.toNat_natCast]
theorem eq_Arg (x : S172) : laws_eqArg.f x.f0 x.f1.f0 x.f1.f1 x.f1.f2 x.f0 x.f1.f0 x.f1.f1 x.f1.f2 = some true := by
  unfold laws_eqArg.f laws_eqValue.f
  simp
theorem eq_ArgS (l : List S172) (hl : l.length ≤ 1048576) : Ev (fun k => laws_eqArgS.f k l l) true := by
  refine ev_same ⟨0, fun k _ => ?_⟩ (eq_loop (α := S172) l.length (fun k i => laws_eqArgS.l0 k l l i) (fun k => by simp only [laws_eqArgS.l0]; rw [if_neg qa14])
    (fun j hj => ⟨0, fun k _ => by simp only [laws_eqArgS.l0]; rw [if_pos qa14, if_pos qa14, if_pos qa14, eq_Arg]; simp only [Option.bind_some, if_true]; rw [wsucc hj qa14]⟩))
  unfold laws_eqArgS.f
  rw [if_pos rfl]
theorem mk_ArgS (l : List S172) (m0 : Int) (h1 : 1 ≤ m0) (hB : m0 + 6 * (l.length : Int) ≤ 1099511627776) : ∃ r, Ev (fun k => laws_markArgS.l0 k l m0 0) r ∧ m0 ≤ r ∧ r ≤ m0 + 6 * (l.length : Int) := by
  have hs : (l.map (fun _ : S172 => 1)).sum = l.length := sum_ones l
  obtain ⟨r, he, a1, a2⟩ := mks z172 (fun _ => 1) (fun k m i => laws_markArgS.l0 k l m i) l m0 h1 (by rw [hs]; exact hB)
    (fun k m => by simp only [laws_markArgS.l0]; rw [if_neg qa14])
    (fun j hj m m1 m2 => by
      have w1a := w1 m qa14 qa14
      have w1b := w1 (m + 1) qa14 qa14
      have w1c := w1 (m + 1 + 1) qa14 qa14
      have w1d := w1 (m + 1 + 1 + 1) qa14 qa14
      obtain ⟨t0, et0⟩ := mark_text m qa14
      obtain ⟨K0, hK0⟩ := ev_at et0
      obtain ⟨t1, et1⟩ := mark_text (m + 1 + 1 + 1) qa14
      obtain ⟨K1, hK1⟩ := ev_at et1
      refine ⟨m + 1 + 1 + 1 + 1, qa14, qa14, K0 + K1, fun k hk => ?_⟩
      simp only [laws_markArgS.l0]
      rw [if_pos qa14, if_pos qa14, w1a, w1b, w1c]; rw [hK0 k qa14]; simp only [Option.bind_some]; rw [hK1 k qa14]; simp only [Option.bind_some]; rw [w1d, wsucc hj qa14])
  rw [hs] at a2
  exact ⟨r, he, a1, a2⟩
theorem sz_Dir (x : S207) (s : Int) (h0 : 0 ≤ s) (h1 : s ≤ 1048576) (hi : i207 x) : ∃ t, laws_szDir.f x.f0 x.f1.f0 x.f1.f1 x.f1.f2 s = some t ∧ (t < 0 ∨ 0 ≤ t ∧ t + (0 : Nat) ≤ s) := by
  have hw2 := wsub s x.f1.f2.size h0 h1 hi.2.2.2
  unfold laws_szDir.f laws_szValue.f
  rw [hw2]
  by_cases h2 : s - (x.f1.f2.size : Int) < 0
  · rw [if_pos h2]; exact ⟨-1, rfl, .inl qa14⟩
  · rw [if_neg h2]; simp only [Option.bind_some]; rw [if_neg h2]; exact ⟨_, rfl, .inr qa14⟩
theorem sz_DirS (l : List S207) (a : Int) (h0 : 0 ≤ a) (h1 : a ≤ 1048576) (hl : l.length ≤ 9223372036854775807) (hx : ∀ x ∈ l, i207 x) : ∃ r, Ev (fun k => laws_szDirS.f k l a) r ∧ (r < 0 ∨ 0 ≤ r ∧ r + (l.length : Nat) ≤ a) := by
  have hw := wsub a l.length h0 h1 hl
  obtain ⟨r, he, hr⟩ := szs z207 (fun _ => 0) (fun k => laws_szDirS.f k l a) (fun k s i => laws_szDirS.l0 k l s i) l a h0 h1
    (fun h => ev_mk 0 fun k _ => by unfold laws_szDirS.f; rw [hw, if_pos h])
    (fun h r he => ev_same ⟨0, fun k _ => by unfold laws_szDirS.f; rw [hw, if_neg h]⟩ he)
    (fun k s => by simp only [laws_szDirS.l0]; rw [if_neg qa14])
    (fun j hj hl' s s0 s1 => by
      obtain ⟨t, e, ht⟩ := sz_Dir (l.getD j z207) s s0 s1 (hx _ (getD_mem l _ j hj))
      refine ⟨t, ht, 0, fun k _ => ?_⟩
      simp only [laws_szDirS.l0]
      rw [if_pos qa14, if_pos qa14, show rd_T207 l (j : Int) = l.getD j z207 from rfl, e]; simp only [Option.bind_some]; rw [wsucc hj qa14])
  refine ⟨r, he, hr.imp (fun h => h) (fun h => ⟨h.1, ?_⟩)⟩
  have := h.2
  rw [sum_one] at this
  omega
def cvDir (x : S207) : S174 := ⟨x.f0, ⟨x.f1.f0, x.f1.f1, x.f1.f2⟩⟩
theorem to_DirS (l : List S207) (hl : l.length ≤ 1048576) : Ev (fun k => laws_toDirS.f k l) (l.map cvDir) := by
  have h := fill_loop l z207 cvDir (fun k y i => laws_toDirS.l0 k l y i) (fun y hy => ⟨0, fun k _ => by simp only [laws_toDirS.l0]; rw [if_neg qa14]⟩)
    (fun j y hj hy => ⟨0, fun k _ => by
      simp only [laws_toDirS.l0, laws_toDir.f, laws_toValue.f, Option.bind_some]; rw [if_pos qa14, if_pos qa14, if_pos qa14, wsucc hj qa14]; rfl⟩) (List.replicate l.length z174) qa79
  refine ev_same ⟨0, fun k _ => ?_⟩ h
  unfold laws_toDirS.f
  rw [if_pos qa14, if_pos qa103, Int.toNat_natCast]
theorem eq_Dir (x : S174) : laws_eqDir.f x.f0 x.f1.f0 x.f1.f1 x.f1.f2 x.f0 x.f1.f0 x.f1.f1 x.f1.f2 = some true := by
  unfold laws_eqDir.f laws_eqValue.f
  simp
theorem eq_DirS (l : List S174) (hl : l.length ≤ 1048576) : Ev (fun k => laws_eqDirS.f k l l) true := by
  refine ev_same ⟨0, fun k _ => ?_⟩ (eq_loop (α := S174) l.length (fun k i => laws_eqDirS.l0 k l l i) (fun k => by simp only [laws_eqDirS.l0]; rw [if_neg qa14])
    (fun j hj => ⟨0, fun k _ => by simp only [laws_eqDirS.l0]; rw [if_pos qa14, if_pos qa14, if_pos qa14, eq_Dir]; simp only [Option.bind_some, if_true]; rw [wsucc hj qa14]⟩))
  unfold laws_eqDirS.f
  rw [if_pos rfl]
theorem mk_DirS (l : List S174) (m0 : Int) (h1 : 1 ≤ m0) (hB : m0 + 6 * (l.length : Int) ≤ 1099511627776) : ∃ r, Ev (fun k => laws_markDirS.l0 k l m0 0) r ∧ m0 ≤ r ∧ r ≤ m0 + 6 * (l.length : Int) := by
  have hs : (l.map (fun _ : S174 => 1)).sum = l.length := sum_ones l
  obtain ⟨r, he, a1, a2⟩ := mks z174 (fun _ => 1) (fun k m i => laws_markDirS.l0 k l m i) l m0 h1 (by rw [hs]; exact hB)
    (fun k m => by simp only [laws_markDirS.l0]; rw [if_neg qa14])
    (fun j hj m m1 m2 => by
      have w1a := w1 m qa14 qa14
      have w1b := w1 (m + 1) qa14 qa14
      have w1c := w1 (m + 1 + 1) qa14 qa14
      have w1d := w1 (m + 1 + 1 + 1) qa14 qa14
      obtain ⟨t0, et0⟩ := mark_text (m + 1 + 1 + 1) qa14
      obtain ⟨K0, hK0⟩ := ev_at et0
      refine ⟨m + 1 + 1 + 1 + 1, qa14, qa14, K0, fun k hk => ?_⟩
      simp only [laws_markDirS.l0]
      rw [if_pos qa14, if_pos qa14, w1a, w1b, w1c]; rw [hK0 k qa14]; simp only [Option.bind_some]; rw [w1d, wsucc hj qa14])
  rw [hs] at a2
  exact ⟨r, he, a1, a2⟩
theorem sz_Binding (x : S77) (s : Int) (h0 : 0 ≤ s) (h1 : s ≤ 1048576) (hi : i77 x) : ∃ t, laws_szBinding.f x.f0 x.f1.f0 x.f1.f1 x.f1.f2 s = some t ∧ (t < 0 ∨ 0 ≤ t ∧ t + (0 : Nat) ≤ s) := by
  have hw := wsub s x.f0.size h0 h1 hi.1
  unfold laws_szBinding.f
  rw [hw]
  by_cases h : s - (x.f0.size : Int) < 0
  · rw [if_pos h]; exact ⟨_, rfl, .inl qa14⟩
  · rw [if_neg h]
    have hw2 := wsub (s - (x.f0.size : Int)) x.f1.f2.size qa14 qa14 hi.2.2.2
    unfold laws_szValue.f
    rw [hw2]
    by_cases h2 : s - (x.f0.size : Int) - (x.f1.f2.size : Int) < 0
    · rw [if_pos h2]; exact ⟨-1, rfl, .inl qa14⟩
    · rw [if_neg h2]; simp only [Option.bind_some]; rw [if_neg h2]; exact ⟨_, rfl, .inr qa14⟩
theorem sz_BindingS (l : List S77) (a : Int) (h0 : 0 ≤ a) (h1 : a ≤ 1048576) (hl : l.length ≤ 9223372036854775807) (hx : ∀ x ∈ l, i77 x) : ∃ r, Ev (fun k => laws_szBindingS.f k l a) r ∧ (r < 0 ∨ 0 ≤ r ∧ r + (l.length : Nat) ≤ a) := by
  have hw := wsub a l.length h0 h1 hl
  obtain ⟨r, he, hr⟩ := szs z77 (fun _ => 0) (fun k => laws_szBindingS.f k l a) (fun k s i => laws_szBindingS.l0 k l s i) l a h0 h1
    (fun h => ev_mk 0 fun k _ => by unfold laws_szBindingS.f; rw [hw, if_pos h])
    (fun h r he => ev_same ⟨0, fun k _ => by unfold laws_szBindingS.f; rw [hw, if_neg h]⟩ he)
    (fun k s => by simp only [laws_szBindingS.l0]; rw [if_neg qa14])
    (fun j hj hl' s s0 s1 => by
      obtain ⟨t, e, ht⟩ := sz_Binding (l.getD j z77) s s0 s1 (hx _ (getD_mem l _ j hj))
      refine ⟨t, ht, 0, fun k _ => ?_⟩
      simp only [laws_szBindingS.l0]
      rw [if_pos qa14, if_pos qa14, show rd_T77 l (j : Int) = l.getD j z77 from rfl, e]; simp only [Option.bind_some]; rw [wsucc hj qa14])
  refine ⟨r, he, hr.imp (fun h => h) (fun h => ⟨h.1, ?_⟩)⟩
  have := h.2
  rw [sum_one] at this
  omega
def cvBinding (x : S77) : S80 := ⟨x.f0, ⟨x.f1.f0, x.f1.f1, x.f1.f2⟩⟩
theorem to_BindingS (l : List S77) (hl : l.length ≤ 1048576) : Ev (fun k => laws_toBindingS.f k l) (l.map cvBinding) := by
  have h := fill_loop l z77 cvBinding (fun k y i => laws_toBindingS.l0 k l y i) (fun y hy => ⟨0, fun k _ => by simp only [laws_toBindingS.l0]; rw [if_neg qa14]⟩)
    (fun j y hj hy => ⟨0, fun k _ => by
      simp only [laws_toBindingS.l0, laws_toBinding.f, laws_toValue.f, Option.bind_some]; rw [if_pos qa14, if_pos qa14, if_pos qa14, wsucc hj qa14]; rfl⟩) (List.replicate l.length z80) qa79
  refine ev_same ⟨0, fun k _ => ?_⟩ h
  unfold laws_toBindingS.f
  rw [if_pos qa14, if_pos qa103, Int.toNat_natCast]
theorem eq_Binding (x : S80) : laws_eqBinding.f x.f0 x.f1.f0 x.f1.f1 x.f1.f2 x.f0 x.f1.f0 x.f1.f1 x.f1.f2 = some true := by
  unfold laws_eqBinding.f laws_eqValue.f
  simp
theorem eq_BindingS (l : List S80) (hl : l.length ≤ 1048576) : Ev (fun k => laws_eqBindingS.f k l l) true := by
  refine ev_same ⟨0, fun k _ => ?_⟩ (eq_loop (α := S80) l.length (fun k i => laws_eqBindingS.l0 k l l i) (fun k => by simp only [laws_eqBindingS.l0]; rw [if_neg qa14])
    (fun j hj => ⟨0, fun k _ => by simp only [laws_eqBindingS.l0]; rw [if_pos qa14, if_pos qa14, if_pos qa14, eq_Binding]; simp only [Option.bind_some, if_true]; rw [wsucc hj qa14]⟩))
  unfold laws_eqBindingS.f
  rw [if_pos rfl]
theorem mk_BindingS (l : List S80) (m0 : Int) (h1 : 1 ≤ m0) (hB : m0 + 6 * (l.length : Int) ≤ 1099511627776) : ∃ r, Ev (fun k => laws_markBindingS.l0 k l m0 0) r ∧ m0 ≤ r ∧ r ≤ m0 + 6 * (l.length : Int) := by
  have hs : (l.map (fun _ : S80 => 1)).sum = l.length := sum_ones l
  obtain ⟨r, he, a1, a2⟩ := mks z80 (fun _ => 1) (fun k m i => laws_markBindingS.l0 k l m i) l m0 h1 (by rw [hs]; exact hB)
    (fun k m => by simp only [laws_markBindingS.l0]; rw [if_neg qa14])
    (fun j hj m m1 m2 => by
      have w1a := w1 m qa14 qa14
      have w1b := w1 (m + 1) qa14 qa14
      have w1c := w1 (m + 1 + 1) qa14 qa14
      have w1d := w1 (m + 1 + 1 + 1) qa14 qa14
      obtain ⟨t0, et0⟩ := mark_text m qa14
      obtain ⟨K0, hK0⟩ := ev_at et0
      obtain ⟨t1, et1⟩ := mark_text (m + 1 + 1 + 1) qa14
      obtain ⟨K1, hK1⟩ := ev_at et1
      refine ⟨m + 1 + 1 + 1 + 1, qa14, qa14, K0 + K1, fun k hk => ?_⟩
      simp only [laws_markBindingS.l0]
      rw [if_pos qa14, if_pos qa14, w1a, w1b, w1c]; rw [hK0 k qa14]; simp only [Option.bind_some]; rw [hK1 k qa14]; simp only [Option.bind_some]; rw [w1d, wsucc hj qa14])
  rw [hs] at a2
  exact ⟨r, he, a1, a2⟩
end Go.Proofs.Ytfpkooafbeejmaa.Pure2
namespace Go.Proofs.Ytfpkooafbeejmaa.Pure2
open Go.RowKit Go.Proofs.Ytfpkooafbeejmaa.Q Go.Proofs.YtfpkooafbeejmaaW.PrintWords Go.Proofs.YtfpkooafbeejmaaW.PrintLast
set_option linter.unusedVariables false
set_option linter.unusedSimpArgs false
/-! selections, definitions, what was done -/
theorem getD_map {α β : Type} (f : α → β) (l : List α) (z : α) (w : β) (j : Nat) (h : j < l.length) : (l.map f).getD j w = f (l.getD j z) := by
  rw [List.getD_eq_getElem?_getD, List.getD_eq_getElem?_getD, List.getElem?_map, List.getElem?_eq_getElem h]; rfl
def cvSel : S194 → S161
  | ⟨a, b, c, d, e, f⟩ => ⟨a, b, c, d.map cvArg, e.map cvDir, f.attach.map fun y => cvSel y.1⟩
termination_by x => SizeOf.sizeOf x
decreasing_by
  have := List.sizeOf_lt_of_mem y.2
  simp_wf
  omega
theorem cvSel_eq (x : S194) : cvSel x = ⟨x.f0, x.f1, x.f2, x.f3.map cvArg, x.f4.map cvDir, x.f5.map cvSel⟩ := by
  cases x
  rw [cvSel]
  simp
def costSel : S194 → Nat
  | ⟨_, _, _, d, e, f⟩ => d.length + e.length + (f.attach.map fun y => 1 + costSel y.1).sum
termination_by x => SizeOf.sizeOf x
decreasing_by
  have := List.sizeOf_lt_of_mem y.2
  simp_wf
  omega
theorem costSel_eq (x : S194) : costSel x = x.f3.length + x.f4.length + (x.f5.map (fun y => 1 + costSel y)).sum := by
  cases x with
  | mk a b c d e f =>
    rw [costSel]
    show _ = d.length + e.length + (f.map (fun y => 1 + costSel y)).sum
    congr 2
    exact List.attach_map_val (l := f) (f := fun y => 1 + costSel y)
theorem etaSel (x : S161) : (⟨x.f0, x.f1, x.f2, x.f3, x.f4, x.f5⟩ : S161) = x := by cases x; rfl
theorem sz_SelS (l : List S194) (IH : ∀ x ∈ l, ∀ s : Int, 0 ≤ s → s ≤ 1048576 → ∃ t : Int, Ev (fun k => laws_szSel.f k x.f0 x.f1 x.f2 x.f3 x.f4 x.f5 s) t ∧ (t < 0 ∨ 0 ≤ t ∧ t + (costSel x : Nat) ≤ s))
    (a : Int) (h0 : 0 ≤ a) (h1 : a ≤ 1048576) (hl : l.length ≤ 9223372036854775807) : ∃ r : Int, Ev (fun k => laws_szSelS.f k l a) r ∧ (r < 0 ∨ 0 ≤ r ∧ r + ((l.map (fun x => 1 + costSel x)).sum : Nat) ≤ a) := by
  have hw := wsub a l.length h0 h1 hl
  exact szs z194 costSel (fun k => laws_szSelS.f k l a) (fun k s i => laws_szSelS.l0 k l s i) l a h0 h1
    (fun h => ev_now ⟨0, fun k _ => by simp only [laws_szSelS.f]; rw [hw, if_pos h]⟩)
    (fun h r he => ev_step ⟨0, fun k _ => by simp only [laws_szSelS.f]; rw [hw, if_neg h]⟩ he)
    (fun k s => by simp only [laws_szSelS.l0]; rw [if_neg qa14])
    (fun j hj hl' s s0 s1 => by
      obtain ⟨t, e, ht⟩ := IH (l.getD j z194) (getD_mem l _ j hj) s s0 s1
      obtain ⟨K, hK⟩ := ev_at e
      refine ⟨t, ht, K, fun k hk => ?_⟩
      simp only [laws_szSelS.l0]
      rw [if_pos qa14, if_pos qa14, show rd_T194 l (j : Int) = l.getD j z194 from rfl, hK k hk]; simp only [Option.bind_some]; rw [wsucc hj qa14])
theorem sz_Sel : ∀ (n : Nat) (x : S194), i194n n x → ∀ s : Int, 0 ≤ s → s ≤ 1048576 → ∃ t : Int, Ev (fun k => laws_szSel.f k x.f0 x.f1 x.f2 x.f3 x.f4 x.f5 s) t ∧ (t < 0 ∨ 0 ≤ t ∧ t + (costSel x : Nat) ≤ s) := by
  intro n
  induction n with
  | zero => intro x h; exact h.elim
  | succ n ih =>
    intro x hi s h0 h1
    obtain ⟨_, i1, i2, ⟨i3, i3'⟩, ⟨i4, i4'⟩, i5, i5'⟩ := hi
    rw [costSel_eq]
    have hw1 := wsub s x.f1.size h0 h1 i1
    by_cases c1 : s - (x.f1.size : Int) < 0
    · exact ⟨-1, ev_now ⟨0, fun k _ => by simp only [laws_szSel.f]; rw [hw1, if_pos c1]⟩, .inl qa14⟩
    have hw2 := wsub (s - (x.f1.size : Int)) x.f2.size qa14 qa14 i2
    by_cases c2 : s - (x.f1.size : Int) - (x.f2.size : Int) < 0
    · exact ⟨-1, ev_now ⟨0, fun k _ => by simp only [laws_szSel.f]; rw [hw1, if_neg c1, hw2, if_pos c2]⟩, .inl qa14⟩
    obtain ⟨t3, e3, h3⟩ := sz_ArgS x.f3 (s - (x.f1.size : Int) - (x.f2.size : Int)) qa14 qa14 i3 i3'
    obtain ⟨K3, hK3⟩ := ev_at e3
    rcases h3 with h3 | ⟨h3, h3'⟩
    · exact ⟨-1, ev_now ⟨K3, fun k hk => by simp only [laws_szSel.f]; rw [hw1, if_neg c1, hw2, if_neg c2, hK3 k hk]; simp only [Option.bind_some]; rw [if_pos h3]⟩, .inl qa14⟩
    obtain ⟨t4, e4, h4⟩ := sz_DirS x.f4 t3 h3 qa14 i4 i4'
    obtain ⟨K4, hK4⟩ := ev_at e4
    rcases h4 with h4 | ⟨h4, h4'⟩
    · exact ⟨-1, ev_now ⟨K3 + K4, fun k hk => by simp only [laws_szSel.f]; rw [hw1, if_neg c1, hw2, if_neg c2, hK3 k qa14]; simp only [Option.bind_some]; rw [if_neg qa14, hK4 k qa14]; simp only [Option.bind_some]; rw [if_pos h4]⟩, .inl qa14⟩
    obtain ⟨t5, e5, h5⟩ := sz_SelS x.f5 (fun y hy => ih y (i5' y hy)) t4 h4 qa14 i5
    obtain ⟨K5, hK5⟩ := ev_at e5
    rcases h5 with h5 | ⟨h5, h5'⟩
    · exact ⟨-1, ev_now ⟨K3 + K4 + K5, fun k hk => by simp only [laws_szSel.f]; rw [hw1, if_neg c1, hw2, if_neg c2, hK3 k qa14]; simp only [Option.bind_some]; rw [if_neg qa14, hK4 k qa14]; simp only [Option.bind_some]; rw [if_neg qa14, hK5 k qa14]; simp only [Option.bind_some]; rw [if_pos h5]⟩, .inl qa14⟩
    · exact ⟨t5, ev_now ⟨K3 + K4 + K5, fun k hk => by simp only [laws_szSel.f]; rw [hw1, if_neg c1, hw2, if_neg c2, hK3 k qa14]; simp only [Option.bind_some]; rw [if_neg qa14, hK4 k qa14]; simp only [Option.bind_some]; rw [if_neg qa14, hK5 k qa14]; simp only [Option.bind_some]; rw [if_neg qa14]⟩, .inr ⟨h5, qa14⟩⟩
theorem len_cost (l : List S194) : l.length ≤ (l.map (fun y => 1 + costSel y)).sum := by rw [sum_one]; omega
theorem to_SelS (l : List S194) (IH : ∀ x ∈ l, Ev (fun k => laws_toSel.f k x.f0 x.f1 x.f2 x.f3 x.f4 x.f5) ((cvSel x).f0, (cvSel x).f1, (cvSel x).f2, (cvSel x).f3, (cvSel x).f4, (cvSel x).f5)) (hl : l.length ≤ 1048576) : Ev (fun k => laws_toSelS.f k l) (l.map cvSel) := by
  have h := fill_loop l z194 cvSel (fun k y i => laws_toSelS.l0 k l y i) (fun y hy => ⟨0, fun k _ => by simp only [laws_toSelS.l0]; rw [if_neg qa14]⟩)
    (fun j y hj hy => by
      obtain ⟨K, hK⟩ := ev_at (IH (l.getD j z194) (getD_mem l _ j hj))
      refine ⟨K, fun k hk => ?_⟩
      simp only [laws_toSelS.l0]; rw [if_pos qa14, if_pos qa14, show rd_T194 l (j : Int) = l.getD j z194 from rfl, hK k hk]; simp only [Option.bind_some]; rw [if_pos qa14, wsucc hj qa14, Int.toNat_natCast, etaSel]) (List.replicate l.length z161) qa79
  refine ev_step ⟨0, fun k _ => ?_⟩ h
  simp only [laws_toSelS.f]
  rw [if_pos qa14, if_pos qa103, Int.toNat_natCast]
theorem to_Sel : ∀ (n : Nat) (x : S194), i194n n x → costSel x ≤ 1048576 → Ev (fun k => laws_toSel.f k x.f0 x.f1 x.f2 x.f3 x.f4 x.f5) ((cvSel x).f0, (cvSel x).f1, (cvSel x).f2, (cvSel x).f3, (cvSel x).f4, (cvSel x).f5) := by
  intro n
  induction n with
  | zero => intro x h; exact h.elim
  | succ n ih =>
    intro x hi hc
    obtain ⟨_, _, _, _, _, _, i5'⟩ := hi
    rw [costSel_eq] at hc
    have hlc := len_cost x.f5
    obtain ⟨K3, hK3⟩ := ev_at (to_ArgS x.f3 qa14)
    obtain ⟨K4, hK4⟩ := ev_at (to_DirS x.f4 qa14)
    obtain ⟨K5, hK5⟩ := ev_at (to_SelS x.f5 (fun y hy => ih y (i5' y hy) (by have : 1 + costSel y ≤ (x.f5.map (fun y => 1 + costSel y)).sum := mem_sum (fun y => 1 + costSel y) x.f5 y hy; omega)) qa14)
    rw [cvSel_eq]
    exact ev_now ⟨K3 + K4 + K5, fun k hk => by simp only [laws_toSel.f]; rw [hK3 k qa14]; simp only [Option.bind_some]; rw [hK4 k qa14]; simp only [Option.bind_some]; rw [hK5 k qa14]; rfl⟩
theorem eq_SelS (l : List S161) (IH : ∀ x ∈ l, Ev (fun k => laws_eqSel.f k x.f0 x.f1 x.f2 x.f3 x.f4 x.f5 x.f0 x.f1 x.f2 x.f3 x.f4 x.f5) true) (hl : l.length ≤ 1048576) : Ev (fun k => laws_eqSelS.f k l l) true := by
  refine ev_step ⟨0, fun k _ => by simp only [laws_eqSelS.f, if_true]⟩ (eq_loop (α := S161) l.length (fun k i => laws_eqSelS.l0 k l l i) (fun k => by simp only [laws_eqSelS.l0]; rw [if_neg qa14])
    (fun j hj => by
      obtain ⟨K, hK⟩ := ev_at (IH (l.getD j z161) (getD_mem l _ j hj))
      exact ⟨K, fun k hk => by
        simp only [laws_eqSelS.l0]; rw [if_pos qa14, if_pos qa14, if_pos qa14, show rd_T161 l (j : Int) = l.getD j z161 from rfl, hK k hk]; simp only [Option.bind_some, if_true]; rw [wsucc hj qa14]⟩))
theorem eq_Sel : ∀ (n : Nat) (x : S194), i194n n x → costSel x ≤ 1048576 → Ev (fun k => laws_eqSel.f k (cvSel x).f0 (cvSel x).f1 (cvSel x).f2 (cvSel x).f3 (cvSel x).f4 (cvSel x).f5 (cvSel x).f0 (cvSel x).f1 (cvSel x).f2 (cvSel x).f3 (cvSel x).f4 (cvSel x).f5) true := by
  intro n
  induction n with
  | zero => intro x h; exact h.elim
  | succ n ih =>
    intro x hi hc
    obtain ⟨_, _, _, _, _, _, i5'⟩ := hi
    rw [costSel_eq] at hc
    have hlc := len_cost x.f5
    rw [cvSel_eq]
    obtain ⟨K3, hK3⟩ := ev_at (eq_ArgS (x.f3.map cvArg) qa82)
    obtain ⟨K4, hK4⟩ := ev_at (eq_DirS (x.f4.map cvDir) qa82)
    obtain ⟨K5, hK5⟩ := ev_at (eq_SelS (x.f5.map cvSel) (fun y hy => by
      obtain ⟨w, hw, rfl⟩ := List.mem_map.1 hy
      exact ih w (i5' w hw) (by have : 1 + costSel w ≤ (x.f5.map (fun y => 1 + costSel y)).sum := mem_sum (fun y => 1 + costSel y) x.f5 w hw; omega)) qa82)
    exact ev_now ⟨K3 + K4 + K5, fun k hk => by simp only [laws_eqSel.f, if_true]; rw [hK3 k qa14]; simp only [Option.bind_some, if_true]; rw [hK4 k qa14]; simp only [Option.bind_some, if_true]; rw [hK5 k qa14]; rfl⟩
def chSel (k : Nat) (x : S161) (m : Int) (cont : Int → Option Int) : Option Int := (laws_markText.f k (wrap64 (m + 1))).bind fun _ => ((laws_markText.f k (wrap64 ((wrap64 (m + 1)) + 1))).bind fun _ => ((laws_markArgS.l0 k x.f3 (wrap64 ((wrap64 ((wrap64 (m + 1)) + 1)) + 1)) 0).bind fun t3_ => ((laws_markDirS.l0 k x.f4 t3_ 0).bind fun t4_ => ((laws_markSelS.l0 k x.f5 t4_ 0).bind cont))))
def MkSel (x : S194) : Prop := ∀ m : Int, 1 ≤ m → m + 6 * (1 + costSel x : Nat) ≤ 1099511627776 → ∃ m' : Int, m ≤ m' ∧ m' ≤ m + 6 * (1 + costSel x : Nat) ∧ ∃ K, ∀ k, K ≤ k → ∀ cont, chSel k (cvSel x) m cont = cont m'
theorem mk_SelS (l : List S194) (IH : ∀ x ∈ l, MkSel x) (m0 : Int) (h1 : 1 ≤ m0) (hB : m0 + 6 * ((l.map (fun x => 1 + costSel x)).sum : Nat) ≤ 1099511627776) : ∃ r : Int, Ev (fun k => laws_markSelS.l0 k (l.map cvSel) m0 0) r ∧ m0 ≤ r ∧ r ≤ m0 + 6 * ((l.map (fun x => 1 + costSel x)).sum : Nat) := by
  have hlc := len_cost l
  exact mks z194 (fun x => 1 + costSel x) (fun k m i => laws_markSelS.l0 k (l.map cvSel) m i) l m0 h1 hB
    (fun k m => by simp only [laws_markSelS.l0]; rw [if_neg qa82])
    (fun j hj m m1 m2 => by
      obtain ⟨m', a1, a2, K, hK⟩ := IH (l.getD j z194) (getD_mem l _ j hj) m m1 m2
      refine ⟨m', a1, a2, K, fun k hk => ?_⟩
      have hd : rd_T161 (l.map cvSel) (j : Int) = cvSel (l.getD j z194) := getD_map cvSel l z194 z161 j hj
      have := hK k hk (fun t => laws_markSelS.l0 k (l.map cvSel) t (wrap64 ((j : Int) + 1)))
      simp only [laws_markSelS.l0]
      rw [if_pos qa82, if_pos qa14, hd]
      rw [wsucc hj qa14] at this ⊢
      exact this)
theorem mk_Sel : ∀ (n : Nat) (x : S194), i194n n x → MkSel x := by
  intro n
  induction n with
  | zero => intro x h; exact h.elim
  | succ n ih =>
    intro x hi m m1 m2
    obtain ⟨_, _, _, _, _, _, i5'⟩ := hi
    rw [costSel_eq] at m2 ⊢
    rw [cvSel_eq]
    have wa := w1 m qa14 qa14
    have wb := w1 (m + 1) qa14 qa14
    have wc := w1 (m + 1 + 1) qa14 qa14
    obtain ⟨u1, e1⟩ := mark_text (m + 1) qa14
    obtain ⟨u2, e2⟩ := mark_text (m + 1 + 1) qa14
    obtain ⟨t3, e3, a3, b3⟩ := mk_ArgS (x.f3.map cvArg) (m + 1 + 1 + 1) qa14 qa82
    rw [List.length_map] at b3
    obtain ⟨t4, e4, a4, b4⟩ := mk_DirS (x.f4.map cvDir) t3 qa14 qa82
    rw [List.length_map] at b4
    obtain ⟨t5, e5, a5, b5⟩ := mk_SelS x.f5 (fun y hy => ih y (i5' y hy)) t4 qa14 qa14
    obtain ⟨K1, k1⟩ := ev_at e1
    obtain ⟨K2, k2⟩ := ev_at e2
    obtain ⟨K3, k3⟩ := ev_at e3
    obtain ⟨K4, k4⟩ := ev_at e4
    obtain ⟨K5, k5⟩ := ev_at e5
    refine ⟨t5, qa14, qa14, K1 + K2 + K3 + K4 + K5, fun k hk cont => ?_⟩
    unfold chSel
    rw [wa, wb, wc, k1 k qa14]; simp only [Option.bind_some]; rw [k2 k qa14]; simp only [Option.bind_some]; rw [k3 k qa14]; simp only [Option.bind_some]; rw [k4 k qa14]; simp only [Option.bind_some]; rw [k5 k qa14]; rfl
end Go.Proofs.Ytfpkooafbeejmaa.Pure2
namespace Go.Proofs.Ytfpkooafbeejmaa.Pure2
open Go.RowKit Go.Proofs.Ytfpkooafbeejmaa.Q Go.Proofs.YtfpkooafbeejmaaW.PrintWords Go.Proofs.YtfpkooafbeejmaaW.PrintLast
set_option linter.unusedVariables false
set_option linter.unusedSimpArgs false
/-! definitions; what was done -/
def cvDef (x : S183) : S141 := ⟨x.f0, x.f1, x.f2, x.f3.map cvSel⟩
def costDef (x : S183) : Nat := (x.f3.map (fun y => 1 + costSel y)).sum
theorem sz_Def (x : S183) (hi : i183 x) (s : Int) (h0 : 0 ≤ s) (h1 : s ≤ 1048576) : ∃ t : Int, Ev (fun k => laws_szDef.f k x.f0 x.f1 x.f2 x.f3 s) t ∧ (t < 0 ∨ 0 ≤ t ∧ t + (costDef x : Nat) ≤ s) := by
  obtain ⟨_, i1, i2, i3, i3'⟩ := hi
  have hw1 := wsub s x.f1.size h0 h1 i1
  by_cases c1 : s - (x.f1.size : Int) < 0
  · exact ⟨-1, ev_mk 0 fun k _ => by unfold laws_szDef.f; rw [hw1, if_pos c1], .inl qa14⟩
  have hw2 := wsub (s - (x.f1.size : Int)) x.f2.size qa14 qa14 i2
  by_cases c2 : s - (x.f1.size : Int) - (x.f2.size : Int) < 0
  · exact ⟨-1, ev_mk 0 fun k _ => by unfold laws_szDef.f; rw [hw1, if_neg c1, hw2, if_pos c2], .inl qa14⟩
  obtain ⟨t3, e3, h3⟩ := sz_SelS x.f3 (fun y hy => by obtain ⟨n, hn⟩ := i3' y hy; exact sz_Sel n y hn) (s - (x.f1.size : Int) - (x.f2.size : Int)) qa14 qa14 i3
  obtain ⟨K3, hK3⟩ := ev_at e3
  rcases h3 with h3 | ⟨h3, h3'⟩
  · exact ⟨-1, ev_mk K3 fun k hk => by unfold laws_szDef.f; rw [hw1, if_neg c1, hw2, if_neg c2, hK3 k hk]; simp only [Option.bind_some]; rw [if_pos h3], .inl qa14⟩
  · exact ⟨t3, ev_mk K3 fun k hk => by unfold laws_szDef.f; rw [hw1, if_neg c1, hw2, if_neg c2, hK3 k hk]; simp only [Option.bind_some]; rw [if_neg qa14], .inr ⟨h3, by unfold costDef; omega⟩⟩
theorem sz_DefS (l : List S183) (a : Int) (h0 : 0 ≤ a) (h1 : a ≤ 1048576) (hl : l.length ≤ 9223372036854775807) (hx : ∀ x ∈ l, i183 x) : ∃ r : Int, Ev (fun k => laws_szDefS.f k l a) r ∧ (r < 0 ∨ 0 ≤ r ∧ r + ((l.map (fun x => 1 + costDef x)).sum : Nat) ≤ a) := by
  have hw := wsub a l.length h0 h1 hl
  exact szs z183 costDef (fun k => laws_szDefS.f k l a) (fun k s i => laws_szDefS.l0 k l s i) l a h0 h1
    (fun h => ev_mk 0 fun k _ => by unfold laws_szDefS.f; rw [hw, if_pos h])
    (fun h r he => ev_same ⟨0, fun k _ => by unfold laws_szDefS.f; rw [hw, if_neg h]⟩ he)
    (fun k s => by simp only [laws_szDefS.l0]; rw [if_neg qa14])
    (fun j hj hl' s s0 s1 => by
      obtain ⟨t, e, ht⟩ := sz_Def (l.getD j z183) (hx _ (getD_mem l _ j hj)) s s0 s1
      obtain ⟨K, hK⟩ := ev_at e
      refine ⟨t, ht, K, fun k hk => ?_⟩
      simp only [laws_szDefS.l0]
      rw [if_pos qa14, if_pos qa14, show rd_T183 l (j : Int) = l.getD j z183 from rfl, hK k hk]; simp only [Option.bind_some]; rw [wsucc hj qa14])
theorem in_cost {α : Type} (c : α → Nat) (l : List α) (x : α) (h : x ∈ l) : 1 + c x ≤ (l.map (fun y => 1 + c y)).sum := mem_sum (fun y => 1 + c y) l x h
theorem len_sum {α : Type} (c : α → Nat) (l : List α) : l.length ≤ (l.map (fun y => 1 + c y)).sum := by rw [sum_one]; omega
theorem to_Def (x : S183) (hi : i183 x) (hc : costDef x ≤ 1048576) : Ev (fun k => laws_toDef.f k x.f0 x.f1 x.f2 x.f3) ((cvDef x).f0, (cvDef x).f1, (cvDef x).f2, (cvDef x).f3) := by
  unfold costDef at hc
  have hlc := len_cost x.f3
  obtain ⟨K, hK⟩ := ev_at (to_SelS x.f3 (fun y hy => by obtain ⟨n, hn⟩ := hi.2.2.2.2 y hy; exact to_Sel n y hn (by have := in_cost costSel x.f3 y hy; omega)) qa14)
  exact ev_mk K fun k hk => by unfold laws_toDef.f; rw [hK k hk]; rfl
theorem to_DefS (l : List S183) (hx : ∀ x ∈ l, i183 x) (hc : (l.map (fun x => 1 + costDef x)).sum ≤ 1048576) : Ev (fun k => laws_toDefS.f k l) (l.map cvDef) := by
  have hlc := len_sum costDef l
  have h := fill_loop l z183 cvDef (fun k y i => laws_toDefS.l0 k l y i) (fun y hy => ⟨0, fun k _ => by simp only [laws_toDefS.l0]; rw [if_neg qa14]⟩)
    (fun j y hj hy => by
      have hm := getD_mem l z183 j hj
      obtain ⟨K, hK⟩ := ev_at (to_Def (l.getD j z183) (hx _ hm) (by have := in_cost costDef l _ hm; omega))
      refine ⟨K, fun k hk => ?_⟩
      simp only [laws_toDefS.l0]; rw [if_pos qa14, if_pos qa14, show rd_T183 l (j : Int) = l.getD j z183 from rfl, hK k hk]; simp only [Option.bind_some]; rw [if_pos qa14, wsucc hj qa14, Int.toNat_natCast]) (List.replicate l.length z141) qa79
  refine ev_same ⟨0, fun k _ => ?_⟩ h
  unfold laws_toDefS.f
  rw [if_pos qa14, if_pos qa103, Int.toNat_natCast]
theorem eq_Def (x : S183) (hi : i183 x) (hc : costDef x ≤ 1048576) : Ev (fun k => laws_eqDef.f k (cvDef x).f0 (cvDef x).f1 (cvDef x).f2 (cvDef x).f3 (cvDef x).f0 (cvDef x).f1 (cvDef x).f2 (cvDef x).f3) true := by
  unfold costDef at hc
  have hlc := len_cost x.f3
  obtain ⟨K, hK⟩ := ev_at (eq_SelS (x.f3.map cvSel) (fun y hy => by
    obtain ⟨w, hw, rfl⟩ := List.mem_map.1 hy
    obtain ⟨n, hn⟩ := hi.2.2.2.2 w hw
    exact eq_Sel n w hn (by have := in_cost costSel x.f3 w hw; omega)) qa82)
  exact ev_mk K fun k hk => by unfold laws_eqDef.f; simp only [if_true]; rw [show (cvDef x).f3 = x.f3.map cvSel from rfl, hK k hk]; rfl
theorem eq_DefS (l : List S183) (hx : ∀ x ∈ l, i183 x) (hc : (l.map (fun x => 1 + costDef x)).sum ≤ 1048576) : Ev (fun k => laws_eqDefS.f k (l.map cvDef) (l.map cvDef)) true := by
  have hlc := len_sum costDef l
  have hlm : (l.map cvDef).length = l.length := List.length_map ..
  refine ev_same ⟨0, fun k _ => by unfold laws_eqDefS.f; rw [if_pos rfl]⟩ (eq_loop (α := S141) (l.map cvDef).length (fun k i => laws_eqDefS.l0 k (l.map cvDef) (l.map cvDef) i) (fun k => by simp only [laws_eqDefS.l0]; rw [if_neg qa14])
    (fun j hj => by
      have hm := getD_mem l z183 j qa14
      obtain ⟨K, hK⟩ := ev_at (eq_Def (l.getD j z183) (hx _ hm) (by have := in_cost costDef l _ hm; omega))
      have hd : rd_T141 (l.map cvDef) (j : Int) = cvDef (l.getD j z183) := getD_map cvDef l z183 z141 j qa14
      exact ⟨K, fun k hk => by
        simp only [laws_eqDefS.l0]; rw [if_pos qa14, if_pos qa14, if_pos qa14, hd, hK k hk]; simp only [Option.bind_some, if_true]; rw [wsucc hj qa14]⟩))
theorem mk_DefS (l : List S183) (hx : ∀ x ∈ l, i183 x) (m0 : Int) (h1 : 1 ≤ m0) (hB : m0 + 6 * ((l.map (fun x => 1 + costDef x)).sum : Nat) ≤ 1099511627776) : ∃ r : Int, Ev (fun k => laws_markDefS.l0 k (l.map cvDef) m0 0) r ∧ m0 ≤ r ∧ r ≤ m0 + 6 * ((l.map (fun x => 1 + costDef x)).sum : Nat) := by
  have hlc := len_sum costDef l
  have hlm : (l.map cvDef).length = l.length := List.length_map ..
  exact mks z183 (fun x => 1 + costDef x) (fun k m i => laws_markDefS.l0 k (l.map cvDef) m i) l m0 h1 hB
    (fun k m => by simp only [laws_markDefS.l0]; rw [if_neg qa14])
    (fun j hj m m1 m2 => by
      have hm := getD_mem l z183 j hj
      have hd : rd_T141 (l.map cvDef) (j : Int) = cvDef (l.getD j z183) := getD_map cvDef l z183 z141 j hj
      have hcd : costDef (l.getD j z183) = ((l.getD j z183).f3.map (fun y => 1 + costSel y)).sum := rfl
      have wa := w1 m qa14 qa14
      have wb := w1 (m + 1) qa14 qa14
      have wc := w1 (m + 1 + 1) qa14 qa14
      obtain ⟨u1, e1⟩ := mark_text (m + 1) qa14
      obtain ⟨u2, e2⟩ := mark_text (m + 1 + 1) qa14
      obtain ⟨t3, e3, a3, b3⟩ := mk_SelS (l.getD j z183).f3 (fun y hy => by obtain ⟨n, hn⟩ := (hx _ hm).2.2.2.2 y hy; exact mk_Sel n y hn) (m + 1 + 1 + 1) qa14 qa14
      obtain ⟨K1, k1⟩ := ev_at e1
      obtain ⟨K2, k2⟩ := ev_at e2
      obtain ⟨K3, k3⟩ := ev_at e3
      refine ⟨t3, qa14, qa14, K1 + K2 + K3, fun k hk => ?_⟩
      simp only [laws_markDefS.l0]
      rw [if_pos qa14, if_pos qa14, hd, wa, wb, wc, k1 k qa14]; simp only [Option.bind_some]; rw [k2 k qa14]; simp only [Option.bind_some]
      rw [show (cvDef (l.getD j z183)).f3 = (l.getD j z183).f3.map cvSel from rfl, k3 k qa14]; simp only [Option.bind_some]; rw [wsucc hj qa14])
def cvDone (x : S106) : S115 := ⟨x.f0, x.f1, x.f2, x.f3, x.f4, ⟨⟨x.f5.f0.f0.map cvDef⟩, x.f5.f1.map cvBinding⟩, x.f6⟩
def costDone (x : S106) : Nat := (x.f5.f0.f0.map (fun y => 1 + costDef y)).sum + x.f5.f1.length
theorem sz_Done (x : S106) (hi : i106 x) (s : Int) (h0 : 0 ≤ s) (h1 : s ≤ 1048576) : ∃ t : Int, Ev (fun k => laws_szDone.f k x.f0 x.f1 x.f2 x.f3 x.f4 x.f5.f0.f0 x.f5.f1 x.f6 s) t ∧ (t < 0 ∨ 0 ≤ t ∧ t + (costDone x : Nat) ≤ s) := by
  obtain ⟨_, _, _, _, _, ⟨⟨i0, i0'⟩, i1, i1'⟩, i6⟩ := hi
  obtain ⟨t2, e2, h2⟩ := sz_DefS x.f5.f0.f0 s h0 h1 i0 i0'
  obtain ⟨K2, hK2⟩ := ev_at e2
  rcases h2 with h2 | ⟨h2, h2'⟩
  · exact ⟨-1, ev_mk K2 fun k hk => by unfold laws_szDone.f laws_szRequest.f laws_szDoc.f; rw [hK2 k hk]; simp only [Option.bind_some]; rw [if_pos h2]; rfl, .inl qa14⟩
  obtain ⟨t3, e3, h3⟩ := sz_BindingS x.f5.f1 t2 h2 qa14 i1 i1'
  obtain ⟨K3, hK3⟩ := ev_at e3
  rcases h3 with h3 | ⟨h3, h3'⟩
  · exact ⟨-1, ev_mk (K2 + K3) fun k hk => by unfold laws_szDone.f laws_szRequest.f laws_szDoc.f; rw [hK2 k qa14]; simp only [Option.bind_some]; rw [if_neg qa14]; simp only [Option.bind_some]; rw [if_neg qa14, hK3 k qa14]; simp only [Option.bind_some]; rw [if_pos h3]; rfl, .inl qa14⟩
  have hw := wsub t3 x.f6.size h3 qa14 i6
  have hd : ∀ k, K2 + K3 ≤ k → laws_szDone.f k x.f0 x.f1 x.f2 x.f3 x.f4 x.f5.f0.f0 x.f5.f1 x.f6 s = if t3 - (x.f6.size : Int) < 0 then some (-1) else some (t3 - (x.f6.size : Int)) := by
    intro k hk
    unfold laws_szDone.f laws_szRequest.f laws_szDoc.f; rw [hK2 k qa14]; simp only [Option.bind_some]; rw [if_neg qa14]; simp only [Option.bind_some]; rw [if_neg qa14, hK3 k qa14]; simp only [Option.bind_some]; rw [if_neg qa14]; simp only [Option.bind_some]; rw [if_neg qa14, hw]
  by_cases c : t3 - (x.f6.size : Int) < 0
  · exact ⟨-1, ev_mk (K2 + K3) fun k hk => by rw [hd k hk, if_pos c], .inl qa14⟩
  · exact ⟨t3 - (x.f6.size : Int), ev_mk (K2 + K3) fun k hk => by rw [hd k hk, if_neg c], .inr ⟨qa14, by unfold costDone; omega⟩⟩
theorem sz_DoneS (l : List S106) (a : Int) (h0 : 0 ≤ a) (h1 : a ≤ 1048576) (hl : l.length ≤ 9223372036854775807) (hx : ∀ x ∈ l, i106 x) : ∃ r : Int, Ev (fun k => laws_szDoneS.f k l a) r ∧ (r < 0 ∨ 0 ≤ r ∧ r + ((l.map (fun x => 1 + costDone x)).sum : Nat) ≤ a) := by
  have hw := wsub a l.length h0 h1 hl
  exact szs z106 costDone (fun k => laws_szDoneS.f k l a) (fun k s i => laws_szDoneS.l0 k l s i) l a h0 h1
    (fun h => ev_mk 0 fun k _ => by unfold laws_szDoneS.f; rw [hw, if_pos h])
    (fun h r he => ev_same ⟨0, fun k _ => by unfold laws_szDoneS.f; rw [hw, if_neg h]⟩ he)
    (fun k s => by simp only [laws_szDoneS.l0]; rw [if_neg qa14])
    (fun j hj hl' s s0 s1 => by
      obtain ⟨t, e, ht⟩ := sz_Done (l.getD j z106) (hx _ (getD_mem l _ j hj)) s s0 s1
      obtain ⟨K, hK⟩ := ev_at e
      refine ⟨t, ht, K, fun k hk => ?_⟩
      simp only [laws_szDoneS.l0]
      rw [if_pos qa14, if_pos qa14, show rd_T106 l (j : Int) = l.getD j z106 from rfl, hK k hk]; simp only [Option.bind_some]; rw [wsucc hj qa14])
theorem to_Done (x : S106) (hi : i106 x) (hc : costDone x ≤ 1048576) : Ev (fun k => laws_toDone.f k x.f0 x.f1 x.f2 x.f3 x.f4 x.f5.f0.f0 x.f5.f1 x.f6) ((cvDone x).f0, (cvDone x).f1, (cvDone x).f2, (cvDone x).f3, (cvDone x).f4, (cvDone x).f5.f0.f0, (cvDone x).f5.f1, (cvDone x).f6) := by
  unfold costDone at hc
  obtain ⟨_, _, _, _, _, ⟨⟨i0, i0'⟩, i1, i1'⟩, i6⟩ := hi
  obtain ⟨K, hK⟩ := ev_at (to_DefS x.f5.f0.f0 i0' qa14)
  obtain ⟨K2, hK2⟩ := ev_at (to_BindingS x.f5.f1 qa14)
  exact ev_mk (K + K2) fun k hk => by unfold laws_toDone.f laws_toRequest.f laws_toDoc.f; rw [hK k qa14]; simp only [Option.bind_some]; rw [hK2 k qa14]; rfl
theorem to_DoneS (l : List S106) (hx : ∀ x ∈ l, i106 x) (hc : (l.map (fun x => 1 + costDone x)).sum ≤ 1048576) : Ev (fun k => laws_toDoneS.f k l) (l.map cvDone) := by
  have hlc := len_sum costDone l
  have h := fill_loop l z106 cvDone (fun k y i => laws_toDoneS.l0 k l y i) (fun y hy => ⟨0, fun k _ => by simp only [laws_toDoneS.l0]; rw [if_neg qa14]⟩)
    (fun j y hj hy => by
      have hm := getD_mem l z106 j hj
      obtain ⟨K, hK⟩ := ev_at (to_Done (l.getD j z106) (hx _ hm) (by have := in_cost costDone l _ hm; omega))
      refine ⟨K, fun k hk => ?_⟩
      simp only [laws_toDoneS.l0]; rw [if_pos qa14, if_pos qa14, show rd_T106 l (j : Int) = l.getD j z106 from rfl, hK k hk]; simp only [Option.bind_some]; rw [if_pos qa14, wsucc hj qa14, Int.toNat_natCast]) (List.replicate l.length z115) qa79
  refine ev_same ⟨0, fun k _ => ?_⟩ h
  unfold laws_toDoneS.f
  rw [if_pos qa14, if_pos qa103, Int.toNat_natCast]
theorem eq_DoneS (l : List S106) (hx : ∀ x ∈ l, i106 x) (hc : (l.map (fun x => 1 + costDone x)).sum ≤ 1048576) : Ev (fun k => laws_eqDoneS.f k (l.map cvDone) (l.map cvDone)) true := by
  have hlc := len_sum costDone l
  have hlm : (l.map cvDone).length = l.length := List.length_map ..
  refine ev_same ⟨0, fun k _ => by unfold laws_eqDoneS.f; rw [if_pos rfl]⟩ (eq_loop (α := S115) (l.map cvDone).length (fun k i => laws_eqDoneS.l0 k (l.map cvDone) (l.map cvDone) i) (fun k => by simp only [laws_eqDoneS.l0]; rw [if_neg qa14])
    (fun j hj => by
      have hm := getD_mem l z106 j qa14
      have hcx : costDone (l.getD j z106) ≤ 1048576 := by have := in_cost costDone l _ hm; omega
      have hd : rd_T115 (l.map cvDone) (j : Int) = cvDone (l.getD j z106) := getD_map cvDone l z106 z115 j qa14
      have hix := hx _ hm
      generalize l.getD j z106 = x at hcx hd hix
      unfold costDone at hcx
      obtain ⟨_, _, _, _, _, ⟨⟨i0, i0'⟩, i1, i1'⟩, i6⟩ := hix
      obtain ⟨K, hK⟩ := ev_at (eq_DefS x.f5.f0.f0 i0' qa14)
      obtain ⟨K2, hK2⟩ := ev_at (eq_BindingS (x.f5.f1.map cvBinding) qa82)
      exact ⟨K + K2, fun k hk => by
        simp only [laws_eqDoneS.l0]; rw [if_pos qa14, if_pos qa14, if_pos qa14, hd]
        unfold laws_eqDone.f laws_eqRequest.f laws_eqDoc.f
        simp only [if_true, bne_self_eq_false]
        rw [show (cvDone x).f5.f0.f0 = x.f5.f0.f0.map cvDef from rfl, show (cvDone x).f5.f1 = x.f5.f1.map cvBinding from rfl, if_neg qa79, hK k qa14]; simp only [Option.bind_some, if_true]; rw [hK2 k qa14]; simp only [Option.bind_some, if_true]; rw [wsucc hj qa14]⟩))
theorem mk_DoneS (l : List S106) (hx : ∀ x ∈ l, i106 x) (hc : (l.map (fun x => 1 + costDone x)).sum ≤ 1048576) : ∃ r : Int, Ev (fun k => laws_markDoneS.f k (l.map cvDone) 1) r ∧ 1 ≤ r := by
  have hlc := len_sum costDone l
  have hlm : (l.map cvDone).length = l.length := List.length_map ..
  obtain ⟨r, he, h1, h2⟩ := mks z106 (fun x => 1 + costDone x) (fun k m i => laws_markDoneS.l0 k (l.map cvDone) m i) l 1 qa14 qa14
    (fun k m => by simp only [laws_markDoneS.l0]; rw [if_neg qa14])
    (fun j hj m m1 m2 => by
      have hm := getD_mem l z106 j hj
      have hd : rd_T115 (l.map cvDone) (j : Int) = cvDone (l.getD j z106) := getD_map cvDone l z106 z115 j hj
      have hix := hx _ hm
      generalize l.getD j z106 = x at hd hix m2 ⊢
      have hcx : costDone x = (x.f5.f0.f0.map (fun y => 1 + costDef y)).sum + x.f5.f1.length := rfl
      obtain ⟨_, _, _, _, _, ⟨⟨i0, i0'⟩, i1, i1'⟩, i6⟩ := hix
      have wa := w1 m qa14 qa14
      have wb := w1 (m + 1) qa14 qa14
      have wc := w1 (m + 1 + 1) qa14 qa14
      have wd := w1 (m + 1 + 1 + 1) qa14 qa14
      have we := w1 (m + 1 + 1 + 1 + 1) qa14 qa14
      obtain ⟨t1, e1, a1, b1⟩ := mk_DefS x.f5.f0.f0 i0' (m + 1 + 1 + 1 + 1 + 1) qa14 qa14
      obtain ⟨t2, e2, a2, b2⟩ := mk_BindingS (x.f5.f1.map cvBinding) t1 qa14 qa82
      rw [List.length_map] at b2
      obtain ⟨u3, e3⟩ := mark_text t2 qa14
      have wf := w1 t2 qa14 qa14
      obtain ⟨K1, k1⟩ := ev_at e1
      obtain ⟨K2, k2⟩ := ev_at e2
      obtain ⟨K3, k3⟩ := ev_at e3
      refine ⟨t2 + 1, qa14, qa14, K1 + K2 + K3, fun k hk => ?_⟩
      simp only [laws_markDoneS.l0]
      rw [if_pos qa14, if_pos qa14, hd, wa, wb, wc, wd, we, show (cvDone x).f5.f0.f0 = x.f5.f0.f0.map cvDef from rfl, k1 k qa14]; simp only [Option.bind_some]
      rw [show (cvDone x).f5.f1 = x.f5.f1.map cvBinding from rfl, k2 k qa14]; simp only [Option.bind_some]; rw [k3 k qa14]; simp only [Option.bind_some]; rw [wf, wsucc hj qa14])
  exact ⟨r, ev_same ⟨0, fun k _ => by unfold laws_markDoneS.f; rfl⟩ he, h1⟩
end Go.Proofs.Ytfpkooafbeejmaa.Pure2
namespace Go.Proofs.Ytfpkooafbeejmaa.Pure2
open Go.RowKit Go.Proofs.Ytfpkooafbeejmaa.Q Go.Proofs.YtfpkooafbeejmaaW.PrintWords Go.Proofs.YtfpkooafbeejmaaW.PrintLast
set_option linter.unusedVariables false
set_option linter.unusedSimpArgs false
/-! histories, and those without a code -/
def HGood (x : S115) (j : Nat) : Prop := (0 ≤ x.f1 ∧ x.f1 ≤ 19) ∧ (0 ≤ x.f2 ∧ x.f2 ≤ 100000) ∧ (0 ≤ x.f3 ∧ x.f3 ≤ (j : Int))
theorem hist_spec (l : List S115) (hl : l.length ≤ 1048576) : ∃ b, Ev (fun k => spec_l13OK.f k l) b ∧ (b = true ↔ (∀ i, i < l.length → HGood (l.getD i z115) i) ∧ l.length ≤ 60) := by
  obtain ⟨r, hr, he⟩ := count_loop l.length (fun k i => spec_l13OK.l0 k l i) (fun j r => r = true ↔ (∀ i, j ≤ i → i < l.length → HGood (l.getD i z115) i) ∧ l.length ≤ 60)
    ⟨decide ((l.length : Int) ≤ 60), by rw [decide_eq_true_eq]; exact ⟨fun h => ⟨fun i h1 h2 => by omega, by omega⟩, fun h => by omega⟩, ev_now ⟨0, fun k _ => by simp only [spec_l13OK.l0]; rw [if_neg qa14]⟩⟩
    (fun j hj r hr he => by
      have hd : rd_T115 l (j : Int) = l.getD j z115 := rfl
      have no : ¬ HGood (l.getD j z115) j → Ev (fun k => spec_l13OK.l0 k l (j : Int)) false → ∃ r', (r' = true ↔ (∀ i, j ≤ i → i < l.length → HGood (l.getD i z115) i) ∧ l.length ≤ 60) ∧ Ev (fun k => spec_l13OK.l0 k l (j : Int)) r' :=
        fun hn he => ⟨false, ⟨fun h => (by cases h), fun h => absurd (h.1 j (Nat.le_refl _) hj) hn⟩, he⟩
      by_cases c1 : 0 ≤ (l.getD j z115).f1 ∧ (l.getD j z115).f1 ≤ 19
      case neg => exact no (fun h => c1 h.1) (ev_now ⟨0, fun k _ => by simp only [spec_l13OK.l0]; rw [if_pos qa14, if_pos qa14, hd, spec_in]; simp only [Option.bind_some, decide_eq_false c1]; rfl⟩)
      by_cases c2 : 0 ≤ (l.getD j z115).f2 ∧ (l.getD j z115).f2 ≤ 100000
      case neg => exact no (fun h => c2 h.2.1) (ev_now ⟨0, fun k _ => by simp only [spec_l13OK.l0]; rw [if_pos qa14, if_pos qa14, hd, spec_in, spec_in]; simp only [Option.bind_some, decide_eq_true c1, if_true, decide_eq_false c2]; rfl⟩)
      by_cases c3 : 0 ≤ (l.getD j z115).f3 ∧ (l.getD j z115).f3 ≤ (j : Int)
      case neg => exact no (fun h => c3 h.2.2) (ev_now ⟨0, fun k _ => by simp only [spec_l13OK.l0]; rw [if_pos qa14, if_pos qa14, hd, spec_in, spec_in, spec_in]; simp only [Option.bind_some, decide_eq_true c1, if_true, decide_eq_true c2, decide_eq_false c3]; rfl⟩)
      refine ⟨r, hr.trans ⟨fun h => ⟨fun i h1 h2 => ?_, h.2⟩, fun h => ⟨fun i h1 h2 => h.1 i qa14 h2, h.2⟩⟩, ev_step ⟨0, fun k _ => by simp only [spec_l13OK.l0]; rw [if_pos qa14, if_pos qa14, hd, spec_in, spec_in, spec_in]; simp only [Option.bind_some, decide_eq_true c1, if_true, decide_eq_true c2, decide_eq_true c3]; rw [wsucc hj qa14]⟩ he⟩
      rcases Nat.lt_or_eq_of_le h1 with h3 | rfl
      · exact h.1 i h3 h2
      · exact ⟨c1, c2, c3⟩) 0 qa14
  exact ⟨r, ev_same ⟨0, fun k _ => by unfold spec_l13OK.f; rfl⟩ he, hr.trans ⟨fun h => ⟨fun i hi => h.1 i qa14 hi, h.2⟩, fun h => ⟨fun i _ hi => h.1 i hi, h.2⟩⟩⟩
theorem hist_impl (l : List S115) (hl : l.length ≤ 1048576) : ∃ b : Bool, Ev (fun k => impl_historyCode.l0 k l l (l.length : Int) 0) (if b = true then 0 else 1) ∧ (b = true ↔ (∀ i, i < l.length → HGood (l.getD i z115) i) ∧ l.length ≤ 60) := by
  obtain ⟨r, ⟨b, hr, hrb⟩, he⟩ := count_loop l.length (fun k i => impl_historyCode.l0 k l l (l.length : Int) i) (fun j r => ∃ b : Bool, (b = true ↔ (∀ i, j ≤ i → i < l.length → HGood (l.getD i z115) i) ∧ l.length ≤ 60) ∧ r = if b = true then 0 else 1)
    (by
      by_cases h60 : (l.length : Int) > 60
      · exact ⟨1, ⟨false, ⟨fun h => (by cases h), fun h => by omega⟩, rfl⟩, ev_now ⟨0, fun k _ => by simp only [impl_historyCode.l0]; rw [if_neg qa14, if_pos h60]⟩⟩
      · exact ⟨0, ⟨true, ⟨fun _ => ⟨fun i h1 h2 => by omega, qa14⟩, fun _ => rfl⟩, rfl⟩, ev_now ⟨0, fun k _ => by simp only [impl_historyCode.l0]; rw [if_neg qa14, if_neg h60]⟩⟩)
    (fun j hj r ⟨b, hb, hrb⟩ he => by
      have hd : rd_T115 l (j : Int) = l.getD j z115 := rfl
      have no : ¬ HGood (l.getD j z115) j → Ev (fun k => impl_historyCode.l0 k l l (l.length : Int) (j : Int)) 1 → ∃ r', (∃ b : Bool, (b = true ↔ (∀ i, j ≤ i → i < l.length → HGood (l.getD i z115) i) ∧ l.length ≤ 60) ∧ r' = if b = true then 0 else 1) ∧ Ev (fun k => impl_historyCode.l0 k l l (l.length : Int) (j : Int)) r' :=
        fun hn he => ⟨1, ⟨false, ⟨fun h => (by cases h), fun h => absurd (h.1 j (Nat.le_refl _) hj) hn⟩, rfl⟩, he⟩
      by_cases c1 : 0 ≤ (l.getD j z115).f1 ∧ (l.getD j z115).f1 ≤ 19
      case neg => exact no (fun h => c1 h.1) (ev_now ⟨0, fun k _ => by simp only [impl_historyCode.l0]; rw [if_pos qa14, if_pos qa14, if_pos qa14, hd, impl_in]; simp only [Option.bind_some, decide_eq_false c1]; rfl⟩)
      by_cases c2 : 0 ≤ (l.getD j z115).f2 ∧ (l.getD j z115).f2 ≤ 100000
      case neg => exact no (fun h => c2 h.2.1) (ev_now ⟨0, fun k _ => by simp only [impl_historyCode.l0]; rw [if_pos qa14, if_pos qa14, if_pos qa14, hd, impl_in, impl_in]; simp only [Option.bind_some, decide_eq_true c1, if_true, decide_eq_false c2]; rfl⟩)
      by_cases c3 : 0 ≤ (l.getD j z115).f3 ∧ (l.getD j z115).f3 ≤ (j : Int)
      case neg => exact no (fun h => c3 h.2.2) (ev_now ⟨0, fun k _ => by simp only [impl_historyCode.l0]; rw [if_pos qa14, if_pos qa14, if_pos qa14, hd, impl_in, impl_in, impl_in]; simp only [Option.bind_some, decide_eq_true c1, if_true, decide_eq_true c2, decide_eq_false c3]; rfl⟩)
      refine ⟨r, ⟨b, hb.trans ⟨fun h => ⟨fun i h1 h2 => ?_, h.2⟩, fun h => ⟨fun i h1 h2 => h.1 i qa14 h2, h.2⟩⟩, hrb⟩, ev_step ⟨0, fun k _ => by simp only [impl_historyCode.l0]; rw [if_pos qa14, if_pos qa14, if_pos qa14, hd, impl_in, impl_in, impl_in]; simp only [Option.bind_some, decide_eq_true c1, if_true, decide_eq_true c2, decide_eq_true c3]; rw [wsucc hj qa14]⟩ he⟩
      rcases Nat.lt_or_eq_of_le h1 with h3 | rfl
      · exact h.1 i h3 h2
      · exact ⟨c1, c2, c3⟩) 0 qa14
  subst hrb
  exact ⟨b, he, hr.trans ⟨fun h => ⟨fun i hi => h.1 i qa14 hi, h.2⟩, fun h => ⟨fun i _ hi => h.1 i hi, h.2⟩⟩⟩
def cmO (l : List S115) : Nat → List Int
  | 0 => []
  | j + 1 => if (l.getD j z115).f1 = 0 then cmO l j ++ [(j : Int)] else cmO l j
theorem cm_len (l : List S115) : ∀ j, (cmO l j).length ≤ j
  | 0 => Nat.le_refl _
  | j + 1 => by
    have := cm_len l j
    simp only [cmO]
    by_cases h : (l.getD j z115).f1 = 0
    · rw [if_pos h, List.length_append]; simp; omega
    · rw [if_neg h]; omega
theorem comm_agree (l : List S115) (hl : l.length ≤ 1048576) : Ev (fun k => spec_l13Committed.f k l) (cmO l l.length) ∧ Ev (fun k => impl_committed.f k l) (cmO l l.length) := by
  have hd : ∀ j : Nat, rd_T115 l (j : Int) = l.getD j z115 := fun _ => rfl
  refine ⟨?_, ?_⟩
  · obtain ⟨r, hr, he⟩ := state_loop2 l.length (fun k s i => spec_l13Committed.l0 k l s i) (fun j s => s = cmO l j) (fun r => r = cmO l l.length)
      (fun s hi => ⟨s, hi, ev_now ⟨0, fun k _ => by simp only [spec_l13Committed.l0]; rw [if_neg qa14]⟩⟩)
      (fun j s hj hi => by
        have hc := cm_len l j
        by_cases c : (l.getD j z115).f1 = 0
        · exact .inr ⟨cmO l (j + 1), rfl, fun r hr => ev_shift 1 ⟨0, fun k _ => by simp only [spec_l13Committed.l0]; rw [if_pos qa14, if_pos qa14, hd, if_pos c, if_pos (by rw [hi]; omega), wsucc hj qa14, hi]; simp only [cmO]; rw [if_pos c]⟩ hr⟩
        · exact .inr ⟨cmO l (j + 1), rfl, fun r hr => ev_shift 1 ⟨0, fun k _ => by simp only [spec_l13Committed.l0]; rw [if_pos qa14, if_pos qa14, hd, if_neg c, wsucc hj qa14, hi]; simp only [cmO]; rw [if_neg c]⟩ hr⟩) 0 [] qa14 rfl
    subst hr
    exact ev_same ⟨0, fun k _ => by unfold spec_l13Committed.f; rfl⟩ he
  · obtain ⟨r, hr, he⟩ := state_loop2 l.length (fun k s i => impl_committed.l0 k s l (l.length : Int) i) (fun j s => s = cmO l j) (fun r => r = cmO l l.length)
      (fun s hi => ⟨s, hi, ev_now ⟨0, fun k _ => by simp only [impl_committed.l0]; rw [if_neg qa14]⟩⟩)
      (fun j s hj hi => by
        have hc := cm_len l j
        by_cases c : (l.getD j z115).f1 = 0
        · exact .inr ⟨cmO l (j + 1), rfl, fun r hr => ev_shift 1 ⟨0, fun k _ => by simp only [impl_committed.l0]; rw [if_pos qa14, if_pos qa14, if_pos qa14, hd, if_pos c, if_pos (by rw [hi]; omega), wsucc hj qa14, hi]; simp only [cmO]; rw [if_pos c]⟩ hr⟩
        · exact .inr ⟨cmO l (j + 1), rfl, fun r hr => ev_shift 1 ⟨0, fun k _ => by simp only [impl_committed.l0]; rw [if_pos qa14, if_pos qa14, if_pos qa14, hd, if_neg c, wsucc hj qa14, hi]; simp only [cmO]; rw [if_neg c]⟩ hr⟩) 0 [] qa14 rfl
    subst hr
    exact ev_same ⟨0, fun k _ => by unfold impl_committed.f; rfl⟩ he
theorem hist_code (l : List S115) (hl : l.length ≤ 1048576) : ∃ c : Int, Ev (fun k => impl_historyCode.f k l) c ∧ (l.length ≤ 4096 → ∃ b : Bool, Ev (fun k => spec_l13OK.f k l) b ∧ c = if b = true then 0 else 1) ∧ (¬ l.length ≤ 4096 → c = 2) := by
  by_cases h : l.length ≤ 4096
  · obtain ⟨b, eb, hb⟩ := hist_spec l hl
    obtain ⟨b', eb', hb'⟩ := hist_impl l hl
    have : b' = b := by rw [Bool.eq_iff_iff, hb, hb']
    subst this
    refine ⟨_, ev_same ⟨0, fun k _ => ?_⟩ eb', fun _ => ⟨b', eb, rfl⟩, fun h' => absurd h h'⟩
    unfold impl_historyCode.f impl_Done.f
    rw [decide_eq_true qa14]; rfl
  · refine ⟨2, ev_mk 0 fun k _ => ?_, fun h' => absurd h' h, fun _ => rfl⟩
    unfold impl_historyCode.f impl_Done.f
    rw [decide_eq_false qa14]; rfl
end Go.Proofs.Ytfpkooafbeejmaa.Pure2
namespace Go.Proofs.Ytfpkooafbeejmaa.Pure2
open Go.RowKit Go.Proofs.Ytfpkooafbeejmaa.Q Go.Proofs.YtfpkooafbeejmaaW.PrintWords Go.Proofs.YtfpkooafbeejmaaW.PrintLast
set_option linter.unusedVariables false
set_option linter.unusedSimpArgs false
/-! marks of whole numbers -/
def mkI (m : Int) (n : Nat) : List Int := (List.range n).map (fun (j : Nat) => m + (j : Int))
theorem mkI_len (m : Int) (n : Nat) : (mkI m n).length = n := by simp [mkI]
theorem mkI_at (m : Int) (n i : Nat) (h : i < n) : (mkI m n)[i]? = some (m + (i : Int)) := by simp [mkI, h]
theorem mark_ints (l : List Int) (m : Int) (h0 : 0 ≤ m) (hm : m ≤ 4611686018427387904) (hl : l.length ≤ 1048576) : Ev (fun k => laws_markIntS.f k l m) (m + (l.length : Int), mkI m l.length) := by
  obtain ⟨r, hr, he⟩ := state_loop l.length (fun k (s : List Int × Int) i => laws_markIntS.l0 k s.1 s.2 i) (fun j s => s.2 = m + (j : Int) ∧ s.1.length = l.length ∧ ∀ i, i < j → s.1[i]? = some (m + (i : Int))) (fun _ _ r => r = (m + (l.length : Int), mkI m l.length))
    (fun s hi => ⟨(s.2, s.1), by
      obtain ⟨h1, h2, h3⟩ := hi
      refine Prod.ext h1 (List.ext_getElem? fun i => ?_)
      by_cases h : i < l.length
      · rw [h3 i h, mkI_at m _ i h]
      · rw [List.getElem?_eq_none (show s.1.length ≤ i by omega), List.getElem?_eq_none (by rw [mkI_len]; omega)], ev_now ⟨0, fun k _ => by
        have h2 := hi.2.1
        simp only [laws_markIntS.l0]; rw [if_neg qa14]⟩⟩)
    (fun j s hj hi => by
      obtain ⟨h1, h2, h3⟩ := hi
      have hw : wrap64 (s.2 + 1) = s.2 + 1 := by unfold wrap64; omega
      refine .inr ⟨(s.1.set j s.2, s.2 + 1), ⟨by show s.2 + 1 = _; omega, by simp [h2], fun i hij => ?_⟩, fun r h => h, 0, fun k _ => ?_⟩
      · by_cases he : i = j
        · subst he
          rw [List.getElem?_set_self qa14, h1]
        · rw [List.getElem?_set_ne qa14]
          exact h3 i qa14
      · simp only [laws_markIntS.l0]
        rw [if_pos qa14, if_pos qa14, hw, wsucc hj qa14, Int.toNat_natCast]) 0 (l, m) qa14 ⟨by show m = _; omega, rfl, fun i hi => by omega⟩
  subst hr
  exact ev_same ⟨0, fun k _ => by unfold laws_markIntS.f; rfl⟩ he
theorem held_ints (n : Nat) (m : Int) (h0 : 0 ≤ m) (hm : m ≤ 4611686018427387904) (hl : n ≤ 1048576) : Ev (fun k => laws_heldIntS.f k (mkI m n) m) (m + (n : Int)) := by
  have hlen := mkI_len m n
  obtain ⟨r, hr, he⟩ := state_loop n (fun k (s : Int) i => laws_heldIntS.l0 k (mkI m n) s i) (fun j s => s = m + (j : Int)) (fun _ _ r => r = m + (n : Int))
    (fun s hi => ⟨s, hi, ev_now ⟨0, fun k _ => by simp only [laws_heldIntS.l0]; rw [if_neg qa14]⟩⟩)
    (fun j s hj hi => by
      have hw : wrap64 (s + 1) = s + 1 := by unfold wrap64; omega
      have hg : rd (mkI m n) (j : Int) = m + (j : Int) := by
        show (mkI m n).getD j 0 = _
        rw [List.getD_eq_getElem?_getD, mkI_at m n j hj]; rfl
      refine .inr ⟨s + 1, by show s + 1 = _; omega, fun r h => h, 0, fun k _ => ?_⟩
      simp only [laws_heldIntS.l0]
      rw [if_pos qa14, if_pos qa14, hg, if_pos hi.symm, hw, wsucc hj qa14]) 0 m qa14 qa14
  subst hr
  exact ev_same ⟨0, fun k _ => by unfold laws_heldIntS.f; rfl⟩ he
theorem eq_ints (l : List Int) (hl : l.length ≤ 1048576) : Ev (fun k => laws_eqIntS.f k l l) true := by
  obtain ⟨r, hr, he⟩ := count_loop l.length (fun k i => laws_eqIntS.l0 k l l i) (fun _ r => r = true) ⟨true, rfl, ev_now ⟨0, fun k _ => by simp only [laws_eqIntS.l0]; rw [if_neg qa14]⟩⟩
    (fun j hj r hr he => ⟨r, hr, ev_step ⟨0, fun k _ => by simp only [laws_eqIntS.l0]; rw [if_pos qa14, if_pos qa14, if_pos qa14, if_pos trivial, wsucc hj qa14]⟩ he⟩) 0 qa14
  subst hr
  exact ev_same ⟨0, fun k _ => by unfold laws_eqIntS.f; rw [if_pos rfl]; rfl⟩ he
end Go.Proofs.Ytfpkooafbeejmaa.Pure2
namespace Go.Proofs.Ytfpkooafbeejmaa.Pure2
open Go.RowKit Go.Proofs.Ytfpkooafbeejmaa.Q Go.Proofs.YtfpkooafbeejmaaW.PrintWords Go.Proofs.YtfpkooafbeejmaaW.PrintLast
set_option linter.unusedVariables false
set_option linter.unusedSimpArgs false
theorem comm_both (l : List S115) (hl : l.length ≤ 1048576) : ∃ r : List Int × Int, Ev (fun k => spec_CommittedOf.f k l) r ∧ Ev (fun k => impl_CommittedOf.f k l) r ∧ r.1.length ≤ 1048576 := by
  obtain ⟨c, ec, h1, h2⟩ := hist_code l hl
  obtain ⟨K1, k1⟩ := ev_at ec
  by_cases h : l.length ≤ 4096
  · obtain ⟨b, eb, hc⟩ := h1 h
    obtain ⟨K2, k2⟩ := ev_at eb
    cases b with
    | false =>
      subst hc
      refine ⟨([], 1), ev_mk K2 fun k hk => ?_, ev_mk K1 fun k hk => ?_, qa79⟩
      · unfold spec_CommittedOf.f; rw [if_neg qa14, k2 k hk]; rfl
      · unfold impl_CommittedOf.f; rw [k1 k hk]; rfl
    | true =>
      subst hc
      obtain ⟨e3, e4⟩ := comm_agree l hl
      obtain ⟨K3, k3⟩ := ev_at e3
      obtain ⟨K4, k4⟩ := ev_at e4
      refine ⟨(cmO l l.length, 0), ev_mk (K2 + K3) fun k hk => ?_, ev_mk (K1 + K4) fun k hk => ?_, by have := cm_len l l.length; show (cmO l l.length).length ≤ _; omega⟩
      · unfold spec_CommittedOf.f; rw [if_neg qa14, k2 k qa14]; simp only [Option.bind_some, if_true]; rw [k3 k qa14]; rfl
      · unfold impl_CommittedOf.f; rw [k1 k qa14]; simp only [Option.bind_some, if_true]; rw [k4 k qa14]; rfl
  · have := h2 h
    subst this
    refine ⟨([], 2), ev_mk 0 fun k _ => ?_, ev_mk K1 fun k hk => ?_, qa79⟩
    · unfold spec_CommittedOf.f; rw [if_pos qa14]
    · unfold impl_CommittedOf.f; rw [k1 k hk]; rfl
theorem FnExactCommittedOf : laws_FnExactCommittedOf.Pure2 := by
  intro y hy
  obtain ⟨r, he, hr⟩ := sz_DoneS y 1048576 qa14 qa14 hy.1 hy.2
  refine Ev.rounds (r := true) ?_
  obtain ⟨K1, h1⟩ := ev_at he
  rcases hr with hr | ⟨r0, r1⟩
  · exact ev_mk K1 fun k hk => by unfold laws_FnExactCommittedOf.f; rw [h1 k hk]; simp only [Option.bind_some]; rw [if_pos hr]
  have hc : (y.map (fun x => 1 + costDone x)).sum ≤ 1048576 := by omega
  have hlen := len_sum costDone y
  obtain ⟨K2, h2⟩ := ev_at (to_DoneS y hy.2 hc)
  obtain ⟨⟨g, cd⟩, e1, e2, hg⟩ := comm_both (y.map cvDone) qa82
  obtain ⟨K3, h3⟩ := ev_at e1
  obtain ⟨K4, h4⟩ := ev_at e2
  obtain ⟨K5, h5⟩ := ev_at (eq_DoneS y hy.2 hc)
  obtain ⟨K6, h6⟩ := ev_at (eq_ints g hg)
  obtain ⟨mr, em, hm⟩ := mk_DoneS y hy.2 hc
  obtain ⟨K7, h7⟩ := ev_at em
  have hg' : g.length ≤ 1048576 := hg
  obtain ⟨K8, h8⟩ := ev_at (mark_ints g 1 qa14 qa14 hg')
  obtain ⟨K9, h9⟩ := ev_at (held_ints g.length 1 qa14 qa14 hg')
  refine ev_mk (K1 + K2 + K3 + K4 + K5 + K6 + K7 + K8 + K9) fun k hk => ?_
  unfold laws_FnExactCommittedOf.f
  rw [h1 _ qa14]; simp only [Option.bind_some]; rw [if_neg qa14, h2 _ qa14]; simp only [Option.bind_some]
  rw [h3 _ qa14]; simp only [Option.bind_some]; rw [h4 _ qa14]; simp only [Option.bind_some]; rw [h6 _ qa14]; simp only [Option.bind_some, if_true]
  rw [h5 _ qa14]; simp only [Option.bind_some, if_true]; rw [h7 _ qa14]; simp only [Option.bind_some]; rw [if_pos qa14, h8 _ qa14]; simp only [Option.bind_some]
  rw [h9 _ qa14]; simp only [Option.bind_some]; rw [if_pos qa14]; simp only [eq_self, if_true]; rw [if_pos qa14]
end Go.Proofs.Ytfpkooafbeejmaa.Pure2
