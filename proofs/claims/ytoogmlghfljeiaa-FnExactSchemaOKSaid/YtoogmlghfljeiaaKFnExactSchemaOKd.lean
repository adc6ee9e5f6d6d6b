/- Texts of the claim on FnExactSchemaOK, gathered by a program of this session: what the program's functions compute (proved by walks), and the plain part. -/
import Derived.Test.YtoogmlghfljeiaaKFnExactSchemaOKc
import Derived.Test.YtoogmlghfljeiaaKFnExactSchemaOKOpens
import Derived.KernelRfl
namespace Go.Proofs.Ytoogmlghfljeiaa.Q
open Go.RowKit Go.Proofs.YtoogmlghfljeiaaW.PrintWords Go.Proofs.YtoogmlghfljeiaaW.PrintLast Go.Proofs.YtoogmlghfljeiaaW.PrintMore
attribute [local go_sem] max2_int min2_int max_two min_two max_three min_three max_four min_four
set_option linter.unusedVariables false
set_option linter.unusedSimpArgs false

def laws_eqTypeDefS.l0 : Nat → List (S53) → List (S53) → Int → Option (Bool)
 | 0, _, _, _ => none
 | k + 1, x0, x1, x5 => if x5 < (x0.length : Int) then (if 0 ≤ x5 then (if x5 < (x1.length : Int) then ((laws_eqTypeDef.f k ((rd_T53 x0 x5).f0) ((rd_T53 x0 x5).f1) ((rd_T53 x1 x5).f0) ((rd_T53 x1 x5).f1)).bind fun t103 => (if t103 = true then (laws_eqTypeDefS.l0 k x0 x1 (wrap64 (x5 + 1))) else (some false))) else (none)) else (none)) else (some true)
def laws_eqTypeDefS.f (k : Nat) (l0 : List (S53)) (l1 : List (S53)) : Option (Bool) := if (l0.length : Int) = (l1.length : Int) then (laws_eqTypeDefS.l0 k l0 l1 0) else (some false)
def laws_eqTypeDefS.T6 : Bool × List (List Nat × List Nat) := (true, [([], []), ([], []), ([0, 1], [0, 1]), ([2], [2]), ([], []), ([], []), ([4, 5], [4, 5]), ([6], [6]), ([3, 7], [3, 7]), ([8], [8])])
def laws_eqTypeDefS.B6 : List Nat := [0, 0, 3, 7, 0, 0, 48, 112, 255, 511]
theorem laws_eqTypeDefS.tab6 : rtab .any (opsOf Try.f38 6) = laws_eqTypeDefS.T6 := by kernel_rfl
theorem laws_eqTypeDefS.bits6 : waitsOk laws_eqTypeDefS.T6.2 laws_eqTypeDefS.B6 = true := by kernel_rfl
def laws_eqTypeDefS.y0 : Array Bool := #[false, false, false, false, false, false, false, false, false, false]
def laws_eqTypeDefS.y1 : Array Bool := #[true, false, false, false, false, false, false, false, false, false]
def laws_eqTypeDefS.y2 : Array Bool := #[true, true, false, false, false, false, false, false, false, false]
def laws_eqTypeDefS.y3 : Array Bool := #[true, true, true, false, false, false, false, false, false, false]
def laws_eqTypeDefS.y4 : Array Bool := #[true, true, true, false, true, false, false, false, false, false]
def laws_eqTypeDefS.y5 : Array Bool := #[true, true, true, false, true, true, false, false, false, false]
def laws_eqTypeDefS.y6 : Array Bool := #[true, true, true, false, true, true, true, false, false, false]
def laws_eqTypeDefS.y7 : Array Bool := #[true, true, true, true, true, true, true, false, false, false]
def laws_eqTypeDefS.y8 : Array Bool := #[true, true, true, true, true, true, true, true, false, false]
def laws_eqTypeDefS.y9 : Array Bool := #[true, true, true, true, true, true, true, true, true, false]
def laws_eqTypeDefS.y10 : Array Bool := #[true, true, true, true, true, true, true, true, true, true]
set_option maxHeartbeats 8000000 in
set_option maxRecDepth 100000 in
theorem laws_eqTypeDefS.calls (k : Nat) (A0 : Option Addr) (c0 : Nat) (l0 : List (S53)) (A1 : Option Addr) (c1 : Nat) (l1 : List (S53)) (r : Bool) (w : World) (hr0 : Kd.C k53 w A0 l0.length l0) (hc0 : l0.length ≤ c0) (hr1 : Kd.C k53 w A1 l1.length l1) (hc1 : l1.length ≤ c1) (h : laws_eqTypeDefS.f k l0 l1 = some r) :
  Calls Try.prog 38 #[.slice A0 l0.length c0, .slice A1 l1.length c1] w fun e w' => e = .returned (.bool r) ∧ Below w.heap.size w w' := by
 have hu53 := Try.underlying53; have HR0 := qO hr0; have HC0 := qO hc0; clear hr0 hc0; have HR1 := qO hr1; have HC1 := qO hc1; clear hr1 hc1; have HB := qO (Below.refl w.heap.size w); have H : (if (l0.length : Int) = (l1.length : Int) then (laws_eqTypeDefS.l0 k l0 l1 0) else (some false)) = some r := h; clear h
 by_cases c3 : (l0.length : Int) = (l1.length : Int)
 ·rw [if_pos c3] at H
  have c3b0 : ((l0.length : Int) == (l1.length : Int)) = true := beq_iff_eq.mpr c3; have c3b1 : ((l0.length : Int) != (l1.length : Int)) = false := bne_eq_false_iff_eq.mpr c3; have c3b2 : (l0.length == l1.length) = true := by first | simpa using c3 | (simp at c3 ⊢; omega)
  clear c3; have H' := qO H; clear H
  go_enter Try.func38, Try.ntmps38
  go_wp2
  go_loopg [5] k (fun kq v5 w' => ∃ (x5_1 : Int), v5 = .int .i64 x5_1 ∧ Aside0 (laws_eqTypeDefS.l0 kq l0 l1 x5_1 = some r) ∧ Aside0 (kq ≤ k) ∧ Aside0 (Below w.heap.size w w'))
  case atStart => exact ⟨(0), (by first | rfl | (simp; done) | (simp [*]; done)), H', ⟨Nat.le_refl _⟩, ⟨by repeat (first | (with_reducible first | exact HB.out | apply qbA | apply qbN | apply qbD) | exact HB.out)⟩⟩
  case round =>
   clear H'
   try clear c1
   try clear p2
   try clear c3
   try clear c3b0
   try clear c3b1
   try clear c3b2
   obtain ⟨x5_1, rfl, HA, HK1, HB⟩ := hrel
   cases gk with
   | zero => exact absurd HA.out (by simp [laws_eqTypeDefS.l0])
   | succ k1 =>
    have H := HA.out; clear HA; simp only [laws_eqTypeDefS.l0] at H
    by_cases c4 : x5_1 < (l0.length : Int)
    ·rw [if_pos c4] at H
     have c4b0 : decide (x5_1 < (l0.length : Int)) = true := decide_eq_true c4; clear c4
     by_cases c5 : 0 ≤ x5_1
     ·rw [if_pos c5] at H
      have c5b0 : decide (0 ≤ x5_1) = true := decide_eq_true c5; clear c5
      by_cases c6 : x5_1 < (l1.length : Int)
      ·rw [if_pos c6] at H
       have c6b0 : decide (x5_1 < (l1.length : Int)) = true := decide_eq_true c6; clear c6; replace H := Option.bind_eq_some_iff.mp H; obtain ⟨t103, A70, H⟩ := H; replace H : (if t103 = true then (laws_eqTypeDefS.l0 k1 l0 l1 (wrap64 (x5_1 + 1))) else (some false)) = some r := H; have A7 := qO A70; clear A70
       by_cases c8 : t103 = true
       ·subst c8
        have H1 : (laws_eqTypeDefS.l0 k1 l0 l1 (wrap64 (x5_1 + 1))) = some r := by rw [if_pos rfl] at H; exact H
        clear H; have H := H1; clear H1; have H' := qO H; clear H
        try go_wp2
        have n0_ := qO (qbD HB.out); clear HB; have HB := n0_; clear n0_; have p101 : 0 ≤ (x5_1 : Int) := qT (by first | (with_reducible assumption) | assumption); have q101 : x5_1 < (l0.length : Int) := qT (by first | (with_reducible assumption) | assumption); obtain ⟨ad101, A101_1, c101_1, e101, hx101_0, hx101_1, hl101_1, hi101_1⟩ := at_T53 HR0.out x5_1 p101 q101; have hw101_1 := hx101_1; have hw101_0 := hx101_0
        cases e101
        replace hx101_0 := (HB.out.cell (qL w _ hx101_0)).trans hx101_0; replace hx101_1 := (HB.out.cell (qL w _ hx101_1)).trans hx101_1; have HR101_1 := qO hi101_1; have HC101_1 := qO hl101_1; clear hi101_1 hl101_1; replace p101 := eq_true p101; replace q101 := eq_true q101; have p102 : 0 ≤ (x5_1 : Int) := qT (by first | (with_reducible assumption) | assumption); have q102 : x5_1 < (l1.length : Int) := qT (by first | (with_reducible assumption) | assumption); obtain ⟨ad102, A102_1, c102_1, e102, hx102_0, hx102_1, hl102_1, hi102_1⟩ := at_T53 HR1.out x5_1 p102 q102; have hw102_1 := hx102_1; have hw102_0 := hx102_0
        cases e102
        replace hx102_0 := (HB.out.cell (qL w _ hx102_0)).trans hx102_0; replace hx102_1 := (HB.out.cell (qL w _ hx102_1)).trans hx102_1; have HR102_1 := qO hi102_1; have HC102_1 := qO hl102_1; clear hi102_1 hl102_1; replace p102 := eq_true p102; replace q102 := eq_true q102; refine start_ (n := 10) (S := fun w' => w'.cell? (ad101.add ((x5_1).toNat * 2)) = some (.string ((rd_T53 l0 x5_1).f0)) ∧ w'.cell? ⟨(ad101.add ((x5_1).toNat * 2)).block, (ad101.add ((x5_1).toNat * 2)).off + 1, none⟩ = some (.slice A101_1 ((rd_T53 l0 x5_1).f1).length c101_1) ∧ w'.cell? (ad102.add ((x5_1).toNat * 2)) = some (.string ((rd_T53 l1 x5_1).f0)) ∧ w'.cell? ⟨(ad102.add ((x5_1).toNat * 2)).block, (ad102.add ((x5_1).toNat * 2)).off + 1, none⟩ = some (.slice A102_1 ((rd_T53 l1 x5_1).f1).length c102_1)) (ds := []) laws_eqTypeDefS.y0 (by kernel_rfl) rfl rfl ⟨((HB.out.cell (qL w _ hw101_0)).trans hw101_0), ((HB.out.cell (qL w _ hw101_1)).trans hw101_1), ((HB.out.cell (qL w _ hw102_0)).trans hw102_0), ((HB.out.cell (qL w _ hw102_1)).trans hw102_1)⟩ (fun hHeld => ?_); refine with_tabW laws_eqTypeDefS.tab6 laws_eqTypeDefS.bits6 (fun HT_ HW_ => ?_); generalize wr.drew = w9 at HB HR101_1 HR102_1 hx101_0 hx101_1 hx102_0 hx102_1 hHeld ⊢; refine pure_ (i := 0) (N := some 17) (v := ?_) (a' := ?_) laws_eqTypeDefS.y1 rfl rfl (any_of HT_.out (by kernel_rfl)) (fun _ _ _ h => h) (Or.inl ⟨by rfl, ?_⟩) ?_ ?_; rotate_left; (intro w'; go_simp; with_reducible rfl); rotate_left; (simp only [Act.put, qzA, qzB, qzC, i64_w, i32_w]; rfl); refine pure_ (i := 1) (N := some 18) (v := ?_) (a' := ?_) laws_eqTypeDefS.y2 rfl rfl (any_of HT_.out (by kernel_rfl)) (fun _ _ _ h => h) (Or.inl ⟨by rfl, ?_⟩) ?_ ?_; rotate_left; (intro w'; go_simp; with_reducible rfl); rotate_left; (simp only [Act.put, qzA, qzB, qzC, i64_w, i32_w]; rfl); refine pure_ (i := 2) (N := some 19) (v := ?_) (a' := ?_) laws_eqTypeDefS.y3 rfl rfl (any_of HT_.out (by kernel_rfl)) (fun _ _ _ h => h) (Or.inl ⟨by rfl, ?_⟩) ?_ ?_; rotate_left; (intro w'; go_simp; with_reducible rfl); rotate_left; (simp only [Act.put, qzA, qzB, qzC, i64_w, i32_w]; rfl); refine pure_ (i := 4) (N := some 21) (v := ?_) (a' := ?_) laws_eqTypeDefS.y4 rfl rfl (any_of HT_.out (by kernel_rfl)) (fun _ _ _ h => h) (Or.inl ⟨by rfl, ?_⟩) ?_ ?_; rotate_left; (intro w'; go_simp; with_reducible rfl); rotate_left; (simp only [Act.put, qzA, qzB, qzC, i64_w, i32_w]; rfl); refine pure_ (i := 5) (N := some 22) (v := ?_) (a' := ?_) laws_eqTypeDefS.y5 rfl rfl (any_of HT_.out (by kernel_rfl)) (fun _ _ _ h => h) (Or.inl ⟨by rfl, ?_⟩) ?_ ?_; rotate_left; (intro w'; go_simp; with_reducible rfl); rotate_left; (simp only [Act.put, qzA, qzB, qzC, i64_w, i32_w]; rfl); refine pure_ (i := 6) (N := some 23) (v := ?_) (a' := ?_) laws_eqTypeDefS.y6 rfl rfl (any_of HT_.out (by kernel_rfl)) (fun _ _ _ h => h) (Or.inl ⟨by rfl, ?_⟩) ?_ ?_; rotate_left; (intro w'; go_simp; with_reducible rfl); rotate_left; (simp only [Act.put, qzA, qzB, qzC, i64_w, i32_w]; rfl); refine take_ (i := 3) (N := some 20) (v := ?_) (a' := ?_) laws_eqTypeDefS.y7 rfl rfl (take_ofW HT_.out HW_.out (by kernel_rfl)) (fun _ _ _ h => h) (Or.inl ⟨by rfl, ?_⟩) hHeld ?_ ?_; rotate_left; (rintro w' ⟨s0, s1, s2, s3⟩; go_simp; with_reducible rfl); rotate_left; (simp only [Act.put, qzA, qzB, qzC, i64_w, i32_w]; rfl); refine take_ (i := 7) (N := some 24) (v := ?_) (a' := ?_) laws_eqTypeDefS.y8 rfl rfl (take_ofW HT_.out HW_.out (by kernel_rfl)) (fun _ _ _ h => h) (Or.inl ⟨by rfl, ?_⟩) hHeld ?_ ?_; rotate_left; (rintro w' ⟨s0, s1, s2, s3⟩; go_simp; with_reducible rfl); rotate_left; (simp only [Act.put, qzA, qzB, qzC, i64_w, i32_w]; rfl); refine one_ (i := 8) (N := some 25) laws_eqTypeDefS.y9 rfl rfl (one_of HT_.out (by kernel_rfl)) (by decide) (fun K hK => ?_); refine goes_ Try.func64 (by kernel_rfl) rfl #[.agg #[.string ((rd_T53 l0 x5_1).f0), .slice A101_1 ((rd_T53 l0 x5_1).f1).length c101_1], .agg #[.string ((rd_T53 l1 x5_1).f0), .slice A102_1 ((rd_T53 l1 x5_1).f1).length c102_1]] (by rfl) rfl rfl (by (try simp only [List.map_toArray, List.map_cons, List.map_nil]); first | done | rfl | (simp only [List.length_drop, List.length_take]; rfl)) ?_; (with_reducible refine (laws_eqTypeDef.calls k1 ((rd_T53 l0 x5_1).f0) _ _ ((rd_T53 l0 x5_1).f1) ((rd_T53 l1 x5_1).f0) _ _ ((rd_T53 l1 x5_1).f1) true _ ?side1 ?side2 ?side3 ?side4 A7.out).mono ?_); (case side1 => repeat (first | exact (Kd.C_below HR101_1.out HB.out) | with_reducible first | refine Kd.C_alloc ?_ _ | refine Kd.C_drewN ?_ _ | refine Kd.C_drew ?_)); (case side2 => exact HC101_1.out); (case side3 => repeat (first | exact (Kd.C_below HR102_1.out HB.out) | with_reducible first | refine Kd.C_alloc ?_ _ | refine Kd.C_drewN ?_ _ | refine Kd.C_drew ?_)); (case side4 => exact HC102_1.out); rintro e w10 ⟨rfl, hb⟩; have hx_ := qHX HB hb (by with_reducible repeat (first | refine qbN ?_ _ | refine qbD ?_ | refine qbA ?_ _ | exact Below.refl _ _)); refine ⟨_, rfl, ?_⟩; have n0_ := qO (below_step (below_step HB.out hx_) hb); clear HB; have HB := n0_; clear n0_; clear hx_; (try clear hb); (try clear hb2); (try clear hk); (try clear hi); refine hK.out _ _ ⟨((HB.out.cell (qL w _ hw101_0)).trans hw101_0), ((HB.out.cell (qL w _ hw101_1)).trans hw101_1), ((HB.out.cell (qL w _ hw102_0)).trans hw102_0), ((HB.out.cell (qL w _ hw102_1)).trans hw102_1)⟩ (fun hHeld => ?_); clear hK K; refine norm_ (a' := ?_) ?_ ?_; rotate_left
        ·show Act.put _ (some 25) _ = _
         simp only [Act.put, qzA, qzB, qzC, i64_w, i32_w]
         rfl
        refine pure_ (i := 9) (N := some 26) (v := ?_) (a' := ?_) laws_eqTypeDefS.y10 rfl rfl (any_of HT_.out (by kernel_rfl)) (fun _ _ _ h => h) (Or.inl ⟨by rfl, ?_⟩) ?_ ?_; rotate_left; (intro w'; go_simp; with_reducible rfl); rotate_left; (simp only [Act.put, qzA, qzB, qzC, i64_w, i32_w]; rfl); refine done_ (done_of HT_.out (by kernel_rfl)) ?_
        try go_wp2
        go_roundg k1
        case measure => have := HK1.out; omega
        case rel => exact ⟨(wrap64 (x5_1 + 1)), (by first | rfl | (simp; done) | (simp [*]; done)), H', ⟨by have := HK1.out; omega⟩, ⟨by repeat (first | (with_reducible first | exact HB.out | apply qbA | apply qbN | apply qbD) | exact HB.out)⟩⟩
       ·replace c8 := Bool.eq_false_iff.mpr c8
        subst c8; have H1 : (some false) = some r := by rw [if_neg (show ¬ (false = true) by decide)] at H; exact H
        clear H; have H := H1; clear H1; obtain rfl := Option.some.inj H
        try go_wp2
        have n0_ := qO (qbD HB.out); clear HB; have HB := n0_; clear n0_; have p101 : 0 ≤ (x5_1 : Int) := qT (by first | (with_reducible assumption) | assumption); have q101 : x5_1 < (l0.length : Int) := qT (by first | (with_reducible assumption) | assumption); obtain ⟨ad101, A101_1, c101_1, e101, hx101_0, hx101_1, hl101_1, hi101_1⟩ := at_T53 HR0.out x5_1 p101 q101; have hw101_1 := hx101_1; have hw101_0 := hx101_0
        cases e101
        replace hx101_0 := (HB.out.cell (qL w _ hx101_0)).trans hx101_0; replace hx101_1 := (HB.out.cell (qL w _ hx101_1)).trans hx101_1; have HR101_1 := qO hi101_1; have HC101_1 := qO hl101_1; clear hi101_1 hl101_1; replace p101 := eq_true p101; replace q101 := eq_true q101; have p102 : 0 ≤ (x5_1 : Int) := qT (by first | (with_reducible assumption) | assumption); have q102 : x5_1 < (l1.length : Int) := qT (by first | (with_reducible assumption) | assumption); obtain ⟨ad102, A102_1, c102_1, e102, hx102_0, hx102_1, hl102_1, hi102_1⟩ := at_T53 HR1.out x5_1 p102 q102; have hw102_1 := hx102_1; have hw102_0 := hx102_0
        cases e102
        replace hx102_0 := (HB.out.cell (qL w _ hx102_0)).trans hx102_0; replace hx102_1 := (HB.out.cell (qL w _ hx102_1)).trans hx102_1; have HR102_1 := qO hi102_1; have HC102_1 := qO hl102_1; clear hi102_1 hl102_1; replace p102 := eq_true p102; replace q102 := eq_true q102; refine start_ (n := 10) (S := fun w' => w'.cell? (ad101.add ((x5_1).toNat * 2)) = some (.string ((rd_T53 l0 x5_1).f0)) ∧ w'.cell? ⟨(ad101.add ((x5_1).toNat * 2)).block, (ad101.add ((x5_1).toNat * 2)).off + 1, none⟩ = some (.slice A101_1 ((rd_T53 l0 x5_1).f1).length c101_1) ∧ w'.cell? (ad102.add ((x5_1).toNat * 2)) = some (.string ((rd_T53 l1 x5_1).f0)) ∧ w'.cell? ⟨(ad102.add ((x5_1).toNat * 2)).block, (ad102.add ((x5_1).toNat * 2)).off + 1, none⟩ = some (.slice A102_1 ((rd_T53 l1 x5_1).f1).length c102_1)) (ds := []) laws_eqTypeDefS.y0 (by kernel_rfl) rfl rfl ⟨((HB.out.cell (qL w _ hw101_0)).trans hw101_0), ((HB.out.cell (qL w _ hw101_1)).trans hw101_1), ((HB.out.cell (qL w _ hw102_0)).trans hw102_0), ((HB.out.cell (qL w _ hw102_1)).trans hw102_1)⟩ (fun hHeld => ?_); refine with_tabW laws_eqTypeDefS.tab6 laws_eqTypeDefS.bits6 (fun HT_ HW_ => ?_); generalize wr.drew = w11 at HB HR101_1 HR102_1 hx101_0 hx101_1 hx102_0 hx102_1 hHeld ⊢; refine pure_ (i := 0) (N := some 17) (v := ?_) (a' := ?_) laws_eqTypeDefS.y1 rfl rfl (any_of HT_.out (by kernel_rfl)) (fun _ _ _ h => h) (Or.inl ⟨by rfl, ?_⟩) ?_ ?_; rotate_left; (intro w'; go_simp; with_reducible rfl); rotate_left; (simp only [Act.put, qzA, qzB, qzC, i64_w, i32_w]; rfl); refine pure_ (i := 1) (N := some 18) (v := ?_) (a' := ?_) laws_eqTypeDefS.y2 rfl rfl (any_of HT_.out (by kernel_rfl)) (fun _ _ _ h => h) (Or.inl ⟨by rfl, ?_⟩) ?_ ?_; rotate_left; (intro w'; go_simp; with_reducible rfl); rotate_left; (simp only [Act.put, qzA, qzB, qzC, i64_w, i32_w]; rfl); refine pure_ (i := 2) (N := some 19) (v := ?_) (a' := ?_) laws_eqTypeDefS.y3 rfl rfl (any_of HT_.out (by kernel_rfl)) (fun _ _ _ h => h) (Or.inl ⟨by rfl, ?_⟩) ?_ ?_; rotate_left; (intro w'; go_simp; with_reducible rfl); rotate_left; (simp only [Act.put, qzA, qzB, qzC, i64_w, i32_w]; rfl); refine pure_ (i := 4) (N := some 21) (v := ?_) (a' := ?_) laws_eqTypeDefS.y4 rfl rfl (any_of HT_.out (by kernel_rfl)) (fun _ _ _ h => h) (Or.inl ⟨by rfl, ?_⟩) ?_ ?_; rotate_left; (intro w'; go_simp; with_reducible rfl); rotate_left; (simp only [Act.put, qzA, qzB, qzC, i64_w, i32_w]; rfl); refine pure_ (i := 5) (N := some 22) (v := ?_) (a' := ?_) laws_eqTypeDefS.y5 rfl rfl (any_of HT_.out (by kernel_rfl)) (fun _ _ _ h => h) (Or.inl ⟨by rfl, ?_⟩) ?_ ?_; rotate_left; (intro w'; go_simp; with_reducible rfl); rotate_left; (simp only [Act.put, qzA, qzB, qzC, i64_w, i32_w]; rfl); refine pure_ (i := 6) (N := some 23) (v := ?_) (a' := ?_) laws_eqTypeDefS.y6 rfl rfl (any_of HT_.out (by kernel_rfl)) (fun _ _ _ h => h) (Or.inl ⟨by rfl, ?_⟩) ?_ ?_; rotate_left; (intro w'; go_simp; with_reducible rfl); rotate_left; (simp only [Act.put, qzA, qzB, qzC, i64_w, i32_w]; rfl); refine take_ (i := 3) (N := some 20) (v := ?_) (a' := ?_) laws_eqTypeDefS.y7 rfl rfl (take_ofW HT_.out HW_.out (by kernel_rfl)) (fun _ _ _ h => h) (Or.inl ⟨by rfl, ?_⟩) hHeld ?_ ?_; rotate_left; (rintro w' ⟨s0, s1, s2, s3⟩; go_simp; with_reducible rfl); rotate_left; (simp only [Act.put, qzA, qzB, qzC, i64_w, i32_w]; rfl); refine take_ (i := 7) (N := some 24) (v := ?_) (a' := ?_) laws_eqTypeDefS.y8 rfl rfl (take_ofW HT_.out HW_.out (by kernel_rfl)) (fun _ _ _ h => h) (Or.inl ⟨by rfl, ?_⟩) hHeld ?_ ?_; rotate_left; (rintro w' ⟨s0, s1, s2, s3⟩; go_simp; with_reducible rfl); rotate_left; (simp only [Act.put, qzA, qzB, qzC, i64_w, i32_w]; rfl); refine one_ (i := 8) (N := some 25) laws_eqTypeDefS.y9 rfl rfl (one_of HT_.out (by kernel_rfl)) (by decide) (fun K hK => ?_); refine goes_ Try.func64 (by kernel_rfl) rfl #[.agg #[.string ((rd_T53 l0 x5_1).f0), .slice A101_1 ((rd_T53 l0 x5_1).f1).length c101_1], .agg #[.string ((rd_T53 l1 x5_1).f0), .slice A102_1 ((rd_T53 l1 x5_1).f1).length c102_1]] (by rfl) rfl rfl (by (try simp only [List.map_toArray, List.map_cons, List.map_nil]); first | done | rfl | (simp only [List.length_drop, List.length_take]; rfl)) ?_; (with_reducible refine (laws_eqTypeDef.calls k1 ((rd_T53 l0 x5_1).f0) _ _ ((rd_T53 l0 x5_1).f1) ((rd_T53 l1 x5_1).f0) _ _ ((rd_T53 l1 x5_1).f1) false _ ?side1 ?side2 ?side3 ?side4 A7.out).mono ?_); (case side1 => repeat (first | exact (Kd.C_below HR101_1.out HB.out) | with_reducible first | refine Kd.C_alloc ?_ _ | refine Kd.C_drewN ?_ _ | refine Kd.C_drew ?_)); (case side2 => exact HC101_1.out); (case side3 => repeat (first | exact (Kd.C_below HR102_1.out HB.out) | with_reducible first | refine Kd.C_alloc ?_ _ | refine Kd.C_drewN ?_ _ | refine Kd.C_drew ?_)); (case side4 => exact HC102_1.out); rintro e w12 ⟨rfl, hb⟩; have hx_ := qHX HB hb (by with_reducible repeat (first | refine qbN ?_ _ | refine qbD ?_ | refine qbA ?_ _ | exact Below.refl _ _)); refine ⟨_, rfl, ?_⟩; have n0_ := qO (below_step (below_step HB.out hx_) hb); clear HB; have HB := n0_; clear n0_; clear hx_; (try clear hb); (try clear hb2); (try clear hk); (try clear hi); refine hK.out _ _ ⟨((HB.out.cell (qL w _ hw101_0)).trans hw101_0), ((HB.out.cell (qL w _ hw101_1)).trans hw101_1), ((HB.out.cell (qL w _ hw102_0)).trans hw102_0), ((HB.out.cell (qL w _ hw102_1)).trans hw102_1)⟩ (fun hHeld => ?_); clear hK K; refine norm_ (a' := ?_) ?_ ?_; rotate_left
        ·show Act.put _ (some 25) _ = _
         simp only [Act.put, qzA, qzB, qzC, i64_w, i32_w]
         rfl
        refine pure_ (i := 9) (N := some 26) (v := ?_) (a' := ?_) laws_eqTypeDefS.y10 rfl rfl (any_of HT_.out (by kernel_rfl)) (fun _ _ _ h => h) (Or.inl ⟨by rfl, ?_⟩) ?_ ?_; rotate_left; (intro w'; go_simp; with_reducible rfl); rotate_left; (simp only [Act.put, qzA, qzB, qzC, i64_w, i32_w]; rfl); refine done_ (done_of HT_.out (by kernel_rfl)) ?_
        try go_wp2
        go_ret
        exact ⟨by first | rfl | (simp [errW_none, errW_some] <;> rfl) | (simp [*, errW_none, errW_some] <;> rfl), by repeat (first | (with_reducible first | exact HB.out | apply qbA | apply qbN | apply qbD) | exact HB.out)⟩
      ·rw [if_neg c6] at H
       exact absurd H (by simp)
     ·rw [if_neg c5] at H
      exact absurd H (by simp)
    ·rw [if_neg c4] at H
     have c4b0 : decide (x5_1 < (l0.length : Int)) = false := decide_eq_false c4; clear c4; obtain rfl := Option.some.inj H; go_wp2
     go_ret
     exact ⟨by first | rfl | (simp [errW_none, errW_some] <;> rfl) | (simp [*, errW_none, errW_some] <;> rfl), by repeat (first | (with_reducible first | exact HB.out | apply qbA | apply qbN | apply qbD) | exact HB.out)⟩
 ·rw [if_neg c3] at H
  have c3b0 : ((l0.length : Int) == (l1.length : Int)) = false := beq_eq_false_iff_ne.mpr c3; have c3b1 : ((l0.length : Int) != (l1.length : Int)) = true := bne_iff_ne.mpr c3; have c3b2 : (l0.length == l1.length) = false := by first | simpa using c3 | (simp at c3 ⊢; omega)
  obtain rfl := Option.some.inj H
  go_enter Try.func38, Try.ntmps38
  go_wp2
  go_ret
  exact ⟨by first | rfl | (simp [errW_none, errW_some] <;> rfl) | (simp [*, errW_none, errW_some] <;> rfl), by repeat (first | (with_reducible first | exact HB.out | apply qbA | apply qbN | apply qbD) | exact HB.out)⟩

end Go.Proofs.Ytoogmlghfljeiaa.Q
namespace Go.Proofs.Ytoogmlghfljeiaa.Q
open Go.RowKit Go.Proofs.YtoogmlghfljeiaaW.PrintWords Go.Proofs.YtoogmlghfljeiaaW.PrintLast Go.Proofs.YtoogmlghfljeiaaW.PrintMore
attribute [local go_sem] max2_int min2_int max_two min_two max_three min_three max_four min_four
set_option linter.unusedVariables false
set_option linter.unusedSimpArgs false

def laws_eqSchema.f (k : Nat) (l0_0 : List (S53)) (l1_0 : List (S53)) : Option (Bool) := (laws_eqTypeDefS.f k l0_0 l1_0).bind fun t103 => (if t103 = true then (some true) else (some false))
set_option maxHeartbeats 8000000 in
set_option maxRecDepth 100000 in
theorem laws_eqSchema.calls (k : Nat) (A0_0 : Option Addr) (c0_0 : Nat) (l0_0 : List (S53)) (A1_0 : Option Addr) (c1_0 : Nat) (l1_0 : List (S53)) (r : Bool) (w : World) (hr0_0 : Kd.C k53 w A0_0 l0_0.length l0_0) (hc0_0 : l0_0.length ≤ c0_0) (hr1_0 : Kd.C k53 w A1_0 l1_0.length l1_0) (hc1_0 : l1_0.length ≤ c1_0) (h : laws_eqSchema.f k l0_0 l1_0 = some r) :
  Calls Try.prog 12 #[.agg #[.slice A0_0 l0_0.length c0_0], .agg #[.slice A1_0 l1_0.length c1_0]] w fun e w' => e = .returned (.bool r) ∧ Below w.heap.size w w' := by
 have hu29 := Try.underlying29; have HR0_0 := qO hr0_0; have HC0_0 := qO hc0_0; clear hr0_0 hc0_0; have HR1_0 := qO hr1_0; have HC1_0 := qO hc1_0; clear hr1_0 hc1_0; have HB := qO (Below.refl w.heap.size w); have H : ((laws_eqTypeDefS.f k l0_0 l1_0).bind fun t103 => (if t103 = true then (some true) else (some false))) = some r := h; clear h; replace H := Option.bind_eq_some_iff.mp H; obtain ⟨t103, A30, H⟩ := H; replace H : (if t103 = true then (some true) else (some false)) = some r := H; have A3 := qO A30; clear A30
 by_cases c4 : t103 = true
 ·subst c4
  have H1 : (some true) = some r := by rw [if_pos rfl] at H; exact H
  clear H; have H := H1; clear H1; obtain rfl := Option.some.inj H
  go_enter Try.func12, Try.ntmps12
  go_wp2_with (first | ((with_reducible refine gate_dst (N := 2) rfl ?_); refine box_event ?hg (N := 2) ?hd (cs := #[.slice A0_0 l0_0.length c0_0]) (t := 29) ?hr ?_; (case hd => rfl); (case hg => rfl); (case hr => first | (go_simp; done) | (go_simp; rfl)); intro gb101 hg w5 hbox hb; have hx_ := qHX HB hb (by with_reducible repeat (first | refine qbN ?_ _ | refine qbD ?_ | refine qbA ?_ _ | exact Below.refl _ _)); have n0_ := qO (below_step (below_step HB.out hx_) hb); have n1_ := qO (hbox); have n2_ := qO ((by rw [hg]; exact (below_size (below_step HB.out hx_)) : w.heap.size ≤ gb101)); have n3_ := n2_; clear HB; have HB := n0_; have BK101 := n1_; have GW101 := n2_; have GE101 := n3_; clear n0_ n1_ n2_ n3_; clear hx_; clear hb hbox hg) | ((with_reducible refine gate_dst (N := 3) rfl ?_); refine box_event ?hg (N := 3) ?hd (cs := #[.slice A1_0 l1_0.length c1_0]) (t := 29) ?hr ?_; (case hd => rfl); (case hg => rfl); (case hr => first | (go_simp; done) | (go_simp; rfl)); intro gb102 hg w6 hbox hb; have hx_ := qHX HB hb (by with_reducible repeat (first | refine qbN ?_ _ | refine qbD ?_ | refine qbA ?_ _ | exact Below.refl _ _)); have n0_ := qO (qB BK101.out hx_ hb); have n1_ := qO (below_step (below_step HB.out hx_) hb); have n2_ := qO (hbox); have n3_ := qO ((by rw [hg]; exact (below_size (below_step HB.out hx_)) : w.heap.size ≤ gb102)); have n4_ := n3_; have n5_ := qO ((by rw [hg]; exact Nat.ne_of_lt (blk_lt (g := gb101) (o := .cells #[.slice A0_0 l0_0.length c0_0] 29 (0, 0)) (by (with_reducible repeat (first | refine qkN ?_ _ | refine qkD ?_ | refine qkA ?_ _)); exact BK101.out)) : gb101 ≠ gb102)); have n6_ := qO (Ne.symm n5_.out); clear BK101; clear HB; have BK101 := n0_; have HB := n1_; have BK102 := n2_; have GW102 := n3_; have GE102 := n4_; have NB101_102 := n5_; have NB102_101 := n6_; clear n0_ n1_ n2_ n3_ n4_ n5_ n6_; clear hx_; clear hb hbox hg; have hnb7 := NB101_102.out; have hnc7 := NB102_101.out; have hcz8_0 : w6.cell? ⟨gb101, 0, none⟩ = some (.slice A0_0 l0_0.length c0_0) := (blk_cell BK101.out 0).trans rfl; have hfz8_0 := blk_frozen BK101.out 0; have hcz9_0 : w6.cell? ⟨gb102, 0, none⟩ = some (.slice A1_0 l1_0.length c1_0) := (blk_cell BK102.out 0).trans rfl; have hfz9_0 := blk_frozen BK102.out 0) | ((with_reducible refine gate_callee (f := 38) rfl ?_); refine goesL_ (some 9) rfl rfl Try.func38 (by kernel_rfl) rfl #[.slice A0_0 l0_0.length c0_0, .slice A1_0 l1_0.length c1_0] rfl (by (try simp only [List.map_toArray, List.map_cons, List.map_nil]); first | done | rfl | (simp only [List.length_drop, List.length_take]; rfl)) ?_; (with_reducible refine (laws_eqTypeDefS.calls k _ _ l0_0 _ _ l1_0 true _ ?side1 ?side2 ?side3 ?side4 A3.out).mono ?_); (case side1 => repeat (first | exact (Kd.C_below HR0_0.out HB.out) | with_reducible first | refine Kd.C_alloc ?_ _ | refine Kd.C_drewN ?_ _ | refine Kd.C_drew ?_)); (case side2 => exact HC0_0.out); (case side3 => repeat (first | exact (Kd.C_below HR1_0.out HB.out) | with_reducible first | refine Kd.C_alloc ?_ _ | refine Kd.C_drewN ?_ _ | refine Kd.C_drew ?_)); (case side4 => exact HC1_0.out); rintro e w10 ⟨rfl, hb⟩; have hx_ := qHX HB hb (by with_reducible repeat (first | refine qbN ?_ _ | refine qbD ?_ | refine qbA ?_ _ | exact Below.refl _ _)); refine ⟨_, rfl, ?_⟩; have n0_ := qO (qB BK101.out hx_ hb); have n1_ := qO (qB BK102.out hx_ hb); have n2_ := qO (below_step (below_step HB.out hx_) hb); clear BK101; clear BK102; clear HB; have BK101 := n0_; have BK102 := n1_; have HB := n2_; clear n0_ n1_ n2_; clear hx_; (try clear hb); (try clear hb2); (try clear hk); (try clear hi)))
  go_ret
  exact ⟨by first | rfl | (simp [errW_none, errW_some] <;> rfl) | (simp [*, errW_none, errW_some] <;> rfl), by repeat (first | (with_reducible first | exact HB.out | apply qbA | apply qbN | apply qbD | refine qbS ?_ GE101.out | refine qbS ?_ GE102.out) | exact HB.out)⟩
 ·replace c4 := Bool.eq_false_iff.mpr c4
  subst c4; have H1 : (some false) = some r := by rw [if_neg (show ¬ (false = true) by decide)] at H; exact H
  clear H; have H := H1; clear H1; obtain rfl := Option.some.inj H
  go_enter Try.func12, Try.ntmps12
  go_wp2_with (first | ((with_reducible refine gate_dst (N := 2) rfl ?_); refine box_event ?hg (N := 2) ?hd (cs := #[.slice A0_0 l0_0.length c0_0]) (t := 29) ?hr ?_; (case hd => rfl); (case hg => rfl); (case hr => first | (go_simp; done) | (go_simp; rfl)); intro gb101 hg w11 hbox hb; have hx_ := qHX HB hb (by with_reducible repeat (first | refine qbN ?_ _ | refine qbD ?_ | refine qbA ?_ _ | exact Below.refl _ _)); have n0_ := qO (below_step (below_step HB.out hx_) hb); have n1_ := qO (hbox); have n2_ := qO ((by rw [hg]; exact (below_size (below_step HB.out hx_)) : w.heap.size ≤ gb101)); have n3_ := n2_; clear HB; have HB := n0_; have BK101 := n1_; have GW101 := n2_; have GE101 := n3_; clear n0_ n1_ n2_ n3_; clear hx_; clear hb hbox hg) | ((with_reducible refine gate_dst (N := 3) rfl ?_); refine box_event ?hg (N := 3) ?hd (cs := #[.slice A1_0 l1_0.length c1_0]) (t := 29) ?hr ?_; (case hd => rfl); (case hg => rfl); (case hr => first | (go_simp; done) | (go_simp; rfl)); intro gb102 hg w12 hbox hb; have hx_ := qHX HB hb (by with_reducible repeat (first | refine qbN ?_ _ | refine qbD ?_ | refine qbA ?_ _ | exact Below.refl _ _)); have n0_ := qO (qB BK101.out hx_ hb); have n1_ := qO (below_step (below_step HB.out hx_) hb); have n2_ := qO (hbox); have n3_ := qO ((by rw [hg]; exact (below_size (below_step HB.out hx_)) : w.heap.size ≤ gb102)); have n4_ := n3_; have n5_ := qO ((by rw [hg]; exact Nat.ne_of_lt (blk_lt (g := gb101) (o := .cells #[.slice A0_0 l0_0.length c0_0] 29 (0, 0)) (by (with_reducible repeat (first | refine qkN ?_ _ | refine qkD ?_ | refine qkA ?_ _)); exact BK101.out)) : gb101 ≠ gb102)); have n6_ := qO (Ne.symm n5_.out); clear BK101; clear HB; have BK101 := n0_; have HB := n1_; have BK102 := n2_; have GW102 := n3_; have GE102 := n4_; have NB101_102 := n5_; have NB102_101 := n6_; clear n0_ n1_ n2_ n3_ n4_ n5_ n6_; clear hx_; clear hb hbox hg; have hnb13 := NB101_102.out; have hnc13 := NB102_101.out; have hcz14_0 : w12.cell? ⟨gb101, 0, none⟩ = some (.slice A0_0 l0_0.length c0_0) := (blk_cell BK101.out 0).trans rfl; have hfz14_0 := blk_frozen BK101.out 0; have hcz15_0 : w12.cell? ⟨gb102, 0, none⟩ = some (.slice A1_0 l1_0.length c1_0) := (blk_cell BK102.out 0).trans rfl; have hfz15_0 := blk_frozen BK102.out 0) | ((with_reducible refine gate_callee (f := 38) rfl ?_); refine goesL_ (some 9) rfl rfl Try.func38 (by kernel_rfl) rfl #[.slice A0_0 l0_0.length c0_0, .slice A1_0 l1_0.length c1_0] rfl (by (try simp only [List.map_toArray, List.map_cons, List.map_nil]); first | done | rfl | (simp only [List.length_drop, List.length_take]; rfl)) ?_; (with_reducible refine (laws_eqTypeDefS.calls k _ _ l0_0 _ _ l1_0 false _ ?side1 ?side2 ?side3 ?side4 A3.out).mono ?_); (case side1 => repeat (first | exact (Kd.C_below HR0_0.out HB.out) | with_reducible first | refine Kd.C_alloc ?_ _ | refine Kd.C_drewN ?_ _ | refine Kd.C_drew ?_)); (case side2 => exact HC0_0.out); (case side3 => repeat (first | exact (Kd.C_below HR1_0.out HB.out) | with_reducible first | refine Kd.C_alloc ?_ _ | refine Kd.C_drewN ?_ _ | refine Kd.C_drew ?_)); (case side4 => exact HC1_0.out); rintro e w16 ⟨rfl, hb⟩; have hx_ := qHX HB hb (by with_reducible repeat (first | refine qbN ?_ _ | refine qbD ?_ | refine qbA ?_ _ | exact Below.refl _ _)); refine ⟨_, rfl, ?_⟩; have n0_ := qO (qB BK101.out hx_ hb); have n1_ := qO (qB BK102.out hx_ hb); have n2_ := qO (below_step (below_step HB.out hx_) hb); clear BK101; clear BK102; clear HB; have BK101 := n0_; have BK102 := n1_; have HB := n2_; clear n0_ n1_ n2_; clear hx_; (try clear hb); (try clear hb2); (try clear hk); (try clear hi)))
  go_ret
  exact ⟨by first | rfl | (simp [errW_none, errW_some] <;> rfl) | (simp [*, errW_none, errW_some] <;> rfl), by repeat (first | (with_reducible first | exact HB.out | apply qbA | apply qbN | apply qbD | refine qbS ?_ GE101.out | refine qbS ?_ GE102.out) | exact HB.out)⟩

end Go.Proofs.Ytoogmlghfljeiaa.Q
namespace Go.Proofs.Ytoogmlghfljeiaa.Q
open Go.RowKit Go.Proofs.YtoogmlghfljeiaaW.PrintWords Go.Proofs.YtoogmlghfljeiaaW.PrintLast Go.Proofs.YtoogmlghfljeiaaW.PrintMore
attribute [local go_sem] max2_int min2_int max_two min_two max_three min_three max_four min_four
set_option linter.unusedVariables false
set_option linter.unusedSimpArgs false

def laws_FnExactSchemaOK.f (k : Nat) (l0_0 : List (S77)) : Option (Bool) := (laws_szSchema.f k l0_0 1048576).bind fun t102 => (if t102 < 0 then (some true) else ((laws_toSchema.f k l0_0).bind fun t103 => ((spec_SchemaOK.f k t103).bind fun t106 => ((laws_toSchema.f k l0_0).bind fun t107 => ((impl_SchemaOK.f k t107).bind fun t111 => (if (t111 != t106) = true then (none) else ((laws_toSchema.f k l0_0).bind fun t112 => ((laws_eqSchema.f k t107 t112).bind fun t115 => (if t115 = true then (some true) else (none))))))))))
set_option maxHeartbeats 8000000 in
set_option maxRecDepth 100000 in
theorem laws_FnExactSchemaOK.calls (k : Nat) (A0_0 : Option Addr) (c0_0 : Nat) (l0_0 : List (S77)) (r : Bool) (w : World) (hr0_0 : Kd.C k77 w A0_0 l0_0.length l0_0) (hc0_0 : l0_0.length ≤ c0_0) (h : laws_FnExactSchemaOK.f k l0_0 = some r) :
  Calls Try.prog 3 #[.agg #[.slice A0_0 l0_0.length c0_0]] w fun e w' => e = .returned (.bool r) ∧ Below w.heap.size w w' := by
 have hu24 := Try.underlying24; have hu29 := Try.underlying29; have HR0_0 := qO hr0_0; have HC0_0 := qO hc0_0; clear hr0_0 hc0_0; have HB := qO (Below.refl w.heap.size w); have H : ((laws_szSchema.f k l0_0 1048576).bind fun t102 => (if t102 < 0 then (some true) else ((laws_toSchema.f k l0_0).bind fun t103 => ((spec_SchemaOK.f k t103).bind fun t106 => ((laws_toSchema.f k l0_0).bind fun t107 => ((impl_SchemaOK.f k t107).bind fun t111 => (if (t111 != t106) = true then (none) else ((laws_toSchema.f k l0_0).bind fun t112 => ((laws_eqSchema.f k t107 t112).bind fun t115 => (if t115 = true then (some true) else (none))))))))))) = some r := h; clear h; replace H := Option.bind_eq_some_iff.mp H; obtain ⟨t102, A20, H⟩ := H; replace H : (if t102 < 0 then (some true) else ((laws_toSchema.f k l0_0).bind fun t103 => ((spec_SchemaOK.f k t103).bind fun t106 => ((laws_toSchema.f k l0_0).bind fun t107 => ((impl_SchemaOK.f k t107).bind fun t111 => (if (t111 != t106) = true then (none) else ((laws_toSchema.f k l0_0).bind fun t112 => ((laws_eqSchema.f k t107 t112).bind fun t115 => (if t115 = true then (some true) else (none)))))))))) = some r := H; have A2 := qO A20; clear A20
 by_cases c3 : t102 < 0
 ·rw [if_pos c3] at H
  have c3b0 : decide (t102 < 0) = true := decide_eq_true c3; clear c3; obtain rfl := Option.some.inj H
  go_enter Try.func3, Try.ntmps3
  go_wp2_with (first | ((with_reducible refine gate_dst (N := 1) rfl ?_); refine box_event ?hg (N := 1) ?hd (cs := #[.slice A0_0 l0_0.length c0_0]) (t := 24) ?hr ?_; (case hd => rfl); (case hg => rfl); (case hr => first | (go_simp; done) | (go_simp; rfl)); intro gb101 hg w4 hbox hb; have hx_ := qHX HB hb (by with_reducible repeat (first | refine qbN ?_ _ | refine qbD ?_ | refine qbA ?_ _ | exact Below.refl _ _)); have n0_ := qO (below_step (below_step HB.out hx_) hb); have n1_ := qO (hbox); have n2_ := qO ((by rw [hg]; exact (below_size (below_step HB.out hx_)) : w.heap.size ≤ gb101)); have n3_ := n2_; clear HB; have HB := n0_; have BK101 := n1_; have GW101 := n2_; have GE101 := n3_; clear n0_ n1_ n2_ n3_; clear hx_; clear hb hbox hg; have hcz5_0 : w4.cell? ⟨gb101, 0, none⟩ = some (.slice A0_0 l0_0.length c0_0) := (blk_cell BK101.out 0).trans rfl; have hfz5_0 := blk_frozen BK101.out 0) | ((with_reducible refine gate_callee (f := 8) rfl ?_); refine goesL_ (some 9) rfl rfl Try.func8 (by kernel_rfl) rfl #[.agg #[.slice A0_0 l0_0.length c0_0], .int .i64 1048576] rfl (by (try simp only [List.map_toArray, List.map_cons, List.map_nil]); first | done | rfl | (simp only [List.length_drop, List.length_take]; rfl)) ?_; (with_reducible refine (laws_szSchema.calls k _ _ l0_0 1048576 t102 _ ?side1 ?side2 A2.out).mono ?_); (case side1 => repeat (first | exact (Kd.C_below HR0_0.out HB.out) | with_reducible first | refine Kd.C_alloc ?_ _ | refine Kd.C_drewN ?_ _ | refine Kd.C_drew ?_)); (case side2 => exact HC0_0.out); rintro e w6 ⟨rfl, hb⟩; have hx_ := qHX HB hb (by with_reducible repeat (first | refine qbN ?_ _ | refine qbD ?_ | refine qbA ?_ _ | exact Below.refl _ _)); refine ⟨_, rfl, ?_⟩; have n0_ := qO (qB BK101.out hx_ hb); have n1_ := qO (below_step (below_step HB.out hx_) hb); clear BK101; clear HB; have BK101 := n0_; have HB := n1_; clear n0_ n1_; clear hx_; (try clear hb); (try clear hb2); (try clear hk); (try clear hi)))
  go_ret
  exact ⟨by first | rfl | (simp [errW_none, errW_some] <;> rfl) | (simp [*, errW_none, errW_some] <;> rfl), by repeat (first | (with_reducible first | exact HB.out | apply qbA | apply qbN | apply qbD | refine qbS ?_ GE101.out) | exact HB.out)⟩
 ·rw [if_neg c3] at H
  have c3b0 : decide (t102 < 0) = false := decide_eq_false c3; clear c3; replace H := Option.bind_eq_some_iff.mp H; obtain ⟨t103, A70, H⟩ := H; replace H : ((spec_SchemaOK.f k t103).bind fun t106 => ((laws_toSchema.f k l0_0).bind fun t107 => ((impl_SchemaOK.f k t107).bind fun t111 => (if (t111 != t106) = true then (none) else ((laws_toSchema.f k l0_0).bind fun t112 => ((laws_eqSchema.f k t107 t112).bind fun t115 => (if t115 = true then (some true) else (none)))))))) = some r := H; have A7 := qO A70; clear A70; replace H := Option.bind_eq_some_iff.mp H; obtain ⟨t106, A80, H⟩ := H; replace H : ((laws_toSchema.f k l0_0).bind fun t107 => ((impl_SchemaOK.f k t107).bind fun t111 => (if (t111 != t106) = true then (none) else ((laws_toSchema.f k l0_0).bind fun t112 => ((laws_eqSchema.f k t107 t112).bind fun t115 => (if t115 = true then (some true) else (none))))))) = some r := H; have A8 := qO A80; clear A80; replace H := Option.bind_eq_some_iff.mp H; obtain ⟨t107, A90, H⟩ := H; replace H : ((impl_SchemaOK.f k t107).bind fun t111 => (if (t111 != t106) = true then (none) else ((laws_toSchema.f k l0_0).bind fun t112 => ((laws_eqSchema.f k t107 t112).bind fun t115 => (if t115 = true then (some true) else (none)))))) = some r := H; have A9 := qO A90; clear A90; replace H := Option.bind_eq_some_iff.mp H; obtain ⟨t111, A100, H⟩ := H; replace H : (if (t111 != t106) = true then (none) else ((laws_toSchema.f k l0_0).bind fun t112 => ((laws_eqSchema.f k t107 t112).bind fun t115 => (if t115 = true then (some true) else (none))))) = some r := H; have A10 := qO A100; clear A100
  by_cases c11 : (t111 != t106) = true
  ·rw [if_pos c11] at H
   exact absurd H (by simp)
  ·rw [if_neg c11] at H
   have c11b0 : (t111 != t106) = false := by simpa using c11
   (try (have c11b1 : decide (t111 = t106) = true := by simpa using c11)); (try (have c11b2 : (t111 == t106) = true := by simpa using c11)); clear c11; replace H := Option.bind_eq_some_iff.mp H; obtain ⟨t112, A120, H⟩ := H; replace H : ((laws_eqSchema.f k t107 t112).bind fun t115 => (if t115 = true then (some true) else (none))) = some r := H; have A12 := qO A120; clear A120; replace H := Option.bind_eq_some_iff.mp H; obtain ⟨t115, A130, H⟩ := H; replace H : (if t115 = true then (some true) else (none)) = some r := H; have A13 := qO A130; clear A130
   by_cases c14 : t115 = true
   ·subst c14
    have H1 : (some true) = some r := by rw [if_pos rfl] at H; exact H
    clear H; have H := H1; clear H1; obtain rfl := Option.some.inj H
    go_enter Try.func3, Try.ntmps3
    try go_wp2_with (first | ((with_reducible refine gate_dst (N := 1) rfl ?_); refine box_event ?hg (N := 1) ?hd (cs := #[.slice A0_0 l0_0.length c0_0]) (t := 24) ?hr ?_; (case hd => rfl); (case hg => rfl); (case hr => first | (go_simp; done) | (go_simp; rfl)); intro gb101 hg w15 hbox hb; have hx_ := qHX HB hb (by with_reducible repeat (first | refine qbN ?_ _ | refine qbD ?_ | refine qbA ?_ _ | exact Below.refl _ _)); have n0_ := qO (below_step (below_step HB.out hx_) hb); have n1_ := qO (hbox); have n2_ := qO ((by rw [hg]; exact (below_size (below_step HB.out hx_)) : w.heap.size ≤ gb101)); have n3_ := n2_; clear HB; have HB := n0_; have BK101 := n1_; have GW101 := n2_; have GE101 := n3_; clear n0_ n1_ n2_ n3_; clear hx_; clear hb hbox hg; have hcz16_0 : w15.cell? ⟨gb101, 0, none⟩ = some (.slice A0_0 l0_0.length c0_0) := (blk_cell BK101.out 0).trans rfl; have hfz16_0 := blk_frozen BK101.out 0) | ((with_reducible refine gate_callee (f := 8) rfl ?_); refine goesL_ (some 9) rfl rfl Try.func8 (by kernel_rfl) rfl #[.agg #[.slice A0_0 l0_0.length c0_0], .int .i64 1048576] rfl (by (try simp only [List.map_toArray, List.map_cons, List.map_nil]); first | done | rfl | (simp only [List.length_drop, List.length_take]; rfl)) ?_; (with_reducible refine (laws_szSchema.calls k _ _ l0_0 1048576 t102 _ ?side1 ?side2 A2.out).mono ?_); (case side1 => repeat (first | exact (Kd.C_below HR0_0.out HB.out) | with_reducible first | refine Kd.C_alloc ?_ _ | refine Kd.C_drewN ?_ _ | refine Kd.C_drew ?_)); (case side2 => exact HC0_0.out); rintro e w17 ⟨rfl, hb⟩; have hx_ := qHX HB hb (by with_reducible repeat (first | refine qbN ?_ _ | refine qbD ?_ | refine qbA ?_ _ | exact Below.refl _ _)); refine ⟨_, rfl, ?_⟩; have n0_ := qO (qB BK101.out hx_ hb); have n1_ := qO (below_step (below_step HB.out hx_) hb); clear BK101; clear HB; have BK101 := n0_; have HB := n1_; clear n0_ n1_; clear hx_; (try clear hb); (try clear hb2); (try clear hk); (try clear hi); have hcz18_0 : w17.cell? ⟨gb101, 0, none⟩ = some (.slice A0_0 l0_0.length c0_0) := (blk_cell BK101.out 0).trans rfl; have hfz18_0 := blk_frozen BK101.out 0) | ((with_reducible refine gate_callee (f := 10) rfl ?_); refine goesL_ (some 13) rfl rfl Try.func10 (by kernel_rfl) rfl #[.agg #[.slice A0_0 l0_0.length c0_0]] rfl (by (try simp only [List.map_toArray, List.map_cons, List.map_nil]); first | done | rfl | (simp only [List.length_drop, List.length_take]; rfl)) ?_; (with_reducible refine (laws_toSchema.calls k _ _ l0_0 t103 _ ?side1 ?side2 A7.out).mono ?_); (case side1 => repeat (first | exact (Kd.C_below HR0_0.out HB.out) | with_reducible first | refine Kd.C_alloc ?_ _ | refine Kd.C_drewN ?_ _ | refine Kd.C_drew ?_)); (case side2 => exact HC0_0.out); rintro e w19 ⟨v104, rfl, ho0, hb⟩; have hx_ := qHX HB hb (by with_reducible repeat (first | refine qbN ?_ _ | refine qbD ?_ | refine qbA ?_ _ | exact Below.refl _ _)); refine ⟨_, rfl, ?_⟩; have n0_ := qO (Kd.R_lower ho0 (below_size (below_step HB.out hx_))); have n1_ := qO (qB BK101.out hx_ hb); have n2_ := qO (below_step (below_step HB.out hx_) hb); clear BK101; clear HB; have HO105 := n0_; have BK101 := n1_; have HB := n2_; clear n0_ n1_ n2_; clear hx_; (try clear hb); (try clear hb2); (try clear hk); (try clear hi); (try clear ho0); obtain ⟨Ao20, co20, eo20⟩ := Kd.R_slice HO105.out; subst eo20) | ((with_reducible refine gate_callee (f := 9) rfl ?_); refine goesL_ (some 14) rfl rfl Try.func9 (by kernel_rfl) rfl #[.agg #[.slice Ao20 t103.length co20]] rfl (by (try simp only [List.map_toArray, List.map_cons, List.map_nil]); first | done | rfl | (simp only [List.length_drop, List.length_take]; rfl)) ?_; (with_reducible refine (spec_SchemaOK.calls k _ _ t103 t106 _ ?side1 ?side2 A8.out).mono ?_); (case side1 => repeat (first | exact (Kd.R_reads' HO105.out).2.2 | with_reducible first | refine Kd.C_alloc ?_ _ | refine Kd.C_drewN ?_ _ | refine Kd.C_drew ?_)); (case side2 => exact (Kd.R_reads' HO105.out).2.1); rintro e w21 ⟨rfl, hb⟩; have hx_ := qHX HB hb (by with_reducible repeat (first | refine qbN ?_ _ | refine qbD ?_ | refine qbA ?_ _ | exact Below.refl _ _)); refine ⟨_, rfl, ?_⟩; have n0_ := qO (Kd.R_below (by (with_reducible repeat (first | apply Kd.R_alloc | apply Kd.R_drewN | apply Kd.R_drew)); exact HO105.out) hb); have n1_ := qO (qB BK101.out hx_ hb); have n2_ := qO (below_step (below_step HB.out hx_) hb); clear HO105; clear BK101; clear HB; have HO105 := n0_; have BK101 := n1_; have HB := n2_; clear n0_ n1_ n2_; clear hx_; (try clear hb); (try clear hb2); (try clear hk); (try clear hi); have hcz22_0 : w21.cell? ⟨gb101, 0, none⟩ = some (.slice A0_0 l0_0.length c0_0) := (blk_cell BK101.out 0).trans rfl; have hfz22_0 := blk_frozen BK101.out 0) | ((with_reducible refine gate_callee (f := 10) rfl ?_); refine goesL_ (some 16) rfl rfl Try.func10 (by kernel_rfl) rfl #[.agg #[.slice A0_0 l0_0.length c0_0]] rfl (by (try simp only [List.map_toArray, List.map_cons, List.map_nil]); first | done | rfl | (simp only [List.length_drop, List.length_take]; rfl)) ?_; (with_reducible refine (laws_toSchema.calls k _ _ l0_0 t107 _ ?side1 ?side2 A9.out).mono ?_); (case side1 => repeat (first | exact (Kd.C_below HR0_0.out HB.out) | with_reducible first | refine Kd.C_alloc ?_ _ | refine Kd.C_drewN ?_ _ | refine Kd.C_drew ?_)); (case side2 => exact HC0_0.out); rintro e w23 ⟨v108, rfl, ho0, hb⟩; have hx_ := qHX HB hb (by with_reducible repeat (first | refine qbN ?_ _ | refine qbD ?_ | refine qbA ?_ _ | exact Below.refl _ _)); refine ⟨_, rfl, ?_⟩; have n0_ := qO (Kd.R_elder' (by (with_reducible repeat (first | apply Kd.R_alloc | apply Kd.R_drewN | apply Kd.R_drew)); exact HO105.out) (Kd.R_base ho0) hb); have n1_ := qO (Kd.R_lower (Kd.R_new' ho0 (Kd.R_lt (by (with_reducible repeat (first | apply Kd.R_alloc | apply Kd.R_drewN | apply Kd.R_drew)); exact HO105.out))) (below_size (below_step HB.out hx_))); have n2_ := qO (qB BK101.out hx_ hb); have n3_ := qO (below_step (below_step HB.out hx_) hb); clear HO105; clear BK101; clear HB; have HO105 := n0_; have HO109 := n1_; have BK101 := n2_; have HB := n3_; clear n0_ n1_ n2_ n3_; clear hx_; (try clear hb); (try clear hb2); (try clear hk); (try clear hi); (try clear ho0)) | ((with_reducible refine gate_dst (N := 5) rfl ?_); refine box_event ?hg (N := 5) ?hd (cs := #[.slice none 0 0]) (t := 29) ?hr ?_; (case hd => rfl); (case hg => rfl); (case hr => first | (go_simp; done) | (go_simp; rfl)); intro gb110 hg w24 hbox hb; have hx_ := qHX HB hb (by with_reducible repeat (first | refine qbN ?_ _ | refine qbD ?_ | refine qbA ?_ _ | exact Below.refl _ _)); have n0_ := qO (Kd.R_below (by (with_reducible repeat (first | apply Kd.R_alloc | apply Kd.R_drewN | apply Kd.R_drew)); exact HO105.out) hb); have n1_ := qO (Kd.R_below (by (with_reducible repeat (first | apply Kd.R_alloc | apply Kd.R_drewN | apply Kd.R_drew)); exact HO109.out) hb); have n2_ := qO (qB BK101.out hx_ hb); have n3_ := qO (below_step (below_step HB.out hx_) hb); have n4_ := qO (hbox); have n5_ := qO ((by rw [hg]; exact (below_size (below_step HB.out hx_)) : w.heap.size ≤ gb110)); have n6_ := n5_; have n7_ := qO ((by rw [hg]; exact Nat.ne_of_lt (blk_lt (g := gb101) (o := .cells #[.slice A0_0 l0_0.length c0_0] 24 (0, 0)) (by (with_reducible repeat (first | refine qkN ?_ _ | refine qkD ?_ | refine qkA ?_ _)); exact BK101.out)) : gb101 ≠ gb110)); have n8_ := qO (Ne.symm n7_.out); clear HO105; clear HO109; clear BK101; clear HB; have HO105 := n0_; have HO109 := n1_; have BK101 := n2_; have HB := n3_; have BK110 := n4_; have GW110 := n5_; have GE110 := n6_; have NB101_110 := n7_; have NB110_101 := n8_; clear n0_ n1_ n2_ n3_ n4_ n5_ n6_ n7_ n8_; clear hx_; clear hb hbox hg; obtain ⟨Ao25, co25, eo25⟩ := Kd.R_slice HO109.out; subst eo25; have hnb26 := NB110_101.out; have hnc26 := NB101_110.out; have hcz27_0 : w24.cell? ⟨gb110, 0, none⟩ = some (.slice none 0 0) := (blk_cell BK110.out 0).trans rfl; have hfz27_0 := blk_frozen BK110.out 0) | ((with_reducible refine gate_callee (f := 11) rfl ?_); refine goesL_ (some 18) rfl rfl Try.func11 (by kernel_rfl) rfl #[.agg #[.slice Ao25 t107.length co25]] rfl (by (try simp only [List.map_toArray, List.map_cons, List.map_nil]); first | done | rfl | (simp only [List.length_drop, List.length_take]; rfl)) ?_; (with_reducible refine (impl_SchemaOK.calls k _ _ t107 t111 _ ?side1 ?side2 A10.out).mono ?_); (case side1 => refine (Kd.R_reads' (e := 53) (base := w.heap.size) (ok := fun k_ => (True ∧ some k_ ≠ (.slice Ao20 t103.length co20 : Value).ownBlock)) (n := t107.length) (c := co25) ?_).2.2; exact (by (with_reducible repeat (first | apply Kd.R_alloc | apply Kd.R_drewN | apply Kd.R_drew)); exact (Kd.R_mono (Kd.R_far (p := ⟨gb110, 0, none⟩) (Kd.R_types HO109.out BK110.out (by decide)) (fun _ hk => hk.2) (.slice Ao25 t107.length co25)) (fun _ h_ => h_.1)))); (case side2 => exact (Kd.R_reads' HO109.out).2.1); rintro e w28 ⟨rfl, hb⟩; refine ⟨_, rfl, ?_⟩; have n0_ := qO (Kd.R_below (by (with_reducible repeat (first | apply Kd.R_alloc | apply Kd.R_drewN | apply Kd.R_drew)); exact (Kd.R_mono (Kd.R_far (p := ⟨gb110, 0, none⟩) (Kd.R_types HO105.out BK110.out (by decide)) (fun _ hk => hk.2) (.slice Ao25 t107.length co25)) (fun _ h_ => h_.1))) hb); have n1_ := qO (Kd.R_below (by (with_reducible repeat (first | apply Kd.R_alloc | apply Kd.R_drewN | apply Kd.R_drew)); exact (Kd.R_mono (Kd.R_far (p := ⟨gb110, 0, none⟩) (Kd.R_types HO109.out BK110.out (by decide)) (fun _ hk => hk.2) (.slice Ao25 t107.length co25)) (fun _ h_ => h_.1))) hb); have n2_ := qO (blk_below (g := gb101) (o := .cells #[.slice A0_0 l0_0.length c0_0] 24 (0, 0)) (by (with_reducible repeat (first | refine qkN ?_ _ | refine qkD ?_ | refine qkA ?_ _)); refine blk_far ?_ NB101_110.out _; (with_reducible repeat (first | refine qkN ?_ _ | refine qkD ?_ | refine qkA ?_ _)); exact BK101.out) hb); have n3_ := qO (blk_below (g := gb110) (o := .cells #[.slice Ao25 t107.length co25] 29 (0, 0)) (by (with_reducible repeat (first | refine qkN ?_ _ | refine qkD ?_ | refine qkA ?_ _)); refine blk_put (cs := #[.slice none 0 0]) ?_ 0 _ rfl; (with_reducible repeat (first | refine qkN ?_ _ | refine qkD ?_ | refine qkA ?_ _)); exact BK110.out) hb); have n4_ := qO (below_step (by repeat (first | (with_reducible first | exact HB.out | apply qbA | apply qbN | apply qbD | refine qbS ?_ GE101.out | refine qbS ?_ GE110.out) | exact HB.out)) hb); clear HO105; clear HO109; clear BK101; clear BK110; clear HB; have HO105 := n0_; have HO109 := n1_; have BK101 := n2_; have BK110 := n3_; have HB := n4_; clear n0_ n1_ n2_ n3_ n4_; (try clear hb); (try clear hb2); (try clear hk); (try clear hi)))
    have n0_ := qO (Kd.R_drew HO105.out); have n1_ := qO (Kd.R_drew HO109.out); have n2_ := qO (qkD BK101.out); have n3_ := qO (qkD BK110.out); have n4_ := qO (qbD HB.out); clear HO105; clear HO109; clear BK101; clear BK110; clear HB; have HO105 := n0_; have HO109 := n1_; have BK101 := n2_; have BK110 := n3_; have HB := n4_; clear n0_ n1_ n2_ n3_ n4_; refine start_ (n := 5) (S := fun w' => w'.cell? ⟨gb110, 0, none⟩ = some (.slice Ao25 t107.length co25) ∧ w'.cell? ⟨gb101, 0, none⟩ = some (.slice A0_0 l0_0.length c0_0)) (ds := []) #[false, false, false, false, false] (by kernel_rfl) rfl rfl ⟨(blk_cell BK110.out 0).trans rfl, (blk_cell BK101.out 0).trans rfl⟩ (fun hHeld => ?_); generalize w28.drew = w29 at HO105 HO109 BK101 BK110 HB hHeld ⊢; refine take_ (i := 0) (N := some 22) (v := ?_) (a' := ?_) #[true, false, false, false, false] rfl rfl (by kernel_rfl) (fun _ _ _ h => h) (Or.inl ⟨by rfl, ?_⟩) hHeld ?_ ?_; rotate_left; (rintro w' ⟨s0, s1⟩; go_simp; with_reducible rfl); rotate_left; (simp only [Act.put, qzA, qzB, qzC, i64_w, i32_w]; rfl); refine take_ (i := 1) (N := some 23) (v := ?_) (a' := ?_) #[true, true, false, false, false] rfl rfl (by kernel_rfl) (fun _ _ _ h => h) (Or.inl ⟨by rfl, ?_⟩) hHeld ?_ ?_; rotate_left; (rintro w' ⟨s0, s1⟩; go_simp; with_reducible rfl); rotate_left; (simp only [Act.put, qzA, qzB, qzC, i64_w, i32_w]; rfl); refine one_ (i := 2) (N := some 24) #[true, true, true, false, false] rfl rfl (by kernel_rfl) (by decide) (fun K hK => ?_); refine goes_ Try.func10 (by kernel_rfl) rfl #[.agg #[.slice A0_0 l0_0.length c0_0]] (by rfl) rfl rfl (by (try simp only [List.map_toArray, List.map_cons, List.map_nil]); first | done | rfl | (simp only [List.length_drop, List.length_take]; rfl)) ?_; (with_reducible refine (laws_toSchema.calls k _ _ l0_0 t112 _ ?side1 ?side2 A12.out).mono ?_); (case side1 => repeat (first | exact (Kd.C_below HR0_0.out HB.out) | with_reducible first | refine Kd.C_alloc ?_ _ | refine Kd.C_drewN ?_ _ | refine Kd.C_drew ?_)); (case side2 => exact HC0_0.out); rintro e w30 ⟨v113, rfl, ho0, hb⟩; have hx_ := qHX HB hb (by with_reducible repeat (first | refine qbN ?_ _ | refine qbD ?_ | refine qbA ?_ _ | exact Below.refl _ _)); refine ⟨_, rfl, ?_⟩; have n0_ := qO (Kd.R_elder' (by (with_reducible repeat (first | apply Kd.R_alloc | apply Kd.R_drewN | apply Kd.R_drew)); exact HO105.out) (Kd.R_base ho0) hb); have n1_ := qO (Kd.R_elder' (by (with_reducible repeat (first | apply Kd.R_alloc | apply Kd.R_drewN | apply Kd.R_drew)); exact HO109.out) (Kd.R_base ho0) hb); have n2_ := qO (Kd.R_lower (Kd.R_new' (Kd.R_new' ho0 (Kd.R_lt (by (with_reducible repeat (first | apply Kd.R_alloc | apply Kd.R_drewN | apply Kd.R_drew)); exact HO105.out))) (Kd.R_lt (by (with_reducible repeat (first | apply Kd.R_alloc | apply Kd.R_drewN | apply Kd.R_drew)); exact HO109.out))) (below_size (below_step HB.out hx_))); have n3_ := qO (qB BK101.out hx_ hb); have n4_ := qO (qB BK110.out hx_ hb); have n5_ := qO (below_step (below_step HB.out hx_) hb); clear HO105; clear HO109; clear BK101; clear BK110; clear HB; have HO105 := n0_; have HO109 := n1_; have HO114 := n2_; have BK101 := n3_; have BK110 := n4_; have HB := n5_; clear n0_ n1_ n2_ n3_ n4_ n5_; clear hx_; (try clear hb); (try clear hb2); (try clear hk); (try clear hi); (try clear ho0); obtain ⟨Ao31, co31, eo31⟩ := Kd.R_slice HO114.out; (first | subst eo31 | (injection eo31 with f1_ f2_ f3_; have f4_ := f1_.symm; have f5_ := f3_.symm; clear f1_ f2_ f3_; subst f4_; subst f5_)); refine hK.out _ _ ⟨(blk_cell BK110.out 0).trans rfl, (blk_cell BK101.out 0).trans rfl⟩ (fun hHeld => ?_); clear hK K; refine norm_ (a' := ?_) ?_ ?_; rotate_left
    ·show Act.put _ (some 24) _ = _
     simp only [Act.put, qzA, qzB, qzC, i64_w, i32_w]
     rfl
    refine one_ (i := 3) (N := some 25) #[true, true, true, true, false] rfl rfl (by kernel_rfl) (by decide) (fun K hK => ?_); refine goes_ Try.func12 (by kernel_rfl) rfl #[.agg #[.slice Ao25 t107.length co25], .agg #[.slice Ao31 t112.length co31]] (by rfl) rfl rfl (by (try simp only [List.map_toArray, List.map_cons, List.map_nil]); first | done | rfl | (simp only [List.length_drop, List.length_take]; rfl)) ?_; (with_reducible refine (laws_eqSchema.calls k _ _ t107 _ _ t112 true _ ?side1 ?side2 ?side3 ?side4 A13.out).mono ?_); (case side1 => repeat (first | exact (Kd.R_reads' HO109.out).2.2 | with_reducible first | refine Kd.C_alloc ?_ _ | refine Kd.C_drewN ?_ _ | refine Kd.C_drew ?_)); (case side2 => exact (Kd.R_reads' HO109.out).2.1); (case side3 => repeat (first | exact (Kd.R_reads' HO114.out).2.2 | with_reducible first | refine Kd.C_alloc ?_ _ | refine Kd.C_drewN ?_ _ | refine Kd.C_drew ?_)); (case side4 => exact (Kd.R_reads' HO114.out).2.1); rintro e w32 ⟨rfl, hb⟩; have hx_ := qHX HB hb (by with_reducible repeat (first | refine qbN ?_ _ | refine qbD ?_ | refine qbA ?_ _ | exact Below.refl _ _)); refine ⟨_, rfl, ?_⟩; have n0_ := qO (Kd.R_below (by (with_reducible repeat (first | apply Kd.R_alloc | apply Kd.R_drewN | apply Kd.R_drew)); exact HO105.out) hb); have n1_ := qO (Kd.R_below (by (with_reducible repeat (first | apply Kd.R_alloc | apply Kd.R_drewN | apply Kd.R_drew)); exact HO109.out) hb); have n2_ := qO (Kd.R_below (by (with_reducible repeat (first | apply Kd.R_alloc | apply Kd.R_drewN | apply Kd.R_drew)); exact HO114.out) hb); have n3_ := qO (qB BK101.out hx_ hb); have n4_ := qO (qB BK110.out hx_ hb); have n5_ := qO (below_step (below_step HB.out hx_) hb); clear HO105; clear HO109; clear HO114; clear BK101; clear BK110; clear HB; have HO105 := n0_; have HO109 := n1_; have HO114 := n2_; have BK101 := n3_; have BK110 := n4_; have HB := n5_; clear n0_ n1_ n2_ n3_ n4_ n5_; clear hx_; (try clear hb); (try clear hb2); (try clear hk); (try clear hi); refine hK.out _ _ ⟨(blk_cell BK110.out 0).trans rfl, (blk_cell BK101.out 0).trans rfl⟩ (fun hHeld => ?_); clear hK K; refine norm_ (a' := ?_) ?_ ?_; rotate_left
    ·show Act.put _ (some 25) _ = _
     simp only [Act.put, qzA, qzB, qzC, i64_w, i32_w]
     rfl
    refine pure_ (i := 4) (N := some 26) (v := ?_) (a' := ?_) #[true, true, true, true, true] rfl rfl (by kernel_rfl) (fun _ _ _ h => h) (Or.inl ⟨by rfl, ?_⟩) ?_ ?_; rotate_left; (intro w'; go_simp; with_reducible rfl); rotate_left; (simp only [Act.put, qzA, qzB, qzC, i64_w, i32_w]; rfl); refine done_ (by kernel_rfl) ?_
    try go_wp2
    go_ret
    exact ⟨by first | rfl | (simp [errW_none, errW_some] <;> rfl) | (simp [*, errW_none, errW_some] <;> rfl), by repeat (first | (with_reducible first | exact HB.out | apply qbA | apply qbN | apply qbD | refine qbS ?_ GE101.out | refine qbS ?_ GE110.out) | exact HB.out)⟩
   ·replace c14 := Bool.eq_false_iff.mpr c14
    subst c14; have H1 : (none) = some r := by rw [if_neg (show ¬ (false = true) by decide)] at H; exact H
    clear H; have H := H1; clear H1
    exact absurd H (by simp)

end Go.Proofs.Ytoogmlghfljeiaa.Q
namespace Go.Proofs.Ytoogmlghfljeiaa.Q
open Go.RowKit Go.Proofs.YtoogmlghfljeiaaW.PrintWords Go.Proofs.Ytoogmlghfljeiaa.Opens
set_option linter.unusedVariables false
def i106 (x : S106) : Prop := x.f0.size ≤ 9223372036854775807 ∧ True
theorem o106 : Opens Try.prog 106 k106 i106 := opens_struct (N := 2) Try.underlying106 (by kernel_rfl) (opensF_cons rfl (by kernel_rfl) (opens_string Try.underlying9) (opensF_one rfl rfl (by kernel_rfl) (opens_bool Try.underlying4))) (fun y => ⟨y.1, y.2⟩) (fun _ => rfl)
def i101 (x : S101) : Prop := x.f0.size ≤ 9223372036854775807 ∧ (x.f1.length ≤ 9223372036854775807 ∧ ∀ y1_ ∈ x.f1, i106 y1_) ∧ x.f2.size ≤ 9223372036854775807 ∧ True ∧ True
theorem o101 : Opens Try.prog 101 k101 i101 := opens_struct (N := 5) Try.underlying101 (by kernel_rfl) (opensF_cons rfl (by kernel_rfl) (opens_string Try.underlying9) (opensF_cons rfl (by kernel_rfl) (opens_slice Try.underlying99 (by kernel_rfl) o106) (opensF_cons rfl (by kernel_rfl) (opens_string Try.underlying9) (opensF_cons rfl (by kernel_rfl) (opens_bool Try.underlying4) (opensF_one rfl rfl (by kernel_rfl) (opens_bool Try.underlying4)))))) (fun y => ⟨y.1, y.2.1, y.2.2.1, y.2.2.2.1, y.2.2.2.2⟩) (fun _ => rfl)
def i77 (x : S77) : Prop := x.f0.size ≤ 9223372036854775807 ∧ (x.f1.length ≤ 9223372036854775807 ∧ ∀ y1_ ∈ x.f1, i101 y1_)
theorem o77 : Opens Try.prog 77 k77 i77 := opens_struct (N := 2) Try.underlying77 (by kernel_rfl) (opensF_cons rfl (by kernel_rfl) (opens_string Try.underlying9) (opensF_one rfl rfl (by kernel_rfl) (opens_slice Try.underlying75 (by kernel_rfl) o101))) (fun y => ⟨y.1, y.2⟩) (fun _ => rfl)
def i24 (x : S24) : Prop := (x.f0.length ≤ 9223372036854775807 ∧ ∀ y1_ ∈ x.f0, i77 y1_)
theorem o24 : Opens Try.prog 24 k24 i24 := opens_struct (N := 1) Try.underlying24 (by kernel_rfl) (opensF_one rfl rfl (by kernel_rfl) (opens_slice Try.underlying22 (by kernel_rfl) o77)) (fun y => ⟨y⟩) (fun _ => rfl)
end Go.Proofs.Ytoogmlghfljeiaa.Q
namespace Go.Proofs.Ytoogmlghfljeiaa.Q
open Go.RowKit Go.Proofs.YtoogmlghfljeiaaW.PrintWords Go.Proofs.Ytoogmlghfljeiaa.Opens
set_option linter.unusedVariables false
def laws_FnExactSchemaOK.Pure2 : Prop := ∀ (y0 : S24), i24 y0 → ∃ k, laws_FnExactSchemaOK.f k y0.f0 = some true
end Go.Proofs.Ytoogmlghfljeiaa.Q
namespace Go.Proofs.Ytoogmlghfljeiaa.Pure2
open Go.RowKit Go.Proofs.Ytoogmlghfljeiaa.Q Go.Proofs.YtoogmlghfljeiaaW.PrintWords Go.Proofs.YtoogmlghfljeiaaW.PrintLast
set_option linter.unusedVariables false
set_option linter.unusedSimpArgs false
/-! small words -/
theorem wsucc {j n : Nat} (h : j < n) (hn : n ≤ 4611686018427387904) : wrap64 ((j : Int) + 1) = ((j + 1 : Nat) : Int) := by unfold wrap64; omega
theorem ev_step {α : Type} {g f : Nat → Option α} {r : α} (h : ∃ K, ∀ k, K ≤ k → g (k + 1) = f k) (k : Ev f r) : Ev g r := by
  obtain ⟨K, h⟩ := h
  obtain ⟨K', k⟩ := k
  refine ⟨max K K' + 1, fun n hn => ?_⟩
  obtain ⟨m, rfl⟩ : ∃ m, n = m + 1 := ⟨n - 1, by omega⟩
  rw [h m (by omega), k m (by omega)]
theorem ev_now {α : Type} {g : Nat → Option α} {r : α} (h : ∃ K, ∀ k, K ≤ k → g (k + 1) = some r) : Ev g r := ev_step (f := fun _ => some r) h (Ev.now r)
theorem ev_same {α : Type} {g f : Nat → Option α} {r : α} (h : ∃ K, ∀ k, K ≤ k → g k = f k) (k : Ev f r) : Ev g r := by
  obtain ⟨K, h⟩ := h
  obtain ⟨K', k⟩ := k
  exact ⟨max K K', fun n hn => by rw [h n (by omega), k n (by omega)]⟩
theorem ev_two {α β : Type} {g : Nat → Option α} {f : Nat → Option β} {r : α} {q : β} (h : Ev g r) (k : Ev f q) : ∃ K, ∀ n, K ≤ n → g n = some r ∧ f n = some q := by
  obtain ⟨K, h⟩ := h
  obtain ⟨K', k⟩ := k
  exact ⟨max K K', fun n hn => ⟨h n (by omega), k n (by omega)⟩⟩
theorem ev_mk {α : Type} {g : Nat → Option α} {r : α} (K : Nat) (h : ∀ k, K ≤ k → g k = some r) : Ev g r := ⟨K, h⟩
theorem ev_at {α : Type} {g : Nat → Option α} {r : α} (h : Ev g r) : ∃ K, ∀ k, K ≤ k → g k = some r := h
/-- A loop that counts up to n: from the end back. -/
theorem count_loop {ρ : Type} (n : Nat) (L : Nat → Int → Option ρ) (Post : Nat → ρ → Prop) (hend : ∃ r, Post n r ∧ Ev (fun k => L k (n : Int)) r)
    (hstep : ∀ j, j < n → ∀ r, Post (j + 1) r → Ev (fun k => L k ((j + 1 : Nat) : Int)) r → ∃ r', Post j r' ∧ Ev (fun k => L k (j : Int)) r') :
    ∀ j, j ≤ n → ∃ r, Post j r ∧ Ev (fun k => L k (j : Int)) r := by
  have key : ∀ d j, j ≤ n → n - j = d → ∃ r, Post j r ∧ Ev (fun k => L k (j : Int)) r := by
    intro d
    induction d with
    | zero => intro j hj hd; obtain rfl : j = n := by omega
              exact hend
    | succ d ih =>
      intro j hj hd
      obtain ⟨r, hp, he⟩ := ih (j + 1) (by omega) (by omega)
      exact hstep j (by omega) r hp he
  intro j hj
  exact key _ j hj rfl
/-- A loop that carries a state up to n. -/
theorem state_loop {σ ρ : Type} (n : Nat) (L : Nat → σ → Int → Option ρ) (Inv : Nat → σ → Prop) (Post : Nat → σ → ρ → Prop) (hend : ∀ s, Inv n s → ∃ r, Post n s r ∧ Ev (fun k => L k s (n : Int)) r)
    (hstep : ∀ j s, j < n → Inv j s → (∃ r, Post j s r ∧ Ev (fun k => L k s (j : Int)) r) ∨ ∃ s', Inv (j + 1) s' ∧ (∀ r, Post (j + 1) s' r → Post j s r) ∧ ∃ K, ∀ k, K ≤ k → L (k + 1) s (j : Int) = L k s' ((j + 1 : Nat) : Int)) :
    ∀ j s, j ≤ n → Inv j s → ∃ r, Post j s r ∧ Ev (fun k => L k s (j : Int)) r := by
  have key : ∀ d j s, j ≤ n → n - j = d → Inv j s → ∃ r, Post j s r ∧ Ev (fun k => L k s (j : Int)) r := by
    intro d
    induction d with
    | zero => intro j s hj hd hi; obtain rfl : j = n := by omega
              exact hend s hi
    | succ d ih =>
      intro j s hj hd hi
      rcases hstep j s (by omega) hi with h | ⟨s', hi', hp, hk⟩
      · exact h
      · obtain ⟨r, hr, he⟩ := ih (j + 1) s' (by omega) (by omega) hi'
        exact ⟨r, hp r hr, ev_step hk he⟩
  intro j s hj hi
  exact key _ j s hj rfl hi
/-- A loop that fills a row of its own. -/
theorem fill_loop {α β : Type} (xs : List α) (z : α) (g : α → β) (L : Nat → List β → Int → Option (List β)) (hend : ∀ y : List β, y.length = xs.length → ∃ K, ∀ k, K ≤ k → L (k + 1) y (xs.length : Int) = some y)
    (hstep : ∀ (j : Nat) (y : List β), j < xs.length → y.length = xs.length → ∃ K, ∀ k, K ≤ k → L (k + 1) y (j : Int) = L k (y.set j (g (xs.getD j z))) ((j + 1 : Nat) : Int)) (y : List β) (hy : y.length = xs.length) :
    Ev (fun k => L k y 0) (xs.map g) := by
  obtain ⟨r, hr, he⟩ := state_loop xs.length L (fun j y => y.length = xs.length ∧ ∀ i, i < j → y[i]? = (xs.map g)[i]?) (fun _ _ r => r = xs.map g) (fun y hi => ⟨y, List.ext_getElem? fun i => by
      by_cases hi' : i < xs.length
      · exact hi.2 i hi'
      · rw [List.getElem?_eq_none (by omega), List.getElem?_eq_none (by simp; omega)], ev_now (hend y hi.1)⟩) (fun j y hj hi => .inr ⟨_, ⟨by simp [hi.1], fun i hij => by
      by_cases he : i = j
      · subst he
        rw [List.getElem?_set_self (by omega)]
        simp [List.getD_eq_getElem?_getD, List.getElem?_eq_getElem hj]
      · rw [List.getElem?_set_ne (by omega)]
        exact hi.2 i (by omega)⟩, fun r h => h, hstep j y hj hi.1⟩) 0 y (by omega) ⟨hy, fun i hi => by omega⟩
  subst hr
  exact he
theorem spec_in (a b c : Int) : spec_l01In.f a b c = some (decide (b ≤ a ∧ a ≤ c)) := by
  unfold spec_l01In.f
  by_cases h : b ≤ a
  · rw [if_pos h]; simp [h]
  · rw [if_neg h]; simp [h]
theorem impl_in (a b c : Int) : impl_within.f a b c = some (decide (b ≤ a ∧ a ≤ c)) := spec_in a b c
/-- A letter or _; a digit. -/
def isL (b : Int) : Bool := decide (97 ≤ b ∧ b ≤ 122 ∨ 65 ≤ b ∧ b ≤ 90 ∨ b = 95)
def isD (b : Int) : Bool := decide (48 ≤ b ∧ b ≤ 57)
/-- What a name is. -/
def IsName (s : ByteArray) : Prop := 1 ≤ s.size ∧ s.size ≤ 40 ∧ isL (bt s 0) = true ∧ ∀ i : Int, 1 ≤ i → i < s.size → isL (bt s i) = true ∨ isD (bt s i) = true
theorem beq95 (b : Int) (h : ¬ (97 ≤ b ∧ b ≤ 122)) (h' : ¬ (65 ≤ b ∧ b ≤ 90)) : (b == 95) = isL b := by
  unfold isL
  by_cases e : b = 95
  · subst e; rfl
  · rw [beq_eq_false_iff_ne.mpr e]; symm; simp only [decide_eq_false_iff_not]; omega
theorem impl_letter (b : Int) : impl_isLetter.f b = some (isL b) := by
  unfold impl_isLetter.f
  by_cases h1 : b ≥ 97 <;> by_cases h2 : b ≤ 122 <;> by_cases h3 : b ≥ 65 <;> by_cases h4 : b ≤ 90 <;> simp only [h1, h2, h3, h4, if_true, if_false, Option.some.injEq] <;>
    first | exact beq95 b (by omega) (by omega) | (symm; unfold isL; simp only [decide_eq_true_eq]; omega)
theorem spec_letter (b : Int) : spec_l00Letter.f b = some (isL b) := impl_letter b
theorem impl_digit (b : Int) : impl_isDigit.f b = some (isD b) := by
  unfold impl_isDigit.f isD
  by_cases h1 : b ≥ 48
  · rw [if_pos h1]; simp only [Option.some.injEq, decide_eq_decide]; omega
  · rw [if_neg h1]; simp only [Option.some.injEq]; symm; rw [decide_eq_false_iff_not]; omega
theorem spec_digit (b : Int) : spec_l00Digit.f b = some (isD b) := impl_digit b
/-- The reference's loop, from i on. -/
theorem spec_word_from (s : ByteArray) (hn : s.size ≤ 1048576) (d : Nat) : ∀ (k : Nat) (i : Int), 0 ≤ i → i ≤ s.size → (s.size : Int) - i = d → d < k →
    ∃ r, spec_l00Word.l0 k s i = some r ∧ (r = true ↔ ∀ j : Int, i ≤ j → j < s.size → isL (bt s j) = true ∨ isD (bt s j) = true) := by
  induction d with
  | zero =>
    intro k i h0 h1 hd hk
    obtain ⟨k, rfl⟩ : ∃ m, k = m + 1 := ⟨k - 1, by omega⟩
    refine ⟨true, ?_, ⟨fun _ j h2 h3 => by omega, fun _ => rfl⟩⟩
    simp only [spec_l00Word.l0]; rw [if_neg (by omega)]
  | succ d ih =>
    intro k i h0 h1 hd hk
    obtain ⟨k, rfl⟩ : ∃ m, k = m + 1 := ⟨k - 1, by omega⟩
    have hw : wrap64 (i + 1) = i + 1 := by unfold wrap64; omega
    obtain ⟨r, e, hr⟩ := ih k (i + 1) (by omega) (by omega) (by omega) (by omega)
    have step : (isL (bt s i) = true ∨ isD (bt s i) = true) → (r = true ↔ ∀ j : Int, i ≤ j → j < s.size → isL (bt s j) = true ∨ isD (bt s j) = true) := by
      intro hh
      rw [hr]
      constructor
      · intro h j h2 h3
        rcases Int.lt_or_eq_of_le h2 with h4 | h4
        · exact h j (by omega) h3
        · rw [← h4]; exact hh
      · intro h j h2 h3; exact h j (by omega) h3
    simp only [spec_l00Word.l0]; rw [if_pos (by omega), if_pos h0, spec_letter]; simp only [Option.bind_some]
    by_cases hl : isL (bt s i) = true
    · rw [if_pos hl, hw]; exact ⟨r, e, step (.inl hl)⟩
    · rw [if_neg hl, spec_digit]; simp only [Option.bind_some]
      by_cases hdg : isD (bt s i) = true
      · rw [if_pos hdg, hw]; exact ⟨r, e, step (.inr hdg)⟩
      · rw [if_neg hdg]
        exact ⟨false, rfl, ⟨fun h => (by cases h), fun h => absurd (h i (Int.le_refl _) (by omega)) (fun h => h.elim hl hdg)⟩⟩
theorem spec_name (s : ByteArray) (hn : s.size ≤ 1048576) : ∃ r, (∀ k, s.size + 1 < k → spec_NameOK.f k s = some r) ∧ (r = true ↔ IsName s) := by
  by_cases h1 : (s.size : Int) < 1
  · refine ⟨false, fun k hk => ?_, ⟨fun h => (by cases h), fun h => absurd h.1 (by omega)⟩⟩
    obtain ⟨k, rfl⟩ : ∃ m, k = m + 1 := ⟨k - 1, by omega⟩
    unfold spec_NameOK.f spec_l00Word.f
    rw [if_pos h1]; rfl
  · by_cases h2 : (s.size : Int) > 40
    · refine ⟨false, fun k hk => ?_, ⟨fun h => (by cases h), fun h => absurd h.2.1 (by omega)⟩⟩
      obtain ⟨k, rfl⟩ : ∃ m, k = m + 1 := ⟨k - 1, by omega⟩
      unfold spec_NameOK.f spec_l00Word.f
      rw [if_neg h1, if_pos h2]; rfl
    · by_cases hl : isL (bt s 0) = true
      · obtain ⟨r, _, hr⟩ := spec_word_from s hn (s.size - 1) (s.size + 1) 1 (by omega) (by omega) (by omega) (by omega)
        refine ⟨r, fun k hk => ?_, ?_⟩
        · obtain ⟨k, rfl⟩ : ∃ m, k = m + 1 := ⟨k - 1, by omega⟩
          obtain ⟨r', e', hr'⟩ := spec_word_from s hn (s.size - 1) k 1 (by omega) (by omega) (by omega) (by omega)
          have : r' = r := by rw [Bool.eq_iff_iff, hr, hr']
          subst this
          unfold spec_NameOK.f spec_l00Word.f
          rw [if_neg h1, if_neg h2, if_pos (by omega), spec_letter]; simp only [Option.bind_some, hl, Bool.not_true, spec_l00Word.j0]
          rw [if_neg (by simp), e']; rfl
        · rw [hr]; exact ⟨fun h => ⟨by omega, by omega, hl, h⟩, fun h => h.2.2.2⟩
      · refine ⟨false, fun k hk => ?_, ⟨fun h => (by cases h), fun h => absurd h.2.2.1 hl⟩⟩
        obtain ⟨k, rfl⟩ : ∃ m, k = m + 1 := ⟨k - 1, by omega⟩
        unfold spec_NameOK.f spec_l00Word.f
        rw [if_neg h1, if_neg h2, if_pos (by omega), spec_letter]; simp only [Option.bind_some]
        have : isL (bt s 0) = false := by simpa using hl
        rw [this]; rfl
/-- The program's loop, from i on. -/
theorem impl_name_from (s : ByteArray) (hn : s.size ≤ 1048576) (d : Nat) : ∀ (k : Nat) (i : Int), 0 ≤ i → i ≤ s.size → (s.size : Int) - i = d → d < k →
    ∃ r, impl_NameOK.l0 k s s.size i = some r ∧ (r = true ↔ (1 ≤ s.size ∧ s.size ≤ 40) ∧ ∀ j : Int, i ≤ j → j < s.size → isL (bt s j) = true ∨ j ≠ 0 ∧ isD (bt s j) = true) := by
  induction d with
  | zero =>
    intro k i h0 h1 hd hk
    obtain ⟨k, rfl⟩ : ∃ m, k = m + 1 := ⟨k - 1, by omega⟩
    simp only [impl_NameOK.l0]; rw [if_neg (by omega)]
    unfold impl_within.f
    by_cases h2 : (s.size : Int) ≥ 1
    · rw [if_pos h2]
      refine ⟨_, rfl, ?_⟩
      simp only [decide_eq_true_eq]
      exact ⟨fun h => ⟨⟨by omega, by omega⟩, fun j _ _ => by omega⟩, fun h => by omega⟩
    · rw [if_neg h2]
      refine ⟨_, rfl, ?_⟩
      exact ⟨fun h => by simp at h, fun h => by omega⟩
  | succ d ih =>
    intro k i h0 h1 hd hk
    obtain ⟨k, rfl⟩ : ∃ m, k = m + 1 := ⟨k - 1, by omega⟩
    have hw : wrap64 (i + 1) = i + 1 := by unfold wrap64; omega
    obtain ⟨r, e, hr⟩ := ih k (i + 1) (by omega) (by omega) (by omega) (by omega)
    have step : (isL (bt s i) = true ∨ i ≠ 0 ∧ isD (bt s i) = true) → (r = true ↔ (1 ≤ s.size ∧ s.size ≤ 40) ∧ ∀ j : Int, i ≤ j → j < s.size → isL (bt s j) = true ∨ j ≠ 0 ∧ isD (bt s j) = true) := by
      intro hh
      rw [hr]
      constructor
      · intro ⟨h', h⟩
        refine ⟨h', fun j h2 h3 => ?_⟩
        rcases Int.lt_or_eq_of_le h2 with h4 | h4
        · exact h j (by omega) h3
        · rw [← h4]; exact hh
      · intro ⟨h', h⟩; exact ⟨h', fun j h2 h3 => h j (by omega) h3⟩
    simp only [impl_NameOK.l0]; rw [if_pos (by omega), if_pos h0, if_pos (by omega), impl_letter]; simp only [Option.bind_some]
    by_cases hl : isL (bt s i) = true
    · rw [if_pos hl, hw]; exact ⟨r, e, step (.inl hl)⟩
    · rw [if_neg hl]
      by_cases hz : i = 0
      · rw [if_pos hz]
        exact ⟨false, rfl, ⟨fun h => (by cases h), fun h => absurd (h.2 i (Int.le_refl _) (by omega)) (fun h => h.elim hl (fun h => h.1 hz))⟩⟩
      · rw [if_neg hz, impl_digit]; simp only [Option.bind_some]
        by_cases hdg : isD (bt s i) = true
        · rw [if_pos hdg, hw]; exact ⟨r, e, step (.inr ⟨hz, hdg⟩)⟩
        · rw [if_neg hdg]
          exact ⟨false, rfl, ⟨fun h => (by cases h), fun h => absurd (h.2 i (Int.le_refl _) (by omega)) (fun h => h.elim hl (fun h => hdg h.2))⟩⟩
theorem impl_name (s : ByteArray) (hn : s.size ≤ 1048576) : ∃ r, (∀ k, s.size + 1 < k → impl_NameOK.f k s = some r) ∧ (r = true ↔ IsName s) := by
  obtain ⟨r, _, hr⟩ := impl_name_from s hn s.size (s.size + 1) 0 (by omega) (by omega) (by omega) (by omega)
  refine ⟨r, fun k hk => ?_, ?_⟩
  · obtain ⟨r', e', hr'⟩ := impl_name_from s hn s.size k 0 (by omega) (by omega) (by omega) (by omega)
    have : r' = r := by rw [Bool.eq_iff_iff, hr, hr']
    subst this
    exact e'
  · rw [hr]
    constructor
    · rintro ⟨⟨h1, h2⟩, h⟩
      refine ⟨h1, h2, ?_, fun j hj hj' => ?_⟩
      · have := h 0 (by omega) (by omega)
        simpa using this
      · rcases h j (by omega) hj' with h | h
        · exact .inl h
        · exact .inr h.2
    · rintro ⟨h1, h2, h3, h⟩
      refine ⟨⟨h1, h2⟩, fun j hj hj' => ?_⟩
      by_cases hz : j = 0
      · subst hz; exact .inl h3
      · rcases h j (by omega) hj' with h | h
        · exact .inl h
        · exact .inr ⟨hz, h⟩
/-- Both say the same. -/
theorem names_agree (s : ByteArray) (hn : s.size ≤ 1048576) : ∃ r, (∀ k, s.size + 1 < k → spec_NameOK.f k s = some r ∧ impl_NameOK.f k s = some r) ∧ (r = true ↔ IsName s) := by
  obtain ⟨r, e, hr⟩ := spec_name s hn
  obtain ⟨r', e', hr'⟩ := impl_name s hn
  have : r' = r := by rw [Bool.eq_iff_iff, hr, hr']
  subst this
  exact ⟨r', fun k hk => ⟨e k hk, e' k hk⟩, hr⟩
theorem names_ev (s : ByteArray) (hn : s.size ≤ 1048576) : ∃ r, Ev (fun k => spec_NameOK.f k s) r ∧ Ev (fun k => impl_NameOK.f k s) r ∧ (r = true ↔ IsName s) := by
  obtain ⟨r, h, hr⟩ := names_agree s hn
  exact ⟨r, ev_mk (s.size + 2) (fun k hk => (h k (by omega)).1), ev_mk (s.size + 2) (fun k hk => (h k (by omega)).2), hr⟩
end Go.Proofs.Ytoogmlghfljeiaa.Pure2
namespace Go.Proofs.Ytoogmlghfljeiaa.Pure2
open Go.RowKit Go.Proofs.Ytoogmlghfljeiaa.Q Go.Proofs.YtoogmlghfljeiaaW.PrintWords Go.Proofs.YtoogmlghfljeiaaW.PrintLast
set_option linter.unusedVariables false
set_option linter.unusedSimpArgs false
/-! schemas -/
theorem getD_mem {α : Type} (l : List α) (z : α) (j : Nat) (h : j < l.length) : l.getD j z ∈ l := by rw [List.getD_eq_getElem?_getD, List.getElem?_eq_getElem h]; exact List.getElem_mem h
theorem wsub (a : Int) (n : Nat) (h0 : 0 ≤ a) (h1 : a ≤ 1048576) (hn : n ≤ 9223372036854775807) : wrap64 (a - (n : Int)) = a - (n : Int) := by unfold wrap64; omega
theorem sz_loop {α : Type} (l : List α) (z : α) (P : α → Prop) (a : Int) (h0 : 0 ≤ a) (L : Nat → Int → Int → Option Int) (hend : ∀ k s, L (k + 1) s (l.length : Int) = some s)
    (hx : ∀ j, j < l.length → ∀ s, 0 ≤ s → s ≤ a → ∃ t, (t < 0 ∨ 0 ≤ t ∧ t ≤ s ∧ P (l.getD j z)) ∧ ∃ K, ∀ k, K ≤ k → L (k + 1) s (j : Int) = if t < 0 then some (-1) else L k t ((j + 1 : Nat) : Int)) :
    ∃ r, Ev (fun k => L k a 0) r ∧ (r < 0 ∨ 0 ≤ r ∧ r ≤ a ∧ ∀ x ∈ l, P x) := by
  obtain ⟨r, hr, he⟩ := state_loop l.length L (fun j s => 0 ≤ s ∧ s ≤ a ∧ ∀ i, i < j → P (l.getD i z)) (fun _ _ r => r < 0 ∨ 0 ≤ r ∧ r ≤ a ∧ ∀ i, i < l.length → P (l.getD i z))
    (fun s hi => ⟨s, .inr hi, ev_now ⟨0, fun k _ => hend k s⟩⟩)
    (fun j s hj hi => by
      obtain ⟨t, ht, K, hk⟩ := hx j hj s hi.1 hi.2.1
      rcases ht with ht | ⟨t0, t1, t2⟩
      · exact .inl ⟨-1, .inl (by omega), ev_now ⟨K, fun k h => by rw [hk k h, if_pos ht]⟩⟩
      · refine .inr ⟨t, ⟨t0, by omega, fun i hij => ?_⟩, fun r h => h, K, fun k h => by rw [hk k h, if_neg (by omega)]⟩
        rcases Nat.lt_or_eq_of_le (Nat.le_of_lt_succ hij) with h' | rfl
        · exact hi.2.2 i h'
        · exact t2) 0 a (by omega) ⟨h0, by omega, fun i hi => by omega⟩
  refine ⟨r, he, ?_⟩
  rcases hr with hr | ⟨h2, h3, h4⟩
  · exact .inl hr
  · refine .inr ⟨h2, h3, fun x hx' => ?_⟩
    obtain ⟨i, hi, rfl⟩ := List.getElem_of_mem hx'
    have := h4 i hi
    rw [List.getD_eq_getElem?_getD, List.getElem?_eq_getElem hi] at this
    exact this
def SmA (x : S106) : Prop := x.f0.size ≤ 1048576
def SmF (x : S101) : Prop := x.f0.size ≤ 1048576 ∧ x.f2.size ≤ 1048576 ∧ x.f1.length ≤ 1048576 ∧ ∀ y ∈ x.f1, SmA y
def SmT (x : S77) : Prop := x.f0.size ≤ 1048576 ∧ x.f1.length ≤ 1048576 ∧ ∀ y ∈ x.f1, SmF y
def SmS (l : List S77) : Prop := l.length ≤ 1048576 ∧ ∀ y ∈ l, SmT y
theorem sz_args (l : List S106) (a : Int) (h0 : 0 ≤ a) (h1 : a ≤ 1048576) (hl : l.length ≤ 9223372036854775807) (hx : ∀ x ∈ l, i106 x) :
    ∃ r, Ev (fun k => laws_szArgDefS.f k l a) r ∧ (r < 0 ∨ 0 ≤ r ∧ r ≤ a ∧ l.length ≤ 1048576 ∧ ∀ x ∈ l, SmA x) := by
  have hw := wsub a l.length h0 h1 hl
  by_cases h : a - (l.length : Int) < 0
  · exact ⟨-1, ev_mk 0 (fun k _ => by unfold laws_szArgDefS.f; rw [hw, if_pos h]), .inl (by omega)⟩
  · obtain ⟨r, he, hr⟩ := sz_loop l z106 SmA (a - l.length) (by omega) (fun k s i => laws_szArgDefS.l0 k l s i) (fun k s => by simp only [laws_szArgDefS.l0]; rw [if_neg (by omega)]) (fun j hj s s0 s1 => by
      have hi := hx _ (getD_mem l z106 j hj)
      have hw' := wsub s (l.getD j z106).f0.size s0 (by omega) hi.1
      have hrd : rd_T106 l (j : Int) = l.getD j z106 := rfl
      by_cases h2 : s - ((l.getD j z106).f0.size : Int) < 0
      · exact ⟨-1, .inl (by omega), 0, fun k _ => by simp only [laws_szArgDefS.l0, laws_szArgDef.f]; rw [if_pos (by omega), if_pos (by omega), hrd, hw', if_pos h2, Option.bind_some, if_pos (by omega), if_pos (by omega)]⟩
      · refine ⟨s - ((l.getD j z106).f0.size : Int), .inr ⟨by omega, by omega, ?_⟩, 0, fun k _ => by simp only [laws_szArgDefS.l0, laws_szArgDef.f]; rw [if_pos (by omega), if_pos (by omega), hrd, hw', if_neg h2, Option.bind_some, if_neg (by omega), if_neg (by omega), wsucc hj (by omega)]⟩
        show (l.getD j z106).f0.size ≤ 1048576
        omega)
    refine ⟨r, ev_same ⟨0, fun k _ => by unfold laws_szArgDefS.f; rw [hw, if_neg h]⟩ he, ?_⟩
    rcases hr with hr | ⟨h2, h3, h4⟩
    · exact .inl hr
    · exact .inr ⟨h2, by omega, by omega, h4⟩
theorem sz_field (x : S101) (a : Int) (h0 : 0 ≤ a) (h1 : a ≤ 1048576) (hi : i101 x) :
    ∃ r, Ev (fun k => laws_szFieldDef.f k x.f0 x.f1 x.f2 x.f3 x.f4 a) r ∧ (r < 0 ∨ 0 ≤ r ∧ r ≤ a ∧ SmF x) := by
  have hw := wsub a x.f0.size h0 h1 hi.1
  by_cases h : a - (x.f0.size : Int) < 0
  · exact ⟨-1, ev_mk 0 (fun k _ => by unfold laws_szFieldDef.f; rw [hw, if_pos h]), .inl (by omega)⟩
  · obtain ⟨r, he, hr⟩ := sz_args x.f1 (a - (x.f0.size : Int)) (by omega) (by omega) hi.2.1.1 hi.2.1.2
    obtain ⟨K, hk⟩ := ev_at he
    rcases hr with hr | ⟨h2, h3, h4⟩
    · exact ⟨-1, ev_mk K (fun k hq => by unfold laws_szFieldDef.f; rw [hw, if_neg h, hk k hq, Option.bind_some, if_pos hr]), .inl (by omega)⟩
    · have hw' := wsub r x.f2.size h2 (by omega) hi.2.2.1
      by_cases h5 : r - (x.f2.size : Int) < 0
      · exact ⟨-1, ev_mk K (fun k hq => by unfold laws_szFieldDef.f; rw [hw, if_neg h, hk k hq, Option.bind_some, if_neg (by omega), hw', if_pos h5]), .inl (by omega)⟩
      · exact ⟨r - (x.f2.size : Int), ev_mk K (fun k hq => by unfold laws_szFieldDef.f; rw [hw, if_neg h, hk k hq, Option.bind_some, if_neg (by omega), hw', if_neg h5]), .inr ⟨by omega, by omega, by omega, by omega, h4⟩⟩
theorem sz_fields (l : List S101) (a : Int) (h0 : 0 ≤ a) (h1 : a ≤ 1048576) (hl : l.length ≤ 9223372036854775807) (hx : ∀ x ∈ l, i101 x) :
    ∃ r, Ev (fun k => laws_szFieldDefS.f k l a) r ∧ (r < 0 ∨ 0 ≤ r ∧ r ≤ a ∧ l.length ≤ 1048576 ∧ ∀ x ∈ l, SmF x) := by
  have hw := wsub a l.length h0 h1 hl
  by_cases h : a - (l.length : Int) < 0
  · exact ⟨-1, ev_mk 0 (fun k _ => by unfold laws_szFieldDefS.f; rw [hw, if_pos h]), .inl (by omega)⟩
  · obtain ⟨r, he, hr⟩ := sz_loop l z101 SmF (a - l.length) (by omega) (fun k s i => laws_szFieldDefS.l0 k l s i) (fun k s => by simp only [laws_szFieldDefS.l0]; rw [if_neg (by omega)]) (fun j hj s s0 s1 => by
      obtain ⟨t, te, ht⟩ := sz_field (l.getD j z101) s s0 (by omega) (hx _ (getD_mem l z101 j hj))
      obtain ⟨K, hk⟩ := ev_at te
      have hrd : rd_T101 l (j : Int) = l.getD j z101 := rfl
      exact ⟨t, ht, K, fun k hq => by simp only [laws_szFieldDefS.l0]; rw [if_pos (by omega), if_pos (by omega), hrd, hk k hq, Option.bind_some, wsucc hj (by omega)]⟩)
    refine ⟨r, ev_same ⟨0, fun k _ => by unfold laws_szFieldDefS.f; rw [hw, if_neg h]⟩ he, ?_⟩
    rcases hr with hr | ⟨h2, h3, h4⟩
    · exact .inl hr
    · exact .inr ⟨h2, by omega, by omega, h4⟩
theorem sz_type (x : S77) (a : Int) (h0 : 0 ≤ a) (h1 : a ≤ 1048576) (hi : i77 x) :
    ∃ r, Ev (fun k => laws_szTypeDef.f k x.f0 x.f1 a) r ∧ (r < 0 ∨ 0 ≤ r ∧ r ≤ a ∧ SmT x) := by
  have hw := wsub a x.f0.size h0 h1 hi.1
  by_cases h : a - (x.f0.size : Int) < 0
  · exact ⟨-1, ev_mk 0 (fun k _ => by unfold laws_szTypeDef.f; rw [hw, if_pos h]), .inl (by omega)⟩
  · obtain ⟨r, he, hr⟩ := sz_fields x.f1 (a - (x.f0.size : Int)) (by omega) (by omega) hi.2.1 hi.2.2
    obtain ⟨K, hk⟩ := ev_at he
    rcases hr with hr | ⟨h2, h3, h4⟩
    · exact ⟨-1, ev_mk K (fun k hq => by unfold laws_szTypeDef.f; rw [hw, if_neg h, hk k hq, Option.bind_some, if_pos hr]), .inl (by omega)⟩
    · exact ⟨r, ev_mk K (fun k hq => by unfold laws_szTypeDef.f; rw [hw, if_neg h, hk k hq, Option.bind_some, if_neg (by omega)]), .inr ⟨h2, by omega, by omega, h4⟩⟩
theorem sz_schema (l : List S77) (a : Int) (h0 : 0 ≤ a) (h1 : a ≤ 1048576) (hl : l.length ≤ 9223372036854775807) (hx : ∀ x ∈ l, i77 x) :
    ∃ r, Ev (fun k => laws_szSchema.f k l a) r ∧ (r < 0 ∨ 0 ≤ r ∧ r ≤ a ∧ SmS l) := by
  have hw := wsub a l.length h0 h1 hl
  by_cases h : a - (l.length : Int) < 0
  · exact ⟨-1, ev_mk 0 (fun k _ => by unfold laws_szSchema.f laws_szTypeDefS.f; rw [hw, if_pos h]; rfl), .inl (by omega)⟩
  · obtain ⟨r, he, hr⟩ := sz_loop l z77 SmT (a - l.length) (by omega) (fun k s i => laws_szTypeDefS.l0 k l s i) (fun k s => by simp only [laws_szTypeDefS.l0]; rw [if_neg (by omega)]) (fun j hj s s0 s1 => by
      obtain ⟨t, te, ht⟩ := sz_type (l.getD j z77) s s0 (by omega) (hx _ (getD_mem l z77 j hj))
      obtain ⟨K, hk⟩ := ev_at te
      have hrd : rd_T77 l (j : Int) = l.getD j z77 := rfl
      exact ⟨t, ht, K, fun k hq => by simp only [laws_szTypeDefS.l0]; rw [if_pos (by omega), if_pos (by omega), hrd, hk k hq, Option.bind_some, wsucc hj (by omega)]⟩)
    obtain ⟨K, hk⟩ := ev_at he
    rcases hr with hr | ⟨h2, h3, h4⟩
    · exact ⟨-1, ev_mk K (fun k hq => by unfold laws_szSchema.f laws_szTypeDefS.f; rw [hw, if_neg h, hk k hq, Option.bind_some, if_pos hr]), .inl (by omega)⟩
    · exact ⟨r, ev_mk K (fun k hq => by unfold laws_szSchema.f laws_szTypeDefS.f; rw [hw, if_neg h, hk k hq, Option.bind_some, if_neg (by omega)]), .inr ⟨h2, by omega, by omega, h4⟩⟩
def cvA (x : S106) : S57 := ⟨x.f0, x.f1⟩
def cvF (x : S101) : S38 := ⟨x.f0, x.f1.map cvA, x.f2, x.f3, x.f4⟩
def cvT (x : S77) : S53 := ⟨x.f0, x.f1.map cvF⟩
theorem to_args (l : List S106) (hl : l.length ≤ 1048576) : Ev (fun k => laws_toArgDefS.f k l) (l.map cvA) := by
  have h := fill_loop l z106 cvA (fun k y i => laws_toArgDefS.l0 k l y i) (fun y hy => ⟨0, fun k _ => by simp only [laws_toArgDefS.l0]; rw [if_neg (by omega)]⟩)
    (fun j y hj hy => ⟨0, fun k _ => by
      simp only [laws_toArgDefS.l0, laws_toArgDef.f]; rw [if_pos (by omega), if_pos (by omega), Option.bind_some, if_pos (by omega), wsucc hj (by omega)]; rfl⟩) (List.replicate l.length z57) (by simp)
  refine ev_same ⟨0, fun k _ => ?_⟩ h
  unfold laws_toArgDefS.f
  rw [if_pos (by omega), if_pos (by simp; omega), Int.toNat_natCast]
theorem to_fields (l : List S101) (hl : l.length ≤ 1048576) (hx : ∀ x ∈ l, SmF x) : Ev (fun k => laws_toFieldDefS.f k l) (l.map cvF) := by
  have h := fill_loop l z101 cvF (fun k y i => laws_toFieldDefS.l0 k l y i) (fun y hy => ⟨0, fun k _ => by simp only [laws_toFieldDefS.l0]; rw [if_neg (by omega)]⟩)
    (fun j y hj hy => by
      obtain ⟨K, hk⟩ := ev_at (to_args (l.getD j z101).f1 (hx _ (getD_mem l z101 j hj)).2.2.1)
      have hrd : rd_T101 l (j : Int) = l.getD j z101 := rfl
      exact ⟨K, fun k hq => by
        simp only [laws_toFieldDefS.l0, laws_toFieldDef.f]; rw [if_pos (by omega), if_pos (by omega), hrd, hk k hq, Option.bind_some, Option.bind_some, if_pos (by omega), wsucc hj (by omega)]; rfl⟩) (List.replicate l.length z38) (by simp)
  refine ev_same ⟨0, fun k _ => ?_⟩ h
  unfold laws_toFieldDefS.f
  rw [if_pos (by omega), if_pos (by simp; omega), Int.toNat_natCast]
theorem to_schema (l : List S77) (hl : SmS l) : Ev (fun k => laws_toSchema.f k l) (l.map cvT) := by
  obtain ⟨hl, hx⟩ := hl
  have h := fill_loop l z77 cvT (fun k y i => laws_toTypeDefS.l0 k l y i) (fun y hy => ⟨0, fun k _ => by simp only [laws_toTypeDefS.l0]; rw [if_neg (by omega)]⟩)
    (fun j y hj hy => by
      have hm := hx _ (getD_mem l z77 j hj)
      obtain ⟨K, hk⟩ := ev_at (to_fields (l.getD j z77).f1 hm.2.1 hm.2.2)
      have hrd : rd_T77 l (j : Int) = l.getD j z77 := rfl
      exact ⟨K, fun k hq => by
        simp only [laws_toTypeDefS.l0, laws_toTypeDef.f]; rw [if_pos (by omega), if_pos (by omega), hrd, hk k hq, Option.bind_some, Option.bind_some, if_pos (by omega), wsucc hj (by omega)]; rfl⟩) (List.replicate l.length z53) (by simp)
  obtain ⟨K, hk⟩ := ev_at h
  refine ev_mk K fun k hq => ?_
  unfold laws_toSchema.f laws_toTypeDefS.f
  rw [if_pos (by omega), if_pos (by simp; omega), Int.toNat_natCast, hk k hq]
  rfl
theorem eq_loop {α : Type} (n : Nat) (L : Nat → Int → Option Bool) (hend : ∀ k, L (k + 1) (n : Int) = some true) (hs : ∀ j, j < n → ∃ K, ∀ k, K ≤ k → L (k + 1) (j : Int) = L k ((j + 1 : Nat) : Int)) : Ev (fun k => L k 0) true := by
  obtain ⟨r, hr, he⟩ := count_loop n L (fun _ r => r = true) ⟨true, rfl, ev_now ⟨0, fun k _ => hend k⟩⟩ (fun j hj r hr he => ⟨r, hr, ev_step (hs j hj) he⟩) 0 (by omega)
  subst hr
  exact he
theorem eq_args (l : List S57) (hl : l.length ≤ 1048576) : Ev (fun k => laws_eqArgDefS.f k l l) true := by
  refine ev_same ⟨0, fun k _ => by unfold laws_eqArgDefS.f; rw [if_pos rfl]⟩ (eq_loop (α := Unit) l.length (fun k i => laws_eqArgDefS.l0 k l l i) (fun k => by simp only [laws_eqArgDefS.l0]; rw [if_neg (by omega)]) fun j hj => ⟨0, fun k _ => ?_⟩)
  simp only [laws_eqArgDefS.l0, laws_eqArgDef.f, bne_self_eq_false]; rw [if_pos (by omega), if_pos (by omega), if_pos (by omega), if_pos trivial, if_neg (by simp), Option.bind_some, if_pos rfl, wsucc hj (by omega)]
theorem eq_fields (l : List S38) (hl : l.length ≤ 1048576) (hx : ∀ x ∈ l, x.f1.length ≤ 1048576) : Ev (fun k => laws_eqFieldDefS.f k l l) true := by
  refine ev_same ⟨0, fun k _ => by unfold laws_eqFieldDefS.f; rw [if_pos rfl]⟩ (eq_loop (α := Unit) l.length (fun k i => laws_eqFieldDefS.l0 k l l i) (fun k => by simp only [laws_eqFieldDefS.l0]; rw [if_neg (by omega)]) fun j hj => ?_)
  obtain ⟨K, hk⟩ := ev_at (eq_args (l.getD j z38).f1 (hx _ (getD_mem l z38 j hj)))
  have hrd : rd_T38 l (j : Int) = l.getD j z38 := rfl
  refine ⟨K, fun k hq => ?_⟩
  simp only [laws_eqFieldDefS.l0, laws_eqFieldDef.f, bne_self_eq_false]; rw [if_pos (by omega), if_pos (by omega), if_pos (by omega), if_pos trivial, hrd, hk k hq, Option.bind_some, if_pos rfl, if_pos trivial, if_neg (by simp), if_neg (by simp), Option.bind_some, if_pos rfl, wsucc hj (by omega)]
theorem eq_schema (l : List S53) (hl : l.length ≤ 1048576) (hx : ∀ x ∈ l, x.f1.length ≤ 1048576 ∧ ∀ y ∈ x.f1, y.f1.length ≤ 1048576) : Ev (fun k => laws_eqSchema.f k l l) true := by
  have h : Ev (fun k => laws_eqTypeDefS.f k l l) true := by
    refine ev_same ⟨0, fun k _ => by unfold laws_eqTypeDefS.f; rw [if_pos rfl]⟩ (eq_loop (α := Unit) l.length (fun k i => laws_eqTypeDefS.l0 k l l i) (fun k => by simp only [laws_eqTypeDefS.l0]; rw [if_neg (by omega)]) fun j hj => ?_)
    obtain ⟨K, hk⟩ := ev_at (eq_fields (l.getD j z53).f1 (hx _ (getD_mem l z53 j hj)).1 (hx _ (getD_mem l z53 j hj)).2)
    have hrd : rd_T53 l (j : Int) = l.getD j z53 := rfl
    refine ⟨K, fun k hq => ?_⟩
    simp only [laws_eqTypeDefS.l0, laws_eqTypeDef.f]; rw [if_pos (by omega), if_pos (by omega), if_pos (by omega), if_pos trivial, hrd, hk k hq, Option.bind_some, if_pos rfl, Option.bind_some, if_pos rfl, wsucc hj (by omega)]
  obtain ⟨K, hk⟩ := ev_at h
  exact ev_mk K fun k hq => by unfold laws_eqSchema.f; rw [hk k hq]; rfl
end Go.Proofs.Ytoogmlghfljeiaa.Pure2
namespace Go.Proofs.Ytoogmlghfljeiaa.Pure2
open Go.RowKit Go.Proofs.Ytoogmlghfljeiaa.Q Go.Proofs.YtoogmlghfljeiaaW.PrintWords Go.Proofs.YtoogmlghfljeiaaW.PrintLast
set_option linter.unusedVariables false
set_option linter.unusedSimpArgs false
/-! whether a schema is one -/
theorem find_ev {α : Type} (l : List α) (z : α) (p : α → Bool) (L : Nat → Int → Option Int) (hend : ∀ k, L (k + 1) (l.length : Int) = some (-1))
    (hs : ∀ k j, j < l.length → L (k + 1) (j : Int) = if p (l.getD j z) = true then some (j : Int) else L k ((j + 1 : Nat) : Int)) : Ev (fun k => L k 0) (match l.findIdx? p with | some i => (i : Int) | none => -1) := by
  obtain ⟨r, hr, he⟩ := count_loop l.length L (fun j r => r = match (l.drop j).findIdx? p with | some i => ((i + j : Nat) : Int) | none => -1) ⟨-1, by rw [List.drop_eq_nil_of_le (Nat.le_refl _)]; rfl, ev_now ⟨0, fun k _ => hend k⟩⟩
    (fun j hj r hr he => by
      have hg : l.getD j z = l[j] := by rw [List.getD_eq_getElem?_getD, List.getElem?_eq_getElem hj]; rfl
      rw [List.drop_eq_getElem_cons hj, List.findIdx?_cons]
      cases hc : p l[j] with
      | true => exact ⟨(j : Int), by rw [if_pos rfl]; simp, ev_now ⟨0, fun k _ => by rw [hs k j hj, hg, hc, if_pos rfl]⟩⟩
      | false =>
        refine ⟨r, ?_, ev_step ⟨0, fun k _ => by rw [hs k j hj, hg, hc, if_neg (by simp)]⟩ he⟩
        rw [hr, if_neg (by simp)]
        cases (l.drop (j + 1)).findIdx? p with
        | none => rfl
        | some i => simp only [Option.map_some]; congr 1; omega) 0 (by omega)
  rw [List.drop_zero] at hr
  subst hr
  exact he
theorem find_type (l : List S53) (s : ByteArray) (hl : l.length ≤ 1048576) : ∃ r, Ev (fun k => spec_l03Find.f k l s) r ∧ impl_Schema_typeAt.f l s = some r :=
  ⟨_, find_ev l z53 (fun x => x.f0.toList == s.toList) (fun k i => spec_l03Find.l0 k s i l) (fun k => by simp only [spec_l03Find.l0]; rw [if_neg (by omega)])
    (fun k j hj => by
      have hrd : rd_T53 l (j : Int) = l.getD j z53 := rfl
      conv => lhs; simp only [spec_l03Find.l0]
      rw [if_pos (by omega), if_pos (by omega), hrd, wsucc hj (by omega)]
      simp only [beq_iff_eq]), rfl⟩
theorem find_field (l : List S38) (nm s : ByteArray) (hl : l.length ≤ 1048576) : ∃ r, Ev (fun k => spec_l03Field.f k nm l s) r ∧ impl_TypeDef_fieldAt.f nm l s = some r :=
  ⟨_, find_ev l z38 (fun x => x.f0.toList == s.toList) (fun k i => spec_l03Field.l0 k s i nm l) (fun k => by simp only [spec_l03Field.l0]; rw [if_neg (by omega)])
    (fun k j hj => by
      have hrd : rd_T38 l (j : Int) = l.getD j z38 := rfl
      conv => lhs; simp only [spec_l03Field.l0]
      rw [if_pos (by omega), if_pos (by omega), hrd, wsucc hj (by omega)]
      simp only [beq_iff_eq]), rfl⟩
theorem find_arg (l : List S57) (nm t : ByteArray) (b c : Bool) (s : ByteArray) (hl : l.length ≤ 1048576) : ∃ r, Ev (fun k => spec_l03Arg.f k nm l t b c s) r ∧ impl_FieldDef_argAt.f nm l t b c s = some r :=
  ⟨_, find_ev l z57 (fun x => x.f0.toList == s.toList) (fun k i => spec_l03Arg.l0 k s i nm l t b c) (fun k => by simp only [spec_l03Arg.l0]; rw [if_neg (by omega)])
    (fun k j hj => by
      have hrd : rd_T57 l (j : Int) = l.getD j z57 := rfl
      conv => lhs; simp only [spec_l03Arg.l0]
      rw [if_pos (by omega), if_pos (by omega), hrd, wsucc hj (by omega)]
      simp only [beq_iff_eq]), rfl⟩
def CmF (x : S38) : Prop := x.f0.size ≤ 1048576 ∧ x.f1.length ≤ 1048576 ∧ ∀ y ∈ x.f1, y.f0.size ≤ 1048576
def CmT (x : S53) : Prop := x.f0.size ≤ 1048576 ∧ x.f1.length ≤ 1048576 ∧ ∀ y ∈ x.f1, CmF y
def CmS (l : List S53) : Prop := l.length ≤ 1048576 ∧ ∀ y ∈ l, CmT y
theorem args_agree (fd : S38) (hf : CmF fd) (i j : Nat) (T : List S53) (nm : ByteArray) (fs : List S38) (hj : j < fs.length) (hfs : fs.length ≤ 1048576) (R : Bool) (hR : Ev (fun k => spec_SchemaOK.l1 k (i : Int) ((j + 1 : Nat) : Int) T nm fs) R) :
    ∃ b, Ev (fun k => spec_SchemaOK.l2 k (i : Int) (j : Int) 0 T nm fs fd.f0 fd.f1 fd.f2 fd.f3 fd.f4) (if b = true then R else false) ∧ Ev (fun k => impl_Schema_fieldOK.l0 k fd.f1 (fd.f1.length : Int) 0 fd.f0 fd.f1 fd.f2 fd.f3 fd.f4) b := by
  have hl := hf.2.1
  obtain ⟨b, h1, h2⟩ := count_loop fd.f1.length (fun k q => impl_Schema_fieldOK.l0 k fd.f1 (fd.f1.length : Int) q fd.f0 fd.f1 fd.f2 fd.f3 fd.f4) (fun q b => Ev (fun k => spec_SchemaOK.l2 k (i : Int) (j : Int) (q : Int) T nm fs fd.f0 fd.f1 fd.f2 fd.f3 fd.f4) (if b = true then R else false))
    ⟨true, by rw [if_pos rfl]; exact ev_step ⟨0, fun k _ => by simp only [spec_SchemaOK.l2]; rw [if_neg (by omega), wsucc hj (by omega)]⟩ hR, ev_now ⟨0, fun k _ => by simp only [impl_Schema_fieldOK.l0]; rw [if_neg (by omega)]⟩⟩
    (fun q hq b hp he => by
      have hrd : rd_T57 fd.f1 (q : Int) = fd.f1.getD q z57 := rfl
      obtain ⟨n, n1, n2, _⟩ := names_ev (fd.f1.getD q z57).f0 (hf.2.2 _ (getD_mem fd.f1 z57 q hq))
      obtain ⟨t, t1, t2⟩ := find_arg fd.f1 fd.f0 fd.f2 fd.f3 fd.f4 (fd.f1.getD q z57).f0 hl
      obtain ⟨K1, n1⟩ := ev_at n1
      obtain ⟨K2, n2⟩ := ev_at n2
      obtain ⟨K3, t1⟩ := ev_at t1
      cases n with
      | false =>
        refine ⟨false, ?_, ev_now ⟨K2, fun k hk => by simp only [impl_Schema_fieldOK.l0]; rw [if_pos (by omega), if_pos (by omega), if_pos (by omega), hrd, n2 k hk]; rfl⟩⟩
        exact ev_now ⟨K1, fun k hk => by simp only [spec_SchemaOK.l2]; rw [if_pos (by omega), if_pos (by omega), hrd, n1 k hk]; rfl⟩
      | true =>
        by_cases ht : t = (q : Int)
        · refine ⟨b, ev_step ⟨K1 + K3, fun k hk => ?_⟩ hp, ev_step ⟨K2, fun k hk => ?_⟩ he⟩
          · simp only [spec_SchemaOK.l2]; rw [if_pos (by omega), if_pos (by omega), hrd, n1 k (by omega), Option.bind_some, if_pos rfl, t1 k (by omega), Option.bind_some, if_pos ht, wsucc hq (by omega)]
          · simp only [impl_Schema_fieldOK.l0]; rw [if_pos (by omega), if_pos (by omega), if_pos (by omega), hrd, n2 k hk, Option.bind_some, if_pos rfl, t2, Option.bind_some, if_pos ht, wsucc hq (by omega)]
        · refine ⟨false, ?_, ev_now ⟨K2, fun k hk => by simp only [impl_Schema_fieldOK.l0]; rw [if_pos (by omega), if_pos (by omega), if_pos (by omega), hrd, n2 k hk, Option.bind_some, if_pos rfl, t2, Option.bind_some, if_neg ht]⟩⟩
          exact ev_now ⟨K1 + K3, fun k hk => by simp only [spec_SchemaOK.l2]; rw [if_pos (by omega), if_pos (by omega), hrd, n1 k (by omega), Option.bind_some, if_pos rfl, t1 k (by omega), Option.bind_some, if_neg ht]; rfl⟩) 0 (by omega)
  exact ⟨b, h1, h2⟩
theorem fields_agree (T : List S53) (hT : T.length ≤ 1048576) (i : Nat) (hi : i < T.length) (nm : ByteArray) (fs : List S38) (hl : fs.length ≤ 1048576) (hx : ∀ x ∈ fs, CmF x) (R : Bool) (hR : Ev (fun k => spec_SchemaOK.l0 k ((i + 1 : Nat) : Int) T) R) (hR' : Ev (fun k => impl_SchemaOK.l0 k T (T.length : Int) ((i + 1 : Nat) : Int) T) R) :
    ∃ r, Ev (fun k => spec_SchemaOK.l1 k (i : Int) 0 T nm fs) r ∧ Ev (fun k => impl_SchemaOK.l1 k T (T.length : Int) (i : Int) fs (fs.length : Int) 0 T nm fs) r := by
  obtain ⟨r, h1, h2⟩ := count_loop fs.length (fun k q => impl_SchemaOK.l1 k T (T.length : Int) (i : Int) fs (fs.length : Int) q T nm fs) (fun q r => Ev (fun k => spec_SchemaOK.l1 k (i : Int) (q : Int) T nm fs) r)
    ⟨R, ev_step ⟨0, fun k _ => by simp only [spec_SchemaOK.l1]; rw [if_neg (by omega), wsucc hi (by omega)]⟩ hR, ev_step ⟨0, fun k _ => by simp only [impl_SchemaOK.l1]; rw [if_neg (by omega), wsucc hi (by omega)]⟩ hR'⟩
    (fun q hq r hp he => by
      have hrd : rd_T38 fs (q : Int) = fs.getD q z38 := rfl
      have hm := hx _ (getD_mem fs z38 q hq)
      obtain ⟨n, n1, n2, _⟩ := names_ev (fs.getD q z38).f0 hm.1
      obtain ⟨u, u1, u2⟩ := find_field fs nm (fs.getD q z38).f0 hl
      obtain ⟨t, t1, t2⟩ := find_type T (fs.getD q z38).f2 hT
      obtain ⟨b, b1, b2⟩ := args_agree (fs.getD q z38) hm i q T nm fs hq hl r hp
      obtain ⟨K1, n1⟩ := ev_at n1
      obtain ⟨K2, n2⟩ := ev_at n2
      obtain ⟨K3, u1⟩ := ev_at u1
      obtain ⟨K4, t1⟩ := ev_at t1
      obtain ⟨K5, b1⟩ := ev_at b1
      obtain ⟨K6, b2⟩ := ev_at b2
      obtain ⟨K7, he⟩ := ev_at he
      generalize fs.getD q z38 = fd at *
      refine ⟨if n = true then (if fd.f0.toList = ([95, 95, 116, 121, 112, 101, 110, 97, 109, 101] : List UInt8) then false else if u = (q : Int) then (if fd.f2.toList = ([73, 110, 116] : List UInt8) then (if (fd.f1.length : Int) > 4 then false else if b = true then r else false) else if t < 0 then false else if (fd.f1.length : Int) > 4 then false else if b = true then r else false) else false) else false, ev_mk (K1 + K3 + K4 + K5 + 2) fun k hk => ?_, ev_mk (K2 + K6 + K7 + 2) fun k hk => ?_⟩
      · obtain ⟨k, rfl⟩ : ∃ m, k = m + 2 := ⟨k - 2, by omega⟩
        simp only [spec_SchemaOK.l1, spec_SchemaOK.j4]
        rw [if_pos (by omega), if_pos (by omega), hrd, n1 _ (by omega), Option.bind_some, u1 _ (by omega), Option.bind_some, t1 _ (by omega), Option.bind_some, b1 k (by omega)]
        by_cases c1 : n = true
        · rw [if_pos c1, if_pos c1]
          by_cases c2 : fd.f0.toList = ([95, 95, 116, 121, 112, 101, 110, 97, 109, 101] : List UInt8)
          · rw [if_pos c2, if_pos c2]; rfl
          · rw [if_neg c2, if_neg c2]
            by_cases c3 : u = (q : Int)
            · rw [if_pos c3, if_pos c3]
              by_cases c4 : fd.f2.toList = ([73, 110, 116] : List UInt8)
              · rw [if_pos c4, if_pos c4]
                by_cases c6 : (fd.f1.length : Int) > 4
                · rw [if_pos c6, if_pos (decide_eq_true c6)]
                · rw [if_neg c6, if_neg (by rw [decide_eq_false c6]; simp)]
              · rw [if_neg c4, if_neg c4]
                by_cases c5 : t < 0
                · rw [if_pos c5, if_pos c5]; rfl
                · rw [if_neg c5, if_neg c5]
                  by_cases c6 : (fd.f1.length : Int) > 4
                  · rw [if_pos c6, if_pos (decide_eq_true c6)]
                  · rw [if_neg c6, if_neg (by rw [decide_eq_false c6]; simp)]
            · rw [if_neg c3, if_neg c3]; rfl
        · rw [if_neg c1, if_neg c1]; rfl
      · obtain ⟨k, rfl⟩ : ∃ m, k = m + 2 := ⟨k - 2, by omega⟩
        rw [impl_SchemaOK.l1]
        simp only [impl_Schema_fieldOK.f, impl_Schema_fieldOK.j0]
        rw [if_pos (by omega), if_pos (by omega), if_pos (by omega), hrd, n2 _ (by omega), Option.bind_some, t2, Option.bind_some, u2, Option.bind_some, wsucc hq (by omega), he _ (by omega), b2 k (by omega)]
        by_cases c1 : n = true
        · rw [if_pos c1, if_pos c1]
          by_cases c2 : fd.f0.toList = ([95, 95, 116, 121, 112, 101, 110, 97, 109, 101] : List UInt8)
          · rw [if_pos c2, if_pos c2]; rfl
          · rw [if_neg c2, if_neg c2]
            by_cases c4 : fd.f2.toList = ([73, 110, 116] : List UInt8)
            · rw [if_pos c4, if_pos c4]
              by_cases c6 : (fd.f1.length : Int) > 4
              · rw [if_pos c6, if_pos (decide_eq_true c6)]; simp
              · rw [if_neg c6, if_neg (by rw [decide_eq_false c6]; simp)]
                by_cases c3 : u = (q : Int)
                · rw [if_pos c3, if_pos c3]; cases b <;> rfl
                · rw [if_neg c3, if_neg c3]; cases b <;> rfl
            · rw [if_neg c4, if_neg c4]
              by_cases c5 : t < 0
              · rw [if_pos c5, if_pos c5]; simp
              · rw [if_neg c5, if_neg c5]
                by_cases c6 : (fd.f1.length : Int) > 4
                · rw [if_pos c6, if_pos (decide_eq_true c6)]; simp
                · rw [if_neg c6, if_neg (by rw [decide_eq_false c6]; simp)]
                  by_cases c3 : u = (q : Int)
                  · rw [if_pos c3, if_pos c3]; cases b <;> rfl
                  · rw [if_neg c3, if_neg c3]; cases b <;> rfl
        · rw [if_neg c1, if_neg c1]; rfl) 0 (by omega)
  exact ⟨r, h1, h2⟩
theorem schema_agree (T : List S53) (hT : CmS T) : ∃ r, Ev (fun k => spec_SchemaOK.f k T) r ∧ Ev (fun k => impl_SchemaOK.f k T) r := by
  obtain ⟨hl, hx⟩ := hT
  obtain ⟨R, h1, h2⟩ := count_loop T.length (fun k q => impl_SchemaOK.l0 k T (T.length : Int) q T) (fun q r => Ev (fun k => spec_SchemaOK.l0 k (q : Int) T) r)
    ⟨true, ev_now ⟨0, fun k _ => by simp only [spec_SchemaOK.l0]; rw [if_neg (by omega)]⟩, ev_now ⟨0, fun k _ => by simp only [impl_SchemaOK.l0]; rw [if_neg (by omega)]⟩⟩
    (fun q hq r hp he => by
      have hrd : rd_T53 T (q : Int) = T.getD q z53 := rfl
      have hm := hx _ (getD_mem T z53 q hq)
      obtain ⟨n, n1, n2, _⟩ := names_ev (T.getD q z53).f0 hm.1
      obtain ⟨t, t1, t2⟩ := find_type T (T.getD q z53).f0 hl
      obtain ⟨b, b1, b2⟩ := fields_agree T hl q hq (T.getD q z53).f0 (T.getD q z53).f1 hm.2.1 hm.2.2 r hp he
      obtain ⟨K1, n1⟩ := ev_at n1
      obtain ⟨K2, n2⟩ := ev_at n2
      obtain ⟨K4, t1⟩ := ev_at t1
      obtain ⟨K5, b1⟩ := ev_at b1
      obtain ⟨K6, b2⟩ := ev_at b2
      generalize T.getD q z53 = td at *
      refine ⟨if n = true then (if td.f0.toList = ([73, 110, 116] : List UInt8) then false else if t = (q : Int) then (if decide (1 ≤ (td.f1.length : Int) ∧ (td.f1.length : Int) ≤ 10) = true then b else false) else false) else false, ev_mk (K1 + K4 + K5 + 2) fun k hk => ?_, ev_mk (K2 + K6 + 2) fun k hk => ?_⟩
      · obtain ⟨k, rfl⟩ : ∃ m, k = m + 2 := ⟨k - 2, by omega⟩
        simp only [spec_SchemaOK.l0, spec_SchemaOK.j2]
        rw [if_pos (by omega), if_pos (by omega), hrd, n1 _ (by omega), Option.bind_some, t1 _ (by omega), Option.bind_some, spec_in, Option.bind_some, b1 k (by omega)]
        by_cases c1 : n = true
        · rw [if_pos c1, if_pos c1]
          by_cases c2 : td.f0.toList = ([73, 110, 116] : List UInt8)
          · rw [if_pos c2, if_pos c2]; rfl
          · rw [if_neg c2, if_neg c2]
            by_cases c3 : t = (q : Int)
            · rw [if_pos c3, if_pos c3]
              cases decide (1 ≤ (td.f1.length : Int) ∧ (td.f1.length : Int) ≤ 10) <;> rfl
            · rw [if_neg c3, if_neg c3]; rfl
        · rw [if_neg c1, if_neg c1]; rfl
      · obtain ⟨k, rfl⟩ : ∃ m, k = m + 2 := ⟨k - 2, by omega⟩
        simp only [impl_SchemaOK.l0, impl_SchemaOK.j2]
        rw [if_pos (by omega), if_pos (by omega), if_pos (by omega), hrd, n2 _ (by omega), Option.bind_some, t2, Option.bind_some, impl_in, Option.bind_some, b2 k (by omega)]
        by_cases c1 : n = true
        · rw [if_pos c1, if_pos c1]
          by_cases c2 : td.f0.toList = ([73, 110, 116] : List UInt8)
          · rw [if_pos c2, if_pos c2]; rfl
          · rw [if_neg c2, if_neg c2]
            by_cases c3 : t = (q : Int)
            · rw [if_pos c3, if_pos c3]
              cases decide (1 ≤ (td.f1.length : Int) ∧ (td.f1.length : Int) ≤ 10) <;> rfl
            · rw [if_neg c3, if_neg c3]; rfl
        · rw [if_neg c1, if_neg c1]; rfl) 0 (by omega)
  obtain ⟨t, t1, t2⟩ := find_type T (⟨#[81, 117, 101, 114, 121]⟩ : ByteArray) hl
  obtain ⟨K1, t1⟩ := ev_at t1
  obtain ⟨K2, h1⟩ := ev_at h1
  obtain ⟨K3, h2⟩ := ev_at h2
  refine ⟨if decide (1 ≤ (T.length : Int) ∧ (T.length : Int) ≤ 8) = true then (if t < 0 then false else R) else false, ev_mk (K1 + K2 + 2) fun k hk => ?_, ev_mk (K3 + 2) fun k hk => ?_⟩
  · obtain ⟨k, rfl⟩ : ∃ m, k = m + 1 := ⟨k - 1, by omega⟩
    simp only [spec_SchemaOK.f, spec_SchemaOK.j0]
    rw [spec_in, Option.bind_some, t1 _ (by omega), Option.bind_some, show spec_SchemaOK.l0 k 0 T = some R from h1 k (by omega)]
    cases decide (1 ≤ (T.length : Int) ∧ (T.length : Int) ≤ 8) with
    | false => rfl
    | true =>
      by_cases c : t < 0
      · rw [if_pos rfl, if_pos rfl, if_pos c, if_pos (decide_eq_true c)]
      · rw [if_pos rfl, if_pos rfl, if_neg c, if_neg (by rw [decide_eq_false c]; simp)]
  · obtain ⟨k, rfl⟩ : ∃ m, k = m + 1 := ⟨k - 1, by omega⟩
    simp only [impl_SchemaOK.f, impl_SchemaOK.j0]
    rw [impl_in, Option.bind_some, t2, Option.bind_some, show impl_SchemaOK.l0 k T (T.length : Int) 0 T = some R from h2 k (by omega)]
    cases decide (1 ≤ (T.length : Int) ∧ (T.length : Int) ≤ 8) with
    | false => rfl
    | true =>
      by_cases c : t < 0
      · rw [if_pos rfl, if_pos rfl, if_pos c, if_pos (decide_eq_true c)]
      · rw [if_pos rfl, if_pos rfl, if_neg c, if_neg (by rw [decide_eq_false c]; simp)]
theorem small_S (l : List S77) (h : SmS l) : CmS (l.map cvT) := by
  refine ⟨by rw [List.length_map]; exact h.1, fun x hx => ?_⟩
  obtain ⟨y, hy, rfl⟩ := List.mem_map.1 hx
  have h1 := h.2 y hy
  refine ⟨h1.1, by show (y.f1.map cvF).length ≤ _; rw [List.length_map]; exact h1.2.1, fun u hu => ?_⟩
  obtain ⟨v, hv, rfl⟩ := List.mem_map.1 hu
  have h2 := h1.2.2 v hv
  refine ⟨h2.1, by show (v.f1.map cvA).length ≤ _; rw [List.length_map]; exact h2.2.2.1, fun p hp => ?_⟩
  obtain ⟨o, ho, rfl⟩ := List.mem_map.1 hp
  exact h2.2.2.2 o ho
end Go.Proofs.Ytoogmlghfljeiaa.Pure2
namespace Go.Proofs.Ytoogmlghfljeiaa.Pure2
open Go.RowKit Go.Proofs.Ytoogmlghfljeiaa.Q Go.Proofs.YtoogmlghfljeiaaW.PrintWords Go.Proofs.YtoogmlghfljeiaaW.PrintLast
set_option linter.unusedVariables false
set_option linter.unusedSimpArgs false
theorem FnExactSchemaOK : laws_FnExactSchemaOK.Pure2 := by
  intro y hy
  obtain ⟨r, he, hr⟩ := sz_schema y.f0 1048576 (by omega) (by omega) hy.1 hy.2
  refine Ev.rounds (r := true) ?_
  obtain ⟨K1, h1⟩ := ev_at he
  rcases hr with hr | ⟨_, _, hs⟩
  · exact ev_mk K1 fun k hk => by unfold laws_FnExactSchemaOK.f; rw [h1 k hk, Option.bind_some, if_pos hr]
  · have hc := small_S y.f0 hs
    obtain ⟨K2, h2⟩ := ev_at (to_schema y.f0 hs)
    obtain ⟨b, e1, e2⟩ := schema_agree (y.f0.map cvT) hc
    obtain ⟨K3, h3⟩ := ev_at e1
    obtain ⟨K4, h4⟩ := ev_at e2
    obtain ⟨K5, h5⟩ := ev_at (eq_schema (y.f0.map cvT) hc.1 fun x hx => ⟨(hc.2 x hx).2.1, fun u hu => ((hc.2 x hx).2.2 u hu).2.1⟩)
    refine ev_mk (K1 + K2 + K3 + K4 + K5) fun k hk => ?_
    unfold laws_FnExactSchemaOK.f
    rw [h1 _ (by omega), Option.bind_some, if_neg (by omega), h2 _ (by omega), Option.bind_some, h3 _ (by omega), Option.bind_some, Option.bind_some, h4 _ (by omega), Option.bind_some, bne_self_eq_false, if_neg (by simp), Option.bind_some, h5 _ (by omega)]
    rfl
end Go.Proofs.Ytoogmlghfljeiaa.Pure2
