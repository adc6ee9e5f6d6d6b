/- Texts of the claim on FnExactFieldAt, gathered by a program of this session: what the program's functions compute (proved by walks), and the plain part. -/
import Derived.Test.YtoogmlghfljeiaaKFnExactFieldAta
namespace Go.Proofs.Ytoogmlghfljeiaa.Q
open Go.RowKit Go.Proofs.YtoogmlghfljeiaaW.PrintWords Go.Proofs.YtoogmlghfljeiaaW.PrintLast Go.Proofs.YtoogmlghfljeiaaW.PrintMore
attribute [local go_sem] max2_int min2_int max_two min_two max_three min_three max_four min_four
set_option linter.unusedVariables false
set_option linter.unusedSimpArgs false

def laws_eqSchema.f (k : Nat) (l0_0 : List (S53)) (l1_0 : List (S53)) : Option (Bool) := (laws_eqTypeDefS.f k l0_0 l1_0).bind fun t103 => (if t103 = true then (some true) else (some false))
set_option maxHeartbeats 8000000 in
set_option maxRecDepth 100000 in
theorem laws_eqSchema.calls (k : Nat) (A0_0 : Option Addr) (c0_0 : Nat) (l0_0 : List (S53)) (A1_0 : Option Addr) (c1_0 : Nat) (l1_0 : List (S53)) (r : Bool) (w : World) (hr0_0 : Kd.C k53 w A0_0 l0_0.length l0_0) (hc0_0 : l0_0.length ≤ c0_0) (hr1_0 : Kd.C k53 w A1_0 l1_0.length l1_0) (hc1_0 : l1_0.length ≤ c1_0) (h : laws_eqSchema.f k l0_0 l1_0 = some r) :
  Calls Try.prog 12 #[.agg #[.slice A0_0 l0_0.length c0_0], .agg #[.slice A1_0 l1_0.length c1_0]] w fun e w' => e = .returned (.bool r) ∧ Below w.heap.size w w' := by
 have hu29 := Try.underlying29; have HR0_0 := qO hr0_0; have HC0_0 := qO hc0_0; clear hr0_0 hc0_0; have HR1_0 := qO hr1_0; have HC1_0 := qO hc1_0; clear hr1_0 hc1_0; have HB := qO (Below.refl w.heap.size w); have H : ((laws_eqTypeDefS.f k l0_0 l1_0).bind fun t103 => (if t103 = true then (some true) else (some false))) = some r := h; clear h; replace H := Option.bind_eq_some_iff.mp H; obtain ⟨t103, A30, H⟩ := H; replace H : (if t103 = true then (some true) else (some false)) = some r := H; have A3 := qO A30; clear A30
 by_cases c4 : t103 = true
 ·subst c4
  have H1 : (some true) = some r := by rw [if_pos rfl] at H; exact H
  clear H; have H := H1; clear H1; obtain rfl := Option.some.inj H
  go_enter Try.func12, Try.ntmps12
  go_wp2_with (first | ((with_reducible refine gate_dst (N := 2) rfl ?_); refine box_event ?hg (N := 2) ?hd (cs := #[.slice A0_0 l0_0.length c0_0]) (t := 29) ?hr ?_; (case hd => rfl); (case hg => rfl); (case hr => exact qa18); intro gb101 hg w5 hbox hb; have hx_ := qHX HB hb qa0; have n0_ := qO (below_step (below_step HB.out hx_) hb); have n1_ := qO (hbox); have n2_ := qO ((qa15 : w.heap.size ≤ gb101)); have n3_ := n2_; clear HB; have HB := n0_; have BK101 := n1_; have GW101 := n2_; have GE101 := n3_; clear n0_ n1_ n2_ n3_; clear hx_; clear hb hbox hg) | ((with_reducible refine gate_dst (N := 3) rfl ?_); refine box_event ?hg (N := 3) ?hd (cs := #[.slice A1_0 l1_0.length c1_0]) (t := 29) ?hr ?_; (case hd => rfl); (case hg => rfl); (case hr => exact qa18); intro gb102 hg w6 hbox hb; have hx_ := qHX HB hb qa0; have n0_ := qO (qB BK101.out hx_ hb); have n1_ := qO (below_step (below_step HB.out hx_) hb); have n2_ := qO (hbox); have n3_ := qO ((qa15 : w.heap.size ≤ gb102)); have n4_ := n3_; have n5_ := qO ((qa24 : gb101 ≠ gb102)); have n6_ := qO (Ne.symm n5_.out); clear BK101; clear HB; have BK101 := n0_; have HB := n1_; have BK102 := n2_; have GW102 := n3_; have GE102 := n4_; have NB101_102 := n5_; have NB102_101 := n6_; clear n0_ n1_ n2_ n3_ n4_ n5_ n6_; clear hx_; clear hb hbox hg; have hnb7 := NB101_102.out; have hnc7 := NB102_101.out; have hcz8_0 : w6.cell? ⟨gb101, 0, none⟩ = some (.slice A0_0 l0_0.length c0_0) := (blk_cell BK101.out 0).trans rfl; have hfz8_0 := blk_frozen BK101.out 0; have hcz9_0 : w6.cell? ⟨gb102, 0, none⟩ = some (.slice A1_0 l1_0.length c1_0) := (blk_cell BK102.out 0).trans rfl; have hfz9_0 := blk_frozen BK102.out 0) | ((with_reducible refine gate_callee (f := 38) rfl ?_); refine goesL_ (some 9) rfl rfl Try.func38 qa17 rfl #[.slice A0_0 l0_0.length c0_0, .slice A1_0 l1_0.length c1_0] rfl qa1 ?_; (with_reducible refine (laws_eqTypeDefS.calls k _ _ l0_0 _ _ l1_0 true _ ?side1 ?side2 ?side3 ?side4 A3.out).mono ?_); (case side1 => exact qa19); (case side2 => exact HC0_0.out); (case side3 => exact qa98); (case side4 => exact HC1_0.out); rintro e w10 ⟨rfl, hb⟩; have hx_ := qHX HB hb qa0; refine ⟨_, rfl, ?_⟩; have n0_ := qO (qB BK101.out hx_ hb); have n1_ := qO (qB BK102.out hx_ hb); have n2_ := qO (below_step (below_step HB.out hx_) hb); clear BK101; clear BK102; clear HB; have BK101 := n0_; have BK102 := n1_; have HB := n2_; clear n0_ n1_ n2_; clear hx_; (try clear hb); (try clear hb2); (try clear hk); (try clear hi)))
  go_ret
  exact ⟨qa3, qa7⟩
 ·replace c4 := Bool.eq_false_iff.mpr c4
  subst c4; have H1 : (some false) = some r := by rw [if_neg (show ¬ (false = true) by decide)] at H; exact H
  clear H; have H := H1; clear H1; obtain rfl := Option.some.inj H
  go_enter Try.func12, Try.ntmps12
  go_wp2_with (first | ((with_reducible refine gate_dst (N := 2) rfl ?_); refine box_event ?hg (N := 2) ?hd (cs := #[.slice A0_0 l0_0.length c0_0]) (t := 29) ?hr ?_; (case hd => rfl); (case hg => rfl); (case hr => exact qa18); intro gb101 hg w11 hbox hb; have hx_ := qHX HB hb qa0; have n0_ := qO (below_step (below_step HB.out hx_) hb); have n1_ := qO (hbox); have n2_ := qO ((qa15 : w.heap.size ≤ gb101)); have n3_ := n2_; clear HB; have HB := n0_; have BK101 := n1_; have GW101 := n2_; have GE101 := n3_; clear n0_ n1_ n2_ n3_; clear hx_; clear hb hbox hg) | ((with_reducible refine gate_dst (N := 3) rfl ?_); refine box_event ?hg (N := 3) ?hd (cs := #[.slice A1_0 l1_0.length c1_0]) (t := 29) ?hr ?_; (case hd => rfl); (case hg => rfl); (case hr => exact qa18); intro gb102 hg w12 hbox hb; have hx_ := qHX HB hb qa0; have n0_ := qO (qB BK101.out hx_ hb); have n1_ := qO (below_step (below_step HB.out hx_) hb); have n2_ := qO (hbox); have n3_ := qO ((qa15 : w.heap.size ≤ gb102)); have n4_ := n3_; have n5_ := qO ((qa24 : gb101 ≠ gb102)); have n6_ := qO (Ne.symm n5_.out); clear BK101; clear HB; have BK101 := n0_; have HB := n1_; have BK102 := n2_; have GW102 := n3_; have GE102 := n4_; have NB101_102 := n5_; have NB102_101 := n6_; clear n0_ n1_ n2_ n3_ n4_ n5_ n6_; clear hx_; clear hb hbox hg; have hnb13 := NB101_102.out; have hnc13 := NB102_101.out; have hcz14_0 : w12.cell? ⟨gb101, 0, none⟩ = some (.slice A0_0 l0_0.length c0_0) := (blk_cell BK101.out 0).trans rfl; have hfz14_0 := blk_frozen BK101.out 0; have hcz15_0 : w12.cell? ⟨gb102, 0, none⟩ = some (.slice A1_0 l1_0.length c1_0) := (blk_cell BK102.out 0).trans rfl; have hfz15_0 := blk_frozen BK102.out 0) | ((with_reducible refine gate_callee (f := 38) rfl ?_); refine goesL_ (some 9) rfl rfl Try.func38 qa17 rfl #[.slice A0_0 l0_0.length c0_0, .slice A1_0 l1_0.length c1_0] rfl qa1 ?_; (with_reducible refine (laws_eqTypeDefS.calls k _ _ l0_0 _ _ l1_0 false _ ?side1 ?side2 ?side3 ?side4 A3.out).mono ?_); (case side1 => exact qa19); (case side2 => exact HC0_0.out); (case side3 => exact qa98); (case side4 => exact HC1_0.out); rintro e w16 ⟨rfl, hb⟩; have hx_ := qHX HB hb qa0; refine ⟨_, rfl, ?_⟩; have n0_ := qO (qB BK101.out hx_ hb); have n1_ := qO (qB BK102.out hx_ hb); have n2_ := qO (below_step (below_step HB.out hx_) hb); clear BK101; clear BK102; clear HB; have BK101 := n0_; have BK102 := n1_; have HB := n2_; clear n0_ n1_ n2_; clear hx_; (try clear hb); (try clear hb2); (try clear hk); (try clear hi)))
  go_ret
  exact ⟨qa3, qa7⟩


def spec_l03Find.l0 : Nat → ByteArray → Int → List (S53) → Option (Int)
 | 0, _, _, _ => none
 | k + 1, x1, x5, x102000 => if x5 < (x102000.length : Int) then (if 0 ≤ x5 then (if ((rd_T53 x102000 x5).f0).toList = x1.toList then (some x5) else (spec_l03Find.l0 k x1 (wrap64 (x5 + 1)) x102000)) else (none)) else (some (-1))
def spec_l03Find.f (k : Nat) (l0_0 : List (S53)) (a1 : ByteArray) : Option (Int) := spec_l03Find.l0 k a1 0 l0_0
set_option maxHeartbeats 8000000 in
set_option maxRecDepth 100000 in
theorem spec_l03Find.calls (k : Nat) (A0_0 : Option Addr) (c0_0 : Nat) (l0_0 : List (S53)) (a1 : ByteArray) (r : Int) (w : World) (hr0_0 : Kd.C k53 w A0_0 l0_0.length l0_0) (hc0_0 : l0_0.length ≤ c0_0) (h : spec_l03Find.f k l0_0 a1 = some r) :
  Calls Try.prog 28 #[.agg #[.slice A0_0 l0_0.length c0_0], .string a1] w fun e w' => e = .returned (.int .i64 r) ∧ Below w.heap.size w w' := by
 have hu29 := Try.underlying29; have HR0_0 := qO hr0_0; have HC0_0 := qO hc0_0; clear hr0_0 hc0_0; have HB := qO (Below.refl w.heap.size w); have H : (spec_l03Find.l0 k a1 0 l0_0) = some r := h; clear h; have H' := qO H; clear H
 go_enter Try.func28, Try.ntmps28
 go_wp2_with (first | ((with_reducible refine gate_dst (N := 2) rfl ?_); refine box_event ?hg (N := 2) ?hd (cs := #[.slice A0_0 l0_0.length c0_0]) (t := 29) ?hr ?_; (case hd => rfl); (case hg => rfl); (case hr => exact qa18); intro gb101 hg w3 hbox hb; have hx_ := qHX HB hb qa0; have n0_ := qO (below_step (below_step HB.out hx_) hb); have n1_ := qO (hbox); have n2_ := qO ((qa15 : w.heap.size ≤ gb101)); have n3_ := n2_; clear HB; have HB := n0_; have BK101 := n1_; have GW101 := n2_; have GE101 := n3_; clear n0_ n1_ n2_ n3_; clear hx_; clear hb hbox hg))
 go_loopg [5] k (fun kq v5 w' => ∃ (x5_1 : Int), v5 = .int .i64 x5_1 ∧ Aside0 (spec_l03Find.l0 kq a1 x5_1 l0_0 = some r) ∧ Aside0 (kq ≤ k) ∧ Aside0 (w'.heap[gb101]? = some (.cells #[(.slice A0_0 l0_0.length c0_0)] 29 (0, 0))) ∧ Aside0 (Below w.heap.size w w'))
 case atStart => exact ⟨(0), qa11, H', ⟨Nat.le_refl _⟩, ⟨qa13⟩, ⟨qa6⟩⟩
 case round =>
  clear H'
  try clear c2
  try clear p2
  obtain ⟨x5_1, rfl, HA, HK1, BK101, HB⟩ := hrel
  cases gk with
  | zero => exact absurd HA.out (by simp [spec_l03Find.l0])
  | succ k1 =>
   have H := HA.out; clear HA; simp only [spec_l03Find.l0] at H
   by_cases c4 : x5_1 < (l0_0.length : Int)
   ·rw [if_pos c4] at H
    have c4b0 : decide (x5_1 < (l0_0.length : Int)) = true := decide_eq_true c4; clear c4
    by_cases c5 : 0 ≤ x5_1
    ·rw [if_pos c5] at H
     have c5b0 : decide (0 ≤ x5_1) = true := decide_eq_true c5; clear c5
     by_cases c6 : ((rd_T53 l0_0 x5_1).f0).toList = a1.toList
     ·rw [if_pos c6] at H
      have c6b0 : (((rd_T53 l0_0 x5_1).f0).toList == a1.toList) = true := beq_iff_eq.mpr c6; have c6b1 : (((rd_T53 l0_0 x5_1).f0).toList != a1.toList) = false := bne_eq_false_iff_eq.mpr c6; clear c6; obtain rfl := Option.some.inj H; have hcz7_0 : wr.cell? ⟨gb101, 0, none⟩ = some (.slice A0_0 l0_0.length c0_0) := (blk_cell BK101.out 0).trans rfl; have hfz7_0 := blk_frozen BK101.out 0; have p102 : 0 ≤ (x5_1 : Int) := qT qa5; have q102 : x5_1 < (l0_0.length : Int) := qT qa5; obtain ⟨ad102, A102_1, c102_1, e102, hx102_0, hx102_1, hl102_1, hi102_1⟩ := at_T53 HR0_0.out x5_1 p102 q102
      cases e102
      replace hx102_0 := (HB.out.cell (qL w _ hx102_0)).trans hx102_0; replace hx102_1 := (HB.out.cell (qL w _ hx102_1)).trans hx102_1; have HR102_1 := qO hi102_1; have HC102_1 := qO hl102_1; clear hi102_1 hl102_1; replace p102 := eq_true p102; replace q102 := eq_true q102; go_wp2
      go_ret
      exact ⟨qa3, qa6⟩
     ·rw [if_neg c6] at H
      have c6b0 : (((rd_T53 l0_0 x5_1).f0).toList == a1.toList) = false := beq_eq_false_iff_ne.mpr c6; have c6b1 : (((rd_T53 l0_0 x5_1).f0).toList != a1.toList) = true := bne_iff_ne.mpr c6; have H' := qO H; clear H; have hcz8_0 : wr.cell? ⟨gb101, 0, none⟩ = some (.slice A0_0 l0_0.length c0_0) := (blk_cell BK101.out 0).trans rfl; have hfz8_0 := blk_frozen BK101.out 0; have p102 : 0 ≤ (x5_1 : Int) := qT qa5; have q102 : x5_1 < (l0_0.length : Int) := qT qa5; obtain ⟨ad102, A102_1, c102_1, e102, hx102_0, hx102_1, hl102_1, hi102_1⟩ := at_T53 HR0_0.out x5_1 p102 q102
      cases e102
      replace hx102_0 := (HB.out.cell (qL w _ hx102_0)).trans hx102_0; replace hx102_1 := (HB.out.cell (qL w _ hx102_1)).trans hx102_1; have HR102_1 := qO hi102_1; have HC102_1 := qO hl102_1; clear hi102_1 hl102_1; replace p102 := eq_true p102; replace q102 := eq_true q102; go_wp2
      go_roundg k1
      case measure => have := HK1.out; omega
      case rel => exact ⟨(wrap64 (x5_1 + 1)), qa11, H', ⟨qa87⟩, ⟨qa13⟩, ⟨qa6⟩⟩
    ·rw [if_neg c5] at H
     exact absurd H qa91
   ·rw [if_neg c4] at H
    have c4b0 : decide (x5_1 < (l0_0.length : Int)) = false := decide_eq_false c4; clear c4; obtain rfl := Option.some.inj H; have hcz9_0 : wr.cell? ⟨gb101, 0, none⟩ = some (.slice A0_0 l0_0.length c0_0) := (blk_cell BK101.out 0).trans rfl; have hfz9_0 := blk_frozen BK101.out 0; go_wp2
    go_ret
    exact ⟨qa3, qa6⟩


def spec_l03Field.l0 : Nat → ByteArray → Int → ByteArray → List (S38) → Option (Int)
 | 0, _, _, _, _ => none
 | k + 1, x1, x5, x102000, x102001 => if x5 < (x102001.length : Int) then (if 0 ≤ x5 then (if ((rd_T38 x102001 x5).f0).toList = x1.toList then (some x5) else (spec_l03Field.l0 k x1 (wrap64 (x5 + 1)) x102000 x102001)) else (none)) else (some (-1))
def spec_l03Field.f (k : Nat) (a0_0 : ByteArray) (l0_1 : List (S38)) (a1 : ByteArray) : Option (Int) := spec_l03Field.l0 k a1 0 a0_0 l0_1
set_option maxHeartbeats 8000000 in
set_option maxRecDepth 100000 in
theorem spec_l03Field.calls (k : Nat) (a0_0 : ByteArray) (A0_1 : Option Addr) (c0_1 : Nat) (l0_1 : List (S38)) (a1 : ByteArray) (r : Int) (w : World) (hr0_1 : Kd.C k38 w A0_1 l0_1.length l0_1) (hc0_1 : l0_1.length ≤ c0_1) (h : spec_l03Field.f k a0_0 l0_1 a1 = some r) :
  Calls Try.prog 30 #[.agg #[.string a0_0, .slice A0_1 l0_1.length c0_1], .string a1] w fun e w' => e = .returned (.int .i64 r) ∧ Below w.heap.size w w' := by
 have hu53 := Try.underlying53; have HR0_1 := qO hr0_1; have HC0_1 := qO hc0_1; clear hr0_1 hc0_1; have HB := qO (Below.refl w.heap.size w); have H : (spec_l03Field.l0 k a1 0 a0_0 l0_1) = some r := h; clear h; have H' := qO H; clear H
 go_enter Try.func30, Try.ntmps30
 go_wp2_with (first | ((with_reducible refine gate_dst (N := 2) rfl ?_); refine box_event ?hg (N := 2) ?hd (cs := #[.string a0_0, .slice A0_1 l0_1.length c0_1]) (t := 53) ?hr ?_; (case hd => rfl); (case hg => rfl); (case hr => exact qa18); intro gb101 hg w3 hbox hb; have hx_ := qHX HB hb qa0; have n0_ := qO (below_step (below_step HB.out hx_) hb); have n1_ := qO (hbox); have n2_ := qO ((qa15 : w.heap.size ≤ gb101)); have n3_ := n2_; clear HB; have HB := n0_; have BK101 := n1_; have GW101 := n2_; have GE101 := n3_; clear n0_ n1_ n2_ n3_; clear hx_; clear hb hbox hg))
 go_loopg [5] k (fun kq v5 w' => ∃ (x5_1 : Int), v5 = .int .i64 x5_1 ∧ Aside0 (spec_l03Field.l0 kq a1 x5_1 a0_0 l0_1 = some r) ∧ Aside0 (kq ≤ k) ∧ Aside0 (w'.heap[gb101]? = some (.cells #[.string a0_0, (.slice A0_1 l0_1.length c0_1)] 53 (0, 0))) ∧ Aside0 (Below w.heap.size w w'))
 case atStart => exact ⟨(0), qa11, H', ⟨Nat.le_refl _⟩, ⟨qa13⟩, ⟨qa6⟩⟩
 case round =>
  clear H'
  try clear p2
  try clear c3
  obtain ⟨x5_1, rfl, HA, HK1, BK101, HB⟩ := hrel
  cases gk with
  | zero => exact absurd HA.out (by simp [spec_l03Field.l0])
  | succ k1 =>
   have H := HA.out; clear HA; simp only [spec_l03Field.l0] at H
   by_cases c4 : x5_1 < (l0_1.length : Int)
   ·rw [if_pos c4] at H
    have c4b0 : decide (x5_1 < (l0_1.length : Int)) = true := decide_eq_true c4; clear c4
    by_cases c5 : 0 ≤ x5_1
    ·rw [if_pos c5] at H
     have c5b0 : decide (0 ≤ x5_1) = true := decide_eq_true c5; clear c5
     by_cases c6 : ((rd_T38 l0_1 x5_1).f0).toList = a1.toList
     ·rw [if_pos c6] at H
      have c6b0 : (((rd_T38 l0_1 x5_1).f0).toList == a1.toList) = true := beq_iff_eq.mpr c6; have c6b1 : (((rd_T38 l0_1 x5_1).f0).toList != a1.toList) = false := bne_eq_false_iff_eq.mpr c6; clear c6; obtain rfl := Option.some.inj H; have hcz7_0 : wr.cell? ⟨gb101, 0, none⟩ = some (.string a0_0) := (blk_cell BK101.out 0).trans rfl; have hcz7_1 : wr.cell? ⟨gb101, 1, none⟩ = some (.slice A0_1 l0_1.length c0_1) := (blk_cell BK101.out 1).trans rfl; have hfz7_0 := blk_frozen BK101.out 0; have hfz7_1 := blk_frozen BK101.out 1; have p102 : 0 ≤ (x5_1 : Int) := qT qa5; have q102 : x5_1 < (l0_1.length : Int) := qT qa5; obtain ⟨ad102, A102_1, c102_1, e102, hx102_0, hx102_1, hx102_2, hx102_3, hx102_4, hl102_1, hi102_1⟩ := at_T38 HR0_1.out x5_1 p102 q102
      cases e102
      replace hx102_0 := (HB.out.cell (qL w _ hx102_0)).trans hx102_0; replace hx102_1 := (HB.out.cell (qL w _ hx102_1)).trans hx102_1; replace hx102_2 := (HB.out.cell (qL w _ hx102_2)).trans hx102_2; replace hx102_3 := (HB.out.cell (qL w _ hx102_3)).trans hx102_3; replace hx102_4 := (HB.out.cell (qL w _ hx102_4)).trans hx102_4; have HR102_1 := qO hi102_1; have HC102_1 := qO hl102_1; clear hi102_1 hl102_1; replace p102 := eq_true p102; replace q102 := eq_true q102; go_wp2
      go_ret
      exact ⟨qa3, qa6⟩
     ·rw [if_neg c6] at H
      have c6b0 : (((rd_T38 l0_1 x5_1).f0).toList == a1.toList) = false := beq_eq_false_iff_ne.mpr c6; have c6b1 : (((rd_T38 l0_1 x5_1).f0).toList != a1.toList) = true := bne_iff_ne.mpr c6; have H' := qO H; clear H; have hcz8_0 : wr.cell? ⟨gb101, 0, none⟩ = some (.string a0_0) := (blk_cell BK101.out 0).trans rfl; have hcz8_1 : wr.cell? ⟨gb101, 1, none⟩ = some (.slice A0_1 l0_1.length c0_1) := (blk_cell BK101.out 1).trans rfl; have hfz8_0 := blk_frozen BK101.out 0; have hfz8_1 := blk_frozen BK101.out 1; have p102 : 0 ≤ (x5_1 : Int) := qT qa5; have q102 : x5_1 < (l0_1.length : Int) := qT qa5; obtain ⟨ad102, A102_1, c102_1, e102, hx102_0, hx102_1, hx102_2, hx102_3, hx102_4, hl102_1, hi102_1⟩ := at_T38 HR0_1.out x5_1 p102 q102
      cases e102
      replace hx102_0 := (HB.out.cell (qL w _ hx102_0)).trans hx102_0; replace hx102_1 := (HB.out.cell (qL w _ hx102_1)).trans hx102_1; replace hx102_2 := (HB.out.cell (qL w _ hx102_2)).trans hx102_2; replace hx102_3 := (HB.out.cell (qL w _ hx102_3)).trans hx102_3; replace hx102_4 := (HB.out.cell (qL w _ hx102_4)).trans hx102_4; have HR102_1 := qO hi102_1; have HC102_1 := qO hl102_1; clear hi102_1 hl102_1; replace p102 := eq_true p102; replace q102 := eq_true q102; go_wp2
      go_roundg k1
      case measure => have := HK1.out; omega
      case rel => exact ⟨(wrap64 (x5_1 + 1)), qa11, H', ⟨qa87⟩, ⟨qa13⟩, ⟨qa6⟩⟩
    ·rw [if_neg c5] at H
     exact absurd H qa91
   ·rw [if_neg c4] at H
    have c4b0 : decide (x5_1 < (l0_1.length : Int)) = false := decide_eq_false c4; clear c4; obtain rfl := Option.some.inj H; have hcz9_0 : wr.cell? ⟨gb101, 0, none⟩ = some (.string a0_0) := (blk_cell BK101.out 0).trans rfl; have hcz9_1 : wr.cell? ⟨gb101, 1, none⟩ = some (.slice A0_1 l0_1.length c0_1) := (blk_cell BK101.out 1).trans rfl; have hfz9_0 := blk_frozen BK101.out 0; have hfz9_1 := blk_frozen BK101.out 1; go_wp2
    go_ret
    exact ⟨qa3, qa6⟩


def spec_l01In.f (a0 : Int) (a1 : Int) (a2 : Int) : Option (Bool) := if a1 ≤ a0 then (some (decide (a0 ≤ a2))) else (some false)
set_option maxHeartbeats 8000000 in
set_option maxRecDepth 100000 in
theorem spec_l01In.calls (a0 : Int) (a1 : Int) (a2 : Int) (r : Bool) (w : World) (h : spec_l01In.f a0 a1 a2 = some r) :
  Calls Try.prog 27 #[.int .i64 a0, .int .i64 a1, .int .i64 a2] w fun e w' => e = .returned (.bool r) ∧ Drawn0 w w' := by
 have H : (if a1 ≤ a0 then (some (decide (a0 ≤ a2))) else (some false)) = some r := h; clear h
 by_cases c4 : a1 ≤ a0
 ·rw [if_pos c4] at H
  have c4b0 : decide (a1 ≤ a0) = true := decide_eq_true c4; clear c4; obtain rfl := Option.some.inj H
  go_enter Try.func27, Try.ntmps27
  go_wp2
  go_ret
  exact ⟨qa11, qa26⟩
 ·rw [if_neg c4] at H
  have c4b0 : decide (a1 ≤ a0) = false := decide_eq_false c4; clear c4; obtain rfl := Option.some.inj H
  go_enter Try.func27, Try.ntmps27
  go_wp2
  go_ret
  exact ⟨qa11, qa26⟩


def spec_l00Letter.f (a0 : Int) : Option (Bool) := if a0 ≥ 97 then (if a0 ≤ 122 then (some true) else (if a0 ≥ 65 then (if a0 ≤ 90 then (some true) else (some (a0 == 95))) else (some (a0 == 95)))) else (if a0 ≥ 65 then (if a0 ≤ 90 then (some true) else (some (a0 == 95))) else (some (a0 == 95)))
set_option maxHeartbeats 8000000 in
set_option maxRecDepth 100000 in
theorem spec_l00Letter.calls (a0 : Int) (r : Bool) (w : World) (h : spec_l00Letter.f a0 = some r) :
  Calls Try.prog 75 #[.int .u8 a0] w fun e w' => e = .returned (.bool r) ∧ Drawn0 w w' := by
 have H : (if a0 ≥ 97 then (if a0 ≤ 122 then (some true) else (if a0 ≥ 65 then (if a0 ≤ 90 then (some true) else (some (a0 == 95))) else (some (a0 == 95)))) else (if a0 ≥ 65 then (if a0 ≤ 90 then (some true) else (some (a0 == 95))) else (some (a0 == 95)))) = some r := h; clear h
 by_cases c2 : a0 ≥ 97
 ·rw [if_pos c2] at H
  have c2b0 : decide (97 ≤ a0) = true := decide_eq_true c2; clear c2
  by_cases c3 : a0 ≤ 122
  ·rw [if_pos c3] at H
   have c3b0 : decide (a0 ≤ 122) = true := decide_eq_true c3; clear c3; obtain rfl := Option.some.inj H
   go_enter Try.func75, Try.ntmps75
   go_wp2
   go_ret
   exact ⟨qa11, qa26⟩
  ·rw [if_neg c3] at H
   have c3b0 : decide (a0 ≤ 122) = false := decide_eq_false c3; clear c3
   by_cases c4 : a0 ≥ 65
   ·rw [if_pos c4] at H
    have c4b0 : decide (65 ≤ a0) = true := decide_eq_true c4; clear c4
    by_cases c5 : a0 ≤ 90
    ·rw [if_pos c5] at H
     have c5b0 : decide (a0 ≤ 90) = true := decide_eq_true c5; clear c5; obtain rfl := Option.some.inj H
     go_enter Try.func75, Try.ntmps75
     go_wp2
     go_ret
     exact ⟨qa11, qa26⟩
    ·rw [if_neg c5] at H
     have c5b0 : decide (a0 ≤ 90) = false := decide_eq_false c5; clear c5; obtain rfl := Option.some.inj H
     go_enter Try.func75, Try.ntmps75
     go_wp2
     go_ret
     exact ⟨qa11, qa26⟩
   ·rw [if_neg c4] at H
    have c4b0 : decide (65 ≤ a0) = false := decide_eq_false c4; clear c4; obtain rfl := Option.some.inj H
    go_enter Try.func75, Try.ntmps75
    go_wp2
    go_ret
    exact ⟨qa11, qa26⟩
 ·rw [if_neg c2] at H
  have c2b0 : decide (97 ≤ a0) = false := decide_eq_false c2; clear c2
  by_cases c6 : a0 ≥ 65
  ·rw [if_pos c6] at H
   have c6b0 : decide (65 ≤ a0) = true := decide_eq_true c6; clear c6
   by_cases c7 : a0 ≤ 90
   ·rw [if_pos c7] at H
    have c7b0 : decide (a0 ≤ 90) = true := decide_eq_true c7; clear c7; obtain rfl := Option.some.inj H
    go_enter Try.func75, Try.ntmps75
    go_wp2
    go_ret
    exact ⟨qa11, qa26⟩
   ·rw [if_neg c7] at H
    have c7b0 : decide (a0 ≤ 90) = false := decide_eq_false c7; clear c7; obtain rfl := Option.some.inj H
    go_enter Try.func75, Try.ntmps75
    go_wp2
    go_ret
    exact ⟨qa11, qa26⟩
  ·rw [if_neg c6] at H
   have c6b0 : decide (65 ≤ a0) = false := decide_eq_false c6; clear c6; obtain rfl := Option.some.inj H
   go_enter Try.func75, Try.ntmps75
   go_wp2
   go_ret
   exact ⟨qa11, qa26⟩


def spec_l00Digit.f (a0 : Int) : Option (Bool) := if a0 ≥ 48 then (some (decide (a0 ≤ 57))) else (some false)
set_option maxHeartbeats 8000000 in
set_option maxRecDepth 100000 in
theorem spec_l00Digit.calls (a0 : Int) (r : Bool) (w : World) (h : spec_l00Digit.f a0 = some r) :
  Calls Try.prog 76 #[.int .u8 a0] w fun e w' => e = .returned (.bool r) ∧ Drawn0 w w' := by
 have H : (if a0 ≥ 48 then (some (decide (a0 ≤ 57))) else (some false)) = some r := h; clear h
 by_cases c2 : a0 ≥ 48
 ·rw [if_pos c2] at H
  have c2b0 : decide (48 ≤ a0) = true := decide_eq_true c2; clear c2; obtain rfl := Option.some.inj H
  go_enter Try.func76, Try.ntmps76
  go_wp2
  go_ret
  exact ⟨qa11, qa26⟩
 ·rw [if_neg c2] at H
  have c2b0 : decide (48 ≤ a0) = false := decide_eq_false c2; clear c2; obtain rfl := Option.some.inj H
  go_enter Try.func76, Try.ntmps76
  go_wp2
  go_ret
  exact ⟨qa11, qa26⟩


mutual
def spec_l00Word.j0 : Nat → ByteArray → Bool → Option (Bool)
 | 0, _, _ => none
 | k + 1, x0, x17 => if x17 = true then (some false) else (spec_l00Word.l0 k x0 1)
def spec_l00Word.l0 : Nat → ByteArray → Int → Option (Bool)
 | 0, _, _ => none
 | k + 1, x0, x3 => if x3 < (x0.size : Int) then (if 0 ≤ x3 then ((spec_l00Letter.f (bt x0 x3)).bind fun t102 => (if t102 = true then (spec_l00Word.l0 k x0 (wrap64 (x3 + 1))) else ((spec_l00Digit.f (bt x0 x3)).bind fun t103 => (if t103 = true then (spec_l00Word.l0 k x0 (wrap64 (x3 + 1))) else (some false))))) else (none)) else (some true)
end
def spec_l00Word.f (k : Nat) (a0 : ByteArray) : Option (Bool) := if (a0.size : Int) < 1 then (spec_l00Word.j0 k a0 true) else (if (a0.size : Int) > 40 then (spec_l00Word.j0 k a0 true) else (if 0 < (a0.size : Int) then ((spec_l00Letter.f (bt a0 0)).bind fun t101 => (spec_l00Word.j0 k a0 (!t101))) else (none)))
set_option maxHeartbeats 8000000 in
set_option maxRecDepth 100000 in
theorem spec_l00Word.calls (k : Nat) (a0 : ByteArray) (r : Bool) (w : World) (h : spec_l00Word.f k a0 = some r) :
  Calls Try.prog 55 #[.string a0] w fun e w' => e = .returned (.bool r) ∧ Drawn0 w w' := by
 have H : (if (a0.size : Int) < 1 then (spec_l00Word.j0 k a0 true) else (if (a0.size : Int) > 40 then (spec_l00Word.j0 k a0 true) else (if 0 < (a0.size : Int) then ((spec_l00Letter.f (bt a0 0)).bind fun t101 => (spec_l00Word.j0 k a0 (!t101))) else (none)))) = some r := h; clear h; have HC2 := qO H; clear H
 go_enter Try.func55, Try.ntmps55
 go_upto_region 1 with (fail)
 go_cut [17] (fun v17 wc => ∃ (kq : Nat) (x17_1 : Bool), v17 = .bool x17_1 ∧ Aside0 (spec_l00Word.j0 kq a0 x17_1 = some r) ∧ Aside0 (kq ≤ k) ∧ Drawn0 w wc)
 case first =>
  have H := HC2.out; clear HC2
  by_cases c3 : (a0.size : Int) < 1
  ·rw [if_pos c3] at H
   have c3b0 : decide ((a0.size : Int) < 1) = true := decide_eq_true c3; have c3b1 : decide (a0.size < 1) = true := decide_eq_true qa27; clear c3; (first | rw [c3b0] | (simp only [i64_w, i32_w]; rw [c3b0]) | skip); have H' := qO H; clear H; go_wp2
   go_meet
   case rel => exact ⟨_, (true), qa11, H', ⟨qa77⟩, qa26⟩
  ·rw [if_neg c3] at H
   have c3b0 : decide ((a0.size : Int) < 1) = false := decide_eq_false c3; have c3b1 : decide (a0.size < 1) = false := decide_eq_false qa27; clear c3; (first | rw [c3b0] | (simp only [i64_w, i32_w]; rw [c3b0]) | skip)
   by_cases c4 : (a0.size : Int) > 40
   ·rw [if_pos c4] at H
    have c4b0 : decide (40 < (a0.size : Int)) = true := decide_eq_true c4; have c4b1 : decide (40 < a0.size) = true := decide_eq_true qa27; clear c4; have H' := qO H; clear H; go_wp2
    go_meet
    case rel => exact ⟨_, (true), qa11, H', ⟨qa77⟩, qa26⟩
   ·rw [if_neg c4] at H
    have c4b0 : decide (40 < (a0.size : Int)) = false := decide_eq_false c4; have c4b1 : decide (40 < a0.size) = false := decide_eq_false qa27; clear c4
    by_cases c5 : 0 < (a0.size : Int)
    ·rw [if_pos c5] at H
     have c5b0 : decide (0 < (a0.size : Int)) = true := decide_eq_true c5; have c5b1 : decide (0 < a0.size) = true := decide_eq_true qa27; clear c5; replace H := Option.bind_eq_some_iff.mp H; obtain ⟨t101, A70, H⟩ := H; replace H : (spec_l00Word.j0 k a0 (!t101)) = some r := H; have A7 := qO A70; clear A70; have H' := qO H; clear H; have p6 : 0 ≤ (0 : Int) := qa27; have q6 : 0 < a0.size := (by have : (0 : Int) < (a0.size : Int) := qT qa5; omega); have hx6 : ∀ h : 0 < a0.size, ((a0[0]'h).toNat : Int) = bt a0 0 := bt_at a0 0; clear p6; have qi6 : (0 < (a0.size : Int)) = True := eq_true (qT qa5); replace q6 := eq_true q6
     go_wp2_with (first | (go_at_call 75; (with_reducible refine (spec_l00Letter.calls (bt a0 0) t101 _ A7.out).mono ?_); rintro e w' ⟨rfl, ⟨nd, rfl⟩⟩))
     go_meet
     case rel => exact ⟨_, (!t101), qa11, H', ⟨qa77⟩, qa26⟩
    ·rw [if_neg c5] at H
     exact absurd H qa91
 case rest =>
  clear HC2
  try clear p2
  try clear c3
  try clear c3b0
  try clear c3b1
  try clear c4
  try clear c4b0
  try clear c4b1
  try clear c5
  try clear c5b0
  try clear c5b1
  try clear p6
  try clear q6
  try clear hx6
  try clear qi6
  try clear p6
  try clear q6
  obtain ⟨kq, x17_1, rfl, HA, HJ1, ⟨mc1, rfl⟩⟩ := hcut
  cases kq with
  | zero => exact absurd HA.out (by simp [spec_l00Word.j0])
  | succ kj1 =>
   have H := HA.out; clear HA; simp only [spec_l00Word.j0] at H
   by_cases c8 : x17_1 = true
   ·subst c8
    have H1 : (some false) = some r := by rw [if_pos rfl] at H; exact H
    clear H; have H := H1; clear H1; obtain rfl := Option.some.inj H; go_wp2
    go_ret
    exact ⟨qa11, qa26⟩
   ·replace c8 := Bool.eq_false_iff.mpr c8
    subst c8; have H1 : (spec_l00Word.l0 kj1 a0 1) = some r := by rw [if_neg (show ¬ (false = true) by decide)] at H; exact H
    clear H; have H := H1; clear H1; have H' := qO H; clear H; go_wp2
    go_loopg [3] kj1 (fun kq v3 w' => ∃ (x3_2 : Int), v3 = .int .i64 x3_2 ∧ Aside0 (spec_l00Word.l0 kq a0 x3_2 = some r) ∧ Aside0 (kq ≤ kj1) ∧ Drawn0 w w')
    case atStart => exact ⟨(1), qa11, H', ⟨Nat.le_refl _⟩, qa26⟩
    case round =>
     clear H'
     try clear c1
     try clear p2
     try clear c3
     try clear c3b0
     try clear c3b1
     try clear c4
     try clear c4b0
     try clear c4b1
     try clear c5
     try clear c5b0
     try clear c5b1
     try clear p6
     try clear q6
     try clear hx6
     try clear qi6
     try clear c8
     try clear p2
     try clear p6
     try clear q6
     obtain ⟨x3_2, rfl, HA, HK2, ⟨m2, rfl⟩⟩ := hrel
     cases gk with
     | zero => exact absurd HA.out (by simp [spec_l00Word.l0])
     | succ k2 =>
      have H := HA.out; clear HA; simp only [spec_l00Word.l0] at H
      by_cases c9 : x3_2 < (a0.size : Int)
      ·rw [if_pos c9] at H
       have c9b0 : decide (x3_2 < (a0.size : Int)) = true := decide_eq_true c9; clear c9
       by_cases c10 : 0 ≤ x3_2
       ·rw [if_pos c10] at H
        have c10b0 : decide (0 ≤ x3_2) = true := decide_eq_true c10; clear c10; replace H := Option.bind_eq_some_iff.mp H; obtain ⟨t102, A120, H⟩ := H; replace H : (if t102 = true then (spec_l00Word.l0 k2 a0 (wrap64 (x3_2 + 1))) else ((spec_l00Digit.f (bt a0 x3_2)).bind fun t103 => (if t103 = true then (spec_l00Word.l0 k2 a0 (wrap64 (x3_2 + 1))) else (some false)))) = some r := H; have A12 := qO A120; clear A120
        by_cases c13 : t102 = true
        ·subst c13
         have H1 : (spec_l00Word.l0 k2 a0 (wrap64 (x3_2 + 1))) = some r := by rw [if_pos rfl] at H; exact H
         clear H; have H := H1; clear H1; have H' := qO H; clear H; have p11 : 0 ≤ (x3_2 : Int) := qT qa5; have q11 : x3_2 < (a0.size : Int) := qT qa5; have hx11 := bt_at a0 x3_2; replace p11 := eq_true p11; replace q11 := eq_true q11
         go_wp2_with (first | ((with_reducible refine gate_callee (f := 75) rfl ?_); refine goesL_ (some 27) rfl rfl Try.func75 qa17 rfl #[.int .u8 (bt a0 x3_2)] rfl qa1 ?_; (with_reducible refine (spec_l00Letter.calls (bt a0 x3_2) true _ A12.out).mono ?_); rintro e w' ⟨rfl, ⟨nd, rfl⟩⟩; refine ⟨_, rfl, ?_⟩))
         go_roundg k2
         case measure => have := HJ1.out; have := HK2.out; omega
         case rel => exact ⟨(wrap64 (x3_2 + 1)), qa11, H', ⟨by have := HJ1.out; have := HK2.out; omega⟩, qa26⟩
        ·replace c13 := Bool.eq_false_iff.mpr c13
         subst c13; have H1 : ((spec_l00Digit.f (bt a0 x3_2)).bind fun t103 => (if t103 = true then (spec_l00Word.l0 k2 a0 (wrap64 (x3_2 + 1))) else (some false))) = some r := by rw [if_neg (show ¬ (false = true) by decide)] at H; exact H
         clear H; have H := H1; clear H1; replace H := Option.bind_eq_some_iff.mp H; obtain ⟨t103, A150, H⟩ := H; replace H : (if t103 = true then (spec_l00Word.l0 k2 a0 (wrap64 (x3_2 + 1))) else (some false)) = some r := H; have A15 := qO A150; clear A150
         by_cases c16 : t103 = true
         ·subst c16
          have H1 : (spec_l00Word.l0 k2 a0 (wrap64 (x3_2 + 1))) = some r := by rw [if_pos rfl] at H; exact H
          clear H; have H := H1; clear H1; have H' := qO H; clear H; have p11 : 0 ≤ (x3_2 : Int) := qT qa5; have q11 : x3_2 < (a0.size : Int) := qT qa5; have hx11 := bt_at a0 x3_2; replace p11 := eq_true p11; replace q11 := eq_true q11
          go_wp2_with (first | ((with_reducible refine gate_callee (f := 75) rfl ?_); refine goesL_ (some 27) rfl rfl Try.func75 qa17 rfl #[.int .u8 (bt a0 x3_2)] rfl qa1 ?_; (with_reducible refine (spec_l00Letter.calls (bt a0 x3_2) false _ A12.out).mono ?_); rintro e w' ⟨rfl, ⟨nd, rfl⟩⟩; refine ⟨_, rfl, ?_⟩; have p14 : 0 ≤ (x3_2 : Int) := qT qa5; have q14 : x3_2 < (a0.size : Int) := qT qa5; have hx14 := bt_at a0 x3_2; replace p14 := eq_true p14; replace q14 := eq_true q14) | (go_at_call 76; (with_reducible refine (spec_l00Digit.calls (bt a0 x3_2) true _ A15.out).mono ?_); rintro e w' ⟨rfl, ⟨nd, rfl⟩⟩))
          go_roundg k2
          case measure => have := HJ1.out; have := HK2.out; omega
          case rel => exact ⟨(wrap64 (x3_2 + 1)), qa11, H', ⟨by have := HJ1.out; have := HK2.out; omega⟩, qa26⟩
         ·replace c16 := Bool.eq_false_iff.mpr c16
          subst c16; have H1 : (some false) = some r := by rw [if_neg (show ¬ (false = true) by decide)] at H; exact H
          clear H; have H := H1; clear H1; obtain rfl := Option.some.inj H; have p11 : 0 ≤ (x3_2 : Int) := qT qa5; have q11 : x3_2 < (a0.size : Int) := qT qa5; have hx11 := bt_at a0 x3_2; replace p11 := eq_true p11; replace q11 := eq_true q11
          go_wp2_with (first | ((with_reducible refine gate_callee (f := 75) rfl ?_); refine goesL_ (some 27) rfl rfl Try.func75 qa17 rfl #[.int .u8 (bt a0 x3_2)] rfl qa1 ?_; (with_reducible refine (spec_l00Letter.calls (bt a0 x3_2) false _ A12.out).mono ?_); rintro e w' ⟨rfl, ⟨nd, rfl⟩⟩; refine ⟨_, rfl, ?_⟩; have p14 : 0 ≤ (x3_2 : Int) := qT qa5; have q14 : x3_2 < (a0.size : Int) := qT qa5; have hx14 := bt_at a0 x3_2; replace p14 := eq_true p14; replace q14 := eq_true q14) | (go_at_call 76; (with_reducible refine (spec_l00Digit.calls (bt a0 x3_2) false _ A15.out).mono ?_); rintro e w' ⟨rfl, ⟨nd, rfl⟩⟩))
          go_ret
          exact ⟨qa11, qa26⟩
       ·rw [if_neg c10] at H
        exact absurd H qa91
      ·rw [if_neg c9] at H
       have c9b0 : decide (x3_2 < (a0.size : Int)) = false := decide_eq_false c9; clear c9; obtain rfl := Option.some.inj H; go_wp2
       go_ret
       exact ⟨qa11, qa26⟩


def spec_NameOK.f (k : Nat) (a0 : ByteArray) : Option (Bool) := (spec_l00Word.f k a0).bind fun t101 => (some t101)
set_option maxHeartbeats 8000000 in
set_option maxRecDepth 100000 in
theorem spec_NameOK.calls (k : Nat) (a0 : ByteArray) (r : Bool) (w : World) (h : spec_NameOK.f k a0 = some r) :
  Calls Try.prog 29 #[.string a0] w fun e w' => e = .returned (.bool r) ∧ Drawn0 w w' := by
 have H : ((spec_l00Word.f k a0).bind fun t101 => (some t101)) = some r := h; clear h; replace H := Option.bind_eq_some_iff.mp H; obtain ⟨t101, A20, H⟩ := H; replace H : (some t101) = some r := H; have A2 := qO A20; clear A20; obtain rfl := Option.some.inj H
 go_enter Try.func29, Try.ntmps29
 go_wp2_with (first | ((with_reducible refine gate_callee (f := 55) rfl ?_); refine goesL_ (some 4) rfl rfl Try.func55 qa17 rfl #[.string a0] rfl qa1 ?_; (with_reducible refine (spec_l00Word.calls k a0 t101 _ A2.out).mono ?_); rintro e w' ⟨rfl, ⟨nd, rfl⟩⟩; refine ⟨_, rfl, ?_⟩))
 go_ret
 exact ⟨qa11, qa26⟩


def spec_l03Arg.l0 : Nat → ByteArray → Int → ByteArray → List (S57) → ByteArray → Bool → Bool → Option (Int)
 | 0, _, _, _, _, _, _, _ => none
 | k + 1, x1, x5, x102000, x102001, x102002, x102003, x102004 => if x5 < (x102001.length : Int) then (if 0 ≤ x5 then (if ((rd_T57 x102001 x5).f0).toList = x1.toList then (some x5) else (spec_l03Arg.l0 k x1 (wrap64 (x5 + 1)) x102000 x102001 x102002 x102003 x102004)) else (none)) else (some (-1))
def spec_l03Arg.f (k : Nat) (a0_0 : ByteArray) (l0_1 : List (S57)) (a0_2 : ByteArray) (a0_3 : Bool) (a0_4 : Bool) (a1 : ByteArray) : Option (Int) := spec_l03Arg.l0 k a1 0 a0_0 l0_1 a0_2 a0_3 a0_4
set_option maxHeartbeats 8000000 in
set_option maxRecDepth 100000 in
theorem spec_l03Arg.calls (k : Nat) (a0_0 : ByteArray) (A0_1 : Option Addr) (c0_1 : Nat) (l0_1 : List (S57)) (a0_2 : ByteArray) (a0_3 : Bool) (a0_4 : Bool) (a1 : ByteArray) (r : Int) (w : World) (hr0_1 : Kd.C k57 w A0_1 l0_1.length l0_1) (hc0_1 : l0_1.length ≤ c0_1) (h : spec_l03Arg.f k a0_0 l0_1 a0_2 a0_3 a0_4 a1 = some r) :
  Calls Try.prog 31 #[.agg #[.string a0_0, .slice A0_1 l0_1.length c0_1, .string a0_2, .bool a0_3, .bool a0_4], .string a1] w fun e w' => e = .returned (.int .i64 r) ∧ Below w.heap.size w w' := by
 have hu38 := Try.underlying38; have HR0_1 := qO hr0_1; have HC0_1 := qO hc0_1; clear hr0_1 hc0_1; have HB := qO (Below.refl w.heap.size w); have H : (spec_l03Arg.l0 k a1 0 a0_0 l0_1 a0_2 a0_3 a0_4) = some r := h; clear h; have H' := qO H; clear H
 go_enter Try.func31, Try.ntmps31
 go_wp2_with (first | ((with_reducible refine gate_dst (N := 2) rfl ?_); refine box_event ?hg (N := 2) ?hd (cs := #[.string a0_0, .slice A0_1 l0_1.length c0_1, .string a0_2, .bool a0_3, .bool a0_4]) (t := 38) ?hr ?_; (case hd => rfl); (case hg => rfl); (case hr => exact qa18); intro gb101 hg w3 hbox hb; have hx_ := qHX HB hb qa0; have n0_ := qO (below_step (below_step HB.out hx_) hb); have n1_ := qO (hbox); have n2_ := qO ((qa15 : w.heap.size ≤ gb101)); have n3_ := n2_; clear HB; have HB := n0_; have BK101 := n1_; have GW101 := n2_; have GE101 := n3_; clear n0_ n1_ n2_ n3_; clear hx_; clear hb hbox hg))
 go_loopg [5] k (fun kq v5 w' => ∃ (x5_1 : Int), v5 = .int .i64 x5_1 ∧ Aside0 (spec_l03Arg.l0 kq a1 x5_1 a0_0 l0_1 a0_2 a0_3 a0_4 = some r) ∧ Aside0 (kq ≤ k) ∧ Aside0 (w'.heap[gb101]? = some (.cells #[.string a0_0, (.slice A0_1 l0_1.length c0_1), .string a0_2, .bool a0_3, .bool a0_4] 38 (0, 0))) ∧ Aside0 (Below w.heap.size w w'))
 case atStart => exact ⟨(0), qa11, H', ⟨Nat.le_refl _⟩, ⟨qa13⟩, ⟨qa6⟩⟩
 case round =>
  clear H'
  try clear p2
  try clear c3
  obtain ⟨x5_1, rfl, HA, HK1, BK101, HB⟩ := hrel
  cases gk with
  | zero => exact absurd HA.out (by simp [spec_l03Arg.l0])
  | succ k1 =>
   have H := HA.out; clear HA; simp only [spec_l03Arg.l0] at H
   by_cases c4 : x5_1 < (l0_1.length : Int)
   ·rw [if_pos c4] at H
    have c4b0 : decide (x5_1 < (l0_1.length : Int)) = true := decide_eq_true c4; clear c4
    by_cases c5 : 0 ≤ x5_1
    ·rw [if_pos c5] at H
     have c5b0 : decide (0 ≤ x5_1) = true := decide_eq_true c5; clear c5
     by_cases c6 : ((rd_T57 l0_1 x5_1).f0).toList = a1.toList
     ·rw [if_pos c6] at H
      have c6b0 : (((rd_T57 l0_1 x5_1).f0).toList == a1.toList) = true := beq_iff_eq.mpr c6; have c6b1 : (((rd_T57 l0_1 x5_1).f0).toList != a1.toList) = false := bne_eq_false_iff_eq.mpr c6; clear c6; obtain rfl := Option.some.inj H; have hcz7_0 : wr.cell? ⟨gb101, 0, none⟩ = some (.string a0_0) := (blk_cell BK101.out 0).trans rfl; have hcz7_1 : wr.cell? ⟨gb101, 1, none⟩ = some (.slice A0_1 l0_1.length c0_1) := (blk_cell BK101.out 1).trans rfl; have hcz7_2 : wr.cell? ⟨gb101, 2, none⟩ = some (.string a0_2) := (blk_cell BK101.out 2).trans rfl; have hcz7_3 : wr.cell? ⟨gb101, 3, none⟩ = some (.bool a0_3) := (blk_cell BK101.out 3).trans rfl; have hcz7_4 : wr.cell? ⟨gb101, 4, none⟩ = some (.bool a0_4) := (blk_cell BK101.out 4).trans rfl; have hfz7_0 := blk_frozen BK101.out 0; have hfz7_1 := blk_frozen BK101.out 1; have hfz7_2 := blk_frozen BK101.out 2; have hfz7_3 := blk_frozen BK101.out 3; have hfz7_4 := blk_frozen BK101.out 4; have p102 : 0 ≤ (x5_1 : Int) := qT qa5; have q102 : x5_1 < (l0_1.length : Int) := qT qa5; obtain ⟨ad102, e102, hx102_0, hx102_1⟩ := at_T57 HR0_1.out x5_1 p102 q102
      cases e102
      replace hx102_0 := (HB.out.cell (qL w _ hx102_0)).trans hx102_0; replace hx102_1 := (HB.out.cell (qL w _ hx102_1)).trans hx102_1; replace p102 := eq_true p102; replace q102 := eq_true q102; go_wp2
      go_ret
      exact ⟨qa3, qa6⟩
     ·rw [if_neg c6] at H
      have c6b0 : (((rd_T57 l0_1 x5_1).f0).toList == a1.toList) = false := beq_eq_false_iff_ne.mpr c6; have c6b1 : (((rd_T57 l0_1 x5_1).f0).toList != a1.toList) = true := bne_iff_ne.mpr c6; have H' := qO H; clear H; have hcz8_0 : wr.cell? ⟨gb101, 0, none⟩ = some (.string a0_0) := (blk_cell BK101.out 0).trans rfl; have hcz8_1 : wr.cell? ⟨gb101, 1, none⟩ = some (.slice A0_1 l0_1.length c0_1) := (blk_cell BK101.out 1).trans rfl; have hcz8_2 : wr.cell? ⟨gb101, 2, none⟩ = some (.string a0_2) := (blk_cell BK101.out 2).trans rfl; have hcz8_3 : wr.cell? ⟨gb101, 3, none⟩ = some (.bool a0_3) := (blk_cell BK101.out 3).trans rfl; have hcz8_4 : wr.cell? ⟨gb101, 4, none⟩ = some (.bool a0_4) := (blk_cell BK101.out 4).trans rfl; have hfz8_0 := blk_frozen BK101.out 0; have hfz8_1 := blk_frozen BK101.out 1; have hfz8_2 := blk_frozen BK101.out 2; have hfz8_3 := blk_frozen BK101.out 3; have hfz8_4 := blk_frozen BK101.out 4; have p102 : 0 ≤ (x5_1 : Int) := qT qa5; have q102 : x5_1 < (l0_1.length : Int) := qT qa5; obtain ⟨ad102, e102, hx102_0, hx102_1⟩ := at_T57 HR0_1.out x5_1 p102 q102
      cases e102
      replace hx102_0 := (HB.out.cell (qL w _ hx102_0)).trans hx102_0; replace hx102_1 := (HB.out.cell (qL w _ hx102_1)).trans hx102_1; replace p102 := eq_true p102; replace q102 := eq_true q102; go_wp2
      go_roundg k1
      case measure => have := HK1.out; omega
      case rel => exact ⟨(wrap64 (x5_1 + 1)), qa11, H', ⟨qa87⟩, ⟨qa13⟩, ⟨qa6⟩⟩
    ·rw [if_neg c5] at H
     exact absurd H qa91
   ·rw [if_neg c4] at H
    have c4b0 : decide (x5_1 < (l0_1.length : Int)) = false := decide_eq_false c4; clear c4; obtain rfl := Option.some.inj H; have hcz9_0 : wr.cell? ⟨gb101, 0, none⟩ = some (.string a0_0) := (blk_cell BK101.out 0).trans rfl; have hcz9_1 : wr.cell? ⟨gb101, 1, none⟩ = some (.slice A0_1 l0_1.length c0_1) := (blk_cell BK101.out 1).trans rfl; have hcz9_2 : wr.cell? ⟨gb101, 2, none⟩ = some (.string a0_2) := (blk_cell BK101.out 2).trans rfl; have hcz9_3 : wr.cell? ⟨gb101, 3, none⟩ = some (.bool a0_3) := (blk_cell BK101.out 3).trans rfl; have hcz9_4 : wr.cell? ⟨gb101, 4, none⟩ = some (.bool a0_4) := (blk_cell BK101.out 4).trans rfl; have hfz9_0 := blk_frozen BK101.out 0; have hfz9_1 := blk_frozen BK101.out 1; have hfz9_2 := blk_frozen BK101.out 2; have hfz9_3 := blk_frozen BK101.out 3; have hfz9_4 := blk_frozen BK101.out 4; go_wp2
    go_ret
    exact ⟨qa3, qa6⟩


mutual
def spec_SchemaOK.j0 : Nat → Bool → List (S53) → Option (Bool)
 | 0, _, _ => none
 | k + 1, x17, x102000 => if x17 = true then (some false) else (spec_SchemaOK.l0 k 0 x102000)
def spec_SchemaOK.l0 : Nat → Int → List (S53) → Option (Bool)
 | 0, _, _ => none
 | k + 1, x3, x102000 => if x3 < (x102000.length : Int) then (if 0 ≤ x3 then ((spec_NameOK.f k ((rd_T53 x102000 x3).f0)).bind fun t106 => (if t106 = true then (if ((rd_T53 x102000 x3).f0).toList = ([73, 110, 116] : List UInt8) then (spec_SchemaOK.j2 k x3 true x102000 ((rd_T53 x102000 x3).f0) ((rd_T53 x102000 x3).f1)) else ((spec_l03Find.f k x102000 ((rd_T53 x102000 x3).f0)).bind fun t107 => (if t107 = x3 then ((spec_l01In.f (((rd_T53 x102000 x3).f1).length : Int) 1 10).bind fun t108 => (spec_SchemaOK.j2 k x3 (!t108) x102000 ((rd_T53 x102000 x3).f0) ((rd_T53 x102000 x3).f1))) else (spec_SchemaOK.j2 k x3 true x102000 ((rd_T53 x102000 x3).f0) ((rd_T53 x102000 x3).f1))))) else (spec_SchemaOK.j2 k x3 true x102000 ((rd_T53 x102000 x3).f0) ((rd_T53 x102000 x3).f1)))) else (none)) else (some true)
def spec_SchemaOK.j2 : Nat → Int → Bool → List (S53) → ByteArray → List (S38) → Option (Bool)
 | 0, _, _, _, _, _ => none
 | k + 1, x3, x53, x102000, x106000, x106001 => if x53 = true then (some false) else (spec_SchemaOK.l1 k x3 0 x102000 x106000 x106001)
def spec_SchemaOK.l1 : Nat → Int → Int → List (S53) → ByteArray → List (S38) → Option (Bool)
 | 0, _, _, _, _, _ => none
 | k + 1, x3, x5, x102000, x106000, x106001 => if x5 < (x106001.length : Int) then (if 0 ≤ x5 then ((spec_NameOK.f k ((rd_T38 x106001 x5).f0)).bind fun t111 => (if t111 = true then (if ((rd_T38 x106001 x5).f0).toList = ([95, 95, 116, 121, 112, 101, 110, 97, 109, 101] : List UInt8) then (spec_SchemaOK.j4 k x3 x5 true x102000 x106000 x106001 ((rd_T38 x106001 x5).f0) ((rd_T38 x106001 x5).f1) ((rd_T38 x106001 x5).f2) ((rd_T38 x106001 x5).f3) ((rd_T38 x106001 x5).f4)) else ((spec_l03Field.f k x106000 x106001 ((rd_T38 x106001 x5).f0)).bind fun t112 => (if t112 = x5 then (if ((rd_T38 x106001 x5).f2).toList = ([73, 110, 116] : List UInt8) then (spec_SchemaOK.j4 k x3 x5 (decide ((((rd_T38 x106001 x5).f1).length : Int) > 4)) x102000 x106000 x106001 ((rd_T38 x106001 x5).f0) ((rd_T38 x106001 x5).f1) ((rd_T38 x106001 x5).f2) ((rd_T38 x106001 x5).f3) ((rd_T38 x106001 x5).f4)) else ((spec_l03Find.f k x102000 ((rd_T38 x106001 x5).f2)).bind fun t113 => (if t113 < 0 then (spec_SchemaOK.j4 k x3 x5 true x102000 x106000 x106001 ((rd_T38 x106001 x5).f0) ((rd_T38 x106001 x5).f1) ((rd_T38 x106001 x5).f2) ((rd_T38 x106001 x5).f3) ((rd_T38 x106001 x5).f4)) else (spec_SchemaOK.j4 k x3 x5 (decide ((((rd_T38 x106001 x5).f1).length : Int) > 4)) x102000 x106000 x106001 ((rd_T38 x106001 x5).f0) ((rd_T38 x106001 x5).f1) ((rd_T38 x106001 x5).f2) ((rd_T38 x106001 x5).f3) ((rd_T38 x106001 x5).f4))))) else (spec_SchemaOK.j4 k x3 x5 true x102000 x106000 x106001 ((rd_T38 x106001 x5).f0) ((rd_T38 x106001 x5).f1) ((rd_T38 x106001 x5).f2) ((rd_T38 x106001 x5).f3) ((rd_T38 x106001 x5).f4))))) else (spec_SchemaOK.j4 k x3 x5 true x102000 x106000 x106001 ((rd_T38 x106001 x5).f0) ((rd_T38 x106001 x5).f1) ((rd_T38 x106001 x5).f2) ((rd_T38 x106001 x5).f3) ((rd_T38 x106001 x5).f4)))) else (none)) else (spec_SchemaOK.l0 k (wrap64 (x3 + 1)) x102000)
def spec_SchemaOK.j4 : Nat → Int → Int → Bool → List (S53) → ByteArray → List (S38) → ByteArray → List (S57) → ByteArray → Bool → Bool → Option (Bool)
 | 0, _, _, _, _, _, _, _, _, _, _, _ => none
 | k + 1, x3, x5, x100, x102000, x106000, x106001, x111000, x111001, x111002, x111003, x111004 => if x100 = true then (some false) else (spec_SchemaOK.l2 k x3 x5 0 x102000 x106000 x106001 x111000 x111001 x111002 x111003 x111004)
def spec_SchemaOK.l2 : Nat → Int → Int → Int → List (S53) → ByteArray → List (S38) → ByteArray → List (S57) → ByteArray → Bool → Bool → Option (Bool)
 | 0, _, _, _, _, _, _, _, _, _, _, _ => none
 | k + 1, x3, x5, x7, x102000, x106000, x106001, x111000, x111001, x111002, x111003, x111004 => if x7 < (x111001.length : Int) then (if 0 ≤ x7 then ((spec_NameOK.f k ((rd_T57 x111001 x7).f0)).bind fun t115 => (if t115 = true then ((spec_l03Arg.f k x111000 x111001 x111002 x111003 x111004 ((rd_T57 x111001 x7).f0)).bind fun t117 => (if t117 = x7 then (spec_SchemaOK.l2 k x3 x5 (wrap64 (x7 + 1)) x102000 x106000 x106001 x111000 x111001 x111002 x111003 x111004) else (some false))) else (some false))) else (none)) else (spec_SchemaOK.l1 k x3 (wrap64 (x5 + 1)) x102000 x106000 x106001)
end
def spec_SchemaOK.f (k : Nat) (l0_0 : List (S53)) : Option (Bool) := (spec_l01In.f (l0_0.length : Int) 1 8).bind fun t102 => (if t102 = true then ((spec_l03Find.f k l0_0 (⟨#[81, 117, 101, 114, 121]⟩ : ByteArray)).bind fun t103 => (spec_SchemaOK.j0 k (decide (t103 < 0)) l0_0)) else (spec_SchemaOK.j0 k true l0_0))
def spec_SchemaOK.T18 : Bool × List (List Nat × List Nat) := (true, [([], []), ([0], [0]), ([], []), ([1, 2], [1, 2]), ([3], [3]), ([4], [4]), ([5], [5]), ([6], [6]), ([7, 6], [7]), ([8], [8]), ([8], [8]), ([10, 8], [8, 10]), ([8], [8]), ([11, 12, 8], [8, 11, 12]), ([13, 8], [8, 13]), ([14, 8], [8, 14]), ([9, 15, 8, 8], [8, 9, 15]), ([8], [8]), ([16, 17, 8], [8, 16, 17]), ([8, 18], [8, 18])])
def spec_SchemaOK.B18 : List Nat := [0, 1, 0, 7, 15, 31, 63, 127, 255, 511, 511, 1535, 511, 7679, 15871, 32255, 65535, 511, 262143, 524287]
theorem spec_SchemaOK.tab18 : rtab .any (opsOf Try.f9 18) = spec_SchemaOK.T18 := by kernel_rfl
theorem spec_SchemaOK.bits18 : waitsOk spec_SchemaOK.T18.2 spec_SchemaOK.B18 = true := by kernel_rfl
def spec_SchemaOK.y0 : Array Bool := #[false, false, false, false, false, false, false, false, false, false, false, false, false, false, false, false, false, false, false, false]
def spec_SchemaOK.y1 : Array Bool := #[true, false, false, false, false, false, false, false, false, false, false, false, false, false, false, false, false, false, false, false]
def spec_SchemaOK.y2 : Array Bool := #[true, false, true, false, false, false, false, false, false, false, false, false, false, false, false, false, false, false, false, false]
def spec_SchemaOK.y3 : Array Bool := #[true, true, true, false, false, false, false, false, false, false, false, false, false, false, false, false, false, false, false, false]
def spec_SchemaOK.y4 : Array Bool := #[true, true, true, true, false, false, false, false, false, false, false, false, false, false, false, false, false, false, false, false]
def spec_SchemaOK.y5 : Array Bool := #[true, true, true, true, true, false, false, false, false, false, false, false, false, false, false, false, false, false, false, false]
def spec_SchemaOK.y6 : Array Bool := #[true, true, true, true, true, true, false, false, false, false, false, false, false, false, false, false, false, false, false, false]
def spec_SchemaOK.y7 : Array Bool := #[true, true, true, true, true, true, true, false, false, false, false, false, false, false, false, false, false, false, false, false]
def spec_SchemaOK.y8 : Array Bool := #[true, true, true, true, true, true, true, true, false, false, false, false, false, false, false, false, false, false, false, false]
def spec_SchemaOK.y9 : Array Bool := #[true, true, true, true, true, true, true, true, true, false, false, false, false, false, false, false, false, false, false, false]
def spec_SchemaOK.y10 : Array Bool := #[true, true, true, true, true, true, true, true, true, false, true, false, false, false, false, false, false, false, false, false]
def spec_SchemaOK.y11 : Array Bool := #[true, true, true, true, true, true, true, true, true, false, true, false, true, false, false, false, false, false, false, false]
def spec_SchemaOK.y12 : Array Bool := #[true, true, true, true, true, true, true, true, true, false, true, false, true, false, false, false, false, true, false, false]
def spec_SchemaOK.y13 : Array Bool := #[true, true, true, true, true, true, true, true, true, true, true, false, true, false, false, false, false, true, false, false]
def spec_SchemaOK.y14 : Array Bool := #[true, true, true, true, true, true, true, true, true, true, true, true, true, false, false, false, false, true, false, false]
def spec_SchemaOK.y15 : Array Bool := #[true, true, true, true, true, true, true, true, true, true, true, true, true, true, false, false, false, true, false, false]
def spec_SchemaOK.y16 : Array Bool := #[true, true, true, true, true, true, true, true, true, true, true, true, true, true, true, false, false, true, false, false]
def spec_SchemaOK.y17 : Array Bool := #[true, true, true, true, true, true, true, true, true, true, true, true, true, true, true, true, false, true, false, false]
def spec_SchemaOK.y18 : Array Bool := #[true, true, true, true, true, true, true, true, true, true, true, true, true, true, true, true, true, true, false, false]
def spec_SchemaOK.y19 : Array Bool := #[true, true, true, true, true, true, true, true, true, true, true, true, true, true, true, true, true, true, true, false]
def spec_SchemaOK.y20 : Array Bool := #[true, true, true, true, true, true, true, true, true, true, true, true, true, true, true, true, true, true, true, true]
def spec_SchemaOK.y21 : Array Bool := #[true, true, true, true, true, true, true, true, true, true, false, false, false, false, false, false, false, false, false, false]
def spec_SchemaOK.y22 : Array Bool := #[true, true, true, true, true, true, true, true, true, true, true, false, false, false, false, false, false, false, false, false]
def spec_SchemaOK.y23 : Array Bool := #[true, true, true, true, true, true, true, true, true, true, true, true, false, false, false, false, false, false, false, false]
def spec_SchemaOK.y24 : Array Bool := #[true, true, true, true, true, true, true, true, true, true, true, true, true, false, false, false, false, false, false, false]
def spec_SchemaOK.y25 : Array Bool := #[true, true, true, true, true, true, true, true, true, true, true, true, true, true, false, false, false, false, false, false]
def spec_SchemaOK.y26 : Array Bool := #[true, true, true, true, true, true, true, true, true, true, true, true, true, true, true, false, false, false, false, false]
def spec_SchemaOK.y27 : Array Bool := #[true, true, true, true, true, true, true, true, true, true, true, true, true, true, true, true, false, false, false, false]
def spec_SchemaOK.y28 : Array Bool := #[true, true, true, true, true, true, true, true, true, true, true, true, true, true, true, true, true, false, false, false]
set_option maxHeartbeats 8000000 in
set_option maxRecDepth 100000 in
theorem spec_SchemaOK.calls (k : Nat) (A0_0 : Option Addr) (c0_0 : Nat) (l0_0 : List (S53)) (r : Bool) (w : World) (hr0_0 : Kd.C k53 w A0_0 l0_0.length l0_0) (hc0_0 : l0_0.length ≤ c0_0) (h : spec_SchemaOK.f k l0_0 = some r) :
  Calls Try.prog 9 #[.agg #[.slice A0_0 l0_0.length c0_0]] w fun e w' => e = .returned (.bool r) ∧ Below w.heap.size w w' := by
 have hu29 := Try.underlying29; have hu53 := Try.underlying53; have hu38 := Try.underlying38; have HR0_0 := qO hr0_0; have HC0_0 := qO hc0_0; clear hr0_0 hc0_0; have HB := qO (Below.refl w.heap.size w); have H : ((spec_l01In.f (l0_0.length : Int) 1 8).bind fun t102 => (if t102 = true then ((spec_l03Find.f k l0_0 (⟨#[81, 117, 101, 114, 121]⟩ : ByteArray)).bind fun t103 => (spec_SchemaOK.j0 k (decide (t103 < 0)) l0_0)) else (spec_SchemaOK.j0 k true l0_0))) = some r := h; clear h; have HC2 := qO H; clear H
 go_enter Try.func9, Try.ntmps9
 go_upto_region 1 with (first | ((with_reducible refine gate_dst (N := 1) rfl ?_); (try (refine gate_guard (by rfl) ?_; dsimp only)); refine box_event ?hg (N := 1) ?hd (cs := #[.slice A0_0 l0_0.length c0_0]) (t := 29) ?hr ?_; (case hd => rfl); (case hg => rfl); (case hr => exact qa18); intro gb101 hg w3 hbox hb; have n0_ := qO (below_step qa8 hb); have n1_ := qO (hbox); have n2_ := qO ((qa40 : w.heap.size ≤ gb101)); have n3_ := qO ((qa40 : w.heap.size ≤ gb101)); clear HB; have HB := n0_; have BK101 := n1_; have GW101 := n2_; have GE101 := n3_; clear n0_ n1_ n2_ n3_; clear hb hbox hg))
 (try simp only [Act.put, qzA, qzB, qzC])
 go_cut [17] (fun v17 wc => ∃ (kq : Nat) (x17_1 : Bool), v17 = .bool x17_1 ∧ Aside0 (spec_SchemaOK.j0 kq x17_1 l0_0 = some r) ∧ Aside0 (kq ≤ k) ∧ Aside0 (wc.heap[gb101]? = some (.cells #[(.slice A0_0 l0_0.length c0_0)] 29 (0, 0))) ∧ Aside0 (Below w.heap.size w wc))
 case first =>
  have H := HC2.out; clear HC2; replace H := Option.bind_eq_some_iff.mp H; obtain ⟨t102, A40, H⟩ := H; replace H : (if t102 = true then ((spec_l03Find.f k l0_0 (⟨#[81, 117, 101, 114, 121]⟩ : ByteArray)).bind fun t103 => (spec_SchemaOK.j0 k (decide (t103 < 0)) l0_0)) else (spec_SchemaOK.j0 k true l0_0)) = some r := H; have A4 := qO A40; clear A40
  by_cases c5 : t102 = true
  ·subst c5
   have H1 : ((spec_l03Find.f k l0_0 (⟨#[81, 117, 101, 114, 121]⟩ : ByteArray)).bind fun t103 => (spec_SchemaOK.j0 k (decide (t103 < 0)) l0_0)) = some r := by rw [if_pos rfl] at H; exact H
   clear H; have H := H1; clear H1; replace H := Option.bind_eq_some_iff.mp H; obtain ⟨t103, A60, H⟩ := H; replace H : (spec_SchemaOK.j0 k (decide (t103 < 0)) l0_0) = some r := H; have A6 := qO A60; clear A60; have H' := qO H; clear H; have hcz7_0 : w3.cell? ⟨gb101, 0, none⟩ = some (.slice A0_0 l0_0.length c0_0) := (blk_cell BK101.out 0).trans rfl; have hfz7_0 := blk_frozen BK101.out 0
   go_wp2_with (first | ((with_reducible refine gate_callee (f := 27) rfl ?_); refine goesL_ (some 11) rfl rfl Try.func27 qa17 rfl #[.int .i64 (l0_0.length : Int), .int .i64 1, .int .i64 8] rfl qa1 ?_; (with_reducible refine (spec_l01In.calls (l0_0.length : Int) 1 8 true _ A4.out).mono ?_); rintro e w' ⟨rfl, ⟨nd, rfl⟩⟩; refine ⟨_, rfl, ?_⟩) | (go_at_call 28; (with_reducible refine (spec_l03Find.calls k _ _ l0_0 (⟨#[81, 117, 101, 114, 121]⟩ : ByteArray) t103 _ ?side1 ?side2 A6.out).mono ?_); (case side1 => exact qa74); (case side2 => exact HC0_0.out); rintro e w8 ⟨rfl, hb⟩; have hx_ := qHX HB hb qa0; have n0_ := qO (qB BK101.out hx_ hb); have n1_ := qO (below_step (below_step HB.out hx_) hb); clear BK101; clear HB; have BK101 := n0_; have HB := n1_; clear n0_ n1_; clear hx_; (try clear hb); (try clear hb2); (try clear hk); (try clear hi)))
   go_meet
   case rel => exact ⟨_, (decide (t103 < 0)), qa11, H', ⟨qa77⟩, ⟨qa13⟩, ⟨qa6⟩⟩
  ·replace c5 := Bool.eq_false_iff.mpr c5
   subst c5; have H1 : (spec_SchemaOK.j0 k true l0_0) = some r := by rw [if_neg (show ¬ (false = true) by decide)] at H; exact H
   clear H; have H := H1; clear H1; have H' := qO H; clear H; have hcz9_0 : w3.cell? ⟨gb101, 0, none⟩ = some (.slice A0_0 l0_0.length c0_0) := (blk_cell BK101.out 0).trans rfl; have hfz9_0 := blk_frozen BK101.out 0
   go_wp2_with (first | ((with_reducible refine gate_callee (f := 27) rfl ?_); refine goesL_ (some 11) rfl rfl Try.func27 qa17 rfl #[.int .i64 (l0_0.length : Int), .int .i64 1, .int .i64 8] rfl qa1 ?_; (with_reducible refine (spec_l01In.calls (l0_0.length : Int) 1 8 false _ A4.out).mono ?_); rintro e w' ⟨rfl, ⟨nd, rfl⟩⟩; refine ⟨_, rfl, ?_⟩))
   go_meet
   case rel => exact ⟨_, (true), qa11, H', ⟨qa77⟩, ⟨qa13⟩, ⟨qa6⟩⟩
 case rest =>
  clear HC2
  try clear c2
  try clear p2
  try clear c5
  try clear c9
  try clear hcz7_0
  try clear hcz9_0
  try clear hfz7_0
  try clear hfz9_0
  obtain ⟨kq, x17_1, rfl, HA, HJ1, BK101, HB⟩ := hcut
  cases kq with
  | zero => exact absurd HA.out (by simp [spec_SchemaOK.j0])
  | succ kj1 =>
   have H := HA.out; clear HA; simp only [spec_SchemaOK.j0] at H
   by_cases c10 : x17_1 = true
   ·subst c10
    have H1 : (some false) = some r := by rw [if_pos rfl] at H; exact H
    clear H; have H := H1; clear H1; obtain rfl := Option.some.inj H; go_wp2
    go_ret
    exact ⟨qa3, qa6⟩
   ·replace c10 := Bool.eq_false_iff.mpr c10
    subst c10; have H1 : (spec_SchemaOK.l0 kj1 0 l0_0) = some r := by rw [if_neg (show ¬ (false = true) by decide)] at H; exact H
    clear H; have H := H1; clear H1; have H' := qO H; clear H; go_wp2
    go_loopg [3] kj1 (fun kq v3 w' => ∃ (x3_2 : Int), v3 = .int .i64 x3_2 ∧ Aside0 (spec_SchemaOK.l0 kq x3_2 l0_0 = some r) ∧ Aside0 (kq ≤ kj1) ∧ Aside0 (w'.heap[gb101]? = some (.cells #[(.slice A0_0 l0_0.length c0_0)] 29 (0, 0))) ∧ Aside0 (Below w.heap.size w w'))
    case atStart => exact ⟨(0), qa11, H', ⟨Nat.le_refl _⟩, ⟨qa13⟩, ⟨qa6⟩⟩
    case round =>
     clear H'
     try clear c1
     try clear c2
     try clear p2
     try clear c5
     try clear c9
     try clear c10
     try clear hcz7_0
     try clear hcz9_0
     try clear hfz7_0
     try clear hfz9_0
     try clear p2
     obtain ⟨x3_2, rfl, HA, HK2, BK101, HB⟩ := hrel
     cases gk with
     | zero => exact absurd HA.out (by simp [spec_SchemaOK.l0])
     | succ k2 =>
      have H := HA.out; clear HA; simp only [spec_SchemaOK.l0] at H
      by_cases c11 : x3_2 < (l0_0.length : Int)
      ·rw [if_pos c11] at H
       have c11b0 : decide (x3_2 < (l0_0.length : Int)) = true := decide_eq_true c11; clear c11
       by_cases c12 : 0 ≤ x3_2
       ·rw [if_pos c12] at H
        have c12b0 : decide (0 ≤ x3_2) = true := decide_eq_true c12; clear c12; have HC13 := qO H; clear H; have hcz14_0 : wr.cell? ⟨gb101, 0, none⟩ = some (.slice A0_0 l0_0.length c0_0) := (blk_cell BK101.out 0).trans rfl; have hfz14_0 := blk_frozen BK101.out 0; have p104 : 0 ≤ (x3_2 : Int) := qT qa5; have q104 : x3_2 < (l0_0.length : Int) := qT qa5; obtain ⟨ad104, A104_1, c104_1, e104, hx104_0, hx104_1, hl104_1, hi104_1⟩ := at_T53 HR0_0.out x3_2 p104 q104
        cases e104
        replace hx104_0 := (HB.out.cell (qL w _ hx104_0)).trans hx104_0; replace hx104_1 := (HB.out.cell (qL w _ hx104_1)).trans hx104_1; have HR104_1 := qO hi104_1; have HC104_1 := qO hl104_1; clear hi104_1 hl104_1; replace p104 := eq_true p104; replace q104 := eq_true q104
        go_upto_region 7 with (first | ((with_reducible refine gate_dst (N := 4) rfl ?_); (try (refine gate_guard (by rfl) ?_; dsimp only)); refine box_event ?hg (N := 4) ?hd (cs := #[.string (⟨#[]⟩ : ByteArray), .slice none 0 0]) (t := 53) ?hr ?_; (case hd => rfl); (case hg => rfl); (case hr => exact qa18); intro gb105 hg w15 hbox hb; have n0_ := qO (blk_below (g := gb101) (o := .cells #[.slice (some ad104) l0_0.length c0_0] 29 (0, 0)) qa13 hb); have n1_ := qO (below_step qa6 hb); have n2_ := qO (hbox); have n3_ := qO ((qa37 : w.heap.size ≤ gb105)); have n4_ := qO ((qa37 : w.heap.size ≤ gb105)); have n5_ := qO ((qa36 : gb101 ≠ gb105)); have n6_ := qO ((qa58 : gb105 ≠ gb101)); clear BK101; clear HB; have BK101 := n0_; have HB := n1_; have BK105 := n2_; have GW105 := n3_; have GE105 := n4_; have NB101_105 := n5_; have NB105_101 := n6_; clear n0_ n1_ n2_ n3_ n4_ n5_ n6_; clear hb hbox hg; have hnb16 := NB105_101.out; have hnc16 := NB101_105.out; have hcz17_0 : w15.cell? ⟨gb105, 0, none⟩ = some (.string (⟨#[]⟩ : ByteArray)) := (blk_cell BK105.out 0).trans rfl; have hcz17_1 : w15.cell? ⟨gb105, 1, none⟩ = some (.slice none 0 0) := (blk_cell BK105.out 1).trans rfl; have hfz17_0 := blk_frozen BK105.out 0; have hfz17_1 := blk_frozen BK105.out 1))
        (try simp only [Act.put, qzA, qzB, qzC])
        go_cut [53] (fun v53 wc => ∃ (kq : Nat) (x53_12 : Bool), v53 = .bool x53_12 ∧ Aside0 (spec_SchemaOK.j2 kq x3_2 x53_12 l0_0 ((rd_T53 l0_0 x3_2).f0) ((rd_T53 l0_0 x3_2).f1) = some r) ∧ Aside0 (kq ≤ k2) ∧ Aside0 (wc.heap[gb101]? = some (.cells #[(.slice (some ad104) l0_0.length c0_0)] 29 (0, 0))) ∧ Aside0 (wc.heap[gb105]? = some (.cells #[.string ((rd_T53 l0_0 x3_2).f0), (.slice A104_1 ((rd_T53 l0_0 x3_2).f1).length c104_1)] 53 (0, 0))) ∧ Aside0 (Below w.heap.size w wc))
        case first =>
         have H := HC13.out; clear HC13; replace H := Option.bind_eq_some_iff.mp H; obtain ⟨t106, A180, H⟩ := H; replace H : (if t106 = true then (if ((rd_T53 l0_0 x3_2).f0).toList = ([73, 110, 116] : List UInt8) then (spec_SchemaOK.j2 k2 x3_2 true l0_0 ((rd_T53 l0_0 x3_2).f0) ((rd_T53 l0_0 x3_2).f1)) else ((spec_l03Find.f k2 l0_0 ((rd_T53 l0_0 x3_2).f0)).bind fun t107 => (if t107 = x3_2 then ((spec_l01In.f (((rd_T53 l0_0 x3_2).f1).length : Int) 1 10).bind fun t108 => (spec_SchemaOK.j2 k2 x3_2 (!t108) l0_0 ((rd_T53 l0_0 x3_2).f0) ((rd_T53 l0_0 x3_2).f1))) else (spec_SchemaOK.j2 k2 x3_2 true l0_0 ((rd_T53 l0_0 x3_2).f0) ((rd_T53 l0_0 x3_2).f1))))) else (spec_SchemaOK.j2 k2 x3_2 true l0_0 ((rd_T53 l0_0 x3_2).f0) ((rd_T53 l0_0 x3_2).f1))) = some r := H; have A18 := qO A180; clear A180
         by_cases c19 : t106 = true
         ·subst c19
          have H1 : (if ((rd_T53 l0_0 x3_2).f0).toList = ([73, 110, 116] : List UInt8) then (spec_SchemaOK.j2 k2 x3_2 true l0_0 ((rd_T53 l0_0 x3_2).f0) ((rd_T53 l0_0 x3_2).f1)) else ((spec_l03Find.f k2 l0_0 ((rd_T53 l0_0 x3_2).f0)).bind fun t107 => (if t107 = x3_2 then ((spec_l01In.f (((rd_T53 l0_0 x3_2).f1).length : Int) 1 10).bind fun t108 => (spec_SchemaOK.j2 k2 x3_2 (!t108) l0_0 ((rd_T53 l0_0 x3_2).f0) ((rd_T53 l0_0 x3_2).f1))) else (spec_SchemaOK.j2 k2 x3_2 true l0_0 ((rd_T53 l0_0 x3_2).f0) ((rd_T53 l0_0 x3_2).f1))))) = some r := by rw [if_pos rfl] at H; exact H
          clear H; have H := H1; clear H1
          by_cases c20 : ((rd_T53 l0_0 x3_2).f0).toList = ([73, 110, 116] : List UInt8)
          ·rw [if_pos c20] at H
           have c20b0 : (((rd_T53 l0_0 x3_2).f0).toList == ([73, 110, 116] : List UInt8)) = true := beq_iff_eq.mpr c20; have c20b1 : (((rd_T53 l0_0 x3_2).f0).toList != ([73, 110, 116] : List UInt8)) = false := bne_eq_false_iff_eq.mpr c20; clear c20; (first | rw [c20b0] | (simp only [i64_w, i32_w]; rw [c20b0]) | skip); have H' := qO H; clear H; have hnb21 := NB105_101.out; have hnc21 := NB101_105.out; have hcz22_0 : w15.cell? ⟨gb105, 0, none⟩ = some (.string (⟨#[]⟩ : ByteArray)) := (blk_cell BK105.out 0).trans rfl; have hcz22_1 : w15.cell? ⟨gb105, 1, none⟩ = some (.slice none 0 0) := (blk_cell BK105.out 1).trans rfl; have hfz22_0 := blk_frozen BK105.out 0; have hfz22_1 := blk_frozen BK105.out 1
           go_wp2_with (first | ((with_reducible refine gate_callee (f := 29) rfl ?_); refine goesL_ (some 32) rfl rfl Try.func29 qa17 rfl #[.string ((rd_T53 l0_0 x3_2).f0)] rfl qa1 ?_; (with_reducible refine (spec_NameOK.calls k2 ((rd_T53 l0_0 x3_2).f0) true _ A18.out).mono ?_); rintro e w' ⟨rfl, ⟨nd, rfl⟩⟩; refine ⟨_, rfl, ?_⟩))
           go_meet
           case rel => exact ⟨_, (true), qa11, H', ⟨qa71⟩, ⟨qa21⟩, ⟨qa30⟩, ⟨qa20⟩⟩
          ·rw [if_neg c20] at H
           have c20b0 : (((rd_T53 l0_0 x3_2).f0).toList == ([73, 110, 116] : List UInt8)) = false := beq_eq_false_iff_ne.mpr c20; have c20b1 : (((rd_T53 l0_0 x3_2).f0).toList != ([73, 110, 116] : List UInt8)) = true := bne_iff_ne.mpr c20; (first | rw [c20b0] | (simp only [i64_w, i32_w]; rw [c20b0]) | skip); replace H := Option.bind_eq_some_iff.mp H; obtain ⟨t107, A230, H⟩ := H; replace H : (if t107 = x3_2 then ((spec_l01In.f (((rd_T53 l0_0 x3_2).f1).length : Int) 1 10).bind fun t108 => (spec_SchemaOK.j2 k2 x3_2 (!t108) l0_0 ((rd_T53 l0_0 x3_2).f0) ((rd_T53 l0_0 x3_2).f1))) else (spec_SchemaOK.j2 k2 x3_2 true l0_0 ((rd_T53 l0_0 x3_2).f0) ((rd_T53 l0_0 x3_2).f1))) = some r := H; have A23 := qO A230; clear A230
           by_cases c24 : t107 = x3_2
           ·rw [if_pos c24] at H
            have c24b0 : (t107 == x3_2) = true := beq_iff_eq.mpr c24; have c24b1 : (t107 != x3_2) = false := bne_eq_false_iff_eq.mpr c24; clear c24; replace H := Option.bind_eq_some_iff.mp H; obtain ⟨t108, A250, H⟩ := H; replace H : (spec_SchemaOK.j2 k2 x3_2 (!t108) l0_0 ((rd_T53 l0_0 x3_2).f0) ((rd_T53 l0_0 x3_2).f1)) = some r := H; have A25 := qO A250; clear A250; have H' := qO H; clear H; have hnb26 := NB105_101.out; have hnc26 := NB101_105.out; have hcz27_0 : w15.cell? ⟨gb105, 0, none⟩ = some (.string (⟨#[]⟩ : ByteArray)) := (blk_cell BK105.out 0).trans rfl; have hcz27_1 : w15.cell? ⟨gb105, 1, none⟩ = some (.slice none 0 0) := (blk_cell BK105.out 1).trans rfl; have hfz27_0 := blk_frozen BK105.out 0; have hfz27_1 := blk_frozen BK105.out 1
            go_wp2_with (first | ((with_reducible refine gate_callee (f := 29) rfl ?_); refine goesL_ (some 32) rfl rfl Try.func29 qa17 rfl #[.string ((rd_T53 l0_0 x3_2).f0)] rfl qa1 ?_; (with_reducible refine (spec_NameOK.calls k2 ((rd_T53 l0_0 x3_2).f0) true _ A18.out).mono ?_); rintro e w' ⟨rfl, ⟨nd, rfl⟩⟩; refine ⟨_, rfl, ?_⟩; have hcz28_0 : w15.cell? ⟨gb101, 0, none⟩ = some (.slice (some ad104) l0_0.length c0_0) := (blk_cell BK101.out 0).trans rfl; have hfz28_0 := blk_frozen BK101.out 0) | (go_at_call 28; (with_reducible refine (spec_l03Find.calls k2 _ _ l0_0 ((rd_T53 l0_0 x3_2).f0) t107 _ ?side1 ?side2 A23.out).mono ?_); (case side1 => exact qa54); (case side2 => exact HC0_0.out); rintro e w29 ⟨rfl, hb⟩; have n0_ := qO (blk_below (g := gb101) (o := .cells #[.slice (some ad104) l0_0.length c0_0] 29 (0, 0)) qa21 hb); have n1_ := qO (blk_below (g := gb105) (o := .cells #[.string ((rd_T53 l0_0 x3_2).f0), .slice A104_1 ((rd_T53 l0_0 x3_2).f1).length c104_1] 53 (0, 0)) qa30 hb); have n2_ := qO (below_step qa20 hb); clear BK101; clear BK105; clear HB; have BK101 := n0_; have BK105 := n1_; have HB := n2_; clear n0_ n1_ n2_; (try clear hb); (try clear hb2); (try clear hk); (try clear hi); have hcz30_0 : w29.cell? ⟨gb105, 0, none⟩ = some (.string ((rd_T53 l0_0 x3_2).f0)) := (blk_cell BK105.out 0).trans rfl; have hcz30_1 : w29.cell? ⟨gb105, 1, none⟩ = some (.slice A104_1 ((rd_T53 l0_0 x3_2).f1).length c104_1) := (blk_cell BK105.out 1).trans rfl; have hfz30_0 := blk_frozen BK105.out 0; have hfz30_1 := blk_frozen BK105.out 1) | (go_at_call 27; (with_reducible refine (spec_l01In.calls (((rd_T53 l0_0 x3_2).f1).length : Int) 1 10 t108 _ A25.out).mono ?_); rintro e w' ⟨rfl, ⟨nd, rfl⟩⟩))
            go_meet
            case rel => exact ⟨_, (!t108), qa11, H', ⟨qa71⟩, ⟨qa13⟩, ⟨qa34⟩, ⟨qa20⟩⟩
           ·rw [if_neg c24] at H
            have c24b0 : (t107 == x3_2) = false := beq_eq_false_iff_ne.mpr c24; have c24b1 : (t107 != x3_2) = true := bne_iff_ne.mpr c24; have H' := qO H; clear H; have hnb31 := NB105_101.out; have hnc31 := NB101_105.out; have hcz32_0 : w15.cell? ⟨gb105, 0, none⟩ = some (.string (⟨#[]⟩ : ByteArray)) := (blk_cell BK105.out 0).trans rfl; have hcz32_1 : w15.cell? ⟨gb105, 1, none⟩ = some (.slice none 0 0) := (blk_cell BK105.out 1).trans rfl; have hfz32_0 := blk_frozen BK105.out 0; have hfz32_1 := blk_frozen BK105.out 1
            go_wp2_with (first | ((with_reducible refine gate_callee (f := 29) rfl ?_); refine goesL_ (some 32) rfl rfl Try.func29 qa17 rfl #[.string ((rd_T53 l0_0 x3_2).f0)] rfl qa1 ?_; (with_reducible refine (spec_NameOK.calls k2 ((rd_T53 l0_0 x3_2).f0) true _ A18.out).mono ?_); rintro e w' ⟨rfl, ⟨nd, rfl⟩⟩; refine ⟨_, rfl, ?_⟩; have hcz33_0 : w15.cell? ⟨gb101, 0, none⟩ = some (.slice (some ad104) l0_0.length c0_0) := (blk_cell BK101.out 0).trans rfl; have hfz33_0 := blk_frozen BK101.out 0) | (go_at_call 28; (with_reducible refine (spec_l03Find.calls k2 _ _ l0_0 ((rd_T53 l0_0 x3_2).f0) t107 _ ?side1 ?side2 A23.out).mono ?_); (case side1 => exact qa54); (case side2 => exact HC0_0.out); rintro e w34 ⟨rfl, hb⟩; have n0_ := qO (blk_below (g := gb101) (o := .cells #[.slice (some ad104) l0_0.length c0_0] 29 (0, 0)) qa21 hb); have n1_ := qO (blk_below (g := gb105) (o := .cells #[.string ((rd_T53 l0_0 x3_2).f0), .slice A104_1 ((rd_T53 l0_0 x3_2).f1).length c104_1] 53 (0, 0)) qa30 hb); have n2_ := qO (below_step qa20 hb); clear BK101; clear BK105; clear HB; have BK101 := n0_; have BK105 := n1_; have HB := n2_; clear n0_ n1_ n2_; (try clear hb); (try clear hb2); (try clear hk); (try clear hi)))
            go_meet
            case rel => exact ⟨_, (true), qa11, H', ⟨qa71⟩, ⟨qa13⟩, ⟨qa34⟩, ⟨qa20⟩⟩
         ·replace c19 := Bool.eq_false_iff.mpr c19
          subst c19; have H1 : (spec_SchemaOK.j2 k2 x3_2 true l0_0 ((rd_T53 l0_0 x3_2).f0) ((rd_T53 l0_0 x3_2).f1)) = some r := by rw [if_neg (show ¬ (false = true) by decide)] at H; exact H
          clear H; have H := H1; clear H1; have H' := qO H; clear H; have hnb35 := NB105_101.out; have hnc35 := NB101_105.out; have hcz36_0 : w15.cell? ⟨gb105, 0, none⟩ = some (.string (⟨#[]⟩ : ByteArray)) := (blk_cell BK105.out 0).trans rfl; have hcz36_1 : w15.cell? ⟨gb105, 1, none⟩ = some (.slice none 0 0) := (blk_cell BK105.out 1).trans rfl; have hfz36_0 := blk_frozen BK105.out 0; have hfz36_1 := blk_frozen BK105.out 1
          go_wp2_with (first | ((with_reducible refine gate_callee (f := 29) rfl ?_); refine goesL_ (some 32) rfl rfl Try.func29 qa17 rfl #[.string ((rd_T53 l0_0 x3_2).f0)] rfl qa1 ?_; (with_reducible refine (spec_NameOK.calls k2 ((rd_T53 l0_0 x3_2).f0) false _ A18.out).mono ?_); rintro e w' ⟨rfl, ⟨nd, rfl⟩⟩; refine ⟨_, rfl, ?_⟩))
          go_meet
          case rel => exact ⟨_, (true), qa11, H', ⟨qa71⟩, ⟨qa21⟩, ⟨qa30⟩, ⟨qa20⟩⟩
        case rest =>
         clear HC13
         try clear c1
         try clear p1
         try clear q1
         try clear hx1
         try clear c2
         try clear p2
         try clear c3
         try clear c5
         try clear c9
         try clear c10
         try clear p10
         try clear q10
         try clear hx10
         try clear c11
         try clear c11b0
         try clear c12
         try clear c12b0
         try clear c16
         try clear c19
         try clear c20
         try clear c20b0
         try clear c20b1
         try clear c21
         try clear c24
         try clear c24b0
         try clear c24b1
         try clear c26
         try clear c27
         try clear c29
         try clear c31
         try clear c35
         try clear hcz14_0
         try clear hcz17_0
         try clear hcz17_1
         try clear hcz22_0
         try clear hcz22_1
         try clear hcz27_0
         try clear hcz27_1
         try clear hcz28_0
         try clear hcz30_0
         try clear hcz30_1
         try clear hcz32_0
         try clear hcz32_1
         try clear hcz33_0
         try clear hcz36_0
         try clear hcz36_1
         try clear hcz7_0
         try clear hcz9_0
         try clear hfz14_0
         try clear hfz17_0
         try clear hfz17_1
         try clear hfz22_0
         try clear hfz22_1
         try clear hfz27_0
         try clear hfz27_1
         try clear hfz28_0
         try clear hfz30_0
         try clear hfz30_1
         try clear hfz32_0
         try clear hfz32_1
         try clear hfz33_0
         try clear hfz36_0
         try clear hfz36_1
         try clear hfz7_0
         try clear hfz9_0
         try clear hx104_0
         try clear hx104_1
         try clear p104
         try clear p2
         try clear q104
         obtain ⟨kq, x53_12, rfl, HA, HJ12, BK101, BK105, HB⟩ := hcut
         cases kq with
         | zero => exact absurd HA.out (by simp [spec_SchemaOK.j2])
         | succ kj12 =>
          have H := HA.out; clear HA; simp only [spec_SchemaOK.j2] at H
          by_cases c37 : x53_12 = true
          ·subst c37
           have H1 : (some false) = some r := by rw [if_pos rfl] at H; exact H
           clear H; have H := H1; clear H1; obtain rfl := Option.some.inj H; go_wp2
           go_ret
           exact ⟨qa3, qa20⟩
          ·replace c37 := Bool.eq_false_iff.mpr c37
           subst c37; have H1 : (spec_SchemaOK.l1 kj12 x3_2 0 l0_0 ((rd_T53 l0_0 x3_2).f0) ((rd_T53 l0_0 x3_2).f1)) = some r := by rw [if_neg (show ¬ (false = true) by decide)] at H; exact H
           clear H; have H := H1; clear H1; have H' := qO H; clear H; go_wp2
           go_loopg [5] kj12 (fun kq v5 w' => ∃ (x5_4 : Int), v5 = .int .i64 x5_4 ∧ Aside0 (spec_SchemaOK.l1 kq x3_2 x5_4 l0_0 ((rd_T53 l0_0 x3_2).f0) ((rd_T53 l0_0 x3_2).f1) = some r) ∧ Aside0 (kq ≤ kj12) ∧ Aside0 (w'.heap[gb101]? = some (.cells #[(.slice (some ad104) l0_0.length c0_0)] 29 (0, 0))) ∧ Aside0 (w'.heap[gb105]? = some (.cells #[.string ((rd_T53 l0_0 x3_2).f0), (.slice A104_1 ((rd_T53 l0_0 x3_2).f1).length c104_1)] 53 (0, 0))) ∧ Aside0 (Below w.heap.size w w'))
           case atStart => exact ⟨(0), qa11, H', ⟨Nat.le_refl _⟩, ⟨qa13⟩, ⟨qa34⟩, ⟨qa20⟩⟩
           case round =>
            clear H'
            try clear c1
            try clear p1
            try clear q1
            try clear hx1
            try clear c2
            try clear p2
            try clear c3
            try clear c5
            try clear c9
            try clear c10
            try clear p10
            try clear q10
            try clear hx10
            try clear c11
            try clear c11b0
            try clear c12
            try clear c12b0
            try clear c16
            try clear c19
            try clear c20
            try clear c20b0
            try clear c20b1
            try clear c21
            try clear c24
            try clear c24b0
            try clear c24b1
            try clear c26
            try clear c27
            try clear c29
            try clear c31
            try clear c35
            try clear c37
            try clear hcz14_0
            try clear hcz17_0
            try clear hcz17_1
            try clear hcz22_0
            try clear hcz22_1
            try clear hcz27_0
            try clear hcz27_1
            try clear hcz28_0
            try clear hcz30_0
            try clear hcz30_1
            try clear hcz32_0
            try clear hcz32_1
            try clear hcz33_0
            try clear hcz36_0
            try clear hcz36_1
            try clear hcz7_0
            try clear hcz9_0
            try clear hfz14_0
            try clear hfz17_0
            try clear hfz17_1
            try clear hfz22_0
            try clear hfz22_1
            try clear hfz27_0
            try clear hfz27_1
            try clear hfz28_0
            try clear hfz30_0
            try clear hfz30_1
            try clear hfz32_0
            try clear hfz32_1
            try clear hfz33_0
            try clear hfz36_0
            try clear hfz36_1
            try clear hfz7_0
            try clear hfz9_0
            try clear hx104_0
            try clear hx104_1
            try clear p1
            try clear p10
            try clear p104
            try clear p2
            try clear q1
            try clear q10
            try clear q104
            obtain ⟨x5_4, rfl, HA, HK4, BK101, BK105, HB⟩ := hrel
            cases gk with
            | zero => exact absurd HA.out (by simp [spec_SchemaOK.l1])
            | succ k4 =>
             have H := HA.out; clear HA; simp only [spec_SchemaOK.l1] at H
             by_cases c38 : x5_4 < (((rd_T53 l0_0 x3_2).f1).length : Int)
             ·rw [if_pos c38] at H
              have c38b0 : decide (x5_4 < (((rd_T53 l0_0 x3_2).f1).length : Int)) = true := decide_eq_true c38; clear c38
              by_cases c39 : 0 ≤ x5_4
              ·rw [if_pos c39] at H
               have c39b0 : decide (0 ≤ x5_4) = true := decide_eq_true c39; clear c39; have HC40 := qO H; clear H; have hnb41 := NB105_101.out; have hnc41 := NB101_105.out; have hcz42_0 : wr.cell? ⟨gb105, 0, none⟩ = some (.string ((rd_T53 l0_0 x3_2).f0)) := (blk_cell BK105.out 0).trans rfl; have hcz42_1 : wr.cell? ⟨gb105, 1, none⟩ = some (.slice A104_1 ((rd_T53 l0_0 x3_2).f1).length c104_1) := (blk_cell BK105.out 1).trans rfl; have hfz42_0 := blk_frozen BK105.out 0; have hfz42_1 := blk_frozen BK105.out 1; have p109 : 0 ≤ (x5_4 : Int) := qT qa5; have q109 : x5_4 < (((rd_T53 l0_0 x3_2).f1).length : Int) := qT qa5; obtain ⟨ad109, A109_1, c109_1, e109, hx109_0, hx109_1, hx109_2, hx109_3, hx109_4, hl109_1, hi109_1⟩ := at_T38 HR104_1.out x5_4 p109 q109
               cases e109
               replace hx109_0 := (HB.out.cell (qL w _ hx109_0)).trans hx109_0; replace hx109_1 := (HB.out.cell (qL w _ hx109_1)).trans hx109_1; replace hx109_2 := (HB.out.cell (qL w _ hx109_2)).trans hx109_2; replace hx109_3 := (HB.out.cell (qL w _ hx109_3)).trans hx109_3; replace hx109_4 := (HB.out.cell (qL w _ hx109_4)).trans hx109_4; have HR109_1 := qO hi109_1; have HC109_1 := qO hl109_1; clear hi109_1 hl109_1; replace p109 := eq_true p109; replace q109 := eq_true q109
               go_upto_region 13 with (first | ((with_reducible refine gate_dst (N := 6) rfl ?_); (try (refine gate_guard (by rfl) ?_; dsimp only)); refine box_event ?hg (N := 6) ?hd (cs := #[.string (⟨#[]⟩ : ByteArray), .slice none 0 0, .string (⟨#[]⟩ : ByteArray), .bool false, .bool false]) (t := 38) ?hr ?_; (case hd => rfl); (case hg => rfl); (case hr => exact qa18); intro gb110 hg w43 hbox hb; have n0_ := qO (blk_below (g := gb101) (o := .cells #[.slice (some ad104) l0_0.length c0_0] 29 (0, 0)) qa13 hb); have n1_ := qO (blk_below (g := gb105) (o := .cells #[.string ((rd_T53 l0_0 x3_2).f0), .slice (some ad109) ((rd_T53 l0_0 x3_2).f1).length c104_1] 53 (0, 0)) qa34 hb); have n2_ := qO (below_step qa20 hb); have n3_ := qO (hbox); have n4_ := qO ((qa88 : w.heap.size ≤ gb110)); have n5_ := qO ((qa88 : w.heap.size ≤ gb110)); have n6_ := qO ((qa36 : gb101 ≠ gb110)); have n7_ := qO ((qa58 : gb110 ≠ gb101)); have n8_ := qO ((by rw [hg]; exact Nat.ne_of_lt (blk_lt (g := gb105) (o := .cells #[.string ((rd_T53 l0_0 x3_2).f0), .slice (some ad109) ((rd_T53 l0_0 x3_2).f1).length c104_1] 53 (0, 0)) (by (with_reducible repeat (first | refine qkN ?_ _ | refine qkD ?_ | refine qkA ?_ _)); exact BK105.out)) : gb105 ≠ gb110)); have n9_ := qO ((by rw [hg]; exact Nat.ne_of_gt (blk_lt (g := gb105) (o := .cells #[.string ((rd_T53 l0_0 x3_2).f0), .slice (some ad109) ((rd_T53 l0_0 x3_2).f1).length c104_1] 53 (0, 0)) (by (with_reducible repeat (first | refine qkN ?_ _ | refine qkD ?_ | refine qkA ?_ _)); exact BK105.out)) : gb110 ≠ gb105)); clear BK101; clear BK105; clear HB; have BK101 := n0_; have BK105 := n1_; have HB := n2_; have BK110 := n3_; have GW110 := n4_; have GE110 := n5_; have NB101_110 := n6_; have NB110_101 := n7_; have NB105_110 := n8_; have NB110_105 := n9_; clear n0_ n1_ n2_ n3_ n4_ n5_ n6_ n7_ n8_ n9_; clear hb hbox hg; have hnb44 := NB110_101.out; have hnc44 := NB101_110.out; have hnb45 := NB110_105.out; have hnc45 := NB105_110.out; have hcz46_0 : w43.cell? ⟨gb110, 0, none⟩ = some (.string (⟨#[]⟩ : ByteArray)) := (blk_cell BK110.out 0).trans rfl; have hcz46_1 : w43.cell? ⟨gb110, 1, none⟩ = some (.slice none 0 0) := (blk_cell BK110.out 1).trans rfl; have hcz46_2 : w43.cell? ⟨gb110, 2, none⟩ = some (.string (⟨#[]⟩ : ByteArray)) := (blk_cell BK110.out 2).trans rfl; have hcz46_3 : w43.cell? ⟨gb110, 3, none⟩ = some (.bool false) := (blk_cell BK110.out 3).trans rfl; have hcz46_4 : w43.cell? ⟨gb110, 4, none⟩ = some (.bool false) := (blk_cell BK110.out 4).trans rfl; have hfz46_0 := blk_frozen BK110.out 0; have hfz46_1 := blk_frozen BK110.out 1; have hfz46_2 := blk_frozen BK110.out 2; have hfz46_3 := blk_frozen BK110.out 3; have hfz46_4 := blk_frozen BK110.out 4))
               (try simp only [Act.put, qzA, qzB, qzC])
               go_cut [100] (fun v100 wc => ∃ (kq : Nat) (x100_39 : Bool), v100 = .bool x100_39 ∧ Aside0 (spec_SchemaOK.j4 kq x3_2 x5_4 x100_39 l0_0 ((rd_T53 l0_0 x3_2).f0) ((rd_T53 l0_0 x3_2).f1) ((rd_T38 ((rd_T53 l0_0 x3_2).f1) x5_4).f0) ((rd_T38 ((rd_T53 l0_0 x3_2).f1) x5_4).f1) ((rd_T38 ((rd_T53 l0_0 x3_2).f1) x5_4).f2) ((rd_T38 ((rd_T53 l0_0 x3_2).f1) x5_4).f3) ((rd_T38 ((rd_T53 l0_0 x3_2).f1) x5_4).f4) = some r) ∧ Aside0 (kq ≤ k4) ∧ Aside0 (wc.heap[gb101]? = some (.cells #[(.slice (some ad104) l0_0.length c0_0)] 29 (0, 0))) ∧ Aside0 (wc.heap[gb105]? = some (.cells #[.string ((rd_T53 l0_0 x3_2).f0), (.slice (some ad109) ((rd_T53 l0_0 x3_2).f1).length c104_1)] 53 (0, 0))) ∧ Aside0 (wc.heap[gb110]? = some (.cells #[.string ((rd_T38 ((rd_T53 l0_0 x3_2).f1) x5_4).f0), (.slice A109_1 ((rd_T38 ((rd_T53 l0_0 x3_2).f1) x5_4).f1).length c109_1), .string ((rd_T38 ((rd_T53 l0_0 x3_2).f1) x5_4).f2), .bool ((rd_T38 ((rd_T53 l0_0 x3_2).f1) x5_4).f3), .bool ((rd_T38 ((rd_T53 l0_0 x3_2).f1) x5_4).f4)] 38 (0, 0))) ∧ Aside0 (Below w.heap.size w wc))
               case first =>
                have H := HC40.out; clear HC40; replace H := Option.bind_eq_some_iff.mp H; obtain ⟨t111, A470, H⟩ := H; replace H : (if t111 = true then (if ((rd_T38 ((rd_T53 l0_0 x3_2).f1) x5_4).f0).toList = ([95, 95, 116, 121, 112, 101, 110, 97, 109, 101] : List UInt8) then (spec_SchemaOK.j4 k4 x3_2 x5_4 true l0_0 ((rd_T53 l0_0 x3_2).f0) ((rd_T53 l0_0 x3_2).f1) ((rd_T38 ((rd_T53 l0_0 x3_2).f1) x5_4).f0) ((rd_T38 ((rd_T53 l0_0 x3_2).f1) x5_4).f1) ((rd_T38 ((rd_T53 l0_0 x3_2).f1) x5_4).f2) ((rd_T38 ((rd_T53 l0_0 x3_2).f1) x5_4).f3) ((rd_T38 ((rd_T53 l0_0 x3_2).f1) x5_4).f4)) else ((spec_l03Field.f k4 ((rd_T53 l0_0 x3_2).f0) ((rd_T53 l0_0 x3_2).f1) ((rd_T38 ((rd_T53 l0_0 x3_2).f1) x5_4).f0)).bind fun t112 => (if t112 = x5_4 then (if ((rd_T38 ((rd_T53 l0_0 x3_2).f1) x5_4).f2).toList = ([73, 110, 116] : List UInt8) then (spec_SchemaOK.j4 k4 x3_2 x5_4 (decide ((((rd_T38 ((rd_T53 l0_0 x3_2).f1) x5_4).f1).length : Int) > 4)) l0_0 ((rd_T53 l0_0 x3_2).f0) ((rd_T53 l0_0 x3_2).f1) ((rd_T38 ((rd_T53 l0_0 x3_2).f1) x5_4).f0) ((rd_T38 ((rd_T53 l0_0 x3_2).f1) x5_4).f1) ((rd_T38 ((rd_T53 l0_0 x3_2).f1) x5_4).f2) ((rd_T38 ((rd_T53 l0_0 x3_2).f1) x5_4).f3) ((rd_T38 ((rd_T53 l0_0 x3_2).f1) x5_4).f4)) else ((spec_l03Find.f k4 l0_0 ((rd_T38 ((rd_T53 l0_0 x3_2).f1) x5_4).f2)).bind fun t113 => (if t113 < 0 then (spec_SchemaOK.j4 k4 x3_2 x5_4 true l0_0 ((rd_T53 l0_0 x3_2).f0) ((rd_T53 l0_0 x3_2).f1) ((rd_T38 ((rd_T53 l0_0 x3_2).f1) x5_4).f0) ((rd_T38 ((rd_T53 l0_0 x3_2).f1) x5_4).f1) ((rd_T38 ((rd_T53 l0_0 x3_2).f1) x5_4).f2) ((rd_T38 ((rd_T53 l0_0 x3_2).f1) x5_4).f3) ((rd_T38 ((rd_T53 l0_0 x3_2).f1) x5_4).f4)) else (spec_SchemaOK.j4 k4 x3_2 x5_4 (decide ((((rd_T38 ((rd_T53 l0_0 x3_2).f1) x5_4).f1).length : Int) > 4)) l0_0 ((rd_T53 l0_0 x3_2).f0) ((rd_T53 l0_0 x3_2).f1) ((rd_T38 ((rd_T53 l0_0 x3_2).f1) x5_4).f0) ((rd_T38 ((rd_T53 l0_0 x3_2).f1) x5_4).f1) ((rd_T38 ((rd_T53 l0_0 x3_2).f1) x5_4).f2) ((rd_T38 ((rd_T53 l0_0 x3_2).f1) x5_4).f3) ((rd_T38 ((rd_T53 l0_0 x3_2).f1) x5_4).f4))))) else (spec_SchemaOK.j4 k4 x3_2 x5_4 true l0_0 ((rd_T53 l0_0 x3_2).f0) ((rd_T53 l0_0 x3_2).f1) ((rd_T38 ((rd_T53 l0_0 x3_2).f1) x5_4).f0) ((rd_T38 ((rd_T53 l0_0 x3_2).f1) x5_4).f1) ((rd_T38 ((rd_T53 l0_0 x3_2).f1) x5_4).f2) ((rd_T38 ((rd_T53 l0_0 x3_2).f1) x5_4).f3) ((rd_T38 ((rd_T53 l0_0 x3_2).f1) x5_4).f4))))) else (spec_SchemaOK.j4 k4 x3_2 x5_4 true l0_0 ((rd_T53 l0_0 x3_2).f0) ((rd_T53 l0_0 x3_2).f1) ((rd_T38 ((rd_T53 l0_0 x3_2).f1) x5_4).f0) ((rd_T38 ((rd_T53 l0_0 x3_2).f1) x5_4).f1) ((rd_T38 ((rd_T53 l0_0 x3_2).f1) x5_4).f2) ((rd_T38 ((rd_T53 l0_0 x3_2).f1) x5_4).f3) ((rd_T38 ((rd_T53 l0_0 x3_2).f1) x5_4).f4))) = some r := H; have A47 := qO A470; clear A470
                by_cases c48 : t111 = true
                ·subst c48
                 have H1 : (if ((rd_T38 ((rd_T53 l0_0 x3_2).f1) x5_4).f0).toList = ([95, 95, 116, 121, 112, 101, 110, 97, 109, 101] : List UInt8) then (spec_SchemaOK.j4 k4 x3_2 x5_4 true l0_0 ((rd_T53 l0_0 x3_2).f0) ((rd_T53 l0_0 x3_2).f1) ((rd_T38 ((rd_T53 l0_0 x3_2).f1) x5_4).f0) ((rd_T38 ((rd_T53 l0_0 x3_2).f1) x5_4).f1) ((rd_T38 ((rd_T53 l0_0 x3_2).f1) x5_4).f2) ((rd_T38 ((rd_T53 l0_0 x3_2).f1) x5_4).f3) ((rd_T38 ((rd_T53 l0_0 x3_2).f1) x5_4).f4)) else ((spec_l03Field.f k4 ((rd_T53 l0_0 x3_2).f0) ((rd_T53 l0_0 x3_2).f1) ((rd_T38 ((rd_T53 l0_0 x3_2).f1) x5_4).f0)).bind fun t112 => (if t112 = x5_4 then (if ((rd_T38 ((rd_T53 l0_0 x3_2).f1) x5_4).f2).toList = ([73, 110, 116] : List UInt8) then (spec_SchemaOK.j4 k4 x3_2 x5_4 (decide ((((rd_T38 ((rd_T53 l0_0 x3_2).f1) x5_4).f1).length : Int) > 4)) l0_0 ((rd_T53 l0_0 x3_2).f0) ((rd_T53 l0_0 x3_2).f1) ((rd_T38 ((rd_T53 l0_0 x3_2).f1) x5_4).f0) ((rd_T38 ((rd_T53 l0_0 x3_2).f1) x5_4).f1) ((rd_T38 ((rd_T53 l0_0 x3_2).f1) x5_4).f2) ((rd_T38 ((rd_T53 l0_0 x3_2).f1) x5_4).f3) ((rd_T38 ((rd_T53 l0_0 x3_2).f1) x5_4).f4)) else ((spec_l03Find.f k4 l0_0 ((rd_T38 ((rd_T53 l0_0 x3_2).f1) x5_4).f2)).bind fun t113 => (if t113 < 0 then (spec_SchemaOK.j4 k4 x3_2 x5_4 true l0_0 ((rd_T53 l0_0 x3_2).f0) ((rd_T53 l0_0 x3_2).f1) ((rd_T38 ((rd_T53 l0_0 x3_2).f1) x5_4).f0) ((rd_T38 ((rd_T53 l0_0 x3_2).f1) x5_4).f1) ((rd_T38 ((rd_T53 l0_0 x3_2).f1) x5_4).f2) ((rd_T38 ((rd_T53 l0_0 x3_2).f1) x5_4).f3) ((rd_T38 ((rd_T53 l0_0 x3_2).f1) x5_4).f4)) else (spec_SchemaOK.j4 k4 x3_2 x5_4 (decide ((((rd_T38 ((rd_T53 l0_0 x3_2).f1) x5_4).f1).length : Int) > 4)) l0_0 ((rd_T53 l0_0 x3_2).f0) ((rd_T53 l0_0 x3_2).f1) ((rd_T38 ((rd_T53 l0_0 x3_2).f1) x5_4).f0) ((rd_T38 ((rd_T53 l0_0 x3_2).f1) x5_4).f1) ((rd_T38 ((rd_T53 l0_0 x3_2).f1) x5_4).f2) ((rd_T38 ((rd_T53 l0_0 x3_2).f1) x5_4).f3) ((rd_T38 ((rd_T53 l0_0 x3_2).f1) x5_4).f4))))) else (spec_SchemaOK.j4 k4 x3_2 x5_4 true l0_0 ((rd_T53 l0_0 x3_2).f0) ((rd_T53 l0_0 x3_2).f1) ((rd_T38 ((rd_T53 l0_0 x3_2).f1) x5_4).f0) ((rd_T38 ((rd_T53 l0_0 x3_2).f1) x5_4).f1) ((rd_T38 ((rd_T53 l0_0 x3_2).f1) x5_4).f2) ((rd_T38 ((rd_T53 l0_0 x3_2).f1) x5_4).f3) ((rd_T38 ((rd_T53 l0_0 x3_2).f1) x5_4).f4))))) = some r := by rw [if_pos rfl] at H; exact H
                 clear H; have H := H1; clear H1
                 by_cases c49 : ((rd_T38 ((rd_T53 l0_0 x3_2).f1) x5_4).f0).toList = ([95, 95, 116, 121, 112, 101, 110, 97, 109, 101] : List UInt8)
                 ·rw [if_pos c49] at H
                  have c49b0 : (((rd_T38 ((rd_T53 l0_0 x3_2).f1) x5_4).f0).toList == ([95, 95, 116, 121, 112, 101, 110, 97, 109, 101] : List UInt8)) = true := beq_iff_eq.mpr c49; have c49b1 : (((rd_T38 ((rd_T53 l0_0 x3_2).f1) x5_4).f0).toList != ([95, 95, 116, 121, 112, 101, 110, 97, 109, 101] : List UInt8)) = false := bne_eq_false_iff_eq.mpr c49; clear c49; (first | rw [c49b0] | (simp only [i64_w, i32_w]; rw [c49b0]) | skip); have H' := qO H; clear H; have hnb50 := NB110_101.out; have hnc50 := NB101_110.out; have hnb51 := NB110_105.out; have hnc51 := NB105_110.out; have hcz52_0 : w43.cell? ⟨gb110, 0, none⟩ = some (.string (⟨#[]⟩ : ByteArray)) := (blk_cell BK110.out 0).trans rfl; have hcz52_1 : w43.cell? ⟨gb110, 1, none⟩ = some (.slice none 0 0) := (blk_cell BK110.out 1).trans rfl; have hcz52_2 : w43.cell? ⟨gb110, 2, none⟩ = some (.string (⟨#[]⟩ : ByteArray)) := (blk_cell BK110.out 2).trans rfl; have hcz52_3 : w43.cell? ⟨gb110, 3, none⟩ = some (.bool false) := (blk_cell BK110.out 3).trans rfl; have hcz52_4 : w43.cell? ⟨gb110, 4, none⟩ = some (.bool false) := (blk_cell BK110.out 4).trans rfl; have hfz52_0 := blk_frozen BK110.out 0; have hfz52_1 := blk_frozen BK110.out 1; have hfz52_2 := blk_frozen BK110.out 2; have hfz52_3 := blk_frozen BK110.out 3; have hfz52_4 := blk_frozen BK110.out 4
                  go_wp2_with (first | ((with_reducible refine gate_callee (f := 29) rfl ?_); refine goesL_ (some 68) rfl rfl Try.func29 qa17 rfl #[.string ((rd_T38 ((rd_T53 l0_0 x3_2).f1) x5_4).f0)] rfl qa1 ?_; (with_reducible refine (spec_NameOK.calls k4 ((rd_T38 ((rd_T53 l0_0 x3_2).f1) x5_4).f0) true _ A47.out).mono ?_); rintro e w' ⟨rfl, ⟨nd, rfl⟩⟩; refine ⟨_, rfl, ?_⟩))
                  go_meet
                  case rel => exact ⟨_, (true), qa11, H', ⟨qa62⟩, ⟨qa9⟩, ⟨qa10⟩, ⟨qa2⟩, ⟨qa16⟩⟩
                 ·rw [if_neg c49] at H
                  have c49b0 : (((rd_T38 ((rd_T53 l0_0 x3_2).f1) x5_4).f0).toList == ([95, 95, 116, 121, 112, 101, 110, 97, 109, 101] : List UInt8)) = false := beq_eq_false_iff_ne.mpr c49; have c49b1 : (((rd_T38 ((rd_T53 l0_0 x3_2).f1) x5_4).f0).toList != ([95, 95, 116, 121, 112, 101, 110, 97, 109, 101] : List UInt8)) = true := bne_iff_ne.mpr c49; (first | rw [c49b0] | (simp only [i64_w, i32_w]; rw [c49b0]) | skip); replace H := Option.bind_eq_some_iff.mp H; obtain ⟨t112, A530, H⟩ := H; replace H : (if t112 = x5_4 then (if ((rd_T38 ((rd_T53 l0_0 x3_2).f1) x5_4).f2).toList = ([73, 110, 116] : List UInt8) then (spec_SchemaOK.j4 k4 x3_2 x5_4 (decide ((((rd_T38 ((rd_T53 l0_0 x3_2).f1) x5_4).f1).length : Int) > 4)) l0_0 ((rd_T53 l0_0 x3_2).f0) ((rd_T53 l0_0 x3_2).f1) ((rd_T38 ((rd_T53 l0_0 x3_2).f1) x5_4).f0) ((rd_T38 ((rd_T53 l0_0 x3_2).f1) x5_4).f1) ((rd_T38 ((rd_T53 l0_0 x3_2).f1) x5_4).f2) ((rd_T38 ((rd_T53 l0_0 x3_2).f1) x5_4).f3) ((rd_T38 ((rd_T53 l0_0 x3_2).f1) x5_4).f4)) else ((spec_l03Find.f k4 l0_0 ((rd_T38 ((rd_T53 l0_0 x3_2).f1) x5_4).f2)).bind fun t113 => (if t113 < 0 then (spec_SchemaOK.j4 k4 x3_2 x5_4 true l0_0 ((rd_T53 l0_0 x3_2).f0) ((rd_T53 l0_0 x3_2).f1) ((rd_T38 ((rd_T53 l0_0 x3_2).f1) x5_4).f0) ((rd_T38 ((rd_T53 l0_0 x3_2).f1) x5_4).f1) ((rd_T38 ((rd_T53 l0_0 x3_2).f1) x5_4).f2) ((rd_T38 ((rd_T53 l0_0 x3_2).f1) x5_4).f3) ((rd_T38 ((rd_T53 l0_0 x3_2).f1) x5_4).f4)) else (spec_SchemaOK.j4 k4 x3_2 x5_4 (decide ((((rd_T38 ((rd_T53 l0_0 x3_2).f1) x5_4).f1).length : Int) > 4)) l0_0 ((rd_T53 l0_0 x3_2).f0) ((rd_T53 l0_0 x3_2).f1) ((rd_T38 ((rd_T53 l0_0 x3_2).f1) x5_4).f0) ((rd_T38 ((rd_T53 l0_0 x3_2).f1) x5_4).f1) ((rd_T38 ((rd_T53 l0_0 x3_2).f1) x5_4).f2) ((rd_T38 ((rd_T53 l0_0 x3_2).f1) x5_4).f3) ((rd_T38 ((rd_T53 l0_0 x3_2).f1) x5_4).f4))))) else (spec_SchemaOK.j4 k4 x3_2 x5_4 true l0_0 ((rd_T53 l0_0 x3_2).f0) ((rd_T53 l0_0 x3_2).f1) ((rd_T38 ((rd_T53 l0_0 x3_2).f1) x5_4).f0) ((rd_T38 ((rd_T53 l0_0 x3_2).f1) x5_4).f1) ((rd_T38 ((rd_T53 l0_0 x3_2).f1) x5_4).f2) ((rd_T38 ((rd_T53 l0_0 x3_2).f1) x5_4).f3) ((rd_T38 ((rd_T53 l0_0 x3_2).f1) x5_4).f4))) = some r := H; have A53 := qO A530; clear A530
                  by_cases c54 : t112 = x5_4
                  ·rw [if_pos c54] at H
                   have c54b0 : (t112 == x5_4) = true := beq_iff_eq.mpr c54; have c54b1 : (t112 != x5_4) = false := bne_eq_false_iff_eq.mpr c54; clear c54
                   by_cases c55 : ((rd_T38 ((rd_T53 l0_0 x3_2).f1) x5_4).f2).toList = ([73, 110, 116] : List UInt8)
                   ·rw [if_pos c55] at H
                    have c55b0 : (((rd_T38 ((rd_T53 l0_0 x3_2).f1) x5_4).f2).toList == ([73, 110, 116] : List UInt8)) = true := beq_iff_eq.mpr c55; have c55b1 : (((rd_T38 ((rd_T53 l0_0 x3_2).f1) x5_4).f2).toList != ([73, 110, 116] : List UInt8)) = false := bne_eq_false_iff_eq.mpr c55; clear c55; have H' := qO H; clear H; have hnb56 := NB110_101.out; have hnc56 := NB101_110.out; have hnb57 := NB110_105.out; have hnc57 := NB105_110.out; have hcz58_0 : w43.cell? ⟨gb110, 0, none⟩ = some (.string (⟨#[]⟩ : ByteArray)) := (blk_cell BK110.out 0).trans rfl; have hcz58_1 : w43.cell? ⟨gb110, 1, none⟩ = some (.slice none 0 0) := (blk_cell BK110.out 1).trans rfl; have hcz58_2 : w43.cell? ⟨gb110, 2, none⟩ = some (.string (⟨#[]⟩ : ByteArray)) := (blk_cell BK110.out 2).trans rfl; have hcz58_3 : w43.cell? ⟨gb110, 3, none⟩ = some (.bool false) := (blk_cell BK110.out 3).trans rfl; have hcz58_4 : w43.cell? ⟨gb110, 4, none⟩ = some (.bool false) := (blk_cell BK110.out 4).trans rfl; have hfz58_0 := blk_frozen BK110.out 0; have hfz58_1 := blk_frozen BK110.out 1; have hfz58_2 := blk_frozen BK110.out 2; have hfz58_3 := blk_frozen BK110.out 3; have hfz58_4 := blk_frozen BK110.out 4
                    go_wp2_with (first | ((with_reducible refine gate_callee (f := 29) rfl ?_); refine goesL_ (some 68) rfl rfl Try.func29 qa17 rfl #[.string ((rd_T38 ((rd_T53 l0_0 x3_2).f1) x5_4).f0)] rfl qa1 ?_; (with_reducible refine (spec_NameOK.calls k4 ((rd_T38 ((rd_T53 l0_0 x3_2).f1) x5_4).f0) true _ A47.out).mono ?_); rintro e w' ⟨rfl, ⟨nd, rfl⟩⟩; refine ⟨_, rfl, ?_⟩; have hnb59 := NB105_101.out; have hnc59 := NB101_105.out; have hcz60_0 : w43.cell? ⟨gb105, 0, none⟩ = some (.string ((rd_T53 l0_0 x3_2).f0)) := (blk_cell BK105.out 0).trans rfl; have hcz60_1 : w43.cell? ⟨gb105, 1, none⟩ = some (.slice (some ad109) ((rd_T53 l0_0 x3_2).f1).length c104_1) := (blk_cell BK105.out 1).trans rfl; have hfz60_0 := blk_frozen BK105.out 0; have hfz60_1 := blk_frozen BK105.out 1) | (go_at_call 30; (with_reducible refine (spec_l03Field.calls k4 ((rd_T53 l0_0 x3_2).f0) _ _ ((rd_T53 l0_0 x3_2).f1) ((rd_T38 ((rd_T53 l0_0 x3_2).f1) x5_4).f0) t112 _ ?side1 ?side2 A53.out).mono ?_); (case side1 => exact qa50); (case side2 => exact HC104_1.out); rintro e w61 ⟨rfl, hb⟩; have n0_ := qO (blk_below (g := gb101) (o := .cells #[.slice (some ad104) l0_0.length c0_0] 29 (0, 0)) qa9 hb); have n1_ := qO (blk_below (g := gb105) (o := .cells #[.string ((rd_T53 l0_0 x3_2).f0), .slice (some ad109) ((rd_T53 l0_0 x3_2).f1).length c104_1] 53 (0, 0)) qa10 hb); have n2_ := qO (blk_below (g := gb110) (o := .cells #[.string ((rd_T38 ((rd_T53 l0_0 x3_2).f1) x5_4).f0), .slice A109_1 ((rd_T38 ((rd_T53 l0_0 x3_2).f1) x5_4).f1).length c109_1, .string ((rd_T38 ((rd_T53 l0_0 x3_2).f1) x5_4).f2), .bool ((rd_T38 ((rd_T53 l0_0 x3_2).f1) x5_4).f3), .bool ((rd_T38 ((rd_T53 l0_0 x3_2).f1) x5_4).f4)] 38 (0, 0)) qa2 hb); have n3_ := qO (below_step qa16 hb); clear BK101; clear BK105; clear BK110; clear HB; have BK101 := n0_; have BK105 := n1_; have BK110 := n2_; have HB := n3_; clear n0_ n1_ n2_ n3_; (try clear hb); (try clear hb2); (try clear hk); (try clear hi); have hcz62_0 : w61.cell? ⟨gb110, 0, none⟩ = some (.string ((rd_T38 ((rd_T53 l0_0 x3_2).f1) x5_4).f0)) := (blk_cell BK110.out 0).trans rfl; have hcz62_1 : w61.cell? ⟨gb110, 1, none⟩ = some (.slice A109_1 ((rd_T38 ((rd_T53 l0_0 x3_2).f1) x5_4).f1).length c109_1) := (blk_cell BK110.out 1).trans rfl; have hcz62_2 : w61.cell? ⟨gb110, 2, none⟩ = some (.string ((rd_T38 ((rd_T53 l0_0 x3_2).f1) x5_4).f2)) := (blk_cell BK110.out 2).trans rfl; have hcz62_3 : w61.cell? ⟨gb110, 3, none⟩ = some (.bool ((rd_T38 ((rd_T53 l0_0 x3_2).f1) x5_4).f3)) := (blk_cell BK110.out 3).trans rfl; have hcz62_4 : w61.cell? ⟨gb110, 4, none⟩ = some (.bool ((rd_T38 ((rd_T53 l0_0 x3_2).f1) x5_4).f4)) := (blk_cell BK110.out 4).trans rfl; have hfz62_0 := blk_frozen BK110.out 0; have hfz62_1 := blk_frozen BK110.out 1; have hfz62_2 := blk_frozen BK110.out 2; have hfz62_3 := blk_frozen BK110.out 3; have hfz62_4 := blk_frozen BK110.out 4))
                    go_meet
                    case rel => exact ⟨_, (decide ((((rd_T38 ((rd_T53 l0_0 x3_2).f1) x5_4).f1).length : Int) > 4)), qa11, H', ⟨qa62⟩, ⟨qa13⟩, ⟨qa34⟩, ⟨qa38⟩, ⟨qa16⟩⟩
                   ·rw [if_neg c55] at H
                    have c55b0 : (((rd_T38 ((rd_T53 l0_0 x3_2).f1) x5_4).f2).toList == ([73, 110, 116] : List UInt8)) = false := beq_eq_false_iff_ne.mpr c55; have c55b1 : (((rd_T38 ((rd_T53 l0_0 x3_2).f1) x5_4).f2).toList != ([73, 110, 116] : List UInt8)) = true := bne_iff_ne.mpr c55; replace H := Option.bind_eq_some_iff.mp H; obtain ⟨t113, A630, H⟩ := H; replace H : (if t113 < 0 then (spec_SchemaOK.j4 k4 x3_2 x5_4 true l0_0 ((rd_T53 l0_0 x3_2).f0) ((rd_T53 l0_0 x3_2).f1) ((rd_T38 ((rd_T53 l0_0 x3_2).f1) x5_4).f0) ((rd_T38 ((rd_T53 l0_0 x3_2).f1) x5_4).f1) ((rd_T38 ((rd_T53 l0_0 x3_2).f1) x5_4).f2) ((rd_T38 ((rd_T53 l0_0 x3_2).f1) x5_4).f3) ((rd_T38 ((rd_T53 l0_0 x3_2).f1) x5_4).f4)) else (spec_SchemaOK.j4 k4 x3_2 x5_4 (decide ((((rd_T38 ((rd_T53 l0_0 x3_2).f1) x5_4).f1).length : Int) > 4)) l0_0 ((rd_T53 l0_0 x3_2).f0) ((rd_T53 l0_0 x3_2).f1) ((rd_T38 ((rd_T53 l0_0 x3_2).f1) x5_4).f0) ((rd_T38 ((rd_T53 l0_0 x3_2).f1) x5_4).f1) ((rd_T38 ((rd_T53 l0_0 x3_2).f1) x5_4).f2) ((rd_T38 ((rd_T53 l0_0 x3_2).f1) x5_4).f3) ((rd_T38 ((rd_T53 l0_0 x3_2).f1) x5_4).f4))) = some r := H; have A63 := qO A630; clear A630
                    by_cases c64 : t113 < 0
                    ·rw [if_pos c64] at H
                     have c64b0 : decide (t113 < 0) = true := decide_eq_true c64; clear c64; have H' := qO H; clear H; have hnb65 := NB110_101.out; have hnc65 := NB101_110.out; have hnb66 := NB110_105.out; have hnc66 := NB105_110.out; have hcz67_0 : w43.cell? ⟨gb110, 0, none⟩ = some (.string (⟨#[]⟩ : ByteArray)) := (blk_cell BK110.out 0).trans rfl; have hcz67_1 : w43.cell? ⟨gb110, 1, none⟩ = some (.slice none 0 0) := (blk_cell BK110.out 1).trans rfl; have hcz67_2 : w43.cell? ⟨gb110, 2, none⟩ = some (.string (⟨#[]⟩ : ByteArray)) := (blk_cell BK110.out 2).trans rfl; have hcz67_3 : w43.cell? ⟨gb110, 3, none⟩ = some (.bool false) := (blk_cell BK110.out 3).trans rfl; have hcz67_4 : w43.cell? ⟨gb110, 4, none⟩ = some (.bool false) := (blk_cell BK110.out 4).trans rfl; have hfz67_0 := blk_frozen BK110.out 0; have hfz67_1 := blk_frozen BK110.out 1; have hfz67_2 := blk_frozen BK110.out 2; have hfz67_3 := blk_frozen BK110.out 3; have hfz67_4 := blk_frozen BK110.out 4
                     go_wp2_with (first | ((with_reducible refine gate_callee (f := 29) rfl ?_); refine goesL_ (some 68) rfl rfl Try.func29 qa17 rfl #[.string ((rd_T38 ((rd_T53 l0_0 x3_2).f1) x5_4).f0)] rfl qa1 ?_; (with_reducible refine (spec_NameOK.calls k4 ((rd_T38 ((rd_T53 l0_0 x3_2).f1) x5_4).f0) true _ A47.out).mono ?_); rintro e w' ⟨rfl, ⟨nd, rfl⟩⟩; refine ⟨_, rfl, ?_⟩; have hnb68 := NB105_101.out; have hnc68 := NB101_105.out; have hcz69_0 : w43.cell? ⟨gb105, 0, none⟩ = some (.string ((rd_T53 l0_0 x3_2).f0)) := (blk_cell BK105.out 0).trans rfl; have hcz69_1 : w43.cell? ⟨gb105, 1, none⟩ = some (.slice (some ad109) ((rd_T53 l0_0 x3_2).f1).length c104_1) := (blk_cell BK105.out 1).trans rfl; have hfz69_0 := blk_frozen BK105.out 0; have hfz69_1 := blk_frozen BK105.out 1) | (go_at_call 30; (with_reducible refine (spec_l03Field.calls k4 ((rd_T53 l0_0 x3_2).f0) _ _ ((rd_T53 l0_0 x3_2).f1) ((rd_T38 ((rd_T53 l0_0 x3_2).f1) x5_4).f0) t112 _ ?side1 ?side2 A53.out).mono ?_); (case side1 => exact qa50); (case side2 => exact HC104_1.out); rintro e w70 ⟨rfl, hb⟩; have n0_ := qO (blk_below (g := gb101) (o := .cells #[.slice (some ad104) l0_0.length c0_0] 29 (0, 0)) qa9 hb); have n1_ := qO (blk_below (g := gb105) (o := .cells #[.string ((rd_T53 l0_0 x3_2).f0), .slice (some ad109) ((rd_T53 l0_0 x3_2).f1).length c104_1] 53 (0, 0)) qa10 hb); have n2_ := qO (blk_below (g := gb110) (o := .cells #[.string ((rd_T38 ((rd_T53 l0_0 x3_2).f1) x5_4).f0), .slice A109_1 ((rd_T38 ((rd_T53 l0_0 x3_2).f1) x5_4).f1).length c109_1, .string ((rd_T38 ((rd_T53 l0_0 x3_2).f1) x5_4).f2), .bool ((rd_T38 ((rd_T53 l0_0 x3_2).f1) x5_4).f3), .bool ((rd_T38 ((rd_T53 l0_0 x3_2).f1) x5_4).f4)] 38 (0, 0)) qa2 hb); have n3_ := qO (below_step qa16 hb); clear BK101; clear BK105; clear BK110; clear HB; have BK101 := n0_; have BK105 := n1_; have BK110 := n2_; have HB := n3_; clear n0_ n1_ n2_ n3_; (try clear hb); (try clear hb2); (try clear hk); (try clear hi); have hcz71_0 : w70.cell? ⟨gb110, 0, none⟩ = some (.string ((rd_T38 ((rd_T53 l0_0 x3_2).f1) x5_4).f0)) := (blk_cell BK110.out 0).trans rfl; have hcz71_1 : w70.cell? ⟨gb110, 1, none⟩ = some (.slice A109_1 ((rd_T38 ((rd_T53 l0_0 x3_2).f1) x5_4).f1).length c109_1) := (blk_cell BK110.out 1).trans rfl; have hcz71_2 : w70.cell? ⟨gb110, 2, none⟩ = some (.string ((rd_T38 ((rd_T53 l0_0 x3_2).f1) x5_4).f2)) := (blk_cell BK110.out 2).trans rfl; have hcz71_3 : w70.cell? ⟨gb110, 3, none⟩ = some (.bool ((rd_T38 ((rd_T53 l0_0 x3_2).f1) x5_4).f3)) := (blk_cell BK110.out 3).trans rfl; have hcz71_4 : w70.cell? ⟨gb110, 4, none⟩ = some (.bool ((rd_T38 ((rd_T53 l0_0 x3_2).f1) x5_4).f4)) := (blk_cell BK110.out 4).trans rfl; have hfz71_0 := blk_frozen BK110.out 0; have hfz71_1 := blk_frozen BK110.out 1; have hfz71_2 := blk_frozen BK110.out 2; have hfz71_3 := blk_frozen BK110.out 3; have hfz71_4 := blk_frozen BK110.out 4; have hcz72_0 : w70.cell? ⟨gb101, 0, none⟩ = some (.slice (some ad104) l0_0.length c0_0) := (blk_cell BK101.out 0).trans rfl; have hfz72_0 := blk_frozen BK101.out 0) | (go_at_call 28; (with_reducible refine (spec_l03Find.calls k4 _ _ l0_0 ((rd_T38 ((rd_T53 l0_0 x3_2).f1) x5_4).f2) t113 _ ?side1 ?side2 A63.out).mono ?_); (case side1 => exact qa19); (case side2 => exact HC0_0.out); rintro e w73 ⟨rfl, hb⟩; have hx_ := qHX HB hb qa0; have n0_ := qO (qB BK101.out hx_ hb); have n1_ := qO (qB BK105.out hx_ hb); have n2_ := qO (blk_below (g := gb110) (o := .cells #[.string ((rd_T38 ((rd_T53 l0_0 x3_2).f1) x5_4).f0), .slice A109_1 ((rd_T38 ((rd_T53 l0_0 x3_2).f1) x5_4).f1).length c109_1, .string ((rd_T38 ((rd_T53 l0_0 x3_2).f1) x5_4).f2), .bool ((rd_T38 ((rd_T53 l0_0 x3_2).f1) x5_4).f3), .bool ((rd_T38 ((rd_T53 l0_0 x3_2).f1) x5_4).f4)] 38 (0, 0)) qa38 hb); have n3_ := qO (below_step (below_step HB.out hx_) hb); clear BK101; clear BK105; clear BK110; clear HB; have BK101 := n0_; have BK105 := n1_; have BK110 := n2_; have HB := n3_; clear n0_ n1_ n2_ n3_; clear hx_; (try clear hb); (try clear hb2); (try clear hk); (try clear hi)))
                     go_meet
                     case rel => exact ⟨_, (true), qa11, H', ⟨qa62⟩, ⟨qa13⟩, ⟨qa34⟩, ⟨qa38⟩, ⟨qa16⟩⟩
                    ·rw [if_neg c64] at H
                     have c64b0 : decide (t113 < 0) = false := decide_eq_false c64; clear c64; have H' := qO H; clear H; have hnb74 := NB110_101.out; have hnc74 := NB101_110.out; have hnb75 := NB110_105.out; have hnc75 := NB105_110.out; have hcz76_0 : w43.cell? ⟨gb110, 0, none⟩ = some (.string (⟨#[]⟩ : ByteArray)) := (blk_cell BK110.out 0).trans rfl; have hcz76_1 : w43.cell? ⟨gb110, 1, none⟩ = some (.slice none 0 0) := (blk_cell BK110.out 1).trans rfl; have hcz76_2 : w43.cell? ⟨gb110, 2, none⟩ = some (.string (⟨#[]⟩ : ByteArray)) := (blk_cell BK110.out 2).trans rfl; have hcz76_3 : w43.cell? ⟨gb110, 3, none⟩ = some (.bool false) := (blk_cell BK110.out 3).trans rfl; have hcz76_4 : w43.cell? ⟨gb110, 4, none⟩ = some (.bool false) := (blk_cell BK110.out 4).trans rfl; have hfz76_0 := blk_frozen BK110.out 0; have hfz76_1 := blk_frozen BK110.out 1; have hfz76_2 := blk_frozen BK110.out 2; have hfz76_3 := blk_frozen BK110.out 3; have hfz76_4 := blk_frozen BK110.out 4
                     go_wp2_with (first | ((with_reducible refine gate_callee (f := 29) rfl ?_); refine goesL_ (some 68) rfl rfl Try.func29 qa17 rfl #[.string ((rd_T38 ((rd_T53 l0_0 x3_2).f1) x5_4).f0)] rfl qa1 ?_; (with_reducible refine (spec_NameOK.calls k4 ((rd_T38 ((rd_T53 l0_0 x3_2).f1) x5_4).f0) true _ A47.out).mono ?_); rintro e w' ⟨rfl, ⟨nd, rfl⟩⟩; refine ⟨_, rfl, ?_⟩; have hnb77 := NB105_101.out; have hnc77 := NB101_105.out; have hcz78_0 : w43.cell? ⟨gb105, 0, none⟩ = some (.string ((rd_T53 l0_0 x3_2).f0)) := (blk_cell BK105.out 0).trans rfl; have hcz78_1 : w43.cell? ⟨gb105, 1, none⟩ = some (.slice (some ad109) ((rd_T53 l0_0 x3_2).f1).length c104_1) := (blk_cell BK105.out 1).trans rfl; have hfz78_0 := blk_frozen BK105.out 0; have hfz78_1 := blk_frozen BK105.out 1) | (go_at_call 30; (with_reducible refine (spec_l03Field.calls k4 ((rd_T53 l0_0 x3_2).f0) _ _ ((rd_T53 l0_0 x3_2).f1) ((rd_T38 ((rd_T53 l0_0 x3_2).f1) x5_4).f0) t112 _ ?side1 ?side2 A53.out).mono ?_); (case side1 => exact qa50); (case side2 => exact HC104_1.out); rintro e w79 ⟨rfl, hb⟩; have n0_ := qO (blk_below (g := gb101) (o := .cells #[.slice (some ad104) l0_0.length c0_0] 29 (0, 0)) qa9 hb); have n1_ := qO (blk_below (g := gb105) (o := .cells #[.string ((rd_T53 l0_0 x3_2).f0), .slice (some ad109) ((rd_T53 l0_0 x3_2).f1).length c104_1] 53 (0, 0)) qa10 hb); have n2_ := qO (blk_below (g := gb110) (o := .cells #[.string ((rd_T38 ((rd_T53 l0_0 x3_2).f1) x5_4).f0), .slice A109_1 ((rd_T38 ((rd_T53 l0_0 x3_2).f1) x5_4).f1).length c109_1, .string ((rd_T38 ((rd_T53 l0_0 x3_2).f1) x5_4).f2), .bool ((rd_T38 ((rd_T53 l0_0 x3_2).f1) x5_4).f3), .bool ((rd_T38 ((rd_T53 l0_0 x3_2).f1) x5_4).f4)] 38 (0, 0)) qa2 hb); have n3_ := qO (below_step qa16 hb); clear BK101; clear BK105; clear BK110; clear HB; have BK101 := n0_; have BK105 := n1_; have BK110 := n2_; have HB := n3_; clear n0_ n1_ n2_ n3_; (try clear hb); (try clear hb2); (try clear hk); (try clear hi); have hcz80_0 : w79.cell? ⟨gb110, 0, none⟩ = some (.string ((rd_T38 ((rd_T53 l0_0 x3_2).f1) x5_4).f0)) := (blk_cell BK110.out 0).trans rfl; have hcz80_1 : w79.cell? ⟨gb110, 1, none⟩ = some (.slice A109_1 ((rd_T38 ((rd_T53 l0_0 x3_2).f1) x5_4).f1).length c109_1) := (blk_cell BK110.out 1).trans rfl; have hcz80_2 : w79.cell? ⟨gb110, 2, none⟩ = some (.string ((rd_T38 ((rd_T53 l0_0 x3_2).f1) x5_4).f2)) := (blk_cell BK110.out 2).trans rfl; have hcz80_3 : w79.cell? ⟨gb110, 3, none⟩ = some (.bool ((rd_T38 ((rd_T53 l0_0 x3_2).f1) x5_4).f3)) := (blk_cell BK110.out 3).trans rfl; have hcz80_4 : w79.cell? ⟨gb110, 4, none⟩ = some (.bool ((rd_T38 ((rd_T53 l0_0 x3_2).f1) x5_4).f4)) := (blk_cell BK110.out 4).trans rfl; have hfz80_0 := blk_frozen BK110.out 0; have hfz80_1 := blk_frozen BK110.out 1; have hfz80_2 := blk_frozen BK110.out 2; have hfz80_3 := blk_frozen BK110.out 3; have hfz80_4 := blk_frozen BK110.out 4; have hcz81_0 : w79.cell? ⟨gb101, 0, none⟩ = some (.slice (some ad104) l0_0.length c0_0) := (blk_cell BK101.out 0).trans rfl; have hfz81_0 := blk_frozen BK101.out 0) | (go_at_call 28; (with_reducible refine (spec_l03Find.calls k4 _ _ l0_0 ((rd_T38 ((rd_T53 l0_0 x3_2).f1) x5_4).f2) t113 _ ?side1 ?side2 A63.out).mono ?_); (case side1 => exact qa19); (case side2 => exact HC0_0.out); rintro e w82 ⟨rfl, hb⟩; have hx_ := qHX HB hb qa0; have n0_ := qO (qB BK101.out hx_ hb); have n1_ := qO (qB BK105.out hx_ hb); have n2_ := qO (blk_below (g := gb110) (o := .cells #[.string ((rd_T38 ((rd_T53 l0_0 x3_2).f1) x5_4).f0), .slice A109_1 ((rd_T38 ((rd_T53 l0_0 x3_2).f1) x5_4).f1).length c109_1, .string ((rd_T38 ((rd_T53 l0_0 x3_2).f1) x5_4).f2), .bool ((rd_T38 ((rd_T53 l0_0 x3_2).f1) x5_4).f3), .bool ((rd_T38 ((rd_T53 l0_0 x3_2).f1) x5_4).f4)] 38 (0, 0)) qa38 hb); have n3_ := qO (below_step (below_step HB.out hx_) hb); clear BK101; clear BK105; clear BK110; clear HB; have BK101 := n0_; have BK105 := n1_; have BK110 := n2_; have HB := n3_; clear n0_ n1_ n2_ n3_; clear hx_; (try clear hb); (try clear hb2); (try clear hk); (try clear hi); have hcz83_0 : w82.cell? ⟨gb110, 0, none⟩ = some (.string ((rd_T38 ((rd_T53 l0_0 x3_2).f1) x5_4).f0)) := (blk_cell BK110.out 0).trans rfl; have hcz83_1 : w82.cell? ⟨gb110, 1, none⟩ = some (.slice A109_1 ((rd_T38 ((rd_T53 l0_0 x3_2).f1) x5_4).f1).length c109_1) := (blk_cell BK110.out 1).trans rfl; have hcz83_2 : w82.cell? ⟨gb110, 2, none⟩ = some (.string ((rd_T38 ((rd_T53 l0_0 x3_2).f1) x5_4).f2)) := (blk_cell BK110.out 2).trans rfl; have hcz83_3 : w82.cell? ⟨gb110, 3, none⟩ = some (.bool ((rd_T38 ((rd_T53 l0_0 x3_2).f1) x5_4).f3)) := (blk_cell BK110.out 3).trans rfl; have hcz83_4 : w82.cell? ⟨gb110, 4, none⟩ = some (.bool ((rd_T38 ((rd_T53 l0_0 x3_2).f1) x5_4).f4)) := (blk_cell BK110.out 4).trans rfl; have hfz83_0 := blk_frozen BK110.out 0; have hfz83_1 := blk_frozen BK110.out 1; have hfz83_2 := blk_frozen BK110.out 2; have hfz83_3 := blk_frozen BK110.out 3; have hfz83_4 := blk_frozen BK110.out 4))
                     go_meet
                     case rel => exact ⟨_, (decide ((((rd_T38 ((rd_T53 l0_0 x3_2).f1) x5_4).f1).length : Int) > 4)), qa11, H', ⟨qa62⟩, ⟨qa13⟩, ⟨qa34⟩, ⟨qa38⟩, ⟨qa16⟩⟩
                  ·rw [if_neg c54] at H
                   have c54b0 : (t112 == x5_4) = false := beq_eq_false_iff_ne.mpr c54; have c54b1 : (t112 != x5_4) = true := bne_iff_ne.mpr c54; have H' := qO H; clear H; have hnb84 := NB110_101.out; have hnc84 := NB101_110.out; have hnb85 := NB110_105.out; have hnc85 := NB105_110.out; have hcz86_0 : w43.cell? ⟨gb110, 0, none⟩ = some (.string (⟨#[]⟩ : ByteArray)) := (blk_cell BK110.out 0).trans rfl; have hcz86_1 : w43.cell? ⟨gb110, 1, none⟩ = some (.slice none 0 0) := (blk_cell BK110.out 1).trans rfl; have hcz86_2 : w43.cell? ⟨gb110, 2, none⟩ = some (.string (⟨#[]⟩ : ByteArray)) := (blk_cell BK110.out 2).trans rfl; have hcz86_3 : w43.cell? ⟨gb110, 3, none⟩ = some (.bool false) := (blk_cell BK110.out 3).trans rfl; have hcz86_4 : w43.cell? ⟨gb110, 4, none⟩ = some (.bool false) := (blk_cell BK110.out 4).trans rfl; have hfz86_0 := blk_frozen BK110.out 0; have hfz86_1 := blk_frozen BK110.out 1; have hfz86_2 := blk_frozen BK110.out 2; have hfz86_3 := blk_frozen BK110.out 3; have hfz86_4 := blk_frozen BK110.out 4
                   go_wp2_with (first | ((with_reducible refine gate_callee (f := 29) rfl ?_); refine goesL_ (some 68) rfl rfl Try.func29 qa17 rfl #[.string ((rd_T38 ((rd_T53 l0_0 x3_2).f1) x5_4).f0)] rfl qa1 ?_; (with_reducible refine (spec_NameOK.calls k4 ((rd_T38 ((rd_T53 l0_0 x3_2).f1) x5_4).f0) true _ A47.out).mono ?_); rintro e w' ⟨rfl, ⟨nd, rfl⟩⟩; refine ⟨_, rfl, ?_⟩; have hnb87 := NB105_101.out; have hnc87 := NB101_105.out; have hcz88_0 : w43.cell? ⟨gb105, 0, none⟩ = some (.string ((rd_T53 l0_0 x3_2).f0)) := (blk_cell BK105.out 0).trans rfl; have hcz88_1 : w43.cell? ⟨gb105, 1, none⟩ = some (.slice (some ad109) ((rd_T53 l0_0 x3_2).f1).length c104_1) := (blk_cell BK105.out 1).trans rfl; have hfz88_0 := blk_frozen BK105.out 0; have hfz88_1 := blk_frozen BK105.out 1) | (go_at_call 30; (with_reducible refine (spec_l03Field.calls k4 ((rd_T53 l0_0 x3_2).f0) _ _ ((rd_T53 l0_0 x3_2).f1) ((rd_T38 ((rd_T53 l0_0 x3_2).f1) x5_4).f0) t112 _ ?side1 ?side2 A53.out).mono ?_); (case side1 => exact qa50); (case side2 => exact HC104_1.out); rintro e w89 ⟨rfl, hb⟩; have n0_ := qO (blk_below (g := gb101) (o := .cells #[.slice (some ad104) l0_0.length c0_0] 29 (0, 0)) qa9 hb); have n1_ := qO (blk_below (g := gb105) (o := .cells #[.string ((rd_T53 l0_0 x3_2).f0), .slice (some ad109) ((rd_T53 l0_0 x3_2).f1).length c104_1] 53 (0, 0)) qa10 hb); have n2_ := qO (blk_below (g := gb110) (o := .cells #[.string ((rd_T38 ((rd_T53 l0_0 x3_2).f1) x5_4).f0), .slice A109_1 ((rd_T38 ((rd_T53 l0_0 x3_2).f1) x5_4).f1).length c109_1, .string ((rd_T38 ((rd_T53 l0_0 x3_2).f1) x5_4).f2), .bool ((rd_T38 ((rd_T53 l0_0 x3_2).f1) x5_4).f3), .bool ((rd_T38 ((rd_T53 l0_0 x3_2).f1) x5_4).f4)] 38 (0, 0)) qa2 hb); have n3_ := qO (below_step qa16 hb); clear BK101; clear BK105; clear BK110; clear HB; have BK101 := n0_; have BK105 := n1_; have BK110 := n2_; have HB := n3_; clear n0_ n1_ n2_ n3_; (try clear hb); (try clear hb2); (try clear hk); (try clear hi)))
                   go_meet
                   case rel => exact ⟨_, (true), qa11, H', ⟨qa62⟩, ⟨qa13⟩, ⟨qa34⟩, ⟨qa38⟩, ⟨qa16⟩⟩
                ·replace c48 := Bool.eq_false_iff.mpr c48
                 subst c48; have H1 : (spec_SchemaOK.j4 k4 x3_2 x5_4 true l0_0 ((rd_T53 l0_0 x3_2).f0) ((rd_T53 l0_0 x3_2).f1) ((rd_T38 ((rd_T53 l0_0 x3_2).f1) x5_4).f0) ((rd_T38 ((rd_T53 l0_0 x3_2).f1) x5_4).f1) ((rd_T38 ((rd_T53 l0_0 x3_2).f1) x5_4).f2) ((rd_T38 ((rd_T53 l0_0 x3_2).f1) x5_4).f3) ((rd_T38 ((rd_T53 l0_0 x3_2).f1) x5_4).f4)) = some r := by rw [if_neg (show ¬ (false = true) by decide)] at H; exact H
                 clear H; have H := H1; clear H1; have H' := qO H; clear H; have hnb90 := NB110_101.out; have hnc90 := NB101_110.out; have hnb91 := NB110_105.out; have hnc91 := NB105_110.out; have hcz92_0 : w43.cell? ⟨gb110, 0, none⟩ = some (.string (⟨#[]⟩ : ByteArray)) := (blk_cell BK110.out 0).trans rfl; have hcz92_1 : w43.cell? ⟨gb110, 1, none⟩ = some (.slice none 0 0) := (blk_cell BK110.out 1).trans rfl; have hcz92_2 : w43.cell? ⟨gb110, 2, none⟩ = some (.string (⟨#[]⟩ : ByteArray)) := (blk_cell BK110.out 2).trans rfl; have hcz92_3 : w43.cell? ⟨gb110, 3, none⟩ = some (.bool false) := (blk_cell BK110.out 3).trans rfl; have hcz92_4 : w43.cell? ⟨gb110, 4, none⟩ = some (.bool false) := (blk_cell BK110.out 4).trans rfl; have hfz92_0 := blk_frozen BK110.out 0; have hfz92_1 := blk_frozen BK110.out 1; have hfz92_2 := blk_frozen BK110.out 2; have hfz92_3 := blk_frozen BK110.out 3; have hfz92_4 := blk_frozen BK110.out 4
                 go_wp2_with (first | ((with_reducible refine gate_callee (f := 29) rfl ?_); refine goesL_ (some 68) rfl rfl Try.func29 qa17 rfl #[.string ((rd_T38 ((rd_T53 l0_0 x3_2).f1) x5_4).f0)] rfl qa1 ?_; (with_reducible refine (spec_NameOK.calls k4 ((rd_T38 ((rd_T53 l0_0 x3_2).f1) x5_4).f0) false _ A47.out).mono ?_); rintro e w' ⟨rfl, ⟨nd, rfl⟩⟩; refine ⟨_, rfl, ?_⟩))
                 go_meet
                 case rel => exact ⟨_, (true), qa11, H', ⟨qa62⟩, ⟨qa9⟩, ⟨qa10⟩, ⟨qa2⟩, ⟨qa16⟩⟩
               case rest =>
                clear HC40
                try clear c1
                try clear p1
                try clear q1
                try clear hx1
                try clear c2
                try clear p2
                try clear c3
                try clear c4
                try clear c5
                try clear c6
                try clear c7
                try clear c8
                try clear c9
                try clear c10
                try clear p10
                try clear q10
                try clear hx10
                try clear c11
                try clear c11b0
                try clear c12
                try clear c12b0
                try clear c16
                try clear c19
                try clear c20
                try clear c20b0
                try clear c20b1
                try clear c21
                try clear c24
                try clear c24b0
                try clear c24b1
                try clear c26
                try clear c27
                try clear c29
                try clear c31
                try clear c35
                try clear c37
                try clear c38
                try clear c38b0
                try clear c39
                try clear c39b0
                try clear c41
                try clear c44
                try clear c45
                try clear c48
                try clear c49
                try clear c49b0
                try clear c49b1
                try clear c50
                try clear c51
                try clear c54
                try clear c54b0
                try clear c54b1
                try clear c55
                try clear c55b0
                try clear c55b1
                try clear c56
                try clear c57
                try clear c59
                try clear c64
                try clear c64b0
                try clear c65
                try clear c66
                try clear c68
                try clear c74
                try clear c75
                try clear c77
                try clear c84
                try clear c85
                try clear c87
                try clear c90
                try clear c91
                try clear hcz14_0
                try clear hcz17_0
                try clear hcz17_1
                try clear hcz22_0
                try clear hcz22_1
                try clear hcz27_0
                try clear hcz27_1
                try clear hcz28_0
                try clear hcz30_0
                try clear hcz30_1
                try clear hcz32_0
                try clear hcz32_1
                try clear hcz33_0
                try clear hcz36_0
                try clear hcz36_1
                try clear hcz42_0
                try clear hcz42_1
                try clear hcz46_0
                try clear hcz46_1
                try clear hcz46_2
                try clear hcz46_3
                try clear hcz46_4
                try clear hcz52_0
                try clear hcz52_1
                try clear hcz52_2
                try clear hcz52_3
                try clear hcz52_4
                try clear hcz58_0
                try clear hcz58_1
                try clear hcz58_2
                try clear hcz58_3
                try clear hcz58_4
                try clear hcz60_0
                try clear hcz60_1
                try clear hcz62_0
                try clear hcz62_1
                try clear hcz62_2
                try clear hcz62_3
                try clear hcz62_4
                try clear hcz67_0
                try clear hcz67_1
                try clear hcz67_2
                try clear hcz67_3
                try clear hcz67_4
                try clear hcz69_0
                try clear hcz69_1
                try clear hcz71_0
                try clear hcz71_1
                try clear hcz71_2
                try clear hcz71_3
                try clear hcz71_4
                try clear hcz72_0
                try clear hcz76_0
                try clear hcz76_1
                try clear hcz76_2
                try clear hcz76_3
                try clear hcz76_4
                try clear hcz78_0
                try clear hcz78_1
                try clear hcz7_0
                try clear hcz80_0
                try clear hcz80_1
                try clear hcz80_2
                try clear hcz80_3
                try clear hcz80_4
                try clear hcz81_0
                try clear hcz83_0
                try clear hcz83_1
                try clear hcz83_2
                try clear hcz83_3
                try clear hcz83_4
                try clear hcz86_0
                try clear hcz86_1
                try clear hcz86_2
                try clear hcz86_3
                try clear hcz86_4
                try clear hcz88_0
                try clear hcz88_1
                try clear hcz92_0
                try clear hcz92_1
                try clear hcz92_2
                try clear hcz92_3
                try clear hcz92_4
                try clear hcz9_0
                try clear hfz14_0
                try clear hfz17_0
                try clear hfz17_1
                try clear hfz22_0
                try clear hfz22_1
                try clear hfz27_0
                try clear hfz27_1
                try clear hfz28_0
                try clear hfz30_0
                try clear hfz30_1
                try clear hfz32_0
                try clear hfz32_1
                try clear hfz33_0
                try clear hfz36_0
                try clear hfz36_1
                try clear hfz42_0
                try clear hfz42_1
                try clear hfz46_0
                try clear hfz46_1
                try clear hfz46_2
                try clear hfz46_3
                try clear hfz46_4
                try clear hfz52_0
                try clear hfz52_1
                try clear hfz52_2
                try clear hfz52_3
                try clear hfz52_4
                try clear hfz58_0
                try clear hfz58_1
                try clear hfz58_2
                try clear hfz58_3
                try clear hfz58_4
                try clear hfz60_0
                try clear hfz60_1
                try clear hfz62_0
                try clear hfz62_1
                try clear hfz62_2
                try clear hfz62_3
                try clear hfz62_4
                try clear hfz67_0
                try clear hfz67_1
                try clear hfz67_2
                try clear hfz67_3
                try clear hfz67_4
                try clear hfz69_0
                try clear hfz69_1
                try clear hfz71_0
                try clear hfz71_1
                try clear hfz71_2
                try clear hfz71_3
                try clear hfz71_4
                try clear hfz72_0
                try clear hfz76_0
                try clear hfz76_1
                try clear hfz76_2
                try clear hfz76_3
                try clear hfz76_4
                try clear hfz78_0
                try clear hfz78_1
                try clear hfz7_0
                try clear hfz80_0
                try clear hfz80_1
                try clear hfz80_2
                try clear hfz80_3
                try clear hfz80_4
                try clear hfz81_0
                try clear hfz83_0
                try clear hfz83_1
                try clear hfz83_2
                try clear hfz83_3
                try clear hfz83_4
                try clear hfz86_0
                try clear hfz86_1
                try clear hfz86_2
                try clear hfz86_3
                try clear hfz86_4
                try clear hfz88_0
                try clear hfz88_1
                try clear hfz92_0
                try clear hfz92_1
                try clear hfz92_2
                try clear hfz92_3
                try clear hfz92_4
                try clear hfz9_0
                try clear hx104_0
                try clear hx104_1
                try clear hx109_0
                try clear hx109_1
                try clear hx109_2
                try clear hx109_3
                try clear hx109_4
                try clear p1
                try clear p10
                try clear p104
                try clear p109
                try clear p2
                try clear q1
                try clear q10
                try clear q104
                try clear q109
                obtain ⟨kq, x100_39, rfl, HA, HJ39, BK101, BK105, BK110, HB⟩ := hcut
                cases kq with
                | zero => exact absurd HA.out (by simp [spec_SchemaOK.j4])
                | succ kj39 =>
                 have H := HA.out; clear HA; simp only [spec_SchemaOK.j4] at H
                 by_cases c93 : x100_39 = true
                 ·subst c93
                  have H1 : (some false) = some r := by rw [if_pos rfl] at H; exact H
                  clear H; have H := H1; clear H1; obtain rfl := Option.some.inj H; go_wp2
                  go_ret
                  exact ⟨qa3, qa16⟩
                 ·replace c93 := Bool.eq_false_iff.mpr c93
                  subst c93; have H1 : (spec_SchemaOK.l2 kj39 x3_2 x5_4 0 l0_0 ((rd_T53 l0_0 x3_2).f0) ((rd_T53 l0_0 x3_2).f1) ((rd_T38 ((rd_T53 l0_0 x3_2).f1) x5_4).f0) ((rd_T38 ((rd_T53 l0_0 x3_2).f1) x5_4).f1) ((rd_T38 ((rd_T53 l0_0 x3_2).f1) x5_4).f2) ((rd_T38 ((rd_T53 l0_0 x3_2).f1) x5_4).f3) ((rd_T38 ((rd_T53 l0_0 x3_2).f1) x5_4).f4)) = some r := by rw [if_neg (show ¬ (false = true) by decide)] at H; exact H
                  clear H; have H := H1; clear H1; have H' := qO H; clear H; go_wp2
                  go_loopg [7] kj39 (fun kq v7 w' => ∃ (x7_6 : Int), v7 = .int .i64 x7_6 ∧ Aside0 (spec_SchemaOK.l2 kq x3_2 x5_4 x7_6 l0_0 ((rd_T53 l0_0 x3_2).f0) ((rd_T53 l0_0 x3_2).f1) ((rd_T38 ((rd_T53 l0_0 x3_2).f1) x5_4).f0) ((rd_T38 ((rd_T53 l0_0 x3_2).f1) x5_4).f1) ((rd_T38 ((rd_T53 l0_0 x3_2).f1) x5_4).f2) ((rd_T38 ((rd_T53 l0_0 x3_2).f1) x5_4).f3) ((rd_T38 ((rd_T53 l0_0 x3_2).f1) x5_4).f4) = some r) ∧ Aside0 (kq ≤ kj39) ∧ Aside0 (w'.heap[gb101]? = some (.cells #[(.slice (some ad104) l0_0.length c0_0)] 29 (0, 0))) ∧ Aside0 (w'.heap[gb105]? = some (.cells #[.string ((rd_T53 l0_0 x3_2).f0), (.slice (some ad109) ((rd_T53 l0_0 x3_2).f1).length c104_1)] 53 (0, 0))) ∧ Aside0 (w'.heap[gb110]? = some (.cells #[.string ((rd_T38 ((rd_T53 l0_0 x3_2).f1) x5_4).f0), (.slice A109_1 ((rd_T38 ((rd_T53 l0_0 x3_2).f1) x5_4).f1).length c109_1), .string ((rd_T38 ((rd_T53 l0_0 x3_2).f1) x5_4).f2), .bool ((rd_T38 ((rd_T53 l0_0 x3_2).f1) x5_4).f3), .bool ((rd_T38 ((rd_T53 l0_0 x3_2).f1) x5_4).f4)] 38 (0, 0))) ∧ Aside0 (Below w.heap.size w w'))
                  case atStart => exact ⟨(0), qa11, H', ⟨Nat.le_refl _⟩, ⟨qa13⟩, ⟨qa34⟩, ⟨qa38⟩, ⟨qa16⟩⟩
                  case round =>
                   clear H'
                   try clear c1
                   try clear p1
                   try clear q1
                   try clear hx1
                   try clear c2
                   try clear p2
                   try clear c3
                   try clear c4
                   try clear c5
                   try clear c6
                   try clear c7
                   try clear c8
                   try clear c9
                   try clear c10
                   try clear p10
                   try clear q10
                   try clear hx10
                   try clear c11
                   try clear c11b0
                   try clear c12
                   try clear c12b0
                   try clear c16
                   try clear c19
                   try clear c20
                   try clear c20b0
                   try clear c20b1
                   try clear c21
                   try clear c24
                   try clear c24b0
                   try clear c24b1
                   try clear c26
                   try clear c27
                   try clear c29
                   try clear c31
                   try clear c35
                   try clear c37
                   try clear c38
                   try clear c38b0
                   try clear c39
                   try clear c39b0
                   try clear c41
                   try clear c44
                   try clear c45
                   try clear c48
                   try clear c49
                   try clear c49b0
                   try clear c49b1
                   try clear c50
                   try clear c51
                   try clear c54
                   try clear c54b0
                   try clear c54b1
                   try clear c55
                   try clear c55b0
                   try clear c55b1
                   try clear c56
                   try clear c57
                   try clear c59
                   try clear c64
                   try clear c64b0
                   try clear c65
                   try clear c66
                   try clear c68
                   try clear c74
                   try clear c75
                   try clear c77
                   try clear c84
                   try clear c85
                   try clear c87
                   try clear c90
                   try clear c91
                   try clear c93
                   try clear hcz14_0
                   try clear hcz17_0
                   try clear hcz17_1
                   try clear hcz22_0
                   try clear hcz22_1
                   try clear hcz27_0
                   try clear hcz27_1
                   try clear hcz28_0
                   try clear hcz30_0
                   try clear hcz30_1
                   try clear hcz32_0
                   try clear hcz32_1
                   try clear hcz33_0
                   try clear hcz36_0
                   try clear hcz36_1
                   try clear hcz42_0
                   try clear hcz42_1
                   try clear hcz46_0
                   try clear hcz46_1
                   try clear hcz46_2
                   try clear hcz46_3
                   try clear hcz46_4
                   try clear hcz52_0
                   try clear hcz52_1
                   try clear hcz52_2
                   try clear hcz52_3
                   try clear hcz52_4
                   try clear hcz58_0
                   try clear hcz58_1
                   try clear hcz58_2
                   try clear hcz58_3
                   try clear hcz58_4
                   try clear hcz60_0
                   try clear hcz60_1
                   try clear hcz62_0
                   try clear hcz62_1
                   try clear hcz62_2
                   try clear hcz62_3
                   try clear hcz62_4
                   try clear hcz67_0
                   try clear hcz67_1
                   try clear hcz67_2
                   try clear hcz67_3
                   try clear hcz67_4
                   try clear hcz69_0
                   try clear hcz69_1
                   try clear hcz71_0
                   try clear hcz71_1
                   try clear hcz71_2
                   try clear hcz71_3
                   try clear hcz71_4
                   try clear hcz72_0
                   try clear hcz76_0
                   try clear hcz76_1
                   try clear hcz76_2
                   try clear hcz76_3
                   try clear hcz76_4
                   try clear hcz78_0
                   try clear hcz78_1
                   try clear hcz7_0
                   try clear hcz80_0
                   try clear hcz80_1
                   try clear hcz80_2
                   try clear hcz80_3
                   try clear hcz80_4
                   try clear hcz81_0
                   try clear hcz83_0
                   try clear hcz83_1
                   try clear hcz83_2
                   try clear hcz83_3
                   try clear hcz83_4
                   try clear hcz86_0
                   try clear hcz86_1
                   try clear hcz86_2
                   try clear hcz86_3
                   try clear hcz86_4
                   try clear hcz88_0
                   try clear hcz88_1
                   try clear hcz92_0
                   try clear hcz92_1
                   try clear hcz92_2
                   try clear hcz92_3
                   try clear hcz92_4
                   try clear hcz9_0
                   try clear hfz14_0
                   try clear hfz17_0
                   try clear hfz17_1
                   try clear hfz22_0
                   try clear hfz22_1
                   try clear hfz27_0
                   try clear hfz27_1
                   try clear hfz28_0
                   try clear hfz30_0
                   try clear hfz30_1
                   try clear hfz32_0
                   try clear hfz32_1
                   try clear hfz33_0
                   try clear hfz36_0
                   try clear hfz36_1
                   try clear hfz42_0
                   try clear hfz42_1
                   try clear hfz46_0
                   try clear hfz46_1
                   try clear hfz46_2
                   try clear hfz46_3
                   try clear hfz46_4
                   try clear hfz52_0
                   try clear hfz52_1
                   try clear hfz52_2
                   try clear hfz52_3
                   try clear hfz52_4
                   try clear hfz58_0
                   try clear hfz58_1
                   try clear hfz58_2
                   try clear hfz58_3
                   try clear hfz58_4
                   try clear hfz60_0
                   try clear hfz60_1
                   try clear hfz62_0
                   try clear hfz62_1
                   try clear hfz62_2
                   try clear hfz62_3
                   try clear hfz62_4
                   try clear hfz67_0
                   try clear hfz67_1
                   try clear hfz67_2
                   try clear hfz67_3
                   try clear hfz67_4
                   try clear hfz69_0
                   try clear hfz69_1
                   try clear hfz71_0
                   try clear hfz71_1
                   try clear hfz71_2
                   try clear hfz71_3
                   try clear hfz71_4
                   try clear hfz72_0
                   try clear hfz76_0
                   try clear hfz76_1
                   try clear hfz76_2
                   try clear hfz76_3
                   try clear hfz76_4
                   try clear hfz78_0
                   try clear hfz78_1
                   try clear hfz7_0
                   try clear hfz80_0
                   try clear hfz80_1
                   try clear hfz80_2
                   try clear hfz80_3
                   try clear hfz80_4
                   try clear hfz81_0
                   try clear hfz83_0
                   try clear hfz83_1
                   try clear hfz83_2
                   try clear hfz83_3
                   try clear hfz83_4
                   try clear hfz86_0
                   try clear hfz86_1
                   try clear hfz86_2
                   try clear hfz86_3
                   try clear hfz86_4
                   try clear hfz88_0
                   try clear hfz88_1
                   try clear hfz92_0
                   try clear hfz92_1
                   try clear hfz92_2
                   try clear hfz92_3
                   try clear hfz92_4
                   try clear hfz9_0
                   try clear hx104_0
                   try clear hx104_1
                   try clear hx109_0
                   try clear hx109_1
                   try clear hx109_2
                   try clear hx109_3
                   try clear hx109_4
                   try clear p1
                   try clear p10
                   try clear p104
                   try clear p109
                   try clear p2
                   try clear q1
                   try clear q10
                   try clear q104
                   try clear q109
                   obtain ⟨x7_6, rfl, HA, HK6, BK101, BK105, BK110, HB⟩ := hrel
                   cases gk with
                   | zero => exact absurd HA.out (by simp [spec_SchemaOK.l2])
                   | succ k6 =>
                    have H := HA.out; clear HA; simp only [spec_SchemaOK.l2] at H
                    by_cases c94 : x7_6 < (((rd_T38 ((rd_T53 l0_0 x3_2).f1) x5_4).f1).length : Int)
                    ·rw [if_pos c94] at H
                     have c94b0 : decide (x7_6 < (((rd_T38 ((rd_T53 l0_0 x3_2).f1) x5_4).f1).length : Int)) = true := decide_eq_true c94; clear c94
                     by_cases c95 : 0 ≤ x7_6
                     ·rw [if_pos c95] at H
                      have c95b0 : decide (0 ≤ x7_6) = true := decide_eq_true c95; clear c95; replace H := Option.bind_eq_some_iff.mp H; obtain ⟨t115, A960, H⟩ := H; replace H : (if t115 = true then ((spec_l03Arg.f k6 ((rd_T38 ((rd_T53 l0_0 x3_2).f1) x5_4).f0) ((rd_T38 ((rd_T53 l0_0 x3_2).f1) x5_4).f1) ((rd_T38 ((rd_T53 l0_0 x3_2).f1) x5_4).f2) ((rd_T38 ((rd_T53 l0_0 x3_2).f1) x5_4).f3) ((rd_T38 ((rd_T53 l0_0 x3_2).f1) x5_4).f4) ((rd_T57 ((rd_T38 ((rd_T53 l0_0 x3_2).f1) x5_4).f1) x7_6).f0)).bind fun t117 => (if t117 = x7_6 then (spec_SchemaOK.l2 k6 x3_2 x5_4 (wrap64 (x7_6 + 1)) l0_0 ((rd_T53 l0_0 x3_2).f0) ((rd_T53 l0_0 x3_2).f1) ((rd_T38 ((rd_T53 l0_0 x3_2).f1) x5_4).f0) ((rd_T38 ((rd_T53 l0_0 x3_2).f1) x5_4).f1) ((rd_T38 ((rd_T53 l0_0 x3_2).f1) x5_4).f2) ((rd_T38 ((rd_T53 l0_0 x3_2).f1) x5_4).f3) ((rd_T38 ((rd_T53 l0_0 x3_2).f1) x5_4).f4)) else (some false))) else (some false)) = some r := H; have A96 := qO A960; clear A960
                      by_cases c97 : t115 = true
                      ·subst c97
                       have H1 : ((spec_l03Arg.f k6 ((rd_T38 ((rd_T53 l0_0 x3_2).f1) x5_4).f0) ((rd_T38 ((rd_T53 l0_0 x3_2).f1) x5_4).f1) ((rd_T38 ((rd_T53 l0_0 x3_2).f1) x5_4).f2) ((rd_T38 ((rd_T53 l0_0 x3_2).f1) x5_4).f3) ((rd_T38 ((rd_T53 l0_0 x3_2).f1) x5_4).f4) ((rd_T57 ((rd_T38 ((rd_T53 l0_0 x3_2).f1) x5_4).f1) x7_6).f0)).bind fun t117 => (if t117 = x7_6 then (spec_SchemaOK.l2 k6 x3_2 x5_4 (wrap64 (x7_6 + 1)) l0_0 ((rd_T53 l0_0 x3_2).f0) ((rd_T53 l0_0 x3_2).f1) ((rd_T38 ((rd_T53 l0_0 x3_2).f1) x5_4).f0) ((rd_T38 ((rd_T53 l0_0 x3_2).f1) x5_4).f1) ((rd_T38 ((rd_T53 l0_0 x3_2).f1) x5_4).f2) ((rd_T38 ((rd_T53 l0_0 x3_2).f1) x5_4).f3) ((rd_T38 ((rd_T53 l0_0 x3_2).f1) x5_4).f4)) else (some false))) = some r := by rw [if_pos rfl] at H; exact H
                       clear H; have H := H1; clear H1; replace H := Option.bind_eq_some_iff.mp H; obtain ⟨t117, A980, H⟩ := H; replace H : (if t117 = x7_6 then (spec_SchemaOK.l2 k6 x3_2 x5_4 (wrap64 (x7_6 + 1)) l0_0 ((rd_T53 l0_0 x3_2).f0) ((rd_T53 l0_0 x3_2).f1) ((rd_T38 ((rd_T53 l0_0 x3_2).f1) x5_4).f0) ((rd_T38 ((rd_T53 l0_0 x3_2).f1) x5_4).f1) ((rd_T38 ((rd_T53 l0_0 x3_2).f1) x5_4).f2) ((rd_T38 ((rd_T53 l0_0 x3_2).f1) x5_4).f3) ((rd_T38 ((rd_T53 l0_0 x3_2).f1) x5_4).f4)) else (some false)) = some r := H; have A98 := qO A980; clear A980
                       by_cases c99 : t117 = x7_6
                       ·rw [if_pos c99] at H
                        have c99b0 : (t117 == x7_6) = true := beq_iff_eq.mpr c99; have c99b1 : (t117 != x7_6) = false := bne_eq_false_iff_eq.mpr c99; clear c99; have H' := qO H; clear H; have hnb100 := NB110_101.out; have hnc100 := NB101_110.out; have hnb101 := NB110_105.out; have hnc101 := NB105_110.out; have hcz102_0 : wr.cell? ⟨gb110, 0, none⟩ = some (.string ((rd_T38 ((rd_T53 l0_0 x3_2).f1) x5_4).f0)) := (blk_cell BK110.out 0).trans rfl; have hcz102_1 : wr.cell? ⟨gb110, 1, none⟩ = some (.slice A109_1 ((rd_T38 ((rd_T53 l0_0 x3_2).f1) x5_4).f1).length c109_1) := (blk_cell BK110.out 1).trans rfl; have hcz102_2 : wr.cell? ⟨gb110, 2, none⟩ = some (.string ((rd_T38 ((rd_T53 l0_0 x3_2).f1) x5_4).f2)) := (blk_cell BK110.out 2).trans rfl; have hcz102_3 : wr.cell? ⟨gb110, 3, none⟩ = some (.bool ((rd_T38 ((rd_T53 l0_0 x3_2).f1) x5_4).f3)) := (blk_cell BK110.out 3).trans rfl; have hcz102_4 : wr.cell? ⟨gb110, 4, none⟩ = some (.bool ((rd_T38 ((rd_T53 l0_0 x3_2).f1) x5_4).f4)) := (blk_cell BK110.out 4).trans rfl; have hfz102_0 := blk_frozen BK110.out 0; have hfz102_1 := blk_frozen BK110.out 1; have hfz102_2 := blk_frozen BK110.out 2; have hfz102_3 := blk_frozen BK110.out 3; have hfz102_4 := blk_frozen BK110.out 4
                        try go_wp2
                        have n0_ := qO (qkD BK101.out); have n1_ := qO (qkD BK105.out); have n2_ := qO (qkD BK110.out); have n3_ := qO (qbD HB.out); clear BK101; clear BK105; clear BK110; clear HB; have BK101 := n0_; have BK105 := n1_; have BK110 := n2_; have HB := n3_; clear n0_ n1_ n2_ n3_; have p114 : 0 ≤ (x7_6 : Int) := qT qa5; have q114 : x7_6 < (((rd_T38 ((rd_T53 l0_0 x3_2).f1) x5_4).f1).length : Int) := qT qa5; obtain ⟨ad114, e114, hx114_0, hx114_1⟩ := at_T57 HR109_1.out x7_6 p114 q114; have hw114_1 := hx114_1; have hw114_0 := hx114_0
                        cases e114
                        replace hx114_0 := (HB.out.cell (qL w _ hx114_0)).trans hx114_0; replace hx114_1 := (HB.out.cell (qL w _ hx114_1)).trans hx114_1; replace p114 := eq_true p114; replace q114 := eq_true q114; have p116 : 0 ≤ (x7_6 : Int) := qT qa5; have q116 : x7_6 < (((rd_T38 ((rd_T53 l0_0 x3_2).f1) x5_4).f1).length : Int) := qT qa5; obtain ⟨ad116, e116, hx116_0, hx116_1⟩ := at_T57 HR109_1.out x7_6 p116 q116; have hw116_1 := hx116_1; have hw116_0 := hx116_0; obtain rfl : ad114 = ad116 := (by injection e116); replace hx116_0 := (HB.out.cell (qL w _ hx116_0)).trans hx116_0; replace hx116_1 := (HB.out.cell (qL w _ hx116_1)).trans hx116_1; replace p116 := eq_true p116; replace q116 := eq_true q116; refine start_ (n := 20) (S := fun w' => w'.cell? ⟨gb110, 0, none⟩ = some (.string ((rd_T38 ((rd_T53 l0_0 x3_2).f1) x5_4).f0)) ∧ w'.cell? ⟨gb110, 1, none⟩ = some (.slice (some ad114) ((rd_T38 ((rd_T53 l0_0 x3_2).f1) x5_4).f1).length c109_1) ∧ w'.cell? ⟨gb110, 2, none⟩ = some (.string ((rd_T38 ((rd_T53 l0_0 x3_2).f1) x5_4).f2)) ∧ w'.cell? ⟨gb110, 3, none⟩ = some (.bool ((rd_T38 ((rd_T53 l0_0 x3_2).f1) x5_4).f3)) ∧ w'.cell? ⟨gb110, 4, none⟩ = some (.bool ((rd_T38 ((rd_T53 l0_0 x3_2).f1) x5_4).f4)) ∧ w'.cell? (ad114.add ((x7_6).toNat * 2)) = some (.string ((rd_T57 ((rd_T38 ((rd_T53 l0_0 x3_2).f1) x5_4).f1) x7_6).f0)) ∧ w'.cell? ⟨(ad114.add ((x7_6).toNat * 2)).block, (ad114.add ((x7_6).toNat * 2)).off + 1, none⟩ = some (.bool ((rd_T57 ((rd_T38 ((rd_T53 l0_0 x3_2).f1) x5_4).f1) x7_6).f1)) ∧ w'.cell? (ad114.add ((x7_6).toNat * 2)) = some (.string ((rd_T57 ((rd_T38 ((rd_T53 l0_0 x3_2).f1) x5_4).f1) x7_6).f0)) ∧ w'.cell? ⟨(ad114.add ((x7_6).toNat * 2)).block, (ad114.add ((x7_6).toNat * 2)).off + 1, none⟩ = some (.bool ((rd_T57 ((rd_T38 ((rd_T53 l0_0 x3_2).f1) x5_4).f1) x7_6).f1))) (ds := []) spec_SchemaOK.y0 qa17 rfl rfl ⟨(blk_cell BK110.out 0).trans rfl, (blk_cell BK110.out 1).trans rfl, (blk_cell BK110.out 2).trans rfl, (blk_cell BK110.out 3).trans rfl, (blk_cell BK110.out 4).trans rfl, ((HB.out.cell (qL w _ hw114_0)).trans hw114_0), ((HB.out.cell (qL w _ hw114_1)).trans hw114_1), ((HB.out.cell (qL w _ hw116_0)).trans hw116_0), ((HB.out.cell (qL w _ hw116_1)).trans hw116_1)⟩ (fun hHeld => ?_); refine with_tabW spec_SchemaOK.tab18 spec_SchemaOK.bits18 (fun HT_ HW_ => ?_); generalize wr.drew = w103 at BK101 BK105 BK110 HB hx114_0 hx114_1 hx116_0 hx116_1 hHeld ⊢; refine pure_ (i := 0) (N := some 108) (v := ?_) (a' := ?_) spec_SchemaOK.y1 rfl rfl (any_of HT_.out qa17) (fun _ _ _ h => h) (Or.inl ⟨by rfl, ?_⟩) ?_ ?_; rotate_left; exact qa22; rotate_left; exact qa12; refine pure_ (i := 2) (N := some 110) (v := ?_) (a' := ?_) spec_SchemaOK.y2 rfl rfl (any_of HT_.out qa17) (fun _ _ _ h => h) (Or.inl ⟨by rfl, ?_⟩) ?_ ?_; rotate_left; exact qa22; rotate_left; exact qa12; refine take_ (i := 1) (N := some 109) (v := ?_) (a' := ?_) spec_SchemaOK.y3 rfl rfl (take_ofW HT_.out HW_.out qa17) (fun _ _ _ h => h) (Or.inl ⟨by rfl, ?_⟩) hHeld ?_ ?_; rotate_left; exact qa57; rotate_left; exact qa12; refine pure_ (i := 3) (N := some 111) (v := ?_) (a' := ?_) spec_SchemaOK.y4 rfl rfl (any_of HT_.out qa17) (fun _ _ _ h => h) (Or.inl ⟨by rfl, ?_⟩) ?_ ?_; rotate_left; exact qa22; rotate_left; exact qa12; refine pure_ (i := 4) (N := some 112) (v := ?_) (a' := ?_) spec_SchemaOK.y5 rfl rfl (any_of HT_.out qa17) (fun _ _ _ h => h) (Or.inl ⟨by rfl, ?_⟩) ?_ ?_; rotate_left; exact qa22; rotate_left; exact qa12; refine take_ (i := 5) (N := some 113) (v := ?_) (a' := ?_) spec_SchemaOK.y6 rfl rfl (take_ofW HT_.out HW_.out qa17) (fun _ _ _ h => h) (Or.inl ⟨by rfl, ?_⟩) hHeld ?_ ?_; rotate_left; exact qa57; rotate_left; exact qa12; refine one_ (i := 6) (N := some 114) spec_SchemaOK.y7 rfl rfl (one_of HT_.out qa17) qa108 (fun K hK => ?_); refine goes_ Try.func29 qa17 rfl #[.string ((rd_T57 ((rd_T38 ((rd_T53 l0_0 x3_2).f1) x5_4).f1) x7_6).f0)] (by rfl) rfl rfl qa1 ?_; (with_reducible refine (spec_NameOK.calls k6 ((rd_T57 ((rd_T38 ((rd_T53 l0_0 x3_2).f1) x5_4).f1) x7_6).f0) true _ A96.out).mono ?_); rintro e w' ⟨rfl, ⟨nd, rfl⟩⟩; refine ⟨_, rfl, ?_⟩; refine hK.out _ _ ⟨(blk_cell BK110.out 0).trans rfl, (blk_cell BK110.out 1).trans rfl, (blk_cell BK110.out 2).trans rfl, (blk_cell BK110.out 3).trans rfl, (blk_cell BK110.out 4).trans rfl, ((HB.out.cell (qL w _ hw114_0)).trans hw114_0), ((HB.out.cell (qL w _ hw114_1)).trans hw114_1), ((HB.out.cell (qL w _ hw116_0)).trans hw116_0), ((HB.out.cell (qL w _ hw116_1)).trans hw116_1)⟩ (fun hHeld => ?_); clear hK K; refine norm_ (a' := ?_) ?_ ?_; rotate_left
                        ·exact qa33
                        refine pure_ (i := 7) (N := some 115) (v := ?_) (a' := ?_) spec_SchemaOK.y8 rfl rfl (any_of HT_.out qa17) (fun _ _ _ h => h) (Or.inl ⟨by rfl, ?_⟩) ?_ ?_; rotate_left; exact qa22; rotate_left; exact qa12; refine pure_ (i := 8) (N := some 116) (v := ?_) (a' := ?_) spec_SchemaOK.y9 rfl rfl (any_of HT_.out qa17) (fun _ _ _ h => h) (Or.inl ⟨by rfl, ?_⟩) ?_ ?_; rotate_left; exact qa22; rotate_left; exact qa12; refine pure_ (i := 10) (N := some 118) (v := ?_) (a' := ?_) spec_SchemaOK.y10 rfl rfl (any_of HT_.out qa17) (fun _ _ _ h => h) (Or.inl ⟨by rfl, ?_⟩) ?_ ?_; rotate_left; exact qa22; rotate_left; exact qa12; refine pure_ (i := 12) (N := some 120) (v := ?_) (a' := ?_) spec_SchemaOK.y11 rfl rfl (any_of HT_.out qa17) (fun _ _ _ h => h) (Or.inl ⟨by rfl, ?_⟩) ?_ ?_; rotate_left; exact qa22; rotate_left; exact qa12; refine pure_ (i := 17) (N := some 125) (v := ?_) (a' := ?_) spec_SchemaOK.y12 rfl rfl (any_of HT_.out qa17) (fun _ _ _ h => h) (Or.inl ⟨by rfl, ?_⟩) ?_ ?_; rotate_left; exact qa22; rotate_left; exact qa12; refine take_ (i := 9) (N := some 117) (v := ?_) (a' := ?_) spec_SchemaOK.y13 rfl rfl (take_ofW HT_.out HW_.out qa17) (fun _ _ _ h => h) (Or.inl ⟨by rfl, ?_⟩) hHeld ?_ ?_; rotate_left; exact qa57; rotate_left; exact qa12; refine take_ (i := 11) (N := some 119) (v := ?_) (a' := ?_) spec_SchemaOK.y14 rfl rfl (take_ofW HT_.out HW_.out qa17) (fun _ _ _ h => h) (Or.inl ⟨by rfl, ?_⟩) hHeld ?_ ?_; rotate_left; exact qa57; rotate_left; exact qa12; refine pure_ (i := 13) (N := some 121) (v := ?_) (a' := ?_) spec_SchemaOK.y15 rfl rfl (any_of HT_.out qa17) (fun _ _ _ h => h) (Or.inl ⟨by rfl, ?_⟩) ?_ ?_; rotate_left; exact qa22; rotate_left; exact qa12; refine pure_ (i := 14) (N := some 122) (v := ?_) (a' := ?_) spec_SchemaOK.y16 rfl rfl (any_of HT_.out qa17) (fun _ _ _ h => h) (Or.inl ⟨by rfl, ?_⟩) ?_ ?_; rotate_left; exact qa22; rotate_left; exact qa12; refine take_ (i := 15) (N := some 123) (v := ?_) (a' := ?_) spec_SchemaOK.y17 rfl rfl (take_ofW HT_.out HW_.out qa17) (fun _ _ _ h => h) (Or.inl ⟨by rfl, ?_⟩) hHeld ?_ ?_; rotate_left; exact qa57; rotate_left; exact qa12; refine one_ (i := 16) (N := some 124) spec_SchemaOK.y18 rfl rfl (one_of HT_.out qa17) qa108 (fun K hK => ?_); refine goes_ Try.func31 qa17 rfl #[.agg #[.string ((rd_T38 ((rd_T53 l0_0 x3_2).f1) x5_4).f0), .slice (some ad114) ((rd_T38 ((rd_T53 l0_0 x3_2).f1) x5_4).f1).length c109_1, .string ((rd_T38 ((rd_T53 l0_0 x3_2).f1) x5_4).f2), .bool ((rd_T38 ((rd_T53 l0_0 x3_2).f1) x5_4).f3), .bool ((rd_T38 ((rd_T53 l0_0 x3_2).f1) x5_4).f4)], .string ((rd_T57 ((rd_T38 ((rd_T53 l0_0 x3_2).f1) x5_4).f1) x7_6).f0)] (by rfl) rfl rfl qa1 ?_; (with_reducible refine (spec_l03Arg.calls k6 ((rd_T38 ((rd_T53 l0_0 x3_2).f1) x5_4).f0) _ _ ((rd_T38 ((rd_T53 l0_0 x3_2).f1) x5_4).f1) ((rd_T38 ((rd_T53 l0_0 x3_2).f1) x5_4).f2) ((rd_T38 ((rd_T53 l0_0 x3_2).f1) x5_4).f3) ((rd_T38 ((rd_T53 l0_0 x3_2).f1) x5_4).f4) ((rd_T57 ((rd_T38 ((rd_T53 l0_0 x3_2).f1) x5_4).f1) x7_6).f0) t117 _ ?side1 ?side2 A98.out).mono ?_); (case side1 => exact qa59); (case side2 => exact HC109_1.out); rintro e w104 ⟨rfl, hb⟩; have hx_ := qHX HB hb qa0; refine ⟨_, rfl, ?_⟩; have n0_ := qO (qB BK101.out hx_ hb); have n1_ := qO (qB BK105.out hx_ hb); have n2_ := qO (blk_below (g := gb110) (o := .cells #[.string ((rd_T38 ((rd_T53 l0_0 x3_2).f1) x5_4).f0), .slice (some ad114) ((rd_T38 ((rd_T53 l0_0 x3_2).f1) x5_4).f1).length c109_1, .string ((rd_T38 ((rd_T53 l0_0 x3_2).f1) x5_4).f2), .bool ((rd_T38 ((rd_T53 l0_0 x3_2).f1) x5_4).f3), .bool ((rd_T38 ((rd_T53 l0_0 x3_2).f1) x5_4).f4)] 38 (0, 0)) qa38 hb); have n3_ := qO (below_step (below_step HB.out hx_) hb); clear BK101; clear BK105; clear BK110; clear HB; have BK101 := n0_; have BK105 := n1_; have BK110 := n2_; have HB := n3_; clear n0_ n1_ n2_ n3_; clear hx_; (try clear hb); (try clear hb2); (try clear hk); (try clear hi); refine hK.out _ _ ⟨(blk_cell BK110.out 0).trans rfl, (blk_cell BK110.out 1).trans rfl, (blk_cell BK110.out 2).trans rfl, (blk_cell BK110.out 3).trans rfl, (blk_cell BK110.out 4).trans rfl, ((HB.out.cell (qL w _ hw114_0)).trans hw114_0), ((HB.out.cell (qL w _ hw114_1)).trans hw114_1), ((HB.out.cell (qL w _ hw116_0)).trans hw116_0), ((HB.out.cell (qL w _ hw116_1)).trans hw116_1)⟩ (fun hHeld => ?_); clear hK K; refine norm_ (a' := ?_) ?_ ?_; rotate_left
                        ·exact qa33
                        refine pure_ (i := 18) (N := some 126) (v := ?_) (a' := ?_) spec_SchemaOK.y19 rfl rfl (any_of HT_.out qa17) (fun _ _ _ h => h) (Or.inl ⟨by rfl, ?_⟩) ?_ ?_; rotate_left; exact qa22; rotate_left; exact qa12; refine pure_ (i := 19) (N := some 127) (v := ?_) (a' := ?_) spec_SchemaOK.y20 rfl rfl (any_of HT_.out qa17) (fun _ _ _ h => h) (Or.inl ⟨by rfl, ?_⟩) ?_ ?_; rotate_left; exact qa22; rotate_left; exact qa12; refine done_ (done_of HT_.out qa17) ?_
                        try go_wp2
                        go_roundg k6
                        case measure => have := HJ1.out; have := HK2.out; have := HJ12.out; have := HK4.out; have := HJ39.out; have := HK6.out; omega
                        case rel => exact ⟨(wrap64 (x7_6 + 1)), qa11, H', ⟨qa102⟩, ⟨qa13⟩, ⟨qa34⟩, ⟨qa38⟩, ⟨qa16⟩⟩
                       ·rw [if_neg c99] at H
                        have c99b0 : (t117 == x7_6) = false := beq_eq_false_iff_ne.mpr c99; have c99b1 : (t117 != x7_6) = true := bne_iff_ne.mpr c99; obtain rfl := Option.some.inj H; have hnb105 := NB110_101.out; have hnc105 := NB101_110.out; have hnb106 := NB110_105.out; have hnc106 := NB105_110.out; have hcz107_0 : wr.cell? ⟨gb110, 0, none⟩ = some (.string ((rd_T38 ((rd_T53 l0_0 x3_2).f1) x5_4).f0)) := (blk_cell BK110.out 0).trans rfl; have hcz107_1 : wr.cell? ⟨gb110, 1, none⟩ = some (.slice A109_1 ((rd_T38 ((rd_T53 l0_0 x3_2).f1) x5_4).f1).length c109_1) := (blk_cell BK110.out 1).trans rfl; have hcz107_2 : wr.cell? ⟨gb110, 2, none⟩ = some (.string ((rd_T38 ((rd_T53 l0_0 x3_2).f1) x5_4).f2)) := (blk_cell BK110.out 2).trans rfl; have hcz107_3 : wr.cell? ⟨gb110, 3, none⟩ = some (.bool ((rd_T38 ((rd_T53 l0_0 x3_2).f1) x5_4).f3)) := (blk_cell BK110.out 3).trans rfl; have hcz107_4 : wr.cell? ⟨gb110, 4, none⟩ = some (.bool ((rd_T38 ((rd_T53 l0_0 x3_2).f1) x5_4).f4)) := (blk_cell BK110.out 4).trans rfl; have hfz107_0 := blk_frozen BK110.out 0; have hfz107_1 := blk_frozen BK110.out 1; have hfz107_2 := blk_frozen BK110.out 2; have hfz107_3 := blk_frozen BK110.out 3; have hfz107_4 := blk_frozen BK110.out 4
                        try go_wp2
                        have n0_ := qO (qkD BK101.out); have n1_ := qO (qkD BK105.out); have n2_ := qO (qkD BK110.out); have n3_ := qO (qbD HB.out); clear BK101; clear BK105; clear BK110; clear HB; have BK101 := n0_; have BK105 := n1_; have BK110 := n2_; have HB := n3_; clear n0_ n1_ n2_ n3_; have p114 : 0 ≤ (x7_6 : Int) := qT qa5; have q114 : x7_6 < (((rd_T38 ((rd_T53 l0_0 x3_2).f1) x5_4).f1).length : Int) := qT qa5; obtain ⟨ad114, e114, hx114_0, hx114_1⟩ := at_T57 HR109_1.out x7_6 p114 q114; have hw114_1 := hx114_1; have hw114_0 := hx114_0
                        cases e114
                        replace hx114_0 := (HB.out.cell (qL w _ hx114_0)).trans hx114_0; replace hx114_1 := (HB.out.cell (qL w _ hx114_1)).trans hx114_1; replace p114 := eq_true p114; replace q114 := eq_true q114; have p116 : 0 ≤ (x7_6 : Int) := qT qa5; have q116 : x7_6 < (((rd_T38 ((rd_T53 l0_0 x3_2).f1) x5_4).f1).length : Int) := qT qa5; obtain ⟨ad116, e116, hx116_0, hx116_1⟩ := at_T57 HR109_1.out x7_6 p116 q116; have hw116_1 := hx116_1; have hw116_0 := hx116_0; obtain rfl : ad114 = ad116 := (by injection e116); replace hx116_0 := (HB.out.cell (qL w _ hx116_0)).trans hx116_0; replace hx116_1 := (HB.out.cell (qL w _ hx116_1)).trans hx116_1; replace p116 := eq_true p116; replace q116 := eq_true q116; refine start_ (n := 20) (S := fun w' => w'.cell? ⟨gb110, 0, none⟩ = some (.string ((rd_T38 ((rd_T53 l0_0 x3_2).f1) x5_4).f0)) ∧ w'.cell? ⟨gb110, 1, none⟩ = some (.slice (some ad114) ((rd_T38 ((rd_T53 l0_0 x3_2).f1) x5_4).f1).length c109_1) ∧ w'.cell? ⟨gb110, 2, none⟩ = some (.string ((rd_T38 ((rd_T53 l0_0 x3_2).f1) x5_4).f2)) ∧ w'.cell? ⟨gb110, 3, none⟩ = some (.bool ((rd_T38 ((rd_T53 l0_0 x3_2).f1) x5_4).f3)) ∧ w'.cell? ⟨gb110, 4, none⟩ = some (.bool ((rd_T38 ((rd_T53 l0_0 x3_2).f1) x5_4).f4)) ∧ w'.cell? (ad114.add ((x7_6).toNat * 2)) = some (.string ((rd_T57 ((rd_T38 ((rd_T53 l0_0 x3_2).f1) x5_4).f1) x7_6).f0)) ∧ w'.cell? ⟨(ad114.add ((x7_6).toNat * 2)).block, (ad114.add ((x7_6).toNat * 2)).off + 1, none⟩ = some (.bool ((rd_T57 ((rd_T38 ((rd_T53 l0_0 x3_2).f1) x5_4).f1) x7_6).f1)) ∧ w'.cell? (ad114.add ((x7_6).toNat * 2)) = some (.string ((rd_T57 ((rd_T38 ((rd_T53 l0_0 x3_2).f1) x5_4).f1) x7_6).f0)) ∧ w'.cell? ⟨(ad114.add ((x7_6).toNat * 2)).block, (ad114.add ((x7_6).toNat * 2)).off + 1, none⟩ = some (.bool ((rd_T57 ((rd_T38 ((rd_T53 l0_0 x3_2).f1) x5_4).f1) x7_6).f1))) (ds := []) spec_SchemaOK.y0 qa17 rfl rfl ⟨(blk_cell BK110.out 0).trans rfl, (blk_cell BK110.out 1).trans rfl, (blk_cell BK110.out 2).trans rfl, (blk_cell BK110.out 3).trans rfl, (blk_cell BK110.out 4).trans rfl, ((HB.out.cell (qL w _ hw114_0)).trans hw114_0), ((HB.out.cell (qL w _ hw114_1)).trans hw114_1), ((HB.out.cell (qL w _ hw116_0)).trans hw116_0), ((HB.out.cell (qL w _ hw116_1)).trans hw116_1)⟩ (fun hHeld => ?_); refine with_tabW spec_SchemaOK.tab18 spec_SchemaOK.bits18 (fun HT_ HW_ => ?_); generalize wr.drew = w108 at BK101 BK105 BK110 HB hx114_0 hx114_1 hx116_0 hx116_1 hHeld ⊢; refine pure_ (i := 0) (N := some 108) (v := ?_) (a' := ?_) spec_SchemaOK.y1 rfl rfl (any_of HT_.out qa17) (fun _ _ _ h => h) (Or.inl ⟨by rfl, ?_⟩) ?_ ?_; rotate_left; exact qa22; rotate_left; exact qa12; refine pure_ (i := 2) (N := some 110) (v := ?_) (a' := ?_) spec_SchemaOK.y2 rfl rfl (any_of HT_.out qa17) (fun _ _ _ h => h) (Or.inl ⟨by rfl, ?_⟩) ?_ ?_; rotate_left; exact qa22; rotate_left; exact qa12; refine take_ (i := 1) (N := some 109) (v := ?_) (a' := ?_) spec_SchemaOK.y3 rfl rfl (take_ofW HT_.out HW_.out qa17) (fun _ _ _ h => h) (Or.inl ⟨by rfl, ?_⟩) hHeld ?_ ?_; rotate_left; exact qa57; rotate_left; exact qa12; refine pure_ (i := 3) (N := some 111) (v := ?_) (a' := ?_) spec_SchemaOK.y4 rfl rfl (any_of HT_.out qa17) (fun _ _ _ h => h) (Or.inl ⟨by rfl, ?_⟩) ?_ ?_; rotate_left; exact qa22; rotate_left; exact qa12; refine pure_ (i := 4) (N := some 112) (v := ?_) (a' := ?_) spec_SchemaOK.y5 rfl rfl (any_of HT_.out qa17) (fun _ _ _ h => h) (Or.inl ⟨by rfl, ?_⟩) ?_ ?_; rotate_left; exact qa22; rotate_left; exact qa12; refine take_ (i := 5) (N := some 113) (v := ?_) (a' := ?_) spec_SchemaOK.y6 rfl rfl (take_ofW HT_.out HW_.out qa17) (fun _ _ _ h => h) (Or.inl ⟨by rfl, ?_⟩) hHeld ?_ ?_; rotate_left; exact qa57; rotate_left; exact qa12; refine one_ (i := 6) (N := some 114) spec_SchemaOK.y7 rfl rfl (one_of HT_.out qa17) qa108 (fun K hK => ?_); refine goes_ Try.func29 qa17 rfl #[.string ((rd_T57 ((rd_T38 ((rd_T53 l0_0 x3_2).f1) x5_4).f1) x7_6).f0)] (by rfl) rfl rfl qa1 ?_; (with_reducible refine (spec_NameOK.calls k6 ((rd_T57 ((rd_T38 ((rd_T53 l0_0 x3_2).f1) x5_4).f1) x7_6).f0) true _ A96.out).mono ?_); rintro e w' ⟨rfl, ⟨nd, rfl⟩⟩; refine ⟨_, rfl, ?_⟩; refine hK.out _ _ ⟨(blk_cell BK110.out 0).trans rfl, (blk_cell BK110.out 1).trans rfl, (blk_cell BK110.out 2).trans rfl, (blk_cell BK110.out 3).trans rfl, (blk_cell BK110.out 4).trans rfl, ((HB.out.cell (qL w _ hw114_0)).trans hw114_0), ((HB.out.cell (qL w _ hw114_1)).trans hw114_1), ((HB.out.cell (qL w _ hw116_0)).trans hw116_0), ((HB.out.cell (qL w _ hw116_1)).trans hw116_1)⟩ (fun hHeld => ?_); clear hK K; refine norm_ (a' := ?_) ?_ ?_; rotate_left
                        ·exact qa33
                        refine pure_ (i := 7) (N := some 115) (v := ?_) (a' := ?_) spec_SchemaOK.y8 rfl rfl (any_of HT_.out qa17) (fun _ _ _ h => h) (Or.inl ⟨by rfl, ?_⟩) ?_ ?_; rotate_left; exact qa22; rotate_left; exact qa12; refine pure_ (i := 8) (N := some 116) (v := ?_) (a' := ?_) spec_SchemaOK.y9 rfl rfl (any_of HT_.out qa17) (fun _ _ _ h => h) (Or.inl ⟨by rfl, ?_⟩) ?_ ?_; rotate_left; exact qa22; rotate_left; exact qa12; refine pure_ (i := 10) (N := some 118) (v := ?_) (a' := ?_) spec_SchemaOK.y10 rfl rfl (any_of HT_.out qa17) (fun _ _ _ h => h) (Or.inl ⟨by rfl, ?_⟩) ?_ ?_; rotate_left; exact qa22; rotate_left; exact qa12; refine pure_ (i := 12) (N := some 120) (v := ?_) (a' := ?_) spec_SchemaOK.y11 rfl rfl (any_of HT_.out qa17) (fun _ _ _ h => h) (Or.inl ⟨by rfl, ?_⟩) ?_ ?_; rotate_left; exact qa22; rotate_left; exact qa12; refine pure_ (i := 17) (N := some 125) (v := ?_) (a' := ?_) spec_SchemaOK.y12 rfl rfl (any_of HT_.out qa17) (fun _ _ _ h => h) (Or.inl ⟨by rfl, ?_⟩) ?_ ?_; rotate_left; exact qa22; rotate_left; exact qa12; refine take_ (i := 9) (N := some 117) (v := ?_) (a' := ?_) spec_SchemaOK.y13 rfl rfl (take_ofW HT_.out HW_.out qa17) (fun _ _ _ h => h) (Or.inl ⟨by rfl, ?_⟩) hHeld ?_ ?_; rotate_left; exact qa57; rotate_left; exact qa12; refine take_ (i := 11) (N := some 119) (v := ?_) (a' := ?_) spec_SchemaOK.y14 rfl rfl (take_ofW HT_.out HW_.out qa17) (fun _ _ _ h => h) (Or.inl ⟨by rfl, ?_⟩) hHeld ?_ ?_; rotate_left; exact qa57; rotate_left; exact qa12; refine pure_ (i := 13) (N := some 121) (v := ?_) (a' := ?_) spec_SchemaOK.y15 rfl rfl (any_of HT_.out qa17) (fun _ _ _ h => h) (Or.inl ⟨by rfl, ?_⟩) ?_ ?_; rotate_left; exact qa22; rotate_left; exact qa12; refine pure_ (i := 14) (N := some 122) (v := ?_) (a' := ?_) spec_SchemaOK.y16 rfl rfl (any_of HT_.out qa17) (fun _ _ _ h => h) (Or.inl ⟨by rfl, ?_⟩) ?_ ?_; rotate_left; exact qa22; rotate_left; exact qa12; refine take_ (i := 15) (N := some 123) (v := ?_) (a' := ?_) spec_SchemaOK.y17 rfl rfl (take_ofW HT_.out HW_.out qa17) (fun _ _ _ h => h) (Or.inl ⟨by rfl, ?_⟩) hHeld ?_ ?_; rotate_left; exact qa57; rotate_left; exact qa12; refine one_ (i := 16) (N := some 124) spec_SchemaOK.y18 rfl rfl (one_of HT_.out qa17) qa108 (fun K hK => ?_); refine goes_ Try.func31 qa17 rfl #[.agg #[.string ((rd_T38 ((rd_T53 l0_0 x3_2).f1) x5_4).f0), .slice (some ad114) ((rd_T38 ((rd_T53 l0_0 x3_2).f1) x5_4).f1).length c109_1, .string ((rd_T38 ((rd_T53 l0_0 x3_2).f1) x5_4).f2), .bool ((rd_T38 ((rd_T53 l0_0 x3_2).f1) x5_4).f3), .bool ((rd_T38 ((rd_T53 l0_0 x3_2).f1) x5_4).f4)], .string ((rd_T57 ((rd_T38 ((rd_T53 l0_0 x3_2).f1) x5_4).f1) x7_6).f0)] (by rfl) rfl rfl qa1 ?_; (with_reducible refine (spec_l03Arg.calls k6 ((rd_T38 ((rd_T53 l0_0 x3_2).f1) x5_4).f0) _ _ ((rd_T38 ((rd_T53 l0_0 x3_2).f1) x5_4).f1) ((rd_T38 ((rd_T53 l0_0 x3_2).f1) x5_4).f2) ((rd_T38 ((rd_T53 l0_0 x3_2).f1) x5_4).f3) ((rd_T38 ((rd_T53 l0_0 x3_2).f1) x5_4).f4) ((rd_T57 ((rd_T38 ((rd_T53 l0_0 x3_2).f1) x5_4).f1) x7_6).f0) t117 _ ?side1 ?side2 A98.out).mono ?_); (case side1 => exact qa59); (case side2 => exact HC109_1.out); rintro e w109 ⟨rfl, hb⟩; have hx_ := qHX HB hb qa0; refine ⟨_, rfl, ?_⟩; have n0_ := qO (qB BK101.out hx_ hb); have n1_ := qO (qB BK105.out hx_ hb); have n2_ := qO (blk_below (g := gb110) (o := .cells #[.string ((rd_T38 ((rd_T53 l0_0 x3_2).f1) x5_4).f0), .slice (some ad114) ((rd_T38 ((rd_T53 l0_0 x3_2).f1) x5_4).f1).length c109_1, .string ((rd_T38 ((rd_T53 l0_0 x3_2).f1) x5_4).f2), .bool ((rd_T38 ((rd_T53 l0_0 x3_2).f1) x5_4).f3), .bool ((rd_T38 ((rd_T53 l0_0 x3_2).f1) x5_4).f4)] 38 (0, 0)) qa38 hb); have n3_ := qO (below_step (below_step HB.out hx_) hb); clear BK101; clear BK105; clear BK110; clear HB; have BK101 := n0_; have BK105 := n1_; have BK110 := n2_; have HB := n3_; clear n0_ n1_ n2_ n3_; clear hx_; (try clear hb); (try clear hb2); (try clear hk); (try clear hi); refine hK.out _ _ ⟨(blk_cell BK110.out 0).trans rfl, (blk_cell BK110.out 1).trans rfl, (blk_cell BK110.out 2).trans rfl, (blk_cell BK110.out 3).trans rfl, (blk_cell BK110.out 4).trans rfl, ((HB.out.cell (qL w _ hw114_0)).trans hw114_0), ((HB.out.cell (qL w _ hw114_1)).trans hw114_1), ((HB.out.cell (qL w _ hw116_0)).trans hw116_0), ((HB.out.cell (qL w _ hw116_1)).trans hw116_1)⟩ (fun hHeld => ?_); clear hK K; refine norm_ (a' := ?_) ?_ ?_; rotate_left
                        ·exact qa33
                        refine pure_ (i := 18) (N := some 126) (v := ?_) (a' := ?_) spec_SchemaOK.y19 rfl rfl (any_of HT_.out qa17) (fun _ _ _ h => h) (Or.inl ⟨by rfl, ?_⟩) ?_ ?_; rotate_left; exact qa22; rotate_left; exact qa12; refine pure_ (i := 19) (N := some 127) (v := ?_) (a' := ?_) spec_SchemaOK.y20 rfl rfl (any_of HT_.out qa17) (fun _ _ _ h => h) (Or.inl ⟨by rfl, ?_⟩) ?_ ?_; rotate_left; exact qa22; rotate_left; exact qa12; refine done_ (done_of HT_.out qa17) ?_
                        try go_wp2
                        go_ret
                        exact ⟨qa3, qa16⟩
                      ·replace c97 := Bool.eq_false_iff.mpr c97
                       subst c97; have H1 : (some false) = some r := by rw [if_neg (show ¬ (false = true) by decide)] at H; exact H
                       clear H; have H := H1; clear H1; obtain rfl := Option.some.inj H; have hnb110 := NB110_101.out; have hnc110 := NB101_110.out; have hnb111 := NB110_105.out; have hnc111 := NB105_110.out; have hcz112_0 : wr.cell? ⟨gb110, 0, none⟩ = some (.string ((rd_T38 ((rd_T53 l0_0 x3_2).f1) x5_4).f0)) := (blk_cell BK110.out 0).trans rfl; have hcz112_1 : wr.cell? ⟨gb110, 1, none⟩ = some (.slice A109_1 ((rd_T38 ((rd_T53 l0_0 x3_2).f1) x5_4).f1).length c109_1) := (blk_cell BK110.out 1).trans rfl; have hcz112_2 : wr.cell? ⟨gb110, 2, none⟩ = some (.string ((rd_T38 ((rd_T53 l0_0 x3_2).f1) x5_4).f2)) := (blk_cell BK110.out 2).trans rfl; have hcz112_3 : wr.cell? ⟨gb110, 3, none⟩ = some (.bool ((rd_T38 ((rd_T53 l0_0 x3_2).f1) x5_4).f3)) := (blk_cell BK110.out 3).trans rfl; have hcz112_4 : wr.cell? ⟨gb110, 4, none⟩ = some (.bool ((rd_T38 ((rd_T53 l0_0 x3_2).f1) x5_4).f4)) := (blk_cell BK110.out 4).trans rfl; have hfz112_0 := blk_frozen BK110.out 0; have hfz112_1 := blk_frozen BK110.out 1; have hfz112_2 := blk_frozen BK110.out 2; have hfz112_3 := blk_frozen BK110.out 3; have hfz112_4 := blk_frozen BK110.out 4
                       try go_wp2
                       have n0_ := qO (qkD BK101.out); have n1_ := qO (qkD BK105.out); have n2_ := qO (qkD BK110.out); have n3_ := qO (qbD HB.out); clear BK101; clear BK105; clear BK110; clear HB; have BK101 := n0_; have BK105 := n1_; have BK110 := n2_; have HB := n3_; clear n0_ n1_ n2_ n3_; have p114 : 0 ≤ (x7_6 : Int) := qT qa5; have q114 : x7_6 < (((rd_T38 ((rd_T53 l0_0 x3_2).f1) x5_4).f1).length : Int) := qT qa5; obtain ⟨ad114, e114, hx114_0, hx114_1⟩ := at_T57 HR109_1.out x7_6 p114 q114; have hw114_1 := hx114_1; have hw114_0 := hx114_0
                       cases e114
                       replace hx114_0 := (HB.out.cell (qL w _ hx114_0)).trans hx114_0; replace hx114_1 := (HB.out.cell (qL w _ hx114_1)).trans hx114_1; replace p114 := eq_true p114; replace q114 := eq_true q114; refine start_ (n := 20) (S := fun w' => w'.cell? ⟨gb110, 0, none⟩ = some (.string ((rd_T38 ((rd_T53 l0_0 x3_2).f1) x5_4).f0)) ∧ w'.cell? ⟨gb110, 1, none⟩ = some (.slice (some ad114) ((rd_T38 ((rd_T53 l0_0 x3_2).f1) x5_4).f1).length c109_1) ∧ w'.cell? ⟨gb110, 2, none⟩ = some (.string ((rd_T38 ((rd_T53 l0_0 x3_2).f1) x5_4).f2)) ∧ w'.cell? ⟨gb110, 3, none⟩ = some (.bool ((rd_T38 ((rd_T53 l0_0 x3_2).f1) x5_4).f3)) ∧ w'.cell? ⟨gb110, 4, none⟩ = some (.bool ((rd_T38 ((rd_T53 l0_0 x3_2).f1) x5_4).f4)) ∧ w'.cell? (ad114.add ((x7_6).toNat * 2)) = some (.string ((rd_T57 ((rd_T38 ((rd_T53 l0_0 x3_2).f1) x5_4).f1) x7_6).f0)) ∧ w'.cell? ⟨(ad114.add ((x7_6).toNat * 2)).block, (ad114.add ((x7_6).toNat * 2)).off + 1, none⟩ = some (.bool ((rd_T57 ((rd_T38 ((rd_T53 l0_0 x3_2).f1) x5_4).f1) x7_6).f1))) (ds := []) spec_SchemaOK.y0 qa17 rfl rfl ⟨(blk_cell BK110.out 0).trans rfl, (blk_cell BK110.out 1).trans rfl, (blk_cell BK110.out 2).trans rfl, (blk_cell BK110.out 3).trans rfl, (blk_cell BK110.out 4).trans rfl, ((HB.out.cell (qL w _ hw114_0)).trans hw114_0), ((HB.out.cell (qL w _ hw114_1)).trans hw114_1)⟩ (fun hHeld => ?_); refine with_tabW spec_SchemaOK.tab18 spec_SchemaOK.bits18 (fun HT_ HW_ => ?_); generalize wr.drew = w113 at BK101 BK105 BK110 HB hx114_0 hx114_1 hHeld ⊢; refine pure_ (i := 0) (N := some 108) (v := ?_) (a' := ?_) spec_SchemaOK.y1 rfl rfl (any_of HT_.out qa17) (fun _ _ _ h => h) (Or.inl ⟨by rfl, ?_⟩) ?_ ?_; rotate_left; exact qa22; rotate_left; exact qa12; refine pure_ (i := 2) (N := some 110) (v := ?_) (a' := ?_) spec_SchemaOK.y2 rfl rfl (any_of HT_.out qa17) (fun _ _ _ h => h) (Or.inl ⟨by rfl, ?_⟩) ?_ ?_; rotate_left; exact qa22; rotate_left; exact qa12; refine take_ (i := 1) (N := some 109) (v := ?_) (a' := ?_) spec_SchemaOK.y3 rfl rfl (take_ofW HT_.out HW_.out qa17) (fun _ _ _ h => h) (Or.inl ⟨by rfl, ?_⟩) hHeld ?_ ?_; rotate_left; (rintro w' ⟨s0, s1, s2, s3, s4, s5, s6⟩; go_simp; with_reducible rfl); rotate_left; exact qa12; refine pure_ (i := 3) (N := some 111) (v := ?_) (a' := ?_) spec_SchemaOK.y4 rfl rfl (any_of HT_.out qa17) (fun _ _ _ h => h) (Or.inl ⟨by rfl, ?_⟩) ?_ ?_; rotate_left; exact qa22; rotate_left; exact qa12; refine pure_ (i := 4) (N := some 112) (v := ?_) (a' := ?_) spec_SchemaOK.y5 rfl rfl (any_of HT_.out qa17) (fun _ _ _ h => h) (Or.inl ⟨by rfl, ?_⟩) ?_ ?_; rotate_left; exact qa22; rotate_left; exact qa12; refine take_ (i := 5) (N := some 113) (v := ?_) (a' := ?_) spec_SchemaOK.y6 rfl rfl (take_ofW HT_.out HW_.out qa17) (fun _ _ _ h => h) (Or.inl ⟨by rfl, ?_⟩) hHeld ?_ ?_; rotate_left; (rintro w' ⟨s0, s1, s2, s3, s4, s5, s6⟩; go_simp; with_reducible rfl); rotate_left; exact qa12; refine one_ (i := 6) (N := some 114) spec_SchemaOK.y7 rfl rfl (one_of HT_.out qa17) qa108 (fun K hK => ?_); refine goes_ Try.func29 qa17 rfl #[.string ((rd_T57 ((rd_T38 ((rd_T53 l0_0 x3_2).f1) x5_4).f1) x7_6).f0)] (by rfl) rfl rfl qa1 ?_; (with_reducible refine (spec_NameOK.calls k6 ((rd_T57 ((rd_T38 ((rd_T53 l0_0 x3_2).f1) x5_4).f1) x7_6).f0) false _ A96.out).mono ?_); rintro e w' ⟨rfl, ⟨nd, rfl⟩⟩; refine ⟨_, rfl, ?_⟩; refine hK.out _ _ ⟨(blk_cell BK110.out 0).trans rfl, (blk_cell BK110.out 1).trans rfl, (blk_cell BK110.out 2).trans rfl, (blk_cell BK110.out 3).trans rfl, (blk_cell BK110.out 4).trans rfl, ((HB.out.cell (qL w _ hw114_0)).trans hw114_0), ((HB.out.cell (qL w _ hw114_1)).trans hw114_1)⟩ (fun hHeld => ?_); clear hK K; refine norm_ (a' := ?_) ?_ ?_; rotate_left
                       ·exact qa33
                       refine pure_ (i := 7) (N := some 115) (v := ?_) (a' := ?_) spec_SchemaOK.y8 rfl rfl (any_of HT_.out qa17) (fun _ _ _ h => h) (Or.inl ⟨by rfl, ?_⟩) ?_ ?_; rotate_left; exact qa22; rotate_left; exact qa12; refine pure_ (i := 8) (N := some 116) (v := ?_) (a' := ?_) spec_SchemaOK.y9 rfl rfl (any_of HT_.out qa17) (fun _ _ _ h => h) (Or.inl ⟨by rfl, ?_⟩) ?_ ?_; rotate_left; exact qa22; rotate_left; exact qa12; refine pure_ (i := 9) (N := some 117) (v := undef) (a' := ?_) spec_SchemaOK.y21 rfl rfl (any_of HT_.out qa17) (fun _ _ _ h => h) (Or.inr ⟨by rfl, rfl⟩) ?_ ?_; rotate_left
                       ·simp only [Act.put, qzA, qzB, qzC, i64_w, i32_w]
                        rfl
                       refine pure_ (i := 10) (N := some 118) (v := undef) (a' := ?_) spec_SchemaOK.y22 rfl rfl (any_of HT_.out qa17) (fun _ _ _ h => h) (Or.inr ⟨by rfl, rfl⟩) ?_ ?_; rotate_left
                       ·simp only [Act.put, qzA, qzB, qzC, i64_w, i32_w]
                        rfl
                       refine pure_ (i := 11) (N := some 119) (v := undef) (a' := ?_) spec_SchemaOK.y23 rfl rfl (any_of HT_.out qa17) (fun _ _ _ h => h) (Or.inr ⟨by rfl, rfl⟩) ?_ ?_; rotate_left
                       ·simp only [Act.put, qzA, qzB, qzC, i64_w, i32_w]
                        rfl
                       refine pure_ (i := 12) (N := some 120) (v := undef) (a' := ?_) spec_SchemaOK.y24 rfl rfl (any_of HT_.out qa17) (fun _ _ _ h => h) (Or.inr ⟨by rfl, rfl⟩) ?_ ?_; rotate_left
                       ·simp only [Act.put, qzA, qzB, qzC, i64_w, i32_w]
                        rfl
                       refine pure_ (i := 13) (N := some 121) (v := undef) (a' := ?_) spec_SchemaOK.y25 rfl rfl (any_of HT_.out qa17) (fun _ _ _ h => h) (Or.inr ⟨by rfl, rfl⟩) ?_ ?_; rotate_left
                       ·simp only [Act.put, qzA, qzB, qzC, i64_w, i32_w]
                        rfl
                       refine pure_ (i := 14) (N := some 122) (v := undef) (a' := ?_) spec_SchemaOK.y26 rfl rfl (any_of HT_.out qa17) (fun _ _ _ h => h) (Or.inr ⟨by rfl, rfl⟩) ?_ ?_; rotate_left
                       ·simp only [Act.put, qzA, qzB, qzC, i64_w, i32_w]
                        rfl
                       refine pure_ (i := 15) (N := some 123) (v := undef) (a' := ?_) spec_SchemaOK.y27 rfl rfl (any_of HT_.out qa17) (fun _ _ _ h => h) (Or.inr ⟨by rfl, rfl⟩) ?_ ?_; rotate_left
                       ·simp only [Act.put, qzA, qzB, qzC, i64_w, i32_w]
                        rfl
                       refine pure_ (i := 16) (N := some 124) (v := undef) (a' := ?_) spec_SchemaOK.y28 rfl rfl (any_of HT_.out qa17) (fun _ _ _ h => h) (Or.inr ⟨by rfl, rfl⟩) ?_ ?_; rotate_left
                       ·simp only [Act.put, qzA, qzB, qzC, i64_w, i32_w]
                        rfl
                       refine pure_ (i := 17) (N := some 125) (v := undef) (a' := ?_) spec_SchemaOK.y18 rfl rfl (any_of HT_.out qa17) (fun _ _ _ h => h) (Or.inr ⟨by rfl, rfl⟩) ?_ ?_; rotate_left
                       ·simp only [Act.put, qzA, qzB, qzC, i64_w, i32_w]
                        rfl
                       refine pure_ (i := 18) (N := some 126) (v := undef) (a' := ?_) spec_SchemaOK.y19 rfl rfl (any_of HT_.out qa17) (fun _ _ _ h => h) (Or.inr ⟨by rfl, rfl⟩) ?_ ?_; rotate_left
                       ·simp only [Act.put, qzA, qzB, qzC, i64_w, i32_w]
                        rfl
                       refine pure_ (i := 19) (N := some 127) (v := ?_) (a' := ?_) spec_SchemaOK.y20 rfl rfl (any_of HT_.out qa17) (fun _ _ _ h => h) (Or.inl ⟨by rfl, ?_⟩) ?_ ?_; rotate_left; exact qa22; rotate_left; exact qa12; refine done_ (done_of HT_.out qa17) ?_
                       try go_wp2
                       go_ret
                       exact ⟨qa3, qa16⟩
                     ·rw [if_neg c95] at H
                      exact absurd H qa91
                    ·rw [if_neg c94] at H
                     have c94b0 : decide (x7_6 < (((rd_T38 ((rd_T53 l0_0 x3_2).f1) x5_4).f1).length : Int)) = false := decide_eq_false c94; clear c94; have H' := qO H; clear H; have hnb114 := NB110_101.out; have hnc114 := NB101_110.out; have hnb115 := NB110_105.out; have hnc115 := NB105_110.out; have hcz116_0 : wr.cell? ⟨gb110, 0, none⟩ = some (.string ((rd_T38 ((rd_T53 l0_0 x3_2).f1) x5_4).f0)) := (blk_cell BK110.out 0).trans rfl; have hcz116_1 : wr.cell? ⟨gb110, 1, none⟩ = some (.slice A109_1 ((rd_T38 ((rd_T53 l0_0 x3_2).f1) x5_4).f1).length c109_1) := (blk_cell BK110.out 1).trans rfl; have hcz116_2 : wr.cell? ⟨gb110, 2, none⟩ = some (.string ((rd_T38 ((rd_T53 l0_0 x3_2).f1) x5_4).f2)) := (blk_cell BK110.out 2).trans rfl; have hcz116_3 : wr.cell? ⟨gb110, 3, none⟩ = some (.bool ((rd_T38 ((rd_T53 l0_0 x3_2).f1) x5_4).f3)) := (blk_cell BK110.out 3).trans rfl; have hcz116_4 : wr.cell? ⟨gb110, 4, none⟩ = some (.bool ((rd_T38 ((rd_T53 l0_0 x3_2).f1) x5_4).f4)) := (blk_cell BK110.out 4).trans rfl; have hfz116_0 := blk_frozen BK110.out 0; have hfz116_1 := blk_frozen BK110.out 1; have hfz116_2 := blk_frozen BK110.out 2; have hfz116_3 := blk_frozen BK110.out 3; have hfz116_4 := blk_frozen BK110.out 4; go_wp2
                     go_roundg k6
                     case measure => have := HJ1.out; have := HK2.out; have := HJ12.out; have := HK4.out; have := HJ39.out; have := HK6.out; omega
                     case rel => exact ⟨(wrap64 (x5_4 + 1)), qa11, H', ⟨qa102⟩, ⟨qa13⟩, ⟨qa34⟩, ⟨qa16⟩⟩
              ·rw [if_neg c39] at H
               exact absurd H qa91
             ·rw [if_neg c38] at H
              have c38b0 : decide (x5_4 < (((rd_T53 l0_0 x3_2).f1).length : Int)) = false := decide_eq_false c38; clear c38; have H' := qO H; clear H; have hnb117 := NB105_101.out; have hnc117 := NB101_105.out; have hcz118_0 : wr.cell? ⟨gb105, 0, none⟩ = some (.string ((rd_T53 l0_0 x3_2).f0)) := (blk_cell BK105.out 0).trans rfl; have hcz118_1 : wr.cell? ⟨gb105, 1, none⟩ = some (.slice A104_1 ((rd_T53 l0_0 x3_2).f1).length c104_1) := (blk_cell BK105.out 1).trans rfl; have hfz118_0 := blk_frozen BK105.out 0; have hfz118_1 := blk_frozen BK105.out 1; go_wp2
              go_roundg k4
              case measure => have := HJ1.out; have := HK2.out; have := HJ12.out; have := HK4.out; omega
              case rel => exact ⟨(wrap64 (x3_2 + 1)), qa11, H', ⟨by have := HJ1.out; have := HK2.out; have := HJ12.out; have := HK4.out; omega⟩, ⟨qa13⟩, ⟨qa20⟩⟩
       ·rw [if_neg c12] at H
        exact absurd H qa91
      ·rw [if_neg c11] at H
       have c11b0 : decide (x3_2 < (l0_0.length : Int)) = false := decide_eq_false c11; clear c11; obtain rfl := Option.some.inj H; have hcz119_0 : wr.cell? ⟨gb101, 0, none⟩ = some (.slice A0_0 l0_0.length c0_0) := (blk_cell BK101.out 0).trans rfl; have hfz119_0 := blk_frozen BK101.out 0; go_wp2
       go_ret
       exact ⟨qa3, qa6⟩


def spec_FieldAt.j0 : Nat → ByteArray → ByteArray → Bool → List (S53) → Option (ByteArray × (List (S57)) × ByteArray × Bool × Bool × Int)
 | 0, _, _, _, _ => none
 | k + 1, x1, x2, x18, x102000 => if x18 = true then (some ((⟨#[]⟩ : ByteArray), ([] : List (S57)), (⟨#[]⟩ : ByteArray), false, false, 2)) else ((spec_SchemaOK.f k x102000).bind fun t103 => (if t103 = true then ((spec_l03Find.f k x102000 x1).bind fun t104 => (if t104 < 0 then (some ((⟨#[]⟩ : ByteArray), ([] : List (S57)), (⟨#[]⟩ : ByteArray), false, false, 5)) else (if 0 ≤ t104 then (if t104 < (x102000.length : Int) then ((spec_l03Field.f k ((rd_T53 x102000 t104).f0) ((rd_T53 x102000 t104).f1) x2).bind fun t106 => (if t106 < 0 then (some ((⟨#[]⟩ : ByteArray), ([] : List (S57)), (⟨#[]⟩ : ByteArray), false, false, 9)) else (if 0 ≤ t106 then (if t106 < (((rd_T53 x102000 t104).f1).length : Int) then ((some (([] : List (S57)) : List (S57))).bind fun y110 => (if y110.length + ((rd_T38 ((rd_T53 x102000 t104).f1) t106).f1).length < 5864062014805 then (some ((rd_T38 ((rd_T53 x102000 t104).f1) t106).f0, (y110 ++ ((rd_T38 ((rd_T53 x102000 t104).f1) t106).f1)), (rd_T38 ((rd_T53 x102000 t104).f1) t106).f2, (rd_T38 ((rd_T53 x102000 t104).f1) t106).f3, (rd_T38 ((rd_T53 x102000 t104).f1) t106).f4, 0)) else (none))) else (none)) else (none)))) else (none)) else (none)))) else (some ((⟨#[]⟩ : ByteArray), ([] : List (S57)), (⟨#[]⟩ : ByteArray), false, false, 1))))
def spec_FieldAt.f (k : Nat) (l0_0 : List (S53)) (a1 : ByteArray) (a2 : ByteArray) : Option (ByteArray × (List (S57)) × ByteArray × Bool × Bool × Int) := if (a1.size : Int) > 65536 then (spec_FieldAt.j0 k a1 a2 true l0_0) else (spec_FieldAt.j0 k a1 a2 (decide ((a2.size : Int) > 65536)) l0_0)
set_option maxHeartbeats 8000000 in
set_option maxRecDepth 100000 in
theorem spec_FieldAt.calls (k : Nat) (A0_0 : Option Addr) (c0_0 : Nat) (l0_0 : List (S53)) (a1 : ByteArray) (a2 : ByteArray) (r1 : ByteArray) (r2 : List (S57)) (r3 : ByteArray) (r4 : Bool) (r5 : Bool) (r6 : Int) (w : World) (hr0_0 : Kd.C k53 w A0_0 l0_0.length l0_0) (hc0_0 : l0_0.length ≤ c0_0) (h : spec_FieldAt.f k l0_0 a1 a2 = some (r1, r2, r3, r4, r5, r6)) :
  Calls Try.prog 15 #[.agg #[.slice A0_0 l0_0.length c0_0], .string a1, .string a2] w fun e w' => ∃ v1_ : Value, e = .returned (.tuple #[.agg #[.string r1, v1_, .string r3, .bool r4, .bool r5], .int .i64 r6]) ∧ Kd.R k57 57 w' w.heap.size (fun _ => True) v1_ r2 ∧ Below w.heap.size w w' := by
 have hu29 := Try.underlying29; have hu38 := Try.underlying38; have hu53 := Try.underlying53; have HR0_0 := qO hr0_0; have HC0_0 := qO hc0_0; clear hr0_0 hc0_0; have HB := qO (Below.refl w.heap.size w); have H : (if (a1.size : Int) > 65536 then (spec_FieldAt.j0 k a1 a2 true l0_0) else (spec_FieldAt.j0 k a1 a2 (decide ((a2.size : Int) > 65536)) l0_0)) = some (r1, r2, r3, r4, r5, r6) := h; clear h; have HC4 := qO H; clear H
 go_enter Try.func15, Try.ntmps15
 go_upto_region 1 with (first | ((with_reducible refine gate_dst (N := 3) rfl ?_); (try (refine gate_guard (by rfl) ?_; dsimp only)); refine box_event ?hg (N := 3) ?hd (cs := #[.slice A0_0 l0_0.length c0_0]) (t := 29) ?hr ?_; (case hd => rfl); (case hg => rfl); (case hr => exact qa18); intro gb101 hg w5 hbox hb; have n0_ := qO (below_step qa8 hb); have n1_ := qO (hbox); have n2_ := qO ((qa40 : w.heap.size ≤ gb101)); have n3_ := qO ((qa40 : w.heap.size ≤ gb101)); clear HB; have HB := n0_; have BK101 := n1_; have GW101 := n2_; have GE101 := n3_; clear n0_ n1_ n2_ n3_; clear hb hbox hg) | ((with_reducible refine gate_dst (N := 6) rfl ?_); (try (refine gate_guard (by rfl) ?_; dsimp only)); refine box_event ?hg (N := 6) ?hd (cs := #[.string (⟨#[]⟩ : ByteArray), .slice none 0 0, .string (⟨#[]⟩ : ByteArray), .bool false, .bool false]) (t := 38) ?hr ?_; (case hd => rfl); (case hg => rfl); (case hr => exact qa18); intro gb102 hg w6 hbox hb; have n0_ := qO (blk_below (g := gb101) (o := .cells #[.slice A0_0 l0_0.length c0_0] 29 (0, 0)) qa13 hb); have n1_ := qO (below_step qa6 hb); have n2_ := qO (hbox); have n3_ := qO ((qa37 : w.heap.size ≤ gb102)); have n4_ := qO ((qa37 : w.heap.size ≤ gb102)); have n5_ := qO ((qa24 : gb101 ≠ gb102)); have n6_ := qO ((qa83 : gb102 ≠ gb101)); clear BK101; clear HB; have BK101 := n0_; have HB := n1_; have BK102 := n2_; have GW102 := n3_; have GE102 := n4_; have NB101_102 := n5_; have NB102_101 := n6_; clear n0_ n1_ n2_ n3_ n4_ n5_ n6_; clear hb hbox hg))
 (try simp only [Act.put, qzA, qzB, qzC])
 go_cut [18] (fun v18 wc => ∃ (kq : Nat) (x18_3 : Bool), v18 = .bool x18_3 ∧ Aside0 (spec_FieldAt.j0 kq a1 a2 x18_3 l0_0 = some (r1, r2, r3, r4, r5, r6)) ∧ Aside0 (kq ≤ k) ∧ Aside0 (wc.heap[gb101]? = some (.cells #[(.slice A0_0 l0_0.length c0_0)] 29 (0, 0))) ∧ Aside0 (wc.heap[gb102]? = some (.cells #[.string (⟨#[]⟩ : ByteArray), (.slice none 0 0), .string (⟨#[]⟩ : ByteArray), .bool false, .bool false] 38 (0, 0))) ∧ Aside0 (Below w.heap.size w wc))
 case first =>
  have H := HC4.out; clear HC4
  by_cases c7 : (a1.size : Int) > 65536
  ·rw [if_pos c7] at H
   have c7b0 : decide (65536 < (a1.size : Int)) = true := decide_eq_true c7; have c7b1 : decide (65536 < a1.size) = true := decide_eq_true qa27; clear c7; (first | rw [c7b0] | (simp only [i64_w, i32_w]; rw [c7b0]) | skip); have H' := qO H; clear H; go_wp2
   go_meet
   case rel => exact ⟨_, (true), qa11, H', ⟨qa77⟩, ⟨qa13⟩, ⟨qa31⟩, ⟨qa7⟩⟩
  ·rw [if_neg c7] at H
   have c7b0 : decide (65536 < (a1.size : Int)) = false := decide_eq_false c7; have c7b1 : decide (65536 < a1.size) = false := decide_eq_false qa27; clear c7; (first | rw [c7b0] | (simp only [i64_w, i32_w]; rw [c7b0]) | skip); have H' := qO H; clear H; go_wp2
   go_meet
   case rel => exact ⟨_, (decide ((a2.size : Int) > 65536)), qa11, H', ⟨qa77⟩, ⟨qa13⟩, ⟨qa31⟩, ⟨qa7⟩⟩
 case rest =>
  clear HC4
  try clear c1
  try clear p2
  try clear c7
  try clear c7b0
  try clear c7b1
  obtain ⟨kq, x18_3, rfl, HA, HJ3, BK101, BK102, HB⟩ := hcut
  cases kq with
  | zero => exact absurd HA.out (by simp [spec_FieldAt.j0])
  | succ kj3 =>
   have H := HA.out; clear HA; simp only [spec_FieldAt.j0] at H
   by_cases c8 : x18_3 = true
   ·subst c8
    have H1 : (some ((⟨#[]⟩ : ByteArray), ([] : List (S57)), (⟨#[]⟩ : ByteArray), false, false, 2)) = some (r1, r2, r3, r4, r5, r6) := by rw [if_pos rfl] at H; exact H
    clear H; have H := H1; clear H1; simp only [Option.some.injEq, Prod.mk.injEq] at H; obtain ⟨rfl, rfl, rfl, rfl, rfl, rfl⟩ := H; have hnb9 := NB102_101.out; have hnc9 := NB101_102.out; have hcz10_0 : wc.cell? ⟨gb102, 0, none⟩ = some (.string (⟨#[]⟩ : ByteArray)) := (blk_cell BK102.out 0).trans rfl; have hcz10_1 : wc.cell? ⟨gb102, 1, none⟩ = some (.slice none 0 0) := (blk_cell BK102.out 1).trans rfl; have hcz10_2 : wc.cell? ⟨gb102, 2, none⟩ = some (.string (⟨#[]⟩ : ByteArray)) := (blk_cell BK102.out 2).trans rfl; have hcz10_3 : wc.cell? ⟨gb102, 3, none⟩ = some (.bool false) := (blk_cell BK102.out 3).trans rfl; have hcz10_4 : wc.cell? ⟨gb102, 4, none⟩ = some (.bool false) := (blk_cell BK102.out 4).trans rfl; have hfz10_0 := blk_frozen BK102.out 0; have hfz10_1 := blk_frozen BK102.out 1; have hfz10_2 := blk_frozen BK102.out 2; have hfz10_3 := blk_frozen BK102.out 3; have hfz10_4 := blk_frozen BK102.out 4; go_wp2; refine bodyPost_ret (results_ct rfl _ _ gb102 38 #[.string (⟨#[]⟩ : ByteArray), .slice none 0 0, .string (⟨#[]⟩ : ByteArray), .bool false, .bool false] (0, 0) _ rfl qa4 Try.underlying38 rfl qa17) rfl ?_
    exact ⟨_, qa3, qa42, qa7⟩
   ·replace c8 := Bool.eq_false_iff.mpr c8
    subst c8; have H1 : ((spec_SchemaOK.f kj3 l0_0).bind fun t103 => (if t103 = true then ((spec_l03Find.f kj3 l0_0 a1).bind fun t104 => (if t104 < 0 then (some ((⟨#[]⟩ : ByteArray), ([] : List (S57)), (⟨#[]⟩ : ByteArray), false, false, 5)) else (if 0 ≤ t104 then (if t104 < (l0_0.length : Int) then ((spec_l03Field.f kj3 ((rd_T53 l0_0 t104).f0) ((rd_T53 l0_0 t104).f1) a2).bind fun t106 => (if t106 < 0 then (some ((⟨#[]⟩ : ByteArray), ([] : List (S57)), (⟨#[]⟩ : ByteArray), false, false, 9)) else (if 0 ≤ t106 then (if t106 < (((rd_T53 l0_0 t104).f1).length : Int) then ((some (([] : List (S57)) : List (S57))).bind fun y110 => (if y110.length + ((rd_T38 ((rd_T53 l0_0 t104).f1) t106).f1).length < 5864062014805 then (some ((rd_T38 ((rd_T53 l0_0 t104).f1) t106).f0, (y110 ++ ((rd_T38 ((rd_T53 l0_0 t104).f1) t106).f1)), (rd_T38 ((rd_T53 l0_0 t104).f1) t106).f2, (rd_T38 ((rd_T53 l0_0 t104).f1) t106).f3, (rd_T38 ((rd_T53 l0_0 t104).f1) t106).f4, 0)) else (none))) else (none)) else (none)))) else (none)) else (none)))) else (some ((⟨#[]⟩ : ByteArray), ([] : List (S57)), (⟨#[]⟩ : ByteArray), false, false, 1)))) = some (r1, r2, r3, r4, r5, r6) := by rw [if_neg (show ¬ (false = true) by decide)] at H; exact H
    clear H; have H := H1; clear H1; replace H := Option.bind_eq_some_iff.mp H; obtain ⟨t103, A110, H⟩ := H; replace H : (if t103 = true then ((spec_l03Find.f kj3 l0_0 a1).bind fun t104 => (if t104 < 0 then (some ((⟨#[]⟩ : ByteArray), ([] : List (S57)), (⟨#[]⟩ : ByteArray), false, false, 5)) else (if 0 ≤ t104 then (if t104 < (l0_0.length : Int) then ((spec_l03Field.f kj3 ((rd_T53 l0_0 t104).f0) ((rd_T53 l0_0 t104).f1) a2).bind fun t106 => (if t106 < 0 then (some ((⟨#[]⟩ : ByteArray), ([] : List (S57)), (⟨#[]⟩ : ByteArray), false, false, 9)) else (if 0 ≤ t106 then (if t106 < (((rd_T53 l0_0 t104).f1).length : Int) then ((some (([] : List (S57)) : List (S57))).bind fun y110 => (if y110.length + ((rd_T38 ((rd_T53 l0_0 t104).f1) t106).f1).length < 5864062014805 then (some ((rd_T38 ((rd_T53 l0_0 t104).f1) t106).f0, (y110 ++ ((rd_T38 ((rd_T53 l0_0 t104).f1) t106).f1)), (rd_T38 ((rd_T53 l0_0 t104).f1) t106).f2, (rd_T38 ((rd_T53 l0_0 t104).f1) t106).f3, (rd_T38 ((rd_T53 l0_0 t104).f1) t106).f4, 0)) else (none))) else (none)) else (none)))) else (none)) else (none)))) else (some ((⟨#[]⟩ : ByteArray), ([] : List (S57)), (⟨#[]⟩ : ByteArray), false, false, 1))) = some (r1, r2, r3, r4, r5, r6) := H; have A11 := qO A110; clear A110
    by_cases c12 : t103 = true
    ·subst c12
     have H1 : ((spec_l03Find.f kj3 l0_0 a1).bind fun t104 => (if t104 < 0 then (some ((⟨#[]⟩ : ByteArray), ([] : List (S57)), (⟨#[]⟩ : ByteArray), false, false, 5)) else (if 0 ≤ t104 then (if t104 < (l0_0.length : Int) then ((spec_l03Field.f kj3 ((rd_T53 l0_0 t104).f0) ((rd_T53 l0_0 t104).f1) a2).bind fun t106 => (if t106 < 0 then (some ((⟨#[]⟩ : ByteArray), ([] : List (S57)), (⟨#[]⟩ : ByteArray), false, false, 9)) else (if 0 ≤ t106 then (if t106 < (((rd_T53 l0_0 t104).f1).length : Int) then ((some (([] : List (S57)) : List (S57))).bind fun y110 => (if y110.length + ((rd_T38 ((rd_T53 l0_0 t104).f1) t106).f1).length < 5864062014805 then (some ((rd_T38 ((rd_T53 l0_0 t104).f1) t106).f0, (y110 ++ ((rd_T38 ((rd_T53 l0_0 t104).f1) t106).f1)), (rd_T38 ((rd_T53 l0_0 t104).f1) t106).f2, (rd_T38 ((rd_T53 l0_0 t104).f1) t106).f3, (rd_T38 ((rd_T53 l0_0 t104).f1) t106).f4, 0)) else (none))) else (none)) else (none)))) else (none)) else (none)))) = some (r1, r2, r3, r4, r5, r6) := by rw [if_pos rfl] at H; exact H
     clear H; have H := H1; clear H1; replace H := Option.bind_eq_some_iff.mp H; obtain ⟨t104, A130, H⟩ := H; replace H : (if t104 < 0 then (some ((⟨#[]⟩ : ByteArray), ([] : List (S57)), (⟨#[]⟩ : ByteArray), false, false, 5)) else (if 0 ≤ t104 then (if t104 < (l0_0.length : Int) then ((spec_l03Field.f kj3 ((rd_T53 l0_0 t104).f0) ((rd_T53 l0_0 t104).f1) a2).bind fun t106 => (if t106 < 0 then (some ((⟨#[]⟩ : ByteArray), ([] : List (S57)), (⟨#[]⟩ : ByteArray), false, false, 9)) else (if 0 ≤ t106 then (if t106 < (((rd_T53 l0_0 t104).f1).length : Int) then ((some (([] : List (S57)) : List (S57))).bind fun y110 => (if y110.length + ((rd_T38 ((rd_T53 l0_0 t104).f1) t106).f1).length < 5864062014805 then (some ((rd_T38 ((rd_T53 l0_0 t104).f1) t106).f0, (y110 ++ ((rd_T38 ((rd_T53 l0_0 t104).f1) t106).f1)), (rd_T38 ((rd_T53 l0_0 t104).f1) t106).f2, (rd_T38 ((rd_T53 l0_0 t104).f1) t106).f3, (rd_T38 ((rd_T53 l0_0 t104).f1) t106).f4, 0)) else (none))) else (none)) else (none)))) else (none)) else (none))) = some (r1, r2, r3, r4, r5, r6) := H; have A13 := qO A130; clear A130
     by_cases c14 : t104 < 0
     ·rw [if_pos c14] at H
      have c14b0 : decide (t104 < 0) = true := decide_eq_true c14; clear c14; simp only [Option.some.injEq, Prod.mk.injEq] at H; obtain ⟨rfl, rfl, rfl, rfl, rfl, rfl⟩ := H; have hnb15 := NB101_102.out; have hnc15 := NB102_101.out; have hcz16_0 : wc.cell? ⟨gb101, 0, none⟩ = some (.slice A0_0 l0_0.length c0_0) := (blk_cell BK101.out 0).trans rfl; have hfz16_0 := blk_frozen BK101.out 0
      go_wp2_with (first | ((with_reducible refine gate_callee (f := 9) rfl ?_); refine goesL_ (some 21) rfl rfl Try.func9 qa17 rfl #[.agg #[.slice A0_0 l0_0.length c0_0]] rfl qa1 ?_; (with_reducible refine (spec_SchemaOK.calls kj3 _ _ l0_0 true _ ?side1 ?side2 A11.out).mono ?_); (case side1 => exact qa19); (case side2 => exact HC0_0.out); rintro e w17 ⟨rfl, hb⟩; have hx_ := qHX HB hb qa0; refine ⟨_, rfl, ?_⟩; have n0_ := qO (qB BK101.out hx_ hb); have n1_ := qO (qB BK102.out hx_ hb); have n2_ := qO (below_step (below_step HB.out hx_) hb); clear BK101; clear BK102; clear HB; have BK101 := n0_; have BK102 := n1_; have HB := n2_; clear n0_ n1_ n2_; clear hx_; (try clear hb); (try clear hb2); (try clear hk); (try clear hi); have hcz18_0 : w17.cell? ⟨gb101, 0, none⟩ = some (.slice A0_0 l0_0.length c0_0) := (blk_cell BK101.out 0).trans rfl; have hfz18_0 := blk_frozen BK101.out 0) | ((with_reducible refine gate_callee (f := 28) rfl ?_); refine goesL_ (some 26) rfl rfl Try.func28 qa17 rfl #[.agg #[.slice A0_0 l0_0.length c0_0], .string a1] rfl qa1 ?_; (with_reducible refine (spec_l03Find.calls kj3 _ _ l0_0 a1 t104 _ ?side1 ?side2 A13.out).mono ?_); (case side1 => exact qa19); (case side2 => exact HC0_0.out); rintro e w19 ⟨rfl, hb⟩; have hx_ := qHX HB hb qa0; refine ⟨_, rfl, ?_⟩; have n0_ := qO (qB BK101.out hx_ hb); have n1_ := qO (qB BK102.out hx_ hb); have n2_ := qO (below_step (below_step HB.out hx_) hb); clear BK101; clear BK102; clear HB; have BK101 := n0_; have BK102 := n1_; have HB := n2_; clear n0_ n1_ n2_; clear hx_; (try clear hb); (try clear hb2); (try clear hk); (try clear hi); have hcz20_0 : w19.cell? ⟨gb102, 0, none⟩ = some (.string (⟨#[]⟩ : ByteArray)) := (blk_cell BK102.out 0).trans rfl; have hcz20_1 : w19.cell? ⟨gb102, 1, none⟩ = some (.slice none 0 0) := (blk_cell BK102.out 1).trans rfl; have hcz20_2 : w19.cell? ⟨gb102, 2, none⟩ = some (.string (⟨#[]⟩ : ByteArray)) := (blk_cell BK102.out 2).trans rfl; have hcz20_3 : w19.cell? ⟨gb102, 3, none⟩ = some (.bool false) := (blk_cell BK102.out 3).trans rfl; have hcz20_4 : w19.cell? ⟨gb102, 4, none⟩ = some (.bool false) := (blk_cell BK102.out 4).trans rfl; have hfz20_0 := blk_frozen BK102.out 0; have hfz20_1 := blk_frozen BK102.out 1; have hfz20_2 := blk_frozen BK102.out 2; have hfz20_3 := blk_frozen BK102.out 3; have hfz20_4 := blk_frozen BK102.out 4))
      refine bodyPost_ret (results_ct rfl _ _ gb102 38 #[.string (⟨#[]⟩ : ByteArray), .slice none 0 0, .string (⟨#[]⟩ : ByteArray), .bool false, .bool false] (0, 0) _ rfl qa4 Try.underlying38 rfl qa17) rfl ?_
      exact ⟨_, qa3, qa42, qa7⟩
     ·rw [if_neg c14] at H
      have c14b0 : decide (t104 < 0) = false := decide_eq_false c14; clear c14
      by_cases c21 : 0 ≤ t104
      ·rw [if_pos c21] at H
       have c21b0 : decide (0 ≤ t104) = true := decide_eq_true c21; clear c21
       by_cases c22 : t104 < (l0_0.length : Int)
       ·rw [if_pos c22] at H
        have c22b0 : decide (t104 < (l0_0.length : Int)) = true := decide_eq_true c22; clear c22; replace H := Option.bind_eq_some_iff.mp H; obtain ⟨t106, A230, H⟩ := H; replace H : (if t106 < 0 then (some ((⟨#[]⟩ : ByteArray), ([] : List (S57)), (⟨#[]⟩ : ByteArray), false, false, 9)) else (if 0 ≤ t106 then (if t106 < (((rd_T53 l0_0 t104).f1).length : Int) then ((some (([] : List (S57)) : List (S57))).bind fun y110 => (if y110.length + ((rd_T38 ((rd_T53 l0_0 t104).f1) t106).f1).length < 5864062014805 then (some ((rd_T38 ((rd_T53 l0_0 t104).f1) t106).f0, (y110 ++ ((rd_T38 ((rd_T53 l0_0 t104).f1) t106).f1)), (rd_T38 ((rd_T53 l0_0 t104).f1) t106).f2, (rd_T38 ((rd_T53 l0_0 t104).f1) t106).f3, (rd_T38 ((rd_T53 l0_0 t104).f1) t106).f4, 0)) else (none))) else (none)) else (none))) = some (r1, r2, r3, r4, r5, r6) := H; have A23 := qO A230; clear A230
        by_cases c24 : t106 < 0
        ·rw [if_pos c24] at H
         have c24b0 : decide (t106 < 0) = true := decide_eq_true c24; clear c24; simp only [Option.some.injEq, Prod.mk.injEq] at H; obtain ⟨rfl, rfl, rfl, rfl, rfl, rfl⟩ := H; have hnb25 := NB101_102.out; have hnc25 := NB102_101.out; have hcz26_0 : wc.cell? ⟨gb101, 0, none⟩ = some (.slice A0_0 l0_0.length c0_0) := (blk_cell BK101.out 0).trans rfl; have hfz26_0 := blk_frozen BK101.out 0
         go_wp2_with (first | ((with_reducible refine gate_callee (f := 9) rfl ?_); refine goesL_ (some 21) rfl rfl Try.func9 qa17 rfl #[.agg #[.slice A0_0 l0_0.length c0_0]] rfl qa1 ?_; (with_reducible refine (spec_SchemaOK.calls kj3 _ _ l0_0 true _ ?side1 ?side2 A11.out).mono ?_); (case side1 => exact qa19); (case side2 => exact HC0_0.out); rintro e w27 ⟨rfl, hb⟩; have hx_ := qHX HB hb qa0; refine ⟨_, rfl, ?_⟩; have n0_ := qO (qB BK101.out hx_ hb); have n1_ := qO (qB BK102.out hx_ hb); have n2_ := qO (below_step (below_step HB.out hx_) hb); clear BK101; clear BK102; clear HB; have BK101 := n0_; have BK102 := n1_; have HB := n2_; clear n0_ n1_ n2_; clear hx_; (try clear hb); (try clear hb2); (try clear hk); (try clear hi); have hcz28_0 : w27.cell? ⟨gb101, 0, none⟩ = some (.slice A0_0 l0_0.length c0_0) := (blk_cell BK101.out 0).trans rfl; have hfz28_0 := blk_frozen BK101.out 0) | ((with_reducible refine gate_callee (f := 28) rfl ?_); refine goesL_ (some 26) rfl rfl Try.func28 qa17 rfl #[.agg #[.slice A0_0 l0_0.length c0_0], .string a1] rfl qa1 ?_; (with_reducible refine (spec_l03Find.calls kj3 _ _ l0_0 a1 t104 _ ?side1 ?side2 A13.out).mono ?_); (case side1 => exact qa19); (case side2 => exact HC0_0.out); rintro e w29 ⟨rfl, hb⟩; have hx_ := qHX HB hb qa0; refine ⟨_, rfl, ?_⟩; have n0_ := qO (qB BK101.out hx_ hb); have n1_ := qO (qB BK102.out hx_ hb); have n2_ := qO (below_step (below_step HB.out hx_) hb); clear BK101; clear BK102; clear HB; have BK101 := n0_; have BK102 := n1_; have HB := n2_; clear n0_ n1_ n2_; clear hx_; (try clear hb); (try clear hb2); (try clear hk); (try clear hi); have hcz30_0 : w29.cell? ⟨gb101, 0, none⟩ = some (.slice A0_0 l0_0.length c0_0) := (blk_cell BK101.out 0).trans rfl; have hfz30_0 := blk_frozen BK101.out 0; have p105 : 0 ≤ (t104 : Int) := qT qa5; have q105 : t104 < (l0_0.length : Int) := qT qa5; obtain ⟨ad105, A105_1, c105_1, e105, hx105_0, hx105_1, hl105_1, hi105_1⟩ := at_T53 HR0_0.out t104 p105 q105; cases e105; replace hx105_0 := (HB.out.cell (qL w _ hx105_0)).trans hx105_0; replace hx105_1 := (HB.out.cell (qL w _ hx105_1)).trans hx105_1; have HR105_1 := qO hi105_1; have HC105_1 := qO hl105_1; clear hi105_1 hl105_1; replace p105 := eq_true p105; replace q105 := eq_true q105) | ((with_reducible refine gate_callee (f := 30) rfl ?_); refine goesL_ (some 36) rfl rfl Try.func30 qa17 rfl #[.agg #[.string ((rd_T53 l0_0 t104).f0), .slice A105_1 ((rd_T53 l0_0 t104).f1).length c105_1], .string a2] rfl qa1 ?_; (with_reducible refine (spec_l03Field.calls kj3 ((rd_T53 l0_0 t104).f0) _ _ ((rd_T53 l0_0 t104).f1) a2 t106 _ ?side1 ?side2 A23.out).mono ?_); (case side1 => exact qa96); (case side2 => exact HC105_1.out); rintro e w31 ⟨rfl, hb⟩; have hx_ := qHX HB hb qa0; refine ⟨_, rfl, ?_⟩; have n0_ := qO (qB BK101.out hx_ hb); have n1_ := qO (qB BK102.out hx_ hb); have n2_ := qO (below_step (below_step HB.out hx_) hb); clear BK101; clear BK102; clear HB; have BK101 := n0_; have BK102 := n1_; have HB := n2_; clear n0_ n1_ n2_; clear hx_; (try clear hb); (try clear hb2); (try clear hk); (try clear hi); have hcz32_0 : w31.cell? ⟨gb102, 0, none⟩ = some (.string (⟨#[]⟩ : ByteArray)) := (blk_cell BK102.out 0).trans rfl; have hcz32_1 : w31.cell? ⟨gb102, 1, none⟩ = some (.slice none 0 0) := (blk_cell BK102.out 1).trans rfl; have hcz32_2 : w31.cell? ⟨gb102, 2, none⟩ = some (.string (⟨#[]⟩ : ByteArray)) := (blk_cell BK102.out 2).trans rfl; have hcz32_3 : w31.cell? ⟨gb102, 3, none⟩ = some (.bool false) := (blk_cell BK102.out 3).trans rfl; have hcz32_4 : w31.cell? ⟨gb102, 4, none⟩ = some (.bool false) := (blk_cell BK102.out 4).trans rfl; have hfz32_0 := blk_frozen BK102.out 0; have hfz32_1 := blk_frozen BK102.out 1; have hfz32_2 := blk_frozen BK102.out 2; have hfz32_3 := blk_frozen BK102.out 3; have hfz32_4 := blk_frozen BK102.out 4))
         refine bodyPost_ret (results_ct rfl _ _ gb102 38 #[.string (⟨#[]⟩ : ByteArray), .slice none 0 0, .string (⟨#[]⟩ : ByteArray), .bool false, .bool false] (0, 0) _ rfl qa4 Try.underlying38 rfl qa17) rfl ?_
         exact ⟨_, qa3, qa42, qa7⟩
        ·rw [if_neg c24] at H
         have c24b0 : decide (t106 < 0) = false := decide_eq_false c24; clear c24
         by_cases c33 : 0 ≤ t106
         ·rw [if_pos c33] at H
          have c33b0 : decide (0 ≤ t106) = true := decide_eq_true c33; clear c33
          by_cases c34 : t106 < (((rd_T53 l0_0 t104).f1).length : Int)
          ·rw [if_pos c34] at H
           have c34b0 : decide (t106 < (((rd_T53 l0_0 t104).f1).length : Int)) = true := decide_eq_true c34; clear c34; obtain ⟨y110, hy110⟩ : ∃ y_ : List (S57), y_ = (([] : List (S57))) := ⟨_, rfl⟩; replace H : (if y110.length + ((rd_T38 ((rd_T53 l0_0 t104).f1) t106).f1).length < 5864062014805 then (some ((rd_T38 ((rd_T53 l0_0 t104).f1) t106).f0, (y110 ++ ((rd_T38 ((rd_T53 l0_0 t104).f1) t106).f1)), (rd_T38 ((rd_T53 l0_0 t104).f1) t106).f2, (rd_T38 ((rd_T53 l0_0 t104).f1) t106).f3, (rd_T38 ((rd_T53 l0_0 t104).f1) t106).f4, 0)) else (none)) = some (r1, r2, r3, r4, r5, r6) := by first | (rw [hy110]; with_reducible exact H) | (have H2_ := (Option.bind_some _ _).symm.trans H; rw [hy110]; with_reducible exact H2_) | (have H2_ := (Option.bind_some _ _).symm.trans H; with_reducible exact H2_) | with_reducible exact H | (rw [hy110]; exact H) | exact H
           have Ny110 := qO hy110; clear hy110
           by_cases c35 : y110.length + ((rd_T38 ((rd_T53 l0_0 t104).f1) t106).f1).length < 5864062014805
           ·rw [if_pos c35] at H
            have LMc35 := qO c35; clear c35; obtain ⟨y113, hy113⟩ : ∃ y_ : List (S57), y_ = (y110 ++ ((rd_T38 ((rd_T53 l0_0 t104).f1) t106).f1)) := ⟨_, rfl⟩; replace H : (some ((rd_T38 ((rd_T53 l0_0 t104).f1) t106).f0, y113, (rd_T38 ((rd_T53 l0_0 t104).f1) t106).f2, (rd_T38 ((rd_T53 l0_0 t104).f1) t106).f3, (rd_T38 ((rd_T53 l0_0 t104).f1) t106).f4, 0)) = some (r1, r2, r3, r4, r5, r6) := by first | (rw [hy113]; with_reducible exact H) | (have H2_ := (Option.bind_some _ _).symm.trans H; rw [hy113]; with_reducible exact H2_) | (have H2_ := (Option.bind_some _ _).symm.trans H; with_reducible exact H2_) | with_reducible exact H | (rw [hy113]; exact H) | exact H
            have Ny113 := qO hy113; clear hy113; simp only [Option.some.injEq, Prod.mk.injEq] at H; obtain ⟨rfl, rfl, rfl, rfl, rfl, rfl⟩ := H; have hnb36 := NB101_102.out; have hnc36 := NB102_101.out; have hcz37_0 : wc.cell? ⟨gb101, 0, none⟩ = some (.slice A0_0 l0_0.length c0_0) := (blk_cell BK101.out 0).trans rfl; have hfz37_0 := blk_frozen BK101.out 0
            go_wp2_with (first | ((with_reducible refine gate_callee (f := 9) rfl ?_); refine goesL_ (some 21) rfl rfl Try.func9 qa17 rfl #[.agg #[.slice A0_0 l0_0.length c0_0]] rfl qa1 ?_; (with_reducible refine (spec_SchemaOK.calls kj3 _ _ l0_0 true _ ?side1 ?side2 A11.out).mono ?_); (case side1 => exact qa19); (case side2 => exact HC0_0.out); rintro e w38 ⟨rfl, hb⟩; have hx_ := qHX HB hb qa0; refine ⟨_, rfl, ?_⟩; have n0_ := qO (qB BK101.out hx_ hb); have n1_ := qO (qB BK102.out hx_ hb); have n2_ := qO (below_step (below_step HB.out hx_) hb); clear BK101; clear BK102; clear HB; have BK101 := n0_; have BK102 := n1_; have HB := n2_; clear n0_ n1_ n2_; clear hx_; (try clear hb); (try clear hb2); (try clear hk); (try clear hi); have hcz39_0 : w38.cell? ⟨gb101, 0, none⟩ = some (.slice A0_0 l0_0.length c0_0) := (blk_cell BK101.out 0).trans rfl; have hfz39_0 := blk_frozen BK101.out 0) | ((with_reducible refine gate_callee (f := 28) rfl ?_); refine goesL_ (some 26) rfl rfl Try.func28 qa17 rfl #[.agg #[.slice A0_0 l0_0.length c0_0], .string a1] rfl qa1 ?_; (with_reducible refine (spec_l03Find.calls kj3 _ _ l0_0 a1 t104 _ ?side1 ?side2 A13.out).mono ?_); (case side1 => exact qa19); (case side2 => exact HC0_0.out); rintro e w40 ⟨rfl, hb⟩; have hx_ := qHX HB hb qa0; refine ⟨_, rfl, ?_⟩; have n0_ := qO (qB BK101.out hx_ hb); have n1_ := qO (qB BK102.out hx_ hb); have n2_ := qO (below_step (below_step HB.out hx_) hb); clear BK101; clear BK102; clear HB; have BK101 := n0_; have BK102 := n1_; have HB := n2_; clear n0_ n1_ n2_; clear hx_; (try clear hb); (try clear hb2); (try clear hk); (try clear hi); have hcz41_0 : w40.cell? ⟨gb101, 0, none⟩ = some (.slice A0_0 l0_0.length c0_0) := (blk_cell BK101.out 0).trans rfl; have hfz41_0 := blk_frozen BK101.out 0; have p105 : 0 ≤ (t104 : Int) := qT qa5; have q105 : t104 < (l0_0.length : Int) := qT qa5; obtain ⟨ad105, A105_1, c105_1, e105, hx105_0, hx105_1, hl105_1, hi105_1⟩ := at_T53 HR0_0.out t104 p105 q105; cases e105; replace hx105_0 := (HB.out.cell (qL w _ hx105_0)).trans hx105_0; replace hx105_1 := (HB.out.cell (qL w _ hx105_1)).trans hx105_1; have HR105_1 := qO hi105_1; have HC105_1 := qO hl105_1; clear hi105_1 hl105_1; replace p105 := eq_true p105; replace q105 := eq_true q105) | ((with_reducible refine gate_callee (f := 30) rfl ?_); refine goesL_ (some 36) rfl rfl Try.func30 qa17 rfl #[.agg #[.string ((rd_T53 l0_0 t104).f0), .slice A105_1 ((rd_T53 l0_0 t104).f1).length c105_1], .string a2] rfl qa1 ?_; (with_reducible refine (spec_l03Field.calls kj3 ((rd_T53 l0_0 t104).f0) _ _ ((rd_T53 l0_0 t104).f1) a2 t106 _ ?side1 ?side2 A23.out).mono ?_); (case side1 => exact qa96); (case side2 => exact HC105_1.out); rintro e w42 ⟨rfl, hb⟩; have hx_ := qHX HB hb qa0; refine ⟨_, rfl, ?_⟩; have n0_ := qO (qB BK101.out hx_ hb); have n1_ := qO (qB BK102.out hx_ hb); have n2_ := qO (below_step (below_step HB.out hx_) hb); clear BK101; clear BK102; clear HB; have BK101 := n0_; have BK102 := n1_; have HB := n2_; clear n0_ n1_ n2_; clear hx_; (try clear hb); (try clear hb2); (try clear hk); (try clear hi); have hcz43_0 : w42.cell? ⟨gb101, 0, none⟩ = some (.slice (some ad105) l0_0.length c0_0) := (blk_cell BK101.out 0).trans rfl; have hfz43_0 := blk_frozen BK101.out 0; have p107 : 0 ≤ (t104 : Int) := qT qa5; have q107 : t104 < (l0_0.length : Int) := qT qa5; obtain ⟨ad107, A107_1, c107_1, e107, hx107_0, hx107_1, hl107_1, hi107_1⟩ := at_T53 HR0_0.out t104 p107 q107; obtain rfl : ad105 = ad107 := (by injection e107); replace hx107_0 := (HB.out.cell (qL w _ hx107_0)).trans hx107_0; replace hx107_1 := (HB.out.cell (qL w _ hx107_1)).trans hx107_1; have HR107_1 := qO hi107_1; have HC107_1 := qO hl107_1; clear hi107_1 hl107_1; replace p107 := eq_true p107; replace q107 := eq_true q107; have p108 : 0 ≤ (t106 : Int) := qT qa5; have q108 : t106 < (((rd_T53 l0_0 t104).f1).length : Int) := qT qa5; obtain ⟨ad108, A108_1, c108_1, e108, hx108_0, hx108_1, hx108_2, hx108_3, hx108_4, hl108_1, hi108_1⟩ := at_T38 HR107_1.out t106 p108 q108; cases e108; replace hx108_0 := (HB.out.cell (qL w _ hx108_0)).trans hx108_0; replace hx108_1 := (HB.out.cell (qL w _ hx108_1)).trans hx108_1; replace hx108_2 := (HB.out.cell (qL w _ hx108_2)).trans hx108_2; replace hx108_3 := (HB.out.cell (qL w _ hx108_3)).trans hx108_3; replace hx108_4 := (HB.out.cell (qL w _ hx108_4)).trans hx108_4; have HR108_1 := qO hi108_1; have HC108_1 := qO hl108_1; clear hi108_1 hl108_1; replace p108 := eq_true p108; replace q108 := eq_true q108) | ((with_reducible refine gate_dst (N := 10) rfl ?_); (try (refine gate_guard (by rfl) ?_; dsimp only)); refine box_event ?hg (N := 10) ?hd (cs := #[.string (⟨#[]⟩ : ByteArray), .slice none 0 0, .string (⟨#[]⟩ : ByteArray), .bool false, .bool false]) (t := 38) ?hr ?_; (case hd => rfl); (case hg => rfl); (case hr => exact qa18); intro gb109 hg w44 hbox hb; have hx_ := qHX HB hb qa0; have n0_ := qO (qB BK101.out hx_ hb); have n1_ := qO (qB BK102.out hx_ hb); have n2_ := qO (below_step (below_step HB.out hx_) hb); have n3_ := qO (hbox); have n4_ := qO ((qa15 : w.heap.size ≤ gb109)); have n5_ := n4_; have n6_ := qO ((by rw [hg]; exact Nat.ne_of_lt (blk_lt (g := gb101) (o := .cells #[.slice (some ad105) l0_0.length c0_0] 29 (0, 0)) (by (with_reducible repeat (first | refine qkN ?_ _ | refine qkD ?_ | refine qkA ?_ _)); exact BK101.out)) : gb101 ≠ gb109)); have n7_ := qO (Ne.symm n6_.out); have n8_ := qO ((qa49 : gb102 ≠ gb109)); have n9_ := qO (Ne.symm n8_.out); clear BK101; clear BK102; clear HB; have BK101 := n0_; have BK102 := n1_; have HB := n2_; have BK109 := n3_; have GW109 := n4_; have GE109 := n5_; have NB101_109 := n6_; have NB109_101 := n7_; have NB102_109 := n8_; have NB109_102 := n9_; clear n0_ n1_ n2_ n3_ n4_ n5_ n6_ n7_ n8_ n9_; clear hx_; clear hb hbox hg; have hnb45 := NB109_101.out; have hnc45 := NB101_109.out; have hnb46 := NB109_102.out; have hnc46 := NB102_109.out; have hcz47_0 : w44.cell? ⟨gb109, 0, none⟩ = some (.string (⟨#[]⟩ : ByteArray)) := (blk_cell BK109.out 0).trans rfl; have hcz47_1 : w44.cell? ⟨gb109, 1, none⟩ = some (.slice none 0 0) := (blk_cell BK109.out 1).trans rfl; have hcz47_2 : w44.cell? ⟨gb109, 2, none⟩ = some (.string (⟨#[]⟩ : ByteArray)) := (blk_cell BK109.out 2).trans rfl; have hcz47_3 : w44.cell? ⟨gb109, 3, none⟩ = some (.bool false) := (blk_cell BK109.out 3).trans rfl; have hcz47_4 : w44.cell? ⟨gb109, 4, none⟩ = some (.bool false) := (blk_cell BK109.out 4).trans rfl; have hfz47_0 := blk_frozen BK109.out 0; have hfz47_1 := blk_frozen BK109.out 1; have hfz47_2 := blk_frozen BK109.out 2; have hfz47_3 := blk_frozen BK109.out 3; have hfz47_4 := blk_frozen BK109.out 4) | ((with_reducible refine gate_dst (N := 49) rfl ?_); (try (refine gate_guard (by rfl) ?_; dsimp only)); refine Kd.R_lit k57 _ 57 ?hg (N := 49) ?hd (xs := ([] : List (S57))) (inner := []) (ok := fun _ => True) (okp := fun _ => True) ?hr ?hp (fun _ hk => hk) trivial (Below.refl _ _) (Nat.le_refl _) qa91 ?_; (case hd => rfl); (case hg => rfl); (case hr => exact qa18); (case hp => exact (Reps.none _ _)); intro v111 w48 ho49 hb hg_ hnew_; clear hg_ hnew_; (first | rw [← Ny110.out] at ho49 | (simp only [Int.reduceToNat] at ho49; rw [← Ny110.out] at ho49)); have n0_ := qO (Kd.R_lower ho49 (below_size qa68)); have n1_ := qO (blk_below (g := gb101) (o := .cells #[.slice (some ad105) l0_0.length c0_0] 29 (0, 0)) (by (with_reducible repeat (first | refine qkN ?_ _ | refine qkD ?_ | refine qkA ?_ _)); refine blk_far ?_ NB101_109.out _; (with_reducible repeat (first | refine qkN ?_ _ | refine qkD ?_ | refine qkA ?_ _)); refine blk_far ?_ NB101_109.out _; (with_reducible repeat (first | refine qkN ?_ _ | refine qkD ?_ | refine qkA ?_ _)); refine blk_far ?_ NB101_109.out _; (with_reducible repeat (first | refine qkN ?_ _ | refine qkD ?_ | refine qkA ?_ _)); refine blk_far ?_ NB101_109.out _; (with_reducible repeat (first | refine qkN ?_ _ | refine qkD ?_ | refine qkA ?_ _)); refine blk_far ?_ NB101_109.out _; (with_reducible repeat (first | refine qkN ?_ _ | refine qkD ?_ | refine qkA ?_ _)); exact BK101.out) hb); have n2_ := qO (blk_below (g := gb102) (o := .cells #[.string (⟨#[]⟩ : ByteArray), .slice none 0 0, .string (⟨#[]⟩ : ByteArray), .bool false, .bool false] 38 (0, 0)) (by (with_reducible repeat (first | refine qkN ?_ _ | refine qkD ?_ | refine qkA ?_ _)); refine blk_far ?_ NB102_109.out _; (with_reducible repeat (first | refine qkN ?_ _ | refine qkD ?_ | refine qkA ?_ _)); refine blk_far ?_ NB102_109.out _; (with_reducible repeat (first | refine qkN ?_ _ | refine qkD ?_ | refine qkA ?_ _)); refine blk_far ?_ NB102_109.out _; (with_reducible repeat (first | refine qkN ?_ _ | refine qkD ?_ | refine qkA ?_ _)); refine blk_far ?_ NB102_109.out _; (with_reducible repeat (first | refine qkN ?_ _ | refine qkD ?_ | refine qkA ?_ _)); refine blk_far ?_ NB102_109.out _; (with_reducible repeat (first | refine qkN ?_ _ | refine qkD ?_ | refine qkA ?_ _)); exact BK102.out) hb); have n3_ := qO (blk_below (g := gb109) (o := .cells #[.string ((rd_T38 ((rd_T53 l0_0 t104).f1) t106).f0), .slice A108_1 ((rd_T38 ((rd_T53 l0_0 t104).f1) t106).f1).length c108_1, .string ((rd_T38 ((rd_T53 l0_0 t104).f1) t106).f2), .bool ((rd_T38 ((rd_T53 l0_0 t104).f1) t106).f3), .bool ((rd_T38 ((rd_T53 l0_0 t104).f1) t106).f4)] 38 (0, 0)) (by (with_reducible repeat (first | refine qkN ?_ _ | refine qkD ?_ | refine qkA ?_ _)); refine blk_put (cs := #[.string ((rd_T38 ((rd_T53 l0_0 t104).f1) t106).f0), .slice A108_1 ((rd_T38 ((rd_T53 l0_0 t104).f1) t106).f1).length c108_1, .string ((rd_T38 ((rd_T53 l0_0 t104).f1) t106).f2), .bool ((rd_T38 ((rd_T53 l0_0 t104).f1) t106).f3), .bool false]) ?_ 4 _ rfl; (with_reducible repeat (first | refine qkN ?_ _ | refine qkD ?_ | refine qkA ?_ _)); refine blk_put (cs := #[.string ((rd_T38 ((rd_T53 l0_0 t104).f1) t106).f0), .slice A108_1 ((rd_T38 ((rd_T53 l0_0 t104).f1) t106).f1).length c108_1, .string ((rd_T38 ((rd_T53 l0_0 t104).f1) t106).f2), .bool false, .bool false]) ?_ 3 _ rfl; (with_reducible repeat (first | refine qkN ?_ _ | refine qkD ?_ | refine qkA ?_ _)); refine blk_put (cs := #[.string ((rd_T38 ((rd_T53 l0_0 t104).f1) t106).f0), .slice A108_1 ((rd_T38 ((rd_T53 l0_0 t104).f1) t106).f1).length c108_1, .string (⟨#[]⟩ : ByteArray), .bool false, .bool false]) ?_ 2 _ rfl; (with_reducible repeat (first | refine qkN ?_ _ | refine qkD ?_ | refine qkA ?_ _)); refine blk_put (cs := #[.string ((rd_T38 ((rd_T53 l0_0 t104).f1) t106).f0), .slice none 0 0, .string (⟨#[]⟩ : ByteArray), .bool false, .bool false]) ?_ 1 _ rfl; (with_reducible repeat (first | refine qkN ?_ _ | refine qkD ?_ | refine qkA ?_ _)); refine blk_put (cs := #[.string (⟨#[]⟩ : ByteArray), .slice none 0 0, .string (⟨#[]⟩ : ByteArray), .bool false, .bool false]) ?_ 0 _ rfl; (with_reducible repeat (first | refine qkN ?_ _ | refine qkD ?_ | refine qkA ?_ _)); exact BK109.out) hb); have n4_ := qO (below_step qa68 hb); clear BK101; clear BK102; clear BK109; clear HB; have HO112 := n0_; have BK101 := n1_; have BK102 := n2_; have BK109 := n3_; have HB := n4_; clear n0_ n1_ n2_ n3_ n4_; clear hb ho49; have hcz50_0 : w48.cell? ⟨gb109, 0, none⟩ = some (.string ((rd_T38 ((rd_T53 l0_0 t104).f1) t106).f0)) := (blk_cell BK109.out 0).trans rfl; have hcz50_1 : w48.cell? ⟨gb109, 1, none⟩ = some (.slice A108_1 ((rd_T38 ((rd_T53 l0_0 t104).f1) t106).f1).length c108_1) := (blk_cell BK109.out 1).trans rfl; have hcz50_2 : w48.cell? ⟨gb109, 2, none⟩ = some (.string ((rd_T38 ((rd_T53 l0_0 t104).f1) t106).f2)) := (blk_cell BK109.out 2).trans rfl; have hcz50_3 : w48.cell? ⟨gb109, 3, none⟩ = some (.bool ((rd_T38 ((rd_T53 l0_0 t104).f1) t106).f3)) := (blk_cell BK109.out 3).trans rfl; have hcz50_4 : w48.cell? ⟨gb109, 4, none⟩ = some (.bool ((rd_T38 ((rd_T53 l0_0 t104).f1) t106).f4)) := (blk_cell BK109.out 4).trans rfl; have hfz50_0 := blk_frozen BK109.out 0; have hfz50_1 := blk_frozen BK109.out 1; have hfz50_2 := blk_frozen BK109.out 2; have hfz50_3 := blk_frozen BK109.out 3; have hfz50_4 := blk_frozen BK109.out 4) | ((with_reducible refine gate_builtin (b := .append) (xs := #[.tmp 49, .tmp 51]) rfl ?_); (try (refine gate_guard (by rfl) ?_; dsimp only)); at_builtin; refine Kd.R_append_rows k57 (w0 := w) w.heap.size rfl (.tmp 49) (.tmp 51) 36 57 (.agg #[(.string ⟨#[]⟩), (.bool false)]) 24 rfl Try.underlying36 info57 rfl qa108 qa27 v111 y110 ((rd_T38 ((rd_T53 l0_0 t104).f1) t106).f1) _ _ _ (fun _ => True) (fun _ => False) rfl rfl ?aO ?aR (fun _ _ h => h) (fun _ h => h.elim) ?aF ?aB ?aS ?aL ?_; (case aR => repeat (first | exact (Kd.C_below HR108_1.out HB.out) | with_reducible first | refine Kd.C_alloc ?_ _ | refine Kd.C_drewN ?_ _ | refine Kd.C_drew ?_)); (case aB => exact (by repeat (first | (with_reducible first | exact HB.out | apply qbA | apply qbN | apply qbD | refine qbS ?_ GE101.out | refine qbS ?_ GE102.out | refine qbS ?_ GE109.out) | exact HB.out))); (case aF => exact (fun _ _ => trivial)); (case aO => exact (by (with_reducible repeat (first | apply Kd.R_alloc | apply Kd.R_drewN | apply Kd.R_drew)); exact HO112.out)); (case aS => exact (below_size (by repeat (first | (with_reducible first | exact HB.out | apply qbA | apply qbN | apply qbD | refine qbS ?_ GE101.out | refine qbS ?_ GE102.out | refine qbS ?_ GE109.out) | exact HB.out)))); (case aL => have := LMc35.out; omega); intro v114 w51 ho hb hg hat; rw [← Ny113.out] at ho; have n0_ := qO (blk_grown (g := gb101) (o := .cells #[.slice (some ad105) l0_0.length c0_0] 29 (0, 0)) qa13 hg (Kd.R_ne HO112.out BK101.out qa108)); have n1_ := qO (blk_grown (g := gb102) (o := .cells #[.string (⟨#[]⟩ : ByteArray), .slice none 0 0, .string (⟨#[]⟩ : ByteArray), .bool false, .bool false] 38 (0, 0)) qa31 hg (Kd.R_ne HO112.out BK102.out qa108)); have n2_ := qO (blk_grown (g := gb109) (o := .cells #[.string ((rd_T38 ((rd_T53 l0_0 t104).f1) t106).f0), .slice A108_1 ((rd_T38 ((rd_T53 l0_0 t104).f1) t106).f1).length c108_1, .string ((rd_T38 ((rd_T53 l0_0 t104).f1) t106).f2), .bool ((rd_T38 ((rd_T53 l0_0 t104).f1) t106).f3), .bool ((rd_T38 ((rd_T53 l0_0 t104).f1) t106).f4)] 38 (0, 0)) (by (with_reducible repeat (first | refine qkN ?_ _ | refine qkD ?_ | refine qkA ?_ _)); exact BK109.out) hg (Kd.R_ne HO112.out BK109.out qa108)); have n3_ := qO (hb); have n4_ := qO (ho); clear BK101; clear BK102; clear BK109; clear HB; clear HO112; have BK101 := n0_; have BK102 := n1_; have BK109 := n2_; have HB := n3_; have HO115 := n4_; clear n0_ n1_ n2_ n3_ n4_; clear ho hb hg hat; obtain ⟨Ao52, co52, eo52⟩ := Kd.R_slice HO115.out; subst eo52; have hcz53_0 : w51.cell? ⟨gb109, 0, none⟩ = some (.string ((rd_T38 ((rd_T53 l0_0 t104).f1) t106).f0)) := (blk_cell BK109.out 0).trans rfl; have hcz53_1 : w51.cell? ⟨gb109, 1, none⟩ = some (.slice A108_1 ((rd_T38 ((rd_T53 l0_0 t104).f1) t106).f1).length c108_1) := (blk_cell BK109.out 1).trans rfl; have hcz53_2 : w51.cell? ⟨gb109, 2, none⟩ = some (.string ((rd_T38 ((rd_T53 l0_0 t104).f1) t106).f2)) := (blk_cell BK109.out 2).trans rfl; have hcz53_3 : w51.cell? ⟨gb109, 3, none⟩ = some (.bool ((rd_T38 ((rd_T53 l0_0 t104).f1) t106).f3)) := (blk_cell BK109.out 3).trans rfl; have hcz53_4 : w51.cell? ⟨gb109, 4, none⟩ = some (.bool ((rd_T38 ((rd_T53 l0_0 t104).f1) t106).f4)) := (blk_cell BK109.out 4).trans rfl; have hfz53_0 := blk_frozen BK109.out 0; have hfz53_1 := blk_frozen BK109.out 1; have hfz53_2 := blk_frozen BK109.out 2; have hfz53_3 := blk_frozen BK109.out 3; have hfz53_4 := blk_frozen BK109.out 4; have hcz54_0 : w51.cell? ⟨gb102, 0, none⟩ = some (.string (⟨#[]⟩ : ByteArray)) := (blk_cell BK102.out 0).trans rfl; have hcz54_1 : w51.cell? ⟨gb102, 1, none⟩ = some (.slice none 0 0) := (blk_cell BK102.out 1).trans rfl; have hcz54_2 : w51.cell? ⟨gb102, 2, none⟩ = some (.string (⟨#[]⟩ : ByteArray)) := (blk_cell BK102.out 2).trans rfl; have hcz54_3 : w51.cell? ⟨gb102, 3, none⟩ = some (.bool false) := (blk_cell BK102.out 3).trans rfl; have hcz54_4 : w51.cell? ⟨gb102, 4, none⟩ = some (.bool false) := (blk_cell BK102.out 4).trans rfl; have hfz54_0 := blk_frozen BK102.out 0; have hfz54_1 := blk_frozen BK102.out 1; have hfz54_2 := blk_frozen BK102.out 2; have hfz54_3 := blk_frozen BK102.out 3; have hfz54_4 := blk_frozen BK102.out 4))
            refine bodyPost_ret (results_ct rfl _ _ gb102 38 #[.string ((rd_T38 ((rd_T53 l0_0 t104).f1) t106).f0), .slice Ao52 y113.length co52, .string ((rd_T38 ((rd_T53 l0_0 t104).f1) t106).f2), .bool ((rd_T38 ((rd_T53 l0_0 t104).f1) t106).f3), .bool ((rd_T38 ((rd_T53 l0_0 t104).f1) t106).f4)] (0, 0) _ rfl (by (with_reducible repeat (first | refine qkN ?_ _ | refine qkD ?_ | refine qkA ?_ _)); refine blk_put (cs := #[.string ((rd_T38 ((rd_T53 l0_0 t104).f1) t106).f0), .slice Ao52 y113.length co52, .string ((rd_T38 ((rd_T53 l0_0 t104).f1) t106).f2), .bool ((rd_T38 ((rd_T53 l0_0 t104).f1) t106).f3), .bool false]) ?_ 4 _ rfl; (with_reducible repeat (first | refine qkN ?_ _ | refine qkD ?_ | refine qkA ?_ _)); refine blk_put (cs := #[.string ((rd_T38 ((rd_T53 l0_0 t104).f1) t106).f0), .slice Ao52 y113.length co52, .string ((rd_T38 ((rd_T53 l0_0 t104).f1) t106).f2), .bool false, .bool false]) ?_ 3 _ rfl; (with_reducible repeat (first | refine qkN ?_ _ | refine qkD ?_ | refine qkA ?_ _)); refine blk_put (cs := #[.string ((rd_T38 ((rd_T53 l0_0 t104).f1) t106).f0), .slice Ao52 y113.length co52, .string (⟨#[]⟩ : ByteArray), .bool false, .bool false]) ?_ 2 _ rfl; (with_reducible repeat (first | refine qkN ?_ _ | refine qkD ?_ | refine qkA ?_ _)); refine blk_put (cs := #[.string ((rd_T38 ((rd_T53 l0_0 t104).f1) t106).f0), .slice none 0 0, .string (⟨#[]⟩ : ByteArray), .bool false, .bool false]) ?_ 1 _ rfl; (with_reducible repeat (first | refine qkN ?_ _ | refine qkD ?_ | refine qkA ?_ _)); refine blk_put (cs := #[.string (⟨#[]⟩ : ByteArray), .slice none 0 0, .string (⟨#[]⟩ : ByteArray), .bool false, .bool false]) ?_ 0 _ rfl; (with_reducible repeat (first | refine qkN ?_ _ | refine qkD ?_ | refine qkA ?_ _)); refine blk_far ?_ NB102_109.out _; (with_reducible repeat (first | refine qkN ?_ _ | refine qkD ?_ | refine qkA ?_ _)); exact BK102.out) Try.underlying38 rfl qa17) rfl ?_
            exact ⟨_, qa3, by (with_reducible repeat (first | apply Kd.R_alloc | apply Kd.R_drewN | apply Kd.R_drew)); exact Kd.R_mono (Kd.R_far (p := ⟨gb102, 4, none⟩) (Kd.R_far (p := ⟨gb102, 3, none⟩) (Kd.R_far (p := ⟨gb102, 2, none⟩) (Kd.R_far (p := ⟨gb102, 1, none⟩) (Kd.R_far (p := ⟨gb102, 0, none⟩) (Kd.R_far (p := ⟨gb109, 1, none⟩) (Kd.R_types (Kd.R_types HO115.out BK109.out (by decide)) BK102.out (by decide)) (fun _ hk => hk.1.2) (.slice Ao52 y113.length co52)) (fun _ hk => hk.2) (.string ((rd_T38 ((rd_T53 l0_0 t104).f1) t106).f0))) (fun _ hk => hk.2) (.slice Ao52 y113.length co52)) (fun _ hk => hk.2) (.string ((rd_T38 ((rd_T53 l0_0 t104).f1) t106).f2))) (fun _ hk => hk.2) (.bool ((rd_T38 ((rd_T53 l0_0 t104).f1) t106).f3))) (fun _ hk => hk.2) (.bool ((rd_T38 ((rd_T53 l0_0 t104).f1) t106).f4))) (fun _ hk => trivial), qa68⟩
           ·rw [if_neg c35] at H
            exact absurd H qa91
          ·rw [if_neg c34] at H
           exact absurd H qa91
         ·rw [if_neg c33] at H
          exact absurd H qa91
       ·rw [if_neg c22] at H
        exact absurd H qa91
      ·rw [if_neg c21] at H
       exact absurd H qa91
    ·replace c12 := Bool.eq_false_iff.mpr c12
     subst c12; have H1 : (some ((⟨#[]⟩ : ByteArray), ([] : List (S57)), (⟨#[]⟩ : ByteArray), false, false, 1)) = some (r1, r2, r3, r4, r5, r6) := by rw [if_neg (show ¬ (false = true) by decide)] at H; exact H
     clear H; have H := H1; clear H1; simp only [Option.some.injEq, Prod.mk.injEq] at H; obtain ⟨rfl, rfl, rfl, rfl, rfl, rfl⟩ := H; have hnb55 := NB101_102.out; have hnc55 := NB102_101.out; have hcz56_0 : wc.cell? ⟨gb101, 0, none⟩ = some (.slice A0_0 l0_0.length c0_0) := (blk_cell BK101.out 0).trans rfl; have hfz56_0 := blk_frozen BK101.out 0
     go_wp2_with (first | ((with_reducible refine gate_callee (f := 9) rfl ?_); refine goesL_ (some 21) rfl rfl Try.func9 qa17 rfl #[.agg #[.slice A0_0 l0_0.length c0_0]] rfl qa1 ?_; (with_reducible refine (spec_SchemaOK.calls kj3 _ _ l0_0 false _ ?side1 ?side2 A11.out).mono ?_); (case side1 => exact qa19); (case side2 => exact HC0_0.out); rintro e w57 ⟨rfl, hb⟩; have hx_ := qHX HB hb qa0; refine ⟨_, rfl, ?_⟩; have n0_ := qO (qB BK101.out hx_ hb); have n1_ := qO (qB BK102.out hx_ hb); have n2_ := qO (below_step (below_step HB.out hx_) hb); clear BK101; clear BK102; clear HB; have BK101 := n0_; have BK102 := n1_; have HB := n2_; clear n0_ n1_ n2_; clear hx_; (try clear hb); (try clear hb2); (try clear hk); (try clear hi); have hcz58_0 : w57.cell? ⟨gb102, 0, none⟩ = some (.string (⟨#[]⟩ : ByteArray)) := (blk_cell BK102.out 0).trans rfl; have hcz58_1 : w57.cell? ⟨gb102, 1, none⟩ = some (.slice none 0 0) := (blk_cell BK102.out 1).trans rfl; have hcz58_2 : w57.cell? ⟨gb102, 2, none⟩ = some (.string (⟨#[]⟩ : ByteArray)) := (blk_cell BK102.out 2).trans rfl; have hcz58_3 : w57.cell? ⟨gb102, 3, none⟩ = some (.bool false) := (blk_cell BK102.out 3).trans rfl; have hcz58_4 : w57.cell? ⟨gb102, 4, none⟩ = some (.bool false) := (blk_cell BK102.out 4).trans rfl; have hfz58_0 := blk_frozen BK102.out 0; have hfz58_1 := blk_frozen BK102.out 1; have hfz58_2 := blk_frozen BK102.out 2; have hfz58_3 := blk_frozen BK102.out 3; have hfz58_4 := blk_frozen BK102.out 4))
     refine bodyPost_ret (results_ct rfl _ _ gb102 38 #[.string (⟨#[]⟩ : ByteArray), .slice none 0 0, .string (⟨#[]⟩ : ByteArray), .bool false, .bool false] (0, 0) _ rfl qa4 Try.underlying38 rfl qa17) rfl ?_
     exact ⟨_, qa3, qa42, qa7⟩


/-- The first place at which p holds, or -1. -/
def impl_FieldDef.fp (p : (S38) → Bool) (l0 : List (S38)) : Int := match l0.findIdx? p with | some i => (i : Int) | none => -1
theorem impl_FieldDef.hit (p : (S38) → Bool) (l0 : List (S38)) (kk : Nat) (x : (S38)) (hx : l0[kk]? = some x) (hp : p x = true) (hno : ∀ j, j < kk → ∀ x, l0[j]? = some x → p x = false) : impl_FieldDef.fp p l0 = kk := by
 unfold impl_FieldDef.fp
 have h : l0.findIdx? p = some kk := by
  rw [List.findIdx?_eq_some_iff_getElem]; obtain ⟨hl, he⟩ := List.getElem?_eq_some_iff.1 hx
  exact ⟨hl, by rw [he]; exact hp, fun j hj => by rw [hno j hj _ (List.getElem?_eq_getElem (Nat.lt_trans hj hl))]; simp⟩
 rw [h]
theorem impl_FieldDef.miss (p : (S38) → Bool) (l0 : List (S38)) (hno : ∀ j, j < l0.length → ∀ x, l0[j]? = some x → p x = false) : impl_FieldDef.fp p l0 = -1 := by
 unfold impl_FieldDef.fp
 have h : l0.findIdx? p = none := by
  rw [List.findIdx?_eq_none_iff]; intro x hx; obtain ⟨j, hj⟩ := List.getElem?_of_mem hx
  exact hno j (List.getElem?_eq_some_iff.1 hj).1 x hj
 rw [h]
set_option maxHeartbeats 4000000 in
set_option maxRecDepth 100000 in
theorem impl_FieldDef.callsP (A0 : Option Addr) (c0 : Nat) (l0 : List (S38)) (g : Nat) (cb : Array Value) (p : (S38) → Bool) (w : World) (eg : ∀ args w, (callFunc g args).run Try.prog w = .ok (.enter g args) w) (hr0 : Kd.C k38 w A0 l0.length l0)
  (hp : ∀ (W : World) (x : (S38)) (E1 : Option Addr) (e1 : Nat), x ∈ l0 → Below w.heap.size w W → Calls Try.prog g (#[.agg #[.string x.f0, .slice E1 x.f1.length e1, .string x.f2, .bool x.f3, .bool x.f4]] ++ cb) W fun e w' => e = .returned (.bool (p x)) ∧ Below w.heap.size w w') :
  Calls Try.prog 62 #[.slice A0 l0.length c0, .func (.func g) #[] cb] w fun e w' => e = .returned (.int .i64 (impl_FieldDef.fp p l0)) ∧ Below w.heap.size w w' := by
 have hlen := hr0.2.1; have HR := qO hr0; have HP := qO hp; clear hr0 hp; have isagg := Try.isAgg38
 go_enter Try.func62, Try.ntmps62
 go_wp2
 go_loopg [5, 8] l0.length (fun gg _ s8 wr => ∃ kk : Nat, kk ≤ l0.length ∧ l0.length - kk ≤ gg ∧ s8 = .int .i64 kk ∧ Aside0 (Below w.heap.size w wr) ∧ Aside0 (∀ j, j < kk → ∀ x, l0[j]? = some x → p x = false))
 case atStart => exact ⟨0, Nat.zero_le _, qa27, rfl, ⟨Below.refl _ w⟩, ⟨fun j hj => absurd hj (Nat.not_lt_zero _)⟩⟩
 case round =>
  obtain ⟨kk, hkk, hg, rfl, BW, No⟩ := hrel
  by_cases hlt : kk < l0.length
  ·have hltz : (kk : Int) < (l0.length : Int) := by omega
   obtain ⟨ad, E1, e1, e, hx0, hx1, hx2, hx3, hx4, hl1, hi1⟩ := at_T38 HR.out (kk : Int) qa27 hltz
   cases e
   replace hx0 := (BW.out.cell (qL w _ hx0)).trans hx0; replace hx1 := (BW.out.cell (qL w _ hx1)).trans hx1; replace hx2 := (BW.out.cell (qL w _ hx2)).trans hx2; replace hx3 := (BW.out.cell (qL w _ hx3)).trans hx3; replace hx4 := (BW.out.cell (qL w _ hx4)).trans hx4; simp only [Int.toNat_natCast] at hx0; simp only [Int.toNat_natCast] at hx1; simp only [Int.toNat_natCast] at hx2; simp only [Int.toNat_natCast] at hx3; simp only [Int.toNat_natCast] at hx4
   have hx : l0[kk]? = some (rd_T38 l0 (kk : Int)) := by
    rw [List.getElem?_eq_getElem hlt]
    show some l0[kk] = some (l0.getD (kk : Int).toNat _)
    rw [Int.toNat_natCast, List.getD_eq_getElem?_getD, List.getElem?_eq_getElem hlt]
    rfl
   clear hl1 hi1; have hcall := HP.out wr (rd_T38 l0 (kk : Int)) E1 e1 (List.mem_of_getElem? hx) BW.out; have HX := qO hx; clear hx; generalize rd_T38 l0 (kk : Int) = x at hcall HX hx0 hx1 hx2 hx3 hx4
   cases hq : p x with
   | true =>
    have HQ := qO hq; rw [hq] at hcall; clear hq
    go_wp2_with (go_at_fn g; refine hcall.mono ?_; rintro e w' ⟨rfl, hb'⟩)
    go_ret
    exact ⟨by rw [impl_FieldDef.hit p l0 kk x HX.out HQ.out No.out]; rfl, hb'⟩
   | false =>
    have HQ := qO hq; rw [hq] at hcall; clear hq
    go_wp2_with (go_at_fn g; refine hcall.mono ?_; rintro e w' ⟨rfl, hb'⟩)
    go_roundg (l0.length - (kk + 1))
    case measure => omega
    case rel =>
     refine ⟨kk + 1, qa27, qa27, by go_num, ⟨hb'⟩, ⟨fun j hj x' hx' => ?_⟩⟩
     by_cases e : j = kk
     ·subst e
      rw [HX.out] at hx'; obtain rfl := Option.some.inj hx'
      exact HQ.out
     ·exact No.out j qa27 x' hx'
  ·have hltz : ¬ (kk : Int) < (l0.length : Int) := by omega
   have hk : kk = l0.length := by omega
   have HK := qO hk; clear hk; go_wp2
   go_ret
   exact ⟨by rw [impl_FieldDef.miss p l0 (fun j hj => No.out j (by rw [HK.out]; exact hj))]; rfl, BW.out⟩


set_option maxHeartbeats 4000000 in
set_option maxRecDepth 100000 in
theorem impl_TypeDef_fieldAt_1.callsQ (x : S38) (E1 : Option Addr) (e1 : Nat) (gs : Nat) (y0 : ByteArray) (w : World) (hs : w.heap[gs]? = some (.cells #[.string y0] 9 (0, 0))) :
  Calls Try.prog 63 #[.agg #[.string x.f0, .slice E1 x.f1.length e1, .string x.f2, .bool x.f3, .bool x.f4], .pointer (some ⟨gs, 0, none⟩)] w fun e w' => e = .returned (.bool (x.f0.toList == y0.toList)) ∧ Below w.heap.size w w' := by
 have hu := Try.underlying38; have HS := qO hs; clear hs
 go_enter Try.func63, Try.ntmps63
 go_wp2_with (first | ((with_reducible refine gate_dst (N := 2) rfl ?_); refine box_event ?hg (N := 2) ?hd (cs := #[.string x.f0, .slice E1 x.f1.length e1, .string x.f2, .bool x.f3, .bool x.f4]) (t := 38) ?hr ?_; (case hd => rfl); (case hg => rfl); (case hr => exact qa18); intro gb hg w1 hbox hb; have K1 := qO (blk_below (g := gs) HS.out hb); have B1 := qO hb; have hcz0 : w1.cell? ⟨gb, 0, none⟩ = some (.string x.f0) := (blk_cell hbox 0).trans rfl; have hcz1 : w1.cell? ⟨gb, 1, none⟩ = some (.slice E1 x.f1.length e1) := (blk_cell hbox 1).trans rfl; have hcz2 : w1.cell? ⟨gb, 2, none⟩ = some (.string x.f2) := (blk_cell hbox 2).trans rfl; have hcz3 : w1.cell? ⟨gb, 3, none⟩ = some (.bool x.f3) := (blk_cell hbox 3).trans rfl; have hcz4 : w1.cell? ⟨gb, 4, none⟩ = some (.bool x.f4) := (blk_cell hbox 4).trans rfl; have hcw0 : w1.cell? ⟨gs, 0, none⟩ = some (.string y0) := (blk_cell K1.out 0).trans rfl; clear hg hb hbox))
 go_ret
 exact ⟨rfl, B1.out⟩
def clo62_63.f (l0 : List (S38)) (a1_0 : ByteArray) : Option Int := some (impl_FieldDef.fp (fun x => (x.f0.toList == a1_0.toList)) l0)
theorem clo62_63.calls (A0 : Option Addr) (c0 : Nat) (l0 : List (S38)) (a1_0 : ByteArray) (r : Int) (w : World) (hr0 : Kd.C k38 w A0 l0.length l0) (hc0 : l0.length ≤ c0) (h : clo62_63.f l0 a1_0 = some r) (gs : Nat) (hs : w.heap[gs]? = some (.cells #[.string a1_0] 9 (0, 0))) :
  Calls Try.prog 62 #[.slice A0 l0.length c0, .func (.func 63) #[] #[.pointer (some ⟨gs, 0, none⟩)]] w fun e w' => e = .returned (.int .i64 r) ∧ Below w.heap.size w w' := by
 obtain rfl := Option.some.inj h; have eg : ∀ args w, (callFunc 63 args).run Try.prog w = .ok (.enter 63 args) w := enters_of Try.func63 qa17 rfl
 exact impl_FieldDef.callsP A0 c0 l0 63 #[.pointer (some ⟨gs, 0, none⟩)] (fun x => (x.f0.toList == a1_0.toList)) w eg hr0 (fun W x E1 e1 _ hb => (impl_TypeDef_fieldAt_1.callsQ x E1 e1 gs a1_0 W (blk_below hs hb)).mono qa110)
def impl_TypeDef_fieldAt.f (a0_0 : ByteArray) (l0_1 : List (S38)) (a1 : ByteArray) : Option (Int) := (clo62_63.f l0_1 a1).bind fun t103 => (some t103)
set_option maxHeartbeats 8000000 in
set_option maxRecDepth 100000 in
theorem impl_TypeDef_fieldAt.calls (a0_0 : ByteArray) (A0_1 : Option Addr) (c0_1 : Nat) (l0_1 : List (S38)) (a1 : ByteArray) (r : Int) (w : World) (hr0_1 : Kd.C k38 w A0_1 l0_1.length l0_1) (hc0_1 : l0_1.length ≤ c0_1) (h : impl_TypeDef_fieldAt.f a0_0 l0_1 a1 = some r) :
  Calls Try.prog 37 #[.agg #[.string a0_0, .slice A0_1 l0_1.length c0_1], .string a1] w fun e w' => e = .returned (.int .i64 r) ∧ Below w.heap.size w w' := by
 have hu53 := Try.underlying53; have hu9 := Try.underlying9; have HR0_1 := qO hr0_1; have HC0_1 := qO hc0_1; clear hr0_1 hc0_1; have HB := qO (Below.refl w.heap.size w); have H : ((clo62_63.f l0_1 a1).bind fun t103 => (some t103)) = some r := h; clear h; replace H := Option.bind_eq_some_iff.mp H; obtain ⟨t103, A30, H⟩ := H; replace H : (some t103) = some r := H; have A3 := qO A30; clear A30; obtain rfl := Option.some.inj H
 go_enter Try.func37, Try.ntmps37
 go_wp2_with (first | ((with_reducible refine gate_dst (N := 2) rfl ?_); refine box_event ?hg (N := 2) ?hd (cs := #[.string a0_0, .slice A0_1 l0_1.length c0_1]) (t := 53) ?hr ?_; (case hd => rfl); (case hg => rfl); (case hr => exact qa18); intro gb101 hg w4 hbox hb; have hx_ := qHX HB hb qa0; have n0_ := qO (below_step (below_step HB.out hx_) hb); have n1_ := qO (hbox); have n2_ := qO ((qa15 : w.heap.size ≤ gb101)); have n3_ := n2_; clear HB; have HB := n0_; have BK101 := n1_; have GW101 := n2_; have GE101 := n3_; clear n0_ n1_ n2_ n3_; clear hx_; clear hb hbox hg) | ((with_reducible refine gate_dst (N := 3) rfl ?_); refine box_event ?hg (N := 3) ?hd (cs := #[.string a1]) (t := 9) ?hr ?_; (case hd => rfl); (case hg => rfl); (case hr => exact qa18); intro gb102 hg w5 hbox hb; have hx_ := qHX HB hb qa0; have n0_ := qO (qB BK101.out hx_ hb); have n1_ := qO (below_step (below_step HB.out hx_) hb); have n2_ := qO (hbox); have n3_ := qO ((qa15 : w.heap.size ≤ gb102)); have n4_ := n3_; have n5_ := qO ((qa46 : gb101 ≠ gb102)); have n6_ := qO (Ne.symm n5_.out); clear BK101; clear HB; have BK101 := n0_; have HB := n1_; have BK102 := n2_; have GW102 := n3_; have GE102 := n4_; have NB101_102 := n5_; have NB102_101 := n6_; clear n0_ n1_ n2_ n3_ n4_ n5_ n6_; clear hx_; clear hb hbox hg; have hnb6 := NB101_102.out; have hnc6 := NB102_101.out; have hcz7_0 : w5.cell? ⟨gb101, 0, none⟩ = some (.string a0_0) := (blk_cell BK101.out 0).trans rfl; have hcz7_1 : w5.cell? ⟨gb101, 1, none⟩ = some (.slice A0_1 l0_1.length c0_1) := (blk_cell BK101.out 1).trans rfl; have hfz7_0 := blk_frozen BK101.out 0; have hfz7_1 := blk_frozen BK101.out 1; have hcz8_0 : w5.cell? ⟨gb102, 0, none⟩ = some (.string a1) := (blk_cell BK102.out 0).trans rfl; have hfz8_0 := blk_frozen BK102.out 0) | ((with_reducible refine gate_callee (f := 62) rfl ?_); refine goesL_ (some 8) rfl rfl Try.func62 qa17 rfl #[.slice A0_1 l0_1.length c0_1, .func (.func 63) #[] #[.pointer (some ⟨gb102, 0, none⟩)]] rfl qa1 ?_; (with_reducible refine (clo62_63.calls _ _ l0_1 a1 t103 _ ?side1 ?side2 A3.out gb102 qa31).mono ?_); (case side1 => exact qa25); (case side2 => exact HC0_1.out); rintro e w9 ⟨rfl, hb⟩; have hx_ := qHX HB hb qa0; refine ⟨_, rfl, ?_⟩; have n0_ := qO (qB BK101.out hx_ hb); have n1_ := qO (qB BK102.out hx_ hb); have n2_ := qO (below_step (below_step HB.out hx_) hb); clear BK101; clear BK102; clear HB; have BK101 := n0_; have BK102 := n1_; have HB := n2_; clear n0_ n1_ n2_; clear hx_; (try clear hb); (try clear hb2); (try clear hk); (try clear hi)))
 go_ret
 exact ⟨qa3, qa7⟩


/-- The first place at which p holds, or -1. -/
def slices_IndexFunc_string_string.fp (p : ByteArray → Bool) (l0 : List ByteArray) : Int := match l0.findIdx? p with | some i => (i : Int) | none => -1
theorem slices_IndexFunc_string_string.hit (p : ByteArray → Bool) (l0 : List ByteArray) (kk : Nat) (x : ByteArray) (hx : l0[kk]? = some x) (hp : p x = true) (hno : ∀ j, j < kk → ∀ x, l0[j]? = some x → p x = false) : slices_IndexFunc_string_string.fp p l0 = kk := by
 unfold slices_IndexFunc_string_string.fp
 have h : l0.findIdx? p = some kk := by
  rw [List.findIdx?_eq_some_iff_getElem]; obtain ⟨hl, he⟩ := List.getElem?_eq_some_iff.1 hx
  exact ⟨hl, by rw [he]; exact hp, fun j hj => by rw [hno j hj _ (List.getElem?_eq_getElem (Nat.lt_trans hj hl))]; simp⟩
 rw [h]
theorem slices_IndexFunc_string_string.miss (p : ByteArray → Bool) (l0 : List ByteArray) (hno : ∀ j, j < l0.length → ∀ x, l0[j]? = some x → p x = false) : slices_IndexFunc_string_string.fp p l0 = -1 := by
 unfold slices_IndexFunc_string_string.fp
 have h : l0.findIdx? p = none := by
  rw [List.findIdx?_eq_none_iff]; intro x hx; obtain ⟨j, hj⟩ := List.getElem?_of_mem hx
  exact hno j (List.getElem?_eq_some_iff.1 hj).1 x hj
 rw [h]
set_option maxHeartbeats 4000000 in
set_option maxRecDepth 100000 in
theorem slices_IndexFunc_string_string.callsP (A0 : Option Addr) (c0 : Nat) (l0 : List ByteArray) (g : Nat) (cb : Array Value) (p : ByteArray → Bool) (w : World) (eg : ∀ args w, (callFunc g args).run Try.prog w = .ok (.enter g args) w) (hr0 : Kd.C Kd.string w A0 l0.length l0)
  (hp : ∀ (W : World) (x : ByteArray), x ∈ l0 → Below w.heap.size w W → Calls Try.prog g (#[.string x] ++ cb) W fun e w' => e = .returned (.bool (p x)) ∧ Below w.heap.size w w') :
  Calls Try.prog 81 #[.slice A0 l0.length c0, .func (.func g) #[] cb] w fun e w' => e = .returned (.int .i64 (slices_IndexFunc_string_string.fp p l0)) ∧ Below w.heap.size w w' := by
 have hlen := hr0.2.1; have HR := qO hr0; have HP := qO hp; clear hr0 hp; have isagg := Try.isAgg9
 go_enter Try.func81, Try.ntmps81
 go_wp2
 go_loopg [5, 8] l0.length (fun gg _ s8 wr => ∃ kk : Nat, kk ≤ l0.length ∧ l0.length - kk ≤ gg ∧ s8 = .int .i64 kk ∧ Aside0 (Below w.heap.size w wr) ∧ Aside0 (∀ j, j < kk → ∀ x, l0[j]? = some x → p x = false))
 case atStart => exact ⟨0, Nat.zero_le _, qa27, rfl, ⟨Below.refl _ w⟩, ⟨fun j hj => absurd hj (Nat.not_lt_zero _)⟩⟩
 case round =>
  obtain ⟨kk, hkk, hg, rfl, BW, No⟩ := hrel
  by_cases hlt : kk < l0.length
  ·have hltz : (kk : Int) < (l0.length : Int) := by omega
   obtain ⟨ad, e, hx0⟩ := Kd.at_string HR.out (kk : Int) qa27 hltz
   cases e
   replace hx0 := (BW.out.cell (qL w _ hx0)).trans hx0; simp only [Int.toNat_natCast] at hx0
   have hx : l0[kk]? = some (rdOf ByteArray.empty l0 (kk : Int)) := by
    rw [List.getElem?_eq_getElem hlt]
    show some l0[kk] = some (l0.getD (kk : Int).toNat _)
    rw [Int.toNat_natCast, List.getD_eq_getElem?_getD, List.getElem?_eq_getElem hlt]
    rfl
   skip
   have hcall := HP.out wr (rdOf ByteArray.empty l0 (kk : Int)) (List.mem_of_getElem? hx) BW.out; have HX := qO hx; clear hx; generalize rdOf ByteArray.empty l0 (kk : Int) = x at hcall HX hx0
   cases hq : p x with
   | true =>
    have HQ := qO hq; rw [hq] at hcall; clear hq
    go_wp2_with (go_at_fn g; refine hcall.mono ?_; rintro e w' ⟨rfl, hb'⟩)
    go_ret
    exact ⟨by rw [slices_IndexFunc_string_string.hit p l0 kk x HX.out HQ.out No.out]; rfl, hb'⟩
   | false =>
    have HQ := qO hq; rw [hq] at hcall; clear hq
    go_wp2_with (go_at_fn g; refine hcall.mono ?_; rintro e w' ⟨rfl, hb'⟩)
    go_roundg (l0.length - (kk + 1))
    case measure => omega
    case rel =>
     refine ⟨kk + 1, qa27, qa27, by go_num, ⟨hb'⟩, ⟨fun j hj x' hx' => ?_⟩⟩
     by_cases e : j = kk
     ·subst e
      rw [HX.out] at hx'; obtain rfl := Option.some.inj hx'
      exact HQ.out
     ·exact No.out j qa27 x' hx'
  ·have hltz : ¬ (kk : Int) < (l0.length : Int) := by omega
   have hk : kk = l0.length := by omega
   have HK := qO hk; clear hk; go_wp2
   go_ret
   exact ⟨by rw [slices_IndexFunc_string_string.miss p l0 (fun j hj => No.out j (by rw [HK.out]; exact hj))]; rfl, BW.out⟩


set_option maxHeartbeats 4000000 in
set_option maxRecDepth 100000 in
theorem slices_ContainsFunc_string_string.callsP (A0 : Option Addr) (c0 : Nat) (l0 : List ByteArray) (g : Nat) (cb : Array Value) (p : ByteArray → Bool) (w : World) (eg : ∀ args w, (callFunc g args).run Try.prog w = .ok (.enter g args) w) (hr0 : Kd.C Kd.string w A0 l0.length l0)
  (hp : ∀ (W : World) (x : ByteArray), x ∈ l0 → Below w.heap.size w W → Calls Try.prog g (#[.string x] ++ cb) W fun e w' => e = .returned (.bool (p x)) ∧ Below w.heap.size w w') :
  Calls Try.prog 65 #[.slice A0 l0.length c0, .func (.func g) #[] cb] w fun e w' => e = .returned (.bool (l0.any p)) ∧ Below w.heap.size w w' := by
 have hc := slices_IndexFunc_string_string.callsP A0 c0 l0 g cb p w eg hr0 hp
 have hany : decide (0 ≤ slices_IndexFunc_string_string.fp p l0) = l0.any p := by
  unfold slices_IndexFunc_string_string.fp
  cases hf : l0.findIdx? p with
  | none =>
   have h := List.findIdx?_eq_none_iff.1 hf
   have h2 : l0.any p = false := by
    rw [List.any_eq_false]; intro x hx; rw [h x hx]
    simp
   rw [h2]
   rfl
  | some i =>
   obtain ⟨hl, hi, _⟩ := List.findIdx?_eq_some_iff_getElem.1 hf; have h2 : l0.any p = true := List.any_eq_true.2 ⟨l0[i], List.getElem_mem hl, hi⟩; rw [h2]
   simp
 have HA := qO hany; clear hany hp; generalize slices_IndexFunc_string_string.fp p l0 = q at hc HA
 go_enter Try.func65, Try.ntmps65
 go_wp2_with (go_at_call 81; refine hc.mono ?_; rintro e w' ⟨rfl, hb'⟩)
 go_ret
 exact ⟨by rw [← HA.out]; rfl, hb'⟩


def impl_isText_1.f (a0 : ByteArray) : Option (Bool) := some (decide ((a0.size : Int) > 65536))
set_option maxHeartbeats 8000000 in
set_option maxRecDepth 100000 in
theorem impl_isText_1.calls (a0 : ByteArray) (r : Bool) (w : World) (h : impl_isText_1.f a0 = some r) :
  Calls Try.prog 66 #[.string a0] w fun e w' => e = .returned (.bool r) ∧ Drawn0 w w' := by
 have H : (some (decide ((a0.size : Int) > 65536))) = some r := h; clear h; obtain rfl := Option.some.inj H
 go_enter Try.func66, Try.ntmps66
 go_wp2
 go_ret
 exact ⟨qa11, qa26⟩


def impl_isText.p (x : ByteArray) : Bool := decide ((x.size : Int) > 65536)
theorem impl_isText.pe (x : ByteArray) : impl_isText_1.f x = some (impl_isText.p x) := rfl
def impl_isText.f (l0 : List ByteArray) : Option Bool := some (!(l0.any impl_isText.p))
set_option maxHeartbeats 4000000 in
set_option maxRecDepth 100000 in
theorem impl_isText.calls (A0 : Option Addr) (c0 : Nat) (l0 : List ByteArray) (r : Bool) (w : World) (hr0 : Kd.C Kd.string w A0 l0.length l0) (hc0 : l0.length ≤ c0) (h : impl_isText.f l0 = some r) :
  Calls Try.prog 39 #[.slice A0 l0.length c0] w fun e w' => e = .returned (.bool r) ∧ Below w.heap.size w w' := by
 unfold impl_isText.f at h
 have eg : ∀ args w, (callFunc 66 args).run Try.prog w = .ok (.enter 66 args) w := enters_of Try.func66 qa17 rfl; have hcon := slices_ContainsFunc_string_string.callsP A0 c0 l0 66 #[] impl_isText.p w eg hr0 (fun W x _ hb => (impl_isText_1.calls x (impl_isText.p x) W (impl_isText.pe x)).mono (by rintro e w' ⟨rfl, h2⟩; exact ⟨rfl, below_step hb h2.below⟩)); clear hr0 hc0 eg; generalize l0.any impl_isText.p = q at h hcon; obtain rfl := Option.some.inj h; clear h
 go_enter Try.func39, Try.ntmps39
 go_wp2_with (go_at_call 65; refine hcon.mono ?_; rintro e w' ⟨rfl, hb'⟩)
 go_ret
 exact ⟨rfl, hb'⟩


/-- The first place at which p holds, or -1. -/
def impl_TypeDef.fp (p : (S53) → Bool) (l0 : List (S53)) : Int := match l0.findIdx? p with | some i => (i : Int) | none => -1
theorem impl_TypeDef.hit (p : (S53) → Bool) (l0 : List (S53)) (kk : Nat) (x : (S53)) (hx : l0[kk]? = some x) (hp : p x = true) (hno : ∀ j, j < kk → ∀ x, l0[j]? = some x → p x = false) : impl_TypeDef.fp p l0 = kk := by
 unfold impl_TypeDef.fp
 have h : l0.findIdx? p = some kk := by
  rw [List.findIdx?_eq_some_iff_getElem]; obtain ⟨hl, he⟩ := List.getElem?_eq_some_iff.1 hx
  exact ⟨hl, by rw [he]; exact hp, fun j hj => by rw [hno j hj _ (List.getElem?_eq_getElem (Nat.lt_trans hj hl))]; simp⟩
 rw [h]
theorem impl_TypeDef.miss (p : (S53) → Bool) (l0 : List (S53)) (hno : ∀ j, j < l0.length → ∀ x, l0[j]? = some x → p x = false) : impl_TypeDef.fp p l0 = -1 := by
 unfold impl_TypeDef.fp
 have h : l0.findIdx? p = none := by
  rw [List.findIdx?_eq_none_iff]; intro x hx; obtain ⟨j, hj⟩ := List.getElem?_of_mem hx
  exact hno j (List.getElem?_eq_some_iff.1 hj).1 x hj
 rw [h]
set_option maxHeartbeats 4000000 in
set_option maxRecDepth 100000 in
theorem impl_TypeDef.callsP (A0 : Option Addr) (c0 : Nat) (l0 : List (S53)) (g : Nat) (cb : Array Value) (p : (S53) → Bool) (w : World) (eg : ∀ args w, (callFunc g args).run Try.prog w = .ok (.enter g args) w) (hr0 : Kd.C k53 w A0 l0.length l0)
  (hp : ∀ (W : World) (x : (S53)) (E1 : Option Addr) (e1 : Nat), x ∈ l0 → Below w.heap.size w W → Calls Try.prog g (#[.agg #[.string x.f0, .slice E1 x.f1.length e1]] ++ cb) W fun e w' => e = .returned (.bool (p x)) ∧ Below w.heap.size w w') :
  Calls Try.prog 57 #[.slice A0 l0.length c0, .func (.func g) #[] cb] w fun e w' => e = .returned (.int .i64 (impl_TypeDef.fp p l0)) ∧ Below w.heap.size w w' := by
 have hlen := hr0.2.1; have HR := qO hr0; have HP := qO hp; clear hr0 hp; have isagg := Try.isAgg53
 go_enter Try.func57, Try.ntmps57
 go_wp2
 go_loopg [5, 8] l0.length (fun gg _ s8 wr => ∃ kk : Nat, kk ≤ l0.length ∧ l0.length - kk ≤ gg ∧ s8 = .int .i64 kk ∧ Aside0 (Below w.heap.size w wr) ∧ Aside0 (∀ j, j < kk → ∀ x, l0[j]? = some x → p x = false))
 case atStart => exact ⟨0, Nat.zero_le _, qa27, rfl, ⟨Below.refl _ w⟩, ⟨fun j hj => absurd hj (Nat.not_lt_zero _)⟩⟩
 case round =>
  obtain ⟨kk, hkk, hg, rfl, BW, No⟩ := hrel
  by_cases hlt : kk < l0.length
  ·have hltz : (kk : Int) < (l0.length : Int) := by omega
   obtain ⟨ad, E1, e1, e, hx0, hx1, hl1, hi1⟩ := at_T53 HR.out (kk : Int) qa27 hltz
   cases e
   replace hx0 := (BW.out.cell (qL w _ hx0)).trans hx0; replace hx1 := (BW.out.cell (qL w _ hx1)).trans hx1; simp only [Int.toNat_natCast] at hx0; simp only [Int.toNat_natCast] at hx1
   have hx : l0[kk]? = some (rd_T53 l0 (kk : Int)) := by
    rw [List.getElem?_eq_getElem hlt]
    show some l0[kk] = some (l0.getD (kk : Int).toNat _)
    rw [Int.toNat_natCast, List.getD_eq_getElem?_getD, List.getElem?_eq_getElem hlt]
    rfl
   clear hl1 hi1; have hcall := HP.out wr (rd_T53 l0 (kk : Int)) E1 e1 (List.mem_of_getElem? hx) BW.out; have HX := qO hx; clear hx; generalize rd_T53 l0 (kk : Int) = x at hcall HX hx0 hx1
   cases hq : p x with
   | true =>
    have HQ := qO hq; rw [hq] at hcall; clear hq
    go_wp2_with (go_at_fn g; refine hcall.mono ?_; rintro e w' ⟨rfl, hb'⟩)
    go_ret
    exact ⟨by rw [impl_TypeDef.hit p l0 kk x HX.out HQ.out No.out]; rfl, hb'⟩
   | false =>
    have HQ := qO hq; rw [hq] at hcall; clear hq
    go_wp2_with (go_at_fn g; refine hcall.mono ?_; rintro e w' ⟨rfl, hb'⟩)
    go_roundg (l0.length - (kk + 1))
    case measure => omega
    case rel =>
     refine ⟨kk + 1, qa27, qa27, by go_num, ⟨hb'⟩, ⟨fun j hj x' hx' => ?_⟩⟩
     by_cases e : j = kk
     ·subst e
      rw [HX.out] at hx'; obtain rfl := Option.some.inj hx'
      exact HQ.out
     ·exact No.out j qa27 x' hx'
  ·have hltz : ¬ (kk : Int) < (l0.length : Int) := by omega
   have hk : kk = l0.length := by omega
   have HK := qO hk; clear hk; go_wp2
   go_ret
   exact ⟨by rw [impl_TypeDef.miss p l0 (fun j hj => No.out j (by rw [HK.out]; exact hj))]; rfl, BW.out⟩


set_option maxHeartbeats 4000000 in
set_option maxRecDepth 100000 in
theorem impl_Schema_typeAt_1.callsQ (x : S53) (E1 : Option Addr) (e1 : Nat) (gs : Nat) (y0 : ByteArray) (w : World) (hs : w.heap[gs]? = some (.cells #[.string y0] 9 (0, 0))) :
  Calls Try.prog 58 #[.agg #[.string x.f0, .slice E1 x.f1.length e1], .pointer (some ⟨gs, 0, none⟩)] w fun e w' => e = .returned (.bool (x.f0.toList == y0.toList)) ∧ Below w.heap.size w w' := by
 have hu := Try.underlying53; have HS := qO hs; clear hs
 go_enter Try.func58, Try.ntmps58
 go_wp2_with (first | ((with_reducible refine gate_dst (N := 2) rfl ?_); refine box_event ?hg (N := 2) ?hd (cs := #[.string x.f0, .slice E1 x.f1.length e1]) (t := 53) ?hr ?_; (case hd => rfl); (case hg => rfl); (case hr => exact qa18); intro gb hg w1 hbox hb; have K1 := qO (blk_below (g := gs) HS.out hb); have B1 := qO hb; have hcz0 : w1.cell? ⟨gb, 0, none⟩ = some (.string x.f0) := (blk_cell hbox 0).trans rfl; have hcz1 : w1.cell? ⟨gb, 1, none⟩ = some (.slice E1 x.f1.length e1) := (blk_cell hbox 1).trans rfl; have hcw0 : w1.cell? ⟨gs, 0, none⟩ = some (.string y0) := (blk_cell K1.out 0).trans rfl; clear hg hb hbox))
 go_ret
 exact ⟨rfl, B1.out⟩
def clo57_58.f (l0 : List (S53)) (a1_0 : ByteArray) : Option Int := some (impl_TypeDef.fp (fun x => (x.f0.toList == a1_0.toList)) l0)
theorem clo57_58.calls (A0 : Option Addr) (c0 : Nat) (l0 : List (S53)) (a1_0 : ByteArray) (r : Int) (w : World) (hr0 : Kd.C k53 w A0 l0.length l0) (hc0 : l0.length ≤ c0) (h : clo57_58.f l0 a1_0 = some r) (gs : Nat) (hs : w.heap[gs]? = some (.cells #[.string a1_0] 9 (0, 0))) :
  Calls Try.prog 57 #[.slice A0 l0.length c0, .func (.func 58) #[] #[.pointer (some ⟨gs, 0, none⟩)]] w fun e w' => e = .returned (.int .i64 r) ∧ Below w.heap.size w w' := by
 obtain rfl := Option.some.inj h; have eg : ∀ args w, (callFunc 58 args).run Try.prog w = .ok (.enter 58 args) w := enters_of Try.func58 qa17 rfl
 exact impl_TypeDef.callsP A0 c0 l0 58 #[.pointer (some ⟨gs, 0, none⟩)] (fun x => (x.f0.toList == a1_0.toList)) w eg hr0 (fun W x E1 e1 _ hb => (impl_Schema_typeAt_1.callsQ x E1 e1 gs a1_0 W (blk_below hs hb)).mono qa110)
def impl_Schema_typeAt.f (l0_0 : List (S53)) (a1 : ByteArray) : Option (Int) := (clo57_58.f l0_0 a1).bind fun t103 => (some t103)
set_option maxHeartbeats 8000000 in
set_option maxRecDepth 100000 in
theorem impl_Schema_typeAt.calls (A0_0 : Option Addr) (c0_0 : Nat) (l0_0 : List (S53)) (a1 : ByteArray) (r : Int) (w : World) (hr0_0 : Kd.C k53 w A0_0 l0_0.length l0_0) (hc0_0 : l0_0.length ≤ c0_0) (h : impl_Schema_typeAt.f l0_0 a1 = some r) :
  Calls Try.prog 34 #[.agg #[.slice A0_0 l0_0.length c0_0], .string a1] w fun e w' => e = .returned (.int .i64 r) ∧ Below w.heap.size w w' := by
 have hu29 := Try.underlying29; have hu9 := Try.underlying9; have HR0_0 := qO hr0_0; have HC0_0 := qO hc0_0; clear hr0_0 hc0_0; have HB := qO (Below.refl w.heap.size w); have H : ((clo57_58.f l0_0 a1).bind fun t103 => (some t103)) = some r := h; clear h; replace H := Option.bind_eq_some_iff.mp H; obtain ⟨t103, A30, H⟩ := H; replace H : (some t103) = some r := H; have A3 := qO A30; clear A30; obtain rfl := Option.some.inj H
 go_enter Try.func34, Try.ntmps34
 go_wp2_with (first | ((with_reducible refine gate_dst (N := 2) rfl ?_); refine box_event ?hg (N := 2) ?hd (cs := #[.slice A0_0 l0_0.length c0_0]) (t := 29) ?hr ?_; (case hd => rfl); (case hg => rfl); (case hr => exact qa18); intro gb101 hg w4 hbox hb; have hx_ := qHX HB hb qa0; have n0_ := qO (below_step (below_step HB.out hx_) hb); have n1_ := qO (hbox); have n2_ := qO ((qa15 : w.heap.size ≤ gb101)); have n3_ := n2_; clear HB; have HB := n0_; have BK101 := n1_; have GW101 := n2_; have GE101 := n3_; clear n0_ n1_ n2_ n3_; clear hx_; clear hb hbox hg) | ((with_reducible refine gate_dst (N := 3) rfl ?_); refine box_event ?hg (N := 3) ?hd (cs := #[.string a1]) (t := 9) ?hr ?_; (case hd => rfl); (case hg => rfl); (case hr => exact qa18); intro gb102 hg w5 hbox hb; have hx_ := qHX HB hb qa0; have n0_ := qO (qB BK101.out hx_ hb); have n1_ := qO (below_step (below_step HB.out hx_) hb); have n2_ := qO (hbox); have n3_ := qO ((qa15 : w.heap.size ≤ gb102)); have n4_ := n3_; have n5_ := qO ((qa24 : gb101 ≠ gb102)); have n6_ := qO (Ne.symm n5_.out); clear BK101; clear HB; have BK101 := n0_; have HB := n1_; have BK102 := n2_; have GW102 := n3_; have GE102 := n4_; have NB101_102 := n5_; have NB102_101 := n6_; clear n0_ n1_ n2_ n3_ n4_ n5_ n6_; clear hx_; clear hb hbox hg; have hnb6 := NB101_102.out; have hnc6 := NB102_101.out; have hcz7_0 : w5.cell? ⟨gb101, 0, none⟩ = some (.slice A0_0 l0_0.length c0_0) := (blk_cell BK101.out 0).trans rfl; have hfz7_0 := blk_frozen BK101.out 0; have hcz8_0 : w5.cell? ⟨gb102, 0, none⟩ = some (.string a1) := (blk_cell BK102.out 0).trans rfl; have hfz8_0 := blk_frozen BK102.out 0) | ((with_reducible refine gate_callee (f := 57) rfl ?_); refine goesL_ (some 8) rfl rfl Try.func57 qa17 rfl #[.slice A0_0 l0_0.length c0_0, .func (.func 58) #[] #[.pointer (some ⟨gb102, 0, none⟩)]] rfl qa1 ?_; (with_reducible refine (clo57_58.calls _ _ l0_0 a1 t103 _ ?side1 ?side2 A3.out gb102 qa31).mono ?_); (case side1 => exact qa19); (case side2 => exact HC0_0.out); rintro e w9 ⟨rfl, hb⟩; have hx_ := qHX HB hb qa0; refine ⟨_, rfl, ?_⟩; have n0_ := qO (qB BK101.out hx_ hb); have n1_ := qO (qB BK102.out hx_ hb); have n2_ := qO (below_step (below_step HB.out hx_) hb); clear BK101; clear BK102; clear HB; have BK101 := n0_; have BK102 := n1_; have HB := n2_; clear n0_ n1_ n2_; clear hx_; (try clear hb); (try clear hb2); (try clear hk); (try clear hi)))
 go_ret
 exact ⟨qa3, qa7⟩


def impl_within.f (a0 : Int) (a1 : Int) (a2 : Int) : Option (Bool) := if a0 ≥ a1 then (some (decide (a0 ≤ a2))) else (some false)
set_option maxHeartbeats 8000000 in
set_option maxRecDepth 100000 in
theorem impl_within.calls (a0 : Int) (a1 : Int) (a2 : Int) (r : Bool) (w : World) (h : impl_within.f a0 a1 a2 = some r) :
  Calls Try.prog 33 #[.int .i64 a0, .int .i64 a1, .int .i64 a2] w fun e w' => e = .returned (.bool r) ∧ Drawn0 w w' := by
 have H : (if a0 ≥ a1 then (some (decide (a0 ≤ a2))) else (some false)) = some r := h; clear h
 by_cases c4 : a0 ≥ a1
 ·rw [if_pos c4] at H
  have c4b0 : decide (a1 ≤ a0) = true := decide_eq_true c4; clear c4; obtain rfl := Option.some.inj H
  go_enter Try.func33, Try.ntmps33
  go_wp2
  go_ret
  exact ⟨qa11, qa26⟩
 ·rw [if_neg c4] at H
  have c4b0 : decide (a1 ≤ a0) = false := decide_eq_false c4; clear c4; obtain rfl := Option.some.inj H
  go_enter Try.func33, Try.ntmps33
  go_wp2
  go_ret
  exact ⟨qa11, qa26⟩


def impl_isLetter.f (a0 : Int) : Option (Bool) := if a0 ≥ 97 then (if a0 ≤ 122 then (some true) else (if a0 ≥ 65 then (if a0 ≤ 90 then (some true) else (some (a0 == 95))) else (some (a0 == 95)))) else (if a0 ≥ 65 then (if a0 ≤ 90 then (some true) else (some (a0 == 95))) else (some (a0 == 95)))
set_option maxHeartbeats 8000000 in
set_option maxRecDepth 100000 in
theorem impl_isLetter.calls (a0 : Int) (r : Bool) (w : World) (h : impl_isLetter.f a0 = some r) :
  Calls Try.prog 59 #[.int .u8 a0] w fun e w' => e = .returned (.bool r) ∧ Drawn0 w w' := by
 have H : (if a0 ≥ 97 then (if a0 ≤ 122 then (some true) else (if a0 ≥ 65 then (if a0 ≤ 90 then (some true) else (some (a0 == 95))) else (some (a0 == 95)))) else (if a0 ≥ 65 then (if a0 ≤ 90 then (some true) else (some (a0 == 95))) else (some (a0 == 95)))) = some r := h; clear h
 by_cases c2 : a0 ≥ 97
 ·rw [if_pos c2] at H
  have c2b0 : decide (97 ≤ a0) = true := decide_eq_true c2; clear c2
  by_cases c3 : a0 ≤ 122
  ·rw [if_pos c3] at H
   have c3b0 : decide (a0 ≤ 122) = true := decide_eq_true c3; clear c3; obtain rfl := Option.some.inj H
   go_enter Try.func59, Try.ntmps59
   go_wp2
   go_ret
   exact ⟨qa11, qa26⟩
  ·rw [if_neg c3] at H
   have c3b0 : decide (a0 ≤ 122) = false := decide_eq_false c3; clear c3
   by_cases c4 : a0 ≥ 65
   ·rw [if_pos c4] at H
    have c4b0 : decide (65 ≤ a0) = true := decide_eq_true c4; clear c4
    by_cases c5 : a0 ≤ 90
    ·rw [if_pos c5] at H
     have c5b0 : decide (a0 ≤ 90) = true := decide_eq_true c5; clear c5; obtain rfl := Option.some.inj H
     go_enter Try.func59, Try.ntmps59
     go_wp2
     go_ret
     exact ⟨qa11, qa26⟩
    ·rw [if_neg c5] at H
     have c5b0 : decide (a0 ≤ 90) = false := decide_eq_false c5; clear c5; obtain rfl := Option.some.inj H
     go_enter Try.func59, Try.ntmps59
     go_wp2
     go_ret
     exact ⟨qa11, qa26⟩
   ·rw [if_neg c4] at H
    have c4b0 : decide (65 ≤ a0) = false := decide_eq_false c4; clear c4; obtain rfl := Option.some.inj H
    go_enter Try.func59, Try.ntmps59
    go_wp2
    go_ret
    exact ⟨qa11, qa26⟩
 ·rw [if_neg c2] at H
  have c2b0 : decide (97 ≤ a0) = false := decide_eq_false c2; clear c2
  by_cases c6 : a0 ≥ 65
  ·rw [if_pos c6] at H
   have c6b0 : decide (65 ≤ a0) = true := decide_eq_true c6; clear c6
   by_cases c7 : a0 ≤ 90
   ·rw [if_pos c7] at H
    have c7b0 : decide (a0 ≤ 90) = true := decide_eq_true c7; clear c7; obtain rfl := Option.some.inj H
    go_enter Try.func59, Try.ntmps59
    go_wp2
    go_ret
    exact ⟨qa11, qa26⟩
   ·rw [if_neg c7] at H
    have c7b0 : decide (a0 ≤ 90) = false := decide_eq_false c7; clear c7; obtain rfl := Option.some.inj H
    go_enter Try.func59, Try.ntmps59
    go_wp2
    go_ret
    exact ⟨qa11, qa26⟩
  ·rw [if_neg c6] at H
   have c6b0 : decide (65 ≤ a0) = false := decide_eq_false c6; clear c6; obtain rfl := Option.some.inj H
   go_enter Try.func59, Try.ntmps59
   go_wp2
   go_ret
   exact ⟨qa11, qa26⟩


def impl_isDigit.f (a0 : Int) : Option (Bool) := if a0 ≥ 48 then (some (decide (a0 ≤ 57))) else (some false)
set_option maxHeartbeats 8000000 in
set_option maxRecDepth 100000 in
theorem impl_isDigit.calls (a0 : Int) (r : Bool) (w : World) (h : impl_isDigit.f a0 = some r) :
  Calls Try.prog 60 #[.int .u8 a0] w fun e w' => e = .returned (.bool r) ∧ Drawn0 w w' := by
 have H : (if a0 ≥ 48 then (some (decide (a0 ≤ 57))) else (some false)) = some r := h; clear h
 by_cases c2 : a0 ≥ 48
 ·rw [if_pos c2] at H
  have c2b0 : decide (48 ≤ a0) = true := decide_eq_true c2; clear c2; obtain rfl := Option.some.inj H
  go_enter Try.func60, Try.ntmps60
  go_wp2
  go_ret
  exact ⟨qa11, qa26⟩
 ·rw [if_neg c2] at H
  have c2b0 : decide (48 ≤ a0) = false := decide_eq_false c2; clear c2; obtain rfl := Option.some.inj H
  go_enter Try.func60, Try.ntmps60
  go_wp2
  go_ret
  exact ⟨qa11, qa26⟩


def impl_NameOK.l0 : Nat → ByteArray → Int → Int → Option (Bool)
 | 0, _, _, _ => none
 | k + 1, x0, x5, x6 => if x6 < x5 then (if 0 ≤ x6 then (if x6 < (x0.size : Int) then ((impl_isLetter.f (bt x0 x6)).bind fun t102 => (if t102 = true then (impl_NameOK.l0 k x0 x5 (wrap64 (x6 + 1))) else (if x6 = 0 then (some false) else ((impl_isDigit.f (bt x0 x6)).bind fun t103 => (if t103 = true then (impl_NameOK.l0 k x0 x5 (wrap64 (x6 + 1))) else (some false)))))) else (none)) else (none)) else ((impl_within.f (x0.size : Int) 1 40).bind fun t101 => (some t101))
def impl_NameOK.f (k : Nat) (a0 : ByteArray) : Option (Bool) := impl_NameOK.l0 k a0 (a0.size : Int) 0
set_option maxHeartbeats 8000000 in
set_option maxRecDepth 100000 in
theorem impl_NameOK.calls (k : Nat) (a0 : ByteArray) (r : Bool) (w : World) (h : impl_NameOK.f k a0 = some r) :
  Calls Try.prog 35 #[.string a0] w fun e w' => e = .returned (.bool r) ∧ Drawn0 w w' := by
 have H : (impl_NameOK.l0 k a0 (a0.size : Int) 0) = some r := h; clear h; have H' := qO H; clear H
 go_enter Try.func35, Try.ntmps35
 go_wp2
 go_loopg [6] k (fun kq v6 w' => ∃ (x6_1 : Int), v6 = .int .i64 x6_1 ∧ Aside0 (impl_NameOK.l0 kq a0 (a0.size : Int) x6_1 = some r) ∧ Aside0 (kq ≤ k) ∧ Drawn0 w w')
 case atStart => exact ⟨(0), qa11, H', ⟨Nat.le_refl _⟩, qa26⟩
 case round =>
  clear H'; obtain ⟨x6_1, rfl, HA, HK1, ⟨m1, rfl⟩⟩ := hrel
  cases gk with
  | zero => exact absurd HA.out (by simp [impl_NameOK.l0])
  | succ k1 =>
   have H := HA.out; clear HA; simp only [impl_NameOK.l0] at H
   by_cases c2 : x6_1 < (a0.size : Int)
   ·rw [if_pos c2] at H
    have c2b0 : decide (x6_1 < (a0.size : Int)) = true := decide_eq_true c2; clear c2
    by_cases c3 : 0 ≤ x6_1
    ·rw [if_pos c3] at H
     have c3b0 : decide (0 ≤ x6_1) = true := decide_eq_true c3; clear c3
     by_cases c4 : x6_1 < (a0.size : Int)
     ·rw [if_pos c4] at H
      have c4b0 : decide (x6_1 < (a0.size : Int)) = true := decide_eq_true c4; clear c4; replace H := Option.bind_eq_some_iff.mp H; obtain ⟨t102, A60, H⟩ := H; replace H : (if t102 = true then (impl_NameOK.l0 k1 a0 (a0.size : Int) (wrap64 (x6_1 + 1))) else (if x6_1 = 0 then (some false) else ((impl_isDigit.f (bt a0 x6_1)).bind fun t103 => (if t103 = true then (impl_NameOK.l0 k1 a0 (a0.size : Int) (wrap64 (x6_1 + 1))) else (some false))))) = some r := H; have A6 := qO A60; clear A60
      by_cases c7 : t102 = true
      ·subst c7
       have H1 : (impl_NameOK.l0 k1 a0 (a0.size : Int) (wrap64 (x6_1 + 1))) = some r := by rw [if_pos rfl] at H; exact H
       clear H; have H := H1; clear H1; have H' := qO H; clear H; have p5 : 0 ≤ (x6_1 : Int) := qT qa5; have q5 : x6_1 < (a0.size : Int) := qT qa5; have hx5 := bt_at a0 x6_1; replace p5 := eq_true p5; replace q5 := eq_true q5
       go_wp2_with (first | ((with_reducible refine gate_callee (f := 59) rfl ?_); refine goesL_ (some 12) rfl rfl Try.func59 qa17 rfl #[.int .u8 (bt a0 x6_1)] rfl qa1 ?_; (with_reducible refine (impl_isLetter.calls (bt a0 x6_1) true _ A6.out).mono ?_); rintro e w' ⟨rfl, ⟨nd, rfl⟩⟩; refine ⟨_, rfl, ?_⟩))
       go_roundg k1
       case measure => have := HK1.out; omega
       case rel => exact ⟨(wrap64 (x6_1 + 1)), qa11, H', ⟨qa87⟩, qa26⟩
      ·replace c7 := Bool.eq_false_iff.mpr c7
       subst c7; have H1 : (if x6_1 = 0 then (some false) else ((impl_isDigit.f (bt a0 x6_1)).bind fun t103 => (if t103 = true then (impl_NameOK.l0 k1 a0 (a0.size : Int) (wrap64 (x6_1 + 1))) else (some false)))) = some r := by rw [if_neg (show ¬ (false = true) by decide)] at H; exact H
       clear H; have H := H1; clear H1
       by_cases c8 : x6_1 = 0
       ·rw [if_pos c8] at H
        have c8b0 : (x6_1 == 0) = true := beq_iff_eq.mpr c8; have c8b1 : (x6_1 != 0) = false := bne_eq_false_iff_eq.mpr c8; clear c8; obtain rfl := Option.some.inj H; have p5 : 0 ≤ (x6_1 : Int) := qT qa5; have q5 : x6_1 < (a0.size : Int) := qT qa5; have hx5 := bt_at a0 x6_1; replace p5 := eq_true p5; replace q5 := eq_true q5
        go_wp2_with (first | ((with_reducible refine gate_callee (f := 59) rfl ?_); refine goesL_ (some 12) rfl rfl Try.func59 qa17 rfl #[.int .u8 (bt a0 x6_1)] rfl qa1 ?_; (with_reducible refine (impl_isLetter.calls (bt a0 x6_1) false _ A6.out).mono ?_); rintro e w' ⟨rfl, ⟨nd, rfl⟩⟩; refine ⟨_, rfl, ?_⟩))
        go_ret
        exact ⟨qa11, qa26⟩
       ·rw [if_neg c8] at H
        have c8b0 : (x6_1 == 0) = false := beq_eq_false_iff_ne.mpr c8; have c8b1 : (x6_1 != 0) = true := bne_iff_ne.mpr c8; replace H := Option.bind_eq_some_iff.mp H; obtain ⟨t103, A100, H⟩ := H; replace H : (if t103 = true then (impl_NameOK.l0 k1 a0 (a0.size : Int) (wrap64 (x6_1 + 1))) else (some false)) = some r := H; have A10 := qO A100; clear A100
        by_cases c11 : t103 = true
        ·subst c11
         have H1 : (impl_NameOK.l0 k1 a0 (a0.size : Int) (wrap64 (x6_1 + 1))) = some r := by rw [if_pos rfl] at H; exact H
         clear H; have H := H1; clear H1; have H' := qO H; clear H; have p5 : 0 ≤ (x6_1 : Int) := qT qa5; have q5 : x6_1 < (a0.size : Int) := qT qa5; have hx5 := bt_at a0 x6_1; replace p5 := eq_true p5; replace q5 := eq_true q5
         go_wp2_with (first | ((with_reducible refine gate_callee (f := 59) rfl ?_); refine goesL_ (some 12) rfl rfl Try.func59 qa17 rfl #[.int .u8 (bt a0 x6_1)] rfl qa1 ?_; (with_reducible refine (impl_isLetter.calls (bt a0 x6_1) false _ A6.out).mono ?_); rintro e w' ⟨rfl, ⟨nd, rfl⟩⟩; refine ⟨_, rfl, ?_⟩; have p9 : 0 ≤ (x6_1 : Int) := qT qa5; have q9 : x6_1 < (a0.size : Int) := qT qa5; have hx9 := bt_at a0 x6_1; replace p9 := eq_true p9; replace q9 := eq_true q9) | (go_at_call 60; (with_reducible refine (impl_isDigit.calls (bt a0 x6_1) true _ A10.out).mono ?_); rintro e w' ⟨rfl, ⟨nd, rfl⟩⟩))
         go_roundg k1
         case measure => have := HK1.out; omega
         case rel => exact ⟨(wrap64 (x6_1 + 1)), qa11, H', ⟨qa87⟩, qa26⟩
        ·replace c11 := Bool.eq_false_iff.mpr c11
         subst c11; have H1 : (some false) = some r := by rw [if_neg (show ¬ (false = true) by decide)] at H; exact H
         clear H; have H := H1; clear H1; obtain rfl := Option.some.inj H; have p5 : 0 ≤ (x6_1 : Int) := qT qa5; have q5 : x6_1 < (a0.size : Int) := qT qa5; have hx5 := bt_at a0 x6_1; replace p5 := eq_true p5; replace q5 := eq_true q5
         go_wp2_with (first | ((with_reducible refine gate_callee (f := 59) rfl ?_); refine goesL_ (some 12) rfl rfl Try.func59 qa17 rfl #[.int .u8 (bt a0 x6_1)] rfl qa1 ?_; (with_reducible refine (impl_isLetter.calls (bt a0 x6_1) false _ A6.out).mono ?_); rintro e w' ⟨rfl, ⟨nd, rfl⟩⟩; refine ⟨_, rfl, ?_⟩; have p9 : 0 ≤ (x6_1 : Int) := qT qa5; have q9 : x6_1 < (a0.size : Int) := qT qa5; have hx9 := bt_at a0 x6_1; replace p9 := eq_true p9; replace q9 := eq_true q9) | (go_at_call 60; (with_reducible refine (impl_isDigit.calls (bt a0 x6_1) false _ A10.out).mono ?_); rintro e w' ⟨rfl, ⟨nd, rfl⟩⟩))
         go_ret
         exact ⟨qa11, qa26⟩
     ·rw [if_neg c4] at H
      exact absurd H qa91
    ·rw [if_neg c3] at H
     exact absurd H qa91
   ·rw [if_neg c2] at H
    have c2b0 : decide (x6_1 < (a0.size : Int)) = false := decide_eq_false c2; clear c2; replace H := Option.bind_eq_some_iff.mp H; obtain ⟨t101, A120, H⟩ := H; replace H : (some t101) = some r := H; have A12 := qO A120; clear A120; obtain rfl := Option.some.inj H
    go_wp2_with (first | ((with_reducible refine gate_callee (f := 33) rfl ?_); refine goesL_ (some 28) rfl rfl Try.func33 qa17 rfl #[.int .i64 (a0.size : Int), .int .i64 1, .int .i64 40] rfl qa1 ?_; (with_reducible refine (impl_within.calls (a0.size : Int) 1 40 t101 _ A12.out).mono ?_); rintro e w' ⟨rfl, ⟨nd, rfl⟩⟩; refine ⟨_, rfl, ?_⟩))
    go_ret
    exact ⟨qa11, qa26⟩


/-- The first place at which p holds, or -1. -/
def impl_ArgDef_78.fp (p : (S57) → Bool) (l0 : List (S57)) : Int := match l0.findIdx? p with | some i => (i : Int) | none => -1
theorem impl_ArgDef_78.hit (p : (S57) → Bool) (l0 : List (S57)) (kk : Nat) (x : (S57)) (hx : l0[kk]? = some x) (hp : p x = true) (hno : ∀ j, j < kk → ∀ x, l0[j]? = some x → p x = false) : impl_ArgDef_78.fp p l0 = kk := by
 unfold impl_ArgDef_78.fp
 have h : l0.findIdx? p = some kk := by
  rw [List.findIdx?_eq_some_iff_getElem]; obtain ⟨hl, he⟩ := List.getElem?_eq_some_iff.1 hx
  exact ⟨hl, by rw [he]; exact hp, fun j hj => by rw [hno j hj _ (List.getElem?_eq_getElem (Nat.lt_trans hj hl))]; simp⟩
 rw [h]
theorem impl_ArgDef_78.miss (p : (S57) → Bool) (l0 : List (S57)) (hno : ∀ j, j < l0.length → ∀ x, l0[j]? = some x → p x = false) : impl_ArgDef_78.fp p l0 = -1 := by
 unfold impl_ArgDef_78.fp
 have h : l0.findIdx? p = none := by
  rw [List.findIdx?_eq_none_iff]; intro x hx; obtain ⟨j, hj⟩ := List.getElem?_of_mem hx
  exact hno j (List.getElem?_eq_some_iff.1 hj).1 x hj
 rw [h]
set_option maxHeartbeats 4000000 in
set_option maxRecDepth 100000 in
theorem impl_ArgDef_78.callsP (A0 : Option Addr) (c0 : Nat) (l0 : List (S57)) (g : Nat) (cb : Array Value) (p : (S57) → Bool) (w : World) (eg : ∀ args w, (callFunc g args).run Try.prog w = .ok (.enter g args) w) (hr0 : Kd.C k57 w A0 l0.length l0)
  (hp : ∀ (W : World) (x : (S57)), x ∈ l0 → Below w.heap.size w W → Calls Try.prog g (#[.agg #[.string x.f0, .bool x.f1]] ++ cb) W fun e w' => e = .returned (.bool (p x)) ∧ Below w.heap.size w w') :
  Calls Try.prog 78 #[.slice A0 l0.length c0, .func (.func g) #[] cb] w fun e w' => e = .returned (.int .i64 (impl_ArgDef_78.fp p l0)) ∧ Below w.heap.size w w' := by
 have hlen := hr0.2.1; have HR := qO hr0; have HP := qO hp; clear hr0 hp; have isagg := Try.isAgg57
 go_enter Try.func78, Try.ntmps78
 go_wp2
 go_loopg [5, 8] l0.length (fun gg _ s8 wr => ∃ kk : Nat, kk ≤ l0.length ∧ l0.length - kk ≤ gg ∧ s8 = .int .i64 kk ∧ Aside0 (Below w.heap.size w wr) ∧ Aside0 (∀ j, j < kk → ∀ x, l0[j]? = some x → p x = false))
 case atStart => exact ⟨0, Nat.zero_le _, qa27, rfl, ⟨Below.refl _ w⟩, ⟨fun j hj => absurd hj (Nat.not_lt_zero _)⟩⟩
 case round =>
  obtain ⟨kk, hkk, hg, rfl, BW, No⟩ := hrel
  by_cases hlt : kk < l0.length
  ·have hltz : (kk : Int) < (l0.length : Int) := by omega
   obtain ⟨ad, e, hx0, hx1⟩ := at_T57 HR.out (kk : Int) qa27 hltz
   cases e
   replace hx0 := (BW.out.cell (qL w _ hx0)).trans hx0; replace hx1 := (BW.out.cell (qL w _ hx1)).trans hx1; simp only [Int.toNat_natCast] at hx0; simp only [Int.toNat_natCast] at hx1
   have hx : l0[kk]? = some (rd_T57 l0 (kk : Int)) := by
    rw [List.getElem?_eq_getElem hlt]
    show some l0[kk] = some (l0.getD (kk : Int).toNat _)
    rw [Int.toNat_natCast, List.getD_eq_getElem?_getD, List.getElem?_eq_getElem hlt]
    rfl
   skip
   have hcall := HP.out wr (rd_T57 l0 (kk : Int)) (List.mem_of_getElem? hx) BW.out; have HX := qO hx; clear hx; generalize rd_T57 l0 (kk : Int) = x at hcall HX hx0 hx1
   cases hq : p x with
   | true =>
    have HQ := qO hq; rw [hq] at hcall; clear hq
    go_wp2_with (go_at_fn g; refine hcall.mono ?_; rintro e w' ⟨rfl, hb'⟩)
    go_ret
    exact ⟨by rw [impl_ArgDef_78.hit p l0 kk x HX.out HQ.out No.out]; rfl, hb'⟩
   | false =>
    have HQ := qO hq; rw [hq] at hcall; clear hq
    go_wp2_with (go_at_fn g; refine hcall.mono ?_; rintro e w' ⟨rfl, hb'⟩)
    go_roundg (l0.length - (kk + 1))
    case measure => omega
    case rel =>
     refine ⟨kk + 1, qa27, qa27, by go_num, ⟨hb'⟩, ⟨fun j hj x' hx' => ?_⟩⟩
     by_cases e : j = kk
     ·subst e
      rw [HX.out] at hx'; obtain rfl := Option.some.inj hx'
      exact HQ.out
     ·exact No.out j qa27 x' hx'
  ·have hltz : ¬ (kk : Int) < (l0.length : Int) := by omega
   have hk : kk = l0.length := by omega
   have HK := qO hk; clear hk; go_wp2
   go_ret
   exact ⟨by rw [impl_ArgDef_78.miss p l0 (fun j hj => No.out j (by rw [HK.out]; exact hj))]; rfl, BW.out⟩


set_option maxHeartbeats 4000000 in
set_option maxRecDepth 100000 in
theorem impl_FieldDef_argAt_1.callsQ (x : S57) (gs : Nat) (y0 : ByteArray) (w : World) (hs : w.heap[gs]? = some (.cells #[.string y0] 9 (0, 0))) :
  Calls Try.prog 79 #[.agg #[.string x.f0, .bool x.f1], .pointer (some ⟨gs, 0, none⟩)] w fun e w' => e = .returned (.bool (x.f0.toList == y0.toList)) ∧ Below w.heap.size w w' := by
 have hu := Try.underlying57; have HS := qO hs; clear hs
 go_enter Try.func79, Try.ntmps79
 go_wp2_with (first | ((with_reducible refine gate_dst (N := 2) rfl ?_); refine box_event ?hg (N := 2) ?hd (cs := #[.string x.f0, .bool x.f1]) (t := 57) ?hr ?_; (case hd => rfl); (case hg => rfl); (case hr => exact qa18); intro gb hg w1 hbox hb; have K1 := qO (blk_below (g := gs) HS.out hb); have B1 := qO hb; have hcz0 : w1.cell? ⟨gb, 0, none⟩ = some (.string x.f0) := (blk_cell hbox 0).trans rfl; have hcz1 : w1.cell? ⟨gb, 1, none⟩ = some (.bool x.f1) := (blk_cell hbox 1).trans rfl; have hcw0 : w1.cell? ⟨gs, 0, none⟩ = some (.string y0) := (blk_cell K1.out 0).trans rfl; clear hg hb hbox))
 go_ret
 exact ⟨rfl, B1.out⟩
def clo78_79.f (l0 : List (S57)) (a1_0 : ByteArray) : Option Int := some (impl_ArgDef_78.fp (fun x => (x.f0.toList == a1_0.toList)) l0)
theorem clo78_79.calls (A0 : Option Addr) (c0 : Nat) (l0 : List (S57)) (a1_0 : ByteArray) (r : Int) (w : World) (hr0 : Kd.C k57 w A0 l0.length l0) (hc0 : l0.length ≤ c0) (h : clo78_79.f l0 a1_0 = some r) (gs : Nat) (hs : w.heap[gs]? = some (.cells #[.string a1_0] 9 (0, 0))) :
  Calls Try.prog 78 #[.slice A0 l0.length c0, .func (.func 79) #[] #[.pointer (some ⟨gs, 0, none⟩)]] w fun e w' => e = .returned (.int .i64 r) ∧ Below w.heap.size w w' := by
 obtain rfl := Option.some.inj h; have eg : ∀ args w, (callFunc 79 args).run Try.prog w = .ok (.enter 79 args) w := enters_of Try.func79 qa17 rfl
 exact impl_ArgDef_78.callsP A0 c0 l0 79 #[.pointer (some ⟨gs, 0, none⟩)] (fun x => (x.f0.toList == a1_0.toList)) w eg hr0 (fun W x _ hb => (impl_FieldDef_argAt_1.callsQ x gs a1_0 W (blk_below hs hb)).mono qa110)
def impl_FieldDef_argAt.f (a0_0 : ByteArray) (l0_1 : List (S57)) (a0_2 : ByteArray) (a0_3 : Bool) (a0_4 : Bool) (a1 : ByteArray) : Option (Int) := (clo78_79.f l0_1 a1).bind fun t103 => (some t103)
set_option maxHeartbeats 8000000 in
set_option maxRecDepth 100000 in
theorem impl_FieldDef_argAt.calls (a0_0 : ByteArray) (A0_1 : Option Addr) (c0_1 : Nat) (l0_1 : List (S57)) (a0_2 : ByteArray) (a0_3 : Bool) (a0_4 : Bool) (a1 : ByteArray) (r : Int) (w : World) (hr0_1 : Kd.C k57 w A0_1 l0_1.length l0_1) (hc0_1 : l0_1.length ≤ c0_1) (h : impl_FieldDef_argAt.f a0_0 l0_1 a0_2 a0_3 a0_4 a1 = some r) :
  Calls Try.prog 61 #[.agg #[.string a0_0, .slice A0_1 l0_1.length c0_1, .string a0_2, .bool a0_3, .bool a0_4], .string a1] w fun e w' => e = .returned (.int .i64 r) ∧ Below w.heap.size w w' := by
 have hu38 := Try.underlying38; have hu9 := Try.underlying9; have HR0_1 := qO hr0_1; have HC0_1 := qO hc0_1; clear hr0_1 hc0_1; have HB := qO (Below.refl w.heap.size w); have H : ((clo78_79.f l0_1 a1).bind fun t103 => (some t103)) = some r := h; clear h; replace H := Option.bind_eq_some_iff.mp H; obtain ⟨t103, A30, H⟩ := H; replace H : (some t103) = some r := H; have A3 := qO A30; clear A30; obtain rfl := Option.some.inj H
 go_enter Try.func61, Try.ntmps61
 go_wp2_with (first | ((with_reducible refine gate_dst (N := 2) rfl ?_); refine box_event ?hg (N := 2) ?hd (cs := #[.string a0_0, .slice A0_1 l0_1.length c0_1, .string a0_2, .bool a0_3, .bool a0_4]) (t := 38) ?hr ?_; (case hd => rfl); (case hg => rfl); (case hr => exact qa18); intro gb101 hg w4 hbox hb; have hx_ := qHX HB hb qa0; have n0_ := qO (below_step (below_step HB.out hx_) hb); have n1_ := qO (hbox); have n2_ := qO ((qa15 : w.heap.size ≤ gb101)); have n3_ := n2_; clear HB; have HB := n0_; have BK101 := n1_; have GW101 := n2_; have GE101 := n3_; clear n0_ n1_ n2_ n3_; clear hx_; clear hb hbox hg) | ((with_reducible refine gate_dst (N := 3) rfl ?_); refine box_event ?hg (N := 3) ?hd (cs := #[.string a1]) (t := 9) ?hr ?_; (case hd => rfl); (case hg => rfl); (case hr => exact qa18); intro gb102 hg w5 hbox hb; have hx_ := qHX HB hb qa0; have n0_ := qO (qB BK101.out hx_ hb); have n1_ := qO (below_step (below_step HB.out hx_) hb); have n2_ := qO (hbox); have n3_ := qO ((qa15 : w.heap.size ≤ gb102)); have n4_ := n3_; have n5_ := qO ((qa28 : gb101 ≠ gb102)); have n6_ := qO (Ne.symm n5_.out); clear BK101; clear HB; have BK101 := n0_; have HB := n1_; have BK102 := n2_; have GW102 := n3_; have GE102 := n4_; have NB101_102 := n5_; have NB102_101 := n6_; clear n0_ n1_ n2_ n3_ n4_ n5_ n6_; clear hx_; clear hb hbox hg; have hnb6 := NB101_102.out; have hnc6 := NB102_101.out; have hcz7_0 : w5.cell? ⟨gb101, 0, none⟩ = some (.string a0_0) := (blk_cell BK101.out 0).trans rfl; have hcz7_1 : w5.cell? ⟨gb101, 1, none⟩ = some (.slice A0_1 l0_1.length c0_1) := (blk_cell BK101.out 1).trans rfl; have hcz7_2 : w5.cell? ⟨gb101, 2, none⟩ = some (.string a0_2) := (blk_cell BK101.out 2).trans rfl; have hcz7_3 : w5.cell? ⟨gb101, 3, none⟩ = some (.bool a0_3) := (blk_cell BK101.out 3).trans rfl; have hcz7_4 : w5.cell? ⟨gb101, 4, none⟩ = some (.bool a0_4) := (blk_cell BK101.out 4).trans rfl; have hfz7_0 := blk_frozen BK101.out 0; have hfz7_1 := blk_frozen BK101.out 1; have hfz7_2 := blk_frozen BK101.out 2; have hfz7_3 := blk_frozen BK101.out 3; have hfz7_4 := blk_frozen BK101.out 4; have hcz8_0 : w5.cell? ⟨gb102, 0, none⟩ = some (.string a1) := (blk_cell BK102.out 0).trans rfl; have hfz8_0 := blk_frozen BK102.out 0) | ((with_reducible refine gate_callee (f := 78) rfl ?_); refine goesL_ (some 8) rfl rfl Try.func78 qa17 rfl #[.slice A0_1 l0_1.length c0_1, .func (.func 79) #[] #[.pointer (some ⟨gb102, 0, none⟩)]] rfl qa1 ?_; (with_reducible refine (clo78_79.calls _ _ l0_1 a1 t103 _ ?side1 ?side2 A3.out gb102 qa31).mono ?_); (case side1 => exact qa25); (case side2 => exact HC0_1.out); rintro e w9 ⟨rfl, hb⟩; have hx_ := qHX HB hb qa0; refine ⟨_, rfl, ?_⟩; have n0_ := qO (qB BK101.out hx_ hb); have n1_ := qO (qB BK102.out hx_ hb); have n2_ := qO (below_step (below_step HB.out hx_) hb); clear BK101; clear BK102; clear HB; have BK101 := n0_; have BK102 := n1_; have HB := n2_; clear n0_ n1_ n2_; clear hx_; (try clear hb); (try clear hb2); (try clear hk); (try clear hi)))
 go_ret
 exact ⟨qa3, qa7⟩

end Go.Proofs.Ytoogmlghfljeiaa.Q
