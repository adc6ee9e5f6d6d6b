/- Texts of the claim on FnTxn, gathered by a program of this session: what the program's functions compute (proved by walks), and the plain part. -/
import Derived.Test.YtfiboooflebdpaaKFnTxnd
import Derived.Test.YtfiboooflebdpaaKFnTxnOpens
import Derived.KernelRfl
namespace Go.Proofs.Ytfiboooflebdpaa.Q
open Go.RowKit Go.Proofs.YtfiboooflebdpaaW.PrintWords Go.Proofs.YtfiboooflebdpaaW.PrintLast Go.Proofs.YtfiboooflebdpaaW.PrintMore
attribute [local go_sem] max2_int min2_int max_two min_two max_three min_three max_four min_four
set_option linter.unusedVariables false
set_option linter.unusedSimpArgs false
set_option maxHeartbeats 8000000
set_option maxRecDepth 100000
def spec_l06Changed.f (l0_0 : List (List (S43))) (a0_1 : Int) (a1 : Int) (a2 : Int) : Option (Bool) := if 0 ≤ a1 then (if a1 < (l0_0.length : Int) then (if ((rd_L4 l0_0 a1).length : Int) > 0 then (if 0 ≤ (wrap64 (((rd_L4 l0_0 a1).length : Int) - 1)) then (if (wrap64 (((rd_L4 l0_0 a1).length : Int) - 1)) < ((rd_L4 l0_0 a1).length : Int) then (some (decide (((rd_T43 (rd_L4 l0_0 a1) (wrap64 (((rd_L4 l0_0 a1).length : Int) - 1))).f0) > a2))) else (none)) else (none)) else (some false)) else (none)) else (none)
theorem spec_l06Changed.calls (A0_0 : Option Addr) (c0_0 : Nat) (l0_0 : List (List (S43))) (a0_1 : Int) (a1 : Int) (a2 : Int) (r : Bool) (w : World) (hr0_0 : Kd.C (Kd.slice 43 k43) w A0_0 l0_0.length l0_0) (hc0_0 : l0_0.length ≤ c0_0) (h : spec_l06Changed.f l0_0 a0_1 a1 a2 = some r) :
  Calls Try.prog 80 #[.agg #[.slice A0_0 l0_0.length c0_0, .int .i64 a0_1], .int .i64 a1, .int .i64 a2] w fun e w' => e = .returned (.bool r) ∧ Below w.heap.size w w' := by
 have hu28 := Try.underlying28; have HR0_0 := qO hr0_0; have HC0_0 := qO hc0_0; clear hr0_0 hc0_0; have HB := qO (Below.refl w.heap.size w); have H : (if 0 ≤ a1 then (if a1 < (l0_0.length : Int) then (if ((rd_L4 l0_0 a1).length : Int) > 0 then (if 0 ≤ (wrap64 (((rd_L4 l0_0 a1).length : Int) - 1)) then (if (wrap64 (((rd_L4 l0_0 a1).length : Int) - 1)) < ((rd_L4 l0_0 a1).length : Int) then (some (decide (((rd_T43 (rd_L4 l0_0 a1) (wrap64 (((rd_L4 l0_0 a1).length : Int) - 1))).f0) > a2))) else (none)) else (none)) else (some false)) else (none)) else (none)) = some r := h; clear h
 by_cases c4 : 0 ≤ a1
 ·rw [if_pos c4] at H
  have c4b0 := decide_eq_true c4; clear c4
  by_cases c5 : a1 < (l0_0.length : Int)
  ·rw [if_pos c5] at H
   have c5b0 := decide_eq_true c5; clear c5
   by_cases c6 : ((rd_L4 l0_0 a1).length : Int) > 0
   ·rw [if_pos c6] at H
    have c6b0 := qgt c6; have c6b1 : decide (0 < (rd_L4 l0_0 a1).length) = true := decide_eq_true qa13; clear c6; obtain ⟨ji7, hji7⟩ : ∃ j_ : Int, (wrap64 (((rd_L4 l0_0 a1).length : Int) - 1)) = j_ := ⟨_, rfl⟩; (first | rw [hji7] at H | simp only [hji7] at H)
    have hji7w : (IntKind.i64.wrap (((rd_L4 l0_0 a1).length : Int) - 1)) = ji7 := (i64_w _).trans hji7
    by_cases c8 : 0 ≤ (ji7)
    ·rw [if_pos c8] at H
     have c8b0 := decide_eq_true c8; clear c8
     by_cases c9 : (ji7) < ((rd_L4 l0_0 a1).length : Int)
     ·rw [if_pos c9] at H
      have c9b0 := decide_eq_true c9; clear c9; obtain rfl := Option.some.inj H
      go_enter Try.func80, Try.ntmps80
      go_wp2_with (first | ((with_reducible refine gate_dst (N := 3) rfl ?_); (try (refine gate_guard (by rfl) ?_; dsimp only)); refine qX 3 #[.slice A0_0 l0_0.length c0_0, .int .i64 a0_1] 28 ?_; intro gb101 hg w10 hbox hb; have hx_ := qHX HB hb qa0; have BK101 := qO (hbox); have GW101 := qO ((qa3 : w.heap.size ≤ gb101)); have GE101 := GW101; replace HB := qO (below_step (below_step HB.out hx_) hb); clear hx_ hb hbox hg; obtain ⟨hcz11_0, hcz11_1, hfz11_0, hfz11_1⟩ := qb2 BK101.out; have p102 : 0 ≤ (a1 : Int) := qT qa1; have q102 : a1 < (l0_0.length : Int) := qT qa1; obtain ⟨ad102, A102_0, c102_0, e102, hx102_0, hl102_0, hi102_0⟩ := at_L4 HR0_0.out a1 p102 q102; cases e102; replace hx102_0 := (HB.out.cell (qL w _ hx102_0)).trans hx102_0; have HR102_0 := qO hi102_0; have HC102_0 := qO hl102_0; clear hi102_0 hl102_0; replace p102 := eq_true p102; replace q102 := eq_true q102; have p103 : 0 ≤ ((ji7) : Int) := qT qa1; have q103 : (ji7) < ((rd_L4 l0_0 a1).length : Int) := qT qa1; obtain ⟨ad103, e103, hx103_0, hx103_1⟩ := at_T43 HR102_0.out (ji7) p103 q103; cases e103; replace hx103_0 := (HB.out.cell (qL w _ hx103_0)).trans hx103_0; replace hx103_1 := (HB.out.cell (qL w _ hx103_1)).trans hx103_1; replace p103 := eq_true p103; replace q103 := eq_true q103))
      go_ret
      exact ⟨qa82, qH HB.out⟩
     ·rw [if_neg c9] at H
      exact absurd H qa51
    ·rw [if_neg c8] at H
     exact absurd H qa51
   ·rw [if_neg c6] at H
    have c6b0 := qngt c6; have c6b1 : decide (0 < (rd_L4 l0_0 a1).length) = false := decide_eq_false qa13; clear c6; obtain rfl := Option.some.inj H
    go_enter Try.func80, Try.ntmps80
    go_wp2_with (first | ((with_reducible refine gate_dst (N := 3) rfl ?_); (try (refine gate_guard (by rfl) ?_; dsimp only)); refine qX 3 #[.slice A0_0 l0_0.length c0_0, .int .i64 a0_1] 28 ?_; intro gb101 hg w12 hbox hb; have hx_ := qHX HB hb qa0; have BK101 := qO (hbox); have GW101 := qO ((qa3 : w.heap.size ≤ gb101)); have GE101 := GW101; replace HB := qO (below_step (below_step HB.out hx_) hb); clear hx_ hb hbox hg; obtain ⟨hcz13_0, hcz13_1, hfz13_0, hfz13_1⟩ := qb2 BK101.out; have p102 : 0 ≤ (a1 : Int) := qT qa1; have q102 : a1 < (l0_0.length : Int) := qT qa1; obtain ⟨ad102, A102_0, c102_0, e102, hx102_0, hl102_0, hi102_0⟩ := at_L4 HR0_0.out a1 p102 q102; cases e102; replace hx102_0 := (HB.out.cell (qL w _ hx102_0)).trans hx102_0; have HR102_0 := qO hi102_0; have HC102_0 := qO hl102_0; clear hi102_0 hl102_0; replace p102 := eq_true p102; replace q102 := eq_true q102))
    go_ret
    exact ⟨qa2, qH HB.out⟩
  ·rw [if_neg c5] at H
   exact absurd H qa51
 ·rw [if_neg c4] at H
  exact absurd H qa51
set_option maxHeartbeats 8000000
set_option maxRecDepth 100000
def spec_l07Conflicts.l0 : Nat → Int → List (List (S43)) → Int → Int → List Int → List (S58) → Option (Bool)
 | 0, _, _, _, _, _, _ => none
 | k + 1, x5, x102000, x102001, x103000, x103001, x103002 => if x5 < (x103001.length : Int) then (if 0 ≤ x5 then ((spec_l06Changed.f x102000 x102001 (rd x103001 x5) x103000).bind fun t104 => (if t104 = true then (some (decide ((x103002.length : Int) > 0))) else (spec_l07Conflicts.l0 k (wrap64 (x5 + 1)) x102000 x102001 x103000 x103001 x103002))) else (none)) else (some false)
def spec_l07Conflicts.f (k : Nat) (l0_0 : List (List (S43))) (a0_1 : Int) (a1_0 : Int) (l1_1 : List Int) (l1_2 : List (S58)) : Option (Bool) := spec_l07Conflicts.l0 k 0 l0_0 a0_1 a1_0 l1_1 l1_2
def spec_l07Conflicts.T4 : Bool × List (List Nat × List Nat) := (true, [([], []), ([], []), ([1], [1]), ([], []), ([2, 3], [2, 3]), ([4], [4]), ([], []), ([6], [6]), ([0, 5, 7], [0, 5, 7])])
def spec_l07Conflicts.B4 : List Nat := [0, 0, 2, 0, 14, 30, 0, 64, 255]
theorem spec_l07Conflicts.tab4 : rtab .any (opsOf Try.f88 4) = spec_l07Conflicts.T4 := by kernel_rfl
theorem spec_l07Conflicts.bits4 : waitsOk spec_l07Conflicts.T4.2 spec_l07Conflicts.B4 = true := by kernel_rfl
def z88_0 := #[qf,qf,qf,qf,qf,qf,qf,qf,qf]
def z88_1 := #[qf,qt,qf,qf,qf,qf,qf,qf,qf]
def z88_2 := #[qf,qt,qf,qt,qf,qf,qf,qf,qf]
def z88_3 := #[qf,qt,qf,qt,qf,qf,qt,qf,qf]
def z88_4 := #[qt,qt,qf,qt,qf,qf,qt,qf,qf]
def z88_5 := #[qt,qt,qt,qt,qf,qf,qt,qf,qf]
def z88_6 := #[qt,qt,qt,qt,qt,qf,qt,qf,qf]
def z88_7 := #[qt,qt,qt,qt,qt,qt,qt,qf,qf]
def z88_8 := #[qt,qt,qt,qt,qt,qt,qt,qt,qf]
def z88_9 := #[qt,qt,qt,qt,qt,qt,qt,qt,qt]
theorem spec_l07Conflicts.calls (k : Nat) (A0_0 : Option Addr) (c0_0 : Nat) (l0_0 : List (List (S43))) (a0_1 : Int) (a1_0 : Int) (A1_1 : Option Addr) (c1_1 : Nat) (l1_1 : List Int) (A1_2 : Option Addr) (c1_2 : Nat) (l1_2 : List (S58)) (r : Bool) (w : World) (hr0_0 : Kd.C (Kd.slice 43 k43) w A0_0 l0_0.length l0_0) (hc0_0 : l0_0.length ≤ c0_0) (hr1_1 : Kd.C (Kd.int .i64) w A1_1 l1_1.length l1_1) (hc1_1 : l1_1.length ≤ c1_1) (hr1_2 : Kd.C k58 w A1_2 l1_2.length l1_2) (hc1_2 : l1_2.length ≤ c1_2) (h : spec_l07Conflicts.f k l0_0 a0_1 a1_0 l1_1 l1_2 = some r) :
  Calls Try.prog 88 #[.agg #[.slice A0_0 l0_0.length c0_0, .int .i64 a0_1], .agg #[.int .i64 a1_0, .slice A1_1 l1_1.length c1_1, .slice A1_2 l1_2.length c1_2]] w fun e w' => e = .returned (.bool r) ∧ Below w.heap.size w w' := by
 have hu28 := Try.underlying28; have hu65 := Try.underlying65; have HR0_0 := qO hr0_0; have HC0_0 := qO hc0_0; clear hr0_0 hc0_0; have HR1_1 := qO hr1_1; have HC1_1 := qO hc1_1; clear hr1_1 hc1_1; have HR1_2 := qO hr1_2; have HC1_2 := qO hc1_2; clear hr1_2 hc1_2; have HB := qO (Below.refl w.heap.size w); have H : (spec_l07Conflicts.l0 k 0 l0_0 a0_1 a1_0 l1_1 l1_2) = some r := h; clear h; have H' := qO H; clear H
 go_enter Try.func88, Try.ntmps88
 go_wp2_with (first | ((with_reducible refine gate_dst (N := 2) rfl ?_); refine qX 2 #[.slice A0_0 l0_0.length c0_0, .int .i64 a0_1] 28 ?_; intro gb101 hg w3 hbox hb; have hx_ := qHX HB hb qa0; have BK101 := qO (hbox); have GW101 := qO ((qa3 : w.heap.size ≤ gb101)); have GE101 := GW101; replace HB := qO (below_step (below_step HB.out hx_) hb); clear hx_ hb hbox hg) | ((with_reducible refine gate_dst (N := 3) rfl ?_); refine qX 3 #[.int .i64 a1_0, .slice A1_1 l1_1.length c1_1, .slice A1_2 l1_2.length c1_2] 65 ?_; intro gb102 hg w4 hbox hb; have hx_ := qHX HB hb qa0; have BK102 := qO (hbox); have GW102 := qO ((qa3 : w.heap.size ≤ gb102)); have GE102 := GW102; have NB101_102 := qO ((qLt hg (qk BK101.out))); have NB102_101 := qO (Ne.symm NB101_102.out); replace BK101 := qO (qB BK101.out hx_ hb); replace HB := qO (below_step (below_step HB.out hx_) hb); clear hx_ hb hbox hg))
 go_loopg [5] k (fun kq v5 w' => ∃ (x5_1 : Int), v5 = .int .i64 x5_1 ∧ Aside0 (spec_l07Conflicts.l0 kq x5_1 l0_0 a0_1 a1_0 l1_1 l1_2 = some r) ∧ Aside0 (kq ≤ k) ∧ Aside0 (w'.heap[gb101]? = some (.cells #[(.slice A0_0 l0_0.length c0_0), .int .i64 a0_1] 28 (0, 0))) ∧ Aside0 (w'.heap[gb102]? = some (.cells #[.int .i64 a1_0, (.slice A1_1 l1_1.length c1_1), (.slice A1_2 l1_2.length c1_2)] 65 (0, 0))) ∧ Aside0 (Below w.heap.size w w'))
 case atStart => exact ⟨(0), qa6, H', ⟨Nat.le_refl _⟩, ⟨qk BK101.out⟩, ⟨qk BK102.out⟩, ⟨qH HB.out⟩⟩
 case round =>
  clear H'
  obtain ⟨x5_1, rfl, HA, HK1, BK101, BK102, HB⟩ := hrel
  cases gk with
  | zero => exact absurd HA.out (by simp [spec_l07Conflicts.l0])
  | succ k1 =>
   have H := HA.out; clear HA; simp only [spec_l07Conflicts.l0] at H
   by_cases c5 : x5_1 < (l1_1.length : Int)
   ·rw [if_pos c5] at H
    have c5b0 := decide_eq_true c5; clear c5
    by_cases c6 : 0 ≤ x5_1
    ·rw [if_pos c6] at H
     have c6b0 := decide_eq_true c6; clear c6; replace H := Option.bind_eq_some_iff.mp H; obtain ⟨t104, A70, H⟩ := H; have A7 := qO A70; clear A70
     by_cases c8 : t104 = true
     ·subst c8
      rw [if_pos rfl] at H; obtain rfl := Option.some.inj H; have hnb9 := NB102_101.out; have hnc9 := NB101_102.out; obtain ⟨hcz10_0, hcz10_1, hcz10_2, hfz10_0, hfz10_1, hfz10_2⟩ := qb3 BK102.out
      try go_wp2
      replace BK101 := qO (qkD BK101.out); replace BK102 := qO (qkD BK102.out); replace HB := qO (qbD HB.out); have p103 : 0 ≤ (x5_1 : Int) := qT qa1; have q103 : x5_1 < (l1_1.length : Int) := qT qa1; obtain ⟨ad103, e103, hx103_0⟩ := Kd.at_int HR1_1.out x5_1 p103 q103; have hw103_0 := hx103_0
      cases e103
      replace hx103_0 := (HB.out.cell (qL w _ hx103_0)).trans hx103_0; replace p103 := eq_true p103; replace q103 := eq_true q103; refine start_ (n := 9) (S := fun w' => w'.cell? ⟨gb101, 0, none⟩ = some (.slice A0_0 l0_0.length c0_0) ∧ w'.cell? ⟨gb101, 1, none⟩ = some (.int .i64 a0_1) ∧ w'.cell? ⟨gb102, 0, none⟩ = some (.int .i64 a1_0) ∧ w'.cell? ⟨gb102, 1, none⟩ = some (.slice (some ad103) l1_1.length c1_1) ∧ w'.cell? ⟨gb102, 2, none⟩ = some (.slice A1_2 l1_2.length c1_2) ∧ w'.cell? (ad103.add (x5_1).toNat) = some (.int .i64 (rd l1_1 x5_1))) (ds := []) z88_0 qa18 rfl rfl ⟨qc0 BK101.out, qc1 BK101.out, qc0 BK102.out, qc1 BK102.out, qc2 BK102.out, ((HB.out.cell (qL w _ hw103_0)).trans hw103_0)⟩ (fun hHeld => ?_); refine with_tabW spec_l07Conflicts.tab4 spec_l07Conflicts.bits4 (fun HT_ HW_ => ?_); generalize wr.drew = w11 at BK101 BK102 HB hx103_0 hHeld ⊢; refine qP 1 14 z88_1 ?_; refine qP 3 16 z88_2 ?_; refine qP 6 19 z88_3 ?_; refine qK6 0 13 z88_4 ?_; refine qK6 2 15 z88_5 ?_; refine qP 4 17 z88_6 ?_; refine qK6 5 18 z88_7 ?_; refine qK6 7 20 z88_8 ?_; refine qOn 8 (some 21) z88_9 fun K hK => ?_; refine qGo Try.func80 #[.agg #[.slice A0_0 l0_0.length c0_0, .int .i64 a0_1], .int .i64 (rd l1_1 x5_1), .int .i64 a1_0] ?_; (with_reducible refine (spec_l06Changed.calls _ _ l0_0 a0_1 (rd l1_1 x5_1) a1_0 true _ ?side1 ?side2 A7.out).mono ?_); (case side1 => exact qa42); (case side2 => exact HC0_0.out); rintro e w12 ⟨rfl, hb⟩; have hx_ := qHX HB hb qa0; refine ⟨_, rfl, ?_⟩; replace BK101 := qO (qB BK101.out hx_ hb); replace BK102 := qO (qB BK102.out hx_ hb); replace HB := qO (below_step (below_step HB.out hx_) hb); clear hx_ hb; refine hK.out _ _ ⟨qc0 BK101.out, qc1 BK101.out, qc0 BK102.out, qc1 BK102.out, qc2 BK102.out, ((HB.out.cell (qL w _ hw103_0)).trans hw103_0)⟩ (fun hHeld => ?_); clear hK K; refine qNm ?_
      refine done_ (done_of HT_.out qa18) ?_; obtain ⟨hcz13_0, hcz13_1, hcz13_2, hfz13_0, hfz13_1, hfz13_2⟩ := qb3 BK102.out
      try go_wp2
      go_ret
      exact ⟨qa2, qH HB.out⟩
     ·replace c8 := Bool.eq_false_iff.mpr c8
      subst c8; rw [qfn] at H; have H' := qO H; clear H; have hnb14 := NB102_101.out; have hnc14 := NB101_102.out; obtain ⟨hcz15_0, hcz15_1, hcz15_2, hfz15_0, hfz15_1, hfz15_2⟩ := qb3 BK102.out
      try go_wp2
      replace BK101 := qO (qkD BK101.out); replace BK102 := qO (qkD BK102.out); replace HB := qO (qbD HB.out); have p103 : 0 ≤ (x5_1 : Int) := qT qa1; have q103 : x5_1 < (l1_1.length : Int) := qT qa1; obtain ⟨ad103, e103, hx103_0⟩ := Kd.at_int HR1_1.out x5_1 p103 q103; have hw103_0 := hx103_0
      cases e103
      replace hx103_0 := (HB.out.cell (qL w _ hx103_0)).trans hx103_0; replace p103 := eq_true p103; replace q103 := eq_true q103; refine start_ (n := 9) (S := fun w' => w'.cell? ⟨gb101, 0, none⟩ = some (.slice A0_0 l0_0.length c0_0) ∧ w'.cell? ⟨gb101, 1, none⟩ = some (.int .i64 a0_1) ∧ w'.cell? ⟨gb102, 0, none⟩ = some (.int .i64 a1_0) ∧ w'.cell? ⟨gb102, 1, none⟩ = some (.slice (some ad103) l1_1.length c1_1) ∧ w'.cell? ⟨gb102, 2, none⟩ = some (.slice A1_2 l1_2.length c1_2) ∧ w'.cell? (ad103.add (x5_1).toNat) = some (.int .i64 (rd l1_1 x5_1))) (ds := []) z88_0 qa18 rfl rfl ⟨qc0 BK101.out, qc1 BK101.out, qc0 BK102.out, qc1 BK102.out, qc2 BK102.out, ((HB.out.cell (qL w _ hw103_0)).trans hw103_0)⟩ (fun hHeld => ?_); refine with_tabW spec_l07Conflicts.tab4 spec_l07Conflicts.bits4 (fun HT_ HW_ => ?_); generalize wr.drew = w16 at BK101 BK102 HB hx103_0 hHeld ⊢; refine qP 1 14 z88_1 ?_; refine qP 3 16 z88_2 ?_; refine qP 6 19 z88_3 ?_; refine qK6 0 13 z88_4 ?_; refine qK6 2 15 z88_5 ?_; refine qP 4 17 z88_6 ?_; refine qK6 5 18 z88_7 ?_; refine qK6 7 20 z88_8 ?_; refine qOn 8 (some 21) z88_9 fun K hK => ?_; refine qGo Try.func80 #[.agg #[.slice A0_0 l0_0.length c0_0, .int .i64 a0_1], .int .i64 (rd l1_1 x5_1), .int .i64 a1_0] ?_; (with_reducible refine (spec_l06Changed.calls _ _ l0_0 a0_1 (rd l1_1 x5_1) a1_0 false _ ?side1 ?side2 A7.out).mono ?_); (case side1 => exact qa42); (case side2 => exact HC0_0.out); rintro e w17 ⟨rfl, hb⟩; have hx_ := qHX HB hb qa0; refine ⟨_, rfl, ?_⟩; replace BK101 := qO (qB BK101.out hx_ hb); replace BK102 := qO (qB BK102.out hx_ hb); replace HB := qO (below_step (below_step HB.out hx_) hb); clear hx_ hb; refine hK.out _ _ ⟨qc0 BK101.out, qc1 BK101.out, qc0 BK102.out, qc1 BK102.out, qc2 BK102.out, ((HB.out.cell (qL w _ hw103_0)).trans hw103_0)⟩ (fun hHeld => ?_); clear hK K; refine qNm ?_
      refine done_ (done_of HT_.out qa18) ?_
      try go_wp2
      go_roundg k1
      case measure => have := HK1.out; omega
      case rel => exact ⟨(wrap64 (x5_1 + 1)), qa6, H', ⟨qa72⟩, ⟨qk BK101.out⟩, ⟨qk BK102.out⟩, ⟨qH HB.out⟩⟩
    ·rw [if_neg c6] at H
     exact absurd H qa51
   ·rw [if_neg c5] at H
    have c5b0 := decide_eq_false c5; clear c5; obtain rfl := Option.some.inj H; have hnb18 := NB102_101.out; have hnc18 := NB101_102.out; obtain ⟨hcz19_0, hcz19_1, hcz19_2, hfz19_0, hfz19_1, hfz19_2⟩ := qb3 BK102.out; go_wp2
    go_ret
    exact ⟨qa2, qH HB.out⟩
set_option maxHeartbeats 8000000
set_option maxRecDepth 100000
def spec_Conflicts.f (k : Nat) (l0_0 : List (List (S43))) (a0_1 : Int) (a1_0 : Int) (l1_1 : List Int) (l1_2 : List (S58)) : Option (Bool × Int) := (spec_TxnOK.f k l0_0 a0_1 a1_0 l1_1 l1_2).bind fun t103 => (if t103 = true then ((spec_l07Conflicts.f k l0_0 a0_1 a1_0 l1_1 l1_2).bind fun t104 => (some (t104, 0))) else (some (false, 1)))
theorem spec_Conflicts.calls (k : Nat) (A0_0 : Option Addr) (c0_0 : Nat) (l0_0 : List (List (S43))) (a0_1 : Int) (a1_0 : Int) (A1_1 : Option Addr) (c1_1 : Nat) (l1_1 : List Int) (A1_2 : Option Addr) (c1_2 : Nat) (l1_2 : List (S58)) (r1 : Bool) (r2 : Int) (w : World) (hr0_0 : Kd.C (Kd.slice 43 k43) w A0_0 l0_0.length l0_0) (hc0_0 : l0_0.length ≤ c0_0) (hr1_1 : Kd.C (Kd.int .i64) w A1_1 l1_1.length l1_1) (hc1_1 : l1_1.length ≤ c1_1) (hr1_2 : Kd.C k58 w A1_2 l1_2.length l1_2) (hc1_2 : l1_2.length ≤ c1_2) (h : spec_Conflicts.f k l0_0 a0_1 a1_0 l1_1 l1_2 = some (r1, r2)) :
  Calls Try.prog 41 #[.agg #[.slice A0_0 l0_0.length c0_0, .int .i64 a0_1], .agg #[.int .i64 a1_0, .slice A1_1 l1_1.length c1_1, .slice A1_2 l1_2.length c1_2]] w fun e w' => e = .returned (.tuple #[.bool r1, .int .i64 r2]) ∧ Below w.heap.size w w' := by
 have hu28 := Try.underlying28; have hu65 := Try.underlying65; have HR0_0 := qO hr0_0; have HC0_0 := qO hc0_0; clear hr0_0 hc0_0; have HR1_1 := qO hr1_1; have HC1_1 := qO hc1_1; clear hr1_1 hc1_1; have HR1_2 := qO hr1_2; have HC1_2 := qO hc1_2; clear hr1_2 hc1_2; have HB := qO (Below.refl w.heap.size w); have H : ((spec_TxnOK.f k l0_0 a0_1 a1_0 l1_1 l1_2).bind fun t103 => (if t103 = true then ((spec_l07Conflicts.f k l0_0 a0_1 a1_0 l1_1 l1_2).bind fun t104 => (some (t104, 0))) else (some (false, 1)))) = some (r1, r2) := h; clear h; replace H := Option.bind_eq_some_iff.mp H; obtain ⟨t103, A30, H⟩ := H; have A3 := qO A30; clear A30
 by_cases c4 : t103 = true
 ·subst c4
  rw [if_pos rfl] at H; replace H := Option.bind_eq_some_iff.mp H; obtain ⟨t104, A50, H⟩ := H; have A5 := qO A50; clear A50; simp only [Option.some.injEq, Prod.mk.injEq] at H; obtain ⟨rfl, rfl⟩ := H
  go_enter Try.func41, Try.ntmps41
  go_wp2_with (first | ((with_reducible refine gate_dst (N := 2) rfl ?_); refine qX 2 #[.slice A0_0 l0_0.length c0_0, .int .i64 a0_1] 28 ?_; intro gb101 hg w6 hbox hb; have hx_ := qHX HB hb qa0; have BK101 := qO (hbox); have GW101 := qO ((qa3 : w.heap.size ≤ gb101)); have GE101 := GW101; replace HB := qO (below_step (below_step HB.out hx_) hb); clear hx_ hb hbox hg) | ((with_reducible refine gate_dst (N := 3) rfl ?_); refine qX 3 #[.int .i64 a1_0, .slice A1_1 l1_1.length c1_1, .slice A1_2 l1_2.length c1_2] 65 ?_; intro gb102 hg w7 hbox hb; have hx_ := qHX HB hb qa0; have BK102 := qO (hbox); have GW102 := qO ((qa3 : w.heap.size ≤ gb102)); have GE102 := GW102; have NB101_102 := qO ((qLt hg (qk BK101.out))); have NB102_101 := qO (Ne.symm NB101_102.out); replace BK101 := qO (qB BK101.out hx_ hb); replace HB := qO (below_step (below_step HB.out hx_) hb); clear hx_ hb hbox hg; have hnb8 := NB101_102.out; have hnc8 := NB102_101.out; obtain ⟨hcz9_0, hcz9_1, hfz9_0, hfz9_1⟩ := qb2 BK101.out; obtain ⟨hcz10_0, hcz10_1, hcz10_2, hfz10_0, hfz10_1, hfz10_2⟩ := qb3 BK102.out) | ((with_reducible refine gate_callee (f := 87) rfl ?_); refine qGL 8 Try.func87 #[.agg #[.slice A0_0 l0_0.length c0_0, .int .i64 a0_1], .agg #[.int .i64 a1_0, .slice A1_1 l1_1.length c1_1, .slice A1_2 l1_2.length c1_2]] ?_; (with_reducible refine (spec_TxnOK.calls k _ _ l0_0 a0_1 a1_0 _ _ l1_1 _ _ l1_2 true _ ?side1 ?side2 ?side3 ?side4 ?side5 ?side6 A3.out).mono ?_); (case side1 => exact qa42); (case side2 => exact HC0_0.out); (case side3 => exact qa68); (case side4 => exact HC1_1.out); (case side5 => exact qa66); (case side6 => exact HC1_2.out); rintro e w11 ⟨rfl, hb⟩; have hx_ := qHX HB hb qa0; refine ⟨_, rfl, ?_⟩; replace BK101 := qO (qB BK101.out hx_ hb); replace BK102 := qO (qB BK102.out hx_ hb); replace HB := qO (below_step (below_step HB.out hx_) hb); clear hx_ hb; obtain ⟨hcz12_0, hcz12_1, hfz12_0, hfz12_1⟩ := qb2 BK101.out; obtain ⟨hcz13_0, hcz13_1, hcz13_2, hfz13_0, hfz13_1, hfz13_2⟩ := qb3 BK102.out) | ((with_reducible refine gate_callee (f := 88) rfl ?_); refine qGL 12 Try.func88 #[.agg #[.slice A0_0 l0_0.length c0_0, .int .i64 a0_1], .agg #[.int .i64 a1_0, .slice A1_1 l1_1.length c1_1, .slice A1_2 l1_2.length c1_2]] ?_; (with_reducible refine (spec_l07Conflicts.calls k _ _ l0_0 a0_1 a1_0 _ _ l1_1 _ _ l1_2 t104 _ ?side1 ?side2 ?side3 ?side4 ?side5 ?side6 A5.out).mono ?_); (case side1 => exact qa42); (case side2 => exact HC0_0.out); (case side3 => exact qa68); (case side4 => exact HC1_1.out); (case side5 => exact qa66); (case side6 => exact HC1_2.out); rintro e w14 ⟨rfl, hb⟩; have hx_ := qHX HB hb qa0; refine ⟨_, rfl, ?_⟩; replace BK101 := qO (qB BK101.out hx_ hb); replace BK102 := qO (qB BK102.out hx_ hb); replace HB := qO (below_step (below_step HB.out hx_) hb); clear hx_ hb))
  go_ret2
  exact ⟨qa2, qH HB.out⟩
 ·replace c4 := Bool.eq_false_iff.mpr c4
  subst c4; rw [qfn] at H; simp only [Option.some.injEq, Prod.mk.injEq] at H; obtain ⟨rfl, rfl⟩ := H
  go_enter Try.func41, Try.ntmps41
  go_wp2_with (first | ((with_reducible refine gate_dst (N := 2) rfl ?_); refine qX 2 #[.slice A0_0 l0_0.length c0_0, .int .i64 a0_1] 28 ?_; intro gb101 hg w15 hbox hb; have hx_ := qHX HB hb qa0; have BK101 := qO (hbox); have GW101 := qO ((qa3 : w.heap.size ≤ gb101)); have GE101 := GW101; replace HB := qO (below_step (below_step HB.out hx_) hb); clear hx_ hb hbox hg) | ((with_reducible refine gate_dst (N := 3) rfl ?_); refine qX 3 #[.int .i64 a1_0, .slice A1_1 l1_1.length c1_1, .slice A1_2 l1_2.length c1_2] 65 ?_; intro gb102 hg w16 hbox hb; have hx_ := qHX HB hb qa0; have BK102 := qO (hbox); have GW102 := qO ((qa3 : w.heap.size ≤ gb102)); have GE102 := GW102; have NB101_102 := qO ((qLt hg (qk BK101.out))); have NB102_101 := qO (Ne.symm NB101_102.out); replace BK101 := qO (qB BK101.out hx_ hb); replace HB := qO (below_step (below_step HB.out hx_) hb); clear hx_ hb hbox hg; have hnb17 := NB101_102.out; have hnc17 := NB102_101.out; obtain ⟨hcz18_0, hcz18_1, hfz18_0, hfz18_1⟩ := qb2 BK101.out; obtain ⟨hcz19_0, hcz19_1, hcz19_2, hfz19_0, hfz19_1, hfz19_2⟩ := qb3 BK102.out) | ((with_reducible refine gate_callee (f := 87) rfl ?_); refine qGL 8 Try.func87 #[.agg #[.slice A0_0 l0_0.length c0_0, .int .i64 a0_1], .agg #[.int .i64 a1_0, .slice A1_1 l1_1.length c1_1, .slice A1_2 l1_2.length c1_2]] ?_; (with_reducible refine (spec_TxnOK.calls k _ _ l0_0 a0_1 a1_0 _ _ l1_1 _ _ l1_2 false _ ?side1 ?side2 ?side3 ?side4 ?side5 ?side6 A3.out).mono ?_); (case side1 => exact qa42); (case side2 => exact HC0_0.out); (case side3 => exact qa68); (case side4 => exact HC1_1.out); (case side5 => exact qa66); (case side6 => exact HC1_2.out); rintro e w20 ⟨rfl, hb⟩; have hx_ := qHX HB hb qa0; refine ⟨_, rfl, ?_⟩; replace BK101 := qO (qB BK101.out hx_ hb); replace BK102 := qO (qB BK102.out hx_ hb); replace HB := qO (below_step (below_step HB.out hx_) hb); clear hx_ hb))
  go_ret2
  exact ⟨qa2, qH HB.out⟩
set_option maxHeartbeats 8000000
set_option maxRecDepth 100000
def laws_FnTxn.j0 : Nat → List Int → List Int → Bool → Option (Bool)
 | 0, _, _, _ => none
 | k + 1, x0, x1, x34 => if x34 = true then (some true) else ((spec_StoreOf.f k x0).bind fun bt101 => ((impl_Begin.f k bt101.1 bt101.2).bind fun bt106 => ((spec_PutsOf.f k x1).bind fun t115 => ((impl_WriteAll.f k bt101.1 bt101.2 t115).bind fun bt118 => ((laws_at.f x1 0 16).bind fun t125 => ((impl_ReadTxn.f k bt118.1 bt118.2.1 bt106.1 bt106.2.1 bt106.2.2.1 t125).bind fun bt126 => ((impl_ReadAt.f k bt101.1 bt101.2 t125 bt101.2).bind fun bt136 => ((impl_WriteTxn.f k bt118.1 bt118.2.1 bt126.1 bt126.2.1 bt126.2.2.1 t125 3).bind fun bt138 => ((impl_ReadTxn.f k bt118.1 bt118.2.1 bt138.1 bt138.2.1 bt138.2.2.1 t125).bind fun bt147 => ((spec_TxnOf.f k x1 bt101.1 bt101.2).bind fun bt157 => ((impl_Conflicts.f k bt101.1 bt101.2 bt157.1 bt157.2.1 bt157.2.2).bind fun bt165 => ((spec_Conflicts.f k bt101.1 bt101.2 bt157.1 bt157.2.1 bt157.2.2).bind fun bt167 => (if bt106.2.2.2 = 0 then (if bt118.2.2.2 = 0 then (if bt126.2.2.2.2 = 0 then (if bt136.2 = 0 then (if bt126.2.2.2.1 = bt136.1 then (if bt138.2.2.2 = 0 then (if bt147.2.2.2.2 = 0 then (if bt147.2.2.2.1 = 3 then ((laws_sameInts.f k bt147.2.1 (([t125] : List Int))).bind fun t172 => (if t172 = true then (if (bt147.2.2.1.length : Int) = 1 then ((impl_TxnOK.f k bt118.1 bt118.2.1 bt147.1 bt147.2.1 bt147.2.2.1).bind fun t173 => (if t173 = true then (if bt165.2 = 0 then (some (bt165.1 == bt167.1)) else (none)) else (none))) else (none)) else (none))) else (none)) else (none)) else (none)) else (none)) else (none)) else (none)) else (none)) else (none))))))))))))))
def laws_FnTxn.f (k : Nat) (l0 : List Int) (l1 : List Int) : Option (Bool) := if (l0.length : Int) > 1048576 then (laws_FnTxn.j0 k l0 l1 true) else (laws_FnTxn.j0 k l0 l1 (decide ((l1.length : Int) > 1048576)))
def laws_FnTxn.T5 : Bool × List (List Nat × List Nat) := (true, [([], []), ([], []), ([1], [1]), ([0, 2, 2], [0, 2]), ([3], [3]), ([4], [4]), ([4], [4]), ([4], [4]), ([], []), ([8, 5, 3, 0, 1, 2, 3, 4, 5, 8], [5, 8]), ([6, 9, 0, 1, 2, 3, 4, 5, 6, 8, 9], [6]), ([7, 10, 0, 1, 2, 3, 4, 5, 6, 7, 8, 9, 10], [7])])
def laws_FnTxn.B5 : List Nat := [0, 0, 2, 7, 15, 31, 31, 31, 0, 319, 895, 2047]
theorem laws_FnTxn.tab5 : rtab .any (opsOf Try.f7 5) = laws_FnTxn.T5 := by kernel_rfl
theorem laws_FnTxn.bits5 : waitsOk laws_FnTxn.T5.2 laws_FnTxn.B5 = true := by kernel_rfl
def z7_0 := #[qf,qf,qf,qf,qf,qf,qf,qf,qf,qf,qf,qf]
def z7_1 := #[qf,qt,qf,qf,qf,qf,qf,qf,qf,qf,qf,qf]
def z7_2 := #[qt,qt,qf,qf,qf,qf,qf,qf,qf,qf,qf,qf]
def z7_3 := #[qt,qt,qt,qt,qt,qt,qt,qt,qt,qf,qf,qf]
def z7_4 := #[qt,qt,qt,qf,qf,qf,qf,qf,qf,qf,qf,qf]
def z7_5 := #[qt,qt,qf,qf,qf,qf,qf,qf,qt,qf,qf,qf]
def z7_6 := #[qt,qt,qt,qt,qf,qf,qf,qf,qf,qf,qf,qf]
def z7_7 := #[qt,qt,qt,qf,qf,qf,qf,qf,qt,qf,qf,qf]
def z7_8 := #[qt,qt,qt,qt,qt,qf,qf,qf,qf,qf,qf,qf]
def z7_9 := #[qt,qt,qt,qt,qt,qt,qf,qf,qf,qf,qf,qf]
def z7_10 := #[qt,qt,qt,qt,qt,qt,qt,qf,qf,qf,qf,qf]
def z7_11 := #[qt,qt,qt,qt,qt,qt,qt,qt,qf,qf,qf,qf]
def z7_12 := #[qt,qt,qt,qt,qf,qf,qf,qf,qt,qf,qf,qf]
def z7_13 := #[qt,qt,qt,qt,qt,qf,qf,qf,qt,qf,qf,qf]
def z7_14 := #[qt,qt,qt,qt,qt,qt,qf,qf,qt,qf,qf,qf]
def z7_15 := #[qt,qt,qt,qt,qt,qt,qt,qf,qt,qf,qf,qf]
def z7_16 := #[qt,qt,qt,qt,qt,qt,qt,qt,qt,qt,qf,qf]
def z7_17 := #[qt,qt,qt,qt,qt,qt,qt,qt,qt,qt,qt,qf]
def z7_18 := #[qt,qt,qt,qt,qt,qt,qt,qt,qt,qt,qt,qt]
theorem laws_FnTxn.calls (k : Nat) (A0 : Option Addr) (c0 : Nat) (l0 : List Int) (A1 : Option Addr) (c1 : Nat) (l1 : List Int) (r : Bool) (w : World) (hr0 : Kd.C (Kd.int .u8) w A0 l0.length l0) (hc0 : l0.length ≤ c0) (hr1 : Kd.C (Kd.int .u8) w A1 l1.length l1) (hc1 : l1.length ≤ c1) (h : laws_FnTxn.f k l0 l1 = some r) :
  Calls Try.prog 7 #[.slice A0 l0.length c0, .slice A1 l1.length c1] w fun e w' => e = .returned (.bool r) ∧ Below w.heap.size w w' := by
 have hu28 := Try.underlying28; have hu65 := Try.underlying65; have hu58 := Try.underlying58; have HR0 := qO hr0; have HC0 := qO hc0; clear hr0 hc0; have HR1 := qO hr1; have HC1 := qO hc1; clear hr1 hc1; have HB := qO (Below.refl w.heap.size w); have H : (if (l0.length : Int) > 1048576 then (laws_FnTxn.j0 k l0 l1 true) else (laws_FnTxn.j0 k l0 l1 (decide ((l1.length : Int) > 1048576)))) = some r := h; clear h; have HC3 := qO H; clear H
 go_enter Try.func7, Try.ntmps7
 go_upto_region 1 with (fail)
 go_cut [34] (fun v34 wc => ∃ (kq : Nat) (x34_2 : Bool), v34 = .bool x34_2 ∧ Aside0 (laws_FnTxn.j0 kq l0 l1 x34_2 = some r) ∧ Aside0 (kq ≤ k) ∧ Aside0 (Below w.heap.size w wc))
 case first =>
  have H := HC3.out; clear HC3
  by_cases c4 : (l0.length : Int) > 1048576
  ·rw [if_pos c4] at H
   have c4b0 := qgt c4; have c4b1 : decide (1048576 < l0.length) = true := decide_eq_true qa13; clear c4; (first | rw [c4b0] | (simp only [i64_w, i32_w]; rw [c4b0]) | skip); have H' := qO H; clear H; go_wp2
   go_meet
   case rel => exact ⟨_, (true), qa6, H', ⟨qa79⟩, ⟨qH HB.out⟩⟩
  ·rw [if_neg c4] at H
   have c4b0 := qngt c4; have c4b1 : decide (1048576 < l0.length) = false := decide_eq_false qa13; clear c4; (first | rw [c4b0] | (simp only [i64_w, i32_w]; rw [c4b0]) | skip); have H' := qO H; clear H; go_wp2
   go_meet
   case rel => exact ⟨_, (decide ((l1.length : Int) > 1048576)), qa6, H', ⟨qa79⟩, ⟨qH HB.out⟩⟩
 case rest =>
  clear HC3
  obtain ⟨kq, x34_2, rfl, HA, HJ2, HB⟩ := hcut
  cases kq with
  | zero => exact absurd HA.out (by simp [laws_FnTxn.j0])
  | succ kj2 =>
   have H := HA.out; clear HA; simp only [laws_FnTxn.j0] at H
   by_cases c5 : x34_2 = true
   ·subst c5
    rw [if_pos rfl] at H; obtain rfl := Option.some.inj H; go_wp2
    go_ret
    exact ⟨qa2, qH HB.out⟩
   ·replace c5 := Bool.eq_false_iff.mpr c5
    subst c5; rw [qfn] at H; replace H := Option.bind_eq_some_iff.mp H; obtain ⟨⟨t101, t104⟩, A60, H⟩ := H; replace H : ((impl_Begin.f kj2 t101 t104).bind fun bt106 => ((spec_PutsOf.f kj2 l1).bind fun t115 => ((impl_WriteAll.f kj2 t101 t104 t115).bind fun bt118 => ((laws_at.f l1 0 16).bind fun t125 => ((impl_ReadTxn.f kj2 bt118.1 bt118.2.1 bt106.1 bt106.2.1 bt106.2.2.1 t125).bind fun bt126 => ((impl_ReadAt.f kj2 t101 t104 t125 t104).bind fun bt136 => ((impl_WriteTxn.f kj2 bt118.1 bt118.2.1 bt126.1 bt126.2.1 bt126.2.2.1 t125 3).bind fun bt138 => ((impl_ReadTxn.f kj2 bt118.1 bt118.2.1 bt138.1 bt138.2.1 bt138.2.2.1 t125).bind fun bt147 => ((spec_TxnOf.f kj2 l1 t101 t104).bind fun bt157 => ((impl_Conflicts.f kj2 t101 t104 bt157.1 bt157.2.1 bt157.2.2).bind fun bt165 => ((spec_Conflicts.f kj2 t101 t104 bt157.1 bt157.2.1 bt157.2.2).bind fun bt167 => (if bt106.2.2.2 = 0 then (if bt118.2.2.2 = 0 then (if bt126.2.2.2.2 = 0 then (if bt136.2 = 0 then (if bt126.2.2.2.1 = bt136.1 then (if bt138.2.2.2 = 0 then (if bt147.2.2.2.2 = 0 then (if bt147.2.2.2.1 = 3 then ((laws_sameInts.f kj2 bt147.2.1 (([t125] : List Int))).bind fun t172 => (if t172 = true then (if (bt147.2.2.1.length : Int) = 1 then ((impl_TxnOK.f kj2 bt118.1 bt118.2.1 bt147.1 bt147.2.1 bt147.2.2.1).bind fun t173 => (if t173 = true then (if bt165.2 = 0 then (some (bt165.1 == bt167.1)) else (none)) else (none))) else (none)) else (none))) else (none)) else (none)) else (none)) else (none)) else (none)) else (none)) else (none)) else (none))))))))))))) = some r := H; have A6 := qO A60; clear A60; replace H := Option.bind_eq_some_iff.mp H; obtain ⟨⟨t106, t107, t110, t113⟩, A70, H⟩ := H; replace H : ((spec_PutsOf.f kj2 l1).bind fun t115 => ((impl_WriteAll.f kj2 t101 t104 t115).bind fun bt118 => ((laws_at.f l1 0 16).bind fun t125 => ((impl_ReadTxn.f kj2 bt118.1 bt118.2.1 t106 t107 t110 t125).bind fun bt126 => ((impl_ReadAt.f kj2 t101 t104 t125 t104).bind fun bt136 => ((impl_WriteTxn.f kj2 bt118.1 bt118.2.1 bt126.1 bt126.2.1 bt126.2.2.1 t125 3).bind fun bt138 => ((impl_ReadTxn.f kj2 bt118.1 bt118.2.1 bt138.1 bt138.2.1 bt138.2.2.1 t125).bind fun bt147 => ((spec_TxnOf.f kj2 l1 t101 t104).bind fun bt157 => ((impl_Conflicts.f kj2 t101 t104 bt157.1 bt157.2.1 bt157.2.2).bind fun bt165 => ((spec_Conflicts.f kj2 t101 t104 bt157.1 bt157.2.1 bt157.2.2).bind fun bt167 => (if t113 = 0 then (if bt118.2.2.2 = 0 then (if bt126.2.2.2.2 = 0 then (if bt136.2 = 0 then (if bt126.2.2.2.1 = bt136.1 then (if bt138.2.2.2 = 0 then (if bt147.2.2.2.2 = 0 then (if bt147.2.2.2.1 = 3 then ((laws_sameInts.f kj2 bt147.2.1 (([t125] : List Int))).bind fun t172 => (if t172 = true then (if (bt147.2.2.1.length : Int) = 1 then ((impl_TxnOK.f kj2 bt118.1 bt118.2.1 bt147.1 bt147.2.1 bt147.2.2.1).bind fun t173 => (if t173 = true then (if bt165.2 = 0 then (some (bt165.1 == bt167.1)) else (none)) else (none))) else (none)) else (none))) else (none)) else (none)) else (none)) else (none)) else (none)) else (none)) else (none)) else (none)))))))))))) = some r := H; have A7 := qO A70; clear A70; replace H := Option.bind_eq_some_iff.mp H; obtain ⟨t115, A80, H⟩ := H; have A8 := qO A80; clear A80; replace H := Option.bind_eq_some_iff.mp H; obtain ⟨⟨t118, t121, t122, t123⟩, A90, H⟩ := H; replace H : ((laws_at.f l1 0 16).bind fun t125 => ((impl_ReadTxn.f kj2 t118 t121 t106 t107 t110 t125).bind fun bt126 => ((impl_ReadAt.f kj2 t101 t104 t125 t104).bind fun bt136 => ((impl_WriteTxn.f kj2 t118 t121 bt126.1 bt126.2.1 bt126.2.2.1 t125 3).bind fun bt138 => ((impl_ReadTxn.f kj2 t118 t121 bt138.1 bt138.2.1 bt138.2.2.1 t125).bind fun bt147 => ((spec_TxnOf.f kj2 l1 t101 t104).bind fun bt157 => ((impl_Conflicts.f kj2 t101 t104 bt157.1 bt157.2.1 bt157.2.2).bind fun bt165 => ((spec_Conflicts.f kj2 t101 t104 bt157.1 bt157.2.1 bt157.2.2).bind fun bt167 => (if t113 = 0 then (if t123 = 0 then (if bt126.2.2.2.2 = 0 then (if bt136.2 = 0 then (if bt126.2.2.2.1 = bt136.1 then (if bt138.2.2.2 = 0 then (if bt147.2.2.2.2 = 0 then (if bt147.2.2.2.1 = 3 then ((laws_sameInts.f kj2 bt147.2.1 (([t125] : List Int))).bind fun t172 => (if t172 = true then (if (bt147.2.2.1.length : Int) = 1 then ((impl_TxnOK.f kj2 t118 t121 bt147.1 bt147.2.1 bt147.2.2.1).bind fun t173 => (if t173 = true then (if bt165.2 = 0 then (some (bt165.1 == bt167.1)) else (none)) else (none))) else (none)) else (none))) else (none)) else (none)) else (none)) else (none)) else (none)) else (none)) else (none)) else (none)))))))))) = some r := H; have A9 := qO A90; clear A90; replace H := Option.bind_eq_some_iff.mp H; obtain ⟨t125, A100, H⟩ := H; have A10 := qO A100; clear A100; replace H := Option.bind_eq_some_iff.mp H; obtain ⟨⟨t126, t127, t130, t133, t134⟩, A110, H⟩ := H; replace H : ((impl_ReadAt.f kj2 t101 t104 t125 t104).bind fun bt136 => ((impl_WriteTxn.f kj2 t118 t121 t126 t127 t130 t125 3).bind fun bt138 => ((impl_ReadTxn.f kj2 t118 t121 bt138.1 bt138.2.1 bt138.2.2.1 t125).bind fun bt147 => ((spec_TxnOf.f kj2 l1 t101 t104).bind fun bt157 => ((impl_Conflicts.f kj2 t101 t104 bt157.1 bt157.2.1 bt157.2.2).bind fun bt165 => ((spec_Conflicts.f kj2 t101 t104 bt157.1 bt157.2.1 bt157.2.2).bind fun bt167 => (if t113 = 0 then (if t123 = 0 then (if t134 = 0 then (if bt136.2 = 0 then (if t133 = bt136.1 then (if bt138.2.2.2 = 0 then (if bt147.2.2.2.2 = 0 then (if bt147.2.2.2.1 = 3 then ((laws_sameInts.f kj2 bt147.2.1 (([t125] : List Int))).bind fun t172 => (if t172 = true then (if (bt147.2.2.1.length : Int) = 1 then ((impl_TxnOK.f kj2 t118 t121 bt147.1 bt147.2.1 bt147.2.2.1).bind fun t173 => (if t173 = true then (if bt165.2 = 0 then (some (bt165.1 == bt167.1)) else (none)) else (none))) else (none)) else (none))) else (none)) else (none)) else (none)) else (none)) else (none)) else (none)) else (none)) else (none)))))))) = some r := H; have A11 := qO A110; clear A110; replace H := Option.bind_eq_some_iff.mp H; obtain ⟨⟨t136, t137⟩, A120, H⟩ := H; replace H : ((impl_WriteTxn.f kj2 t118 t121 t126 t127 t130 t125 3).bind fun bt138 => ((impl_ReadTxn.f kj2 t118 t121 bt138.1 bt138.2.1 bt138.2.2.1 t125).bind fun bt147 => ((spec_TxnOf.f kj2 l1 t101 t104).bind fun bt157 => ((impl_Conflicts.f kj2 t101 t104 bt157.1 bt157.2.1 bt157.2.2).bind fun bt165 => ((spec_Conflicts.f kj2 t101 t104 bt157.1 bt157.2.1 bt157.2.2).bind fun bt167 => (if t113 = 0 then (if t123 = 0 then (if t134 = 0 then (if t137 = 0 then (if t133 = t136 then (if bt138.2.2.2 = 0 then (if bt147.2.2.2.2 = 0 then (if bt147.2.2.2.1 = 3 then ((laws_sameInts.f kj2 bt147.2.1 (([t125] : List Int))).bind fun t172 => (if t172 = true then (if (bt147.2.2.1.length : Int) = 1 then ((impl_TxnOK.f kj2 t118 t121 bt147.1 bt147.2.1 bt147.2.2.1).bind fun t173 => (if t173 = true then (if bt165.2 = 0 then (some (bt165.1 == bt167.1)) else (none)) else (none))) else (none)) else (none))) else (none)) else (none)) else (none)) else (none)) else (none)) else (none)) else (none)) else (none))))))) = some r := H; have A12 := qO A120; clear A120; replace H := Option.bind_eq_some_iff.mp H; obtain ⟨⟨t138, t139, t142, t145⟩, A130, H⟩ := H; replace H : ((impl_ReadTxn.f kj2 t118 t121 t138 t139 t142 t125).bind fun bt147 => ((spec_TxnOf.f kj2 l1 t101 t104).bind fun bt157 => ((impl_Conflicts.f kj2 t101 t104 bt157.1 bt157.2.1 bt157.2.2).bind fun bt165 => ((spec_Conflicts.f kj2 t101 t104 bt157.1 bt157.2.1 bt157.2.2).bind fun bt167 => (if t113 = 0 then (if t123 = 0 then (if t134 = 0 then (if t137 = 0 then (if t133 = t136 then (if t145 = 0 then (if bt147.2.2.2.2 = 0 then (if bt147.2.2.2.1 = 3 then ((laws_sameInts.f kj2 bt147.2.1 (([t125] : List Int))).bind fun t172 => (if t172 = true then (if (bt147.2.2.1.length : Int) = 1 then ((impl_TxnOK.f kj2 t118 t121 bt147.1 bt147.2.1 bt147.2.2.1).bind fun t173 => (if t173 = true then (if bt165.2 = 0 then (some (bt165.1 == bt167.1)) else (none)) else (none))) else (none)) else (none))) else (none)) else (none)) else (none)) else (none)) else (none)) else (none)) else (none)) else (none)))))) = some r := H; have A13 := qO A130; clear A130; replace H := Option.bind_eq_some_iff.mp H; obtain ⟨⟨t147, t148, t151, t154, t155⟩, A140, H⟩ := H; replace H : ((spec_TxnOf.f kj2 l1 t101 t104).bind fun bt157 => ((impl_Conflicts.f kj2 t101 t104 bt157.1 bt157.2.1 bt157.2.2).bind fun bt165 => ((spec_Conflicts.f kj2 t101 t104 bt157.1 bt157.2.1 bt157.2.2).bind fun bt167 => (if t113 = 0 then (if t123 = 0 then (if t134 = 0 then (if t137 = 0 then (if t133 = t136 then (if t145 = 0 then (if t155 = 0 then (if t154 = 3 then ((laws_sameInts.f kj2 t148 (([t125] : List Int))).bind fun t172 => (if t172 = true then (if (t151.length : Int) = 1 then ((impl_TxnOK.f kj2 t118 t121 t147 t148 t151).bind fun t173 => (if t173 = true then (if bt165.2 = 0 then (some (bt165.1 == bt167.1)) else (none)) else (none))) else (none)) else (none))) else (none)) else (none)) else (none)) else (none)) else (none)) else (none)) else (none)) else (none))))) = some r := H; have A14 := qO A140; clear A140; replace H := Option.bind_eq_some_iff.mp H; obtain ⟨⟨t157, t158, t161⟩, A150, H⟩ := H; replace H : ((impl_Conflicts.f kj2 t101 t104 t157 t158 t161).bind fun bt165 => ((spec_Conflicts.f kj2 t101 t104 t157 t158 t161).bind fun bt167 => (if t113 = 0 then (if t123 = 0 then (if t134 = 0 then (if t137 = 0 then (if t133 = t136 then (if t145 = 0 then (if t155 = 0 then (if t154 = 3 then ((laws_sameInts.f kj2 t148 (([t125] : List Int))).bind fun t172 => (if t172 = true then (if (t151.length : Int) = 1 then ((impl_TxnOK.f kj2 t118 t121 t147 t148 t151).bind fun t173 => (if t173 = true then (if bt165.2 = 0 then (some (bt165.1 == bt167.1)) else (none)) else (none))) else (none)) else (none))) else (none)) else (none)) else (none)) else (none)) else (none)) else (none)) else (none)) else (none)))) = some r := H; have A15 := qO A150; clear A150; replace H := Option.bind_eq_some_iff.mp H; obtain ⟨⟨t165, t166⟩, A160, H⟩ := H; replace H : ((spec_Conflicts.f kj2 t101 t104 t157 t158 t161).bind fun bt167 => (if t113 = 0 then (if t123 = 0 then (if t134 = 0 then (if t137 = 0 then (if t133 = t136 then (if t145 = 0 then (if t155 = 0 then (if t154 = 3 then ((laws_sameInts.f kj2 t148 (([t125] : List Int))).bind fun t172 => (if t172 = true then (if (t151.length : Int) = 1 then ((impl_TxnOK.f kj2 t118 t121 t147 t148 t151).bind fun t173 => (if t173 = true then (if t166 = 0 then (some (t165 == bt167.1)) else (none)) else (none))) else (none)) else (none))) else (none)) else (none)) else (none)) else (none)) else (none)) else (none)) else (none)) else (none))) = some r := H; have A16 := qO A160; clear A160; replace H := Option.bind_eq_some_iff.mp H; obtain ⟨⟨t167, t168⟩, A170, H⟩ := H; replace H : (if t113 = 0 then (if t123 = 0 then (if t134 = 0 then (if t137 = 0 then (if t133 = t136 then (if t145 = 0 then (if t155 = 0 then (if t154 = 3 then ((laws_sameInts.f kj2 t148 (([t125] : List Int))).bind fun t172 => (if t172 = true then (if (t151.length : Int) = 1 then ((impl_TxnOK.f kj2 t118 t121 t147 t148 t151).bind fun t173 => (if t173 = true then (if t166 = 0 then (some (t165 == t167)) else (none)) else (none))) else (none)) else (none))) else (none)) else (none)) else (none)) else (none)) else (none)) else (none)) else (none)) else (none)) = some r := H; have A17 := qO A170; clear A170
    by_cases c18 : t113 = 0
    ·rw [if_pos c18] at H
     have c18b0 := beq_iff_eq.mpr c18; have c18b1 := bne_eq_false_iff_eq.mpr c18; clear c18
     by_cases c19 : t123 = 0
     ·rw [if_pos c19] at H
      have c19b0 := beq_iff_eq.mpr c19; have c19b1 := bne_eq_false_iff_eq.mpr c19; clear c19
      by_cases c20 : t134 = 0
      ·rw [if_pos c20] at H
       have c20b0 := beq_iff_eq.mpr c20; have c20b1 := bne_eq_false_iff_eq.mpr c20; clear c20
       by_cases c21 : t137 = 0
       ·rw [if_pos c21] at H
        have c21b0 := beq_iff_eq.mpr c21; have c21b1 := bne_eq_false_iff_eq.mpr c21; clear c21
        by_cases c22 : t133 = t136
        ·rw [if_pos c22] at H
         have c22b0 := beq_iff_eq.mpr c22; have c22b1 := bne_eq_false_iff_eq.mpr c22; clear c22
         by_cases c23 : t145 = 0
         ·rw [if_pos c23] at H
          have c23b0 := beq_iff_eq.mpr c23; have c23b1 := bne_eq_false_iff_eq.mpr c23; clear c23
          by_cases c24 : t155 = 0
          ·rw [if_pos c24] at H
           have c24b0 := beq_iff_eq.mpr c24; have c24b1 := bne_eq_false_iff_eq.mpr c24; clear c24
           by_cases c25 : t154 = 3
           ·rw [if_pos c25] at H
            have c25b0 := beq_iff_eq.mpr c25; have c25b1 := bne_eq_false_iff_eq.mpr c25; clear c25; obtain ⟨y169, hy169⟩ : ∃ y_ : List Int, y_ = (([t125] : List Int)) := ⟨_, rfl⟩; (first | replace H := qsb hy169 H | rw [← hy169] at H)
            have Ny169 := qO hy169; clear hy169; replace H := Option.bind_eq_some_iff.mp H; obtain ⟨t172, A260, H⟩ := H; have A26 := qO A260; clear A260
            by_cases c27 : t172 = true
            ·subst c27
             rw [if_pos rfl] at H
             by_cases c28 : (t151.length : Int) = 1
             ·rw [if_pos c28] at H
              have c28b0 := beq_iff_eq.mpr c28; have c28b1 := bne_eq_false_iff_eq.mpr c28; clear c28; replace H := Option.bind_eq_some_iff.mp H; obtain ⟨t173, A290, H⟩ := H; have A29 := qO A290; clear A290
              by_cases c30 : t173 = true
              ·subst c30
               rw [if_pos rfl] at H
               by_cases c31 : t166 = 0
               ·rw [if_pos c31] at H
                have c31b0 := beq_iff_eq.mpr c31; have c31b1 := bne_eq_false_iff_eq.mpr c31; clear c31; obtain rfl := Option.some.inj H
                try go_wp2_with (first | ((with_reducible refine gate_callee (f := 18) rfl ?_); refine qGL 36 Try.func18 #[.slice A0 l0.length c0] ?_; (with_reducible refine (spec_StoreOf.calls kj2 _ _ l0 t101 t104 _ ?side1 ?side2 A6.out).mono ?_); (case side1 => exact qkC (Kd.C_below HR0.out HB.out)); (case side2 => exact HC0.out); rintro e w32 ⟨v102, rfl, ho0, hb⟩; have hx_ := qHX HB hb qa0; refine ⟨_, rfl, ?_⟩; have HO103 := qO (Kd.S_lower ho0 (below_size (below_step HB.out hx_))); replace HB := qO (below_step (below_step HB.out hx_) hb); clear hx_ hb ho0) | ((with_reducible refine gate_dst (N := 5) rfl ?_); (try (refine gate_guard (by rfl) ?_; dsimp only)); refine qX 5 #[.slice none 0 0, .int .i64 0] 28 ?_; intro gb105 hg w33 hbox hb; have hx_ := qHX HB hb qa0; have BK105 := qO (hbox); have GW105 := qO ((qa3 : w.heap.size ≤ gb105)); have GE105 := GW105; replace HO103 := qO (Kd.S_below (qrS HO103.out) hb); replace HB := qO (below_step (below_step HB.out hx_) hb); clear hx_ hb hbox hg; obtain ⟨Ao34, co34, eo34⟩ := Kd.S_slice HO103.out; subst eo34; obtain ⟨hcz35_0, hcz35_1, hfz35_0, hfz35_1⟩ := qb2 BK105.out) | ((with_reducible refine gate_callee (f := 36) rfl ?_); refine qGL 39 Try.func36 #[.agg #[.slice Ao34 t101.length co34, .int .i64 t104]] ?_; (with_reducible refine (impl_Begin.calls kj2 _ _ t101 t104 t106 t107 t110 t113 _ ?side1 ?side2 A7.out).mono ?_); (case side1 => exact (Kd.S_reads' (qrS (qS2 HO103.out BK105.out))).2.2); (case side2 => exact qa103); rintro e w36 ⟨v108, v111, rfl, ho0, ho1, hb⟩; refine ⟨_, rfl, ?_⟩; have HO109 := qO (Kd.R_lower ho0 (below_size (qH HB.out))); have HO112 := qO (Kd.R_lower ho1 (below_size (qH HB.out))); replace HO103 := qO (Kd.S_below (qrS (qS2 HO103.out BK105.out)) hb); replace BK105 := qO (blk_below (g := gb105) (o := .cells #[.slice Ao34 t101.length co34, .int .i64 t104] 28 (0, 0)) (qU (qU BK105.out)) hb); replace HB := qO (below_step (qH HB.out) hb); clear hb ho0 ho1) | ((with_reducible refine gate_dst (N := 6) rfl ?_); (try (refine gate_guard (by rfl) ?_; dsimp only)); refine qX 6 #[.int .i64 0, .slice none 0 0, .slice none 0 0] 65 ?_; intro gb114 hg w37 hbox hb; have hx_ := qHX HB hb qa0; have BK114 := qO (hbox); have GW114 := qO ((qa3 : w.heap.size ≤ gb114)); have GE114 := GW114; have NB105_114 := qO ((qLt hg (qk BK105.out))); have NB114_105 := qO (Ne.symm NB105_114.out); replace HO103 := qO (Kd.S_below (qrS HO103.out) hb); replace HO109 := qO (Kd.R_below (qrR HO109.out) hb); replace HO112 := qO (Kd.R_below (qrR HO112.out) hb); replace BK105 := qO (qB BK105.out hx_ hb); replace HB := qO (below_step (below_step HB.out hx_) hb); clear hx_ hb hbox hg; have hnb38 := NB114_105.out; have hnc38 := NB105_114.out; obtain ⟨hcz39_0, hcz39_1, hcz39_2, hfz39_0, hfz39_1, hfz39_2⟩ := qb3 BK114.out; obtain ⟨Ao40, co40, eo40⟩ := Kd.R_slice HO109.out; subst eo40; obtain ⟨Ao41, co41, eo41⟩ := Kd.R_slice HO112.out; subst eo41))
                generalize hw_ : (((w37.setCell ⟨gb114, 0, none⟩ (.int .i64 t106)).setCell ⟨gb114, 1, none⟩ (.slice Ao40 t107.length co40)).setCell ⟨gb114, 2, none⟩ (.slice Ao41 t110.length co41)) = w42; replace HO103 : Aside0 (Kd.S (Kd.slice 43 k43) 41 w42 w.heap.size (fun _ => True) (.slice Ao34 t101.length co34) t101) := ⟨by rw [← hw_]; exact qrS (qS3 HO103.out BK114.out)⟩; replace HO109 : Aside0 (Kd.R (Kd.int .i64) 3 w42 w.heap.size (fun _ => True) (.slice Ao40 t107.length co40) t107) := ⟨by rw [← hw_]; exact qrR (qR3 HO109.out BK114.out)⟩; replace HO112 : Aside0 (Kd.R k58 58 w42 w.heap.size (fun _ => True) (.slice Ao41 t110.length co41) t110) := ⟨by rw [← hw_]; exact qrR (qR3 HO112.out BK114.out)⟩; replace BK105 : Aside0 (w42.heap[gb105]? = some (.cells #[.slice Ao34 t101.length co34, .int .i64 t104] 28 (0, 0))) := ⟨by rw [← hw_]; exact qF (qF (qF BK105.out NB105_114.out) NB105_114.out) NB105_114.out⟩; replace BK114 : Aside0 (w42.heap[gb114]? = some (.cells #[.int .i64 t106, .slice Ao40 t107.length co40, .slice Ao41 t110.length co41] 65 (0, 0))) := ⟨by rw [← hw_]; exact qU (qU (qU BK114.out))⟩; replace HB : Aside0 (Below w.heap.size w w42) := ⟨qa95⟩; clear hw_; replace HO103 := qO (Kd.S_drew HO103.out); replace HO109 := qO (Kd.R_drew HO109.out); replace HO112 := qO (Kd.R_drew HO112.out); replace BK105 := qO (qkD BK105.out); replace BK114 := qO (qkD BK114.out); replace HB := qO (qbD HB.out); refine start_ (n := 12) (S := fun w' => w'.cell? ⟨gb105, 0, none⟩ = some (.slice Ao34 t101.length co34) ∧ w'.cell? ⟨gb105, 1, none⟩ = some (.int .i64 t104)) (ds := []) z7_0 qa18 rfl rfl ⟨qc0 BK105.out, qc1 BK105.out⟩ (fun hHeld => ?_); refine with_tabW laws_FnTxn.tab5 laws_FnTxn.bits5 (fun HT_ HW_ => ?_); generalize w42.drew = w43 at HO103 HO109 HO112 BK105 BK114 HB hHeld ⊢; refine qP 1 44 z7_1 ?_; refine qK2 0 43 z7_2 ?_; refine join_ (σ := Value × Value × Nat) 3 z7_3 (fun s_ => [(45, s_.1), (46, .tuple #[.agg #[s_.2.1, .int .i64 t121], .int .i64 t122, .int .i64 t123]), (8, .pointer (some ⟨s_.2.2, 0, none⟩)), (42, .tuple #[.agg #[s_.2.1, .int .i64 t121], .int .i64 t122, .int .i64 t123]), (47, .agg #[s_.2.1, .int .i64 t121]), (48, .int .i64 t122), (49, .int .i64 t123)]) (fun s_ w' => (w'.cell? ⟨gb105, 0, none⟩ = some (.slice Ao34 t101.length co34) ∧ w'.cell? ⟨gb105, 1, none⟩ = some (.int .i64 t104)) ∧ (Kd.S (Kd.slice 43 k43) 41 w' w.heap.size (fun k_ => some k_ ≠ (s_.2.1 : Value).ownBlock) (.slice Ao34 t101.length co34) t101) ∧ (Kd.R (Kd.int .i64) 3 w' w.heap.size (fun _ => True) (.slice Ao40 t107.length co40) t107) ∧ (Kd.R k58 58 w' w.heap.size (fun k_ => some k_ ≠ (s_.1 : Value).ownBlock) (.slice Ao41 t110.length co41) t110) ∧ (Kd.R k58 58 w' w.heap.size (fun k_ => some k_ ≠ (.slice Ao41 t110.length co41 : Value).ownBlock) s_.1 t115) ∧ (Kd.S (Kd.slice 43 k43) 41 w' w.heap.size (fun k_ => some k_ ≠ (.slice Ao34 t101.length co34 : Value).ownBlock) s_.2.1 t118) ∧ (w'.heap[gb105]? = some (.cells #[.slice Ao34 t101.length co34, .int .i64 t104] 28 (0, 0))) ∧ (w'.heap[gb114]? = some (.cells #[.int .i64 t106, .slice Ao40 t107.length co40, .slice Ao41 t110.length co41] 65 (0, 0))) ∧ (w'.heap[s_.2.2]? = some (.cells #[.slice none 0 0, .int .i64 0] 28 (0, 0))) ∧ (w.heap.size ≤ s_.2.2) ∧ (w.heap.size ≤ s_.2.2) ∧ (gb105 ≠ s_.2.2) ∧ (s_.2.2 ≠ gb105) ∧ (gb114 ≠ s_.2.2) ∧ (s_.2.2 ≠ gb114) ∧ (Below w.heap.size w w')) ?_ ?_; rotate_left
                ·intro hCont
                 refine two_ (i := 2) (j := 8) (Ni := some 45) (Nj := some 8) z7_4 z7_5 rfl rfl rfl rfl (two_of HT_.out qa18) qa30 qa30 (fun K hK => ?_) (fun K hK => ?_)
                 ·skip
                  refine qGo Try.func31 #[.slice A1 l1.length c1] ?_; (with_reducible refine (spec_PutsOf.calls kj2 _ _ l1 t115 _ ?side1 ?side2 A8.out).mono ?_); (case side1 => exact qa93); (case side2 => exact HC1.out); rintro e w44 ⟨v116, rfl, ho0, hb⟩; have hx_ := qHX HB hb qa0; refine ⟨_, rfl, ?_⟩; have HO117 := qO (Kd.R_lower (Kd.R_new' ho0 (Kd.R_lt (qrR HO112.out))) (below_size (below_step HB.out hx_))); replace HO103 := qO (Kd.S_below (qrS HO103.out) hb); replace HO109 := qO (Kd.R_below (qrR HO109.out) hb); replace HO112 := qO (Kd.R_elder' (qrR HO112.out) (Kd.R_base ho0) hb); replace BK105 := qO (qB BK105.out hx_ hb); replace BK114 := qO (qB BK114.out hx_ hb); replace HB := qO (below_step (below_step HB.out hx_) hb); clear hx_ hb ho0; obtain ⟨Ao45, co45, eo45⟩ := Kd.R_slice HO117.out; (first | subst eo45 | (injection eo45 with f1_ f2_ f3_; have f4_ := f1_.symm; have f5_ := f3_.symm; clear f1_ f2_ f3_; subst f4_; subst f5_)); refine hK.out _ _ ⟨qc0 BK105.out, qc1 BK105.out⟩ (fun hHeld => ?_); clear hK K; refine qNm ?_
                  refine two_ (i := 3) (j := 8) (Ni := some 46) (Nj := some 8) z7_6 z7_7 rfl rfl rfl rfl (two_of HT_.out qa18) qa30 qa30 (fun K hK => ?_) (fun K hK => ?_)
                  ·skip
                   refine qGo Try.func28 #[.agg #[.slice Ao34 t101.length co34, .int .i64 t104], .slice Ao45 t115.length co45] ?_; (with_reducible refine (impl_WriteAll.calls kj2 _ _ t101 t104 _ _ t115 t118 t121 t122 t123 _ ?side1 ?side2 ?side3 ?side4 A9.out).mono ?_); (case side1 => exact qa125); (case side2 => exact qa103); (case side3 => exact qkC ((Kd.R_reads' HO117.out).2.2)); (case side4 => exact (Kd.R_reads' HO117.out).2.1); rintro e w46 ⟨v119, rfl, ho0, hb⟩; have hx_ := qHX HB hb qa0; refine ⟨_, rfl, ?_⟩; have HO120 := qO (Kd.S_lower (Kd.S_new' ho0 (Kd.S_lt (qrS HO103.out))) (below_size (below_step HB.out hx_))); replace HO103 := qO (Kd.S_elder' (qrS HO103.out) (Kd.S_base ho0) hb); replace HO109 := qO (Kd.R_below (qrR HO109.out) hb); replace HO112 := qO (Kd.R_below (qrR HO112.out) hb); replace HO117 := qO (Kd.R_below (qrR HO117.out) hb); replace BK105 := qO (qB BK105.out hx_ hb); replace BK114 := qO (qB BK114.out hx_ hb); replace HB := qO (below_step (below_step HB.out hx_) hb); clear hx_ hb ho0; refine hK.out _ _ ⟨qc0 BK105.out, qc1 BK105.out⟩ (fun hHeld => ?_); clear hK K; refine qNm ?_; refine qP 4 42 z7_8 ?_; refine qP 5 47 z7_9 ?_; refine qP 6 48 z7_10 ?_; refine qP 7 49 z7_11 ?_; refine qOn 8 (some 8) z7_3 fun K hK => ?_; refine qX2 8 #[.slice none 0 0, .int .i64 0] 28 ?_; intro gb124 hg w47 hbox hb; have hx_ := qHX HB hb qa0; have BK124 := qO (hbox); have GW124 := qO ((qa3 : w.heap.size ≤ gb124)); have GE124 := GW124; have NB105_124 := qO ((qLt hg (qk BK105.out))); have NB124_105 := qO (Ne.symm NB105_124.out); have NB114_124 := qO ((qLt hg (qk BK114.out))); have NB124_114 := qO (Ne.symm NB114_124.out); replace HO103 := qO (Kd.S_below (qrS HO103.out) hb); replace HO109 := qO (Kd.R_below (qrR HO109.out) hb); replace HO112 := qO (Kd.R_below (qrR HO112.out) hb); replace HO117 := qO (Kd.R_below (qrR HO117.out) hb); replace HO120 := qO (Kd.S_below (qrS HO120.out) hb); replace BK105 := qO (qB BK105.out hx_ hb); replace BK114 := qO (qB BK114.out hx_ hb); replace HB := qO (below_step (below_step HB.out hx_) hb); clear hx_ hb hbox hg; refine hK.out _ _ ⟨qc0 BK105.out, qc1 BK105.out⟩ (fun hHeld => ?_); clear hK K; refine qNm ?_
                   exact norm_ (by simp only [putAll, Act.put, qzA, qzB, qzC]) (hCont (.slice Ao45 t115.length co45, v119, gb124) _ ⟨hHeld, (qrS (Kd.S_mono HO103.out (fun _ hk => hk.2))), (qrR HO109.out), (qrR (Kd.R_mono HO112.out (fun _ hk => hk.2))), (qrR (Kd.R_mono HO117.out (fun _ hk => hk.2))), (qrS (Kd.S_mono HO120.out (fun _ hk => hk.2))), (qk BK105.out), (qk BK114.out), (qk BK124.out), GW124.out, GE124.out, NB105_124.out, NB124_105.out, NB114_124.out, NB124_114.out, (qH HB.out)⟩)
                  ·skip
                   refine qX2 8 #[.slice none 0 0, .int .i64 0] 28 ?_; intro gb124 hg w45 hbox hb; have hx_ := qHX HB hb qa0; have BK124 := qO (hbox); have GW124 := qO ((qa3 : w.heap.size ≤ gb124)); have GE124 := GW124; have NB105_124 := qO ((qLt hg (qk BK105.out))); have NB124_105 := qO (Ne.symm NB105_124.out); have NB114_124 := qO ((qLt hg (qk BK114.out))); have NB124_114 := qO (Ne.symm NB114_124.out); replace HO103 := qO (Kd.S_below (qrS HO103.out) hb); replace HO109 := qO (Kd.R_below (qrR HO109.out) hb); replace HO112 := qO (Kd.R_below (qrR HO112.out) hb); replace HO117 := qO (Kd.R_below (qrR HO117.out) hb); replace BK105 := qO (qB BK105.out hx_ hb); replace BK114 := qO (qB BK114.out hx_ hb); replace HB := qO (below_step (below_step HB.out hx_) hb); clear hx_ hb hbox hg; obtain ⟨Ao46, co46, eo46⟩ := Kd.R_slice HO117.out; (first | subst eo46 | (injection eo46 with f1_ f2_ f3_; have f4_ := f1_.symm; have f5_ := f3_.symm; clear f1_ f2_ f3_; subst f4_; subst f5_)); refine hK.out _ _ ⟨qc0 BK105.out, qc1 BK105.out⟩ (fun hHeld => ?_); clear hK K; refine qNm ?_; refine qOn 3 (some 46) z7_12 fun K hK => ?_; refine qGo Try.func28 #[.agg #[.slice Ao34 t101.length co34, .int .i64 t104], .slice Ao46 t115.length co46] ?_; (with_reducible refine (impl_WriteAll.calls kj2 _ _ t101 t104 _ _ t115 t118 t121 t122 t123 _ ?side1 ?side2 ?side3 ?side4 A9.out).mono ?_); (case side1 => exact qa125); (case side2 => exact qa103); (case side3 => exact qkC ((Kd.R_reads' HO117.out).2.2)); (case side4 => exact (Kd.R_reads' HO117.out).2.1); rintro e w47 ⟨v119, rfl, ho0, hb⟩; have hx_ := qHX HB hb qa0; refine ⟨_, rfl, ?_⟩; have HO120 := qO (Kd.S_lower (Kd.S_new' ho0 (Kd.S_lt (qrS HO103.out))) (below_size (below_step HB.out hx_))); replace HO103 := qO (Kd.S_elder' (qrS HO103.out) (Kd.S_base ho0) hb); replace HO109 := qO (Kd.R_below (qrR HO109.out) hb); replace HO112 := qO (Kd.R_below (qrR HO112.out) hb); replace HO117 := qO (Kd.R_below (qrR HO117.out) hb); replace BK105 := qO (qB BK105.out hx_ hb); replace BK114 := qO (qB BK114.out hx_ hb); replace BK124 := qO (qB BK124.out hx_ hb); replace HB := qO (below_step (below_step HB.out hx_) hb); clear hx_ hb ho0; refine hK.out _ _ ⟨qc0 BK105.out, qc1 BK105.out⟩ (fun hHeld => ?_); clear hK K; refine qNm ?_; refine qP 4 42 z7_13 ?_; refine qP 5 47 z7_14 ?_; refine qP 6 48 z7_15 ?_; refine qP 7 49 z7_3 ?_
                   exact norm_ (by simp only [putAll, Act.put, qzA, qzB, qzC]) (hCont (.slice Ao46 t115.length co46, v119, gb124) _ ⟨hHeld, (qrS (Kd.S_mono HO103.out (fun _ hk => hk.2))), (qrR HO109.out), (qrR (Kd.R_mono HO112.out (fun _ hk => hk.2))), (qrR (Kd.R_mono HO117.out (fun _ hk => hk.2))), (qrS (Kd.S_mono HO120.out (fun _ hk => hk.2))), (qk BK105.out), (qk BK114.out), (qk BK124.out), GW124.out, GE124.out, NB105_124.out, NB124_105.out, NB114_124.out, NB124_114.out, (qH HB.out)⟩)
                 ·skip
                  refine qX2 8 #[.slice none 0 0, .int .i64 0] 28 ?_; intro gb124 hg w44 hbox hb; have hx_ := qHX HB hb qa0; have BK124 := qO (hbox); have GW124 := qO ((qa3 : w.heap.size ≤ gb124)); have GE124 := GW124; have NB105_124 := qO ((qLt hg (qk BK105.out))); have NB124_105 := qO (Ne.symm NB105_124.out); have NB114_124 := qO ((qLt hg (qk BK114.out))); have NB124_114 := qO (Ne.symm NB114_124.out); replace HO103 := qO (Kd.S_below (qrS HO103.out) hb); replace HO109 := qO (Kd.R_below (qrR HO109.out) hb); replace HO112 := qO (Kd.R_below (qrR HO112.out) hb); replace BK105 := qO (qB BK105.out hx_ hb); replace BK114 := qO (qB BK114.out hx_ hb); replace HB := qO (below_step (below_step HB.out hx_) hb); clear hx_ hb hbox hg; refine hK.out _ _ ⟨qc0 BK105.out, qc1 BK105.out⟩ (fun hHeld => ?_); clear hK K; refine qNm ?_; refine qOn 2 (some 45) z7_7 fun K hK => ?_; refine qGo Try.func31 #[.slice A1 l1.length c1] ?_; (with_reducible refine (spec_PutsOf.calls kj2 _ _ l1 t115 _ ?side1 ?side2 A8.out).mono ?_); (case side1 => exact qa93); (case side2 => exact HC1.out); rintro e w45 ⟨v116, rfl, ho0, hb⟩; have hx_ := qHX HB hb qa0; refine ⟨_, rfl, ?_⟩; have HO117 := qO (Kd.R_lower (Kd.R_new' ho0 (Kd.R_lt (qrR HO112.out))) (below_size (below_step HB.out hx_))); replace HO103 := qO (Kd.S_below (qrS HO103.out) hb); replace HO109 := qO (Kd.R_below (qrR HO109.out) hb); replace HO112 := qO (Kd.R_elder' (qrR HO112.out) (Kd.R_base ho0) hb); replace BK105 := qO (qB BK105.out hx_ hb); replace BK114 := qO (qB BK114.out hx_ hb); replace BK124 := qO (qB BK124.out hx_ hb); replace HB := qO (below_step (below_step HB.out hx_) hb); clear hx_ hb ho0; obtain ⟨Ao46, co46, eo46⟩ := Kd.R_slice HO117.out; (first | subst eo46 | (injection eo46 with f1_ f2_ f3_; have f4_ := f1_.symm; have f5_ := f3_.symm; clear f1_ f2_ f3_; subst f4_; subst f5_)); refine hK.out _ _ ⟨qc0 BK105.out, qc1 BK105.out⟩ (fun hHeld => ?_); clear hK K; refine qNm ?_; refine qOn 3 (some 46) z7_12 fun K hK => ?_; refine qGo Try.func28 #[.agg #[.slice Ao34 t101.length co34, .int .i64 t104], .slice Ao46 t115.length co46] ?_; (with_reducible refine (impl_WriteAll.calls kj2 _ _ t101 t104 _ _ t115 t118 t121 t122 t123 _ ?side1 ?side2 ?side3 ?side4 A9.out).mono ?_); (case side1 => exact qa125); (case side2 => exact qa103); (case side3 => exact qkC ((Kd.R_reads' HO117.out).2.2)); (case side4 => exact (Kd.R_reads' HO117.out).2.1); rintro e w47 ⟨v119, rfl, ho0, hb⟩; have hx_ := qHX HB hb qa0; refine ⟨_, rfl, ?_⟩; have HO120 := qO (Kd.S_lower (Kd.S_new' ho0 (Kd.S_lt (qrS HO103.out))) (below_size (below_step HB.out hx_))); replace HO103 := qO (Kd.S_elder' (qrS HO103.out) (Kd.S_base ho0) hb); replace HO109 := qO (Kd.R_below (qrR HO109.out) hb); replace HO112 := qO (Kd.R_below (qrR HO112.out) hb); replace HO117 := qO (Kd.R_below (qrR HO117.out) hb); replace BK105 := qO (qB BK105.out hx_ hb); replace BK114 := qO (qB BK114.out hx_ hb); replace BK124 := qO (qB BK124.out hx_ hb); replace HB := qO (below_step (below_step HB.out hx_) hb); clear hx_ hb ho0; refine hK.out _ _ ⟨qc0 BK105.out, qc1 BK105.out⟩ (fun hHeld => ?_); clear hK K; refine qNm ?_; refine qP 4 42 z7_13 ?_; refine qP 5 47 z7_14 ?_; refine qP 6 48 z7_15 ?_; refine qP 7 49 z7_3 ?_
                  exact norm_ (by simp only [putAll, Act.put, qzA, qzB, qzC]) (hCont (.slice Ao46 t115.length co46, v119, gb124) _ ⟨hHeld, (qrS (Kd.S_mono HO103.out (fun _ hk => hk.2))), (qrR HO109.out), (qrR (Kd.R_mono HO112.out (fun _ hk => hk.2))), (qrR (Kd.R_mono HO117.out (fun _ hk => hk.2))), (qrS (Kd.S_mono HO120.out (fun _ hk => hk.2))), (qk BK105.out), (qk BK114.out), (qk BK124.out), GW124.out, GE124.out, NB105_124.out, NB124_105.out, NB114_124.out, NB124_114.out, (qH HB.out)⟩)
                rintro ⟨v116, v119, gb124⟩ w48 ⟨hS_, h0_, h1_, h2_, h3_, h4_, h5_, h6_, h7_, h8_, h9_, h10_, h11_, h12_, h13_, h14_⟩; have HO117 : Aside0 (Kd.R k58 58 w48 w.heap.size (fun k_ => some k_ ≠ (.slice Ao41 t110.length co41 : Value).ownBlock) v116 t115) := qO h3_; have HO120 : Aside0 (Kd.S (Kd.slice 43 k43) 41 w48 w.heap.size (fun k_ => some k_ ≠ (.slice Ao34 t101.length co34 : Value).ownBlock) v119 t118) := qO h4_; have BK124 : Aside0 (w48.heap[gb124]? = some (.cells #[.slice none 0 0, .int .i64 0] 28 (0, 0))) := qO h7_; have GW124 : Aside0 (w.heap.size ≤ gb124) := qO h8_; have GE124 : Aside0 (w.heap.size ≤ gb124) := qO h9_; have NB105_124 : Aside0 (gb105 ≠ gb124) := qO h10_; have NB124_105 : Aside0 (gb124 ≠ gb105) := qO h11_; have NB114_124 : Aside0 (gb114 ≠ gb124) := qO h12_; have NB124_114 : Aside0 (gb124 ≠ gb114) := qO h13_; replace HO103 : Aside0 (Kd.S (Kd.slice 43 k43) 41 w48 w.heap.size (fun k_ => some k_ ≠ (v119 : Value).ownBlock) (.slice Ao34 t101.length co34) t101) := qO h0_; replace HO109 := qO h1_; replace HO112 : Aside0 (Kd.R k58 58 w48 w.heap.size (fun k_ => some k_ ≠ (v116 : Value).ownBlock) (.slice Ao41 t110.length co41) t110) := qO h2_; replace BK105 := qO h5_; replace BK114 := qO h6_; replace HB := qO h14_; clear h0_ h1_ h2_ h3_ h4_ h5_ h6_ h7_ h8_ h9_ h10_ h11_ h12_ h13_ h14_; have hHeld : w48.cell? ⟨gb105, 0, none⟩ = some (.slice Ao34 t101.length co34) ∧ w48.cell? ⟨gb105, 1, none⟩ = some (.int .i64 t104) := hS_; obtain ⟨Ao49, co49, eo49⟩ := Kd.S_slice HO120.out; (first | subst eo49 | (injection eo49 with f1_ f2_ f3_; have f4_ := f1_.symm; have f5_ := f3_.symm; clear f1_ f2_ f3_; subst f4_; subst f5_)); refine qNp ?_; refine qOn 9 none z7_16 fun K hK => ?_; have hs50 := qc0 BK124.out; have hfs50 := blk_frozen BK124.out 0; have hns50_0 := NB105_124.out; have hns50_1 := NB114_124.out; have hms50_0 := NB124_105.out; have hms50_1 := NB124_114.out; have hs51 := qc1 BK124.out; have hfs51 := blk_frozen BK124.out 1; have hns51_0 := NB105_124.out; have hns51_1 := NB114_124.out; have hms51_0 := NB124_105.out; have hms51_1 := NB124_114.out; refine skip_ (w1 := ?_) (by rfl) rfl ?_ ?_; rotate_left
                ·go_simp
                 rfl
                refine hK.out _ _ ⟨((cell_far (p := ⟨gb124, _, none⟩) NB105_124.out _).trans (((cell_far (p := ⟨gb124, _, none⟩) NB105_124.out _).trans (hHeld.1)))), ((cell_far (p := ⟨gb124, _, none⟩) NB105_124.out _).trans (((cell_far (p := ⟨gb124, _, none⟩) NB105_124.out _).trans (hHeld.2))))⟩ (fun hHeld => ?_); clear hK K; refine qP 10 9 z7_17 ?_; refine qP 11 10 z7_18 ?_; refine done_ (done_of HT_.out qa18) ?_
                try go_wp2_with (first | ((with_reducible refine gate_callee (f := 19) rfl ?_); refine qGL 51 Try.func19 #[.slice A1 l1.length c1, .int .i64 0, .int .i64 16] ?_; (with_reducible refine (laws_at.calls _ _ l1 0 16 t125 _ ?side1 ?side2 A10.out).mono ?_); (case side1 => exact Kd.C_below HR1.out (qH HB.out)); (case side2 => exact HC1.out); rintro e w' ⟨rfl, ⟨nd, rfl⟩⟩; refine ⟨_, rfl, ?_⟩; have hnb52 := NB124_105.out; have hnc52 := NB105_124.out; have hnb53 := NB124_114.out; have hnc53 := NB114_124.out; obtain ⟨hcz54_0, hcz54_1, hfz54_0, hfz54_1⟩ := qb2 BK124.out; obtain ⟨hcz55_0, hcz55_1, hcz55_2, hfz55_0, hfz55_1, hfz55_2⟩ := qb3 BK114.out) | ((with_reducible refine gate_callee (f := 37) rfl ?_); refine qGL 56 Try.func37 #[.agg #[.slice Ao49 t118.length co49, .int .i64 t121], .agg #[.int .i64 t106, .slice Ao40 t107.length co40, .slice Ao41 t110.length co41], .int .i64 t125] ?_; (with_reducible refine (impl_ReadTxn.calls kj2 _ _ t118 t121 t106 _ _ t107 _ _ t110 t125 t126 t127 t130 t133 t134 _ ?side1 ?side2 ?side3 ?side4 ?side5 ?side6 A11.out).mono ?_); (case side1 => exact (Kd.S_reads' (qrS (qS2 HO120.out BK124.out))).2.2); (case side2 => exact (Kd.S_reads' HO120.out).2.1); (case side3 => exact (Kd.R_reads' (qrR (qR2 HO109.out BK124.out))).2.2); (case side4 => exact (Kd.R_reads' HO109.out).2.1); (case side5 => exact (Kd.R_reads' (qrR (qR2 HO112.out BK124.out))).2.2); (case side6 => exact (Kd.R_reads' HO112.out).2.1); rintro e w56 ⟨v128, v131, rfl, ho0, ho1, hb⟩; refine ⟨_, rfl, ?_⟩; have HO129 := qO (Kd.R_lower (Kd.R_new' ho0 (Kd.R_lt (qrR (qR2 HO109.out BK124.out)))) (below_size (qH HB.out))); have HO132 := qO (Kd.R_lower (Kd.R_new' (Kd.R_new' ho1 (Kd.R_lt (qrR (qR2 HO112.out BK124.out)))) (Kd.R_lt (qrR (qR2 HO117.out BK124.out)))) (below_size (qH HB.out))); replace HO103 := qO (Kd.S_below (qrS (qS2 HO103.out BK124.out)) hb); replace HO109 := qO (Kd.R_elder' (qrR (qR2 HO109.out BK124.out)) (Kd.R_base ho0) hb); replace HO112 := qO (Kd.R_elder' (qrR (qR2 HO112.out BK124.out)) (Kd.R_base ho1) hb); replace HO117 := qO (Kd.R_elder' (qrR (qR2 HO117.out BK124.out)) (Kd.R_base ho1) hb); replace HO120 := qO (Kd.S_below (qrS (qS2 HO120.out BK124.out)) hb); replace BK105 := qO (blk_below (g := gb105) (o := .cells #[.slice Ao34 t101.length co34, .int .i64 t104] 28 (0, 0)) (qkN (qF (qF BK105.out NB105_124.out) NB105_124.out) _) hb); replace BK114 := qO (blk_below (g := gb114) (o := .cells #[.int .i64 t106, .slice Ao40 t107.length co40, .slice Ao41 t110.length co41] 65 (0, 0)) (qkN (qF (qF BK114.out NB114_124.out) NB114_124.out) _) hb); replace BK124 := qO (blk_below (g := gb124) (o := .cells #[.slice Ao49 t118.length co49, .int .i64 t121] 28 (0, 0)) (qkN (qU (qU BK124.out)) _) hb); replace HB := qO (below_step (qH HB.out) hb); clear hb ho0 ho1) | ((with_reducible refine gate_dst (N := 12) rfl ?_); (try (refine gate_guard (by rfl) ?_; dsimp only)); refine qX 12 #[.int .i64 0, .slice none 0 0, .slice none 0 0] 65 ?_; intro gb135 hg w57 hbox hb; have hx_ := qHX HB hb qa0; have BK135 := qO (hbox); have GW135 := qO ((qa3 : w.heap.size ≤ gb135)); have GE135 := GW135; have NB105_135 := qO ((qLt hg (qk BK105.out))); have NB135_105 := qO (Ne.symm NB105_135.out); have NB114_135 := qO ((qLt hg (qk BK114.out))); have NB135_114 := qO (Ne.symm NB114_135.out); have NB124_135 := qO ((qLt hg (qk BK124.out))); have NB135_124 := qO (Ne.symm NB124_135.out); replace HO103 := qO (Kd.S_below (qrS HO103.out) hb); replace HO109 := qO (Kd.R_below (qrR HO109.out) hb); replace HO112 := qO (Kd.R_below (qrR HO112.out) hb); replace HO117 := qO (Kd.R_below (qrR HO117.out) hb); replace HO120 := qO (Kd.S_below (qrS HO120.out) hb); replace HO129 := qO (Kd.R_below (qrR HO129.out) hb); replace HO132 := qO (Kd.R_below (qrR HO132.out) hb); replace BK105 := qO (qB BK105.out hx_ hb); replace BK114 := qO (qB BK114.out hx_ hb); replace BK124 := qO (qB BK124.out hx_ hb); replace HB := qO (below_step (below_step HB.out hx_) hb); clear hx_ hb hbox hg; have hnb58 := NB135_105.out; have hnc58 := NB105_135.out; have hnb59 := NB135_114.out; have hnc59 := NB114_135.out; have hnb60 := NB135_124.out; have hnc60 := NB124_135.out; obtain ⟨hcz61_0, hcz61_1, hcz61_2, hfz61_0, hfz61_1, hfz61_2⟩ := qb3 BK135.out; obtain ⟨Ao62, co62, eo62⟩ := Kd.R_slice HO129.out; subst eo62; obtain ⟨Ao63, co63, eo63⟩ := Kd.R_slice HO132.out; subst eo63; obtain ⟨hcz64_0, hcz64_1, hfz64_0, hfz64_1⟩ := qb2 BK105.out) | ((with_reducible refine gate_callee (f := 23) rfl ?_); refine qGL 65 Try.func23 #[.agg #[.slice Ao34 t101.length co34, .int .i64 t104], .int .i64 t125, .int .i64 t104] ?_; (with_reducible refine (impl_ReadAt.calls kj2 _ _ t101 t104 t125 t104 t136 t137 _ ?side1 ?side2 A12.out).mono ?_); (case side1 => exact (Kd.S_reads' (qrS (qS3 HO103.out BK135.out))).2.2); (case side2 => exact qa103); rintro e w65 ⟨rfl, hb⟩; refine ⟨_, rfl, ?_⟩; replace HO103 := qO (Kd.S_below (qrS (qS3 HO103.out BK135.out)) hb); replace HO109 := qO (Kd.R_below (qrR (qR3 HO109.out BK135.out)) hb); replace HO112 := qO (Kd.R_below (qrR (qR3 HO112.out BK135.out)) hb); replace HO117 := qO (Kd.R_below (qrR (qR3 HO117.out BK135.out)) hb); replace HO120 := qO (Kd.S_below (qrS (qS3 HO120.out BK135.out)) hb); replace HO129 := qO (Kd.R_below (qrR (qR3 HO129.out BK135.out)) hb); replace HO132 := qO (Kd.R_below (qrR (qR3 HO132.out BK135.out)) hb); replace BK105 := qO (blk_below (g := gb105) (o := .cells #[.slice Ao34 t101.length co34, .int .i64 t104] 28 (0, 0)) (qF (qF (qF BK105.out NB105_135.out) NB105_135.out) NB105_135.out) hb); replace BK114 := qO (blk_below (g := gb114) (o := .cells #[.int .i64 t106, .slice Ao40 t107.length co40, .slice Ao41 t110.length co41] 65 (0, 0)) (qF (qF (qF BK114.out NB114_135.out) NB114_135.out) NB114_135.out) hb); replace BK124 := qO (blk_below (g := gb124) (o := .cells #[.slice Ao49 t118.length co49, .int .i64 t121] 28 (0, 0)) (qF (qF (qF BK124.out NB124_135.out) NB124_135.out) NB124_135.out) hb); replace BK135 := qO (blk_below (g := gb135) (o := .cells #[.int .i64 t126, .slice Ao62 t127.length co62, .slice Ao63 t130.length co63] 65 (0, 0)) (qU (qU (qU BK135.out))) hb); replace HB := qO (below_step (qH HB.out) hb); clear hb; obtain ⟨hcz66_0, hcz66_1, hfz66_0, hfz66_1⟩ := qb2 BK124.out; obtain ⟨hcz67_0, hcz67_1, hcz67_2, hfz67_0, hfz67_1, hfz67_2⟩ := qb3 BK135.out) | ((with_reducible refine gate_callee (f := 38) rfl ?_); refine qGL 73 Try.func38 #[.agg #[.slice Ao49 t118.length co49, .int .i64 t121], .agg #[.int .i64 t126, .slice Ao62 t127.length co62, .slice Ao63 t130.length co63], .agg #[.int .i64 t125, .int .i64 3]] ?_; (with_reducible refine (impl_WriteTxn.calls kj2 _ _ t118 t121 t126 _ _ t127 _ _ t130 t125 3 t138 t139 t142 t145 _ ?side1 ?side2 ?side3 ?side4 ?side5 ?side6 A13.out).mono ?_); (case side1 => exact qkC ((Kd.S_reads' HO120.out).2.2)); (case side2 => exact (Kd.S_reads' HO120.out).2.1); (case side3 => exact qkC ((Kd.R_reads' HO129.out).2.2)); (case side4 => exact (Kd.R_reads' HO129.out).2.1); (case side5 => exact qkC ((Kd.R_reads' HO132.out).2.2)); (case side6 => exact (Kd.R_reads' HO132.out).2.1); rintro e w68 ⟨v140, v143, rfl, ho0, ho1, hb⟩; have hx_ := qHX HB hb qa0; refine ⟨_, rfl, ?_⟩; have HO141 := qO (Kd.R_lower (Kd.R_new' (Kd.R_new' ho0 (Kd.R_lt (qrR HO109.out))) (Kd.R_lt (qrR HO129.out))) (below_size (below_step HB.out hx_))); have HO144 := qO (Kd.R_lower (Kd.R_new' (Kd.R_new' (Kd.R_new' ho1 (Kd.R_lt (qrR HO112.out))) (Kd.R_lt (qrR HO117.out))) (Kd.R_lt (qrR HO132.out))) (below_size (below_step HB.out hx_))); replace HO103 := qO (Kd.S_below (qrS HO103.out) hb); replace HO109 := qO (Kd.R_elder' (qrR HO109.out) (Kd.R_base ho0) hb); replace HO112 := qO (Kd.R_elder' (qrR HO112.out) (Kd.R_base ho1) hb); replace HO117 := qO (Kd.R_elder' (qrR HO117.out) (Kd.R_base ho1) hb); replace HO120 := qO (Kd.S_below (qrS HO120.out) hb); replace HO129 := qO (Kd.R_elder' (qrR HO129.out) (Kd.R_base ho0) hb); replace HO132 := qO (Kd.R_elder' (qrR HO132.out) (Kd.R_base ho1) hb); replace BK105 := qO (qB BK105.out hx_ hb); replace BK114 := qO (qB BK114.out hx_ hb); replace BK124 := qO (qB BK124.out hx_ hb); replace BK135 := qO (qB BK135.out hx_ hb); replace HB := qO (below_step (below_step HB.out hx_) hb); clear hx_ hb ho0 ho1) | ((with_reducible refine gate_dst (N := 17) rfl ?_); (try (refine gate_guard (by rfl) ?_; dsimp only)); refine qX 17 #[.int .i64 0, .slice none 0 0, .slice none 0 0] 65 ?_; intro gb146 hg w69 hbox hb; have hx_ := qHX HB hb qa0; have BK146 := qO (hbox); have GW146 := qO ((qa3 : w.heap.size ≤ gb146)); have GE146 := GW146; have NB105_146 := qO ((qLt hg (qk BK105.out))); have NB146_105 := qO (Ne.symm NB105_146.out); have NB114_146 := qO ((qLt hg (qk BK114.out))); have NB146_114 := qO (Ne.symm NB114_146.out); have NB124_146 := qO ((qLt hg (qk BK124.out))); have NB146_124 := qO (Ne.symm NB124_146.out); have NB135_146 := qO ((qLt hg (qk BK135.out))); have NB146_135 := qO (Ne.symm NB135_146.out); replace HO103 := qO (Kd.S_below (qrS HO103.out) hb); replace HO109 := qO (Kd.R_below (qrR HO109.out) hb); replace HO112 := qO (Kd.R_below (qrR HO112.out) hb); replace HO117 := qO (Kd.R_below (qrR HO117.out) hb); replace HO120 := qO (Kd.S_below (qrS HO120.out) hb); replace HO129 := qO (Kd.R_below (qrR HO129.out) hb); replace HO132 := qO (Kd.R_below (qrR HO132.out) hb); replace HO141 := qO (Kd.R_below (qrR HO141.out) hb); replace HO144 := qO (Kd.R_below (qrR HO144.out) hb); replace BK105 := qO (qB BK105.out hx_ hb); replace BK114 := qO (qB BK114.out hx_ hb); replace BK124 := qO (qB BK124.out hx_ hb); replace BK135 := qO (qB BK135.out hx_ hb); replace HB := qO (below_step (below_step HB.out hx_) hb); clear hx_ hb hbox hg; have hnb70 := NB146_105.out; have hnc70 := NB105_146.out; have hnb71 := NB146_114.out; have hnc71 := NB114_146.out; have hnb72 := NB146_124.out; have hnc72 := NB124_146.out; have hnb73 := NB146_135.out; have hnc73 := NB135_146.out; obtain ⟨hcz74_0, hcz74_1, hcz74_2, hfz74_0, hfz74_1, hfz74_2⟩ := qb3 BK146.out; obtain ⟨Ao75, co75, eo75⟩ := Kd.R_slice HO141.out; subst eo75; obtain ⟨Ao76, co76, eo76⟩ := Kd.R_slice HO144.out; subst eo76; obtain ⟨hcz77_0, hcz77_1, hfz77_0, hfz77_1⟩ := qb2 BK124.out) | ((with_reducible refine gate_callee (f := 37) rfl ?_); refine qGL 80 Try.func37 #[.agg #[.slice Ao49 t118.length co49, .int .i64 t121], .agg #[.int .i64 t138, .slice Ao75 t139.length co75, .slice Ao76 t142.length co76], .int .i64 t125] ?_; (with_reducible refine (impl_ReadTxn.calls kj2 _ _ t118 t121 t138 _ _ t139 _ _ t142 t125 t147 t148 t151 t154 t155 _ ?side1 ?side2 ?side3 ?side4 ?side5 ?side6 A14.out).mono ?_); (case side1 => exact (Kd.S_reads' (qrS (qS3 HO120.out BK146.out))).2.2); (case side2 => exact (Kd.S_reads' HO120.out).2.1); (case side3 => exact (Kd.R_reads' (qrR (qR3 HO141.out BK146.out))).2.2); (case side4 => exact (Kd.R_reads' HO141.out).2.1); (case side5 => exact (Kd.R_reads' (qrR (qR3 HO144.out BK146.out))).2.2); (case side6 => exact (Kd.R_reads' HO144.out).2.1); rintro e w78 ⟨v149, v152, rfl, ho0, ho1, hb⟩; refine ⟨_, rfl, ?_⟩; have HO150 := qO (Kd.R_lower (Kd.R_new' (Kd.R_new' (Kd.R_new' ho0 (Kd.R_lt (qrR (qR3 HO109.out BK146.out)))) (Kd.R_lt (qrR (qR3 HO129.out BK146.out)))) (Kd.R_lt (qrR (qR3 HO141.out BK146.out)))) (below_size (qH HB.out))); have HO153 := qO (Kd.R_lower (Kd.R_new' (Kd.R_new' (Kd.R_new' (Kd.R_new' ho1 (Kd.R_lt (qrR (qR3 HO112.out BK146.out)))) (Kd.R_lt (qrR (qR3 HO117.out BK146.out)))) (Kd.R_lt (qrR (qR3 HO132.out BK146.out)))) (Kd.R_lt (qrR (qR3 HO144.out BK146.out)))) (below_size (qH HB.out))); replace HO103 := qO (Kd.S_below (qrS (qS3 HO103.out BK146.out)) hb); replace HO109 := qO (Kd.R_elder' (qrR (qR3 HO109.out BK146.out)) (Kd.R_base ho0) hb); replace HO112 := qO (Kd.R_elder' (qrR (qR3 HO112.out BK146.out)) (Kd.R_base ho1) hb); replace HO117 := qO (Kd.R_elder' (qrR (qR3 HO117.out BK146.out)) (Kd.R_base ho1) hb); replace HO120 := qO (Kd.S_below (qrS (qS3 HO120.out BK146.out)) hb); replace HO129 := qO (Kd.R_elder' (qrR (qR3 HO129.out BK146.out)) (Kd.R_base ho0) hb); replace HO132 := qO (Kd.R_elder' (qrR (qR3 HO132.out BK146.out)) (Kd.R_base ho1) hb); replace HO141 := qO (Kd.R_elder' (qrR (qR3 HO141.out BK146.out)) (Kd.R_base ho0) hb); replace HO144 := qO (Kd.R_elder' (qrR (qR3 HO144.out BK146.out)) (Kd.R_base ho1) hb); replace BK105 := qO (blk_below (g := gb105) (o := .cells #[.slice Ao34 t101.length co34, .int .i64 t104] 28 (0, 0)) (qF (qF (qF BK105.out NB105_146.out) NB105_146.out) NB105_146.out) hb); replace BK114 := qO (blk_below (g := gb114) (o := .cells #[.int .i64 t106, .slice Ao40 t107.length co40, .slice Ao41 t110.length co41] 65 (0, 0)) (qF (qF (qF BK114.out NB114_146.out) NB114_146.out) NB114_146.out) hb); replace BK124 := qO (blk_below (g := gb124) (o := .cells #[.slice Ao49 t118.length co49, .int .i64 t121] 28 (0, 0)) (qF (qF (qF BK124.out NB124_146.out) NB124_146.out) NB124_146.out) hb); replace BK135 := qO (blk_below (g := gb135) (o := .cells #[.int .i64 t126, .slice Ao62 t127.length co62, .slice Ao63 t130.length co63] 65 (0, 0)) (qF (qF (qF BK135.out NB135_146.out) NB135_146.out) NB135_146.out) hb); replace BK146 := qO (blk_below (g := gb146) (o := .cells #[.int .i64 t138, .slice Ao75 t139.length co75, .slice Ao76 t142.length co76] 65 (0, 0)) (qU (qU (qU BK146.out))) hb); replace HB := qO (below_step (qH HB.out) hb); clear hb ho0 ho1) | ((with_reducible refine gate_dst (N := 19) rfl ?_); (try (refine gate_guard (by rfl) ?_; dsimp only)); refine qX 19 #[.int .i64 0, .slice none 0 0, .slice none 0 0] 65 ?_; intro gb156 hg w79 hbox hb; have hx_ := qHX HB hb qa0; have BK156 := qO (hbox); have GW156 := qO ((qa3 : w.heap.size ≤ gb156)); have GE156 := GW156; have NB105_156 := qO ((qLt hg (qk BK105.out))); have NB156_105 := qO (Ne.symm NB105_156.out); have NB114_156 := qO ((qLt hg (qk BK114.out))); have NB156_114 := qO (Ne.symm NB114_156.out); have NB124_156 := qO ((qLt hg (qk BK124.out))); have NB156_124 := qO (Ne.symm NB124_156.out); have NB135_156 := qO ((qLt hg (qk BK135.out))); have NB156_135 := qO (Ne.symm NB135_156.out); have NB146_156 := qO ((qLt hg (qk BK146.out))); have NB156_146 := qO (Ne.symm NB146_156.out); replace HO103 := qO (Kd.S_below (qrS HO103.out) hb); replace HO109 := qO (Kd.R_below (qrR HO109.out) hb); replace HO112 := qO (Kd.R_below (qrR HO112.out) hb); replace HO117 := qO (Kd.R_below (qrR HO117.out) hb); replace HO120 := qO (Kd.S_below (qrS HO120.out) hb); replace HO129 := qO (Kd.R_below (qrR HO129.out) hb); replace HO132 := qO (Kd.R_below (qrR HO132.out) hb); replace HO141 := qO (Kd.R_below (qrR HO141.out) hb); replace HO144 := qO (Kd.R_below (qrR HO144.out) hb); replace HO150 := qO (Kd.R_below (qrR HO150.out) hb); replace HO153 := qO (Kd.R_below (qrR HO153.out) hb); replace BK105 := qO (qB BK105.out hx_ hb); replace BK114 := qO (qB BK114.out hx_ hb); replace BK124 := qO (qB BK124.out hx_ hb); replace BK135 := qO (qB BK135.out hx_ hb); replace BK146 := qO (qB BK146.out hx_ hb); replace HB := qO (below_step (below_step HB.out hx_) hb); clear hx_ hb hbox hg; have hnb80 := NB156_105.out; have hnc80 := NB105_156.out; have hnb81 := NB156_114.out; have hnc81 := NB114_156.out; have hnb82 := NB156_124.out; have hnc82 := NB124_156.out; have hnb83 := NB156_135.out; have hnc83 := NB135_156.out; have hnb84 := NB156_146.out; have hnc84 := NB146_156.out; obtain ⟨hcz85_0, hcz85_1, hcz85_2, hfz85_0, hfz85_1, hfz85_2⟩ := qb3 BK156.out; obtain ⟨Ao86, co86, eo86⟩ := Kd.R_slice HO150.out; subst eo86; obtain ⟨Ao87, co87, eo87⟩ := Kd.R_slice HO153.out; subst eo87; obtain ⟨hcz88_0, hcz88_1, hfz88_0, hfz88_1⟩ := qb2 BK105.out) | ((with_reducible refine gate_callee (f := 39) rfl ?_); refine qGL 86 Try.func39 #[.slice A1 l1.length c1, .agg #[.slice Ao34 t101.length co34, .int .i64 t104]] ?_; (with_reducible refine (spec_TxnOf.calls kj2 _ _ l1 _ _ t101 t104 t157 t158 t161 _ ?side1 ?side2 ?side3 ?side4 A15.out).mono ?_); (case side1 => exact Kd.C_below HR1.out (qH HB.out)); (case side2 => exact HC1.out); (case side3 => exact (Kd.S_reads' (qrS (qS3 HO103.out BK156.out))).2.2); (case side4 => exact qa103); rintro e w89 ⟨v159, v162, rfl, ho0, ho1, hb⟩; refine ⟨_, rfl, ?_⟩; have HO160 := qO (Kd.R_lower (Kd.R_new' (Kd.R_new' (Kd.R_new' (Kd.R_new' ho0 (Kd.R_lt (qrR (qR3 HO109.out BK156.out)))) (Kd.R_lt (qrR (qR3 HO129.out BK156.out)))) (Kd.R_lt (qrR (qR3 HO141.out BK156.out)))) (Kd.R_lt (qrR (qR3 HO150.out BK156.out)))) (below_size (qH HB.out))); have HO163 := qO (Kd.R_lower (Kd.R_new' (Kd.R_new' (Kd.R_new' (Kd.R_new' (Kd.R_new' ho1 (Kd.R_lt (qrR (qR3 HO112.out BK156.out)))) (Kd.R_lt (qrR (qR3 HO117.out BK156.out)))) (Kd.R_lt (qrR (qR3 HO132.out BK156.out)))) (Kd.R_lt (qrR (qR3 HO144.out BK156.out)))) (Kd.R_lt (qrR (qR3 HO153.out BK156.out)))) (below_size (qH HB.out))); replace HO103 := qO (Kd.S_below (qrS (qS3 HO103.out BK156.out)) hb); replace HO109 := qO (Kd.R_elder' (qrR (qR3 HO109.out BK156.out)) (Kd.R_base ho0) hb); replace HO112 := qO (Kd.R_elder' (qrR (qR3 HO112.out BK156.out)) (Kd.R_base ho1) hb); replace HO117 := qO (Kd.R_elder' (qrR (qR3 HO117.out BK156.out)) (Kd.R_base ho1) hb); replace HO120 := qO (Kd.S_below (qrS (qS3 HO120.out BK156.out)) hb); replace HO129 := qO (Kd.R_elder' (qrR (qR3 HO129.out BK156.out)) (Kd.R_base ho0) hb); replace HO132 := qO (Kd.R_elder' (qrR (qR3 HO132.out BK156.out)) (Kd.R_base ho1) hb); replace HO141 := qO (Kd.R_elder' (qrR (qR3 HO141.out BK156.out)) (Kd.R_base ho0) hb); replace HO144 := qO (Kd.R_elder' (qrR (qR3 HO144.out BK156.out)) (Kd.R_base ho1) hb); replace HO150 := qO (Kd.R_elder' (qrR (qR3 HO150.out BK156.out)) (Kd.R_base ho0) hb); replace HO153 := qO (Kd.R_elder' (qrR (qR3 HO153.out BK156.out)) (Kd.R_base ho1) hb); replace BK105 := qO (blk_below (g := gb105) (o := .cells #[.slice Ao34 t101.length co34, .int .i64 t104] 28 (0, 0)) (qF (qF (qF BK105.out NB105_156.out) NB105_156.out) NB105_156.out) hb); replace BK114 := qO (blk_below (g := gb114) (o := .cells #[.int .i64 t106, .slice Ao40 t107.length co40, .slice Ao41 t110.length co41] 65 (0, 0)) (qF (qF (qF BK114.out NB114_156.out) NB114_156.out) NB114_156.out) hb); replace BK124 := qO (blk_below (g := gb124) (o := .cells #[.slice Ao49 t118.length co49, .int .i64 t121] 28 (0, 0)) (qF (qF (qF BK124.out NB124_156.out) NB124_156.out) NB124_156.out) hb); replace BK135 := qO (blk_below (g := gb135) (o := .cells #[.int .i64 t126, .slice Ao62 t127.length co62, .slice Ao63 t130.length co63] 65 (0, 0)) (qF (qF (qF BK135.out NB135_156.out) NB135_156.out) NB135_156.out) hb); replace BK146 := qO (blk_below (g := gb146) (o := .cells #[.int .i64 t138, .slice Ao75 t139.length co75, .slice Ao76 t142.length co76] 65 (0, 0)) (qF (qF (qF BK146.out NB146_156.out) NB146_156.out) NB146_156.out) hb); replace BK156 := qO (blk_below (g := gb156) (o := .cells #[.int .i64 t147, .slice Ao86 t148.length co86, .slice Ao87 t151.length co87] 65 (0, 0)) (qU (qU (qU BK156.out))) hb); replace HB := qO (below_step (qH HB.out) hb); clear hb ho0 ho1) | ((with_reducible refine gate_dst (N := 22) rfl ?_); (try (refine gate_guard (by rfl) ?_; dsimp only)); refine qX 22 #[.int .i64 0, .slice none 0 0, .slice none 0 0] 65 ?_; intro gb164 hg w90 hbox hb; have hx_ := qHX HB hb qa0; have BK164 := qO (hbox); have GW164 := qO ((qa3 : w.heap.size ≤ gb164)); have GE164 := GW164; have NB105_164 := qO ((qLt hg (qk BK105.out))); have NB164_105 := qO (Ne.symm NB105_164.out); have NB114_164 := qO ((qLt hg (qk BK114.out))); have NB164_114 := qO (Ne.symm NB114_164.out); have NB124_164 := qO ((qLt hg (qk BK124.out))); have NB164_124 := qO (Ne.symm NB124_164.out); have NB135_164 := qO ((qLt hg (qk BK135.out))); have NB164_135 := qO (Ne.symm NB135_164.out); have NB146_164 := qO ((qLt hg (qk BK146.out))); have NB164_146 := qO (Ne.symm NB146_164.out); have NB156_164 := qO ((qLt hg (qk BK156.out))); have NB164_156 := qO (Ne.symm NB156_164.out); replace HO103 := qO (Kd.S_below (qrS HO103.out) hb); replace HO109 := qO (Kd.R_below (qrR HO109.out) hb); replace HO112 := qO (Kd.R_below (qrR HO112.out) hb); replace HO117 := qO (Kd.R_below (qrR HO117.out) hb); replace HO120 := qO (Kd.S_below (qrS HO120.out) hb); replace HO129 := qO (Kd.R_below (qrR HO129.out) hb); replace HO132 := qO (Kd.R_below (qrR HO132.out) hb); replace HO141 := qO (Kd.R_below (qrR HO141.out) hb); replace HO144 := qO (Kd.R_below (qrR HO144.out) hb); replace HO150 := qO (Kd.R_below (qrR HO150.out) hb); replace HO153 := qO (Kd.R_below (qrR HO153.out) hb); replace HO160 := qO (Kd.R_below (qrR HO160.out) hb); replace HO163 := qO (Kd.R_below (qrR HO163.out) hb); replace BK105 := qO (qB BK105.out hx_ hb); replace BK114 := qO (qB BK114.out hx_ hb); replace BK124 := qO (qB BK124.out hx_ hb); replace BK135 := qO (qB BK135.out hx_ hb); replace BK146 := qO (qB BK146.out hx_ hb); replace BK156 := qO (qB BK156.out hx_ hb); replace HB := qO (below_step (below_step HB.out hx_) hb); clear hx_ hb hbox hg; have hnb91 := NB164_105.out; have hnc91 := NB105_164.out; have hnb92 := NB164_114.out; have hnc92 := NB114_164.out; have hnb93 := NB164_124.out; have hnc93 := NB124_164.out; have hnb94 := NB164_135.out; have hnc94 := NB135_164.out; have hnb95 := NB164_146.out; have hnc95 := NB146_164.out; have hnb96 := NB164_156.out; have hnc96 := NB156_164.out; obtain ⟨hcz97_0, hcz97_1, hcz97_2, hfz97_0, hfz97_1, hfz97_2⟩ := qb3 BK164.out; obtain ⟨Ao98, co98, eo98⟩ := Kd.R_slice HO160.out; subst eo98; obtain ⟨Ao99, co99, eo99⟩ := Kd.R_slice HO163.out; subst eo99; obtain ⟨hcz100_0, hcz100_1, hfz100_0, hfz100_1⟩ := qb2 BK105.out) | ((with_reducible refine gate_callee (f := 40) rfl ?_); refine qGL 90 Try.func40 #[.agg #[.slice Ao34 t101.length co34, .int .i64 t104], .agg #[.int .i64 t157, .slice Ao98 t158.length co98, .slice Ao99 t161.length co99]] ?_; (with_reducible refine (impl_Conflicts.calls kj2 _ _ t101 t104 t157 _ _ t158 _ _ t161 t165 t166 _ ?side1 ?side2 ?side3 ?side4 ?side5 ?side6 A16.out).mono ?_); (case side1 => exact (Kd.S_reads' (qrS (qS3 HO103.out BK164.out))).2.2); (case side2 => exact qa103); (case side3 => refine (Kd.R_reads' (e := 3) (base := w.heap.size) (ok := fun k_ => ((((True ∧ some k_ ≠ (.slice Ao40 t107.length co40 : Value).ownBlock) ∧ some k_ ≠ (.slice Ao62 t127.length co62 : Value).ownBlock) ∧ some k_ ≠ (.slice Ao75 t139.length co75 : Value).ownBlock) ∧ some k_ ≠ (.slice Ao86 t148.length co86 : Value).ownBlock)) (n := t158.length) (c := co98) ?_).2.2; exact (qrR (qR3 HO160.out BK164.out))); (case side4 => exact (Kd.R_reads' HO160.out).2.1); (case side5 => refine (Kd.R_reads' (e := 58) (base := w.heap.size) (ok := fun k_ => (((((True ∧ some k_ ≠ (.slice Ao41 t110.length co41 : Value).ownBlock) ∧ some k_ ≠ (v116 : Value).ownBlock) ∧ some k_ ≠ (.slice Ao63 t130.length co63 : Value).ownBlock) ∧ some k_ ≠ (.slice Ao76 t142.length co76 : Value).ownBlock) ∧ some k_ ≠ (.slice Ao87 t151.length co87 : Value).ownBlock)) (n := t161.length) (c := co99) ?_).2.2; exact (qrR (qR3 HO163.out BK164.out))); (case side6 => exact (Kd.R_reads' HO163.out).2.1); rintro e w101 ⟨rfl, hb⟩; refine ⟨_, rfl, ?_⟩; replace HO103 := qO (Kd.S_below (qrS (qS3 HO103.out BK164.out)) hb); replace HO109 := qO (Kd.R_below (qrR (qR3 HO109.out BK164.out)) hb); replace HO112 := qO (Kd.R_below (qrR (qR3 HO112.out BK164.out)) hb); replace HO117 := qO (Kd.R_below (qrR (qR3 HO117.out BK164.out)) hb); replace HO120 := qO (Kd.S_below (qrS (qS3 HO120.out BK164.out)) hb); replace HO129 := qO (Kd.R_below (qrR (qR3 HO129.out BK164.out)) hb); replace HO132 := qO (Kd.R_below (qrR (qR3 HO132.out BK164.out)) hb); replace HO141 := qO (Kd.R_below (qrR (qR3 HO141.out BK164.out)) hb); replace HO144 := qO (Kd.R_below (qrR (qR3 HO144.out BK164.out)) hb); replace HO150 := qO (Kd.R_below (qrR (qR3 HO150.out BK164.out)) hb); replace HO153 := qO (Kd.R_below (qrR (qR3 HO153.out BK164.out)) hb); replace HO160 := qO (Kd.R_below (qrR (qR3 HO160.out BK164.out)) hb); replace HO163 := qO (Kd.R_below (qrR (qR3 HO163.out BK164.out)) hb); replace BK105 := qO (blk_below (g := gb105) (o := .cells #[.slice Ao34 t101.length co34, .int .i64 t104] 28 (0, 0)) (qF (qF (qF BK105.out NB105_164.out) NB105_164.out) NB105_164.out) hb); replace BK114 := qO (blk_below (g := gb114) (o := .cells #[.int .i64 t106, .slice Ao40 t107.length co40, .slice Ao41 t110.length co41] 65 (0, 0)) (qF (qF (qF BK114.out NB114_164.out) NB114_164.out) NB114_164.out) hb); replace BK124 := qO (blk_below (g := gb124) (o := .cells #[.slice Ao49 t118.length co49, .int .i64 t121] 28 (0, 0)) (qF (qF (qF BK124.out NB124_164.out) NB124_164.out) NB124_164.out) hb); replace BK135 := qO (blk_below (g := gb135) (o := .cells #[.int .i64 t126, .slice Ao62 t127.length co62, .slice Ao63 t130.length co63] 65 (0, 0)) (qF (qF (qF BK135.out NB135_164.out) NB135_164.out) NB135_164.out) hb); replace BK146 := qO (blk_below (g := gb146) (o := .cells #[.int .i64 t138, .slice Ao75 t139.length co75, .slice Ao76 t142.length co76] 65 (0, 0)) (qF (qF (qF BK146.out NB146_164.out) NB146_164.out) NB146_164.out) hb); replace BK156 := qO (blk_below (g := gb156) (o := .cells #[.int .i64 t147, .slice Ao86 t148.length co86, .slice Ao87 t151.length co87] 65 (0, 0)) (qF (qF (qF BK156.out NB156_164.out) NB156_164.out) NB156_164.out) hb); replace BK164 := qO (blk_below (g := gb164) (o := .cells #[.int .i64 t157, .slice Ao98 t158.length co98, .slice Ao99 t161.length co99] 65 (0, 0)) (qU (qU (qU BK164.out))) hb); replace HB := qO (below_step (qH HB.out) hb); clear hb; obtain ⟨hcz102_0, hcz102_1, hfz102_0, hfz102_1⟩ := qb2 BK105.out; obtain ⟨hcz103_0, hcz103_1, hcz103_2, hfz103_0, hfz103_1, hfz103_2⟩ := qb3 BK164.out) | ((with_reducible refine gate_callee (f := 41) rfl ?_); refine qGL 96 Try.func41 #[.agg #[.slice Ao34 t101.length co34, .int .i64 t104], .agg #[.int .i64 t157, .slice Ao98 t158.length co98, .slice Ao99 t161.length co99]] ?_; (with_reducible refine (spec_Conflicts.calls kj2 _ _ t101 t104 t157 _ _ t158 _ _ t161 t167 t168 _ ?side1 ?side2 ?side3 ?side4 ?side5 ?side6 A17.out).mono ?_); (case side1 => exact qa125); (case side2 => exact qa103); (case side3 => exact qkC ((Kd.R_reads' HO160.out).2.2)); (case side4 => exact (Kd.R_reads' HO160.out).2.1); (case side5 => exact qkC ((Kd.R_reads' HO163.out).2.2)); (case side6 => exact (Kd.R_reads' HO163.out).2.1); rintro e w104 ⟨rfl, hb⟩; have hx_ := qHX HB hb qa0; refine ⟨_, rfl, ?_⟩; replace HO103 := qO (Kd.S_below (qrS HO103.out) hb); replace HO109 := qO (Kd.R_below (qrR HO109.out) hb); replace HO112 := qO (Kd.R_below (qrR HO112.out) hb); replace HO117 := qO (Kd.R_below (qrR HO117.out) hb); replace HO120 := qO (Kd.S_below (qrS HO120.out) hb); replace HO129 := qO (Kd.R_below (qrR HO129.out) hb); replace HO132 := qO (Kd.R_below (qrR HO132.out) hb); replace HO141 := qO (Kd.R_below (qrR HO141.out) hb); replace HO144 := qO (Kd.R_below (qrR HO144.out) hb); replace HO150 := qO (Kd.R_below (qrR HO150.out) hb); replace HO153 := qO (Kd.R_below (qrR HO153.out) hb); replace HO160 := qO (Kd.R_below (qrR HO160.out) hb); replace HO163 := qO (Kd.R_below (qrR HO163.out) hb); replace BK105 := qO (qB BK105.out hx_ hb); replace BK114 := qO (qB BK114.out hx_ hb); replace BK124 := qO (qB BK124.out hx_ hb); replace BK135 := qO (qB BK135.out hx_ hb); replace BK146 := qO (qB BK146.out hx_ hb); replace BK156 := qO (qB BK156.out hx_ hb); replace BK164 := qO (qB BK164.out hx_ hb); replace HB := qO (below_step (below_step HB.out hx_) hb); clear hx_ hb; obtain ⟨hcz105_0, hcz105_1, hcz105_2, hfz105_0, hfz105_1, hfz105_2⟩ := qb3 BK156.out) | ((with_reducible refine gate_dst (N := 134) rfl ?_); (try (refine gate_guard (by rfl) ?_; dsimp only)); refine Kd.R_lit (Kd.int .i64) _ 3 ?hg (N := 134) ?hd (xs := ([t125] : List Int)) (inner := [.int .i64 t125]) (ok := fun _ => True) (okp := fun _ => True) ?hr ?hp (fun _ hk => hk) trivial (Below.refl _ _) (Nat.le_refl _) qa51 ?_; (case hd => rfl); (case hg => rfl); (case hr => exact qa40); (case hp => exact (Reps.one (show Kd.M (Kd.int .i64) _ _ _ t125 [.int .i64 t125] from rfl) (Reps.none _ _))); intro v170 w106 ho107 hb hg_ hnew_; clear hg_ hnew_; (first | rw [← Ny169.out] at ho107 | (simp only [Int.reduceToNat] at ho107; rw [← Ny169.out] at ho107)); have HO171 := qO (Kd.R_lower (Kd.R_new' (Kd.R_new' (Kd.R_new' (Kd.R_new' (Kd.R_new' ho107 (Kd.R_lt (qrR HO109.out))) (Kd.R_lt (qrR HO129.out))) (Kd.R_lt (qrR HO141.out))) (Kd.R_lt (qrR HO150.out))) (Kd.R_lt (qrR HO160.out))) (below_size (qH HB.out))); replace HO103 := qO (Kd.S_below (qrS HO103.out) hb); replace HO109 := qO (Kd.R_elder' (qrR HO109.out) (Kd.R_base ho107) hb); replace HO112 := qO (Kd.R_below (qrR HO112.out) hb); replace HO117 := qO (Kd.R_below (qrR HO117.out) hb); replace HO120 := qO (Kd.S_below (qrS HO120.out) hb); replace HO129 := qO (Kd.R_elder' (qrR HO129.out) (Kd.R_base ho107) hb); replace HO132 := qO (Kd.R_below (qrR HO132.out) hb); replace HO141 := qO (Kd.R_elder' (qrR HO141.out) (Kd.R_base ho107) hb); replace HO144 := qO (Kd.R_below (qrR HO144.out) hb); replace HO150 := qO (Kd.R_elder' (qrR HO150.out) (Kd.R_base ho107) hb); replace HO153 := qO (Kd.R_below (qrR HO153.out) hb); replace HO160 := qO (Kd.R_elder' (qrR HO160.out) (Kd.R_base ho107) hb); replace HO163 := qO (Kd.R_below (qrR HO163.out) hb); replace BK105 := qO (blk_below (qk BK105.out) hb); replace BK114 := qO (blk_below (qk BK114.out) hb); replace BK124 := qO (blk_below (qk BK124.out) hb); replace BK135 := qO (blk_below (qk BK135.out) hb); replace BK146 := qO (blk_below (qk BK146.out) hb); replace BK156 := qO (blk_below (qk BK156.out) hb); replace BK164 := qO (blk_below (qk BK164.out) hb); replace HB := qO (below_step (qH HB.out) hb); clear hb ho107; obtain ⟨Ao108, co108, eo108⟩ := Kd.R_slice HO171.out; subst eo108) | (go_at_call 35; (with_reducible refine (laws_sameInts.calls kj2 _ _ t148 _ _ y169 true _ ?side1 ?side2 ?side3 ?side4 A26.out).mono ?_); (case side1 => exact qkC ((Kd.R_reads' HO150.out).2.2)); (case side2 => exact (Kd.R_reads' HO150.out).2.1); (case side3 => exact qkC ((Kd.R_reads' HO171.out).2.2)); (case side4 => exact (Kd.R_reads' HO171.out).2.1); rintro e w' ⟨rfl, ⟨nd, rfl⟩⟩; obtain ⟨hcz109_0, hcz109_1, hcz109_2, hfz109_0, hfz109_1, hfz109_2⟩ := qb3 BK156.out; obtain ⟨hcz110_0, hcz110_1, hfz110_0, hfz110_1⟩ := qb2 BK124.out) | (go_at_call 42; (with_reducible refine (impl_TxnOK.calls kj2 _ _ t118 t121 t147 _ _ t148 _ _ t151 true _ ?side1 ?side2 ?side3 ?side4 ?side5 ?side6 A29.out).mono ?_); (case side1 => exact qkC ((Kd.S_reads' HO120.out).2.2)); (case side2 => exact (Kd.S_reads' HO120.out).2.1); (case side3 => exact qkC ((Kd.R_reads' HO150.out).2.2)); (case side4 => exact (Kd.R_reads' HO150.out).2.1); (case side5 => exact qkC ((Kd.R_reads' HO153.out).2.2)); (case side6 => exact (Kd.R_reads' HO153.out).2.1); rintro e w111 ⟨rfl, hb⟩; have hx_ := qHX HB hb qa0; replace HO103 := qO (Kd.S_below (qrS HO103.out) hb); replace HO109 := qO (Kd.R_below (qrR HO109.out) hb); replace HO112 := qO (Kd.R_below (qrR HO112.out) hb); replace HO117 := qO (Kd.R_below (qrR HO117.out) hb); replace HO120 := qO (Kd.S_below (qrS HO120.out) hb); replace HO129 := qO (Kd.R_below (qrR HO129.out) hb); replace HO132 := qO (Kd.R_below (qrR HO132.out) hb); replace HO141 := qO (Kd.R_below (qrR HO141.out) hb); replace HO144 := qO (Kd.R_below (qrR HO144.out) hb); replace HO150 := qO (Kd.R_below (qrR HO150.out) hb); replace HO153 := qO (Kd.R_below (qrR HO153.out) hb); replace HO160 := qO (Kd.R_below (qrR HO160.out) hb); replace HO163 := qO (Kd.R_below (qrR HO163.out) hb); replace HO171 := qO (Kd.R_below (qrR HO171.out) hb); replace BK105 := qO (qB BK105.out hx_ hb); replace BK114 := qO (qB BK114.out hx_ hb); replace BK124 := qO (qB BK124.out hx_ hb); replace BK135 := qO (qB BK135.out hx_ hb); replace BK146 := qO (qB BK146.out hx_ hb); replace BK156 := qO (qB BK156.out hx_ hb); replace BK164 := qO (qB BK164.out hx_ hb); replace HB := qO (below_step (below_step HB.out hx_) hb); clear hx_ hb))
                go_ret
                exact ⟨qa2, qH HB.out⟩
               ·rw [if_neg c31] at H
                exact absurd H qa51
              ·replace c30 := Bool.eq_false_iff.mpr c30
               subst c30; rw [qfn] at H
               exact absurd H qa51
             ·rw [if_neg c28] at H
              exact absurd H qa51
            ·replace c27 := Bool.eq_false_iff.mpr c27
             subst c27; rw [qfn] at H
             exact absurd H qa51
           ·rw [if_neg c25] at H
            exact absurd H qa51
          ·rw [if_neg c24] at H
           exact absurd H qa51
         ·rw [if_neg c23] at H
          exact absurd H qa51
        ·rw [if_neg c22] at H
         exact absurd H qa51
       ·rw [if_neg c21] at H
        exact absurd H qa51
      ·rw [if_neg c20] at H
       exact absurd H qa51
     ·rw [if_neg c19] at H
      exact absurd H qa51
    ·rw [if_neg c18] at H
     exact absurd H qa51
/-- THE ONE PURE STATEMENT of laws_FnTxn: yours. -/
def laws_FnTxn.Pure : Prop := ∀ (l0 : List Int) (l1 : List Int), l0.length ≤ maxLen → l0.length * 1 ≤ 140737488351232 → (∀ x ∈ l0, (Lit.int .u8 x).wf = true) → l1.length ≤ maxLen → l1.length * 1 ≤ 140737488351232 → (∀ x ∈ l1, (Lit.int .u8 x).wf = true) → ∃ k, laws_FnTxn.f k l0 l1 = some true
theorem laws_FnTxn.walk (P : laws_FnTxn.Pure) (a0 : Option Addr) (len0 cap0 : Nat) (z0 : List Int) (a1 : Option Addr) (len1 cap1 : Nat) (z1 : List Int) (w : World) (w0 : (a0 = none ∧ len0 = 0 ∧ cap0 = 0 ∧ z0 = []) ∨ ∃ x, a0 = some x ∧ len0 ≤ cap0 ∧ cap0 ≤ maxLen ∧ z0.length = cap0 ∧ (∀ i, i < z0.length → w.cell? (x.add i) = some (.int .u8 (z0.getD i 0))) ∧ ∀ n ∈ z0, (Lit.int .u8 n).wf = true) (y0 : len0 * 1 ≤ 140737488351232) (w1 : (a1 = none ∧ len1 = 0 ∧ cap1 = 0 ∧ z1 = []) ∨ ∃ x, a1 = some x ∧ len1 ≤ cap1 ∧ cap1 ≤ maxLen ∧ z1.length = cap1 ∧ (∀ i, i < z1.length → w.cell? (x.add i) = some (.int .u8 (z1.getD i 0))) ∧ ∀ n ∈ z1, (Lit.int .u8 n).wf = true) (y1 : len1 * 1 ≤ 140737488351232) :
  Calls Try.prog 7 #[.slice a0 len0 cap0, .slice a1 len1 cap1] w fun e w' => e = .returned (.bool true) ∧ Below w.heap.size w w' := by
 obtain ⟨l0, rfl, hr0, hm0, hw0, hc0⟩ := ReadsInt.ofRowC w0; obtain ⟨l1, rfl, hr1, hm1, hw1, hc1⟩ := ReadsInt.ofRowC w1; obtain ⟨k, h⟩ := P l0 l1 hm0 y0 hw0 hm1 y1 hw1; refine (laws_FnTxn.calls k _ _ l0 _ _ l1 true w (Kd.C_of_reads (d := (0 : Int)) (h1 := fun _ => rfl) hr0) hc0 (Kd.C_of_reads (d := (0 : Int)) (h1 := fun _ => rfl) hr1) hc1 h).mono ?_; rintro e w' ⟨rfl, hd⟩
 exact ⟨rfl, hd⟩
end Go.Proofs.Ytfiboooflebdpaa.Q
namespace Go.Proofs.Ytfiboooflebdpaa.Q
open Go.RowKit Go.Proofs.YtfiboooflebdpaaW.PrintWords Go.Proofs.Ytfiboooflebdpaa.Opens
set_option linter.unusedVariables false
def i141 (x : S141) : Prop := (Lit.int .i64 x.f0).wf = true ∧ (Lit.int .i64 x.f1).wf = true
theorem o141 : Opens Try.prog 141 k141 i141 := opens_struct (N := 2) Try.underlying141 qa18 (opensF_cons rfl qa18 (opens_int Try.underlying3) (opensF_one rfl rfl qa18 (opens_int Try.underlying3))) (fun y => ⟨y.1, y.2⟩) (fun _ => rfl)
def i24 (x : S24) : Prop := (x.f0.length ≤ 9223372036854775807 ∧ ∀ y1_ ∈ x.f0, (y1_.length ≤ 9223372036854775807 ∧ ∀ y2_ ∈ y1_, i141 y2_)) ∧ (Lit.int .i64 x.f1).wf = true
theorem o24 : Opens Try.prog 24 k24 i24 := opens_struct (N := 2) Try.underlying24 qa18 (opensF_cons rfl qa18 (opens_slice Try.underlying22 qa18 (opens_slice Try.underlying122 qa18 o141)) (opensF_one rfl rfl qa18 (opens_int Try.underlying3))) (fun y => ⟨y.1, y.2⟩) (fun _ => rfl)
def i76 (x : S76) : Prop := (Lit.int .i64 x.f0).wf = true ∧ (Lit.int .i64 x.f1).wf = true
theorem o76 : Opens Try.prog 76 k76 i76 := opens_struct (N := 2) Try.underlying76 qa18 (opensF_cons rfl qa18 (opens_int Try.underlying3) (opensF_one rfl rfl qa18 (opens_int Try.underlying3))) (fun y => ⟨y.1, y.2⟩) (fun _ => rfl)
def i75 (x : S75) : Prop := (Lit.int .i64 x.f0).wf = true ∧ (x.f1.length ≤ 9223372036854775807 ∧ ∀ y1_ ∈ x.f1, (Lit.int .i64 y1_).wf = true) ∧ (x.f2.length ≤ 9223372036854775807 ∧ ∀ y1_ ∈ x.f2, i76 y1_)
theorem o75 : Opens Try.prog 75 k75 i75 := opens_struct (N := 3) Try.underlying75 qa18 (opensF_cons rfl qa18 (opens_int Try.underlying3) (opensF_cons rfl qa18 (opens_slice Try.underlying60 qa18 (opens_int Try.underlying3)) (opensF_one rfl rfl qa18 (opens_slice Try.underlying48 qa18 o76)))) (fun y => ⟨y.1, y.2.1, y.2.2⟩) (fun _ => rfl)
def laws_FnTxn.Pure2 : Prop := ∀ (y0 : List Int), ∀ (y1 : List Int), (y0.length ≤ 9223372036854775807 ∧ ∀ y1_ ∈ y0, (Lit.int .u8 y1_).wf = true) → (y1.length ≤ 9223372036854775807 ∧ ∀ y1_ ∈ y1, (Lit.int .u8 y1_).wf = true) → ∃ k, laws_FnTxn.f k y0 y1 = some true
end Go.Proofs.Ytfiboooflebdpaa.Q
namespace Go.Proofs.Ytfiboooflebdpaa.Pure2
open Go.RowKit Go.Proofs.Ytfiboooflebdpaa.Q Go.Proofs.YtfiboooflebdpaaW.PrintWords Go.Proofs.YtfiboooflebdpaaW.PrintLast
set_option linter.unusedVariables false
set_option linter.unusedSimpArgs false
/-! small words -/
theorem wsucc {j n : Nat} (h : j < n) (hn : n ≤ 4611686018427387904) : wrap64 ((j : Int) + 1) = ((j + 1 : Nat) : Int) := by unfold wrap64; omega
theorem ev_step {α : Type} {g f : Nat → Option α} {r : α} (h : ∃ K, ∀ k, K ≤ k → g (k + 1) = f k) (k : Ev f r) : Ev g r := by
  obtain ⟨K, h⟩ := h; obtain ⟨K', k⟩ := k; refine ⟨max K K' + 1, fun n hn => ?_⟩; obtain ⟨m, rfl⟩ : ∃ m, n = m + 1 := ⟨n - 1, qa13⟩; rw [h m qa13, k m qa13]
theorem ev_now {α : Type} {g : Nat → Option α} {r : α} (h : ∃ K, ∀ k, K ≤ k → g (k + 1) = some r) : Ev g r := ev_step (f := fun _ => some r) h (Ev.now r)
theorem ev_same {α : Type} {g f : Nat → Option α} {r : α} (h : ∃ K, ∀ k, K ≤ k → g k = f k) (k : Ev f r) : Ev g r := by
  obtain ⟨K, h⟩ := h; obtain ⟨K', k⟩ := k
  exact ⟨max K K', fun n hn => by rw [h n qa13, k n qa13]⟩
theorem ev_two {α β : Type} {g : Nat → Option α} {f : Nat → Option β} {r : α} {q : β} (h : Ev g r) (k : Ev f q) : ∃ K, ∀ n, K ≤ n → g n = some r ∧ f n = some q := by
  obtain ⟨K, h⟩ := h; obtain ⟨K', k⟩ := k
  exact ⟨max K K', fun n hn => ⟨h n qa13, k n qa13⟩⟩
theorem ev_mk {α : Type} {g : Nat → Option α} {r : α} (K : Nat) (h : ∀ k, K ≤ k → g k = some r) : Ev g r := ⟨K, h⟩
theorem ev_at {α : Type} {g : Nat → Option α} {r : α} (h : Ev g r) : ∃ K, ∀ k, K ≤ k → g k = some r := h
/-- A loop that counts up to n: from the end back. -/
theorem count_loop {ρ : Type} (n : Nat) (L : Nat → Int → Option ρ) (Post : Nat → ρ → Prop) (hend : ∃ r, Post n r ∧ Ev (fun k => L k (n : Int)) r)
    (hstep : ∀ j, j < n → ∀ r, Post (j + 1) r → Ev (fun k => L k ((j + 1 : Nat) : Int)) r → ∃ r', Post j r' ∧ Ev (fun k => L k (j : Int)) r') :
    ∀ j, j ≤ n → ∃ r, Post j r ∧ Ev (fun k => L k (j : Int)) r := by
  have key : ∀ d j, j ≤ n → n - j = d → ∃ r, Post j r ∧ Ev (fun k => L k (j : Int)) r := by
    intro d
    induction d with
    | zero => intro j hj hd; obtain rfl : j = n := by omega
              exact hend
    | succ d ih =>
      intro j hj hd; obtain ⟨r, hp, he⟩ := ih (j + 1) qa13 qa13
      exact hstep j qa13 r hp he
  intro j hj
  exact key _ j hj rfl
/-- A loop that carries a state up to n. -/
theorem state_loop {σ ρ : Type} (n : Nat) (L : Nat → σ → Int → Option ρ) (Inv : Nat → σ → Prop) (Post : Nat → σ → ρ → Prop) (hend : ∀ s, Inv n s → ∃ r, Post n s r ∧ Ev (fun k => L k s (n : Int)) r)
    (hstep : ∀ j s, j < n → Inv j s → (∃ r, Post j s r ∧ Ev (fun k => L k s (j : Int)) r) ∨ ∃ s', Inv (j + 1) s' ∧ (∀ r, Post (j + 1) s' r → Post j s r) ∧ ∃ K, ∀ k, K ≤ k → L (k + 1) s (j : Int) = L k s' ((j + 1 : Nat) : Int)) :
    ∀ j s, j ≤ n → Inv j s → ∃ r, Post j s r ∧ Ev (fun k => L k s (j : Int)) r := by
  have key : ∀ d j s, j ≤ n → n - j = d → Inv j s → ∃ r, Post j s r ∧ Ev (fun k => L k s (j : Int)) r := by
    intro d
    induction d with
    | zero => intro j s hj hd hi; obtain rfl : j = n := by omega
              exact hend s hi
    | succ d ih =>
      intro j s hj hd hi
      rcases hstep j s qa13 hi with h | ⟨s', hi', hp, hk⟩
      · exact h
      · obtain ⟨r, hr, he⟩ := ih (j + 1) s' qa13 qa13 hi'
        exact ⟨r, hp r hr, ev_step hk he⟩
  intro j s hj hi
  exact key _ j s hj rfl hi
/-- A loop that fills a row of its own. -/
theorem fill_loop {α β : Type} (xs : List α) (z : α) (g : α → β) (L : Nat → List β → Int → Option (List β)) (hend : ∀ y : List β, y.length = xs.length → ∃ K, ∀ k, K ≤ k → L (k + 1) y (xs.length : Int) = some y)
    (hstep : ∀ (j : Nat) (y : List β), j < xs.length → y.length = xs.length → ∃ K, ∀ k, K ≤ k → L (k + 1) y (j : Int) = L k (y.set j (g (xs.getD j z))) ((j + 1 : Nat) : Int)) (y : List β) (hy : y.length = xs.length) :
    Ev (fun k => L k y 0) (xs.map g) := by
  obtain ⟨r, hr, he⟩ := state_loop xs.length L (fun j y => y.length = xs.length ∧ ∀ i, i < j → y[i]? = (xs.map g)[i]?) (fun _ _ r => r = xs.map g) (fun y hi => ⟨y, List.ext_getElem? fun i => by
      by_cases hi' : i < xs.length
      · exact hi.2 i hi'
      · rw [List.getElem?_eq_none qa13, List.getElem?_eq_none qa122], ev_now (hend y hi.1)⟩) (fun j y hj hi => .inr ⟨_, ⟨by simp [hi.1], fun i hij => by
      by_cases he : i = j
      · subst he
        rw [List.getElem?_set_self qa13]
        simp [List.getD_eq_getElem?_getD, List.getElem?_eq_getElem hj]
      · rw [List.getElem?_set_ne qa13]
        exact hi.2 i qa13⟩, fun r h => h, hstep j y hj hi.1⟩) 0 y qa13 ⟨hy, fun i hi => by omega⟩
  subst hr
  exact he
def fitsB (key v : Int) : Bool := if Int.tmod key 2 = 1 then decide (0 ≤ v ∧ v ≤ 8) else decide (-2147483648 ≤ v ∧ v ≤ 2147483647)
theorem spec_in (a b c : Int) : spec_l01In.f a b c = some (decide (b ≤ a ∧ a ≤ c)) := by
  unfold spec_l01In.f
  by_cases h : b ≤ a
  · rw [if_pos h]; simp [h]
  · rw [if_neg h]; simp [h]
theorem impl_in (a b c : Int) : impl_within.f a b c = some (decide (b ≤ a ∧ a ≤ c)) := spec_in a b c
theorem spec_fits (a b : Int) : spec_l06Value.f a b = some (fitsB a b) := by
  unfold spec_l06Value.f spec_IsInt.f fitsB
  by_cases h : Int.tmod a 2 = 1
  · rw [if_pos h, if_pos h, spec_in]; rfl
  · rw [if_neg h, if_neg h, spec_in]; rfl
theorem impl_fits (a b : Int) : impl_fits.f a b = some (fitsB a b) := by
  unfold impl_fits.f impl_IsInt.f fitsB
  by_cases h : Int.tmod a 2 = 1
  · rw [if_pos h, if_pos h, impl_in]; rfl
  · rw [if_neg h, if_neg h, impl_in]; rfl
/-- A version that is right at its place. -/
def VerOK (now : Int) (key : Nat) (c : List S43) (i : Nat) : Prop :=
  1 ≤ (c.getD i z43).f0 ∧ (c.getD i z43).f0 ≤ now ∧ fitsB key (c.getD i z43).f1 = true ∧ (0 < i → (c.getD (i - 1) z43).f0 < (c.getD i z43).f0)
def IsStore (cs : List (List S43)) (now : Int) : Prop := cs.length = 16 ∧ 0 ≤ now ∧ now ≤ 100000 ∧ ∀ i, i < 16 → ∀ j, j < (cs.getD i []).length → VerOK now i (cs.getD i []) j
theorem spec_chain (cs : List (List S43)) (now : Int) (hl : cs.length = 16) (i : Nat) (hi : i < 16) (hx : (cs.getD i []).length ≤ 1048576) (R : Bool) (hR : Ev (fun k => spec_StoreOK.l0 k ((i + 1 : Nat) : Int) cs now) R) :
    ∃ r, Ev (fun k => spec_StoreOK.l1 k i 0 cs now) r ∧ (r = true ↔ (∀ j, j < (cs.getD i []).length → VerOK now i (cs.getD i []) j) ∧ R = true) := by
  obtain ⟨r, hr, he⟩ := count_loop (cs.getD i []).length (fun k j => spec_StoreOK.l1 k i j cs now) (fun j r => r = true ↔ (∀ j', j ≤ j' → j' < (cs.getD i []).length → VerOK now i (cs.getD i []) j') ∧ R = true)
    ⟨R, ⟨fun h => ⟨fun j' h1 h2 => by omega, h⟩, fun h => h.2⟩, ev_step ⟨0, fun k _ => by
      simp only [spec_StoreOK.l1]; rw [if_pos qa13, if_pos qa13, if_neg (by show ¬ ((cs.getD i []).length : Int) < ((rd_L4 cs (i : Int)).length : Int); simp [rd_L4]), wsucc (n := 16) hi qa13]⟩ hR⟩
    (fun j hj r hr he => by
      have hd : rd_L4 cs (i : Int) = cs.getD i [] := rfl; have hv : rd_T43 (cs.getD i []) (j : Int) = (cs.getD i []).getD j z43 := rfl
      have hw1 : 0 < j → rd_T43 (cs.getD i []) (wrap64 ((j : Int) - 1)) = (cs.getD i []).getD (j - 1) z43 := fun h0 => by
        have : wrap64 ((j : Int) - 1) = ((j - 1 : Nat) : Int) := by unfold wrap64; omega
        rw [this]; rfl
      have hw2 : 0 < j → 0 ≤ wrap64 ((j : Int) - 1) ∧ wrap64 ((j : Int) - 1) < ((cs.getD i []).length : Int) := fun h0 => by
        have : wrap64 ((j : Int) - 1) = ((j - 1 : Nat) : Int) := by unfold wrap64; omega
        rw [this]; omega
      have no : ¬ VerOK now i (cs.getD i []) j → (∃ K, ∀ k, K ≤ k → spec_StoreOK.l1 (k + 1) i j cs now = some false) → ∃ r', (r' = true ↔ (∀ j', j ≤ j' → j' < (cs.getD i []).length → VerOK now i (cs.getD i []) j') ∧ R = true) ∧ Ev (fun k => spec_StoreOK.l1 k i j cs now) r' :=
        fun hn hk => ⟨false, ⟨fun h => qa127, fun h => absurd (h.1 j (Nat.le_refl _) hj) hn⟩, ev_now hk⟩
      have yes : VerOK now i (cs.getD i []) j → (∃ K, ∀ k, K ≤ k → spec_StoreOK.l1 (k + 1) i j cs now = spec_StoreOK.l1 k i ((j + 1 : Nat) : Int) cs now) → ∃ r', (r' = true ↔ (∀ j', j ≤ j' → j' < (cs.getD i []).length → VerOK now i (cs.getD i []) j') ∧ R = true) ∧ Ev (fun k => spec_StoreOK.l1 k i j cs now) r' :=
        fun hn hk => ⟨r, hr.trans ⟨fun h => ⟨fun j' h1 h2 => by
          rcases Nat.lt_or_eq_of_le h1 with h3 | rfl
          · exact h.1 j' h3 h2
          · exact hn, h.2⟩, fun h => ⟨fun j' h1 h2 => h.1 j' qa13 h2, h.2⟩⟩, ev_step hk he⟩
      have hh : ∀ k, spec_StoreOK.l1 (k + 1) i j cs now = if (decide (1 ≤ ((cs.getD i []).getD j z43).f0 ∧ ((cs.getD i []).getD j z43).f0 ≤ now)) = true then (if fitsB i ((cs.getD i []).getD j z43).f1 = true then (if (j : Int) > 0 then (if ((cs.getD i []).getD (j - 1) z43).f0 ≥ ((cs.getD i []).getD j z43).f0 then some false else spec_StoreOK.l1 k i ((j + 1 : Nat) : Int) cs now) else spec_StoreOK.l1 k i ((j + 1 : Nat) : Int) cs now) else some false) else some false := by
        intro k
        conv => lhs; simp only [spec_StoreOK.l1]
        rw [hd, if_pos qa13, if_pos qa13, if_pos qa13, if_pos qa13, spec_in, spec_fits, hv]; simp only [Option.bind_some, wsucc hj qa13]
        by_cases h0 : 0 < j
        · rw [hw1 h0, if_pos (hw2 h0).1, if_pos (hw2 h0).2]
        · simp only [if_neg (show ¬ ((j : Int) > 0) by omega)]
      by_cases h1 : 1 ≤ ((cs.getD i []).getD j z43).f0 ∧ ((cs.getD i []).getD j z43).f0 ≤ now
      · by_cases h2 : fitsB i ((cs.getD i []).getD j z43).f1 = true
        · by_cases h3 : 0 < j
          · by_cases h4 : ((cs.getD i []).getD (j - 1) z43).f0 ≥ ((cs.getD i []).getD j z43).f0
            · exact no (fun h => absurd (h.2.2.2 h3) qa13) ⟨0, fun k _ => by rw [hh, if_pos (decide_eq_true h1), if_pos h2, if_pos qa13, if_pos h4]⟩
            · exact yes ⟨h1.1, h1.2, h2, fun _ => by omega⟩ ⟨0, fun k _ => by rw [hh, if_pos (decide_eq_true h1), if_pos h2, if_pos qa13, if_neg h4]⟩
          · exact yes ⟨h1.1, h1.2, h2, fun h => absurd h h3⟩ ⟨0, fun k _ => by rw [hh, if_pos (decide_eq_true h1), if_pos h2, if_neg qa13]⟩
        · exact no (fun h => h2 h.2.2.1) ⟨0, fun k _ => by rw [hh, if_pos (decide_eq_true h1), if_neg h2]⟩
      · exact no (fun h => h1 ⟨h.1, h.2.1⟩) ⟨0, fun k _ => by rw [hh, if_neg (by simpa using h1)]⟩) 0 qa13
  exact ⟨r, he, hr.trans ⟨fun h => ⟨fun j hj => h.1 j qa13 hj, h.2⟩, fun h => ⟨fun j _ hj => h.1 j hj, h.2⟩⟩⟩
theorem spec_store_ok (cs : List (List S43)) (now : Int) (hx : ∀ x ∈ cs, x.length ≤ 1048576) : ∃ r, Ev (fun k => spec_StoreOK.f k cs now) r ∧ (r = true ↔ IsStore cs now) := by
  by_cases hl : cs.length = 16
  · by_cases hn : 0 ≤ now ∧ now ≤ 100000
    · obtain ⟨r, hr, he⟩ := count_loop 16 (fun k i => spec_StoreOK.l0 k i cs now) (fun i r => r = true ↔ ∀ i', i ≤ i' → i' < 16 → ∀ j, j < (cs.getD i' []).length → VerOK now i' (cs.getD i' []) j)
        ⟨true, ⟨fun _ i' h1 h2 => by omega, fun _ => rfl⟩, ev_now ⟨0, fun k _ => by simp only [spec_StoreOK.l0]; rw [if_neg qa13]⟩⟩
        (fun i hi R hR he => by
          have hm : (cs.getD i []) ∈ cs := by rw [List.getD_eq_getElem?_getD, List.getElem?_eq_getElem qa13]; exact List.getElem_mem qa13
          obtain ⟨r, he', hr⟩ := spec_chain cs now hl i hi (hx _ hm) R he; refine ⟨r, ?_, ev_step ⟨0, fun k _ => by simp only [spec_StoreOK.l0]; rw [if_pos qa13]⟩ he'⟩; rw [hr, hR]
          constructor
          · rintro ⟨h1, h2⟩ i' h3 h4
            rcases Nat.lt_or_eq_of_le h3 with h5 | rfl
            · exact h2 i' h5 h4
            · exact h1
          · intro h; exact ⟨h i (Nat.le_refl _) hi, fun i' h3 h4 => h i' qa13 h4⟩) 0 qa13
      refine ⟨r, ?_, hr.trans ⟨fun h => ⟨hl, hn.1, hn.2, fun i hi => h i qa13 hi⟩, fun h i _ hi => h.2.2.2 i hi⟩⟩; refine ev_step (f := fun k => spec_StoreOK.l0 k 0 cs now) ⟨0, fun k _ => ?_⟩ he
      unfold spec_StoreOK.f
      rw [if_pos qa13, spec_in]; simp only [Option.bind_some, decide_eq_true hn, Bool.not_true, spec_StoreOK.j0]; rw [if_neg qa51]
    · refine ⟨false, ev_now ⟨0, fun k _ => ?_⟩, ⟨fun h => qa127, fun h => absurd ⟨h.2.1, h.2.2.1⟩ hn⟩⟩
      unfold spec_StoreOK.f
      rw [if_pos qa13, spec_in]; simp only [Option.bind_some, decide_eq_false hn, Bool.not_false, spec_StoreOK.j0]
      exact if_pos trivial
  · refine ⟨false, ev_now ⟨0, fun k _ => ?_⟩, ⟨fun h => qa127, fun h => absurd h.1 hl⟩⟩
    unfold spec_StoreOK.f
    rw [if_neg qa13]; simp only [spec_StoreOK.j0]
    exact if_pos trivial
theorem impl_chain (cs : List (List S43)) (now : Int) (i : Nat) (hi : i < 16) (c : List S43) (hc : c = cs.getD i []) (hx : c.length ≤ 1048576) (R : Bool) (hR : Ev (fun k => impl_StoreOK.l0 k cs 16 ((i + 1 : Nat) : Int) cs now) R) :
    ∃ r, Ev (fun k => impl_StoreOK.l1 k i c cs 16 i c (c.length : Int) 0 cs now) r ∧ (r = true ↔ (∀ j, j < c.length → VerOK now i c j) ∧ R = true) := by
  obtain ⟨r, hr, he⟩ := count_loop c.length (fun k j => impl_StoreOK.l1 k i c cs 16 i c (c.length : Int) j cs now) (fun j r => r = true ↔ (∀ j', j ≤ j' → j' < c.length → VerOK now i c j') ∧ R = true)
    ⟨R, ⟨fun h => ⟨fun j' h1 h2 => by omega, h⟩, fun h => h.2⟩, ev_step ⟨0, fun k _ => by
      simp only [impl_StoreOK.l1]; rw [if_neg qa13, wsucc (n := 16) hi qa13]⟩ hR⟩
    (fun j hj r hr he => by
      have hv : rd_T43 c (j : Int) = c.getD j z43 := rfl
      have hw1 : 0 < j → rd_T43 c (wrap64 ((j : Int) - 1)) = c.getD (j - 1) z43 := fun h0 => by
        have : wrap64 ((j : Int) - 1) = ((j - 1 : Nat) : Int) := by unfold wrap64; omega
        rw [this]; rfl
      have hw2 : 0 < j → 0 ≤ wrap64 ((j : Int) - 1) ∧ wrap64 ((j : Int) - 1) < (c.length : Int) := fun h0 => by
        have : wrap64 ((j : Int) - 1) = ((j - 1 : Nat) : Int) := by unfold wrap64; omega
        rw [this]; omega
      have no : ¬ VerOK now i c j → (∃ K, ∀ k, K ≤ k → impl_StoreOK.l1 (k + 1) i c cs 16 i c (c.length : Int) j cs now = some false) → ∃ r', (r' = true ↔ (∀ j', j ≤ j' → j' < c.length → VerOK now i c j') ∧ R = true) ∧ Ev (fun k => impl_StoreOK.l1 k i c cs 16 i c (c.length : Int) j cs now) r' :=
        fun hn hk => ⟨false, ⟨fun h => qa127, fun h => absurd (h.1 j (Nat.le_refl _) hj) hn⟩, ev_now hk⟩
      have yes : VerOK now i c j → (∃ K, ∀ k, K ≤ k → impl_StoreOK.l1 (k + 1) i c cs 16 i c (c.length : Int) j cs now = impl_StoreOK.l1 k i c cs 16 i c (c.length : Int) ((j + 1 : Nat) : Int) cs now) → ∃ r', (r' = true ↔ (∀ j', j ≤ j' → j' < c.length → VerOK now i c j') ∧ R = true) ∧ Ev (fun k => impl_StoreOK.l1 k i c cs 16 i c (c.length : Int) j cs now) r' :=
        fun hn hk => ⟨r, hr.trans ⟨fun h => ⟨fun j' h1 h2 => by
          rcases Nat.lt_or_eq_of_le h1 with h3 | rfl
          · exact h.1 j' h3 h2
          · exact hn, h.2⟩, fun h => ⟨fun j' h1 h2 => h.1 j' qa13 h2, h.2⟩⟩, ev_step hk he⟩
      have hh : ∀ k, impl_StoreOK.l1 (k + 1) i c cs 16 i c (c.length : Int) j cs now = if (decide (1 ≤ (c.getD j z43).f0 ∧ (c.getD j z43).f0 ≤ now)) = true then (if (j : Int) > 0 then (if (c.getD (j - 1) z43).f0 ≥ (c.getD j z43).f0 then some false else (if fitsB i (c.getD j z43).f1 = true then impl_StoreOK.l1 k i c cs 16 i c (c.length : Int) ((j + 1 : Nat) : Int) cs now else some false)) else (if fitsB i (c.getD j z43).f1 = true then impl_StoreOK.l1 k i c cs 16 i c (c.length : Int) ((j + 1 : Nat) : Int) cs now else some false)) else some false := by
        intro k
        conv => lhs; simp only [impl_StoreOK.l1]
        rw [if_pos qa13, if_pos qa13, if_pos qa13, impl_in, impl_fits, hv]; simp only [Option.bind_some, wsucc hj qa13]
        by_cases h0 : 0 < j
        · rw [hw1 h0, if_pos (hw2 h0).1, if_pos (hw2 h0).2]
        · simp only [if_neg (show ¬ ((j : Int) > 0) by omega)]
      by_cases h1 : 1 ≤ (c.getD j z43).f0 ∧ (c.getD j z43).f0 ≤ now
      · by_cases h2 : fitsB i (c.getD j z43).f1 = true
        · by_cases h3 : 0 < j
          · by_cases h4 : (c.getD (j - 1) z43).f0 ≥ (c.getD j z43).f0
            · exact no (fun h => absurd (h.2.2.2 h3) qa13) ⟨0, fun k _ => by rw [hh, if_pos (decide_eq_true h1), if_pos qa13, if_pos h4]⟩
            · exact yes ⟨h1.1, h1.2, h2, fun _ => by omega⟩ ⟨0, fun k _ => by rw [hh, if_pos (decide_eq_true h1), if_pos qa13, if_neg h4, if_pos h2]⟩
          · exact yes ⟨h1.1, h1.2, h2, fun h => absurd h h3⟩ ⟨0, fun k _ => by rw [hh, if_pos (decide_eq_true h1), if_neg qa13, if_pos h2]⟩
        · refine no (fun h => h2 h.2.2.1) ⟨0, fun k _ => ?_⟩
          rw [hh, if_pos (decide_eq_true h1)]; simp only [if_neg h2]
          repeat' split
          all_goals rfl
      · exact no (fun h => h1 ⟨h.1, h.2.1⟩) ⟨0, fun k _ => by rw [hh, if_neg (by simpa using h1)]⟩) 0 qa13
  exact ⟨r, he, hr.trans ⟨fun h => ⟨fun j hj => h.1 j qa13 hj, h.2⟩, fun h => ⟨fun j _ hj => h.1 j hj, h.2⟩⟩⟩
theorem impl_store_ok (cs : List (List S43)) (now : Int) (hx : ∀ x ∈ cs, x.length ≤ 1048576) : ∃ r, Ev (fun k => impl_StoreOK.f k cs now) r ∧ (r = true ↔ IsStore cs now) := by
  by_cases hl : cs.length = 16
  · by_cases hn : 0 ≤ now ∧ now ≤ 100000
    · obtain ⟨r, hr, he⟩ := count_loop 16 (fun k i => impl_StoreOK.l0 k cs 16 i cs now) (fun i r => r = true ↔ ∀ i', i ≤ i' → i' < 16 → ∀ j, j < (cs.getD i' []).length → VerOK now i' (cs.getD i' []) j)
        ⟨true, ⟨fun _ i' h1 h2 => by omega, fun _ => rfl⟩, ev_now ⟨0, fun k _ => by simp only [impl_StoreOK.l0]; rw [if_neg qa13]⟩⟩
        (fun i hi R hR he => by
          have hm : (cs.getD i []) ∈ cs := by rw [List.getD_eq_getElem?_getD, List.getElem?_eq_getElem qa13]; exact List.getElem_mem qa13
          obtain ⟨r, he', hr⟩ := impl_chain cs now i hi (cs.getD i []) rfl (hx _ hm) R he; refine ⟨r, ?_, ev_step ⟨0, fun k _ => by simp only [impl_StoreOK.l0]; rw [if_pos qa13, if_pos qa13, if_pos qa13]; rfl⟩ he'⟩; rw [hr, hR]
          constructor
          · rintro ⟨h1, h2⟩ i' h3 h4
            rcases Nat.lt_or_eq_of_le h3 with h5 | rfl
            · exact h2 i' h5 h4
            · exact h1
          · intro h; exact ⟨h i (Nat.le_refl _) hi, fun i' h3 h4 => h i' qa13 h4⟩) 0 qa13
      refine ⟨r, ?_, hr.trans ⟨fun h => ⟨hl, hn.1, hn.2, fun i hi => h i qa13 hi⟩, fun h i _ hi => h.2.2.2 i hi⟩⟩; refine ev_step (f := fun k => impl_StoreOK.l0 k cs 16 0 cs now) ⟨0, fun k _ => ?_⟩ he
      unfold impl_StoreOK.f
      rw [if_pos qa13, impl_in]; simp only [Option.bind_some, decide_eq_true hn, Bool.not_true, impl_StoreOK.j0]; rw [if_neg qa51, hl]
      rfl
    · refine ⟨false, ev_now ⟨0, fun k _ => ?_⟩, ⟨fun h => qa127, fun h => absurd ⟨h.2.1, h.2.2.1⟩ hn⟩⟩
      unfold impl_StoreOK.f
      rw [if_pos qa13, impl_in]; simp only [Option.bind_some, decide_eq_false hn, Bool.not_false, impl_StoreOK.j0]
      exact if_pos trivial
  · refine ⟨false, ev_now ⟨0, fun k _ => ?_⟩, ⟨fun h => qa127, fun h => absurd h.1 hl⟩⟩
    unfold impl_StoreOK.f
    rw [if_neg qa13]; simp only [impl_StoreOK.j0]
    exact if_pos trivial
/-- Both say the same of a store. -/
theorem stores_agree (cs : List (List S43)) (now : Int) (hx : ∀ x ∈ cs, x.length ≤ 1048576) : ∃ r, Ev (fun k => spec_StoreOK.f k cs now) r ∧ Ev (fun k => impl_StoreOK.f k cs now) r ∧ (r = true ↔ IsStore cs now) := by
  obtain ⟨r, e, hr⟩ := spec_store_ok cs now hx; obtain ⟨r', e', hr'⟩ := impl_store_ok cs now hx; have : r' = r := by rw [Bool.eq_iff_iff, hr, hr']
  subst this
  exact ⟨r', e, e', hr⟩
end Go.Proofs.Ytfiboooflebdpaa.Pure2
namespace Go.Proofs.Ytfiboooflebdpaa.Pure2
open Go.RowKit Go.Proofs.Ytfiboooflebdpaa.Q Go.Proofs.YtfiboooflebdpaaW.PrintWords Go.Proofs.YtfiboooflebdpaaW.PrintLast
set_option linter.unusedVariables false
set_option linter.unusedSimpArgs false
/-! a store's copy -/
theorem clone_row (c : List S43) (h : c.length ≤ 1048576) : impl_Version.f c = some c := by
  unfold impl_Version.f
  rw [if_pos qa13]
theorem row_mem (cs : List (List S43)) (j : Nat) (h : j < cs.length) : cs.getD j [] ∈ cs := by rw [List.getD_eq_getElem?_getD, List.getElem?_eq_getElem h]; exact List.getElem_mem h
theorem take_next (cs : List (List S43)) (j : Nat) (h : j < cs.length) : cs.take (j + 1) = cs.take j ++ [cs.getD j []] := by
  rw [List.take_add_one, List.getElem?_eq_getElem h, List.getD_eq_getElem?_getD, List.getElem?_eq_getElem h]; rfl
theorem impl_copy (cs : List (List S43)) (now : Int) (hl : cs.length ≤ 1048576) (hx : ∀ x ∈ cs, x.length ≤ 1048576) : Ev (fun k => impl_copyStore.f k cs now) (cs, now) := by
  obtain ⟨r, hr, he⟩ := state_loop cs.length (fun k (s : List (List S43)) i => impl_copyStore.l0 k cs (cs.length : Int) i s now) (fun j s => s = cs.take j) (fun _ _ r => r = (cs, now))
    (fun s hi => ⟨(cs, now), rfl, ev_now ⟨0, fun k _ => by simp only [impl_copyStore.l0]; rw [if_neg qa13, hi, List.take_length]⟩⟩)
    (fun j s hj hi => by
      have hn : s.length = j := by rw [hi, List.length_take]; omega
      refine .inr ⟨cs.take (j + 1), rfl, fun r h => h, 0, fun k _ => ?_⟩; have e : impl_Version.f (rd_L4 cs (j : Int)) = some (cs.getD j []) := clone_row _ (hx _ (row_mem cs j hj)); simp only [impl_copyStore.l0]; rw [if_pos qa13, if_pos qa13, if_pos qa13, e]; simp only [Option.bind_some]; rw [if_pos qa13, wsucc hj qa13, take_next cs j hj, hi]) 0 [] qa13 rfl
  subst hr
  exact ev_same ⟨0, fun k _ => by unfold impl_copyStore.f; rfl⟩ he
theorem spec_own (cs : List (List S43)) (now : Int) (hl : cs.length ≤ 1048576) (hx : ∀ x ∈ cs, x.length ≤ 1048576) : Ev (fun k => spec_l06Own.f k cs now) (cs, now) := by
  obtain ⟨r, hr, he⟩ := state_loop cs.length (fun k (s : List (List S43)) i => spec_l06Own.l0 k i cs now s now) (fun j s => s = cs.take j) (fun _ _ r => r = (cs, now))
    (fun s hi => ⟨(cs, now), rfl, ev_now ⟨0, fun k _ => by simp only [spec_l06Own.l0]; rw [if_neg qa13, hi, List.take_length]⟩⟩)
    (fun j s hj hi => by
      have hn : s.length = j := by rw [hi, List.length_take]; omega
      refine .inr ⟨cs.take (j + 1), rfl, fun r h => h, 0, fun k _ => ?_⟩; have hd : rd_L4 cs (j : Int) = cs.getD j [] := rfl; have hc := hx _ (row_mem cs j hj); simp only [spec_l06Own.l0, Option.bind_some]; rw [if_pos qa13, if_pos qa13, hd, List.length_nil, if_pos qa13, if_pos qa13, wsucc hj qa13, take_next cs j hj, hi, List.nil_append]) 0 [] qa13 rfl
  subst hr
  exact ev_same ⟨0, fun k _ => by unfold spec_l06Own.f; rfl⟩ he
/-! what is forgotten -/
def gone (c : List S43) (low : Int) (g : Nat) : Nat := if h : g + 1 < c.length ∧ (c.getD (g + 1) z43).f0 ≤ low then gone c low (g + 1) else g
termination_by c.length - g
theorem gone_step (c : List S43) (low : Int) (g : Nat) (h : g + 1 < c.length ∧ (c.getD (g + 1) z43).f0 ≤ low) : gone c low g = gone c low (g + 1) := by
  rw [gone]; exact dif_pos h
theorem gone_stop (c : List S43) (low : Int) (g : Nat) (h : ¬ (g + 1 < c.length ∧ (c.getD (g + 1) z43).f0 ≤ low)) : gone c low g = g := by
  rw [gone]; exact dif_neg h
theorem gone_le (c : List S43) (low : Int) : ∀ (m g : Nat), c.length - g = m → g ≤ c.length → g ≤ gone c low g ∧ gone c low g ≤ c.length := by
  intro m
  induction m with
  | zero => intro g hm hg; rw [gone_stop c low g qa13]; omega
  | succ m ih =>
    intro g hm hg
    by_cases h : g + 1 < c.length ∧ (c.getD (g + 1) z43).f0 ≤ low
    · rw [gone_step c low g h]
      have := ih (g + 1) qa13 qa13
      omega
    · rw [gone_stop c low g h]; omega
def fgt (low : Int) (c : List S43) : List S43 := c.drop (gone c low 0)
theorem fgt_len (low : Int) (c : List S43) : (fgt low c).length ≤ c.length := by unfold fgt; rw [List.length_drop]; omega
def tot (cs : List (List S43)) (low : Int) (j : Nat) : Nat := ((cs.take j).map (fun c => gone c low 0)).sum
theorem tot_next (cs : List (List S43)) (low : Int) (j : Nat) (h : j < cs.length) : tot cs low (j + 1) = tot cs low j + gone (cs.getD j []) low 0 := by
  unfold tot
  rw [take_next cs j h]
  simp
theorem tot_le (cs : List (List S43)) (low : Int) (hx : ∀ x ∈ cs, x.length ≤ 1048576) : ∀ j, j ≤ cs.length → tot cs low j ≤ 1048576 * j := by
  intro j
  induction j with
  | zero => intro _; simp [tot]
  | succ j ih =>
    intro h; have := ih qa13; have := hx _ (row_mem cs j qa13); have := (gone_le (cs.getD j []) low _ 0 rfl qa13).2; rw [tot_next cs low j qa13]
    omega
theorem spec_inner (cs : List (List S43)) (now low : Int) (c : List S43) (hc : c.length ≤ 1048576) (j : Nat) (hj : j < 16) (n : Nat) (hn : n ≤ 33554432) (ys : List (List S43)) (hy : ys.length ≤ 16) (r : List (List S43) × Int × Int) : ∀ (m g : Nat), c.length - g = m → g ≤ c.length →
    Ev (fun k => spec_l06Forget.l0 k low ((n + gone c low g : Nat) : Int) ((j + 1 : Nat) : Int) cs now (ys ++ [c.drop (gone c low g)]) now) r → Ev (fun k => spec_l06Forget.l1 k low (n : Int) (j : Int) c (g : Int) cs now ys now) r := by
  intro m
  induction m with
  | zero =>
    intro g hm hg h; rw [gone_stop c low g qa13] at h; have hw : wrap64 ((g : Int) + 1) = ((g + 1 : Nat) : Int) := by unfold wrap64; omega
    have hw2 : wrap64 ((n : Int) + (g : Int)) = ((n + g : Nat) : Int) := by unfold wrap64; omega
    refine ev_step ⟨0, fun k _ => ?_⟩ h; simp only [spec_l06Forget.l1, Option.bind_some, List.nil_append, List.length_nil, Nat.zero_add, List.length_drop, Int.toNat_natCast]; rw [hw, if_neg qa13, if_pos qa13, if_pos qa13, if_pos qa13, if_pos qa13, hw2, wsucc (n := 16) hj qa13]
  | succ m ih =>
    intro g hm hg h; have hw : wrap64 ((g : Int) + 1) = ((g + 1 : Nat) : Int) := by unfold wrap64; omega
    have hw2 : wrap64 ((n : Int) + (g : Int)) = ((n + g : Nat) : Int) := by unfold wrap64; omega
    have hd : rd_T43 c ((g + 1 : Nat) : Int) = c.getD (g + 1) z43 := rfl
    by_cases h1 : g + 1 < c.length
    · by_cases h2 : (c.getD (g + 1) z43).f0 ≤ low
      · rw [gone_step c low g ⟨h1, h2⟩] at h
        refine ev_step ⟨0, fun k _ => ?_⟩ (ih (g + 1) qa13 qa13 h)
        conv => lhs; simp only [spec_l06Forget.l1]
        rw [hw, if_pos qa13, if_pos qa13, hd, if_pos h2]
      · rw [gone_stop c low g (fun h3 => h2 h3.2)] at h
        refine ev_step ⟨0, fun k _ => ?_⟩ h; simp only [spec_l06Forget.l1, Option.bind_some, List.nil_append, List.length_nil, Nat.zero_add, List.length_drop, Int.toNat_natCast]; rw [hw, if_pos qa13, if_pos qa13, hd, if_neg h2, if_pos qa13, if_pos qa13, if_pos qa13, if_pos qa13, hw2, wsucc (n := 16) hj qa13]
    · rw [gone_stop c low g (fun h3 => h1 h3.1)] at h
      refine ev_step ⟨0, fun k _ => ?_⟩ h; simp only [spec_l06Forget.l1, Option.bind_some, List.nil_append, List.length_nil, Nat.zero_add, List.length_drop, Int.toNat_natCast]; rw [hw, if_neg qa13, if_pos qa13, if_pos qa13, if_pos qa13, if_pos qa13, hw2, wsucc (n := 16) hj qa13]
theorem spec_forget (cs : List (List S43)) (now low : Int) (hl : cs.length = 16) (hx : ∀ x ∈ cs, x.length ≤ 1048576) : Ev (fun k => spec_l06Forget.f k cs now low) (cs.map (fgt low), now, (tot cs low 16 : Int)) := by
  have key : ∀ d j, j ≤ 16 → 16 - j = d → Ev (fun k => spec_l06Forget.l0 k low (tot cs low j : Int) (j : Int) cs now ((cs.take j).map (fgt low)) now) (cs.map (fgt low), now, (tot cs low 16 : Int)) := by
    intro d
    induction d with
    | zero =>
      intro j hj hd; obtain rfl : j = 16 := by omega
      exact ev_now ⟨0, fun k _ => by simp only [spec_l06Forget.l0]; rw [if_neg qa13, List.take_of_length_le qa13]⟩
    | succ d ih =>
      intro j hj hd; have h := ih (j + 1) qa13 qa13; have ht := tot_le cs low hx j qa13; have hc := hx _ (row_mem cs j qa13); have hr : rd_L4 cs (j : Int) = cs.getD j [] := rfl; rw [tot_next cs low j qa13, take_next cs j qa13, List.map_append] at h; refine ev_step ⟨0, fun k _ => ?_⟩ (spec_inner cs now low (cs.getD j []) hc j qa13 (tot cs low j) qa13 ((cs.take j).map (fgt low)) (by rw [List.length_map, List.length_take]; omega) _ _ 0 rfl qa13 h)
      conv => lhs; simp only [spec_l06Forget.l0]
      rw [if_pos qa13, if_pos qa13, if_pos qa13, hr]
      rfl
  have h := key 16 0 qa13 qa13
  exact ev_same ⟨0, fun k _ => by unfold spec_l06Forget.f; rfl⟩ h
end Go.Proofs.Ytfiboooflebdpaa.Pure2
namespace Go.Proofs.Ytfiboooflebdpaa.Pure2
open Go.RowKit Go.Proofs.Ytfiboooflebdpaa.Q Go.Proofs.YtfiboooflebdpaaW.PrintWords Go.Proofs.YtfiboooflebdpaaW.PrintLast
set_option linter.unusedVariables false
set_option linter.unusedSimpArgs false
/-! what a chain tells at an hour -/
def lastVal (c : List S43) (ts : Int) : Nat → Int
  | 0 => 0
  | j + 1 => if (c.getD j z43).f0 ≤ ts then (c.getD j z43).f1 else lastVal c ts j
theorem back_val (c : List S43) (ts : Int) : ∀ (m : Nat) (h : Nat → Int), (match ((List.range m).map (fun k => (h k, c.getD (m - 1 - k) z43))).find? (fun p => decide (p.2.f0 ≤ ts)) with | some p => p.2.f1 | none => 0) = lastVal c ts m := by
  intro m
  induction m with
  | zero => intro h; rfl
  | succ m ih =>
    intro h
    have e : (List.range (m + 1)).map (fun k => (h k, c.getD (m + 1 - 1 - k) z43)) = (h 0, c.getD m z43) :: (List.range m).map (fun k => ((fun k => h (k + 1)) k, c.getD (m - 1 - k) z43)) := by
      rw [List.range_succ_eq_map, List.map_cons, List.map_map]
      congr 1
      refine List.map_congr_left fun k _ => ?_
      show (h (k + 1), c.getD (m + 1 - 1 - (k + 1)) z43) = _
      rw [show m + 1 - 1 - (k + 1) = m - 1 - k by omega]
    rw [e, List.find?_cons]
    unfold lastVal
    by_cases hc : (c.getD m z43).f0 ≤ ts
    · simp only [hc, decide_true, if_true]
    · simp only [hc, decide_false, if_false]
      exact ih _
theorem val_last (c : List S43) (ts : Int) : bw.val c ts = lastVal c ts c.length := back_val c ts c.length (fun k => ((c.length - 1 - k : Nat) : Int))
theorem read_agree (cs : List (List S43)) (now key ts : Int) (hl : cs.length = 16) (h0 : 0 ≤ key) (h1 : key ≤ 15) (hx : ∀ x ∈ cs, x.length ≤ 1048576) :
    Ev (fun k => spec_l06Read.f k cs now key ts) (bw.val (rd_L4 cs key) ts) ∧ impl_Store_readAt.f cs now key ts = some (bw.val (rd_L4 cs key) ts) := by
  refine ⟨?_, by unfold impl_Store_readAt.f; rw [if_pos h0, if_pos (by omega)]⟩
  have hc : (rd_L4 cs key).length ≤ 1048576 := by
    refine hx _ ?_
    show cs.getD key.toNat [] ∈ cs
    rw [List.getD_eq_getElem?_getD, List.getElem?_eq_getElem qa13]
    exact List.getElem_mem qa13
  rw [val_last]
  obtain ⟨r, hr, he⟩ := state_loop (rd_L4 cs key).length (fun k (v : Int) i => spec_l06Read.l0 k key ts v i cs now) (fun j v => v = lastVal (rd_L4 cs key) ts j) (fun _ _ r => r = lastVal (rd_L4 cs key) ts (rd_L4 cs key).length)
    (fun v hi => ⟨v, hi, ev_now ⟨0, fun k _ => by simp only [spec_l06Read.l0]; rw [if_pos h0, if_pos qa13, if_neg qa13]⟩⟩)
    (fun j v hj hi => by
      have hd : rd_T43 (rd_L4 cs key) (j : Int) = (rd_L4 cs key).getD j z43 := rfl; refine .inr ⟨lastVal (rd_L4 cs key) ts (j + 1), rfl, fun r h => h, 0, fun k _ => ?_⟩; simp only [spec_l06Read.l0]; rw [if_pos h0, if_pos qa13, if_pos qa13, if_pos qa13, hd, wsucc hj qa13]
      unfold lastVal
      by_cases hcmp : ((rd_L4 cs key).getD j z43).f0 ≤ ts
      · rw [if_pos hcmp, if_pos hcmp]
      · rw [if_neg hcmp, if_neg hcmp, hi]) 0 0 qa13 rfl
  subst hr
  exact ev_same ⟨0, fun k _ => by unfold spec_l06Read.f; rfl⟩ he
/-! chains that are right: their hours rise; what they tell at an hour -/
theorem getD_at {α : Type} (c : List α) (z : α) (j : Nat) (hj : j < c.length) : c.getD j z = c[j] := by rw [List.getD_eq_getElem?_getD, List.getElem?_eq_getElem hj]; rfl
def Rw (now : Int) (key : Nat) (c : List S43) : Prop := c.Pairwise (fun a b => a.f0 < b.f0) ∧ ∀ v ∈ c, 1 ≤ v.f0 ∧ v.f0 ≤ now ∧ fitsB key v.f1 = true
theorem rw_of (now : Int) (key : Nat) (c : List S43) (h : ∀ j, j < c.length → VerOK now key c j) : Rw now key c := by
  have up : ∀ j, ∀ i, i < j → j < c.length → (c.getD i z43).f0 < (c.getD j z43).f0 := by
    intro j
    induction j with
    | zero => intro i hi; omega
    | succ j ih =>
      intro i hi hj; have h1 := (h (j + 1) hj).2.2.2 qa13; rw [Nat.add_sub_cancel] at h1
      rcases Nat.lt_or_eq_of_le (Nat.le_of_lt_succ hi) with h2 | rfl
      · have := ih i h2 qa13; omega
      · exact h1
  refine ⟨List.pairwise_iff_getElem.2 fun i j hi hj hij => ?_, fun v hv => ?_⟩
  · have := up j i hij hj
    rw [getD_at c _ i hi, getD_at c _ j hj] at this
    exact this
  · obtain ⟨j, hj, rfl⟩ := List.getElem_of_mem hv
    have := h j hj
    unfold VerOK at this
    rw [getD_at c _ j hj] at this
    exact ⟨this.1, this.2.1, this.2.2.1⟩
theorem of_rw (now : Int) (key : Nat) (c : List S43) (h : Rw now key c) : ∀ j, j < c.length → VerOK now key c j := by
  intro j hj; have hm := h.2 c[j] (List.getElem_mem hj)
  unfold VerOK
  rw [getD_at c _ j hj]; refine ⟨hm.1, hm.2.1, hm.2.2, fun h0 => ?_⟩; rw [getD_at c _ (j - 1) qa13]
  exact List.pairwise_iff_getElem.1 h.1 (j - 1) j qa13 hj qa13
theorem store_rw (cs : List (List S43)) (now : Int) : IsStore cs now ↔ cs.length = 16 ∧ 0 ≤ now ∧ now ≤ 100000 ∧ ∀ i, i < 16 → Rw now i (cs.getD i []) :=
  ⟨fun h => ⟨h.1, h.2.1, h.2.2.1, fun i hi => rw_of now i _ (h.2.2.2 i hi)⟩, fun h => ⟨h.1, h.2.1, h.2.2.1, fun i hi => of_rw now i _ (h.2.2.2 i hi)⟩⟩
theorem new_store : IsStore (List.replicate 16 []) 0 := by
  refine ⟨qa51, qa13, qa13, fun i hi j hj => ?_⟩; rw [List.getD_eq_getElem?_getD, List.getElem?_replicate] at hj
  simp [hi] at hj
/-- What a chain tells at an hour. -/
def vl (c : List S43) (ts : Int) : Int := match (c.filter (fun v => decide (v.f0 ≤ ts))).getLast? with | some v => v.f1 | none => 0
theorem vl_snoc (c : List S43) (v : S43) (ts : Int) : vl (c ++ [v]) ts = if v.f0 ≤ ts then v.f1 else vl c ts := by
  unfold vl
  rw [List.filter_append]
  by_cases h : v.f0 ≤ ts
  · rw [if_pos h, List.filter_cons_of_pos (by simpa using h)]; simp
  · rw [if_neg h, List.filter_cons_of_neg (by simpa using h)]; simp
theorem vl_app (a b : List S43) (ts : Int) (h : ∃ x ∈ b, x.f0 ≤ ts) : vl (a ++ b) ts = vl b ts := by
  obtain ⟨x, hx, hts⟩ := h
  unfold vl
  rw [List.filter_append, List.getLast?_append]; have hne : b.filter (fun v => decide (v.f0 ≤ ts)) ≠ [] := List.ne_nil_of_mem (List.mem_filter.2 ⟨hx, by simpa using hts⟩); rw [List.getLast?_eq_some_getLast hne]
  rfl
theorem vl_same (c : List S43) (ts us : Int) (h1 : ∀ x ∈ c, x.f0 ≤ ts) (h2 : ∀ x ∈ c, x.f0 ≤ us) : vl c ts = vl c us := by
  unfold vl
  rw [List.filter_congr (q := fun v => decide (v.f0 ≤ us)) (fun x hx => by rw [decide_eq_true (h1 x hx), decide_eq_true (h2 x hx)])]
theorem last_vl (c : List S43) (ts : Int) : ∀ j, j ≤ c.length → lastVal c ts j = vl (c.take j) ts := by
  intro j
  induction j with
  | zero => intro _; rfl
  | succ j ih =>
    intro hj; rw [List.take_add_one, List.getElem?_eq_getElem (show j < c.length by omega)]
    show _ = vl (c.take j ++ [c[j]]) ts
    rw [vl_snoc, ← ih qa13]
    show (if _ then _ else _) = _
    rw [getD_at c _ j qa13]
theorem val_vl (c : List S43) (ts : Int) : bw.val c ts = vl c ts := by
  rw [val_last, last_vl c ts c.length (Nat.le_refl _), List.take_length]
/-! what both read of a right store -/
theorem read_right (cs : List (List S43)) (now : Int) (h : IsStore cs now) (hx : ∀ x ∈ cs, x.length ≤ 1048576) (key : Nat) (ts : Int) (hk : key < 16) (h0 : 0 ≤ ts) (h1 : ts ≤ now) :
    Ev (fun k => impl_ReadAt.f k cs now (key : Int) ts) (vl (cs.getD key []) ts, 0) := by
  obtain ⟨b, e1, e2, hb⟩ := stores_agree cs now hx; obtain ⟨K2, h2⟩ := ev_at e2; rw [hb.2 h] at h2; have g2 := (read_agree cs now (key : Int) ts h.1 qa13 qa13 hx).2; have hd : rd_L4 cs (key : Int) = cs.getD key [] := rfl; rw [hd, val_vl] at g2; refine ev_mk K2 fun k hk' => ?_
  unfold impl_ReadAt.f impl_isKey.f impl_Store_isHour.f
  rw [h2 k hk', impl_in, impl_in, g2]; simp only [Option.bind_some, if_true, decide_eq_true (show (0 : Int) ≤ (key : Int) ∧ (key : Int) ≤ 15 by omega), decide_eq_true (show 0 ≤ ts ∧ ts ≤ now from ⟨h0, h1⟩)]
theorem ok_right (cs : List (List S43)) (now : Int) (h : IsStore cs now) (hx : ∀ x ∈ cs, x.length ≤ 1048576) : Ev (fun k => impl_StoreOK.f k cs now) true := by
  obtain ⟨b, e1, e2, hb⟩ := stores_agree cs now hx; rw [hb.2 h] at e2
  exact e2
end Go.Proofs.Ytfiboooflebdpaa.Pure2
namespace Go.Proofs.Ytfiboooflebdpaa.Pure2
open Go.RowKit Go.Proofs.Ytfiboooflebdpaa.Q Go.Proofs.YtfiboooflebdpaaW.PrintWords Go.Proofs.YtfiboooflebdpaaW.PrintLast
set_option linter.unusedVariables false
set_option linter.unusedSimpArgs false
/-! puts that are right -/
def IsPut (x : S58) : Prop := (0 ≤ x.f0 ∧ x.f0 ≤ 15) ∧ fitsB x.f0 x.f1 = true
def IsPuts (l : List S58) : Prop := l.length ≤ 400 ∧ ∀ j, j < l.length → IsPut (l.getD j z58)
theorem spec_puts (l : List S58) (hl : l.length ≤ 1048576) : ∃ r, Ev (fun k => spec_l06Puts.f k l) r ∧ (r = true ↔ IsPuts l) := by
  obtain ⟨r, hr, he⟩ := count_loop l.length (fun k i => spec_l06Puts.l0 k l i) (fun j r => r = true ↔ l.length ≤ 400 ∧ ∀ j', j ≤ j' → j' < l.length → IsPut (l.getD j' z58))
    ⟨decide ((l.length : Int) ≤ 400), ⟨fun h => ⟨by have := qT h; omega, fun j' h1 h2 => by omega⟩, fun h => decide_eq_true (by have := h.1; omega)⟩, ev_now ⟨0, fun k _ => by simp only [spec_l06Puts.l0]; rw [if_neg qa13]⟩⟩
    (fun j hj r hr he => by
      have hd : rd_T58 l (j : Int) = l.getD j z58 := rfl
      have hh : ∀ k, spec_l06Puts.l0 (k + 1) l (j : Int) = if decide (0 ≤ (l.getD j z58).f0 ∧ (l.getD j z58).f0 ≤ 15) = true then (if fitsB (l.getD j z58).f0 (l.getD j z58).f1 = true then spec_l06Puts.l0 k l ((j + 1 : Nat) : Int) else some false) else some false := by
        intro k
        conv => lhs; simp only [spec_l06Puts.l0]
        rw [if_pos qa13, if_pos qa13, hd, spec_in, spec_fits]; simp only [Option.bind_some, wsucc hj qa13]
      by_cases h1 : 0 ≤ (l.getD j z58).f0 ∧ (l.getD j z58).f0 ≤ 15
      · by_cases h2 : fitsB (l.getD j z58).f0 (l.getD j z58).f1 = true
        · refine ⟨r, hr.trans ⟨fun h => ⟨h.1, fun j' h3 h4 => ?_⟩, fun h => ⟨h.1, fun j' h3 h4 => h.2 j' qa13 h4⟩⟩, ev_step ⟨0, fun k _ => by rw [hh, if_pos (decide_eq_true h1), if_pos h2]⟩ he⟩
          rcases Nat.lt_or_eq_of_le h3 with h5 | rfl
          · exact h.2 j' h5 h4
          · exact ⟨h1, h2⟩
        · exact ⟨false, ⟨fun h => qa127, fun h => absurd (h.2 j (Nat.le_refl _) hj).2 h2⟩, ev_now ⟨0, fun k _ => by rw [hh, if_pos (decide_eq_true h1), if_neg h2]⟩⟩
      · exact ⟨false, ⟨fun h => qa127, fun h => absurd (h.2 j (Nat.le_refl _) hj).1 h1⟩, ev_now ⟨0, fun k _ => by rw [hh, if_neg (by simpa using h1)]⟩⟩) 0 qa13
  exact ⟨r, ev_same ⟨0, fun k _ => by unfold spec_l06Puts.f; rfl⟩ he, hr.trans ⟨fun h => ⟨h.1, fun j hj => h.2 j qa13 hj⟩, fun h => ⟨h.1, fun j _ hj => h.2 j hj⟩⟩⟩
theorem impl_put (a b : Int) : impl_isPut.f a b = some (decide (0 ≤ a ∧ a ≤ 15) && fitsB a b) := by
  unfold impl_isPut.f impl_isKey.f
  rw [impl_in, impl_fits]
  by_cases h : 0 ≤ a ∧ a ≤ 15
  · simp [h]
  · simp only [Option.bind_some, decide_eq_false h]; rfl
theorem impl_puts (l : List S58) : ∃ r, impl_arePuts.f l = some r ∧ (r = true ↔ IsPuts l) := by
  have hp : ∀ x, impl_arePuts.p x = false ↔ IsPut x := by
    intro x
    unfold impl_arePuts.p impl_arePuts_1.f
    rw [impl_put]; simp only [Option.bind_some, IsPut]
    by_cases h : 0 ≤ x.f0 ∧ x.f0 ≤ 15
    · simp [h]
    · simp only [decide_eq_false h, Bool.false_and, Bool.not_false]
      exact ⟨fun h2 => (by cases h2), fun h2 => absurd h2.1 h⟩
  unfold impl_arePuts.f
  by_cases hl : (l.length : Int) ≤ 400
  · rw [if_pos hl]
    refine ⟨_, rfl, ?_⟩; rw [Bool.not_eq_true', List.any_eq_false]
    constructor
    · intro h
      refine ⟨qa13, fun j hj => ?_⟩; rw [List.getD_eq_getElem?_getD, List.getElem?_eq_getElem hj]
      exact (hp _).1 (by simpa using h _ (List.getElem_mem hj))
    · rintro ⟨_, h⟩ x hx
      obtain ⟨j, hj, rfl⟩ := List.getElem_of_mem hx; have := h j hj; rw [List.getD_eq_getElem?_getD, List.getElem?_eq_getElem hj] at this
      simpa using (hp _).2 this
  · rw [if_neg hl]
    exact ⟨false, rfl, ⟨fun h => qa127, fun h => absurd h.1 qa13⟩⟩
/-! draws: a source of choices -/
def SrcOK (m a s : Int) : Prop := 0 ≤ a ∧ a ≤ m ∧ 0 ≤ s ∧ s < 2147483648
def CodeOK (code : List Int) : Prop := code.length ≤ 1048576 ∧ ∀ x ∈ code, 0 ≤ x ∧ x ≤ 255
theorem code_rd (code : List Int) (hc : CodeOK code) (i : Int) (h0 : 0 ≤ i) (h1 : i < (code.length : Int)) : 0 ≤ rd code i ∧ rd code i ≤ 255 := by
  have e : rd code i = code[i.toNat]'qa13 := by
    unfold rd
    rw [List.getD_eq_getElem?_getD, List.getElem?_eq_getElem qa13]; rfl
  rw [e]
  exact hc.2 _ (List.getElem_mem _)
theorem byte_ok (code : List Int) (hc : CodeOK code) (m a s : Int) (hm : m ≤ 1000000000) (h : SrcOK m a s) : ∃ r a' s', spec_l00Src_byte.f code a s = some (r, a', s') ∧ 0 ≤ r ∧ r ≤ 255 ∧ SrcOK (m + 1) a' s' := by
  obtain ⟨h1, h2, h3, h4⟩ := h; have hl := hc.1; have w1 : wrap64 (a + 1) = a + 1 := by unfold wrap64; omega
  have w2 : wrap64 (a + 1 - 1) = a := by unfold wrap64; omega
  unfold spec_l00Src_byte.f
  rw [w1, w2]
  by_cases c1 : a + 1 ≤ (code.length : Int)
  · have hr := code_rd code hc a h1 qa13
    rw [if_pos c1, if_pos h1, if_pos qa13]; generalize rd code a = x at *; have w3 : wrap64 x = x := by unfold wrap64; omega
    have w4 : wrap64 (s * 31) = s * 31 := by unfold wrap64; omega
    have w5 : wrap64 (s * 31 + x) = s * 31 + x := by unfold wrap64; omega
    have w6 : wrap64 (s * 31 + x + 7) = s * 31 + x + 7 := by unfold wrap64; omega
    rw [w3, w4, w5, w6, Int.tmod_eq_emod_of_nonneg qa13]
    exact ⟨_, _, _, rfl, hr.1, hr.2, qa13, qa13, qa13, qa13⟩
  · rw [if_neg c1]
    by_cases c2 : a + 1 > 3000
    · rw [if_pos c2]
      exact ⟨_, _, _, rfl, qa13, qa13, qa13, qa13, h3, h4⟩
    · rw [if_neg c2]
      have w4 : wrap64 (s * 1103515245) = s * 1103515245 := by unfold wrap64; omega
      have w5 : wrap64 (s * 1103515245 + 12345) = s * 1103515245 + 12345 := by unfold wrap64; omega
      rw [w4, w5, Int.tmod_eq_emod_of_nonneg (a := s * 1103515245 + 12345) qa13]; generalize hq : (s * 1103515245 + 12345) % 2147483648 = q; have q0 : 0 ≤ q ∧ q < 2147483648 := by omega
      rw [Int.tdiv_eq_ediv_of_nonneg q0.1]; have w6 : wrap64 (q / 65536) = q / 65536 := by unfold wrap64; omega
      rw [w6, Int.tmod_eq_emod_of_nonneg qa13]
      exact ⟨_, _, _, rfl, qa13, qa13, qa13, qa13, q0.1, q0.2⟩
theorem next_ok (code : List Int) (hc : CodeOK code) (m a s n : Int) (hm : m ≤ 1000000000) (hn : 1 ≤ n ∧ n ≤ 256) (h : SrcOK m a s) : ∃ r a' s', spec_l00Src_next.f code a s n = some (r, a', s') ∧ 0 ≤ r ∧ r < n ∧ SrcOK (m + 1) a' s' := by
  unfold spec_l00Src_next.f
  by_cases c1 : n ≤ 1
  · rw [if_pos c1]
    exact ⟨_, _, _, rfl, qa13, qa13, h.1, by have := h.2.1; omega, h.2.2⟩
  · obtain ⟨r, a', s', e, r0, r1, hs⟩ := byte_ok code hc m a s hm h
    rw [if_neg c1, if_pos hn.2, e]; simp only [Option.bind_some]; rw [if_neg qa13, Int.tmod_eq_emod_of_nonneg r0]; have h1 := Int.emod_nonneg r (show n ≠ 0 by omega); have h2 := Int.emod_lt_of_pos r (show 0 < n by omega)
    exact ⟨_, _, _, rfl, h1, h2, hs⟩
theorem put_ok (code : List Int) (hc : CodeOK code) (m a s : Int) (hm : m ≤ 900000000) (h : SrcOK m a s) : ∃ (p : S58) (a' s' : Int), spec_l00Src_put.f code a s = some (p.f0, p.f1, a', s') ∧ IsPut p ∧ SrcOK (m + 3) a' s' := by
  obtain ⟨r, a1, s1, e1, r0, r1, h1⟩ := next_ok code hc m a s 16 qa13 qa13 h
  unfold spec_l00Src_put.f
  rw [e1]; simp only [Option.bind_some]
  by_cases c1 : Int.tmod r 2 = 1
  · obtain ⟨v, a2, s2, e2, v0, v1, h2⟩ := next_ok code hc (m + 1) a1 s1 9 qa13 qa13 h1
    rw [if_pos c1, e2]; refine ⟨⟨r, v⟩, a2, s2, rfl, ⟨⟨r0, by show r ≤ 15; omega⟩, ?_⟩, h2.1, by have := h2.2.1; omega, h2.2.2⟩
    show fitsB r v = true
    unfold fitsB
    rw [if_pos c1]
    exact decide_eq_true qa13
  · obtain ⟨v, a2, s2, e2, v0, v1, h2⟩ := next_ok code hc (m + 1) a1 s1 20 qa13 qa13 h1
    obtain ⟨q, a3, s3, e3, q0, q1, h3⟩ := next_ok code hc (m + 2) a2 s2 9 qa13 qa13 (by have h := h2; unfold SrcOK at h ⊢; omega); rw [if_neg c1, e2]; simp only [Option.bind_some]; rw [e3]; simp only [Option.bind_some]; have w1 : wrap64 (v - 4) = v - 4 := by unfold wrap64; omega
    rw [Int.tdiv_eq_ediv_of_nonneg q0, w1]; have w2 : wrap64 (q / 8) = q / 8 := by unfold wrap64; omega
    rw [w2, if_pos qa13, if_pos qa122]
    have hf : ∀ x : Int, -2147483648 ≤ x → x ≤ 2147483647 → fitsB r x = true := by
      intro x x0 x1
      unfold fitsB
      rw [if_neg c1]
      exact decide_eq_true ⟨x0, x1⟩
    refine ⟨⟨r, rd [v - 4, 2147483647] (q / 8)⟩, a3, s3, rfl, ⟨⟨r0, by show r ≤ 15; omega⟩, ?_⟩, h3.1, by have := h3.2.1; omega, h3.2.2⟩
    show fitsB r (rd [v - 4, 2147483647] (q / 8)) = true
    by_cases c2 : q / 8 = 0
    · rw [c2]; exact hf (v - 4) qa13 qa13
    · have : q / 8 = 1 := by omega
      rw [this]; exact hf 2147483647 qa13 qa13
theorem puts_loop (code : List Int) (hc : CodeOK code) : ∀ (d : Nat) (m a s : Int) (x : List S58), d ≤ 4 → m + 3 * d ≤ 800000000 → x.length + d ≤ 1000 → SrcOK m a s →
    ∃ (l : List S58) (a' s' : Int), Ev (fun k => spec_l00Src_puts.l0 k x (d : Int) code a s) (x ++ l, a', s') ∧ l.length ≤ d ∧ (∀ p ∈ l, IsPut p) ∧ SrcOK (m + 3 * d) a' s' := by
  intro d
  induction d with
  | zero =>
    intro m a s x _ _ _ h
    exact ⟨[], a, s, ev_now ⟨0, fun k _ => by simp only [spec_l00Src_puts.l0]; rw [if_neg qa13, List.append_nil]⟩, qa51, qa51, by unfold SrcOK at h ⊢; omega⟩
  | succ d ih =>
    intro m a s x hd hm hx h; obtain ⟨p, a1, s1, e1, hp, h1⟩ := put_ok code hc m a s qa13 h; obtain ⟨l, a2, s2, e2, hl, hps, h2⟩ := ih (m + 3) a1 s1 (x ++ [p]) qa13 qa13 qa122 h1; refine ⟨p :: l, a2, s2, ev_step ⟨0, fun k _ => ?_⟩ (by rw [List.append_assoc] at e2; exact e2), qa122, fun q hq => ?_, qa106⟩
    · have w : wrap64 (((d + 1 : Nat) : Int) - 1) = (d : Int) := by unfold wrap64; omega
      conv => lhs; simp only [spec_l00Src_puts.l0]
      rw [if_pos qa13, e1]; simp only [Option.bind_some]; rw [if_pos qa13, w]
    · rcases List.mem_cons.1 hq with rfl | hq
      · exact hp
      · exact hps q hq
theorem puts_ok (code : List Int) (hc : CodeOK code) (m a s : Int) (hm : m ≤ 700000000) (h : SrcOK m a s) :
    ∃ (l : List S58) (a' s' : Int), Ev (fun k => spec_l00Src_puts.f k code a s) (l, a', s') ∧ l.length ≤ 4 ∧ (∀ p ∈ l, IsPut p) ∧ SrcOK (m + 13) a' s' := by
  obtain ⟨r, a1, s1, e1, r0, r1, h1⟩ := next_ok code hc m a s 5 qa13 qa13 h; obtain ⟨n, rfl⟩ : ∃ n : Nat, r = (n : Int) := ⟨r.toNat, qa13⟩; obtain ⟨l, a2, s2, e2, hl, hps, h2⟩ := puts_loop code hc n (m + 1) a1 s1 [] qa13 qa13 qa122 h1; refine ⟨l, a2, s2, ev_same ⟨0, fun k _ => ?_⟩ e2, qa13, hps, qa106⟩
  unfold spec_l00Src_puts.f
  rw [e1]; rfl
theorem is_puts (l : List S58) (hl : l.length ≤ 400) (h : ∀ p ∈ l, IsPut p) : IsPuts l := ⟨hl, fun j hj => h _ (by rw [List.getD_eq_getElem?_getD, List.getElem?_eq_getElem hj]; exact List.getElem_mem hj)⟩
end Go.Proofs.Ytfiboooflebdpaa.Pure2
namespace Go.Proofs.Ytfiboooflebdpaa.Pure2
open Go.RowKit Go.Proofs.Ytfiboooflebdpaa.Q Go.Proofs.YtfiboooflebdpaaW.PrintWords Go.Proofs.YtfiboooflebdpaaW.PrintLast
set_option linter.unusedVariables false
set_option linter.unusedSimpArgs false
/-! what is written at one hour -/
def putRow (now v : Int) (c : List S43) : List S43 := (if 0 < c.length ∧ (c.getD (c.length - 1) z43).f0 = now then c.take (c.length - 1) else c) ++ [⟨now, v⟩]
def putOne (now : Int) (cs : List (List S43)) (p : S58) : List (List S43) := cs.set p.f0.toNat (putRow now p.f1 (cs.getD p.f0.toNat []))
def putsIn (now : Int) (cs : List (List S43)) (l : List S58) : List (List S43) := l.foldl (putOne now) cs
theorem putRow_len (now v : Int) (c : List S43) : (putRow now v c).length ≤ c.length + 1 := by
  unfold putRow
  rw [List.length_append]
  split
  · rw [List.length_take]; simp only [List.length_cons, List.length_nil]; omega
  · simp only [List.length_cons, List.length_nil]; omega
theorem putOne_len (now : Int) (cs : List (List S43)) (p : S58) : (putOne now cs p).length = cs.length := by unfold putOne; rw [List.length_set]
theorem putOne_rows (now : Int) (cs : List (List S43)) (p : S58) (n : Nat) (hx : ∀ x ∈ cs, x.length ≤ n) : ∀ x ∈ putOne now cs p, x.length ≤ n + 1 := by
  intro x hx'
  unfold putOne at hx'
  rcases List.mem_or_eq_of_mem_set hx' with h | rfl
  · have := hx x h; omega
  · have h1 := putRow_len now p.f1 (cs.getD p.f0.toNat [])
    by_cases h : p.f0.toNat < cs.length
    · have h2 := hx _ (row_mem cs p.f0.toNat h); omega
    · rw [List.getD_eq_getElem?_getD, List.getElem?_eq_none qa13] at h1 ⊢
      simp only [Option.getD_none, List.length_nil] at h1; simp only [Option.getD_none]
      omega
theorem puts_next (l : List S58) (j : Nat) (hj : j < l.length) (now : Int) (cs : List (List S43)) : putsIn now cs (l.drop j) = putsIn now (putOne now cs (l.getD j z58)) (l.drop (j + 1)) := by
  have hg : l.getD j z58 = l[j] := by rw [List.getD_eq_getElem?_getD, List.getElem?_eq_getElem hj]; rfl
  unfold putsIn
  rw [List.drop_eq_getElem_cons hj, List.foldl_cons, hg]
theorem spec_write_loop (l : List S58) (now : Int) (hl : l.length ≤ 400) (hp : ∀ j, j < l.length → 0 ≤ (l.getD j z58).f0 ∧ (l.getD j z58).f0 ≤ 15) : ∀ d j cs, j ≤ l.length → l.length - j = d → cs.length = 16 → (∀ x ∈ cs, x.length ≤ 200000 + j) →
    Ev (fun k => spec_l06Write.l0 k l (j : Int) cs now) (putsIn now cs (l.drop j), now) := by
  intro d
  induction d with
  | zero =>
    intro j cs hj hd hc hx; obtain rfl : j = l.length := by omega
    rw [List.drop_eq_nil_of_le (Nat.le_refl _)]
    exact ev_now ⟨0, fun k _ => by simp only [spec_l06Write.l0]; rw [if_neg qa13]; rfl⟩
  | succ d ih =>
    intro j cs hj hd hc hx; have hjl : j < l.length := by omega
    have hk := hp j hjl; have hrd : rd_T58 l (j : Int) = l.getD j z58 := rfl; have hn := ih (j + 1) (putOne now cs (l.getD j z58)) qa13 qa13 (by rw [putOne_len]; exact hc) (putOne_rows now cs _ _ hx); rw [puts_next l j hjl]; refine ev_step ⟨0, fun k _ => ?_⟩ hn
    unfold putOne putRow
    generalize l.getD j z58 = p at *; have hrow : rd_L4 cs p.f0 = cs.getD p.f0.toNat [] := rfl; have hm := hx _ (row_mem cs p.f0.toNat qa13)
    conv => lhs; simp only [spec_l06Write.l0]
    rw [if_pos qa13, if_pos qa13, hrd, if_pos qa13, if_pos qa13, hrow, wsucc hjl qa13]; generalize cs.getD p.f0.toNat [] = c at *
    by_cases h0 : 0 < c.length
    · have hw : wrap64 ((c.length : Int) - 1) = ((c.length - 1 : Nat) : Int) := by unfold wrap64; omega
      have hv : rd_T43 c ((c.length - 1 : Nat) : Int) = c.getD (c.length - 1) z43 := rfl; rw [if_pos qa13, hw, if_pos qa13, if_pos qa13, hv]
      by_cases ht : (c.getD (c.length - 1) z43).f0 = now
      · rw [if_pos ht, if_pos qa13, if_pos ⟨h0, ht⟩]
        simp only [Option.bind_some, Int.toNat_natCast, List.nil_append, List.length_nil, List.length_take, List.length_cons]; rw [if_pos qa13, if_pos qa13]
      · rw [if_neg ht, if_neg (fun h => ht h.2)]
        simp only [Option.bind_some, List.nil_append, List.length_nil, List.length_cons]; rw [if_pos qa13, if_pos qa13]
    · rw [if_neg qa13, if_neg (fun h => h0 h.1)]
      simp only [Option.bind_some, List.nil_append, List.length_nil, List.length_cons]; rw [if_pos qa13, if_pos qa13]
theorem rows_le (cs : List (List S43)) (now : Int) (h : IsStore cs now) : ∀ x ∈ cs, x.length ≤ 100000 := by
  intro x hx; obtain ⟨i, hi, rfl⟩ := List.getElem_of_mem hx; have h16 : i < 16 := by have := h.1; omega
  have hg : cs.getD i [] = cs[i] := by rw [List.getD_eq_getElem?_getD, List.getElem?_eq_getElem hi]; rfl
  have hv := h.2.2.2 i h16; rw [hg] at hv
  have key : ∀ j, j < cs[i].length → ((j : Int) + 1) ≤ (cs[i].getD j z43).f0 := by
    intro j
    induction j with
    | zero => intro hj; have := (hv 0 hj).1; omega
    | succ j ih => intro hj; have h1 := ih qa13; have h2 := (hv (j + 1) hj).2.2.2 qa13; rw [Nat.add_sub_cancel] at h2; omega
  by_cases hb : cs[i].length ≤ 100000
  · exact hb
  · have h1 := key 100000 qa13; have h2 := (hv 100000 qa13).2.1; have h3 := h.2.2.1; omega
theorem putsIn_small (now : Int) : ∀ (l : List S58) (cs : List (List S43)) (n : Nat), (∀ x ∈ cs, x.length ≤ n) → (putsIn now cs l).length = cs.length ∧ ∀ x ∈ putsIn now cs l, x.length ≤ n + l.length := by
  intro l
  induction l with
  | nil => intro cs n hx; exact ⟨rfl, hx⟩
  | cons p l ih =>
    intro cs n hx; have h := ih (putOne now cs p) (n + 1) (putOne_rows now cs p n hx); refine ⟨h.1.trans (putOne_len now cs p), fun x hx' => ?_⟩; have := h.2 x hx'; rw [List.length_cons]
    omega
/-! what puts at one hour make of a chain -/
theorem getD_mem {α : Type} (l : List α) (z : α) (j : Nat) (h : j < l.length) : l.getD j z ∈ l := by rw [List.getD_eq_getElem?_getD, List.getElem?_eq_getElem h]; exact List.getElem_mem h
def wrote (l : List S58) (k : Nat) (a : Option Int) : Option Int := l.foldl (fun a p => if p.f0 = (k : Int) then some p.f1 else a) a
def tl (h : Int) (c : List S43) : Option Int → List S43
  | none => c
  | some v => c ++ [⟨h, v⟩]
theorem putRow_tl (h v : Int) (c : List S43) (hc : ∀ x ∈ c, x.f0 < h) (a : Option Int) : putRow h v (tl h c a) = tl h c (some v) := by
  cases a with
  | none =>
    show putRow h v c = c ++ [⟨h, v⟩]
    unfold putRow
    rw [if_neg]; rintro ⟨h0, h1⟩; have := hc _ (getD_mem c z43 (c.length - 1) qa13)
    omega
  | some u =>
    show putRow h v (c ++ [⟨h, u⟩]) = c ++ [⟨h, v⟩]
    unfold putRow
    have e : (c ++ [(⟨h, u⟩ : S43)]).length - 1 = c.length := by simp
    rw [e, if_pos ⟨qa51, by rw [List.getD_eq_getElem?_getD]; simp⟩]
    simp
theorem set_row (cs : List (List S43)) (i k : Nat) (x : List S43) (hi : i < cs.length) : (cs.set i x).getD k [] = if i = k then x else cs.getD k [] := by
  rw [List.getD_eq_getElem?_getD, List.getD_eq_getElem?_getD]
  by_cases h : i = k
  · subst h; rw [if_pos rfl, List.getElem?_set_self hi]; rfl
  · rw [if_neg h, List.getElem?_set_ne h]
theorem putsIn_row (h : Int) (cs0 : List (List S43)) (hlt : ∀ k, k < 16 → ∀ x ∈ cs0.getD k [], x.f0 < h) : ∀ (l : List S58) (cs : List (List S43)) (a : Nat → Option Int), (∀ p ∈ l, IsPut p) → cs.length = 16 → (∀ k, k < 16 → cs.getD k [] = tl h (cs0.getD k []) (a k)) →
    ∀ k, k < 16 → (putsIn h cs l).getD k [] = tl h (cs0.getD k []) (wrote l k (a k)) := by
  intro l
  induction l with
  | nil => intro cs a _ _ hr k hk; exact hr k hk
  | cons p l ih =>
    intro cs a hp hl hr k hk; have h0 := (hp p (List.mem_cons_self ..)).1; have hi : p.f0.toNat < 16 := by omega
    refine (ih (putOne h cs p) (fun k => if p.f0 = (k : Int) then some p.f1 else a k) (fun q hq => hp q (List.mem_cons_of_mem _ hq)) (by rw [putOne_len]; exact hl) (fun k hk => ?_) k hk)
    unfold putOne
    rw [set_row cs _ k _ qa13]
    by_cases e : p.f0.toNat = k
    · rw [if_pos e, if_pos qa13, e, hr k hk]
      exact putRow_tl h p.f1 _ (hlt k hk) (a k)
    · rw [if_neg e, if_neg qa13]
      exact hr k hk
theorem wrote_fits (k : Nat) : ∀ (l : List S58) (a : Option Int), (∀ p ∈ l, IsPut p) → (∀ v, a = some v → fitsB k v = true) → ∀ v, wrote l k a = some v → fitsB k v = true := by
  intro l
  induction l with
  | nil => intro a _ ha v hv; exact ha v hv
  | cons p l ih =>
    intro a hp ha v hv; refine ih (if p.f0 = (k : Int) then some p.f1 else a) (fun q hq => hp q (List.mem_cons_of_mem _ hq)) (fun u hu => ?_) v hv
    by_cases e : p.f0 = (k : Int)
    · rw [if_pos e] at hu
      have := (hp p (List.mem_cons_self ..)).2; rw [e] at this
      cases hu
      exact this
    · rw [if_neg e] at hu
      exact ha u hu
theorem rw_tl (now : Int) (key : Nat) (c : List S43) (h : Rw now key c) (h0 : 0 ≤ now) (a : Option Int) (ha : ∀ v, a = some v → fitsB key v = true) : Rw (now + 1) key (tl (now + 1) c a) := by
  cases a with
  | none => exact ⟨h.1, fun v hv => by have := h.2 v hv; exact ⟨this.1, qa13, this.2.2⟩⟩
  | some u =>
    refine ⟨List.pairwise_append.2 ⟨h.1, List.pairwise_singleton .., fun x hx y hy => ?_⟩, fun v hv => ?_⟩
    · rcases List.mem_singleton.1 hy with rfl
      have := (h.2 x hx).2.1
      show x.f0 < now + 1
      omega
    · rcases List.mem_append.1 hv with hv | hv
      · have := h.2 v hv; exact ⟨this.1, qa13, this.2.2⟩
      · rcases List.mem_singleton.1 hv with rfl
        exact ⟨by show 1 ≤ now + 1; omega, by show now + 1 ≤ now + 1; omega, ha u rfl⟩
theorem rows_lt (cs : List (List S43)) (now : Int) (h : IsStore cs now) : ∀ k, k < 16 → ∀ x ∈ cs.getD k [], x.f0 < now + 1 := fun k hk x hx => by
  have := (((store_rw cs now).1 h).2.2.2 k hk).2 x hx
  omega
theorem puts_row (cs : List (List S43)) (now : Int) (h : IsStore cs now) (l : List S58) (hp : ∀ p ∈ l, IsPut p) (k : Nat) (hk : k < 16) : (putsIn (now + 1) cs l).getD k [] = tl (now + 1) (cs.getD k []) (wrote l k none) :=
  putsIn_row (now + 1) cs (rows_lt cs now h) l cs (fun _ => none) hp h.1 (fun _ _ => rfl) k hk
theorem puts_store (cs : List (List S43)) (now : Int) (h : IsStore cs now) (hn : now < 100000) (l : List S58) (hp : ∀ p ∈ l, IsPut p) : IsStore (putsIn (now + 1) cs l) (now + 1) := by
  have hr := (store_rw cs now).1 h; refine (store_rw _ _).2 ⟨?_, by have := h.2.1; omega, qa13, fun i hi => ?_⟩
  · rw [(putsIn_small (now + 1) l cs 100000 (rows_le cs now h)).1]; exact h.1
  · rw [puts_row cs now h l hp i hi]
    exact rw_tl now i _ (hr.2.2.2 i hi) h.2.1 _ (wrote_fits i l none hp (fun v hv => by cases hv))
theorem store_small (cs : List (List S43)) (now : Int) (h : IsStore cs now) : ∀ x ∈ cs, x.length ≤ 1048576 := fun x hx => by have := rows_le cs now h x hx; omega
theorem vl_tl (h : Int) (c : List S43) (ts : Int) (a : Option Int) : vl (tl h c a) ts = match a with | some v => if h ≤ ts then v else vl c ts | none => vl c ts := by
  cases a with
  | none => rfl
  | some v => exact vl_snoc c ⟨h, v⟩ ts
/-- What is written by both. -/
theorem own_write (cs : List (List S43)) (now : Int) (h : IsStore cs now) (hn : now < 100000) (l : List S58) (hl : l.length ≤ 400) (hp : ∀ p ∈ l, IsPut p) :
    Ev (fun k => spec_l06Write.f k cs now l) (if l = [] then (cs, now) else (putsIn (now + 1) cs l, now + 1)) := by
  by_cases h0 : l = []
  · rw [if_pos h0]
    exact ev_mk 0 fun k hk => by unfold spec_l06Write.f; rw [h0]; rfl
  · rw [if_neg h0]
    have hl0 : l.length ≠ 0 := fun e => h0 (List.length_eq_zero_iff.1 e)
    have hw : wrap64 (now + 1) = now + 1 := by have := h.2.1; unfold wrap64; omega
    have hpp := is_puts l hl hp; obtain ⟨K1, h1⟩ := ev_at (spec_own cs now (by rw [h.1]; omega) (store_small cs now h)); obtain ⟨K2, h2⟩ := ev_at (spec_write_loop l (now + 1) hl (fun j hj => (hpp.2 j hj).1) l.length 0 cs qa13 qa13 h.1 (fun x hx' => by have := rows_le cs now h x hx'; omega)); refine ev_mk (K1 + K2) fun k hk => ?_
    unfold spec_l06Write.f
    rw [if_neg qa13, h1 k qa13]; simp only [Option.bind_some]; rw [hw]
    exact h2 k qa13
end Go.Proofs.Ytfiboooflebdpaa.Pure2
namespace Go.Proofs.Ytfiboooflebdpaa.Pure2
open Go.RowKit Go.Proofs.Ytfiboooflebdpaa.Q Go.Proofs.YtfiboooflebdpaaW.PrintWords Go.Proofs.YtfiboooflebdpaaW.PrintLast
set_option linter.unusedVariables false
set_option linter.unusedSimpArgs false
/-! a drawn store is right -/
theorem gone_at (c : List S43) (low : Int) : ∀ (m g : Nat), c.length - g = m → g ≤ c.length → (gone c low g = g ∨ gone c low g < c.length ∧ (c.getD (gone c low g) z43).f0 ≤ low) ∧ ¬ (gone c low g + 1 < c.length ∧ (c.getD (gone c low g + 1) z43).f0 ≤ low) := by
  intro m
  induction m with
  | zero => intro g hm hg; rw [gone_stop c low g qa13]; exact ⟨.inl rfl, qa13⟩
  | succ m ih =>
    intro g hm hg
    by_cases h : g + 1 < c.length ∧ (c.getD (g + 1) z43).f0 ≤ low
    · rw [gone_step c low g h]
      obtain ⟨h1, h2⟩ := ih (g + 1) qa13 qa13; refine ⟨.inr ?_, h2⟩
      rcases h1 with h1 | h1
      · rw [h1]; exact h
      · exact h1
    · rw [gone_stop c low g h]; exact ⟨.inl rfl, h⟩
theorem fgt_vl (low ts : Int) (c : List S43) (h : low ≤ ts) : vl (fgt low c) ts = vl c ts := by
  unfold fgt
  obtain ⟨h1, _⟩ := gone_at c low c.length 0 qa13 qa13; generalize gone c low 0 = g at *
  rcases h1 with rfl | ⟨h1, h2⟩
  · rw [List.drop_zero]
  · conv => rhs; rw [← List.take_append_drop g c]
    refine (vl_app _ _ ts ⟨c[g], ?_, ?_⟩).symm
    · rw [List.drop_eq_getElem_cons h1]; exact List.mem_cons_self ..
    · rw [getD_at c _ g h1] at h2; omega
theorem fgt_next (low : Int) (c : List S43) (h : 1 < (fgt low c).length) : low < ((fgt low c).getD 1 z43).f0 := by
  unfold fgt at h ⊢
  obtain ⟨_, h2⟩ := gone_at c low c.length 0 qa13 qa13; generalize gone c low 0 = g at *; rw [List.length_drop] at h; rw [List.getD_eq_getElem?_getD, List.getElem?_drop, ← List.getD_eq_getElem?_getD]; have h3 : ¬ (c.getD (g + 1) z43).f0 ≤ low := fun h3 => h2 ⟨qa13, h3⟩
  omega
theorem fgt_rw (now low : Int) (key : Nat) (c : List S43) (h : Rw now key c) : Rw now key (fgt low c) := by
  unfold fgt
  exact ⟨h.1.sublist (List.drop_sublist _ _), fun v hv => h.2 v (List.mem_of_mem_drop hv)⟩
theorem fgt_row (cs : List (List S43)) (low : Int) (i : Nat) (hi : i < cs.length) : (cs.map (fgt low)).getD i [] = fgt low (cs.getD i []) := by
  rw [List.getD_eq_getElem?_getD, List.getElem?_map, List.getElem?_eq_getElem hi, getD_at cs _ i hi]; rfl
theorem fgt_store (cs : List (List S43)) (now low : Int) (h : IsStore cs now) : IsStore (cs.map (fgt low)) now := by
  have hr := (store_rw cs now).1 h; refine (store_rw _ _).2 ⟨by rw [List.length_map]; exact h.1, h.2.1, h.2.2.1, fun i hi => ?_⟩; rw [fgt_row cs low i (by rw [h.1]; exact hi)]
  exact fgt_rw now low i _ (hr.2.2.2 i hi)
theorem store_loop (code : List Int) (hc : CodeOK code) : ∀ (d : Nat) (m a s : Int) (cs : List (List S43)) (now : Int), d ≤ 20 → now + d ≤ 20 → m + 30 * d ≤ 600000000 → SrcOK m a s → IsStore cs now →
    ∃ (cs' : List (List S43)) (now' a' s' : Int), Ev (fun k => spec_l00Src_store.l0 k (d : Int) code a s cs now) (cs', now', a', s') ∧ IsStore cs' now' ∧ now' ≤ 20 := by
  intro d
  induction d with
  | zero =>
    intro m a s cs now _ hn _ h hs; obtain ⟨K, e⟩ := ev_at (spec_own cs now (by rw [hs.1]; omega) (store_small cs now hs))
    exact ⟨cs, now, a, s, ev_now ⟨K, fun k hk => by simp only [spec_l00Src_store.l0]; rw [if_neg qa13, e k hk]; rfl⟩, hs, qa13⟩
  | succ d ih =>
    intro m a s cs now hd hn hm h hs; have w : wrap64 (((d + 1 : Nat) : Int) - 1) = (d : Int) := by unfold wrap64; omega
    obtain ⟨l, a1, s1, e1, hl, hp, h1⟩ := puts_ok code hc m a s qa13 h; obtain ⟨K1, e1⟩ := ev_at e1; obtain ⟨K2, e2⟩ := ev_at (own_write cs now hs qa13 l qa13 hp)
    obtain ⟨cs2, n2, he, hs2, hn2, hn3⟩ : ∃ cs2 n2, (if l = [] then (cs, now) else (putsIn (now + 1) cs l, now + 1)) = (cs2, n2) ∧ IsStore cs2 n2 ∧ n2 ≤ now + 1 ∧ now ≤ n2 := by
      by_cases h0 : l = []
      · exact ⟨cs, now, if_pos h0, hs, qa13, qa13⟩
      · exact ⟨_, _, if_neg h0, puts_store cs now hs qa13 l hp, qa13, qa13⟩
    rw [he] at e2; obtain ⟨r, a2, s2, e3, r0, r1, h2⟩ := next_ok code hc (m + 13) a1 s1 6 qa13 qa13 h1; have e3' : spec_l00Src_chance.f code a1 s1 6 = some (r == wrap64 (6 - 1), a2, s2) := by unfold spec_l00Src_chance.f; rw [e3]; rfl
    have n0 := hs2.2.1
    by_cases cc : (r == wrap64 (6 - 1)) = true
    · have wn : wrap64 (n2 + 1) = n2 + 1 := by unfold wrap64; omega
      obtain ⟨low, a3, s3, e4, l0, l1, h3⟩ := next_ok code hc (m + 14) a2 s2 (n2 + 1) qa13 qa13 qa106; obtain ⟨K5, e5⟩ := ev_at (spec_forget cs2 n2 low hs2.1 (store_small cs2 n2 hs2)); obtain ⟨cs', now', a', s', e6, hs', hn'⟩ := ih (m + 15) a3 s3 (cs2.map (fgt low)) n2 qa13 qa13 qa13 (by unfold SrcOK at h3 ⊢; omega) (fgt_store cs2 n2 low hs2); refine ⟨cs', now', a', s', ev_step ⟨K1 + K2 + K5, fun k hk => ?_⟩ e6, hs', hn'⟩
      conv => lhs; simp only [spec_l00Src_store.l0]
      rw [if_pos qa13, e1 k qa13]; simp only [Option.bind_some]; rw [e2 k qa13]; simp only [Option.bind_some]; rw [e3']; simp only [Option.bind_some]; rw [if_pos cc, wn, e4]; simp only [Option.bind_some]; rw [e5 k qa13]; simp only [Option.bind_some]; rw [w]
    · obtain ⟨cs', now', a', s', e6, hs', hn'⟩ := ih (m + 14) a2 s2 cs2 n2 qa13 qa13 qa13 qa106 hs2
      refine ⟨cs', now', a', s', ev_step ⟨K1 + K2, fun k hk => ?_⟩ e6, hs', hn'⟩
      conv => lhs; simp only [spec_l00Src_store.l0]
      rw [if_pos qa13, e1 k qa13]; simp only [Option.bind_some]; rw [e2 k qa13]; simp only [Option.bind_some]; rw [e3']; simp only [Option.bind_some]; rw [if_neg cc, w]
theorem src_start (code : List Int) (hc : CodeOK code) : spec_l00Source.f code = some (code, 0, (code.length : Int) % 1000) ∧ SrcOK 0 0 ((code.length : Int) % 1000) := ⟨rfl, by unfold SrcOK; omega⟩
theorem new_store_f : spec_NewStore.f = some (List.replicate 16 [], 0) := by unfold spec_NewStore.f; exact if_pos qa30
theorem size_f (code : List Int) (hc : CodeOK code) (a s : Int) : ∃ q, spec_l00Src_size.f code a s 10 = some (q, a, s) ∧ 1 ≤ q ∧ q ≤ 10 := by
  have hl := hc.1; have w1 : wrap64 ((code.length : Int) / 12) = (code.length : Int) / 12 := by unfold wrap64; omega
  have w2 : wrap64 (1 + (code.length : Int) / 12) = 1 + (code.length : Int) / 12 := by unfold wrap64; omega
  unfold spec_l00Src_size.f
  rw [w1, w2]; refine ⟨_, rfl, ?_, ?_⟩
  · unfold mn; split <;> omega
  · unfold mn; split <;> omega
theorem store_f (code : List Int) (hc : CodeOK code) (a s : Int) (h : SrcOK 0 a s) : ∃ (cs : List (List S43)) (now a' s' : Int), Ev (fun k => spec_l00Src_store.f k code a s) (cs, now, a', s') ∧ IsStore cs now ∧ now ≤ 20 := by
  obtain ⟨q, hz, q0, q1⟩ := size_f code hc a s; have w3 : wrap64 (q + 4) = q + 4 := by unfold wrap64; omega
  obtain ⟨r, a1, s1, e1, r0, r1, h1⟩ := next_ok code hc 0 a s (q + 4) qa13 qa13 h; obtain ⟨n, rfl⟩ : ∃ n : Nat, r = (n : Int) := ⟨r.toNat, qa13⟩; obtain ⟨cs, now, a2, s2, e2, hs, hn⟩ := store_loop code hc n 1 a1 s1 (List.replicate 16 []) 0 qa13 qa13 qa13 h1 new_store; refine ⟨cs, now, a2, s2, ev_same ⟨0, fun k hk => ?_⟩ e2, hs, hn⟩
  unfold spec_l00Src_store.f
  rw [new_store_f, Option.bind_some, hz, Option.bind_some]
  show (spec_l00Src_next.f code a s (wrap64 (q + 4))).bind _ = _
  rw [w3, e1, Option.bind_some]
theorem store_of (code : List Int) (hc : CodeOK code) : ∃ (cs : List (List S43)) (now : Int), Ev (fun k => spec_StoreOf.f k code) (cs, now) ∧ IsStore cs now ∧ now ≤ 20 := by
  obtain ⟨e0, h0⟩ := src_start code hc; obtain ⟨cs, now, a', s', e, hs, hn⟩ := store_f code hc _ _ h0; obtain ⟨K, e⟩ := ev_at e; refine ⟨cs, now, ev_mk K fun k hk => ?_, hs, hn⟩
  unfold spec_StoreOf.f
  rw [e0, Option.bind_some, e k hk, Option.bind_some]
end Go.Proofs.Ytfiboooflebdpaa.Pure2
namespace Go.Proofs.Ytfiboooflebdpaa.Pure2
open Go.RowKit Go.Proofs.Ytfiboooflebdpaa.Q Go.Proofs.YtfiboooflebdpaaW.PrintWords Go.Proofs.YtfiboooflebdpaaW.PrintLast
set_option linter.unusedVariables false
set_option linter.unusedSimpArgs false
/-! choices out of bytes; how much a right store holds -/
theorem at_ok (code : List Int) (hc : CodeOK code) (n : Int) (h1 : 1 ≤ n) (h2 : n ≤ 1000000) : ∃ r, laws_at.f code 0 n = some r ∧ 0 ≤ r ∧ r < n := by
  unfold laws_at.f
  by_cases c1 : n ≤ 1
  · rw [if_pos c1]; exact ⟨0, rfl, qa13, qa13⟩
  · rw [if_neg c1]
    have pos : ∀ x : Int, 0 ≤ x → 0 ≤ Int.tmod x n ∧ Int.tmod x n < n := fun x hx => by
      rw [Int.tmod_eq_emod_of_nonneg hx]
      exact ⟨Int.emod_nonneg x qa13, Int.emod_lt_of_pos x qa13⟩
    by_cases c2 : (code.length : Int) = 0
    · have w : wrap64 (0 * 7) = 0 := by unfold wrap64; omega
      rw [if_pos c2, if_neg qa13, w]
      exact ⟨_, rfl, pos 0 qa13⟩
    · have hl := hc.1
      have w1 : wrap64 (0 + 1) = 1 := by unfold wrap64; omega
      have t0 : Int.tmod 0 (code.length : Int) = 0 := Int.zero_tmod _; have t1 : Int.tdiv 0 (code.length : Int) = 0 := Int.zero_tdiv _; rw [if_neg c2, w1, t0, t1, Int.tmod_eq_emod_of_nonneg (a := 1) qa13]; have e0 := Int.emod_nonneg 1 c2; have e1 := Int.emod_lt_of_pos 1 (show 0 < (code.length : Int) by omega); generalize (1 : Int) % (code.length : Int) = i at *; have r0 := code_rd code hc 0 qa13 qa13; have r1 := code_rd code hc i e0 e1; rw [if_pos qa13, if_pos qa13, if_pos e0, if_pos e1, if_neg qa13]; generalize rd code 0 = x at *; generalize rd code i = y at *; have w2 : wrap64 x = x := by unfold wrap64; omega
      have w3 : wrap64 y = y := by unfold wrap64; omega
      have w4 : wrap64 (x * 31) = x * 31 := by unfold wrap64; omega
      have w5 : wrap64 (x * 31 + y) = x * 31 + y := by unfold wrap64; omega
      have w6 : wrap64 0 = 0 := by unfold wrap64; omega
      have w7 : wrap64 (x * 31 + y + 0) = x * 31 + y := by unfold wrap64; omega
      rw [w2, w3, w4, w5, w6, w7]
      exact ⟨_, rfl, pos _ qa13⟩
theorem code_of (l : List Int) (h : l.length ≤ 9223372036854775807 ∧ ∀ x ∈ l, (Lit.int .u8 x).wf = true) (hl : l.length ≤ 1048576) : CodeOK l := ⟨hl, fun x hx => by
  have := h.2 x hx; simp only [Lit.wf, Bool.and_eq_true, decide_eq_true_eq] at this; have a : IntKind.u8.min = 0 := by kernel_rfl
  have b : IntKind.u8.max = 255 := by kernel_rfl
  rw [a, b] at this
  omega⟩
end Go.Proofs.Ytfiboooflebdpaa.Pure2
namespace Go.Proofs.Ytfiboooflebdpaa.Pure2
open Go.RowKit Go.Proofs.Ytfiboooflebdpaa.Q Go.Proofs.YtfiboooflebdpaaW.PrintWords Go.Proofs.YtfiboooflebdpaaW.PrintLast
set_option linter.unusedVariables false
set_option linter.unusedSimpArgs false
/-! what both write into a right store -/
theorem puts_of (code : List Int) (hc : CodeOK code) : ∃ l : List S58, Ev (fun k => spec_PutsOf.f k code) l ∧ l.length ≤ 4 ∧ ∀ p ∈ l, IsPut p := by
  obtain ⟨e0, h0⟩ := src_start code hc; obtain ⟨l, a', s', e, hl, hp, _⟩ := puts_ok code hc 0 _ _ qa13 h0; obtain ⟨K, e⟩ := ev_at e; refine ⟨l, ev_mk K fun k hk => ?_, hl, hp⟩
  unfold spec_PutsOf.f
  rw [e0, Option.bind_some, e k hk, Option.bind_some]
def wr (cs : List (List S43)) (now : Int) (l : List S58) : List (List S43) := if l = [] then cs else putsIn (now + 1) cs l
def wn (now : Int) (l : List S58) : Int := if l = [] then now else now + 1
theorem wr_store (cs : List (List S43)) (now : Int) (h : IsStore cs now) (hn : now < 100000) (l : List S58) (hp : ∀ p ∈ l, IsPut p) : IsStore (wr cs now l) (wn now l) := by
  unfold wr wn
  by_cases h0 : l = []
  · rw [if_pos h0, if_pos h0]; exact h
  · rw [if_neg h0, if_neg h0]; exact puts_store cs now h hn l hp
theorem wr_row (cs : List (List S43)) (now : Int) (h : IsStore cs now) (l : List S58) (hp : ∀ p ∈ l, IsPut p) (k : Nat) (hk : k < 16) : (wr cs now l).getD k [] = tl (wn now l) (cs.getD k []) (wrote l k none) := by
  unfold wr wn
  by_cases h0 : l = []
  · rw [if_pos h0, if_pos h0, h0]; rfl
  · rw [if_neg h0, if_neg h0]; exact puts_row cs now h l hp k hk
theorem same_ints (l : List Int) (hl : l.length ≤ 1048576) : Ev (fun k => laws_sameInts.f k l l) true := by
  obtain ⟨r, hr, he⟩ := count_loop l.length (fun k i => laws_sameInts.l0 k l l i) (fun _ r => r = true) ⟨true, rfl, ev_now ⟨0, fun k _ => by simp only [laws_sameInts.l0]; rw [if_neg qa13]⟩⟩
    (fun j hj r hr he => ⟨r, hr, ev_step ⟨0, fun k _ => by simp only [laws_sameInts.l0]; rw [if_pos qa13, if_pos qa13, if_pos qa13]; simp only [if_true]; rw [wsucc hj qa13]⟩ he⟩) 0 qa13
  subst hr
  exact ev_same ⟨0, fun k _ => by unfold laws_sameInts.f; rw [if_pos rfl]; rfl⟩ he
theorem impl_write_loop (l : List S58) (now : Int) (hl : l.length ≤ 400) (hp : ∀ j, j < l.length → 0 ≤ (l.getD j z58).f0 ∧ (l.getD j z58).f0 ≤ 15) : ∀ d j cs, j ≤ l.length → l.length - j = d → cs.length = 16 → (∀ x ∈ cs, x.length ≤ 200000 + j) →
    Ev (fun k => impl_Store_writeAll.l0 k l (l.length : Int) (j : Int) cs now) (putsIn now cs (l.drop j), now, now, 0) := by
  intro d
  induction d with
  | zero =>
    intro j cs hj hd hc hx; obtain rfl : j = l.length := by omega
    rw [List.drop_eq_nil_of_le (Nat.le_refl _)]
    exact ev_now ⟨0, fun k _ => by simp only [impl_Store_writeAll.l0]; rw [if_neg qa13]; rfl⟩
  | succ d ih =>
    intro j cs hj hd hc hx; have hjl : j < l.length := by omega
    have hk := hp j hjl; have hrd : rd_T58 l (j : Int) = l.getD j z58 := rfl; have hn := ih (j + 1) (putOne now cs (l.getD j z58)) qa13 qa13 (by rw [putOne_len]; exact hc) (putOne_rows now cs _ _ hx); rw [puts_next l j hjl]; refine ev_step ⟨0, fun k _ => ?_⟩ hn
    unfold putOne putRow
    generalize l.getD j z58 = p at *; have hrow : rd_L4 cs p.f0 = cs.getD p.f0.toNat [] := rfl; have hm := hx _ (row_mem cs p.f0.toNat qa13)
    conv => lhs; simp only [impl_Store_writeAll.l0]
    rw [if_pos qa13, if_pos qa13, if_pos qa13, hrd, if_pos qa13, if_pos qa13, hrow, wsucc hjl qa13]; generalize cs.getD p.f0.toNat [] = c at *
    by_cases h0 : 0 < c.length
    · have hw : wrap64 ((c.length : Int) - 1) = ((c.length - 1 : Nat) : Int) := by unfold wrap64; omega
      have hv : rd_T43 c ((c.length - 1 : Nat) : Int) = c.getD (c.length - 1) z43 := rfl; rw [hw, if_pos qa13, if_pos qa13, if_pos qa13, hv]
      by_cases ht : (c.getD (c.length - 1) z43).f0 = now
      · rw [if_pos ht, if_pos qa13, if_pos qa13, if_pos ⟨h0, ht⟩, Int.toNat_natCast]
      · rw [if_neg ht, if_pos qa13, if_neg (fun h => ht h.2)]
    · have hw : wrap64 ((c.length : Int) - 1) = -1 := by unfold wrap64; omega
      rw [hw, if_neg qa13, if_pos qa13, if_neg (fun h => h0 h.1)]
theorem write_impl_right (cs : List (List S43)) (now : Int) (h : IsStore cs now) (hn : now < 100000) (l : List S58) (hl : l.length ≤ 400) (hp : ∀ p ∈ l, IsPut p) :
    Ev (fun k => impl_WriteAll.f k cs now l) (wr cs now l, wn now l, wn now l, 0) := by
  have hpp := is_puts l hl hp; have hx := store_small cs now h; have hw : wrap64 (now + 1) = now + 1 := by have := h.2.1; unfold wrap64; omega
  obtain ⟨K2, e2⟩ := ev_at (ok_right cs now h hx); obtain ⟨c', e4, hc'⟩ := impl_puts l; rw [hc'.2 hpp] at e4; obtain ⟨K7, e7⟩ := ev_at (impl_copy cs now (by rw [h.1]; omega) hx)
  have hP' : impl_Put_74.f l = some true := by
    have hP : impl_Put_74.f l = some (decide ((l.length : Int) ≤ 4096)) := rfl; rw [hP, decide_eq_true qa13]
  by_cases h0 : l = []
  · refine ev_mk (K2 + K7) fun k hk => ?_
    unfold impl_WriteAll.f impl_Store_writeAll.f
    rw [hP', Option.bind_some, if_pos rfl, e2 k qa13, Option.bind_some, if_pos rfl, e4, Option.bind_some, if_pos rfl, e7 k qa13, Option.bind_some, if_neg qa13, if_pos (by rw [h0]; rfl), Option.bind_some]
    unfold wr wn
    rw [if_pos h0, if_pos h0]
  · obtain ⟨K8, e8⟩ := ev_at (impl_write_loop l (now + 1) hl (fun j hj => (hpp.2 j hj).1) l.length 0 cs qa13 qa13 h.1 (fun x hx' => by have := rows_le cs now h x hx'; omega))
    have hl0 : l.length ≠ 0 := fun e => h0 (List.length_eq_zero_iff.1 e)
    refine ev_mk (K2 + K7 + K8) fun k hk => ?_
    have e8' := e8 k qa13; rw [List.drop_zero] at e8'
    unfold impl_WriteAll.f impl_Store_writeAll.f
    rw [hP', Option.bind_some, if_pos rfl, e2 k qa13, Option.bind_some, if_pos rfl, e4, Option.bind_some, if_pos rfl, e7 k qa13, Option.bind_some, if_neg qa13, if_neg qa13]
    show ((impl_Store_writeAll.l0 k l (l.length : Int) 0 cs (wrap64 (now + 1))).bind _) = _
    rw [hw, show impl_Store_writeAll.l0 k l (l.length : Int) 0 cs (now + 1) = some (putsIn (now + 1) cs l, now + 1, now + 1, 0) from e8', Option.bind_some]
    unfold wr wn
    rw [if_neg h0, if_neg h0]
end Go.Proofs.Ytfiboooflebdpaa.Pure2
namespace Go.Proofs.Ytfiboooflebdpaa.Pure2
open Go.RowKit Go.Proofs.Ytfiboooflebdpaa.Q Go.Proofs.YtfiboooflebdpaaW.PrintWords Go.Proofs.YtfiboooflebdpaaW.PrintLast
set_option linter.unusedVariables false
set_option linter.unusedSimpArgs false
theorem spec_int_in (l : List Int) (x : Int) (hl : l.length ≤ 1048576) : ∃ r, Ev (fun k => spec_l07In.f k l x) r ∧ (r = true ↔ ∃ j, j < l.length ∧ l.getD j 0 = x) := by
  obtain ⟨r, hr, he⟩ := count_loop l.length (fun k i => spec_l07In.l0 k l x i) (fun j r => r = true ↔ ∃ j', j ≤ j' ∧ j' < l.length ∧ l.getD j' 0 = x)
    ⟨false, ⟨fun h => qa127, fun ⟨j', h1, h2, _⟩ => by omega⟩, ev_now ⟨0, fun k _ => by simp only [spec_l07In.l0]; rw [if_neg qa13]⟩⟩
    (fun j hj r hr he => by
      have hd : rd l (j : Int) = l.getD j 0 := rfl
      by_cases hc : l.getD j 0 = x
      · exact ⟨true, ⟨fun _ => ⟨j, Nat.le_refl _, hj, hc⟩, fun _ => rfl⟩, ev_now ⟨0, fun k _ => by simp only [spec_l07In.l0]; rw [if_pos qa13, if_pos qa13, hd, if_pos hc]⟩⟩
      · refine ⟨r, hr.trans ⟨fun ⟨j', h1, h2, h3⟩ => ⟨j', qa13, h2, h3⟩, fun ⟨j', h1, h2, h3⟩ => ?_⟩, ev_step ⟨0, fun k _ => by simp only [spec_l07In.l0]; rw [if_pos qa13, if_pos qa13, hd, if_neg hc, wsucc hj qa13]⟩ he⟩
        rcases Nat.lt_or_eq_of_le h1 with h4 | rfl
        · exact ⟨j', h4, h2, h3⟩
        · exact absurd h3 hc) 0 qa13
  exact ⟨r, ev_same ⟨0, fun k _ => by unfold spec_l07In.f; rfl⟩ he, hr.trans ⟨fun ⟨j, _, h2, h3⟩ => ⟨j, h2, h3⟩, fun ⟨j, h2, h3⟩ => ⟨j, qa13, h2, h3⟩⟩⟩
theorem impl_int_in (l : List Int) (x : Int) (hl : l.length ≤ 1048576) : ∃ r, Ev (fun k => slices_Contains_int_int.f k l x) r ∧ (r = true ↔ ∃ j, j < l.length ∧ l.getD j 0 = x) := by
  obtain ⟨r, hr, he⟩ := count_loop l.length (fun k i => slices_Index_int_int.l0 k l x (l.length : Int) i) (fun j r => r ≥ 0 ↔ ∃ j', j ≤ j' ∧ j' < l.length ∧ l.getD j' 0 = x)
    ⟨-1, ⟨fun h => by omega, fun ⟨j', h1, h2, _⟩ => by omega⟩, ev_now ⟨0, fun k _ => by simp only [slices_Index_int_int.l0]; rw [if_neg qa13]⟩⟩
    (fun j hj r hr he => by
      have hd : rd l (j : Int) = l.getD j 0 := rfl
      by_cases hc : l.getD j 0 = x
      · exact ⟨(j : Int), ⟨fun _ => ⟨j, Nat.le_refl _, hj, hc⟩, fun _ => by omega⟩, ev_now ⟨0, fun k _ => by simp only [slices_Index_int_int.l0]; rw [if_pos qa13, if_pos qa13, if_pos qa13, hd, if_pos hc.symm]⟩⟩
      · refine ⟨r, hr.trans ⟨fun ⟨j', h1, h2, h3⟩ => ⟨j', qa13, h2, h3⟩, fun ⟨j', h1, h2, h3⟩ => ?_⟩, ev_step ⟨0, fun k _ => by simp only [slices_Index_int_int.l0]; rw [if_pos qa13, if_pos qa13, if_pos qa13, hd, if_neg (fun h => hc h.symm), wsucc hj qa13]⟩ he⟩
        rcases Nat.lt_or_eq_of_le h1 with h4 | rfl
        · exact ⟨j', h4, h2, h3⟩
        · exact absurd h3 hc) 0 qa13
  obtain ⟨K, hk⟩ := ev_at he; refine ⟨decide (r ≥ 0), ev_mk K fun k hK => ?_, ?_⟩
  · have := hk k hK
    unfold slices_Contains_int_int.f slices_Index_int_int.f
    simp only [Int.natCast_zero] at this; rw [this]
    rfl
  · rw [decide_eq_true_iff, hr]
    exact ⟨fun ⟨j, _, h2, h3⟩ => ⟨j, h2, h3⟩, fun ⟨j, h2, h3⟩ => ⟨j, qa13, h2, h3⟩⟩
/-- A read that is a key, and new. -/
def ReadOK (l : List Int) (j : Nat) : Prop := (0 ≤ l.getD j 0 ∧ l.getD j 0 ≤ 15) ∧ ¬ ∃ i, i < j ∧ l.getD i 0 = l.getD j 0
theorem take_in (l : List Int) (j : Nat) (hj : j < l.length) : (∃ i, i < (l.take j).length ∧ (l.take j).getD i 0 = l.getD j 0) ↔ ∃ i, i < j ∧ l.getD i 0 = l.getD j 0 := by
  have hl : (l.take j).length = j := by rw [List.length_take]; omega
  have hg : ∀ i, i < j → (l.take j).getD i 0 = l.getD i 0 := fun i hi => by simp [List.getD_eq_getElem?_getD, List.getElem?_take, hi]
  rw [hl]
  exact ⟨fun ⟨i, h1, h2⟩ => ⟨i, h1, by rw [← hg i h1]; exact h2⟩, fun ⟨i, h1, h2⟩ => ⟨i, h1, by rw [hg i h1]; exact h2⟩⟩
def IsTxn (cs : List (List S43)) (now st : Int) (l : List Int) (p : List S58) : Prop := IsStore cs now ∧ (0 ≤ st ∧ st ≤ now) ∧ IsPuts p ∧ ∀ j, j < l.length → ReadOK l j
theorem spec_reads (st : Int) (l : List Int) (p : List S58) (hl : l.length ≤ 1048576) : ∃ r, Ev (fun k => spec_l07OK.l0 k 0 st l p) r ∧ (r = true ↔ ∀ j, j < l.length → ReadOK l j) := by
  obtain ⟨r, hr, he⟩ := count_loop l.length (fun k i => spec_l07OK.l0 k i st l p) (fun j r => r = true ↔ ∀ j', j ≤ j' → j' < l.length → ReadOK l j')
    ⟨true, ⟨fun _ j' h1 h2 => by omega, fun _ => rfl⟩, ev_now ⟨0, fun k _ => by simp only [spec_l07OK.l0]; rw [if_neg qa13]⟩⟩
    (fun j hj r hr he => by
      have hd : rd l (j : Int) = l.getD j 0 := rfl; obtain ⟨q, eq, hq⟩ := spec_int_in (l.take j) (l.getD j 0) (by rw [List.length_take]; omega); rw [take_in l j hj] at hq; obtain ⟨K, hk⟩ := ev_at eq
      have hh : ∀ k, K ≤ k → spec_l07OK.l0 (k + 1) (j : Int) st l p = if decide (0 ≤ l.getD j 0 ∧ l.getD j 0 ≤ 15) = true then (if q = true then some false else spec_l07OK.l0 k ((j + 1 : Nat) : Int) st l p) else some false := by
        intro k hK
        conv => lhs; simp only [spec_l07OK.l0]
        rw [if_pos qa13, if_pos qa13, hd, spec_in]; simp only [Option.bind_some, wsucc hj qa13, Int.toNat_natCast]; rw [if_pos (show (j : Int) ≤ (l.length : Int) by omega), hk k hK]; simp only [Option.bind_some]
      by_cases h1 : 0 ≤ l.getD j 0 ∧ l.getD j 0 ≤ 15
      · by_cases h2 : q = true
        · exact ⟨false, ⟨fun h => qa127, fun h => absurd (hq.1 h2) (h j (Nat.le_refl _) hj).2⟩, ev_now ⟨K, fun k hK => by rw [hh k hK, if_pos (decide_eq_true h1), if_pos h2]⟩⟩
        · refine ⟨r, hr.trans ⟨fun h j' h3 h4 => ?_, fun h j' h3 h4 => h j' qa13 h4⟩, ev_step ⟨K, fun k hK => by rw [hh k hK, if_pos (decide_eq_true h1), if_neg h2]⟩ he⟩
          rcases Nat.lt_or_eq_of_le h3 with h5 | rfl
          · exact h j' h5 h4
          · exact ⟨h1, fun h => h2 (hq.2 h)⟩
      · exact ⟨false, ⟨fun h => qa127, fun h => absurd (h j (Nat.le_refl _) hj).1 h1⟩, ev_now ⟨K, fun k hK => by rw [hh k hK, if_neg (by simpa using h1)]⟩⟩) 0 qa13
  exact ⟨r, he, hr.trans ⟨fun h j hj => h j qa13 hj, fun h j _ hj => h j hj⟩⟩
theorem impl_reads (st : Int) (l : List Int) (p : List S58) (hl : l.length ≤ 1048576) : ∃ r, Ev (fun k => impl_TxnOK.l0 k l (l.length : Int) 0 st l p) r ∧ (r = true ↔ ∀ j, j < l.length → ReadOK l j) := by
  obtain ⟨r, hr, he⟩ := count_loop l.length (fun k i => impl_TxnOK.l0 k l (l.length : Int) i st l p) (fun j r => r = true ↔ ∀ j', j ≤ j' → j' < l.length → ReadOK l j')
    ⟨true, ⟨fun _ j' h1 h2 => by omega, fun _ => rfl⟩, ev_now ⟨0, fun k _ => by simp only [impl_TxnOK.l0]; rw [if_neg qa13]⟩⟩
    (fun j hj r hr he => by
      have hd : rd l (j : Int) = l.getD j 0 := rfl; obtain ⟨q, eq, hq⟩ := impl_int_in (l.take j) (l.getD j 0) (by rw [List.length_take]; omega); rw [take_in l j hj] at hq; obtain ⟨K, hk⟩ := ev_at eq
      have hh : ∀ k, K ≤ k → impl_TxnOK.l0 (k + 1) l (l.length : Int) (j : Int) st l p = if decide (0 ≤ l.getD j 0 ∧ l.getD j 0 ≤ 15) = true then (if q = true then some false else impl_TxnOK.l0 k l (l.length : Int) ((j + 1 : Nat) : Int) st l p) else some false := by
        intro k hK
        conv => lhs; simp only [impl_TxnOK.l0, impl_isKey.f]
        rw [if_pos qa13, if_pos qa13, if_pos qa13, hd, impl_in]; simp only [Option.bind_some, wsucc hj qa13, Int.toNat_natCast]; rw [if_pos (show (j : Int) ≤ (l.length : Int) by omega), hk k hK]; simp only [Option.bind_some]
      by_cases h1 : 0 ≤ l.getD j 0 ∧ l.getD j 0 ≤ 15
      · by_cases h2 : q = true
        · exact ⟨false, ⟨fun h => qa127, fun h => absurd (hq.1 h2) (h j (Nat.le_refl _) hj).2⟩, ev_now ⟨K, fun k hK => by rw [hh k hK, if_pos (decide_eq_true h1), if_pos h2]⟩⟩
        · refine ⟨r, hr.trans ⟨fun h j' h3 h4 => ?_, fun h j' h3 h4 => h j' qa13 h4⟩, ev_step ⟨K, fun k hK => by rw [hh k hK, if_pos (decide_eq_true h1), if_neg h2]⟩ he⟩
          rcases Nat.lt_or_eq_of_le h3 with h5 | rfl
          · exact h j' h5 h4
          · exact ⟨h1, fun h => h2 (hq.2 h)⟩
      · exact ⟨false, ⟨fun h => qa127, fun h => absurd (h j (Nat.le_refl _) hj).1 h1⟩, ev_now ⟨K, fun k hK => by rw [hh k hK, if_neg (by simpa using h1)]⟩⟩) 0 qa13
  exact ⟨r, he, hr.trans ⟨fun h j hj => h j qa13 hj, fun h j _ hj => h j hj⟩⟩
theorem txns_agree (cs : List (List S43)) (now st : Int) (l : List Int) (p : List S58) (hx : ∀ x ∈ cs, x.length ≤ 1048576) (hl : l.length ≤ 1048576) (hp : p.length ≤ 1048576) :
    ∃ r, Ev (fun k => spec_TxnOK.f k cs now st l p) r ∧ Ev (fun k => impl_TxnOK.f k cs now st l p) r ∧ (r = true ↔ IsTxn cs now st l p) := by
  obtain ⟨b, e1, e2, hb⟩ := stores_agree cs now hx; obtain ⟨K1, h1⟩ := ev_at e1; obtain ⟨K2, h2⟩ := ev_at e2; obtain ⟨q, f1, hq⟩ := spec_puts p hp; obtain ⟨q', f2, hq'⟩ := impl_puts p; have : q' = q := by rw [Bool.eq_iff_iff, hq, hq']
  subst this; obtain ⟨K3, h3⟩ := ev_at f1; obtain ⟨t, g1, ht⟩ := spec_reads st l p hl; obtain ⟨t', g2, ht'⟩ := impl_reads st l p hl; have : t' = t := by rw [Bool.eq_iff_iff, ht, ht']
  subst this; obtain ⟨K4, h4⟩ := ev_at g1; obtain ⟨K5, h5⟩ := ev_at g2; refine ⟨b && (decide (0 ≤ st ∧ st ≤ now) && (q' && t')), ev_mk (K1 + K3 + K4 + 1) fun k hk => ?_, ev_mk (K2 + K5 + 1) fun k hk => ?_, ?_⟩
  · obtain ⟨k, rfl⟩ : ∃ m, k = m + 1 := ⟨k - 1, qa13⟩
    unfold spec_TxnOK.f spec_l07OK.f
    rw [h1 _ qa13]; simp only [Option.bind_some, spec_in]; rw [h3 _ qa13]; simp only [Option.bind_some, spec_l07OK.j0]; rw [h4 k qa13]
    cases b <;> cases hd : decide (0 ≤ st ∧ st ≤ now) <;> cases q' <;> cases t' <;> rfl
  · obtain ⟨k, rfl⟩ : ∃ m, k = m + 1 := ⟨k - 1, qa13⟩
    unfold impl_TxnOK.f impl_Store_isHour.f
    rw [h2 _ qa13, f2]; simp only [Option.bind_some, impl_in, impl_TxnOK.j0]; rw [h5 k qa13]
    cases b <;> cases hd : decide (0 ≤ st ∧ st ≤ now) <;> cases q' <;> cases t' <;> rfl
  · rw [Bool.and_eq_true, Bool.and_eq_true, Bool.and_eq_true, hb, hq, ht, decide_eq_true_iff]
    rfl
theorem copy_txn (a : Int) (l : List Int) (p : List S58) (hl : l.length ≤ 1048576) (hp : p.length ≤ 1048576) : impl_copyTxn.f a l p = some (a, l, p) := by
  unfold impl_copyTxn.f slices_Clone_int_int.f impl_Put_118.f
  rw [if_pos qa13]; simp only [Option.bind_some]; rw [if_pos qa13]; rfl
/-! what a transaction reads -/
def lastPut (c : List S58) (a : Int) : Nat → Int × Bool
  | 0 => (0, false)
  | j + 1 => if (c.getD j z58).f0 = a then ((c.getD j z58).f1, true) else lastPut c a j
theorem back_put (c : List S58) (a : Int) : ∀ (m : Nat) (h : Nat → Int), (match ((List.range m).map (fun k => (h k, c.getD (m - 1 - k) z58))).find? (fun p => decide (p.2.f0 = a)) with | some p => p.2.f1 | none => 0) = (lastPut c a m).1 ∧ ((List.range m).map (fun k => (h k, c.getD (m - 1 - k) z58))).any (fun p => decide (p.2.f0 = a)) = (lastPut c a m).2 := by
  intro m
  induction m with
  | zero => intro h; exact ⟨rfl, rfl⟩
  | succ m ih =>
    intro h
    have e : (List.range (m + 1)).map (fun k => (h k, c.getD (m + 1 - 1 - k) z58)) = (h 0, c.getD m z58) :: (List.range m).map (fun k => ((fun k => h (k + 1)) k, c.getD (m - 1 - k) z58)) := by
      rw [List.range_succ_eq_map, List.map_cons, List.map_map]
      congr 1
      refine List.map_congr_left fun k _ => ?_
      show (h (k + 1), c.getD (m + 1 - 1 - (k + 1)) z58) = _
      rw [show m + 1 - 1 - (k + 1) = m - 1 - k by omega]
    rw [e, List.find?_cons, List.any_cons]
    unfold lastPut
    by_cases hc : (c.getD m z58).f0 = a
    · simp only [hc, decide_true, if_true, Bool.true_or, and_self]
    · simp only [hc, decide_false, if_false, Bool.false_or]
      exact ih _
theorem val_put (c : List S58) (a : Int) : rt.val c a = (lastPut c a c.length).1 := (back_put c a c.length (fun k => ((c.length - 1 - k : Nat) : Int))).1
theorem hit_put (c : List S58) (a : Int) : rt.hit c a = (lastPut c a c.length).2 := (back_put c a c.length (fun k => ((c.length - 1 - k : Nat) : Int))).2
theorem written (p : List S58) (a : Int) (hp : p.length ≤ 1048576) : Ev (fun k => spec_l07Written.f k p a) (lastPut p a p.length) := by
  have key : ∀ m, m ≤ p.length → Ev (fun k => spec_l07Written.l0 k p a ((m : Int) - 1)) (lastPut p a m) := by
    intro m
    induction m with
    | zero => intro _; exact ev_now ⟨0, fun k _ => by simp only [spec_l07Written.l0]; rw [if_neg qa13]; rfl⟩
    | succ m ih =>
      intro hm; have hd : rd_T58 p (m : Int) = p.getD m z58 := rfl; have hc : (((m + 1 : Nat) : Int) - 1) = (m : Int) := by omega
      have hw : wrap64 ((m : Int) - 1) = (m : Int) - 1 := by unfold wrap64; omega
      rw [hc]
      by_cases h : (p.getD m z58).f0 = a
      · have hL : lastPut p a (m + 1) = ((p.getD m z58).f1, true) := by show (if _ then _ else _) = _; rw [if_pos h]
        rw [hL]
        exact ev_now ⟨0, fun k _ => by simp only [spec_l07Written.l0]; rw [if_pos qa13, if_pos qa13, if_pos qa13, hd, if_pos h]⟩
      · have hL : lastPut p a (m + 1) = lastPut p a m := by show (if _ then _ else _) = _; rw [if_neg h]
        rw [hL]
        exact ev_step ⟨0, fun k _ => by conv => lhs; simp only [spec_l07Written.l0]
                                        rw [if_pos qa13, if_pos qa13, if_pos qa13, hd, if_neg h, hw]⟩ (ih qa13)
  have hw : wrap64 ((p.length : Int) - 1) = (p.length : Int) - 1 := by unfold wrap64; omega
  exact ev_same ⟨0, fun k _ => by unfold spec_l07Written.f; rw [hw]⟩ (key p.length (Nat.le_refl _))
theorem pigeon : ∀ (n m : Nat) (f : Nat → Nat), (∀ j, j < m → f j < n) → (∀ i j, i < j → j < m → f i ≠ f j) → m ≤ n
  | 0, 0, _, _, _ => Nat.le_refl _
  | 0, m + 1, f, h, _ => absurd (h 0 qa13) qa13
  | n + 1, 0, _, _, _ => by omega
  | n + 1, m + 1, f, h, hi => by
    have := pigeon n m (fun j => if f j = n then f m else f j) (fun j hj => by
      have h1 := h j qa13; have h2 := h m qa13; have h3 := hi j m hj qa13
      try dsimp only
      split <;> omega) (fun i j hij hj => by
      have h1 := hi i j hij qa13; have h2 := hi i m qa13 qa13; have h3 := hi j m hj qa13
      try dsimp only
      split <;> split <;> omega)
    omega
theorem reads_few (l : List Int) (hr : ∀ j, j < l.length → ReadOK l j) : l.length ≤ 16 :=
  pigeon 16 l.length (fun j => (l.getD j 0).toNat) (fun j hj => by have := (hr j hj).1; (try dsimp only); omega) (fun i j hij hj e => by
    have h1 := (hr i qa13).1; have h2 := hr j hj
    try dsimp only at e
    exact h2.2 ⟨i, hij, by have := h2.1; omega⟩)
/-- Whether a chain's last version is behind an hour: of a right key this is told. -/
theorem changed_some (cs : List (List S43)) (now key ts : Int) (hl : cs.length = 16) (h0 : 0 ≤ key) (h1 : key ≤ 15) (hx : ∀ x ∈ cs, x.length ≤ 1048576) : ∃ b, spec_l06Changed.f cs now key ts = some b ∧ impl_Store_changedSince.f cs now key ts = some b := by
  have same : impl_Store_changedSince.f cs now key ts = spec_l06Changed.f cs now key ts := rfl; rw [same]
  have hc : (rd_L4 cs key).length ≤ 1048576 := by
    refine hx _ ?_
    show cs.getD key.toNat [] ∈ cs
    rw [List.getD_eq_getElem?_getD, List.getElem?_eq_getElem qa13]
    exact List.getElem_mem qa13
  unfold spec_l06Changed.f
  rw [if_pos h0, if_pos qa13]; generalize rd_L4 cs key = c at hc
  by_cases hp : (c.length : Int) > 0
  · have hw : wrap64 ((c.length : Int) - 1) = (c.length : Int) - 1 := by unfold wrap64; omega
    rw [if_pos hp, hw, if_pos qa13, if_pos qa13]
    exact ⟨_, rfl, rfl⟩
  · rw [if_neg hp]
    exact ⟨_, rfl, rfl⟩
theorem conflicts_agree (cs : List (List S43)) (now st : Int) (l : List Int) (p : List S58) (hs : cs.length = 16) (hx : ∀ x ∈ cs, x.length ≤ 1048576) (hl : l.length ≤ 1048576) (hr : ∀ j, j < l.length → ReadOK l j) :
    ∃ r, Ev (fun k => spec_l07Conflicts.f k cs now st l p) r ∧ impl_Store_conflicts.f cs now st l p = some r := by
  have hch : ∀ x ∈ l, ∃ b, spec_l06Changed.f cs now x st = some b ∧ impl_Store_changedSince.f cs now x st = some b := by
    intro x hx'; obtain ⟨j, hj, rfl⟩ := List.getElem_of_mem hx'; have h := (hr j hj).1; rw [List.getD_eq_getElem?_getD, List.getElem?_eq_getElem hj] at h
    exact changed_some cs now _ st hs h.1 h.2 hx
  have hall : (l.all fun x => (impl_Store_changedSince.f cs now x st).isSome) = true := by
    rw [List.all_eq_true]; intro x hx'; obtain ⟨b, _, hb⟩ := hch x hx'; rw [hb]; rfl
  have hp : ∀ x ∈ l, spec_l06Changed.f cs now x st = some (impl_Store_conflicts.p cs now st x) := by
    intro x hx'; obtain ⟨b, h1, h2⟩ := hch x hx'
    unfold impl_Store_conflicts.p
    rw [h1, h2]
  obtain ⟨r, hr', he⟩ := count_loop l.length (fun k i => spec_l07Conflicts.l0 k i cs now st l p) (fun j r => r = true ↔ p.length > 0 ∧ ∃ j', j ≤ j' ∧ j' < l.length ∧ impl_Store_conflicts.p cs now st (l.getD j' 0) = true)
    ⟨false, ⟨fun h => qa127, fun ⟨_, j', h1, h2, _⟩ => by omega⟩, ev_now ⟨0, fun k _ => by simp only [spec_l07Conflicts.l0]; rw [if_neg qa13]⟩⟩
    (fun j hj r hr he => by
      have hd : rd l (j : Int) = l.getD j 0 := rfl; have hm : l.getD j 0 ∈ l := by rw [List.getD_eq_getElem?_getD, List.getElem?_eq_getElem hj]; exact List.getElem_mem hj
      have hh : ∀ k, spec_l07Conflicts.l0 (k + 1) (j : Int) cs now st l p = if impl_Store_conflicts.p cs now st (l.getD j 0) = true then some (decide ((p.length : Int) > 0)) else spec_l07Conflicts.l0 k ((j + 1 : Nat) : Int) cs now st l p := by
        intro k
        conv => lhs; simp only [spec_l07Conflicts.l0]
        rw [if_pos qa13, if_pos qa13, hd, hp _ hm]; simp only [Option.bind_some, wsucc hj qa13]
      by_cases hc : impl_Store_conflicts.p cs now st (l.getD j 0) = true
      · exact ⟨decide ((p.length : Int) > 0), ⟨fun h => ⟨by have := qT h; omega, j, Nat.le_refl _, hj, hc⟩, fun h => decide_eq_true (by have := h.1; omega)⟩, ev_now ⟨0, fun k _ => by rw [hh, if_pos hc]⟩⟩
      · refine ⟨r, hr.trans ⟨fun ⟨h0, j', h1, h2, h3⟩ => ⟨h0, j', qa13, h2, h3⟩, fun ⟨h0, j', h1, h2, h3⟩ => ⟨h0, ?_⟩⟩, ev_step ⟨0, fun k _ => by rw [hh, if_neg hc]⟩ he⟩
        rcases Nat.lt_or_eq_of_le h1 with h4 | rfl
        · exact ⟨j', h4, h2, h3⟩
        · exact absurd h3 hc) 0 qa13
  refine ⟨r, ev_same ⟨0, fun k _ => by unfold spec_l07Conflicts.f; rfl⟩ he, ?_⟩
  unfold impl_Store_conflicts.f
  by_cases hn : (p.length : Int) > 0
  · rw [if_pos hn, if_pos hall]
    congr 1
    rw [Bool.eq_iff_iff, hr', List.any_eq_true]
    constructor
    · rintro ⟨x, hx', h⟩
      obtain ⟨j, hj, rfl⟩ := List.getElem_of_mem hx'
      exact ⟨qa13, j, qa13, hj, by rw [List.getD_eq_getElem?_getD, List.getElem?_eq_getElem hj]; exact h⟩
    · rintro ⟨_, j, _, hj, h⟩
      rw [List.getD_eq_getElem?_getD, List.getElem?_eq_getElem hj] at h
      exact ⟨_, List.getElem_mem hj, h⟩
  · rw [if_neg hn]
    congr 1
    cases r with
    | false => rfl
    | true => exact absurd (hr'.1 rfl).1 qa13
end Go.Proofs.Ytfiboooflebdpaa.Pure2
namespace Go.Proofs.Ytfiboooflebdpaa.Pure2
open Go.RowKit Go.Proofs.Ytfiboooflebdpaa.Q Go.Proofs.YtfiboooflebdpaaW.PrintWords Go.Proofs.YtfiboooflebdpaaW.PrintLast
set_option linter.unusedVariables false
set_option linter.unusedSimpArgs false
/-! a drawn transaction is right -/
def Reads (l : List Int) : Prop := ∀ j, j < l.length → ReadOK l j
theorem reads_snoc (l : List Int) (a : Int) (h : Reads l) (ha : 0 ≤ a ∧ a ≤ 15) (hn : ¬ ∃ j, j < l.length ∧ l.getD j 0 = a) : Reads (l ++ [a]) := by
  intro j hj; have g : ∀ i, i < l.length → (l ++ [a]).getD i 0 = l.getD i 0 := fun i hi => by rw [List.getD_eq_getElem?_getD, List.getElem?_append_left hi, ← List.getD_eq_getElem?_getD]
  have ge : (l ++ [a]).getD l.length 0 = a := by rw [List.getD_eq_getElem?_getD]; simp
  have hj2 : j < l.length + 1 := by simpa using hj
  unfold ReadOK
  by_cases e : j = l.length
  · subst e
    refine ⟨by rw [ge]; exact ha, ?_⟩; rintro ⟨i, hi, he⟩; rw [ge, g i hi] at he
    exact hn ⟨i, hi, he⟩
  · have hj' : j < l.length := by omega
    have hh := h j hj'
    unfold ReadOK at hh
    refine ⟨by rw [g j hj']; exact hh.1, ?_⟩; rintro ⟨i, hi, he⟩; rw [g j hj', g i qa13] at he
    exact hh.2 ⟨i, hi, he⟩
theorem l07_read (cs : List (List S43)) (now st : Int) (h : IsStore cs now) (l : List Int) (p : List S58) (a : Int) (ha : 0 ≤ a ∧ a ≤ 15) (hl : l.length ≤ 1000) (hp : p.length ≤ 1000) (hr : Reads l) :
    ∃ (l' : List Int) (v : Int), Ev (fun k => spec_l07Read.f k cs now st l p a) (st, l', p, v) ∧ Reads l' ∧ l'.length ≤ l.length + 1 := by
  obtain ⟨K3, h3⟩ := ev_at (written p a qa13)
  by_cases hh : (lastPut p a p.length).2 = true
  · exact ⟨l, (lastPut p a p.length).1, ev_mk K3 fun k hk' => by unfold spec_l07Read.f; rw [h3 k hk', Option.bind_some, if_pos hh], hr, qa13⟩
  · obtain ⟨b, f1, hb1⟩ := spec_int_in l a qa13
    obtain ⟨K4, h4⟩ := ev_at f1; obtain ⟨K6, h6⟩ := ev_at (read_agree cs now a st h.1 ha.1 ha.2 (store_small cs now h)).1
    cases b with
    | true => exact ⟨l, bw.val (rd_L4 cs a) st, ev_mk (K3 + K4 + K6) fun k hk' => by unfold spec_l07Read.f; rw [h3 k qa13, Option.bind_some, if_neg hh, h4 k qa13, Option.bind_some, if_pos rfl, h6 k qa13, Option.bind_some], hr, qa13⟩
    | false =>
      refine ⟨l ++ [a], bw.val (rd_L4 cs a) st, ev_mk (K3 + K4 + K6) fun k hk' => ?_, reads_snoc l a hr ha (fun hn => absurd (hb1.2 hn) qa51), qa51⟩
      unfold spec_l07Read.f
      rw [h3 k qa13, Option.bind_some, if_neg hh, h4 k qa13, Option.bind_some, if_neg qa51, Option.bind_some, if_pos qa122, Option.bind_some, if_pos qa122, h6 k qa13, Option.bind_some]
      rfl
theorem txn_loop (code : List Int) (hc : CodeOK code) (cs : List (List S43)) (now st : Int) (h : IsStore cs now) : ∀ (d : Nat) (m a s : Int) (l : List Int) (p : List S58), m + 10 * d ≤ 600000000 → l.length + d ≤ 400 → p.length + d ≤ 400 → SrcOK m a s → Reads l → (∀ q ∈ p, IsPut q) →
    ∃ (l' : List Int) (p' : List S58) (a' s' : Int), Ev (fun k => spec_l00Src_txn.l0 k (d : Int) code a s cs now st l p) (st, l', p', a', s') ∧ Reads l' ∧ (∀ q ∈ p', IsPut q) ∧ l'.length ≤ 400 ∧ p'.length ≤ 400 := by
  intro d
  induction d with
  | zero =>
    intro m a s l p _ hl hp hs hr hq
    exact ⟨l, p, a, s, ev_now ⟨0, fun k _ => by simp only [spec_l00Src_txn.l0]; rw [if_neg qa13]⟩, hr, hq, qa13, qa13⟩
  | succ d ih =>
    intro m a s l p hm hl hp hs hr hq; have w : wrap64 (((d + 1 : Nat) : Int) - 1) = (d : Int) := by unfold wrap64; omega
    obtain ⟨r, a1, s1, e1, r0, r1, h1⟩ := next_ok code hc m a s 2 qa13 qa13 hs; have e1' : spec_l00Src_chance.f code a s 2 = some (r == wrap64 (2 - 1), a1, s1) := by unfold spec_l00Src_chance.f; rw [e1]; rfl
    by_cases cc : (r == wrap64 (2 - 1)) = true
    · obtain ⟨q, a2, s2, e2, q0, q1, h2⟩ := next_ok code hc (m + 1) a1 s1 16 qa13 qa13 h1
      obtain ⟨l2, v, e3, hr2, hl2⟩ := l07_read cs now st h l p q ⟨q0, qa13⟩ qa13 qa13 hr; obtain ⟨K3, e3⟩ := ev_at e3; obtain ⟨l', p', a', s', e4, g1, g2, g3, g4⟩ := ih (m + 2) a2 s2 l2 p qa13 qa13 qa13 qa106 hr2 hq; refine ⟨l', p', a', s', ev_step ⟨K3, fun k hk => ?_⟩ e4, g1, g2, g3, g4⟩
      conv => lhs; simp only [spec_l00Src_txn.l0]
      rw [if_pos qa13, e1', Option.bind_some, if_pos cc]
      show ((spec_l00Src_next.f code a1 s1 16).bind _) = _
      rw [e2, Option.bind_some, e3 k qa13, Option.bind_some, w]
    · obtain ⟨q, a2, s2, e2, hq2, h2⟩ := put_ok code hc (m + 1) a1 s1 qa13 h1
      obtain ⟨l', p', a', s', e4, g1, g2, g3, g4⟩ := ih (m + 4) a2 s2 l (p ++ [q]) qa13 qa13 qa122 qa106 hr (fun x hx => by
        rcases List.mem_append.1 hx with hx | hx
        · exact hq x hx
        · rcases List.mem_singleton.1 hx with rfl; exact hq2)
      refine ⟨l', p', a', s', ev_step ⟨0, fun k hk => ?_⟩ e4, g1, g2, g3, g4⟩
      conv => lhs; simp only [spec_l00Src_txn.l0]
      rw [if_pos qa13, e1', Option.bind_some, if_neg cc]
      show ((spec_l00Src_put.f code a1 s1).bind _) = _
      rw [e2, Option.bind_some, if_pos qa13, w]
theorem txn_of (code : List Int) (hc : CodeOK code) (cs : List (List S43)) (now : Int) (h : IsStore cs now) (hn : now ≤ 200) : ∃ (st : Int) (l : List Int) (p : List S58), Ev (fun k => spec_TxnOf.f k code cs now) (st, l, p) ∧ IsTxn cs now st l p ∧ l.length ≤ 400 ∧ p.length ≤ 400 := by
  obtain ⟨e0, h0⟩ := src_start code hc; have hn0 := h.2.1; have w : wrap64 (now + 1) = now + 1 := by unfold wrap64; omega
  obtain ⟨st, a1, s1, e1, r0, r1, h1⟩ := next_ok code hc 0 _ _ (now + 1) qa13 qa13 h0; obtain ⟨r, a2, s2, e2, q0, q1, h2⟩ := next_ok code hc (0 + 1) a1 s1 6 qa13 qa13 h1; obtain ⟨n, rfl⟩ : ∃ n : Nat, r = (n : Int) := ⟨r.toNat, qa13⟩; obtain ⟨l, p, a3, s3, e3, g1, g2, g3, g4⟩ := txn_loop code hc cs now st h n (0 + 1 + 1) a2 s2 [] [] qa13 qa122 qa122 h2 (fun j hj => by simp at hj) (fun q hq => by simp at hq); obtain ⟨K, e3⟩ := ev_at e3; refine ⟨st, l, p, ev_mk K fun k hk => ?_, ⟨h, ⟨r0, qa13⟩, is_puts p g4 g2, g1⟩, g3, g4⟩
  unfold spec_TxnOf.f spec_l00Src_txn.f
  rw [e0, Option.bind_some, w]
  show (((spec_l00Src_next.f code 0 ((code.length : Int) % 1000) (now + 1)).bind _).bind _) = _
  rw [e1, Option.bind_some]
  show (((spec_l00Src_next.f code a1 s1 6).bind _).bind _) = _
  rw [e2, Option.bind_some]
  show ((spec_l00Src_txn.l0 k (n : Int) code a2 s2 cs now st [] []).bind _) = _
  rw [e3 k hk, Option.bind_some]
end Go.Proofs.Ytfiboooflebdpaa.Pure2
namespace Go.Proofs.Ytfiboooflebdpaa.Pure2
open Go.RowKit Go.Proofs.Ytfiboooflebdpaa.Q Go.Proofs.YtfiboooflebdpaaW.PrintWords Go.Proofs.YtfiboooflebdpaaW.PrintLast
set_option linter.unusedVariables false
set_option linter.unusedSimpArgs false
theorem txn_right (cs : List (List S43)) (now st : Int) (l : List Int) (p : List S58) (h : IsTxn cs now st l p) (hl : l.length ≤ 1048576) (hp : p.length ≤ 1048576) : Ev (fun k => spec_TxnOK.f k cs now st l p) true ∧ Ev (fun k => impl_TxnOK.f k cs now st l p) true := by
  obtain ⟨c, e1, e2, hb⟩ := txns_agree cs now st l p (store_small cs now h.1) hl hp
  rw [hb.2 h] at e1 e2
  exact ⟨e1, e2⟩
theorem is_key (a : Int) (ha : 0 ≤ a ∧ a ≤ 15) : impl_isKey.f a = some true := by unfold impl_isKey.f; rw [impl_in, decide_eq_true ha]; rfl
theorem reads_one (a : Int) (ha : 0 ≤ a ∧ a ≤ 15) : Reads [a] := reads_snoc [] a (fun j hj => by simp at hj) ha (fun ⟨j, hj, _⟩ => by simp at hj)
/-- A first read. -/
theorem read_first (cs : List (List S43)) (now st a : Int) (h : IsStore cs now) (hs : 0 ≤ st ∧ st ≤ now) (i : Nat) (hi : i < 16) (hai : a = (i : Int)) : Ev (fun k => impl_ReadTxn.f k cs now st [] [] a) (st, [a], [], vl (cs.getD i []) st, 0) := by
  have ha : 0 ≤ a ∧ a ≤ 15 := by omega
  obtain ⟨K1, e1⟩ := ev_at (txn_right cs now st [] [] ⟨h, hs, ⟨qa51, fun j hj => by simp at hj⟩, fun j hj => by simp at hj⟩ qa51 qa51).2
  obtain ⟨b, f2, hb⟩ := impl_int_in [] a qa51
  have hbf : b = false := by
    cases b with
    | false => rfl
    | true => obtain ⟨j, hj, _⟩ := hb.1 rfl; simp at hj
  subst hbf
  obtain ⟨K2, e2⟩ := ev_at f2
  have g2 := (read_agree cs now a st h.1 ha.1 ha.2 (store_small cs now h)).2
  have hd : rd_L4 cs a = cs.getD i [] := by rw [hai]; rfl
  rw [hd, val_vl] at g2
  have hhit : ¬ (rt.hit ([] : List S58) a = true) := by rw [hit_put]; simp [lastPut]
  refine ev_mk (K1 + K2) fun k hk => ?_
  unfold impl_ReadTxn.f
  rw [e1 k qa13, Option.bind_some, if_pos rfl, is_key a ha, Option.bind_some, if_pos rfl, copy_txn st [] [] qa51 qa51, Option.bind_some, if_neg hhit, e2 k qa13, Option.bind_some, if_neg qa51, if_pos qa51, g2, Option.bind_some]
  rfl
/-- What was written is read. -/
theorem read_own (cs : List (List S43)) (now st a v : Int) (h : IsTxn cs now st [a] [⟨a, v⟩]) (ha : 0 ≤ a ∧ a ≤ 15) : Ev (fun k => impl_ReadTxn.f k cs now st [a] [⟨a, v⟩] a) (st, [a], [⟨a, v⟩], v, 0) := by
  obtain ⟨K1, e1⟩ := ev_at (txn_right cs now st [a] [⟨a, v⟩] h qa51 qa51).2
  have hl : lastPut [(⟨a, v⟩ : S58)] a 1 = (v, true) := by show (if _ then _ else _) = _; exact if_pos rfl
  have hhit : rt.hit [(⟨a, v⟩ : S58)] a = true := by rw [hit_put]; show (lastPut [(⟨a, v⟩ : S58)] a 1).2 = true; rw [hl]
  have hval : rt.val [(⟨a, v⟩ : S58)] a = v := by rw [val_put]; show (lastPut [(⟨a, v⟩ : S58)] a 1).1 = v; rw [hl]
  refine ev_mk K1 fun k hk => ?_
  unfold impl_ReadTxn.f
  rw [e1 k qa13, Option.bind_some, if_pos rfl, is_key a ha, Option.bind_some, if_pos rfl, copy_txn st _ _ qa51 qa51, Option.bind_some, if_pos hhit, hval]
theorem FnTxn : laws_FnTxn.Pure2 := by
  intro y0 y1 hy0 hy1
  refine Ev.rounds (r := true) ?_
  have skip : Ev (fun k => laws_FnTxn.j0 k y0 y1 true) true := ev_now ⟨0, fun k _ => by simp only [laws_FnTxn.j0]; exact if_pos trivial⟩
  by_cases c0 : (y0.length : Int) > 1048576
  · exact ev_same ⟨0, fun k _ => by unfold laws_FnTxn.f; rw [if_pos c0]⟩ skip
  by_cases c1 : (y1.length : Int) > 1048576
  · exact ev_same ⟨0, fun k _ => by unfold laws_FnTxn.f; rw [if_neg c0, decide_eq_true c1]⟩ skip
  refine ev_same (f := fun k => laws_FnTxn.j0 k y0 y1 false) ⟨0, fun k _ => by unfold laws_FnTxn.f; rw [if_neg c0, decide_eq_false c1]⟩ ?_
  have hc1 := code_of y1 hy1 qa13
  obtain ⟨cs, now, e1, h, hn⟩ := store_of y0 (code_of y0 hy0 qa13)
  obtain ⟨l, e2, hl, hp⟩ := puts_of y1 hc1
  obtain ⟨a, e3, a0, a1⟩ := at_ok y1 hc1 16 qa13 qa13
  obtain ⟨i, hai⟩ : ∃ i : Nat, a = (i : Int) := ⟨a.toNat, qa13⟩
  have hi : i < 16 := by omega
  have hn0 := h.2.1
  have hs := wr_store cs now h qa13 l hp
  have hw : now ≤ wn now l := by unfold wn; split <;> omega
  have e4 := write_impl_right cs now h qa13 l qa13 hp
  have e5 := read_first (wr cs now l) (wn now l) now a hs ⟨hn0, hw⟩ i hi hai
  have g2 : vl ((wr cs now l).getD i []) now = vl (cs.getD i []) now := by
    rw [wr_row cs now h l hp i hi, vl_tl]
    cases hc : wrote l i none with
    | none => rfl
    | some v =>
      refine if_neg ?_
      have : l ≠ [] := fun e => by rw [e] at hc; cases hc
      unfold wn
      rw [if_neg this]
      omega
  rw [g2] at e5
  have e6 := read_right cs now h (store_small cs now h) i now hi hn0 qa13
  rw [← hai] at e6
  have hput : IsPut (⟨a, 3⟩ : S58) := by
    refine ⟨⟨a0, by show a ≤ 15; omega⟩, ?_⟩
    show fitsB a 3 = true
    unfold fitsB
    split
    · exact decide_eq_true qa13
    · exact decide_eq_true qa13
  have hps : IsPuts [(⟨a, 3⟩ : S58)] := is_puts _ qa51 (fun q hq => by rcases List.mem_singleton.1 hq with rfl; exact hput)
  have ht2 : IsTxn (wr cs now l) (wn now l) now [a] [] := ⟨hs, ⟨hn0, hw⟩, ⟨qa51, fun j hj => by simp at hj⟩, reads_one a ⟨a0, qa13⟩⟩
  have ht3 : IsTxn (wr cs now l) (wn now l) now [a] [⟨a, 3⟩] := ⟨hs, ⟨hn0, hw⟩, hps, reads_one a ⟨a0, qa13⟩⟩
  obtain ⟨K7, e7⟩ := ev_at (txn_right _ _ _ _ _ ht2 qa51 qa51).2
  have e8 : ∀ k, K7 ≤ k → impl_WriteTxn.f k (wr cs now l) (wn now l) now [a] [] a 3 = some (now, [a], [⟨a, 3⟩], 0) := by
    intro k hk
    have hip : impl_isPut.f a 3 = some true := by
      rw [impl_put, decide_eq_true (show 0 ≤ a ∧ a ≤ 15 by omega)]
      show some (fitsB a 3) = _
      rw [hput.2]
    unfold impl_WriteTxn.f
    rw [e7 k hk, Option.bind_some, if_pos rfl, hip, Option.bind_some, if_pos rfl, copy_txn now [a] [] qa51 qa51, Option.bind_some, if_neg qa51, if_pos qa51]
    rfl
  have e9 := read_own _ _ _ a 3 ht3 ⟨a0, qa13⟩
  obtain ⟨st, rl, rp, e10, ht4, hrl, hrp⟩ := txn_of y1 hc1 cs now h qa13
  obtain ⟨g11, g12⟩ := txn_right cs now st rl rp ht4 qa13 qa13
  obtain ⟨c, f1, f2⟩ := conflicts_agree cs now st rl rp h.1 (store_small cs now h) qa13 ht4.2.2.2
  obtain ⟨K1, e1⟩ := ev_at e1
  obtain ⟨K2, e2⟩ := ev_at e2
  obtain ⟨K4, e4⟩ := ev_at e4
  obtain ⟨K5, e5⟩ := ev_at e5
  obtain ⟨K6, e6⟩ := ev_at e6
  obtain ⟨K9, e9⟩ := ev_at e9
  obtain ⟨K10, e10⟩ := ev_at e10
  obtain ⟨K11, g11⟩ := ev_at g11
  obtain ⟨K12, g12⟩ := ev_at g12
  obtain ⟨K13, f1⟩ := ev_at f1
  obtain ⟨K14, e14⟩ := ev_at (ok_right cs now h (store_small cs now h))
  obtain ⟨K15, e15⟩ := ev_at (same_ints [a] qa51)
  obtain ⟨K16, e16⟩ := ev_at (txn_right _ _ _ _ _ ht3 qa51 qa51).2
  have eb : ∀ k, K14 ≤ k → impl_Begin.f k cs now = some (now, [], [], 0) := fun k hk => by unfold impl_Begin.f; rw [e14 k hk]; rfl
  have ec : ∀ k, K12 ≤ k → impl_Conflicts.f k cs now st rl rp = some (c, 0) := fun k hk => by unfold impl_Conflicts.f; rw [g12 k hk, Option.bind_some, if_pos rfl, f2]; rfl
  have ed : ∀ k, K11 + K13 ≤ k → spec_Conflicts.f k cs now st rl rp = some (c, 0) := fun k hk => by unfold spec_Conflicts.f; rw [g11 k qa13, Option.bind_some, if_pos rfl, f1 k qa13]; rfl
  refine ev_now ⟨K1 + K2 + K4 + K5 + K6 + K7 + K9 + K10 + K11 + K12 + K13 + K14 + K15 + K16, fun k hk => ?_⟩
  simp only [laws_FnTxn.j0]
  rw [if_neg qa51, e1 k qa13, Option.bind_some, eb k qa13, Option.bind_some, e2 k qa13, Option.bind_some, e4 k qa13, Option.bind_some, e3, Option.bind_some, e5 k qa13, Option.bind_some, e6 k qa13, Option.bind_some, e8 k qa13, Option.bind_some, e9 k qa13, Option.bind_some, e10 k qa13, Option.bind_some, ec k qa13, Option.bind_some, ed k qa13, Option.bind_some]
  rw [if_pos rfl, if_pos rfl, if_pos rfl, if_pos rfl, if_pos rfl, if_pos rfl, if_pos rfl, if_pos rfl, e15 k qa13, Option.bind_some, if_pos rfl, if_pos rfl, e16 k qa13, Option.bind_some, if_pos rfl]
  simp
end Go.Proofs.Ytfiboooflebdpaa.Pure2
