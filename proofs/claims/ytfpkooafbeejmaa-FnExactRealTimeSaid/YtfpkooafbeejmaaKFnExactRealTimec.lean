/- Texts of the claim on FnExactRealTime, gathered by a program of this session: what the program's functions compute (proved by walks), and the plain part. -/
import Derived.Test.YtfpkooafbeejmaaKFnExactRealTimeb
import Derived.Deep.Cut
namespace Go.Proofs.Ytfpkooafbeejmaa.Q
open Go.RowKit Go.Proofs.YtfpkooafbeejmaaW.PrintWords Go.Proofs.YtfpkooafbeejmaaW.PrintLast Go.Proofs.YtfpkooafbeejmaaW.PrintMore
attribute [local go_sem] max2_int min2_int max_two min_two max_three min_three max_four min_four
set_option linter.unusedVariables false
set_option linter.unusedSimpArgs false
set_option maxHeartbeats 8000000
set_option maxRecDepth 100000
def laws_eqDone.f (k : Nat) (a0_0 : Int) (a0_1 : Int) (a0_2 : Int) (a0_3 : Int) (a0_4 : Bool) (l0_5 : List (S141)) (l0_6 : List (S80)) (a0_7 : ByteArray) (a1_0 : Int) (a1_1 : Int) (a1_2 : Int) (a1_3 : Int) (a1_4 : Bool) (l1_5 : List (S141)) (l1_6 : List (S80)) (a1_7 : ByteArray) : Option (Bool) := if a0_0 = a1_0 then (if a0_1 = a1_1 then (if a0_2 = a1_2 then (if a0_3 = a1_3 then (if (a0_4 != a1_4) = true then (some false) else ((laws_eqRequest.f k l0_5 l0_6 l1_5 l1_6).bind fun t103 => (if t103 = true then (if a0_7.toList = a1_7.toList then (some true) else (some false)) else (some false)))) else (some false)) else (some false)) else (some false)) else (some false)
theorem laws_eqDone.calls (k : Nat) (a0_0 : Int) (a0_1 : Int) (a0_2 : Int) (a0_3 : Int) (a0_4 : Bool) (A0_5 : Option Addr) (c0_5 : Nat) (l0_5 : List (S141)) (A0_6 : Option Addr) (c0_6 : Nat) (l0_6 : List (S80)) (a0_7 : ByteArray) (a1_0 : Int) (a1_1 : Int) (a1_2 : Int) (a1_3 : Int) (a1_4 : Bool) (A1_5 : Option Addr) (c1_5 : Nat) (l1_5 : List (S141)) (A1_6 : Option Addr) (c1_6 : Nat) (l1_6 : List (S80)) (a1_7 : ByteArray) (r : Bool) (w : World) (hr0_5 : Kd.C k141 w A0_5 l0_5.length l0_5) (hc0_5 : l0_5.length ≤ c0_5) (hr0_6 : Kd.C k80 w A0_6 l0_6.length l0_6) (hc0_6 : l0_6.length ≤ c0_6) (hr1_5 : Kd.C k141 w A1_5 l1_5.length l1_5) (hc1_5 : l1_5.length ≤ c1_5) (hr1_6 : Kd.C k80 w A1_6 l1_6.length l1_6) (hc1_6 : l1_6.length ≤ c1_6) (h : laws_eqDone.f k a0_0 a0_1 a0_2 a0_3 a0_4 l0_5 l0_6 a0_7 a1_0 a1_1 a1_2 a1_3 a1_4 l1_5 l1_6 a1_7 = some r) :
  Calls Try.prog 74 #[.agg #[.int .i64 a0_0, .int .i64 a0_1, .int .i64 a0_2, .int .i64 a0_3, .bool a0_4, .slice A0_5 l0_5.length c0_5, .slice A0_6 l0_6.length c0_6, .string a0_7], .agg #[.int .i64 a1_0, .int .i64 a1_1, .int .i64 a1_2, .int .i64 a1_3, .bool a1_4, .slice A1_5 l1_5.length c1_5, .slice A1_6 l1_6.length c1_6, .string a1_7]] w fun e w' => e = .returned (.bool r) ∧ Below w.heap.size w w' := by
 have hu115 := Try.underlying115; have hu113 := Try.underlying113; have HR0_5 := qO hr0_5; have HC0_5 := qO hc0_5; clear hr0_5 hc0_5; have HR0_6 := qO hr0_6; have HC0_6 := qO hc0_6; clear hr0_6 hc0_6; have HR1_5 := qO hr1_5; have HC1_5 := qO hc1_5; clear hr1_5 hc1_5; have HR1_6 := qO hr1_6; have HC1_6 := qO hc1_6; clear hr1_6 hc1_6; have HB := qO (Below.refl w.heap.size w); have H : (if a0_0 = a1_0 then (if a0_1 = a1_1 then (if a0_2 = a1_2 then (if a0_3 = a1_3 then (if (a0_4 != a1_4) = true then (some false) else ((laws_eqRequest.f k l0_5 l0_6 l1_5 l1_6).bind fun t103 => (if t103 = true then (if a0_7.toList = a1_7.toList then (some true) else (some false)) else (some false)))) else (some false)) else (some false)) else (some false)) else (some false)) = some r := h; clear h
 by_cases c3 : a0_0 = a1_0
 ·rw [if_pos c3] at H
  have c3b0 := beq_iff_eq.mpr c3; have c3b1 := bne_eq_false_iff_eq.mpr c3; clear c3
  by_cases c4 : a0_1 = a1_1
  ·rw [if_pos c4] at H
   have c4b0 := beq_iff_eq.mpr c4; have c4b1 := bne_eq_false_iff_eq.mpr c4; clear c4
   by_cases c5 : a0_2 = a1_2
   ·rw [if_pos c5] at H
    have c5b0 := beq_iff_eq.mpr c5; have c5b1 := bne_eq_false_iff_eq.mpr c5; clear c5
    by_cases c6 : a0_3 = a1_3
    ·rw [if_pos c6] at H
     have c6b0 := beq_iff_eq.mpr c6; have c6b1 := bne_eq_false_iff_eq.mpr c6; clear c6
     by_cases c7 : (a0_4 != a1_4) = true
     ·rw [if_pos c7] at H
      have c7b0 : (a0_4 != a1_4) = true := c7; (try (have c7b1 : decide (a0_4 = a1_4) = false := by simpa using c7)); (try (have c7b2 : (a0_4 == a1_4) = false := by simpa using c7)); (try (have c7b3 : ¬ (a0_4 = a1_4) := by simpa using c7)); clear c7; obtain rfl := Option.some.inj H
      go_enter Try.func74, Try.ntmps74
      go_wp2_with (first | ((with_reducible refine gate_dst (N := 2) rfl ?_); refine qX 2 #[.int .i64 a0_0, .int .i64 a0_1, .int .i64 a0_2, .int .i64 a0_3, .bool a0_4, .slice A0_5 l0_5.length c0_5, .slice A0_6 l0_6.length c0_6, .string a0_7] 115 ?_; intro gb101 hg w8 hbox hb; have hx_ := qHX HB hb qa0; have BK101 := qO (hbox); have GW101 := qO ((qa3 : w.heap.size ≤ gb101)); have GE101 := GW101; replace HB := qO (below_step (below_step HB.out hx_) hb); clear hx_ hb hbox hg) | ((with_reducible refine gate_dst (N := 3) rfl ?_); refine qX 3 #[.int .i64 a1_0, .int .i64 a1_1, .int .i64 a1_2, .int .i64 a1_3, .bool a1_4, .slice A1_5 l1_5.length c1_5, .slice A1_6 l1_6.length c1_6, .string a1_7] 115 ?_; intro gb102 hg w9 hbox hb; have hx_ := qHX HB hb qa0; have BK102 := qO (hbox); have GW102 := qO ((qa3 : w.heap.size ≤ gb102)); have GE102 := GW102; have NB101_102 := qO ((qLt hg (qk BK101.out))); have NB102_101 := qO (Ne.symm NB101_102.out); replace BK101 := qO (qB BK101.out hx_ hb); replace HB := qO (below_step (below_step HB.out hx_) hb); clear hx_ hb hbox hg; have hnb10 := NB101_102.out; have hnc10 := NB102_101.out; have hcz11_0 := qc0 BK101.out; have hcz11_1 := qc1 BK101.out; have hcz11_2 := qc2 BK101.out; have hcz11_3 := qc3 BK101.out; have hcz11_4 := qc4 BK101.out; have hcz11_5 := qc5 BK101.out; have hcz11_6 : w9.cell? ⟨gb101, 6, none⟩ = some (.slice A0_6 l0_6.length c0_6) := (blk_cell BK101.out 6).trans rfl; have hcz11_7 : w9.cell? ⟨gb101, 7, none⟩ = some (.string a0_7) := (blk_cell BK101.out 7).trans rfl; have hfz11_0 := blk_frozen BK101.out 0; have hfz11_1 := blk_frozen BK101.out 1; have hfz11_2 := blk_frozen BK101.out 2; have hfz11_3 := blk_frozen BK101.out 3; have hfz11_4 := blk_frozen BK101.out 4; have hfz11_5 := blk_frozen BK101.out 5; have hfz11_6 := blk_frozen BK101.out 6; have hfz11_7 := blk_frozen BK101.out 7; have hcz12_0 := qc0 BK102.out; have hcz12_1 := qc1 BK102.out; have hcz12_2 := qc2 BK102.out; have hcz12_3 := qc3 BK102.out; have hcz12_4 := qc4 BK102.out; have hcz12_5 := qc5 BK102.out; have hcz12_6 : w9.cell? ⟨gb102, 6, none⟩ = some (.slice A1_6 l1_6.length c1_6) := (blk_cell BK102.out 6).trans rfl; have hcz12_7 : w9.cell? ⟨gb102, 7, none⟩ = some (.string a1_7) := (blk_cell BK102.out 7).trans rfl; have hfz12_0 := blk_frozen BK102.out 0; have hfz12_1 := blk_frozen BK102.out 1; have hfz12_2 := blk_frozen BK102.out 2; have hfz12_3 := blk_frozen BK102.out 3; have hfz12_4 := blk_frozen BK102.out 4; have hfz12_5 := blk_frozen BK102.out 5; have hfz12_6 := blk_frozen BK102.out 6; have hfz12_7 := blk_frozen BK102.out 7))
      go_ret
      exact ⟨qa1, qH HB.out⟩
     ·rw [if_neg c7] at H
      have c7b0 : (a0_4 != a1_4) = false := by simpa using c7
      (try (have c7b1 : decide (a0_4 = a1_4) = true := by simpa using c7)); (try (have c7b2 : (a0_4 == a1_4) = true := by simpa using c7)); clear c7; replace H := Option.bind_eq_some_iff.mp H; obtain ⟨t103, A130, H⟩ := H; have A13 := qO A130; clear A130
      by_cases c14 : t103 = true
      ·subst c14
       rw [if_pos rfl] at H
       by_cases c15 : a0_7.toList = a1_7.toList
       ·rw [if_pos c15] at H
        have c15b0 := beq_iff_eq.mpr c15; have c15b1 := bne_eq_false_iff_eq.mpr c15; clear c15; obtain rfl := Option.some.inj H
        go_enter Try.func74, Try.ntmps74
        go_wp2_with (first | ((with_reducible refine gate_dst (N := 2) rfl ?_); refine qX 2 #[.int .i64 a0_0, .int .i64 a0_1, .int .i64 a0_2, .int .i64 a0_3, .bool a0_4, .slice A0_5 l0_5.length c0_5, .slice A0_6 l0_6.length c0_6, .string a0_7] 115 ?_; intro gb101 hg w16 hbox hb; have hx_ := qHX HB hb qa0; have BK101 := qO (hbox); have GW101 := qO ((qa3 : w.heap.size ≤ gb101)); have GE101 := GW101; replace HB := qO (below_step (below_step HB.out hx_) hb); clear hx_ hb hbox hg) | ((with_reducible refine gate_dst (N := 3) rfl ?_); refine qX 3 #[.int .i64 a1_0, .int .i64 a1_1, .int .i64 a1_2, .int .i64 a1_3, .bool a1_4, .slice A1_5 l1_5.length c1_5, .slice A1_6 l1_6.length c1_6, .string a1_7] 115 ?_; intro gb102 hg w17 hbox hb; have hx_ := qHX HB hb qa0; have BK102 := qO (hbox); have GW102 := qO ((qa3 : w.heap.size ≤ gb102)); have GE102 := GW102; have NB101_102 := qO ((qLt hg (qk BK101.out))); have NB102_101 := qO (Ne.symm NB101_102.out); replace BK101 := qO (qB BK101.out hx_ hb); replace HB := qO (below_step (below_step HB.out hx_) hb); clear hx_ hb hbox hg; have hnb18 := NB101_102.out; have hnc18 := NB102_101.out; have hcz19_0 := qc0 BK101.out; have hcz19_1 := qc1 BK101.out; have hcz19_2 := qc2 BK101.out; have hcz19_3 := qc3 BK101.out; have hcz19_4 := qc4 BK101.out; have hcz19_5 := qc5 BK101.out; have hcz19_6 : w17.cell? ⟨gb101, 6, none⟩ = some (.slice A0_6 l0_6.length c0_6) := (blk_cell BK101.out 6).trans rfl; have hcz19_7 : w17.cell? ⟨gb101, 7, none⟩ = some (.string a0_7) := (blk_cell BK101.out 7).trans rfl; have hfz19_0 := blk_frozen BK101.out 0; have hfz19_1 := blk_frozen BK101.out 1; have hfz19_2 := blk_frozen BK101.out 2; have hfz19_3 := blk_frozen BK101.out 3; have hfz19_4 := blk_frozen BK101.out 4; have hfz19_5 := blk_frozen BK101.out 5; have hfz19_6 := blk_frozen BK101.out 6; have hfz19_7 := blk_frozen BK101.out 7; have hcz20_0 := qc0 BK102.out; have hcz20_1 := qc1 BK102.out; have hcz20_2 := qc2 BK102.out; have hcz20_3 := qc3 BK102.out; have hcz20_4 := qc4 BK102.out; have hcz20_5 := qc5 BK102.out; have hcz20_6 : w17.cell? ⟨gb102, 6, none⟩ = some (.slice A1_6 l1_6.length c1_6) := (blk_cell BK102.out 6).trans rfl; have hcz20_7 : w17.cell? ⟨gb102, 7, none⟩ = some (.string a1_7) := (blk_cell BK102.out 7).trans rfl; have hfz20_0 := blk_frozen BK102.out 0; have hfz20_1 := blk_frozen BK102.out 1; have hfz20_2 := blk_frozen BK102.out 2; have hfz20_3 := blk_frozen BK102.out 3; have hfz20_4 := blk_frozen BK102.out 4; have hfz20_5 := blk_frozen BK102.out 5; have hfz20_6 := blk_frozen BK102.out 6; have hfz20_7 := blk_frozen BK102.out 7) | ((with_reducible refine gate_callee (f := 110) rfl ?_); refine qGL 34 Try.func110 #[.agg #[.slice A0_5 l0_5.length c0_5, .slice A0_6 l0_6.length c0_6], .agg #[.slice A1_5 l1_5.length c1_5, .slice A1_6 l1_6.length c1_6]] ?_; (with_reducible refine (laws_eqRequest.calls k _ _ l0_5 _ _ l0_6 _ _ l1_5 _ _ l1_6 true _ ?side1 ?side2 ?side3 ?side4 ?side5 ?side6 ?side7 ?side8 A13.out).mono ?_); (case side1 => exact qa27); (case side2 => exact HC0_5.out); (case side3 => exact qa41); (case side4 => exact HC0_6.out); (case side5 => exact qa49); (case side6 => exact HC1_5.out); (case side7 => exact qkC (Kd.C_below HR1_6.out HB.out)); (case side8 => exact HC1_6.out); rintro e w21 ⟨rfl, hb⟩; have hx_ := qHX HB hb qa0; refine ⟨_, rfl, ?_⟩; replace BK101 := qO (qB BK101.out hx_ hb); replace BK102 := qO (qB BK102.out hx_ hb); replace HB := qO (below_step (below_step HB.out hx_) hb); clear hx_ hb; have hcz22_0 := qc0 BK101.out; have hcz22_1 := qc1 BK101.out; have hcz22_2 := qc2 BK101.out; have hcz22_3 := qc3 BK101.out; have hcz22_4 := qc4 BK101.out; have hcz22_5 := qc5 BK101.out; have hcz22_6 : w21.cell? ⟨gb101, 6, none⟩ = some (.slice A0_6 l0_6.length c0_6) := (blk_cell BK101.out 6).trans rfl; have hcz22_7 : w21.cell? ⟨gb101, 7, none⟩ = some (.string a0_7) := (blk_cell BK101.out 7).trans rfl; have hfz22_0 := blk_frozen BK101.out 0; have hfz22_1 := blk_frozen BK101.out 1; have hfz22_2 := blk_frozen BK101.out 2; have hfz22_3 := blk_frozen BK101.out 3; have hfz22_4 := blk_frozen BK101.out 4; have hfz22_5 := blk_frozen BK101.out 5; have hfz22_6 := blk_frozen BK101.out 6; have hfz22_7 := blk_frozen BK101.out 7; have hcz23_0 := qc0 BK102.out; have hcz23_1 := qc1 BK102.out; have hcz23_2 := qc2 BK102.out; have hcz23_3 := qc3 BK102.out; have hcz23_4 := qc4 BK102.out; have hcz23_5 := qc5 BK102.out; have hcz23_6 : w21.cell? ⟨gb102, 6, none⟩ = some (.slice A1_6 l1_6.length c1_6) := (blk_cell BK102.out 6).trans rfl; have hcz23_7 : w21.cell? ⟨gb102, 7, none⟩ = some (.string a1_7) := (blk_cell BK102.out 7).trans rfl; have hfz23_0 := blk_frozen BK102.out 0; have hfz23_1 := blk_frozen BK102.out 1; have hfz23_2 := blk_frozen BK102.out 2; have hfz23_3 := blk_frozen BK102.out 3; have hfz23_4 := blk_frozen BK102.out 4; have hfz23_5 := blk_frozen BK102.out 5; have hfz23_6 := blk_frozen BK102.out 6; have hfz23_7 := blk_frozen BK102.out 7))
        go_ret
        exact ⟨qa1, qH HB.out⟩
       ·rw [if_neg c15] at H
        have c15b0 := beq_eq_false_iff_ne.mpr c15; have c15b1 := bne_iff_ne.mpr c15; obtain rfl := Option.some.inj H
        go_enter Try.func74, Try.ntmps74
        go_wp2_with (first | ((with_reducible refine gate_dst (N := 2) rfl ?_); refine qX 2 #[.int .i64 a0_0, .int .i64 a0_1, .int .i64 a0_2, .int .i64 a0_3, .bool a0_4, .slice A0_5 l0_5.length c0_5, .slice A0_6 l0_6.length c0_6, .string a0_7] 115 ?_; intro gb101 hg w24 hbox hb; have hx_ := qHX HB hb qa0; have BK101 := qO (hbox); have GW101 := qO ((qa3 : w.heap.size ≤ gb101)); have GE101 := GW101; replace HB := qO (below_step (below_step HB.out hx_) hb); clear hx_ hb hbox hg) | ((with_reducible refine gate_dst (N := 3) rfl ?_); refine qX 3 #[.int .i64 a1_0, .int .i64 a1_1, .int .i64 a1_2, .int .i64 a1_3, .bool a1_4, .slice A1_5 l1_5.length c1_5, .slice A1_6 l1_6.length c1_6, .string a1_7] 115 ?_; intro gb102 hg w25 hbox hb; have hx_ := qHX HB hb qa0; have BK102 := qO (hbox); have GW102 := qO ((qa3 : w.heap.size ≤ gb102)); have GE102 := GW102; have NB101_102 := qO ((qLt hg (qk BK101.out))); have NB102_101 := qO (Ne.symm NB101_102.out); replace BK101 := qO (qB BK101.out hx_ hb); replace HB := qO (below_step (below_step HB.out hx_) hb); clear hx_ hb hbox hg; have hnb26 := NB101_102.out; have hnc26 := NB102_101.out; have hcz27_0 := qc0 BK101.out; have hcz27_1 := qc1 BK101.out; have hcz27_2 := qc2 BK101.out; have hcz27_3 := qc3 BK101.out; have hcz27_4 := qc4 BK101.out; have hcz27_5 := qc5 BK101.out; have hcz27_6 : w25.cell? ⟨gb101, 6, none⟩ = some (.slice A0_6 l0_6.length c0_6) := (blk_cell BK101.out 6).trans rfl; have hcz27_7 : w25.cell? ⟨gb101, 7, none⟩ = some (.string a0_7) := (blk_cell BK101.out 7).trans rfl; have hfz27_0 := blk_frozen BK101.out 0; have hfz27_1 := blk_frozen BK101.out 1; have hfz27_2 := blk_frozen BK101.out 2; have hfz27_3 := blk_frozen BK101.out 3; have hfz27_4 := blk_frozen BK101.out 4; have hfz27_5 := blk_frozen BK101.out 5; have hfz27_6 := blk_frozen BK101.out 6; have hfz27_7 := blk_frozen BK101.out 7; have hcz28_0 := qc0 BK102.out; have hcz28_1 := qc1 BK102.out; have hcz28_2 := qc2 BK102.out; have hcz28_3 := qc3 BK102.out; have hcz28_4 := qc4 BK102.out; have hcz28_5 := qc5 BK102.out; have hcz28_6 : w25.cell? ⟨gb102, 6, none⟩ = some (.slice A1_6 l1_6.length c1_6) := (blk_cell BK102.out 6).trans rfl; have hcz28_7 : w25.cell? ⟨gb102, 7, none⟩ = some (.string a1_7) := (blk_cell BK102.out 7).trans rfl; have hfz28_0 := blk_frozen BK102.out 0; have hfz28_1 := blk_frozen BK102.out 1; have hfz28_2 := blk_frozen BK102.out 2; have hfz28_3 := blk_frozen BK102.out 3; have hfz28_4 := blk_frozen BK102.out 4; have hfz28_5 := blk_frozen BK102.out 5; have hfz28_6 := blk_frozen BK102.out 6; have hfz28_7 := blk_frozen BK102.out 7) | ((with_reducible refine gate_callee (f := 110) rfl ?_); refine qGL 34 Try.func110 #[.agg #[.slice A0_5 l0_5.length c0_5, .slice A0_6 l0_6.length c0_6], .agg #[.slice A1_5 l1_5.length c1_5, .slice A1_6 l1_6.length c1_6]] ?_; (with_reducible refine (laws_eqRequest.calls k _ _ l0_5 _ _ l0_6 _ _ l1_5 _ _ l1_6 true _ ?side1 ?side2 ?side3 ?side4 ?side5 ?side6 ?side7 ?side8 A13.out).mono ?_); (case side1 => exact qa27); (case side2 => exact HC0_5.out); (case side3 => exact qa41); (case side4 => exact HC0_6.out); (case side5 => exact qa49); (case side6 => exact HC1_5.out); (case side7 => exact qkC (Kd.C_below HR1_6.out HB.out)); (case side8 => exact HC1_6.out); rintro e w29 ⟨rfl, hb⟩; have hx_ := qHX HB hb qa0; refine ⟨_, rfl, ?_⟩; replace BK101 := qO (qB BK101.out hx_ hb); replace BK102 := qO (qB BK102.out hx_ hb); replace HB := qO (below_step (below_step HB.out hx_) hb); clear hx_ hb; have hcz30_0 := qc0 BK101.out; have hcz30_1 := qc1 BK101.out; have hcz30_2 := qc2 BK101.out; have hcz30_3 := qc3 BK101.out; have hcz30_4 := qc4 BK101.out; have hcz30_5 := qc5 BK101.out; have hcz30_6 : w29.cell? ⟨gb101, 6, none⟩ = some (.slice A0_6 l0_6.length c0_6) := (blk_cell BK101.out 6).trans rfl; have hcz30_7 : w29.cell? ⟨gb101, 7, none⟩ = some (.string a0_7) := (blk_cell BK101.out 7).trans rfl; have hfz30_0 := blk_frozen BK101.out 0; have hfz30_1 := blk_frozen BK101.out 1; have hfz30_2 := blk_frozen BK101.out 2; have hfz30_3 := blk_frozen BK101.out 3; have hfz30_4 := blk_frozen BK101.out 4; have hfz30_5 := blk_frozen BK101.out 5; have hfz30_6 := blk_frozen BK101.out 6; have hfz30_7 := blk_frozen BK101.out 7; have hcz31_0 := qc0 BK102.out; have hcz31_1 := qc1 BK102.out; have hcz31_2 := qc2 BK102.out; have hcz31_3 := qc3 BK102.out; have hcz31_4 := qc4 BK102.out; have hcz31_5 := qc5 BK102.out; have hcz31_6 : w29.cell? ⟨gb102, 6, none⟩ = some (.slice A1_6 l1_6.length c1_6) := (blk_cell BK102.out 6).trans rfl; have hcz31_7 : w29.cell? ⟨gb102, 7, none⟩ = some (.string a1_7) := (blk_cell BK102.out 7).trans rfl; have hfz31_0 := blk_frozen BK102.out 0; have hfz31_1 := blk_frozen BK102.out 1; have hfz31_2 := blk_frozen BK102.out 2; have hfz31_3 := blk_frozen BK102.out 3; have hfz31_4 := blk_frozen BK102.out 4; have hfz31_5 := blk_frozen BK102.out 5; have hfz31_6 := blk_frozen BK102.out 6; have hfz31_7 := blk_frozen BK102.out 7))
        go_ret
        exact ⟨qa1, qH HB.out⟩
      ·replace c14 := Bool.eq_false_iff.mpr c14
       subst c14; rw [qfn] at H; obtain rfl := Option.some.inj H
       go_enter Try.func74, Try.ntmps74
       go_wp2_with (first | ((with_reducible refine gate_dst (N := 2) rfl ?_); refine qX 2 #[.int .i64 a0_0, .int .i64 a0_1, .int .i64 a0_2, .int .i64 a0_3, .bool a0_4, .slice A0_5 l0_5.length c0_5, .slice A0_6 l0_6.length c0_6, .string a0_7] 115 ?_; intro gb101 hg w32 hbox hb; have hx_ := qHX HB hb qa0; have BK101 := qO (hbox); have GW101 := qO ((qa3 : w.heap.size ≤ gb101)); have GE101 := GW101; replace HB := qO (below_step (below_step HB.out hx_) hb); clear hx_ hb hbox hg) | ((with_reducible refine gate_dst (N := 3) rfl ?_); refine qX 3 #[.int .i64 a1_0, .int .i64 a1_1, .int .i64 a1_2, .int .i64 a1_3, .bool a1_4, .slice A1_5 l1_5.length c1_5, .slice A1_6 l1_6.length c1_6, .string a1_7] 115 ?_; intro gb102 hg w33 hbox hb; have hx_ := qHX HB hb qa0; have BK102 := qO (hbox); have GW102 := qO ((qa3 : w.heap.size ≤ gb102)); have GE102 := GW102; have NB101_102 := qO ((qLt hg (qk BK101.out))); have NB102_101 := qO (Ne.symm NB101_102.out); replace BK101 := qO (qB BK101.out hx_ hb); replace HB := qO (below_step (below_step HB.out hx_) hb); clear hx_ hb hbox hg; have hnb34 := NB101_102.out; have hnc34 := NB102_101.out; have hcz35_0 := qc0 BK101.out; have hcz35_1 := qc1 BK101.out; have hcz35_2 := qc2 BK101.out; have hcz35_3 := qc3 BK101.out; have hcz35_4 := qc4 BK101.out; have hcz35_5 := qc5 BK101.out; have hcz35_6 : w33.cell? ⟨gb101, 6, none⟩ = some (.slice A0_6 l0_6.length c0_6) := (blk_cell BK101.out 6).trans rfl; have hcz35_7 : w33.cell? ⟨gb101, 7, none⟩ = some (.string a0_7) := (blk_cell BK101.out 7).trans rfl; have hfz35_0 := blk_frozen BK101.out 0; have hfz35_1 := blk_frozen BK101.out 1; have hfz35_2 := blk_frozen BK101.out 2; have hfz35_3 := blk_frozen BK101.out 3; have hfz35_4 := blk_frozen BK101.out 4; have hfz35_5 := blk_frozen BK101.out 5; have hfz35_6 := blk_frozen BK101.out 6; have hfz35_7 := blk_frozen BK101.out 7; have hcz36_0 := qc0 BK102.out; have hcz36_1 := qc1 BK102.out; have hcz36_2 := qc2 BK102.out; have hcz36_3 := qc3 BK102.out; have hcz36_4 := qc4 BK102.out; have hcz36_5 := qc5 BK102.out; have hcz36_6 : w33.cell? ⟨gb102, 6, none⟩ = some (.slice A1_6 l1_6.length c1_6) := (blk_cell BK102.out 6).trans rfl; have hcz36_7 : w33.cell? ⟨gb102, 7, none⟩ = some (.string a1_7) := (blk_cell BK102.out 7).trans rfl; have hfz36_0 := blk_frozen BK102.out 0; have hfz36_1 := blk_frozen BK102.out 1; have hfz36_2 := blk_frozen BK102.out 2; have hfz36_3 := blk_frozen BK102.out 3; have hfz36_4 := blk_frozen BK102.out 4; have hfz36_5 := blk_frozen BK102.out 5; have hfz36_6 := blk_frozen BK102.out 6; have hfz36_7 := blk_frozen BK102.out 7) | ((with_reducible refine gate_callee (f := 110) rfl ?_); refine qGL 34 Try.func110 #[.agg #[.slice A0_5 l0_5.length c0_5, .slice A0_6 l0_6.length c0_6], .agg #[.slice A1_5 l1_5.length c1_5, .slice A1_6 l1_6.length c1_6]] ?_; (with_reducible refine (laws_eqRequest.calls k _ _ l0_5 _ _ l0_6 _ _ l1_5 _ _ l1_6 false _ ?side1 ?side2 ?side3 ?side4 ?side5 ?side6 ?side7 ?side8 A13.out).mono ?_); (case side1 => exact qa27); (case side2 => exact HC0_5.out); (case side3 => exact qa41); (case side4 => exact HC0_6.out); (case side5 => exact qa49); (case side6 => exact HC1_5.out); (case side7 => exact qkC (Kd.C_below HR1_6.out HB.out)); (case side8 => exact HC1_6.out); rintro e w37 ⟨rfl, hb⟩; have hx_ := qHX HB hb qa0; refine ⟨_, rfl, ?_⟩; replace BK101 := qO (qB BK101.out hx_ hb); replace BK102 := qO (qB BK102.out hx_ hb); replace HB := qO (below_step (below_step HB.out hx_) hb); clear hx_ hb))
       go_ret
       exact ⟨qa1, qH HB.out⟩
    ·rw [if_neg c6] at H
     have c6b0 := beq_eq_false_iff_ne.mpr c6; have c6b1 := bne_iff_ne.mpr c6; obtain rfl := Option.some.inj H
     go_enter Try.func74, Try.ntmps74
     go_wp2_with (first | ((with_reducible refine gate_dst (N := 2) rfl ?_); refine qX 2 #[.int .i64 a0_0, .int .i64 a0_1, .int .i64 a0_2, .int .i64 a0_3, .bool a0_4, .slice A0_5 l0_5.length c0_5, .slice A0_6 l0_6.length c0_6, .string a0_7] 115 ?_; intro gb101 hg w38 hbox hb; have hx_ := qHX HB hb qa0; have BK101 := qO (hbox); have GW101 := qO ((qa3 : w.heap.size ≤ gb101)); have GE101 := GW101; replace HB := qO (below_step (below_step HB.out hx_) hb); clear hx_ hb hbox hg) | ((with_reducible refine gate_dst (N := 3) rfl ?_); refine qX 3 #[.int .i64 a1_0, .int .i64 a1_1, .int .i64 a1_2, .int .i64 a1_3, .bool a1_4, .slice A1_5 l1_5.length c1_5, .slice A1_6 l1_6.length c1_6, .string a1_7] 115 ?_; intro gb102 hg w39 hbox hb; have hx_ := qHX HB hb qa0; have BK102 := qO (hbox); have GW102 := qO ((qa3 : w.heap.size ≤ gb102)); have GE102 := GW102; have NB101_102 := qO ((qLt hg (qk BK101.out))); have NB102_101 := qO (Ne.symm NB101_102.out); replace BK101 := qO (qB BK101.out hx_ hb); replace HB := qO (below_step (below_step HB.out hx_) hb); clear hx_ hb hbox hg; have hnb40 := NB101_102.out; have hnc40 := NB102_101.out; have hcz41_0 := qc0 BK101.out; have hcz41_1 := qc1 BK101.out; have hcz41_2 := qc2 BK101.out; have hcz41_3 := qc3 BK101.out; have hcz41_4 := qc4 BK101.out; have hcz41_5 := qc5 BK101.out; have hcz41_6 : w39.cell? ⟨gb101, 6, none⟩ = some (.slice A0_6 l0_6.length c0_6) := (blk_cell BK101.out 6).trans rfl; have hcz41_7 : w39.cell? ⟨gb101, 7, none⟩ = some (.string a0_7) := (blk_cell BK101.out 7).trans rfl; have hfz41_0 := blk_frozen BK101.out 0; have hfz41_1 := blk_frozen BK101.out 1; have hfz41_2 := blk_frozen BK101.out 2; have hfz41_3 := blk_frozen BK101.out 3; have hfz41_4 := blk_frozen BK101.out 4; have hfz41_5 := blk_frozen BK101.out 5; have hfz41_6 := blk_frozen BK101.out 6; have hfz41_7 := blk_frozen BK101.out 7; have hcz42_0 := qc0 BK102.out; have hcz42_1 := qc1 BK102.out; have hcz42_2 := qc2 BK102.out; have hcz42_3 := qc3 BK102.out; have hcz42_4 := qc4 BK102.out; have hcz42_5 := qc5 BK102.out; have hcz42_6 : w39.cell? ⟨gb102, 6, none⟩ = some (.slice A1_6 l1_6.length c1_6) := (blk_cell BK102.out 6).trans rfl; have hcz42_7 : w39.cell? ⟨gb102, 7, none⟩ = some (.string a1_7) := (blk_cell BK102.out 7).trans rfl; have hfz42_0 := blk_frozen BK102.out 0; have hfz42_1 := blk_frozen BK102.out 1; have hfz42_2 := blk_frozen BK102.out 2; have hfz42_3 := blk_frozen BK102.out 3; have hfz42_4 := blk_frozen BK102.out 4; have hfz42_5 := blk_frozen BK102.out 5; have hfz42_6 := blk_frozen BK102.out 6; have hfz42_7 := blk_frozen BK102.out 7))
     go_ret
     exact ⟨qa1, qH HB.out⟩
   ·rw [if_neg c5] at H
    have c5b0 := beq_eq_false_iff_ne.mpr c5; have c5b1 := bne_iff_ne.mpr c5; obtain rfl := Option.some.inj H
    go_enter Try.func74, Try.ntmps74
    go_wp2_with (first | ((with_reducible refine gate_dst (N := 2) rfl ?_); refine qX 2 #[.int .i64 a0_0, .int .i64 a0_1, .int .i64 a0_2, .int .i64 a0_3, .bool a0_4, .slice A0_5 l0_5.length c0_5, .slice A0_6 l0_6.length c0_6, .string a0_7] 115 ?_; intro gb101 hg w43 hbox hb; have hx_ := qHX HB hb qa0; have BK101 := qO (hbox); have GW101 := qO ((qa3 : w.heap.size ≤ gb101)); have GE101 := GW101; replace HB := qO (below_step (below_step HB.out hx_) hb); clear hx_ hb hbox hg) | ((with_reducible refine gate_dst (N := 3) rfl ?_); refine qX 3 #[.int .i64 a1_0, .int .i64 a1_1, .int .i64 a1_2, .int .i64 a1_3, .bool a1_4, .slice A1_5 l1_5.length c1_5, .slice A1_6 l1_6.length c1_6, .string a1_7] 115 ?_; intro gb102 hg w44 hbox hb; have hx_ := qHX HB hb qa0; have BK102 := qO (hbox); have GW102 := qO ((qa3 : w.heap.size ≤ gb102)); have GE102 := GW102; have NB101_102 := qO ((qLt hg (qk BK101.out))); have NB102_101 := qO (Ne.symm NB101_102.out); replace BK101 := qO (qB BK101.out hx_ hb); replace HB := qO (below_step (below_step HB.out hx_) hb); clear hx_ hb hbox hg; have hnb45 := NB101_102.out; have hnc45 := NB102_101.out; have hcz46_0 := qc0 BK101.out; have hcz46_1 := qc1 BK101.out; have hcz46_2 := qc2 BK101.out; have hcz46_3 := qc3 BK101.out; have hcz46_4 := qc4 BK101.out; have hcz46_5 := qc5 BK101.out; have hcz46_6 : w44.cell? ⟨gb101, 6, none⟩ = some (.slice A0_6 l0_6.length c0_6) := (blk_cell BK101.out 6).trans rfl; have hcz46_7 : w44.cell? ⟨gb101, 7, none⟩ = some (.string a0_7) := (blk_cell BK101.out 7).trans rfl; have hfz46_0 := blk_frozen BK101.out 0; have hfz46_1 := blk_frozen BK101.out 1; have hfz46_2 := blk_frozen BK101.out 2; have hfz46_3 := blk_frozen BK101.out 3; have hfz46_4 := blk_frozen BK101.out 4; have hfz46_5 := blk_frozen BK101.out 5; have hfz46_6 := blk_frozen BK101.out 6; have hfz46_7 := blk_frozen BK101.out 7; have hcz47_0 := qc0 BK102.out; have hcz47_1 := qc1 BK102.out; have hcz47_2 := qc2 BK102.out; have hcz47_3 := qc3 BK102.out; have hcz47_4 := qc4 BK102.out; have hcz47_5 := qc5 BK102.out; have hcz47_6 : w44.cell? ⟨gb102, 6, none⟩ = some (.slice A1_6 l1_6.length c1_6) := (blk_cell BK102.out 6).trans rfl; have hcz47_7 : w44.cell? ⟨gb102, 7, none⟩ = some (.string a1_7) := (blk_cell BK102.out 7).trans rfl; have hfz47_0 := blk_frozen BK102.out 0; have hfz47_1 := blk_frozen BK102.out 1; have hfz47_2 := blk_frozen BK102.out 2; have hfz47_3 := blk_frozen BK102.out 3; have hfz47_4 := blk_frozen BK102.out 4; have hfz47_5 := blk_frozen BK102.out 5; have hfz47_6 := blk_frozen BK102.out 6; have hfz47_7 := blk_frozen BK102.out 7))
    go_ret
    exact ⟨qa1, qH HB.out⟩
  ·rw [if_neg c4] at H
   have c4b0 := beq_eq_false_iff_ne.mpr c4; have c4b1 := bne_iff_ne.mpr c4; obtain rfl := Option.some.inj H
   go_enter Try.func74, Try.ntmps74
   go_wp2_with (first | ((with_reducible refine gate_dst (N := 2) rfl ?_); refine qX 2 #[.int .i64 a0_0, .int .i64 a0_1, .int .i64 a0_2, .int .i64 a0_3, .bool a0_4, .slice A0_5 l0_5.length c0_5, .slice A0_6 l0_6.length c0_6, .string a0_7] 115 ?_; intro gb101 hg w48 hbox hb; have hx_ := qHX HB hb qa0; have BK101 := qO (hbox); have GW101 := qO ((qa3 : w.heap.size ≤ gb101)); have GE101 := GW101; replace HB := qO (below_step (below_step HB.out hx_) hb); clear hx_ hb hbox hg) | ((with_reducible refine gate_dst (N := 3) rfl ?_); refine qX 3 #[.int .i64 a1_0, .int .i64 a1_1, .int .i64 a1_2, .int .i64 a1_3, .bool a1_4, .slice A1_5 l1_5.length c1_5, .slice A1_6 l1_6.length c1_6, .string a1_7] 115 ?_; intro gb102 hg w49 hbox hb; have hx_ := qHX HB hb qa0; have BK102 := qO (hbox); have GW102 := qO ((qa3 : w.heap.size ≤ gb102)); have GE102 := GW102; have NB101_102 := qO ((qLt hg (qk BK101.out))); have NB102_101 := qO (Ne.symm NB101_102.out); replace BK101 := qO (qB BK101.out hx_ hb); replace HB := qO (below_step (below_step HB.out hx_) hb); clear hx_ hb hbox hg; have hnb50 := NB101_102.out; have hnc50 := NB102_101.out; have hcz51_0 := qc0 BK101.out; have hcz51_1 := qc1 BK101.out; have hcz51_2 := qc2 BK101.out; have hcz51_3 := qc3 BK101.out; have hcz51_4 := qc4 BK101.out; have hcz51_5 := qc5 BK101.out; have hcz51_6 : w49.cell? ⟨gb101, 6, none⟩ = some (.slice A0_6 l0_6.length c0_6) := (blk_cell BK101.out 6).trans rfl; have hcz51_7 : w49.cell? ⟨gb101, 7, none⟩ = some (.string a0_7) := (blk_cell BK101.out 7).trans rfl; have hfz51_0 := blk_frozen BK101.out 0; have hfz51_1 := blk_frozen BK101.out 1; have hfz51_2 := blk_frozen BK101.out 2; have hfz51_3 := blk_frozen BK101.out 3; have hfz51_4 := blk_frozen BK101.out 4; have hfz51_5 := blk_frozen BK101.out 5; have hfz51_6 := blk_frozen BK101.out 6; have hfz51_7 := blk_frozen BK101.out 7; have hcz52_0 := qc0 BK102.out; have hcz52_1 := qc1 BK102.out; have hcz52_2 := qc2 BK102.out; have hcz52_3 := qc3 BK102.out; have hcz52_4 := qc4 BK102.out; have hcz52_5 := qc5 BK102.out; have hcz52_6 : w49.cell? ⟨gb102, 6, none⟩ = some (.slice A1_6 l1_6.length c1_6) := (blk_cell BK102.out 6).trans rfl; have hcz52_7 : w49.cell? ⟨gb102, 7, none⟩ = some (.string a1_7) := (blk_cell BK102.out 7).trans rfl; have hfz52_0 := blk_frozen BK102.out 0; have hfz52_1 := blk_frozen BK102.out 1; have hfz52_2 := blk_frozen BK102.out 2; have hfz52_3 := blk_frozen BK102.out 3; have hfz52_4 := blk_frozen BK102.out 4; have hfz52_5 := blk_frozen BK102.out 5; have hfz52_6 := blk_frozen BK102.out 6; have hfz52_7 := blk_frozen BK102.out 7))
   go_ret
   exact ⟨qa1, qH HB.out⟩
 ·rw [if_neg c3] at H
  have c3b0 := beq_eq_false_iff_ne.mpr c3; have c3b1 := bne_iff_ne.mpr c3; obtain rfl := Option.some.inj H
  go_enter Try.func74, Try.ntmps74
  go_wp2_with (first | ((with_reducible refine gate_dst (N := 2) rfl ?_); refine qX 2 #[.int .i64 a0_0, .int .i64 a0_1, .int .i64 a0_2, .int .i64 a0_3, .bool a0_4, .slice A0_5 l0_5.length c0_5, .slice A0_6 l0_6.length c0_6, .string a0_7] 115 ?_; intro gb101 hg w53 hbox hb; have hx_ := qHX HB hb qa0; have BK101 := qO (hbox); have GW101 := qO ((qa3 : w.heap.size ≤ gb101)); have GE101 := GW101; replace HB := qO (below_step (below_step HB.out hx_) hb); clear hx_ hb hbox hg) | ((with_reducible refine gate_dst (N := 3) rfl ?_); refine qX 3 #[.int .i64 a1_0, .int .i64 a1_1, .int .i64 a1_2, .int .i64 a1_3, .bool a1_4, .slice A1_5 l1_5.length c1_5, .slice A1_6 l1_6.length c1_6, .string a1_7] 115 ?_; intro gb102 hg w54 hbox hb; have hx_ := qHX HB hb qa0; have BK102 := qO (hbox); have GW102 := qO ((qa3 : w.heap.size ≤ gb102)); have GE102 := GW102; have NB101_102 := qO ((qLt hg (qk BK101.out))); have NB102_101 := qO (Ne.symm NB101_102.out); replace BK101 := qO (qB BK101.out hx_ hb); replace HB := qO (below_step (below_step HB.out hx_) hb); clear hx_ hb hbox hg; have hnb55 := NB101_102.out; have hnc55 := NB102_101.out; have hcz56_0 := qc0 BK101.out; have hcz56_1 := qc1 BK101.out; have hcz56_2 := qc2 BK101.out; have hcz56_3 := qc3 BK101.out; have hcz56_4 := qc4 BK101.out; have hcz56_5 := qc5 BK101.out; have hcz56_6 : w54.cell? ⟨gb101, 6, none⟩ = some (.slice A0_6 l0_6.length c0_6) := (blk_cell BK101.out 6).trans rfl; have hcz56_7 : w54.cell? ⟨gb101, 7, none⟩ = some (.string a0_7) := (blk_cell BK101.out 7).trans rfl; have hfz56_0 := blk_frozen BK101.out 0; have hfz56_1 := blk_frozen BK101.out 1; have hfz56_2 := blk_frozen BK101.out 2; have hfz56_3 := blk_frozen BK101.out 3; have hfz56_4 := blk_frozen BK101.out 4; have hfz56_5 := blk_frozen BK101.out 5; have hfz56_6 := blk_frozen BK101.out 6; have hfz56_7 := blk_frozen BK101.out 7; have hcz57_0 := qc0 BK102.out; have hcz57_1 := qc1 BK102.out; have hcz57_2 := qc2 BK102.out; have hcz57_3 := qc3 BK102.out; have hcz57_4 := qc4 BK102.out; have hcz57_5 := qc5 BK102.out; have hcz57_6 : w54.cell? ⟨gb102, 6, none⟩ = some (.slice A1_6 l1_6.length c1_6) := (blk_cell BK102.out 6).trans rfl; have hcz57_7 : w54.cell? ⟨gb102, 7, none⟩ = some (.string a1_7) := (blk_cell BK102.out 7).trans rfl; have hfz57_0 := blk_frozen BK102.out 0; have hfz57_1 := blk_frozen BK102.out 1; have hfz57_2 := blk_frozen BK102.out 2; have hfz57_3 := blk_frozen BK102.out 3; have hfz57_4 := blk_frozen BK102.out 4; have hfz57_5 := blk_frozen BK102.out 5; have hfz57_6 := blk_frozen BK102.out 6; have hfz57_7 := blk_frozen BK102.out 7))
  go_ret
  exact ⟨qa1, qH HB.out⟩
set_option maxHeartbeats 8000000
set_option maxRecDepth 100000
def laws_eqDoneS.l0 : Nat → List (S115) → List (S115) → Int → Option (Bool)
 | 0, _, _, _ => none
 | k + 1, x0, x1, x5 => if x5 < (x0.length : Int) then (if 0 ≤ x5 then (if x5 < (x1.length : Int) then ((laws_eqDone.f k ((rd_T115 x0 x5).f0) ((rd_T115 x0 x5).f1) ((rd_T115 x0 x5).f2) ((rd_T115 x0 x5).f3) ((rd_T115 x0 x5).f4) ((rd_T115 x0 x5).f5.f0.f0) ((rd_T115 x0 x5).f5.f1) ((rd_T115 x0 x5).f6) ((rd_T115 x1 x5).f0) ((rd_T115 x1 x5).f1) ((rd_T115 x1 x5).f2) ((rd_T115 x1 x5).f3) ((rd_T115 x1 x5).f4) ((rd_T115 x1 x5).f5.f0.f0) ((rd_T115 x1 x5).f5.f1) ((rd_T115 x1 x5).f6)).bind fun t103 => (if t103 = true then (laws_eqDoneS.l0 k x0 x1 (wrap64 (x5 + 1))) else (some false))) else (none)) else (none)) else (some true)
def laws_eqDoneS.f (k : Nat) (l0 : List (S115)) (l1 : List (S115)) : Option (Bool) := if (l0.length : Int) = (l1.length : Int) then (laws_eqDoneS.l0 k l0 l1 0) else (some false)
def laws_eqDoneS.T6 : Bool × List (List Nat × List Nat) := (true, [([], []), ([], []), ([0, 1], [0, 1]), ([2], [2]), ([], []), ([], []), ([4, 5], [4, 5]), ([6], [6]), ([3, 7], [3, 7]), ([8], [8])])
def laws_eqDoneS.B6 : List Nat := [0, 0, 3, 7, 0, 0, 48, 112, 255, 511]
theorem laws_eqDoneS.tab6 : rtab .any (opsOf Try.f33 6) = laws_eqDoneS.T6 := by kernel_rfl
theorem laws_eqDoneS.bits6 : waitsOk laws_eqDoneS.T6.2 laws_eqDoneS.B6 = true := by kernel_rfl
def z33_0 := #[qf,qf,qf,qf,qf,qf,qf,qf,qf,qf]
def z33_1 := #[qt,qf,qf,qf,qf,qf,qf,qf,qf,qf]
def z33_2 := #[qt,qt,qf,qf,qf,qf,qf,qf,qf,qf]
def z33_3 := #[qt,qt,qt,qf,qf,qf,qf,qf,qf,qf]
def z33_4 := #[qt,qt,qt,qf,qt,qf,qf,qf,qf,qf]
def z33_5 := #[qt,qt,qt,qf,qt,qt,qf,qf,qf,qf]
def z33_6 := #[qt,qt,qt,qf,qt,qt,qt,qf,qf,qf]
def z33_7 := #[qt,qt,qt,qt,qt,qt,qt,qf,qf,qf]
def z33_8 := #[qt,qt,qt,qt,qt,qt,qt,qt,qf,qf]
def z33_9 := #[qt,qt,qt,qt,qt,qt,qt,qt,qt,qf]
def z33_10 := #[qt,qt,qt,qt,qt,qt,qt,qt,qt,qt]
theorem laws_eqDoneS.calls (k : Nat) (A0 : Option Addr) (c0 : Nat) (l0 : List (S115)) (A1 : Option Addr) (c1 : Nat) (l1 : List (S115)) (r : Bool) (w : World) (hr0 : Kd.C k115 w A0 l0.length l0) (hc0 : l0.length ≤ c0) (hr1 : Kd.C k115 w A1 l1.length l1) (hc1 : l1.length ≤ c1) (h : laws_eqDoneS.f k l0 l1 = some r) :
  Calls Try.prog 33 #[.slice A0 l0.length c0, .slice A1 l1.length c1] w fun e w' => e = .returned (.bool r) ∧ Below w.heap.size w w' := by
 have hu115 := Try.underlying115; have HR0 := qO hr0; have HC0 := qO hc0; clear hr0 hc0; have HR1 := qO hr1; have HC1 := qO hc1; clear hr1 hc1; have HB := qO (Below.refl w.heap.size w); have H : (if (l0.length : Int) = (l1.length : Int) then (laws_eqDoneS.l0 k l0 l1 0) else (some false)) = some r := h; clear h
 by_cases c3 : (l0.length : Int) = (l1.length : Int)
 ·rw [if_pos c3] at H
  have c3b0 := beq_iff_eq.mpr c3; have c3b1 := bne_eq_false_iff_eq.mpr c3; have c3b2 : (l0.length == l1.length) = true := by first | simpa using c3 | (simp at c3 ⊢; omega)
  clear c3; have H' := qO H; clear H
  go_enter Try.func33, Try.ntmps33
  go_wp2
  go_loopg [5] k (fun kq v5 w' => ∃ (x5_1 : Int), v5 = .int .i64 x5_1 ∧ Aside0 (laws_eqDoneS.l0 kq l0 l1 x5_1 = some r) ∧ Aside0 (kq ≤ k) ∧ Aside0 (Below w.heap.size w w'))
  case atStart => exact ⟨(0), qa4, H', ⟨Nat.le_refl _⟩, ⟨qH HB.out⟩⟩
  case round =>
   clear H'
   obtain ⟨x5_1, rfl, HA, HK1, HB⟩ := hrel
   cases gk with
   | zero => exact absurd HA.out (by simp [laws_eqDoneS.l0])
   | succ k1 =>
    have H := HA.out; clear HA; simp only [laws_eqDoneS.l0] at H
    by_cases c4 : x5_1 < (l0.length : Int)
    ·rw [if_pos c4] at H
     have c4b0 := decide_eq_true c4; clear c4
     by_cases c5 : 0 ≤ x5_1
     ·rw [if_pos c5] at H
      have c5b0 := decide_eq_true c5; clear c5
      by_cases c6 : x5_1 < (l1.length : Int)
      ·rw [if_pos c6] at H
       have c6b0 := decide_eq_true c6; clear c6; replace H := Option.bind_eq_some_iff.mp H; obtain ⟨t103, A70, H⟩ := H; have A7 := qO A70; clear A70
       by_cases c8 : t103 = true
       ·subst c8
        rw [if_pos rfl] at H; have H' := qO H; clear H
        try go_wp2
        replace HB := qO (qbD HB.out); have p101 : 0 ≤ (x5_1 : Int) := qT qa2; have q101 : x5_1 < (l0.length : Int) := qT qa2; obtain ⟨ad101, A101_5, c101_5, A101_6, c101_6, e101, hx101_0, hx101_1, hx101_2, hx101_3, hx101_4, hx101_5, hx101_6, hx101_7, hl101_5, hi101_5, hl101_6, hi101_6⟩ := at_T115 HR0.out x5_1 p101 q101; have hw101_7 := hx101_7; have hw101_6 := hx101_6; have hw101_5 := hx101_5; have hw101_4 := hx101_4; have hw101_3 := hx101_3; have hw101_2 := hx101_2; have hw101_1 := hx101_1; have hw101_0 := hx101_0
        cases e101
        replace hx101_0 := (HB.out.cell (qL w _ hx101_0)).trans hx101_0; replace hx101_1 := (HB.out.cell (qL w _ hx101_1)).trans hx101_1; replace hx101_2 := (HB.out.cell (qL w _ hx101_2)).trans hx101_2; replace hx101_3 := (HB.out.cell (qL w _ hx101_3)).trans hx101_3; replace hx101_4 := (HB.out.cell (qL w _ hx101_4)).trans hx101_4; replace hx101_5 := (HB.out.cell (qL w _ hx101_5)).trans hx101_5; replace hx101_6 := (HB.out.cell (qL w _ hx101_6)).trans hx101_6; replace hx101_7 := (HB.out.cell (qL w _ hx101_7)).trans hx101_7; have HR101_5 := qO hi101_5; have HC101_5 := qO hl101_5; clear hi101_5 hl101_5; have HR101_6 := qO hi101_6; have HC101_6 := qO hl101_6; clear hi101_6 hl101_6; replace p101 := eq_true p101; replace q101 := eq_true q101; have p102 : 0 ≤ (x5_1 : Int) := qT qa2; have q102 : x5_1 < (l1.length : Int) := qT qa2; obtain ⟨ad102, A102_5, c102_5, A102_6, c102_6, e102, hx102_0, hx102_1, hx102_2, hx102_3, hx102_4, hx102_5, hx102_6, hx102_7, hl102_5, hi102_5, hl102_6, hi102_6⟩ := at_T115 HR1.out x5_1 p102 q102; have hw102_7 := hx102_7; have hw102_6 := hx102_6; have hw102_5 := hx102_5; have hw102_4 := hx102_4; have hw102_3 := hx102_3; have hw102_2 := hx102_2; have hw102_1 := hx102_1; have hw102_0 := hx102_0
        cases e102
        replace hx102_0 := (HB.out.cell (qL w _ hx102_0)).trans hx102_0; replace hx102_1 := (HB.out.cell (qL w _ hx102_1)).trans hx102_1; replace hx102_2 := (HB.out.cell (qL w _ hx102_2)).trans hx102_2; replace hx102_3 := (HB.out.cell (qL w _ hx102_3)).trans hx102_3; replace hx102_4 := (HB.out.cell (qL w _ hx102_4)).trans hx102_4; replace hx102_5 := (HB.out.cell (qL w _ hx102_5)).trans hx102_5; replace hx102_6 := (HB.out.cell (qL w _ hx102_6)).trans hx102_6; replace hx102_7 := (HB.out.cell (qL w _ hx102_7)).trans hx102_7; have HR102_5 := qO hi102_5; have HC102_5 := qO hl102_5; clear hi102_5 hl102_5; have HR102_6 := qO hi102_6; have HC102_6 := qO hl102_6; clear hi102_6 hl102_6; replace p102 := eq_true p102; replace q102 := eq_true q102; refine start_ (n := 10) (S := fun w' => w'.cell? (ad101.add ((x5_1).toNat * 8)) = some (.int .i64 ((rd_T115 l0 x5_1).f0)) ∧ w'.cell? ⟨(ad101.add ((x5_1).toNat * 8)).block, (ad101.add ((x5_1).toNat * 8)).off + 1, none⟩ = some (.int .i64 ((rd_T115 l0 x5_1).f1)) ∧ w'.cell? ⟨(ad101.add ((x5_1).toNat * 8)).block, (ad101.add ((x5_1).toNat * 8)).off + 2, none⟩ = some (.int .i64 ((rd_T115 l0 x5_1).f2)) ∧ w'.cell? ⟨(ad101.add ((x5_1).toNat * 8)).block, (ad101.add ((x5_1).toNat * 8)).off + 3, none⟩ = some (.int .i64 ((rd_T115 l0 x5_1).f3)) ∧ w'.cell? ⟨(ad101.add ((x5_1).toNat * 8)).block, (ad101.add ((x5_1).toNat * 8)).off + 4, none⟩ = some (.bool ((rd_T115 l0 x5_1).f4)) ∧ w'.cell? ⟨(ad101.add ((x5_1).toNat * 8)).block, (ad101.add ((x5_1).toNat * 8)).off + 5, none⟩ = some (.slice A101_5 ((rd_T115 l0 x5_1).f5.f0.f0).length c101_5) ∧ w'.cell? ⟨(ad101.add ((x5_1).toNat * 8)).block, (ad101.add ((x5_1).toNat * 8)).off + 6, none⟩ = some (.slice A101_6 ((rd_T115 l0 x5_1).f5.f1).length c101_6) ∧ w'.cell? ⟨(ad101.add ((x5_1).toNat * 8)).block, (ad101.add ((x5_1).toNat * 8)).off + 7, none⟩ = some (.string ((rd_T115 l0 x5_1).f6)) ∧ w'.cell? (ad102.add ((x5_1).toNat * 8)) = some (.int .i64 ((rd_T115 l1 x5_1).f0)) ∧ w'.cell? ⟨(ad102.add ((x5_1).toNat * 8)).block, (ad102.add ((x5_1).toNat * 8)).off + 1, none⟩ = some (.int .i64 ((rd_T115 l1 x5_1).f1)) ∧ w'.cell? ⟨(ad102.add ((x5_1).toNat * 8)).block, (ad102.add ((x5_1).toNat * 8)).off + 2, none⟩ = some (.int .i64 ((rd_T115 l1 x5_1).f2)) ∧ w'.cell? ⟨(ad102.add ((x5_1).toNat * 8)).block, (ad102.add ((x5_1).toNat * 8)).off + 3, none⟩ = some (.int .i64 ((rd_T115 l1 x5_1).f3)) ∧ w'.cell? ⟨(ad102.add ((x5_1).toNat * 8)).block, (ad102.add ((x5_1).toNat * 8)).off + 4, none⟩ = some (.bool ((rd_T115 l1 x5_1).f4)) ∧ w'.cell? ⟨(ad102.add ((x5_1).toNat * 8)).block, (ad102.add ((x5_1).toNat * 8)).off + 5, none⟩ = some (.slice A102_5 ((rd_T115 l1 x5_1).f5.f0.f0).length c102_5) ∧ w'.cell? ⟨(ad102.add ((x5_1).toNat * 8)).block, (ad102.add ((x5_1).toNat * 8)).off + 6, none⟩ = some (.slice A102_6 ((rd_T115 l1 x5_1).f5.f1).length c102_6) ∧ w'.cell? ⟨(ad102.add ((x5_1).toNat * 8)).block, (ad102.add ((x5_1).toNat * 8)).off + 7, none⟩ = some (.string ((rd_T115 l1 x5_1).f6))) (ds := []) z33_0 qa8 rfl rfl ⟨((HB.out.cell (qL w _ hw101_0)).trans hw101_0), ((HB.out.cell (qL w _ hw101_1)).trans hw101_1), ((HB.out.cell (qL w _ hw101_2)).trans hw101_2), ((HB.out.cell (qL w _ hw101_3)).trans hw101_3), ((HB.out.cell (qL w _ hw101_4)).trans hw101_4), ((HB.out.cell (qL w _ hw101_5)).trans hw101_5), ((HB.out.cell (qL w _ hw101_6)).trans hw101_6), ((HB.out.cell (qL w _ hw101_7)).trans hw101_7), ((HB.out.cell (qL w _ hw102_0)).trans hw102_0), ((HB.out.cell (qL w _ hw102_1)).trans hw102_1), ((HB.out.cell (qL w _ hw102_2)).trans hw102_2), ((HB.out.cell (qL w _ hw102_3)).trans hw102_3), ((HB.out.cell (qL w _ hw102_4)).trans hw102_4), ((HB.out.cell (qL w _ hw102_5)).trans hw102_5), ((HB.out.cell (qL w _ hw102_6)).trans hw102_6), ((HB.out.cell (qL w _ hw102_7)).trans hw102_7)⟩ (fun hHeld => ?_); refine with_tabW laws_eqDoneS.tab6 laws_eqDoneS.bits6 (fun HT_ HW_ => ?_); generalize wr.drew = w9 at HB HR101_5 HR101_6 HR102_5 HR102_6 hx101_0 hx101_1 hx101_2 hx101_3 hx101_4 hx101_5 hx101_6 hx101_7 hx102_0 hx102_1 hx102_2 hx102_3 hx102_4 hx102_5 hx102_6 hx102_7 hHeld ⊢; refine qP 0 17 z33_1 ?_; refine qP 1 18 z33_2 ?_; refine qP 2 19 z33_3 ?_; refine qP 4 21 z33_4 ?_; refine qP 5 22 z33_5 ?_; refine qP 6 23 z33_6 ?_; refine qK16 3 20 z33_7 ?_; refine qK16 7 24 z33_8 ?_; refine qOn 8 (some 25) z33_9 fun K hK => ?_; refine qGo Try.func74 #[.agg #[.int .i64 ((rd_T115 l0 x5_1).f0), .int .i64 ((rd_T115 l0 x5_1).f1), .int .i64 ((rd_T115 l0 x5_1).f2), .int .i64 ((rd_T115 l0 x5_1).f3), .bool ((rd_T115 l0 x5_1).f4), .slice A101_5 ((rd_T115 l0 x5_1).f5.f0.f0).length c101_5, .slice A101_6 ((rd_T115 l0 x5_1).f5.f1).length c101_6, .string ((rd_T115 l0 x5_1).f6)], .agg #[.int .i64 ((rd_T115 l1 x5_1).f0), .int .i64 ((rd_T115 l1 x5_1).f1), .int .i64 ((rd_T115 l1 x5_1).f2), .int .i64 ((rd_T115 l1 x5_1).f3), .bool ((rd_T115 l1 x5_1).f4), .slice A102_5 ((rd_T115 l1 x5_1).f5.f0.f0).length c102_5, .slice A102_6 ((rd_T115 l1 x5_1).f5.f1).length c102_6, .string ((rd_T115 l1 x5_1).f6)]] ?_; (with_reducible refine (laws_eqDone.calls k1 ((rd_T115 l0 x5_1).f0) ((rd_T115 l0 x5_1).f1) ((rd_T115 l0 x5_1).f2) ((rd_T115 l0 x5_1).f3) ((rd_T115 l0 x5_1).f4) _ _ ((rd_T115 l0 x5_1).f5.f0.f0) _ _ ((rd_T115 l0 x5_1).f5.f1) ((rd_T115 l0 x5_1).f6) ((rd_T115 l1 x5_1).f0) ((rd_T115 l1 x5_1).f1) ((rd_T115 l1 x5_1).f2) ((rd_T115 l1 x5_1).f3) ((rd_T115 l1 x5_1).f4) _ _ ((rd_T115 l1 x5_1).f5.f0.f0) _ _ ((rd_T115 l1 x5_1).f5.f1) ((rd_T115 l1 x5_1).f6) true _ ?side1 ?side2 ?side3 ?side4 ?side5 ?side6 ?side7 ?side8 A7.out).mono ?_); (case side1 => exact qa32); (case side2 => exact HC101_5.out); (case side3 => exact qa57); (case side4 => exact HC101_6.out); (case side5 => exact qa59); (case side6 => exact HC102_5.out); (case side7 => exact qkC (Kd.C_below HR102_6.out HB.out)); (case side8 => exact HC102_6.out); rintro e w10 ⟨rfl, hb⟩; have hx_ := qHX HB hb qa0; refine ⟨_, rfl, ?_⟩; replace HB := qO (below_step (below_step HB.out hx_) hb); clear hx_ hb; refine hK.out _ _ ⟨((HB.out.cell (qL w _ hw101_0)).trans hw101_0), ((HB.out.cell (qL w _ hw101_1)).trans hw101_1), ((HB.out.cell (qL w _ hw101_2)).trans hw101_2), ((HB.out.cell (qL w _ hw101_3)).trans hw101_3), ((HB.out.cell (qL w _ hw101_4)).trans hw101_4), ((HB.out.cell (qL w _ hw101_5)).trans hw101_5), ((HB.out.cell (qL w _ hw101_6)).trans hw101_6), ((HB.out.cell (qL w _ hw101_7)).trans hw101_7), ((HB.out.cell (qL w _ hw102_0)).trans hw102_0), ((HB.out.cell (qL w _ hw102_1)).trans hw102_1), ((HB.out.cell (qL w _ hw102_2)).trans hw102_2), ((HB.out.cell (qL w _ hw102_3)).trans hw102_3), ((HB.out.cell (qL w _ hw102_4)).trans hw102_4), ((HB.out.cell (qL w _ hw102_5)).trans hw102_5), ((HB.out.cell (qL w _ hw102_6)).trans hw102_6), ((HB.out.cell (qL w _ hw102_7)).trans hw102_7)⟩ (fun hHeld => ?_); clear hK K; refine qNm ?_; refine qP 9 26 z33_10 ?_; refine done_ (done_of HT_.out qa8) ?_
        try go_wp2
        go_roundg k1
        case measure => have := HK1.out; omega
        case rel => exact ⟨(wrap64 (x5_1 + 1)), qa4, H', ⟨qa9⟩, ⟨qH HB.out⟩⟩
       ·replace c8 := Bool.eq_false_iff.mpr c8
        subst c8; rw [qfn] at H; obtain rfl := Option.some.inj H
        try go_wp2
        replace HB := qO (qbD HB.out); have p101 : 0 ≤ (x5_1 : Int) := qT qa2; have q101 : x5_1 < (l0.length : Int) := qT qa2; obtain ⟨ad101, A101_5, c101_5, A101_6, c101_6, e101, hx101_0, hx101_1, hx101_2, hx101_3, hx101_4, hx101_5, hx101_6, hx101_7, hl101_5, hi101_5, hl101_6, hi101_6⟩ := at_T115 HR0.out x5_1 p101 q101; have hw101_7 := hx101_7; have hw101_6 := hx101_6; have hw101_5 := hx101_5; have hw101_4 := hx101_4; have hw101_3 := hx101_3; have hw101_2 := hx101_2; have hw101_1 := hx101_1; have hw101_0 := hx101_0
        cases e101
        replace hx101_0 := (HB.out.cell (qL w _ hx101_0)).trans hx101_0; replace hx101_1 := (HB.out.cell (qL w _ hx101_1)).trans hx101_1; replace hx101_2 := (HB.out.cell (qL w _ hx101_2)).trans hx101_2; replace hx101_3 := (HB.out.cell (qL w _ hx101_3)).trans hx101_3; replace hx101_4 := (HB.out.cell (qL w _ hx101_4)).trans hx101_4; replace hx101_5 := (HB.out.cell (qL w _ hx101_5)).trans hx101_5; replace hx101_6 := (HB.out.cell (qL w _ hx101_6)).trans hx101_6; replace hx101_7 := (HB.out.cell (qL w _ hx101_7)).trans hx101_7; have HR101_5 := qO hi101_5; have HC101_5 := qO hl101_5; clear hi101_5 hl101_5; have HR101_6 := qO hi101_6; have HC101_6 := qO hl101_6; clear hi101_6 hl101_6; replace p101 := eq_true p101; replace q101 := eq_true q101; have p102 : 0 ≤ (x5_1 : Int) := qT qa2; have q102 : x5_1 < (l1.length : Int) := qT qa2; obtain ⟨ad102, A102_5, c102_5, A102_6, c102_6, e102, hx102_0, hx102_1, hx102_2, hx102_3, hx102_4, hx102_5, hx102_6, hx102_7, hl102_5, hi102_5, hl102_6, hi102_6⟩ := at_T115 HR1.out x5_1 p102 q102; have hw102_7 := hx102_7; have hw102_6 := hx102_6; have hw102_5 := hx102_5; have hw102_4 := hx102_4; have hw102_3 := hx102_3; have hw102_2 := hx102_2; have hw102_1 := hx102_1; have hw102_0 := hx102_0
        cases e102
        replace hx102_0 := (HB.out.cell (qL w _ hx102_0)).trans hx102_0; replace hx102_1 := (HB.out.cell (qL w _ hx102_1)).trans hx102_1; replace hx102_2 := (HB.out.cell (qL w _ hx102_2)).trans hx102_2; replace hx102_3 := (HB.out.cell (qL w _ hx102_3)).trans hx102_3; replace hx102_4 := (HB.out.cell (qL w _ hx102_4)).trans hx102_4; replace hx102_5 := (HB.out.cell (qL w _ hx102_5)).trans hx102_5; replace hx102_6 := (HB.out.cell (qL w _ hx102_6)).trans hx102_6; replace hx102_7 := (HB.out.cell (qL w _ hx102_7)).trans hx102_7; have HR102_5 := qO hi102_5; have HC102_5 := qO hl102_5; clear hi102_5 hl102_5; have HR102_6 := qO hi102_6; have HC102_6 := qO hl102_6; clear hi102_6 hl102_6; replace p102 := eq_true p102; replace q102 := eq_true q102; refine start_ (n := 10) (S := fun w' => w'.cell? (ad101.add ((x5_1).toNat * 8)) = some (.int .i64 ((rd_T115 l0 x5_1).f0)) ∧ w'.cell? ⟨(ad101.add ((x5_1).toNat * 8)).block, (ad101.add ((x5_1).toNat * 8)).off + 1, none⟩ = some (.int .i64 ((rd_T115 l0 x5_1).f1)) ∧ w'.cell? ⟨(ad101.add ((x5_1).toNat * 8)).block, (ad101.add ((x5_1).toNat * 8)).off + 2, none⟩ = some (.int .i64 ((rd_T115 l0 x5_1).f2)) ∧ w'.cell? ⟨(ad101.add ((x5_1).toNat * 8)).block, (ad101.add ((x5_1).toNat * 8)).off + 3, none⟩ = some (.int .i64 ((rd_T115 l0 x5_1).f3)) ∧ w'.cell? ⟨(ad101.add ((x5_1).toNat * 8)).block, (ad101.add ((x5_1).toNat * 8)).off + 4, none⟩ = some (.bool ((rd_T115 l0 x5_1).f4)) ∧ w'.cell? ⟨(ad101.add ((x5_1).toNat * 8)).block, (ad101.add ((x5_1).toNat * 8)).off + 5, none⟩ = some (.slice A101_5 ((rd_T115 l0 x5_1).f5.f0.f0).length c101_5) ∧ w'.cell? ⟨(ad101.add ((x5_1).toNat * 8)).block, (ad101.add ((x5_1).toNat * 8)).off + 6, none⟩ = some (.slice A101_6 ((rd_T115 l0 x5_1).f5.f1).length c101_6) ∧ w'.cell? ⟨(ad101.add ((x5_1).toNat * 8)).block, (ad101.add ((x5_1).toNat * 8)).off + 7, none⟩ = some (.string ((rd_T115 l0 x5_1).f6)) ∧ w'.cell? (ad102.add ((x5_1).toNat * 8)) = some (.int .i64 ((rd_T115 l1 x5_1).f0)) ∧ w'.cell? ⟨(ad102.add ((x5_1).toNat * 8)).block, (ad102.add ((x5_1).toNat * 8)).off + 1, none⟩ = some (.int .i64 ((rd_T115 l1 x5_1).f1)) ∧ w'.cell? ⟨(ad102.add ((x5_1).toNat * 8)).block, (ad102.add ((x5_1).toNat * 8)).off + 2, none⟩ = some (.int .i64 ((rd_T115 l1 x5_1).f2)) ∧ w'.cell? ⟨(ad102.add ((x5_1).toNat * 8)).block, (ad102.add ((x5_1).toNat * 8)).off + 3, none⟩ = some (.int .i64 ((rd_T115 l1 x5_1).f3)) ∧ w'.cell? ⟨(ad102.add ((x5_1).toNat * 8)).block, (ad102.add ((x5_1).toNat * 8)).off + 4, none⟩ = some (.bool ((rd_T115 l1 x5_1).f4)) ∧ w'.cell? ⟨(ad102.add ((x5_1).toNat * 8)).block, (ad102.add ((x5_1).toNat * 8)).off + 5, none⟩ = some (.slice A102_5 ((rd_T115 l1 x5_1).f5.f0.f0).length c102_5) ∧ w'.cell? ⟨(ad102.add ((x5_1).toNat * 8)).block, (ad102.add ((x5_1).toNat * 8)).off + 6, none⟩ = some (.slice A102_6 ((rd_T115 l1 x5_1).f5.f1).length c102_6) ∧ w'.cell? ⟨(ad102.add ((x5_1).toNat * 8)).block, (ad102.add ((x5_1).toNat * 8)).off + 7, none⟩ = some (.string ((rd_T115 l1 x5_1).f6))) (ds := []) z33_0 qa8 rfl rfl ⟨((HB.out.cell (qL w _ hw101_0)).trans hw101_0), ((HB.out.cell (qL w _ hw101_1)).trans hw101_1), ((HB.out.cell (qL w _ hw101_2)).trans hw101_2), ((HB.out.cell (qL w _ hw101_3)).trans hw101_3), ((HB.out.cell (qL w _ hw101_4)).trans hw101_4), ((HB.out.cell (qL w _ hw101_5)).trans hw101_5), ((HB.out.cell (qL w _ hw101_6)).trans hw101_6), ((HB.out.cell (qL w _ hw101_7)).trans hw101_7), ((HB.out.cell (qL w _ hw102_0)).trans hw102_0), ((HB.out.cell (qL w _ hw102_1)).trans hw102_1), ((HB.out.cell (qL w _ hw102_2)).trans hw102_2), ((HB.out.cell (qL w _ hw102_3)).trans hw102_3), ((HB.out.cell (qL w _ hw102_4)).trans hw102_4), ((HB.out.cell (qL w _ hw102_5)).trans hw102_5), ((HB.out.cell (qL w _ hw102_6)).trans hw102_6), ((HB.out.cell (qL w _ hw102_7)).trans hw102_7)⟩ (fun hHeld => ?_); refine with_tabW laws_eqDoneS.tab6 laws_eqDoneS.bits6 (fun HT_ HW_ => ?_); generalize wr.drew = w11 at HB HR101_5 HR101_6 HR102_5 HR102_6 hx101_0 hx101_1 hx101_2 hx101_3 hx101_4 hx101_5 hx101_6 hx101_7 hx102_0 hx102_1 hx102_2 hx102_3 hx102_4 hx102_5 hx102_6 hx102_7 hHeld ⊢; refine qP 0 17 z33_1 ?_; refine qP 1 18 z33_2 ?_; refine qP 2 19 z33_3 ?_; refine qP 4 21 z33_4 ?_; refine qP 5 22 z33_5 ?_; refine qP 6 23 z33_6 ?_; refine qK16 3 20 z33_7 ?_; refine qK16 7 24 z33_8 ?_; refine qOn 8 (some 25) z33_9 fun K hK => ?_; refine qGo Try.func74 #[.agg #[.int .i64 ((rd_T115 l0 x5_1).f0), .int .i64 ((rd_T115 l0 x5_1).f1), .int .i64 ((rd_T115 l0 x5_1).f2), .int .i64 ((rd_T115 l0 x5_1).f3), .bool ((rd_T115 l0 x5_1).f4), .slice A101_5 ((rd_T115 l0 x5_1).f5.f0.f0).length c101_5, .slice A101_6 ((rd_T115 l0 x5_1).f5.f1).length c101_6, .string ((rd_T115 l0 x5_1).f6)], .agg #[.int .i64 ((rd_T115 l1 x5_1).f0), .int .i64 ((rd_T115 l1 x5_1).f1), .int .i64 ((rd_T115 l1 x5_1).f2), .int .i64 ((rd_T115 l1 x5_1).f3), .bool ((rd_T115 l1 x5_1).f4), .slice A102_5 ((rd_T115 l1 x5_1).f5.f0.f0).length c102_5, .slice A102_6 ((rd_T115 l1 x5_1).f5.f1).length c102_6, .string ((rd_T115 l1 x5_1).f6)]] ?_; (with_reducible refine (laws_eqDone.calls k1 ((rd_T115 l0 x5_1).f0) ((rd_T115 l0 x5_1).f1) ((rd_T115 l0 x5_1).f2) ((rd_T115 l0 x5_1).f3) ((rd_T115 l0 x5_1).f4) _ _ ((rd_T115 l0 x5_1).f5.f0.f0) _ _ ((rd_T115 l0 x5_1).f5.f1) ((rd_T115 l0 x5_1).f6) ((rd_T115 l1 x5_1).f0) ((rd_T115 l1 x5_1).f1) ((rd_T115 l1 x5_1).f2) ((rd_T115 l1 x5_1).f3) ((rd_T115 l1 x5_1).f4) _ _ ((rd_T115 l1 x5_1).f5.f0.f0) _ _ ((rd_T115 l1 x5_1).f5.f1) ((rd_T115 l1 x5_1).f6) false _ ?side1 ?side2 ?side3 ?side4 ?side5 ?side6 ?side7 ?side8 A7.out).mono ?_); (case side1 => exact qa32); (case side2 => exact HC101_5.out); (case side3 => exact qa57); (case side4 => exact HC101_6.out); (case side5 => exact qa59); (case side6 => exact HC102_5.out); (case side7 => exact qkC (Kd.C_below HR102_6.out HB.out)); (case side8 => exact HC102_6.out); rintro e w12 ⟨rfl, hb⟩; have hx_ := qHX HB hb qa0; refine ⟨_, rfl, ?_⟩; replace HB := qO (below_step (below_step HB.out hx_) hb); clear hx_ hb; refine hK.out _ _ ⟨((HB.out.cell (qL w _ hw101_0)).trans hw101_0), ((HB.out.cell (qL w _ hw101_1)).trans hw101_1), ((HB.out.cell (qL w _ hw101_2)).trans hw101_2), ((HB.out.cell (qL w _ hw101_3)).trans hw101_3), ((HB.out.cell (qL w _ hw101_4)).trans hw101_4), ((HB.out.cell (qL w _ hw101_5)).trans hw101_5), ((HB.out.cell (qL w _ hw101_6)).trans hw101_6), ((HB.out.cell (qL w _ hw101_7)).trans hw101_7), ((HB.out.cell (qL w _ hw102_0)).trans hw102_0), ((HB.out.cell (qL w _ hw102_1)).trans hw102_1), ((HB.out.cell (qL w _ hw102_2)).trans hw102_2), ((HB.out.cell (qL w _ hw102_3)).trans hw102_3), ((HB.out.cell (qL w _ hw102_4)).trans hw102_4), ((HB.out.cell (qL w _ hw102_5)).trans hw102_5), ((HB.out.cell (qL w _ hw102_6)).trans hw102_6), ((HB.out.cell (qL w _ hw102_7)).trans hw102_7)⟩ (fun hHeld => ?_); clear hK K; refine qNm ?_; refine qP 9 26 z33_10 ?_; refine done_ (done_of HT_.out qa8) ?_
        try go_wp2
        go_ret
        exact ⟨qa1, qH HB.out⟩
      ·rw [if_neg c6] at H
       exact absurd H qa12
     ·rw [if_neg c5] at H
      exact absurd H qa12
    ·rw [if_neg c4] at H
     have c4b0 := decide_eq_false c4; clear c4; obtain rfl := Option.some.inj H; go_wp2
     go_ret
     exact ⟨qa1, qH HB.out⟩
 ·rw [if_neg c3] at H
  have c3b0 := beq_eq_false_iff_ne.mpr c3; have c3b1 := bne_iff_ne.mpr c3; have c3b2 : (l0.length == l1.length) = false := by first | simpa using c3 | (simp at c3 ⊢; omega)
  obtain rfl := Option.some.inj H
  go_enter Try.func33, Try.ntmps33
  go_wp2
  go_ret
  exact ⟨qa1, qH HB.out⟩
set_option maxHeartbeats 8000000
set_option maxRecDepth 100000
def spec_l01In.f (a0 : Int) (a1 : Int) (a2 : Int) : Option (Bool) := if a1 ≤ a0 then (some (decide (a0 ≤ a2))) else (some false)
theorem spec_l01In.calls (a0 : Int) (a1 : Int) (a2 : Int) (r : Bool) (w : World) (h : spec_l01In.f a0 a1 a2 = some r) :
  Calls Try.prog 94 #[.int .i64 a0, .int .i64 a1, .int .i64 a2] w fun e w' => e = .returned (.bool r) ∧ Drawn0 w w' := by
 have H : (if a1 ≤ a0 then (some (decide (a0 ≤ a2))) else (some false)) = some r := h; clear h
 by_cases c4 : a1 ≤ a0
 ·rw [if_pos c4] at H
  have c4b0 := decide_eq_true c4; clear c4; obtain rfl := Option.some.inj H
  go_enter Try.func94, Try.ntmps94
  go_wp2
  go_ret
  exact ⟨qa4, qa6⟩
 ·rw [if_neg c4] at H
  have c4b0 := decide_eq_false c4; clear c4; obtain rfl := Option.some.inj H
  go_enter Try.func94, Try.ntmps94
  go_wp2
  go_ret
  exact ⟨qa4, qa6⟩
set_option maxHeartbeats 8000000
set_option maxRecDepth 100000
def spec_l13OK.l0 : Nat → List (S115) → Int → Option (Bool)
 | 0, _, _ => none
 | k + 1, x0, x3 => if x3 < (x0.length : Int) then (if 0 ≤ x3 then ((spec_l01In.f ((rd_T115 x0 x3).f1) 0 19).bind fun t103 => (if t103 = true then ((spec_l01In.f ((rd_T115 x0 x3).f2) 0 100000).bind fun t104 => (if t104 = true then ((spec_l01In.f ((rd_T115 x0 x3).f3) 0 x3).bind fun t105 => (if t105 = true then (spec_l13OK.l0 k x0 (wrap64 (x3 + 1))) else (some false))) else (some false))) else (some false))) else (none)) else (some (decide ((x0.length : Int) ≤ 60)))
def spec_l13OK.f (k : Nat) (l0 : List (S115)) : Option (Bool) := spec_l13OK.l0 k l0 0
theorem spec_l13OK.calls (k : Nat) (A0 : Option Addr) (c0 : Nat) (l0 : List (S115)) (r : Bool) (w : World) (hr0 : Kd.C k115 w A0 l0.length l0) (hc0 : l0.length ≤ c0) (h : spec_l13OK.f k l0 = some r) :
  Calls Try.prog 69 #[.slice A0 l0.length c0] w fun e w' => e = .returned (.bool r) ∧ Below w.heap.size w w' := by
 have hu115 := Try.underlying115; have HR0 := qO hr0; have HC0 := qO hc0; clear hr0 hc0; have HB := qO (Below.refl w.heap.size w); have H : (spec_l13OK.l0 k l0 0) = some r := h; clear h; have H' := qO H; clear H
 go_enter Try.func69, Try.ntmps69
 go_wp2
 go_loopg [3] k (fun kq v3 w' => ∃ (x3_1 : Int), v3 = .int .i64 x3_1 ∧ Aside0 (spec_l13OK.l0 kq l0 x3_1 = some r) ∧ Aside0 (kq ≤ k) ∧ Aside0 (Below w.heap.size w w'))
 case atStart => exact ⟨(0), qa4, H', ⟨Nat.le_refl _⟩, ⟨qH HB.out⟩⟩
 case round =>
  clear H'; obtain ⟨x3_1, rfl, HA, HK1, HB⟩ := hrel
  cases gk with
  | zero => exact absurd HA.out (by simp [spec_l13OK.l0])
  | succ k1 =>
   have H := HA.out; clear HA; simp only [spec_l13OK.l0] at H
   by_cases c2 : x3_1 < (l0.length : Int)
   ·rw [if_pos c2] at H
    have c2b0 := decide_eq_true c2; clear c2
    by_cases c3 : 0 ≤ x3_1
    ·rw [if_pos c3] at H
     have c3b0 := decide_eq_true c3; clear c3; replace H := Option.bind_eq_some_iff.mp H; obtain ⟨t103, A40, H⟩ := H; have A4 := qO A40; clear A40
     by_cases c5 : t103 = true
     ·subst c5
      rw [if_pos rfl] at H; replace H := Option.bind_eq_some_iff.mp H; obtain ⟨t104, A60, H⟩ := H; have A6 := qO A60; clear A60
      by_cases c7 : t104 = true
      ·subst c7
       rw [if_pos rfl] at H; replace H := Option.bind_eq_some_iff.mp H; obtain ⟨t105, A80, H⟩ := H; have A8 := qO A80; clear A80
       by_cases c9 : t105 = true
       ·subst c9
        rw [if_pos rfl] at H; have H' := qO H; clear H; have p101 : 0 ≤ (x3_1 : Int) := qT qa2; have q101 : x3_1 < (l0.length : Int) := qT qa2; obtain ⟨ad101, A101_5, c101_5, A101_6, c101_6, e101, hx101_0, hx101_1, hx101_2, hx101_3, hx101_4, hx101_5, hx101_6, hx101_7, hl101_5, hi101_5, hl101_6, hi101_6⟩ := at_T115 HR0.out x3_1 p101 q101
        cases e101
        replace hx101_0 := (HB.out.cell (qL w _ hx101_0)).trans hx101_0; replace hx101_1 := (HB.out.cell (qL w _ hx101_1)).trans hx101_1; replace hx101_2 := (HB.out.cell (qL w _ hx101_2)).trans hx101_2; replace hx101_3 := (HB.out.cell (qL w _ hx101_3)).trans hx101_3; replace hx101_4 := (HB.out.cell (qL w _ hx101_4)).trans hx101_4; replace hx101_5 := (HB.out.cell (qL w _ hx101_5)).trans hx101_5; replace hx101_6 := (HB.out.cell (qL w _ hx101_6)).trans hx101_6; replace hx101_7 := (HB.out.cell (qL w _ hx101_7)).trans hx101_7; have HR101_5 := qO hi101_5; have HC101_5 := qO hl101_5; clear hi101_5 hl101_5; have HR101_6 := qO hi101_6; have HC101_6 := qO hl101_6; clear hi101_6 hl101_6; replace p101 := eq_true p101; replace q101 := eq_true q101
        go_wp2_with (first | ((with_reducible refine gate_dst (N := 4) rfl ?_); refine qX 4 #[.int .i64 0, .int .i64 0, .int .i64 0, .int .i64 0, .bool false, .slice none 0 0, .slice none 0 0, .string (⟨#[]⟩ : ByteArray)] 115 ?_; intro gb102 hg w10 hbox hb; have hx_ := qHX HB hb qa0; have BK102 := qO (hbox); have GW102 := qO ((qa3 : w.heap.size ≤ gb102)); have GE102 := GW102; replace HB := qO (below_step (below_step HB.out hx_) hb); clear hx_ hb hbox hg; have hcz11_0 := qc0 BK102.out; have hcz11_1 := qc1 BK102.out; have hcz11_2 := qc2 BK102.out; have hcz11_3 := qc3 BK102.out; have hcz11_4 := qc4 BK102.out; have hcz11_5 := qc5 BK102.out; have hcz11_6 : w10.cell? ⟨gb102, 6, none⟩ = some (.slice none 0 0) := (blk_cell BK102.out 6).trans rfl; have hcz11_7 : w10.cell? ⟨gb102, 7, none⟩ = some (.string (⟨#[]⟩ : ByteArray)) := (blk_cell BK102.out 7).trans rfl; have hfz11_0 := blk_frozen BK102.out 0; have hfz11_1 := blk_frozen BK102.out 1; have hfz11_2 := blk_frozen BK102.out 2; have hfz11_3 := blk_frozen BK102.out 3; have hfz11_4 := blk_frozen BK102.out 4; have hfz11_5 := blk_frozen BK102.out 5; have hfz11_6 := blk_frozen BK102.out 6; have hfz11_7 := blk_frozen BK102.out 7) | ((with_reducible refine gate_callee (f := 94) rfl ?_); refine qGL 17 Try.func94 #[.int .i64 ((rd_T115 l0 x3_1).f1), .int .i64 0, .int .i64 19] ?_; (with_reducible refine (spec_l01In.calls ((rd_T115 l0 x3_1).f1) 0 19 true _ A4.out).mono ?_); rintro e w' ⟨rfl, ⟨nd, rfl⟩⟩; refine ⟨_, rfl, ?_⟩) | (go_at_call 94; (with_reducible refine (spec_l01In.calls ((rd_T115 l0 x3_1).f2) 0 100000 true _ A6.out).mono ?_); rintro e w' ⟨rfl, ⟨nd, rfl⟩⟩) | (go_at_call 94; (with_reducible refine (spec_l01In.calls ((rd_T115 l0 x3_1).f3) 0 x3_1 true _ A8.out).mono ?_); rintro e w' ⟨rfl, ⟨nd, rfl⟩⟩))
        go_roundg k1
        case measure => have := HK1.out; omega
        case rel => exact ⟨(wrap64 (x3_1 + 1)), qa4, H', ⟨qa9⟩, ⟨qH HB.out⟩⟩
       ·replace c9 := Bool.eq_false_iff.mpr c9
        subst c9; rw [qfn] at H; obtain rfl := Option.some.inj H; have p101 : 0 ≤ (x3_1 : Int) := qT qa2; have q101 : x3_1 < (l0.length : Int) := qT qa2; obtain ⟨ad101, A101_5, c101_5, A101_6, c101_6, e101, hx101_0, hx101_1, hx101_2, hx101_3, hx101_4, hx101_5, hx101_6, hx101_7, hl101_5, hi101_5, hl101_6, hi101_6⟩ := at_T115 HR0.out x3_1 p101 q101
        cases e101
        replace hx101_0 := (HB.out.cell (qL w _ hx101_0)).trans hx101_0; replace hx101_1 := (HB.out.cell (qL w _ hx101_1)).trans hx101_1; replace hx101_2 := (HB.out.cell (qL w _ hx101_2)).trans hx101_2; replace hx101_3 := (HB.out.cell (qL w _ hx101_3)).trans hx101_3; replace hx101_4 := (HB.out.cell (qL w _ hx101_4)).trans hx101_4; replace hx101_5 := (HB.out.cell (qL w _ hx101_5)).trans hx101_5; replace hx101_6 := (HB.out.cell (qL w _ hx101_6)).trans hx101_6; replace hx101_7 := (HB.out.cell (qL w _ hx101_7)).trans hx101_7; have HR101_5 := qO hi101_5; have HC101_5 := qO hl101_5; clear hi101_5 hl101_5; have HR101_6 := qO hi101_6; have HC101_6 := qO hl101_6; clear hi101_6 hl101_6; replace p101 := eq_true p101; replace q101 := eq_true q101
        go_wp2_with (first | ((with_reducible refine gate_dst (N := 4) rfl ?_); refine qX 4 #[.int .i64 0, .int .i64 0, .int .i64 0, .int .i64 0, .bool false, .slice none 0 0, .slice none 0 0, .string (⟨#[]⟩ : ByteArray)] 115 ?_; intro gb102 hg w12 hbox hb; have hx_ := qHX HB hb qa0; have BK102 := qO (hbox); have GW102 := qO ((qa3 : w.heap.size ≤ gb102)); have GE102 := GW102; replace HB := qO (below_step (below_step HB.out hx_) hb); clear hx_ hb hbox hg; have hcz13_0 := qc0 BK102.out; have hcz13_1 := qc1 BK102.out; have hcz13_2 := qc2 BK102.out; have hcz13_3 := qc3 BK102.out; have hcz13_4 := qc4 BK102.out; have hcz13_5 := qc5 BK102.out; have hcz13_6 : w12.cell? ⟨gb102, 6, none⟩ = some (.slice none 0 0) := (blk_cell BK102.out 6).trans rfl; have hcz13_7 : w12.cell? ⟨gb102, 7, none⟩ = some (.string (⟨#[]⟩ : ByteArray)) := (blk_cell BK102.out 7).trans rfl; have hfz13_0 := blk_frozen BK102.out 0; have hfz13_1 := blk_frozen BK102.out 1; have hfz13_2 := blk_frozen BK102.out 2; have hfz13_3 := blk_frozen BK102.out 3; have hfz13_4 := blk_frozen BK102.out 4; have hfz13_5 := blk_frozen BK102.out 5; have hfz13_6 := blk_frozen BK102.out 6; have hfz13_7 := blk_frozen BK102.out 7) | ((with_reducible refine gate_callee (f := 94) rfl ?_); refine qGL 17 Try.func94 #[.int .i64 ((rd_T115 l0 x3_1).f1), .int .i64 0, .int .i64 19] ?_; (with_reducible refine (spec_l01In.calls ((rd_T115 l0 x3_1).f1) 0 19 true _ A4.out).mono ?_); rintro e w' ⟨rfl, ⟨nd, rfl⟩⟩; refine ⟨_, rfl, ?_⟩) | (go_at_call 94; (with_reducible refine (spec_l01In.calls ((rd_T115 l0 x3_1).f2) 0 100000 true _ A6.out).mono ?_); rintro e w' ⟨rfl, ⟨nd, rfl⟩⟩) | (go_at_call 94; (with_reducible refine (spec_l01In.calls ((rd_T115 l0 x3_1).f3) 0 x3_1 false _ A8.out).mono ?_); rintro e w' ⟨rfl, ⟨nd, rfl⟩⟩))
        go_ret
        exact ⟨qa1, qH HB.out⟩
      ·replace c7 := Bool.eq_false_iff.mpr c7
       subst c7; rw [qfn] at H; obtain rfl := Option.some.inj H; have p101 : 0 ≤ (x3_1 : Int) := qT qa2; have q101 : x3_1 < (l0.length : Int) := qT qa2; obtain ⟨ad101, A101_5, c101_5, A101_6, c101_6, e101, hx101_0, hx101_1, hx101_2, hx101_3, hx101_4, hx101_5, hx101_6, hx101_7, hl101_5, hi101_5, hl101_6, hi101_6⟩ := at_T115 HR0.out x3_1 p101 q101
       cases e101
       replace hx101_0 := (HB.out.cell (qL w _ hx101_0)).trans hx101_0; replace hx101_1 := (HB.out.cell (qL w _ hx101_1)).trans hx101_1; replace hx101_2 := (HB.out.cell (qL w _ hx101_2)).trans hx101_2; replace hx101_3 := (HB.out.cell (qL w _ hx101_3)).trans hx101_3; replace hx101_4 := (HB.out.cell (qL w _ hx101_4)).trans hx101_4; replace hx101_5 := (HB.out.cell (qL w _ hx101_5)).trans hx101_5; replace hx101_6 := (HB.out.cell (qL w _ hx101_6)).trans hx101_6; replace hx101_7 := (HB.out.cell (qL w _ hx101_7)).trans hx101_7; have HR101_5 := qO hi101_5; have HC101_5 := qO hl101_5; clear hi101_5 hl101_5; have HR101_6 := qO hi101_6; have HC101_6 := qO hl101_6; clear hi101_6 hl101_6; replace p101 := eq_true p101; replace q101 := eq_true q101
       go_wp2_with (first | ((with_reducible refine gate_dst (N := 4) rfl ?_); refine qX 4 #[.int .i64 0, .int .i64 0, .int .i64 0, .int .i64 0, .bool false, .slice none 0 0, .slice none 0 0, .string (⟨#[]⟩ : ByteArray)] 115 ?_; intro gb102 hg w14 hbox hb; have hx_ := qHX HB hb qa0; have BK102 := qO (hbox); have GW102 := qO ((qa3 : w.heap.size ≤ gb102)); have GE102 := GW102; replace HB := qO (below_step (below_step HB.out hx_) hb); clear hx_ hb hbox hg; have hcz15_0 := qc0 BK102.out; have hcz15_1 := qc1 BK102.out; have hcz15_2 := qc2 BK102.out; have hcz15_3 := qc3 BK102.out; have hcz15_4 := qc4 BK102.out; have hcz15_5 := qc5 BK102.out; have hcz15_6 : w14.cell? ⟨gb102, 6, none⟩ = some (.slice none 0 0) := (blk_cell BK102.out 6).trans rfl; have hcz15_7 : w14.cell? ⟨gb102, 7, none⟩ = some (.string (⟨#[]⟩ : ByteArray)) := (blk_cell BK102.out 7).trans rfl; have hfz15_0 := blk_frozen BK102.out 0; have hfz15_1 := blk_frozen BK102.out 1; have hfz15_2 := blk_frozen BK102.out 2; have hfz15_3 := blk_frozen BK102.out 3; have hfz15_4 := blk_frozen BK102.out 4; have hfz15_5 := blk_frozen BK102.out 5; have hfz15_6 := blk_frozen BK102.out 6; have hfz15_7 := blk_frozen BK102.out 7) | ((with_reducible refine gate_callee (f := 94) rfl ?_); refine qGL 17 Try.func94 #[.int .i64 ((rd_T115 l0 x3_1).f1), .int .i64 0, .int .i64 19] ?_; (with_reducible refine (spec_l01In.calls ((rd_T115 l0 x3_1).f1) 0 19 true _ A4.out).mono ?_); rintro e w' ⟨rfl, ⟨nd, rfl⟩⟩; refine ⟨_, rfl, ?_⟩) | (go_at_call 94; (with_reducible refine (spec_l01In.calls ((rd_T115 l0 x3_1).f2) 0 100000 false _ A6.out).mono ?_); rintro e w' ⟨rfl, ⟨nd, rfl⟩⟩))
       go_ret
       exact ⟨qa1, qH HB.out⟩
     ·replace c5 := Bool.eq_false_iff.mpr c5
      subst c5; rw [qfn] at H; obtain rfl := Option.some.inj H; have p101 : 0 ≤ (x3_1 : Int) := qT qa2; have q101 : x3_1 < (l0.length : Int) := qT qa2; obtain ⟨ad101, A101_5, c101_5, A101_6, c101_6, e101, hx101_0, hx101_1, hx101_2, hx101_3, hx101_4, hx101_5, hx101_6, hx101_7, hl101_5, hi101_5, hl101_6, hi101_6⟩ := at_T115 HR0.out x3_1 p101 q101
      cases e101
      replace hx101_0 := (HB.out.cell (qL w _ hx101_0)).trans hx101_0; replace hx101_1 := (HB.out.cell (qL w _ hx101_1)).trans hx101_1; replace hx101_2 := (HB.out.cell (qL w _ hx101_2)).trans hx101_2; replace hx101_3 := (HB.out.cell (qL w _ hx101_3)).trans hx101_3; replace hx101_4 := (HB.out.cell (qL w _ hx101_4)).trans hx101_4; replace hx101_5 := (HB.out.cell (qL w _ hx101_5)).trans hx101_5; replace hx101_6 := (HB.out.cell (qL w _ hx101_6)).trans hx101_6; replace hx101_7 := (HB.out.cell (qL w _ hx101_7)).trans hx101_7; have HR101_5 := qO hi101_5; have HC101_5 := qO hl101_5; clear hi101_5 hl101_5; have HR101_6 := qO hi101_6; have HC101_6 := qO hl101_6; clear hi101_6 hl101_6; replace p101 := eq_true p101; replace q101 := eq_true q101
      go_wp2_with (first | ((with_reducible refine gate_dst (N := 4) rfl ?_); refine qX 4 #[.int .i64 0, .int .i64 0, .int .i64 0, .int .i64 0, .bool false, .slice none 0 0, .slice none 0 0, .string (⟨#[]⟩ : ByteArray)] 115 ?_; intro gb102 hg w16 hbox hb; have hx_ := qHX HB hb qa0; have BK102 := qO (hbox); have GW102 := qO ((qa3 : w.heap.size ≤ gb102)); have GE102 := GW102; replace HB := qO (below_step (below_step HB.out hx_) hb); clear hx_ hb hbox hg; have hcz17_0 := qc0 BK102.out; have hcz17_1 := qc1 BK102.out; have hcz17_2 := qc2 BK102.out; have hcz17_3 := qc3 BK102.out; have hcz17_4 := qc4 BK102.out; have hcz17_5 := qc5 BK102.out; have hcz17_6 : w16.cell? ⟨gb102, 6, none⟩ = some (.slice none 0 0) := (blk_cell BK102.out 6).trans rfl; have hcz17_7 : w16.cell? ⟨gb102, 7, none⟩ = some (.string (⟨#[]⟩ : ByteArray)) := (blk_cell BK102.out 7).trans rfl; have hfz17_0 := blk_frozen BK102.out 0; have hfz17_1 := blk_frozen BK102.out 1; have hfz17_2 := blk_frozen BK102.out 2; have hfz17_3 := blk_frozen BK102.out 3; have hfz17_4 := blk_frozen BK102.out 4; have hfz17_5 := blk_frozen BK102.out 5; have hfz17_6 := blk_frozen BK102.out 6; have hfz17_7 := blk_frozen BK102.out 7) | ((with_reducible refine gate_callee (f := 94) rfl ?_); refine qGL 17 Try.func94 #[.int .i64 ((rd_T115 l0 x3_1).f1), .int .i64 0, .int .i64 19] ?_; (with_reducible refine (spec_l01In.calls ((rd_T115 l0 x3_1).f1) 0 19 false _ A4.out).mono ?_); rintro e w' ⟨rfl, ⟨nd, rfl⟩⟩; refine ⟨_, rfl, ?_⟩))
      go_ret
      exact ⟨qa1, qH HB.out⟩
    ·rw [if_neg c3] at H
     exact absurd H qa12
   ·rw [if_neg c2] at H
    have c2b0 := decide_eq_false c2; clear c2; obtain rfl := Option.some.inj H; go_wp2
    go_ret
    exact ⟨qa1, qH HB.out⟩
set_option maxHeartbeats 8000000
set_option maxRecDepth 100000
def spec_l13Committed.l0 : Nat → List (S115) → List Int → Int → Option (List Int)
 | 0, _, _, _ => none
 | k + 1, x0, x3, x4 => if x4 < (x0.length : Int) then (if 0 ≤ x4 then (if ((rd_T115 x0 x4).f1) = 0 then (if x3.length < 17592186044416 then (spec_l13Committed.l0 k x0 (x3 ++ [x4]) (wrap64 (x4 + 1))) else (none)) else (spec_l13Committed.l0 k x0 x3 (wrap64 (x4 + 1)))) else (none)) else (some x3)
def spec_l13Committed.f (k : Nat) (l0 : List (S115)) : Option (List Int) := spec_l13Committed.l0 k l0 (([] : List Int)) 0
theorem spec_l13Committed.calls (k : Nat) (A0 : Option Addr) (c0 : Nat) (l0 : List (S115)) (r : List Int) (w : World) (hr0 : Kd.C k115 w A0 l0.length l0) (hc0 : l0.length ≤ c0) (h : spec_l13Committed.f k l0 = some r) :
  Calls Try.prog 70 #[.slice A0 l0.length c0] w fun e w' => ∃ v0_ : Value, e = .returned (v0_) ∧ Kd.R (Kd.int .i64) 3 w' w.heap.size (fun _ => True) v0_ r ∧ Below w.heap.size w w' := by
 have HR0 := qO hr0; have HC0 := qO hc0; clear hr0 hc0; have HB := qO (Below.refl w.heap.size w); have H : (spec_l13Committed.l0 k l0 (([] : List Int)) 0) = some r := h; clear h; obtain ⟨y101, hy101⟩ : ∃ y_ : List Int, y_ = (([] : List Int)) := ⟨_, rfl⟩; (first | replace H := qsb hy101 H | rw [← hy101] at H)
 have Ny101 := qO hy101; clear hy101; have H' := qO H; clear H
 go_enter Try.func70, Try.ntmps70
 go_wp2_with (first | ((with_reducible refine gate_dst (N := 5) rfl ?_); refine Kd.R_lit (Kd.int .i64) _ 3 ?hg (N := 5) ?hd (xs := ([] : List Int)) (inner := []) (ok := fun _ => True) (okp := fun _ => True) ?hr ?hp (fun _ hk => hk) trivial (Below.refl _ _) (Nat.le_refl _) qa12 ?_; (case hd => rfl); (case hg => rfl); (case hr => exact qa21); (case hp => exact (Reps.none _ _)); intro v102 w2 ho3 hb hg_ hnew_; clear hg_ hnew_; (first | rw [← Ny101.out] at ho3 | (simp only [Int.reduceToNat] at ho3; rw [← Ny101.out] at ho3)); have HO103 := qO (Kd.R_lower ho3 (below_size (qH HB.out))); replace HB := qO (below_step (qH HB.out) hb); clear hb ho3))
 go_loopg [3, 4] k (fun kq v3 v4 w' => ∃ (x3_1 : List Int) (x4_1 : Int), v4 = .int .i64 x4_1 ∧ Aside0 (spec_l13Committed.l0 kq l0 x3_1 x4_1 = some r) ∧ Aside0 (kq ≤ k) ∧ Aside0 (Kd.R (Kd.int .i64) 3 w' w.heap.size (fun _ => True) v3 x3_1) ∧ Aside0 (Below w.heap.size w w'))
 case atStart => exact ⟨(y101), (0), qa4, H', ⟨Nat.le_refl _⟩, ⟨qrR HO103.out⟩, ⟨qH HB.out⟩⟩
 case round =>
  clear H'
  obtain ⟨x3_1, x4_1, rfl, HA, HK1, HO_3, HB⟩ := hrel
  cases gk with
  | zero => exact absurd HA.out (by simp [spec_l13Committed.l0])
  | succ k1 =>
   have H := HA.out; clear HA; simp only [spec_l13Committed.l0] at H
   by_cases c4 : x4_1 < (l0.length : Int)
   ·rw [if_pos c4] at H
    have c4b0 := decide_eq_true c4; clear c4
    by_cases c5 : 0 ≤ x4_1
    ·rw [if_pos c5] at H
     have c5b0 := decide_eq_true c5; clear c5
     by_cases c6 : ((rd_T115 l0 x4_1).f1) = 0
     ·rw [if_pos c6] at H
      have c6b0 := beq_iff_eq.mpr c6; have c6b1 := bne_eq_false_iff_eq.mpr c6; clear c6
      by_cases c7 : x3_1.length < 17592186044416
      ·rw [if_pos c7] at H
       have LMc7 := qO c7; clear c7; obtain ⟨y105, hy105⟩ : ∃ y_ : List Int, y_ = (x3_1 ++ [x4_1]) := ⟨_, rfl⟩; (first | replace H := qsb hy105 H | rw [← hy105] at H)
       have Ny105 := qO hy105; clear hy105; have H' := qO H; clear H; have p104 : 0 ≤ (x4_1 : Int) := qT qa2; have q104 : x4_1 < (l0.length : Int) := qT qa2; obtain ⟨ad104, A104_5, c104_5, A104_6, c104_6, e104, hx104_0, hx104_1, hx104_2, hx104_3, hx104_4, hx104_5, hx104_6, hx104_7, hl104_5, hi104_5, hl104_6, hi104_6⟩ := at_T115 HR0.out x4_1 p104 q104
       cases e104
       replace hx104_0 := (HB.out.cell (qL w _ hx104_0)).trans hx104_0; replace hx104_1 := (HB.out.cell (qL w _ hx104_1)).trans hx104_1; replace hx104_2 := (HB.out.cell (qL w _ hx104_2)).trans hx104_2; replace hx104_3 := (HB.out.cell (qL w _ hx104_3)).trans hx104_3; replace hx104_4 := (HB.out.cell (qL w _ hx104_4)).trans hx104_4; replace hx104_5 := (HB.out.cell (qL w _ hx104_5)).trans hx104_5; replace hx104_6 := (HB.out.cell (qL w _ hx104_6)).trans hx104_6; replace hx104_7 := (HB.out.cell (qL w _ hx104_7)).trans hx104_7; have HR104_5 := qO hi104_5; have HC104_5 := qO hl104_5; clear hi104_5 hl104_5; have HR104_6 := qO hi104_6; have HC104_6 := qO hl104_6; clear hi104_6 hl104_6; replace p104 := eq_true p104; replace q104 := eq_true q104
       go_wp2_with (first | ((with_reducible refine gate_builtin (b := .append) (xs := #[.tmp 18, .tmp 20]) rfl ?_); at_builtin; refine Kd.R_append (Kd.int .i64) (w0 := w) w.heap.size rfl (.tmp 18) (.tmp 20) 53 3 (.int .i64 0) 8 rfl Try.underlying53 info3 rfl qa20 qa5 u3 x3_1 x4_1 [.int .i64 x4_1] (fun _ => True) (fun _ => False) rfl rfl ?aP (fun _ hk => hk.elim) ?aF ?aO ?aB ?aS ?aL ?_; (case aP => exact rfl); (case aB => exact (qH HB.out)); (case aF => exact (fun _ _ => trivial)); (case aO => exact (qrR HO_3.out)); (case aS => exact (below_size (qH HB.out))); (case aL => have := LMc7.out; omega); intro v106 w8 ho hb hg hat; rw [← Ny105.out] at ho; have HO107 := qO (ho); replace HB := qO (hb); clear HO_3 ho hb hg hat))
       go_roundg k1
       case measure => have := HK1.out; omega
       case rel => exact ⟨(y105), (wrap64 (x4_1 + 1)), qa4, H', ⟨qa9⟩, ⟨qrR HO107.out⟩, ⟨qH HB.out⟩⟩
      ·rw [if_neg c7] at H
       exact absurd H qa12
     ·rw [if_neg c6] at H
      have c6b0 := beq_eq_false_iff_ne.mpr c6; have c6b1 := bne_iff_ne.mpr c6; have H' := qO H; clear H; have p104 : 0 ≤ (x4_1 : Int) := qT qa2; have q104 : x4_1 < (l0.length : Int) := qT qa2; obtain ⟨ad104, A104_5, c104_5, A104_6, c104_6, e104, hx104_0, hx104_1, hx104_2, hx104_3, hx104_4, hx104_5, hx104_6, hx104_7, hl104_5, hi104_5, hl104_6, hi104_6⟩ := at_T115 HR0.out x4_1 p104 q104
      cases e104
      replace hx104_0 := (HB.out.cell (qL w _ hx104_0)).trans hx104_0; replace hx104_1 := (HB.out.cell (qL w _ hx104_1)).trans hx104_1; replace hx104_2 := (HB.out.cell (qL w _ hx104_2)).trans hx104_2; replace hx104_3 := (HB.out.cell (qL w _ hx104_3)).trans hx104_3; replace hx104_4 := (HB.out.cell (qL w _ hx104_4)).trans hx104_4; replace hx104_5 := (HB.out.cell (qL w _ hx104_5)).trans hx104_5; replace hx104_6 := (HB.out.cell (qL w _ hx104_6)).trans hx104_6; replace hx104_7 := (HB.out.cell (qL w _ hx104_7)).trans hx104_7; have HR104_5 := qO hi104_5; have HC104_5 := qO hl104_5; clear hi104_5 hl104_5; have HR104_6 := qO hi104_6; have HC104_6 := qO hl104_6; clear hi104_6 hl104_6; replace p104 := eq_true p104; replace q104 := eq_true q104; go_wp2
      go_roundg k1
      case measure => have := HK1.out; omega
      case rel => exact ⟨(x3_1), (wrap64 (x4_1 + 1)), qa4, H', ⟨qa9⟩, ⟨qrR HO_3.out⟩, ⟨qH HB.out⟩⟩
    ·rw [if_neg c5] at H
     exact absurd H qa12
   ·rw [if_neg c4] at H
    have c4b0 := decide_eq_false c4; clear c4; obtain rfl := Option.some.inj H; go_wp2
    go_ret
    exact ⟨_, qa1, qrR HO_3.out, qH HB.out⟩
set_option maxHeartbeats 8000000
set_option maxRecDepth 100000
def spec_l13Less.f (l0 : List (S115)) (a1 : Int) (a2 : Int) : Option (Bool) := if 0 ≤ a1 then (if a1 < (l0.length : Int) then (if 0 ≤ a2 then (if a2 < (l0.length : Int) then (if ((rd_T115 l0 a1).f2) = ((rd_T115 l0 a2).f2) then (if (((rd_T115 l0 a1).f4) != ((rd_T115 l0 a2).f4)) = true then (some ((rd_T115 l0 a1).f4)) else (some (decide (a1 < a2)))) else (some (decide (((rd_T115 l0 a1).f2) < ((rd_T115 l0 a2).f2))))) else (none)) else (none)) else (none)) else (none)
theorem spec_l13Less.calls (A0 : Option Addr) (c0 : Nat) (l0 : List (S115)) (a1 : Int) (a2 : Int) (r : Bool) (w : World) (hr0 : Kd.C k115 w A0 l0.length l0) (hc0 : l0.length ≤ c0) (h : spec_l13Less.f l0 a1 a2 = some r) :
  Calls Try.prog 122 #[.slice A0 l0.length c0, .int .i64 a1, .int .i64 a2] w fun e w' => e = .returned (.bool r) ∧ Drawn0 w w' := by
 have HR0 := qO hr0; have HC0 := qO hc0; clear hr0 hc0; have H : (if 0 ≤ a1 then (if a1 < (l0.length : Int) then (if 0 ≤ a2 then (if a2 < (l0.length : Int) then (if ((rd_T115 l0 a1).f2) = ((rd_T115 l0 a2).f2) then (if (((rd_T115 l0 a1).f4) != ((rd_T115 l0 a2).f4)) = true then (some ((rd_T115 l0 a1).f4)) else (some (decide (a1 < a2)))) else (some (decide (((rd_T115 l0 a1).f2) < ((rd_T115 l0 a2).f2))))) else (none)) else (none)) else (none)) else (none)) = some r := h; clear h
 by_cases c4 : 0 ≤ a1
 ·rw [if_pos c4] at H
  have c4b0 := decide_eq_true c4; clear c4
  by_cases c5 : a1 < (l0.length : Int)
  ·rw [if_pos c5] at H
   have c5b0 := decide_eq_true c5; clear c5
   by_cases c6 : 0 ≤ a2
   ·rw [if_pos c6] at H
    have c6b0 := decide_eq_true c6; clear c6
    by_cases c7 : a2 < (l0.length : Int)
    ·rw [if_pos c7] at H
     have c7b0 := decide_eq_true c7; clear c7
     by_cases c8 : ((rd_T115 l0 a1).f2) = ((rd_T115 l0 a2).f2)
     ·rw [if_pos c8] at H
      have c8b0 := beq_iff_eq.mpr c8; have c8b1 := bne_eq_false_iff_eq.mpr c8; clear c8
      by_cases c9 : (((rd_T115 l0 a1).f4) != ((rd_T115 l0 a2).f4)) = true
      ·rw [if_pos c9] at H
       have c9b0 : (((rd_T115 l0 a1).f4) != ((rd_T115 l0 a2).f4)) = true := c9; (try (have c9b1 : decide (((rd_T115 l0 a1).f4) = ((rd_T115 l0 a2).f4)) = false := by simpa using c9)); (try (have c9b2 : (((rd_T115 l0 a1).f4) == ((rd_T115 l0 a2).f4)) = false := by simpa using c9)); (try (have c9b3 : ¬ (((rd_T115 l0 a1).f4) = ((rd_T115 l0 a2).f4)) := by simpa using c9)); clear c9; obtain rfl := Option.some.inj H; have p101 : 0 ≤ (a1 : Int) := qT qa2; have q101 : a1 < (l0.length : Int) := qT qa2; obtain ⟨ad101, A101_5, c101_5, A101_6, c101_6, e101, hx101_0, hx101_1, hx101_2, hx101_3, hx101_4, hx101_5, hx101_6, hx101_7, hl101_5, hi101_5, hl101_6, hi101_6⟩ := at_T115 HR0.out a1 p101 q101
       cases e101
       have HR101_5 := qO hi101_5; have HC101_5 := qO hl101_5; clear hi101_5 hl101_5; have HR101_6 := qO hi101_6; have HC101_6 := qO hl101_6; clear hi101_6 hl101_6; replace p101 := eq_true p101; replace q101 := eq_true q101; have p102 : 0 ≤ (a2 : Int) := qT qa2; have q102 : a2 < (l0.length : Int) := qT qa2; obtain ⟨ad102, A102_5, c102_5, A102_6, c102_6, e102, hx102_0, hx102_1, hx102_2, hx102_3, hx102_4, hx102_5, hx102_6, hx102_7, hl102_5, hi102_5, hl102_6, hi102_6⟩ := at_T115 HR0.out a2 p102 q102; obtain rfl : ad101 = ad102 := (by injection e102); have HR102_5 := qO hi102_5; have HC102_5 := qO hl102_5; clear hi102_5 hl102_5; have HR102_6 := qO hi102_6; have HC102_6 := qO hl102_6; clear hi102_6 hl102_6; replace p102 := eq_true p102; replace q102 := eq_true q102; have p103 : 0 ≤ (a1 : Int) := qT qa2; have q103 : a1 < (l0.length : Int) := qT qa2; obtain ⟨ad103, A103_5, c103_5, A103_6, c103_6, e103, hx103_0, hx103_1, hx103_2, hx103_3, hx103_4, hx103_5, hx103_6, hx103_7, hl103_5, hi103_5, hl103_6, hi103_6⟩ := at_T115 HR0.out a1 p103 q103; obtain rfl : ad101 = ad103 := (by injection e103); have HR103_5 := qO hi103_5; have HC103_5 := qO hl103_5; clear hi103_5 hl103_5; have HR103_6 := qO hi103_6; have HC103_6 := qO hl103_6; clear hi103_6 hl103_6; replace p103 := eq_true p103; replace q103 := eq_true q103; have ea_ := Option.some.inj (hx101_5.symm.trans hx103_5); injection ea_ with ea_ en_ ec_; subst ea_; subst ec_; clear en_; have ea_ := Option.some.inj (hx101_6.symm.trans hx103_6); injection ea_ with ea_ en_ ec_; subst ea_; subst ec_; clear en_; have p104 : 0 ≤ (a2 : Int) := qT qa2; have q104 : a2 < (l0.length : Int) := qT qa2; obtain ⟨ad104, A104_5, c104_5, A104_6, c104_6, e104, hx104_0, hx104_1, hx104_2, hx104_3, hx104_4, hx104_5, hx104_6, hx104_7, hl104_5, hi104_5, hl104_6, hi104_6⟩ := at_T115 HR0.out a2 p104 q104; obtain rfl : ad101 = ad104 := (by injection e104); have HR104_5 := qO hi104_5; have HC104_5 := qO hl104_5; clear hi104_5 hl104_5; have HR104_6 := qO hi104_6; have HC104_6 := qO hl104_6; clear hi104_6 hl104_6; replace p104 := eq_true p104; replace q104 := eq_true q104; have ea_ := Option.some.inj (hx102_5.symm.trans hx104_5); injection ea_ with ea_ en_ ec_; subst ea_; subst ec_; clear en_; have ea_ := Option.some.inj (hx102_6.symm.trans hx104_6); injection ea_ with ea_ en_ ec_; subst ea_; subst ec_; clear en_; have p105 : 0 ≤ (a1 : Int) := qT qa2; have q105 : a1 < (l0.length : Int) := qT qa2; obtain ⟨ad105, A105_5, c105_5, A105_6, c105_6, e105, hx105_0, hx105_1, hx105_2, hx105_3, hx105_4, hx105_5, hx105_6, hx105_7, hl105_5, hi105_5, hl105_6, hi105_6⟩ := at_T115 HR0.out a1 p105 q105; obtain rfl : ad101 = ad105 := (by injection e105); have HR105_5 := qO hi105_5; have HC105_5 := qO hl105_5; clear hi105_5 hl105_5; have HR105_6 := qO hi105_6; have HC105_6 := qO hl105_6; clear hi105_6 hl105_6; replace p105 := eq_true p105; replace q105 := eq_true q105; have ea_ := Option.some.inj (hx101_5.symm.trans hx105_5); injection ea_ with ea_ en_ ec_; subst ea_; subst ec_; clear en_; have ea_ := Option.some.inj (hx101_6.symm.trans hx105_6); injection ea_ with ea_ en_ ec_; subst ea_; subst ec_; clear en_
       go_enter Try.func122, Try.ntmps122
       go_wp2
       repeat (go_quiet (fail); try go_wp2)
       go_ret
       exact ⟨qa4, qa6⟩
      ·rw [if_neg c9] at H
       have c9b0 : (((rd_T115 l0 a1).f4) != ((rd_T115 l0 a2).f4)) = false := by simpa using c9
       (try (have c9b1 : decide (((rd_T115 l0 a1).f4) = ((rd_T115 l0 a2).f4)) = true := by simpa using c9)); (try (have c9b2 : (((rd_T115 l0 a1).f4) == ((rd_T115 l0 a2).f4)) = true := by simpa using c9)); clear c9; obtain rfl := Option.some.inj H; have p101 : 0 ≤ (a1 : Int) := qT qa2; have q101 : a1 < (l0.length : Int) := qT qa2; obtain ⟨ad101, A101_5, c101_5, A101_6, c101_6, e101, hx101_0, hx101_1, hx101_2, hx101_3, hx101_4, hx101_5, hx101_6, hx101_7, hl101_5, hi101_5, hl101_6, hi101_6⟩ := at_T115 HR0.out a1 p101 q101
       cases e101
       have HR101_5 := qO hi101_5; have HC101_5 := qO hl101_5; clear hi101_5 hl101_5; have HR101_6 := qO hi101_6; have HC101_6 := qO hl101_6; clear hi101_6 hl101_6; replace p101 := eq_true p101; replace q101 := eq_true q101; have p102 : 0 ≤ (a2 : Int) := qT qa2; have q102 : a2 < (l0.length : Int) := qT qa2; obtain ⟨ad102, A102_5, c102_5, A102_6, c102_6, e102, hx102_0, hx102_1, hx102_2, hx102_3, hx102_4, hx102_5, hx102_6, hx102_7, hl102_5, hi102_5, hl102_6, hi102_6⟩ := at_T115 HR0.out a2 p102 q102; obtain rfl : ad101 = ad102 := (by injection e102); have HR102_5 := qO hi102_5; have HC102_5 := qO hl102_5; clear hi102_5 hl102_5; have HR102_6 := qO hi102_6; have HC102_6 := qO hl102_6; clear hi102_6 hl102_6; replace p102 := eq_true p102; replace q102 := eq_true q102; have p103 : 0 ≤ (a1 : Int) := qT qa2; have q103 : a1 < (l0.length : Int) := qT qa2; obtain ⟨ad103, A103_5, c103_5, A103_6, c103_6, e103, hx103_0, hx103_1, hx103_2, hx103_3, hx103_4, hx103_5, hx103_6, hx103_7, hl103_5, hi103_5, hl103_6, hi103_6⟩ := at_T115 HR0.out a1 p103 q103; obtain rfl : ad101 = ad103 := (by injection e103); have HR103_5 := qO hi103_5; have HC103_5 := qO hl103_5; clear hi103_5 hl103_5; have HR103_6 := qO hi103_6; have HC103_6 := qO hl103_6; clear hi103_6 hl103_6; replace p103 := eq_true p103; replace q103 := eq_true q103; have ea_ := Option.some.inj (hx101_5.symm.trans hx103_5); injection ea_ with ea_ en_ ec_; subst ea_; subst ec_; clear en_; have ea_ := Option.some.inj (hx101_6.symm.trans hx103_6); injection ea_ with ea_ en_ ec_; subst ea_; subst ec_; clear en_; have p104 : 0 ≤ (a2 : Int) := qT qa2; have q104 : a2 < (l0.length : Int) := qT qa2; obtain ⟨ad104, A104_5, c104_5, A104_6, c104_6, e104, hx104_0, hx104_1, hx104_2, hx104_3, hx104_4, hx104_5, hx104_6, hx104_7, hl104_5, hi104_5, hl104_6, hi104_6⟩ := at_T115 HR0.out a2 p104 q104; obtain rfl : ad101 = ad104 := (by injection e104); have HR104_5 := qO hi104_5; have HC104_5 := qO hl104_5; clear hi104_5 hl104_5; have HR104_6 := qO hi104_6; have HC104_6 := qO hl104_6; clear hi104_6 hl104_6; replace p104 := eq_true p104; replace q104 := eq_true q104; have ea_ := Option.some.inj (hx102_5.symm.trans hx104_5); injection ea_ with ea_ en_ ec_; subst ea_; subst ec_; clear en_; have ea_ := Option.some.inj (hx102_6.symm.trans hx104_6); injection ea_ with ea_ en_ ec_; subst ea_; subst ec_; clear en_
       go_enter Try.func122, Try.ntmps122
       go_wp2
       repeat (go_quiet (fail); try go_wp2)
       go_ret
       exact ⟨qa4, qa6⟩
     ·rw [if_neg c8] at H
      have c8b0 := beq_eq_false_iff_ne.mpr c8; have c8b1 := bne_iff_ne.mpr c8; obtain rfl := Option.some.inj H; have p101 : 0 ≤ (a1 : Int) := qT qa2; have q101 : a1 < (l0.length : Int) := qT qa2; obtain ⟨ad101, A101_5, c101_5, A101_6, c101_6, e101, hx101_0, hx101_1, hx101_2, hx101_3, hx101_4, hx101_5, hx101_6, hx101_7, hl101_5, hi101_5, hl101_6, hi101_6⟩ := at_T115 HR0.out a1 p101 q101
      cases e101
      have HR101_5 := qO hi101_5; have HC101_5 := qO hl101_5; clear hi101_5 hl101_5; have HR101_6 := qO hi101_6; have HC101_6 := qO hl101_6; clear hi101_6 hl101_6; replace p101 := eq_true p101; replace q101 := eq_true q101; have p102 : 0 ≤ (a2 : Int) := qT qa2; have q102 : a2 < (l0.length : Int) := qT qa2; obtain ⟨ad102, A102_5, c102_5, A102_6, c102_6, e102, hx102_0, hx102_1, hx102_2, hx102_3, hx102_4, hx102_5, hx102_6, hx102_7, hl102_5, hi102_5, hl102_6, hi102_6⟩ := at_T115 HR0.out a2 p102 q102; obtain rfl : ad101 = ad102 := (by injection e102); have HR102_5 := qO hi102_5; have HC102_5 := qO hl102_5; clear hi102_5 hl102_5; have HR102_6 := qO hi102_6; have HC102_6 := qO hl102_6; clear hi102_6 hl102_6; replace p102 := eq_true p102; replace q102 := eq_true q102; have p106 : 0 ≤ (a1 : Int) := qT qa2; have q106 : a1 < (l0.length : Int) := qT qa2; obtain ⟨ad106, A106_5, c106_5, A106_6, c106_6, e106, hx106_0, hx106_1, hx106_2, hx106_3, hx106_4, hx106_5, hx106_6, hx106_7, hl106_5, hi106_5, hl106_6, hi106_6⟩ := at_T115 HR0.out a1 p106 q106; obtain rfl : ad101 = ad106 := (by injection e106); have HR106_5 := qO hi106_5; have HC106_5 := qO hl106_5; clear hi106_5 hl106_5; have HR106_6 := qO hi106_6; have HC106_6 := qO hl106_6; clear hi106_6 hl106_6; replace p106 := eq_true p106; replace q106 := eq_true q106; have ea_ := Option.some.inj (hx101_5.symm.trans hx106_5); injection ea_ with ea_ en_ ec_; subst ea_; subst ec_; clear en_; have ea_ := Option.some.inj (hx101_6.symm.trans hx106_6); injection ea_ with ea_ en_ ec_; subst ea_; subst ec_; clear en_; have p107 : 0 ≤ (a2 : Int) := qT qa2; have q107 : a2 < (l0.length : Int) := qT qa2; obtain ⟨ad107, A107_5, c107_5, A107_6, c107_6, e107, hx107_0, hx107_1, hx107_2, hx107_3, hx107_4, hx107_5, hx107_6, hx107_7, hl107_5, hi107_5, hl107_6, hi107_6⟩ := at_T115 HR0.out a2 p107 q107; obtain rfl : ad101 = ad107 := (by injection e107); have HR107_5 := qO hi107_5; have HC107_5 := qO hl107_5; clear hi107_5 hl107_5; have HR107_6 := qO hi107_6; have HC107_6 := qO hl107_6; clear hi107_6 hl107_6; replace p107 := eq_true p107; replace q107 := eq_true q107; have ea_ := Option.some.inj (hx102_5.symm.trans hx107_5); injection ea_ with ea_ en_ ec_; subst ea_; subst ec_; clear en_; have ea_ := Option.some.inj (hx102_6.symm.trans hx107_6); injection ea_ with ea_ en_ ec_; subst ea_; subst ec_; clear en_
      go_enter Try.func122, Try.ntmps122
      go_wp2
      repeat (go_quiet (fail); try go_wp2)
      go_ret
      exact ⟨qa4, qa6⟩
    ·rw [if_neg c7] at H
     exact absurd H qa12
   ·rw [if_neg c6] at H
    exact absurd H qa12
  ·rw [if_neg c5] at H
   exact absurd H qa12
 ·rw [if_neg c4] at H
  exact absurd H qa12
set_option maxHeartbeats 8000000
set_option maxRecDepth 100000
def spec_l13ins.f (_k : Nat) (l0 l1 : List Int) (a2 a3 : Int) : Option (List Int) := if (0 ≤ a3 ∧ a3 ≤ (l1.length : Int)) ∧ (0 ≤ a2 ∧ a2 < (l0.length : Int)) ∧ l1.length < 1000000000 then some (l1.take a3.toNat ++ [rd l0 a2] ++ l1.drop a3.toNat) else none
def codeOf (f : Func) : Code := f.body.getD .skip
def seqA : Code → Code
 | .seq x _ => x
 | c => c
def seqB : Code → Code
 | .seq _ y => y
 | c => c
def blkC : Code → Code
 | .block _ c => c
 | c => c
def lpC : Code → Code
 | .loop c => c
 | c => c
theorem ins_apart {w w1 : World} {base : Nat} {v u : Value} {xs : List Int} (h : Kd.R (Kd.int .i64) 3 w1 base (fun _ => True) v xs) (hn : ∃ b, v.ownBlock = some b ∧ w.heap.size ≤ b) (hlt : ∀ k, u.ownBlock = some k → k < w.heap.size) : Kd.R (Kd.int .i64) 3 w1 base (fun k => some k ≠ u.ownBlock) v xs := by
 obtain ⟨b, e, hb⟩ := hn; obtain ⟨_, inner, ho, hr⟩ := h; refine ⟨fun k hk hu => ?_, inner, ho, hr⟩; rw [e] at hk; injection hk with hk; have := hlt k hu.symm
 omega
theorem ins_elder {w w1 : World} {base : Nat} {v u : Value} {xs : List Int} (h : Kd.R (Kd.int .i64) 3 w1 base (fun _ => True) v xs) (hlt : ∀ k, v.ownBlock = some k → k < w.heap.size) (hn : ∃ b, u.ownBlock = some b ∧ w.heap.size ≤ b) : Kd.R (Kd.int .i64) 3 w1 base (fun k => some k ≠ u.ownBlock) v xs := by
 obtain ⟨b, e, hb⟩ := hn; obtain ⟨_, inner, ho, hr⟩ := h; refine ⟨fun k hk hu => ?_, inner, ho, hr⟩; have h1 := hlt k hk; rw [e] at hu; injection hu with hu
 omega
def z91_0 := #[qf,qf,qf,qf,qf,qf,qf,qf,qf,qf,qf,qf,qf,qf,qf,qf]
def z91_1 := #[qf,qt,qf,qf,qf,qf,qf,qf,qf,qf,qf,qf,qf,qf,qf,qf]
def z91_2 := #[qf,qt,qt,qf,qf,qf,qf,qf,qf,qf,qf,qf,qf,qf,qf,qf]
def z91_3 := #[qf,qt,qt,qt,qf,qf,qf,qf,qf,qf,qf,qf,qf,qf,qf,qf]
def z91_4 := #[qf,qt,qt,qt,qf,qt,qf,qf,qf,qf,qf,qf,qf,qf,qf,qf]
def z91_5 := #[qf,qt,qt,qt,qf,qt,qt,qf,qf,qf,qf,qf,qf,qf,qf,qf]
def z91_6 := #[qf,qt,qt,qt,qf,qt,qt,qt,qf,qf,qf,qf,qf,qf,qf,qf]
def z91_7 := #[qf,qt,qt,qt,qf,qt,qt,qt,qt,qf,qf,qf,qf,qf,qf,qf]
def z91_8 := #[qf,qt,qt,qt,qf,qt,qt,qt,qt,qf,qf,qt,qf,qf,qf,qf]
def z91_9 := #[qf,qt,qt,qt,qf,qt,qt,qt,qt,qf,qf,qt,qt,qf,qf,qf]
def z91_10 := #[qf,qt,qt,qt,qf,qt,qt,qt,qt,qf,qf,qt,qt,qt,qf,qf]
def z91_11 := #[qt,qt,qt,qt,qt,qt,qt,qt,qt,qt,qf,qt,qt,qt,qf,qf]
def z91_12 := #[qt,qt,qt,qt,qf,qt,qt,qt,qt,qf,qf,qt,qt,qt,qf,qf]
def z91_13 := #[qf,qt,qt,qt,qf,qt,qt,qt,qt,qt,qf,qt,qt,qt,qf,qf]
def z91_14 := #[qt,qt,qt,qt,qt,qt,qt,qt,qt,qf,qf,qt,qt,qt,qf,qf]
def z91_15 := #[qt,qt,qt,qt,qf,qt,qt,qt,qt,qt,qf,qt,qt,qt,qf,qf]
def z91_16 := #[qt,qt,qt,qt,qt,qt,qt,qt,qt,qt,qt,qt,qt,qt,qf,qf]
def z91_17 := #[qt,qt,qt,qt,qt,qt,qt,qt,qt,qt,qt,qt,qt,qt,qt,qf]
def z91_18 := #[qt,qt,qt,qt,qt,qt,qt,qt,qt,qt,qt,qt,qt,qt,qt,qt]
theorem spec_l13ins.region {Q : Exit → Act → World → Prop} (hQ : ∀ c (a : Act) (d : Nat) v w, Q (.panic c) (a.put (some d) v) w → Q (.panic c) a w) (k : Nat) (A0 : Option Addr) (c0 : Nat) (l0 : List Int) (A1 : Option Addr) (c1 : Nat) (l1 : List Int) (a2 a3 : Int) (r : List Int) (W : World)
  (hr0 : Kd.C (Kd.int .i64) W A0 l0.length l0) (hc0 : l0.length ≤ c0) (hr1 : Kd.C (Kd.int .i64) W A1 l1.length l1) (hc1 : l1.length ≤ c1) (h : spec_l13ins.f k l0 l1 a2 a3 = some r) (p0 p1 p2 p7 p8 p9 p10 p11 p12 p13 p14 p15 p16 p17 p18 p19 p20 p21 p22 p23 p24 p25 p26 p27 p28 p29 p30 p31 p32 p33 p34 p35 p36 p37 p38 p39 p40 p41 p42 p43 p44 p45 p46 p47 p48 p49 p50 : Value)
  (hfin : ∀ (v_ : Value) (w' : World), Kd.R (Kd.int .i64) 3 w' W.heap.size (fun _ => True) v_ r → Below W.heap.size W w' → ∀ q35 q36 q37 q38 q39 q40 q41 q42 q43 q44 q45 q46 q47 q48 q49 : Value, Q .normal { tmps := #[p0, p1, p2, .slice A0 l0.length c0, v_, .int .i64 a2, .int .i64 a3, p7, p8, p9, p10, p11, p12, p13, p14, p15, p16, p17, p18, p19, p20, p21, p22, p23, p24, p25, p26, p27, p28, p29, p30, p31, p32, p33, p34, q35, q36, q37, q38, q39, q40, q41, q42, q43, q44, q45, q46, q47, q48, q49, p50], defers := [] } w') :
  (seqB (seqB (blkC (seqA (seqB (lpC (blkC (seqB (seqA (seqB (seqB (seqB (codeOf Try.f91))))))))))))).wp Try.prog Q { tmps := #[p0, p1, p2, .slice A0 l0.length c0, .slice A1 l1.length c1, .int .i64 a2, .int .i64 a3, p7, p8, p9, p10, p11, p12, p13, p14, p15, p16, p17, p18, p19, p20, p21, p22, p23, p24, p25, p26, p27, p28, p29, p30, p31, p32, p33, p34, p35, p36, p37, p38, p39, p40, p41, p42, p43, p44, p45, p46, p47, p48, p49, p50], defers := [] } W := by
 have hcnd : (0 ≤ a3 ∧ a3 ≤ (l1.length : Int)) ∧ (0 ≤ a2 ∧ a2 < (l0.length : Int)) ∧ l1.length < 1000000000 := Classical.byContradiction fun hx => by rw [spec_l13ins.f, if_neg hx] at h; cases h
 rw [spec_l13ins.f, if_pos hcnd] at h; obtain ⟨⟨h1, h2⟩, ⟨h3, h4⟩, h5⟩ := hcnd; have hrr := Option.some.inj h; clear h; obtain ⟨iT, hiT, hzT⟩ := Option.map_eq_some_iff.1 info3; have hsT : iT.size = 1 := by simp only [Prod.mk.injEq] at hzT; exact hzT.2.1
 have hct := cut_to (P := Try.prog) 53 3 .i64 Try.underlying53 hiT A1 l1.length c1 a3 h1 h2 hc1; have hcf := cut_from (P := Try.prog) 53 3 .i64 Try.underlying53 hiT 1 hsT A1 l1.length c1 a3 h1 h2; have hT0 := Kd.C_take hr1 (m := a3.toNat) qa5; have hD0 := Kd.C_drop hr1 (m := a3.toNat) (c := c1) qa5 hc1; have hlt : (l1.take a3.toNat).length = a3.toNat := by rw [List.length_take]; omega
 have hld : (l1.drop a3.toNat).length = l1.length - a3.toNat := List.length_drop; rw [hlt] at hT0; rw [hld] at hD0; have hT1 : ∀ {w' : World}, Below W.heap.size W w' → ReadsRow _ _ w' A1 a3.toNat (l1.take a3.toNat) := fun hb => Kd.C_below hT0 hb
 have hD1 : ∀ {w' : World}, Below W.heap.size W w' → ReadsRow _ _ w' (if c1 = a3.toNat then A1 else A1.map (·.add (a3.toNat * 1))) (l1.length - a3.toNat) (l1.drop a3.toNat) := fun hb => Kd.C_below hD0 hb
 have HT1 := qO @hT1; have HD1 := qO @hD1; have HRR := qO hrr; have HL5 := qO h5; have HLT := qO hlt; have HLD := qO hld; have HA3 := qO (And.intro h1 h2); clear hT0 hD0 hT1 hD1 hrr h5 hlt hld hiT hzT hsT hr1 hc1 h1 h2; obtain ⟨ad_, e_, hx_0⟩ := Kd.at_int hr0 a2 h3 h4
 cases e_
 clear hr0; replace h3 := eq_true h3; replace h4 := eq_true h4; have mixed : Try.prog.follows Departure.mixedOrders = true := by kernel_rfl
 dsimp only [seqA, seqB, blkC, lpC, codeOf, Try.f91, Option.getD]
 refine start_ (n := 16) (S := fun w' => Below W.heap.size W w') (ds := []) z91_0 mixed rfl rfl (qbD (Below.refl _ _)) (fun hHeld => ?_); generalize W.drew = W1 at hHeld ⊢; refine pure_ (i := 1) (N := some 36) (v := ?_) (a' := ?_) z91_1 rfl rfl qa8 (fun _ _ _ h => hQ _ _ _ _ _ h) (Or.inl ⟨by rfl, ?_⟩) ?_ ?_; rotate_left; exact qa14; rotate_left; exact qa10; refine pure_ (i := 2) (N := some 37) (v := ?_) (a' := ?_) z91_2 rfl rfl qa8 (fun _ _ _ h => hQ _ _ _ _ _ h) (Or.inl ⟨by rfl, ?_⟩) ?_ ?_; rotate_left; exact qa14; rotate_left; exact qa10; refine pure_ (i := 3) (N := some 38) (v := ?_) (a' := ?_) z91_3 rfl rfl qa8 (fun _ _ _ h => hQ _ _ _ _ _ h) (Or.inl ⟨by rfl, ?_⟩) ?_ ?_; rotate_left; exact qa14; rotate_left; exact qa10; refine pure_ (i := 5) (N := some 40) (v := ?_) (a' := ?_) z91_4 rfl rfl qa8 (fun _ _ _ h => hQ _ _ _ _ _ h) (Or.inl ⟨by rfl, ?_⟩) ?_ ?_; rotate_left; exact qa14; rotate_left; exact qa10; refine pure_ (i := 6) (N := some 41) (v := ?_) (a' := ?_) z91_5 rfl rfl qa8 (fun _ _ _ h => hQ _ _ _ _ _ h) (Or.inl ⟨by rfl, ?_⟩) ?_ ?_; rotate_left; exact qa14; rotate_left; exact qa10; refine pure_ (i := 7) (N := some 42) (v := ?_) (a' := ?_) z91_6 rfl rfl qa8 (fun _ _ _ h => hQ _ _ _ _ _ h) (Or.inl ⟨by rfl, ?_⟩) ?_ ?_; rotate_left; exact qa14; rotate_left; exact qa10; refine take_ (i := 8) (N := some 43) (v := ?_) (a' := ?_) z91_7 rfl rfl qa8 (fun _ _ _ h => hQ _ _ _ _ _ h) (Or.inl ⟨by rfl, ?_⟩) hHeld ?_ ?_; rotate_left
 ·intro w' hs_
  have c_ := (hs_.cell (qL W _ hx_0)).trans hx_0; go_simp; (with_reducible rfl)
 rotate_left
 ·simp only [Act.put, qzA, qzB, qzC, i64_w, i32_w]
  rfl
 refine pure_ (i := 11) (N := some 46) (v := ?_) (a' := ?_) z91_8 rfl rfl qa8 (fun _ _ _ h => hQ _ _ _ _ _ h) (Or.inl ⟨by rfl, ?_⟩) ?_ ?_; rotate_left; exact qa14; rotate_left; exact qa10; refine pure_ (i := 12) (N := some 47) (v := ?_) (a' := ?_) z91_9 rfl rfl qa8 (fun _ _ _ h => hQ _ _ _ _ _ h) (Or.inl ⟨by rfl, ?_⟩) ?_ ?_; rotate_left; exact qa14; rotate_left; exact qa10; refine pure_ (i := 13) (N := some 48) (v := ?_) (a' := ?_) z91_10 rfl rfl qa8 (fun _ _ _ h => hQ _ _ _ _ _ h) (Or.inl ⟨by rfl, ?_⟩) ?_ ?_; rotate_left; exact qa14; rotate_left; exact qa10; refine join_ (σ := Value × Value × Value) 3 z91_11 (fun s => [(35, s.1), (39, s.2.1), (44, s.2.2)]) (fun s w' => Kd.R (Kd.int .i64) 3 w' W.heap.size (fun _ => True) s.2.1 (l1.take a3.toNat) ∧ Kd.R (Kd.int .i64) 3 w' W.heap.size (fun _ => True) s.2.2 [(rd l0 a2)] ∧ Below W.heap.size W w') ?hc1 ?hj1
 case hj1 =>
  intro hcont; refine two_ (i := 0) (j := 9) (Ni := some 35) (Nj := some 44) z91_12 z91_13 rfl rfl rfl rfl qa8 qa20 qa20 (fun K hK => ?_) (fun K hK => ?_)
  ·refine Kd.R_lit_step (Kd.int .i64) W.heap.size 3 (by rfl) (N := 35) (by rfl) (xs := ([] : List Int)) (inner := []) (ok := fun _ => True) (okp := fun _ => True) ?hr ?hp (fun _ hk => hk) trivial hHeld hHeld.size qa12 ?_
   case hr => first | (go_simp; done) | (go_simp; rfl)
   case hp => exact Reps.none _ _
   intro v35 w35 ho35 hb35 hg35 hn35; have hBB35 := hb35; refine hK.out _ _ hb35 (fun hHeld => ?_); clear hK K; refine qNm ?_
   refine two_ (i := 4) (j := 9) (Ni := some 39) (Nj := some 44) z91_14 z91_15 rfl rfl rfl rfl qa8 qa20 qa20 (fun K hK => ?_) (fun K hK => ?_)
   ·refine Kd.R_append_rows_step (Kd.int .i64) (w0 := W) W.heap.size (by rfl) (.tmp 35) (.tmp 38) 53 3 (.int .i64 0) 8 rfl Try.underlying53 info3 rfl qa20 qa5 _ ([] : List Int) (l1.take a3.toNat) _ _ _ (fun _ => True) (fun _ => False) rfl rfl ?aO ?aR (fun _ _ h => h) (fun _ h => h.elim) (fun _ _ => trivial) ?aB ?aS ?aL ?_
    case aO => exact ho35
    case aR => exact HT1.out hHeld
    case aB => exact hHeld
    case aS => exact hHeld.size
    case aL => have := HL5.out; have := HA3.out; simp only [List.length_nil]; omega
    intro v39 w39 ho39 hb39 hg39 hat39; rw [List.nil_append] at ho39; refine hK.out _ _ hb39 (fun hHeld => ?_); clear hK K; refine qNm ?_
    refine one_ (i := 9) (N := some 44) z91_11 rfl rfl qa8 qa20 (fun K hK => ?_); refine Kd.R_lit_step (Kd.int .i64) W.heap.size 3 (by rfl) (N := 44) (by rfl) (xs := ([(rd l0 a2)] : List Int)) (inner := [.int .i64 (rd l0 a2)]) (ok := fun _ => True) (okp := fun _ => True) ?hr ?hp (fun _ hk => hk) trivial hHeld hHeld.size qa12 ?_
    case hr => first | (go_simp; done) | (go_simp; rfl)
    case hp => exact Reps.snoc (ps := []) (cs := []) (p := (rd l0 a2)) (c := [.int .i64 (rd l0 a2)]) (Reps.none _ _) rfl rfl
    intro v44 w44 ho44 hb44 hg44 hn44; refine hK.out _ _ hb44 (fun hHeld => ?_); clear hK K
    exact norm_ (by rfl) (hcont (v35, v39, v44) _ ⟨Kd.R_grown ho39 hg44 (fun _ _ h => by cases h), ho44, hb44⟩)
   ·refine Kd.R_lit_step (Kd.int .i64) W.heap.size 3 (by rfl) (N := 44) (by rfl) (xs := ([(rd l0 a2)] : List Int)) (inner := [.int .i64 (rd l0 a2)]) (ok := fun _ => True) (okp := fun _ => True) ?hr ?hp (fun _ hk => hk) trivial hHeld hHeld.size qa12 ?_
    case hr => first | (go_simp; done) | (go_simp; rfl)
    case hp => exact Reps.snoc (ps := []) (cs := []) (p := (rd l0 a2)) (c := [.int .i64 (rd l0 a2)]) (Reps.none _ _) rfl rfl
    intro v44 w44 ho44 hb44 hg44 hn44; refine hK.out _ _ hb44 (fun hHeld => ?_); clear hK K; refine qNm ?_
    refine one_ (i := 4) (N := some 39) z91_11 rfl rfl qa8 qa20 (fun K hK => ?_); refine Kd.R_append_rows_step (Kd.int .i64) (w0 := W) W.heap.size (by rfl) (.tmp 35) (.tmp 38) 53 3 (.int .i64 0) 8 rfl Try.underlying53 info3 rfl qa20 qa5 _ ([] : List Int) (l1.take a3.toNat) _ _ _ (fun _ => True) (fun _ => False) rfl rfl ?aO ?aR (fun _ _ h => h) (fun _ h => h.elim) (fun _ _ => trivial) ?aB ?aS ?aL ?_
    case aO => exact (Kd.R_grown ho35 hg44 (fun _ _ h => by cases h))
    case aR => exact HT1.out hHeld
    case aB => exact hHeld
    case aS => exact hHeld.size
    case aL => have := HL5.out; have := HA3.out; simp only [List.length_nil]; omega
    intro v39 w39 ho39 hb39 hg39 hat39; rw [List.nil_append] at ho39; refine hK.out _ _ hb39 (fun hHeld => ?_); clear hK K
    exact norm_ (by rfl) (hcont (v35, v39, v44) _ ⟨ho39, Kd.R_mono (Kd.R_grown (ins_apart ho44 hn44 (Kd.R_lt ho35)) hg39 (fun k hk => hk)) (fun _ _ => trivial), hb39⟩)
  ·refine Kd.R_lit_step (Kd.int .i64) W.heap.size 3 (by rfl) (N := 44) (by rfl) (xs := ([(rd l0 a2)] : List Int)) (inner := [.int .i64 (rd l0 a2)]) (ok := fun _ => True) (okp := fun _ => True) ?hr ?hp (fun _ hk => hk) trivial hHeld hHeld.size qa12 ?_
   case hr => first | (go_simp; done) | (go_simp; rfl)
   case hp => exact Reps.snoc (ps := []) (cs := []) (p := (rd l0 a2)) (c := [.int .i64 (rd l0 a2)]) (Reps.none _ _) rfl rfl
   intro v44 w44 ho44 hb44 hg44 hn44; refine hK.out _ _ hb44 (fun hHeld => ?_); clear hK K; refine qNm ?_
   refine one_ (i := 0) (N := some 35) z91_15 rfl rfl qa8 qa20 (fun K hK => ?_); refine Kd.R_lit_step (Kd.int .i64) W.heap.size 3 (by rfl) (N := 35) (by rfl) (xs := ([] : List Int)) (inner := []) (ok := fun _ => True) (okp := fun _ => True) ?hr ?hp (fun _ hk => hk) trivial hHeld hHeld.size qa12 ?_
   case hr => first | (go_simp; done) | (go_simp; rfl)
   case hp => exact Reps.none _ _
   intro v35 w35 ho35 hb35 hg35 hn35; have hBB35 := hb35; refine hK.out _ _ hb35 (fun hHeld => ?_); clear hK K; refine qNm ?_
   refine one_ (i := 4) (N := some 39) z91_11 rfl rfl qa8 qa20 (fun K hK => ?_); refine Kd.R_append_rows_step (Kd.int .i64) (w0 := W) W.heap.size (by rfl) (.tmp 35) (.tmp 38) 53 3 (.int .i64 0) 8 rfl Try.underlying53 info3 rfl qa20 qa5 _ ([] : List Int) (l1.take a3.toNat) _ _ _ (fun _ => True) (fun _ => False) rfl rfl ?aO ?aR (fun _ _ h => h) (fun _ h => h.elim) (fun _ _ => trivial) ?aB ?aS ?aL ?_
   case aO => exact ho35
   case aR => exact HT1.out hHeld
   case aB => exact hHeld
   case aS => exact hHeld.size
   case aL => have := HL5.out; have := HA3.out; simp only [List.length_nil]; omega
   intro v39 w39 ho39 hb39 hg39 hat39; rw [List.nil_append] at ho39; refine hK.out _ _ hb39 (fun hHeld => ?_); clear hK K
   exact norm_ (by rfl) (hcont (v35, v39, v44) _ ⟨ho39, Kd.R_mono (Kd.R_grown (ins_elder (Kd.R_grown ho44 hg35 (fun _ _ h => by cases h)) (Kd.R_lt ho44) hn35) hg39 (fun k hk => hk)) (fun _ _ => trivial), hb39⟩)
 case hc1 =>
  clear hHeld; rintro ⟨v35, v39, v44⟩ w3 ⟨ho39, ho44, hHeld⟩
  dsimp only at ho39 ho44
  refine norm_ (a' := ?_) ?_ ?_; rotate_left
  ·simp only [putAll, Act.put, qzA, qzB, qzC, i64_w, i32_w]
   rfl
  obtain ⟨A44, c44, e44, hl44, hr44⟩ := Kd.R_reads ho44; subst e44; refine one_ (i := 10) (N := some 45) z91_16 rfl rfl qa8 qa20 (fun K hK => ?_); refine Kd.R_append_rows_step (Kd.int .i64) (w0 := W) W.heap.size (by rfl) (.tmp 39) (.tmp 44) 53 3 (.int .i64 0) 8 rfl Try.underlying53 info3 rfl qa20 qa5 _ (l1.take a3.toNat) [rd l0 a2] _ _ _ (fun _ => True) (fun _ => False) rfl rfl ho39 hr44 (fun _ _ h => h) (fun _ h => h.elim) (fun _ _ => trivial) hHeld hHeld.size ?aL ?_
  case aL => have := HLT.out; have := HL5.out; have := HA3.out; simp only [List.length_cons, List.length_nil]; omega
  intro v45 w45 ho45 hb45 hg45 hat45; refine hK.out _ _ hb45 (fun hHeld => ?_); clear hK K; refine qNm ?_
  refine one_ (i := 14) (N := some 49) z91_17 rfl rfl qa8 qa20 (fun K hK => ?_); refine Kd.R_append_rows_step (Kd.int .i64) (w0 := W) W.heap.size (by rfl) (.tmp 45) (.tmp 48) 53 3 (.int .i64 0) 8 rfl Try.underlying53 info3 rfl qa20 qa5 _ (l1.take a3.toNat ++ [rd l0 a2]) (l1.drop a3.toNat) _ _ _ (fun _ => True) (fun _ => False) rfl rfl ho45 (by have h_ := HD1.out hHeld; simp only [Nat.mul_one] at h_; exact h_) (fun _ _ h => h) (fun _ h => h.elim) (fun _ _ => trivial) hHeld hHeld.size ?aL ?_
  case aL => have := HLT.out; have := HL5.out; have := HA3.out; simp only [List.length_append, List.length_cons, List.length_nil]; omega
  intro v49 w49 ho49 hb49 hg49 hat49; refine hK.out _ _ hb49 (fun hHeld => ?_); clear hK K; refine qNm ?_
  refine pure_ (i := 15) (N := some 4) (v := ?_) (a' := ?_) z91_18 rfl rfl qa8 (fun _ _ _ h => hQ _ _ _ _ _ h) (Or.inl ⟨by rfl, ?_⟩) ?_ ?_; rotate_left; exact qa14; rotate_left; exact qa10; refine done_ qa8 ?_; rw [HRR.out] at ho49
  exact hfin _ _ ho49 hb49 _ _ _ _ _ _ _ _ _ _ _ _ _ _ _
mutual
def spec_l13Witness.l0 : Nat → List (S115) → List Int → List Int → Int → Option (List Int)
 | 0, _, _, _, _ => none
 | k + 1, x0, x3, x4, x5 => if x5 < (x3.length : Int) then (spec_l13Witness.l1 k x0 x3 x4 x5 (x4.length : Int)) else (some x4)
def spec_l13Witness.l1 : Nat → List (S115) → List Int → List Int → Int → Int → Option (List Int)
 | 0, _, _, _, _, _ => none
 | k + 1, x0, x3, x4, x5, x6 => if x6 > 0 then (if 0 ≤ x5 then (if x5 < (x3.length : Int) then (if 0 ≤ (wrap64 (x6 - 1)) then (if (wrap64 (x6 - 1)) < (x4.length : Int) then ((spec_l13Less.f x0 (rd x3 x5) (rd x4 (wrap64 (x6 - 1)))).bind fun t109 => (if t109 = true then (spec_l13Witness.l1 k x0 x3 x4 x5 (wrap64 (x6 - 1))) else ((spec_l13ins.f k x3 x4 x5 x6).bind fun t110 => (spec_l13Witness.l0 k x0 x3 t110 (wrap64 (x5 + 1)))))) else (none)) else (none)) else (none)) else (none)) else ((spec_l13ins.f k x3 x4 x5 x6).bind fun t113 => (spec_l13Witness.l0 k x0 x3 t113 (wrap64 (x5 + 1))))
end
def spec_l13Witness.f (k : Nat) (l0 : List (S115)) : Option (List Int) := (spec_l13Committed.f k l0).bind fun t101 => (spec_l13Witness.l0 k l0 t101 (([] : List Int)) 0)
theorem spec_l13Witness.calls (k : Nat) (A0 : Option Addr) (c0 : Nat) (l0 : List (S115)) (r : List Int) (w : World) (hr0 : Kd.C k115 w A0 l0.length l0) (hc0 : l0.length ≤ c0) (h : spec_l13Witness.f k l0 = some r) :
  Calls Try.prog 91 #[.slice A0 l0.length c0] w fun e w' => ∃ v0_ : Value, e = .returned (v0_) ∧ Kd.R (Kd.int .i64) 3 w' w.heap.size (fun _ => True) v0_ r ∧ Below w.heap.size w w' := by
 have HR0 := qO hr0; have HC0 := qO hc0; clear hr0 hc0; have HB := qO (Below.refl w.heap.size w); have H : ((spec_l13Committed.f k l0).bind fun t101 => (spec_l13Witness.l0 k l0 t101 (([] : List Int)) 0)) = some r := h; clear h; replace H := Option.bind_eq_some_iff.mp H; obtain ⟨t101, A20, H⟩ := H; have A2 := qO A20; clear A20; obtain ⟨y104, hy104⟩ : ∃ y_ : List Int, y_ = (([] : List Int)) := ⟨_, rfl⟩; (first | replace H := qsb hy104 H | rw [← hy104] at H)
 have Ny104 := qO hy104; clear hy104; have H' := qO H; clear H
 go_enter Try.func91, Try.ntmps91
 go_wp2_with (first | (go_at_call 70; (with_reducible refine (spec_l13Committed.calls k _ _ l0 t101 _ ?side1 ?side2 A2.out).mono ?_); (case side1 => exact qa63); (case side2 => exact HC0.out); rintro e w3 ⟨v102, rfl, ho0, hb⟩; have hx_ := qHX HB hb qa0; have HO103 := qO (Kd.R_lower ho0 (below_size (below_step HB.out hx_))); replace HB := qO (below_step (below_step HB.out hx_) hb); clear hx_ hb ho0) | ((with_reducible refine gate_dst (N := 9) rfl ?_); refine Kd.R_lit (Kd.int .i64) _ 3 ?hg (N := 9) ?hd (xs := ([] : List Int)) (inner := []) (ok := fun _ => True) (okp := fun _ => True) ?hr ?hp (fun _ hk => hk) trivial (Below.refl _ _) (Nat.le_refl _) qa12 ?_; (case hd => rfl); (case hg => rfl); (case hr => exact qa21); (case hp => exact (Reps.none _ _)); intro v105 w4 ho5 hb hg_ hnew_; clear hg_ hnew_; (first | rw [← Ny104.out] at ho5 | (simp only [Int.reduceToNat] at ho5; rw [← Ny104.out] at ho5)); have HO106 := qO (Kd.R_lower (Kd.R_new' ho5 (Kd.R_lt (qrR HO103.out))) (below_size (qH HB.out))); replace HO103 := qO (Kd.R_elder' (qrR HO103.out) (Kd.R_base ho5) hb); replace HB := qO (below_step (qH HB.out) hb); clear hb ho5))
 repeat (go_quiet (first | (go_at_call 70; (with_reducible refine (spec_l13Committed.calls k _ _ l0 t101 _ ?side1 ?side2 A2.out).mono ?_); (case side1 => exact qa63); (case side2 => exact HC0.out); rintro e w3 ⟨v102, rfl, ho0, hb⟩; have HO103 := qO (Kd.R_lower ho0 (below_size (qH HB.out))); replace HB := qO (below_step (qH HB.out) hb); clear hb ho0) | ((with_reducible refine gate_dst (N := 9) rfl ?_); refine Kd.R_lit (Kd.int .i64) _ 3 ?hg (N := 9) ?hd (xs := ([] : List Int)) (inner := []) (ok := fun _ => True) (okp := fun _ => True) ?hr ?hp (fun _ hk => hk) trivial (Below.refl _ _) (Nat.le_refl _) qa12 ?_; (case hd => rfl); (case hg => rfl); (case hr => exact qa21); (case hp => exact (Reps.none _ _)); intro v105 w4 ho5 hb hg_ hnew_; clear hg_ hnew_; (first | rw [← Ny104.out] at ho5 | (simp only [Int.reduceToNat] at ho5; rw [← Ny104.out] at ho5)); have HO106 := qO (Kd.R_lower (Kd.R_new' ho5 (Kd.R_lt (qrR HO103.out))) (below_size (qH HB.out))); replace HO103 := qO (Kd.R_elder' (qrR HO103.out) (Kd.R_base ho5) hb); replace HB := qO (below_step (qH HB.out) hb); clear hb ho5)); try go_wp2_with (first | (go_at_call 70; (with_reducible refine (spec_l13Committed.calls k _ _ l0 t101 _ ?side1 ?side2 A2.out).mono ?_); (case side1 => exact qa63); (case side2 => exact HC0.out); rintro e w3 ⟨v102, rfl, ho0, hb⟩; have hx_ := qHX HB hb qa0; have HO103 := qO (Kd.R_lower ho0 (below_size (below_step HB.out hx_))); replace HB := qO (below_step (below_step HB.out hx_) hb); clear hx_ hb ho0) | ((with_reducible refine gate_dst (N := 9) rfl ?_); refine Kd.R_lit (Kd.int .i64) _ 3 ?hg (N := 9) ?hd (xs := ([] : List Int)) (inner := []) (ok := fun _ => True) (okp := fun _ => True) ?hr ?hp (fun _ hk => hk) trivial (Below.refl _ _) (Nat.le_refl _) qa12 ?_; (case hd => rfl); (case hg => rfl); (case hr => exact qa21); (case hp => exact (Reps.none _ _)); intro v105 w4 ho5 hb hg_ hnew_; clear hg_ hnew_; (first | rw [← Ny104.out] at ho5 | (simp only [Int.reduceToNat] at ho5; rw [← Ny104.out] at ho5)); have HO106 := qO (Kd.R_lower (Kd.R_new' ho5 (Kd.R_lt (qrR HO103.out))) (below_size (qH HB.out))); replace HO103 := qO (Kd.R_elder' (qrR HO103.out) (Kd.R_base ho5) hb); replace HB := qO (below_step (qH HB.out) hb); clear hb ho5)))
 go_loopg [4, 5] k (fun kq v4 v5 w' => ∃ (x4_1 : List Int) (x5_1 : Int), v5 = .int .i64 x5_1 ∧ Aside0 (spec_l13Witness.l0 kq l0 t101 x4_1 x5_1 = some r) ∧ Aside0 (kq ≤ k) ∧ Aside0 (Kd.R (Kd.int .i64) 3 w' w.heap.size (fun k_ => some k_ ≠ (v4 : Value).ownBlock) v102 t101) ∧ Aside0 (Kd.R (Kd.int .i64) 3 w' w.heap.size (fun k_ => some k_ ≠ (v102 : Value).ownBlock) v4 x4_1) ∧ Aside0 (Below w.heap.size w w'))
 case atStart => exact ⟨(y104), (0), qa4, H', ⟨Nat.le_refl _⟩, ⟨qrR (Kd.R_mono HO103.out (fun _ hk => hk.2))⟩, ⟨qrR (Kd.R_mono HO106.out (fun _ hk => hk.2))⟩, ⟨qH HB.out⟩⟩
 case round =>
  clear H'
  obtain ⟨x4_1, x5_1, rfl, HA, HK1, HO_3, HO_4, HB⟩ := hrel
  cases gk with
  | zero => exact absurd HA.out (by simp [spec_l13Witness.l0])
  | succ k1 =>
   have H := HA.out; clear HA; simp only [spec_l13Witness.l0] at H
   by_cases c6 : x5_1 < (t101.length : Int)
   ·rw [if_pos c6] at H
    have c6b0 := decide_eq_true c6; clear c6; have H' := qO H; clear H; obtain ⟨Ao7, co7, eo7⟩ := Kd.R_slice HO_3.out; subst eo7; obtain ⟨Ao8, co8, eo8⟩ := Kd.R_slice HO_4.out; subst eo8; go_wp2
    repeat (go_quiet (fail); try go_wp2)
    go_loopg [6] k1 (fun kq v6 w' => ∃ (x6_2 : Int), v6 = .int .i64 x6_2 ∧ Aside0 (spec_l13Witness.l1 kq l0 t101 x4_1 x5_1 x6_2 = some r) ∧ Aside0 (kq ≤ k1) ∧ Aside0 (Kd.R (Kd.int .i64) 3 w' w.heap.size (fun k_ => some k_ ≠ ((.slice Ao8 x4_1.length co8) : Value).ownBlock) (.slice Ao7 t101.length co7) t101) ∧ Aside0 (Kd.R (Kd.int .i64) 3 w' w.heap.size (fun k_ => some k_ ≠ ((.slice Ao7 t101.length co7) : Value).ownBlock) (.slice Ao8 x4_1.length co8) x4_1) ∧ Aside0 (Below w.heap.size w w'))
    case atStart => exact ⟨((x4_1.length : Int)), qa4, H', ⟨Nat.le_refl _⟩, ⟨qrR HO_3.out⟩, ⟨qrR HO_4.out⟩, ⟨qH HB.out⟩⟩
    case round =>
     clear H'
     obtain ⟨x6_2, rfl, HA, HK2, HO_3, HO_4, HB⟩ := hrel
     cases gk with
     | zero => exact absurd HA.out (by simp [spec_l13Witness.l1])
     | succ k2 =>
      have H := HA.out; clear HA; simp only [spec_l13Witness.l1] at H
      by_cases c9 : x6_2 > 0
      ·rw [if_pos c9] at H
       have c9b0 := qgt c9; clear c9
       by_cases c10 : 0 ≤ x5_1
       ·rw [if_pos c10] at H
        have c10b0 := decide_eq_true c10; clear c10
        by_cases c11 : x5_1 < (t101.length : Int)
        ·rw [if_pos c11] at H
         have c11b0 := decide_eq_true c11; clear c11; obtain ⟨ji12, hji12⟩ : ∃ j_ : Int, (wrap64 (x6_2 - 1)) = j_ := ⟨_, rfl⟩; (first | rw [hji12] at H | simp only [hji12] at H)
         have hji12w : (IntKind.i64.wrap (x6_2 - 1)) = ji12 := (i64_w _).trans hji12
         by_cases c13 : 0 ≤ (ji12)
         ·rw [if_pos c13] at H
          have c13b0 := decide_eq_true c13; clear c13
          by_cases c14 : (ji12) < (x4_1.length : Int)
          ·rw [if_pos c14] at H
           have c14b0 := decide_eq_true c14; clear c14; replace H := Option.bind_eq_some_iff.mp H; obtain ⟨t109, A150, H⟩ := H; have A15 := qO A150; clear A150
           by_cases c16 : t109 = true
           ·subst c16
            rw [if_pos rfl] at H; have H' := qO H; clear H; have p107 : 0 ≤ (x5_1 : Int) := qT qa2; have q107 : x5_1 < (t101.length : Int) := qT qa2; obtain ⟨ad107, e107, hx107_0⟩ := Kd.at_int (Kd.R_reads' HO_3.out).2.2 x5_1 p107 q107
            cases e107
            replace p107 := eq_true p107; replace q107 := eq_true q107; have p108 : 0 ≤ ((ji12) : Int) := qT qa2; have q108 : (ji12) < (x4_1.length : Int) := qT qa2; obtain ⟨ad108, e108, hx108_0⟩ := Kd.at_int (Kd.R_reads' HO_4.out).2.2 (ji12) p108 q108
            cases e108
            replace p108 := eq_true p108; replace q108 := eq_true q108
            go_wp2_with (first | (go_at_call 122; (with_reducible refine (spec_l13Less.calls _ _ l0 (rd t101 x5_1) (rd x4_1 (ji12)) true _ ?side1 ?side2 A15.out).mono ?_); (case side1 => exact qa26); (case side2 => exact HC0.out); rintro e w' ⟨rfl, ⟨nd, rfl⟩⟩; (try first | exact ⟨rfl, _, World.drewN_drewN _ _ _⟩ | exact ⟨rfl, _, Eq.trans (World.drewN_drewN _ _ _) (congrArg (World.drewN _) (Nat.add_assoc _ _ _))⟩)))
            repeat (go_quiet (first | (go_at_call 122; (with_reducible refine (spec_l13Less.calls _ _ l0 (rd t101 x5_1) (rd x4_1 (ji12)) true _ ?side1 ?side2 A15.out).mono ?_); (case side1 => exact qa26); (case side2 => exact HC0.out); rintro e w' ⟨rfl, ⟨nd, rfl⟩⟩; (try first | exact ⟨rfl, _, World.drewN_drewN _ _ _⟩ | exact ⟨rfl, _, Eq.trans (World.drewN_drewN _ _ _) (congrArg (World.drewN _) (Nat.add_assoc _ _ _))⟩))); try go_wp2_with (first | (go_at_call 122; (with_reducible refine (spec_l13Less.calls _ _ l0 (rd t101 x5_1) (rd x4_1 (ji12)) true _ ?side1 ?side2 A15.out).mono ?_); (case side1 => exact qa26); (case side2 => exact HC0.out); rintro e w' ⟨rfl, ⟨nd, rfl⟩⟩; (try first | exact ⟨rfl, _, World.drewN_drewN _ _ _⟩ | exact ⟨rfl, _, Eq.trans (World.drewN_drewN _ _ _) (congrArg (World.drewN _) (Nat.add_assoc _ _ _))⟩))))
            go_roundg k2
            case measure => have := HK1.out; have := HK2.out; omega
            case rel => exact ⟨(ji12), (by first | rfl | (simp; done) | (simp only [← hji12] <;> (first | rfl | simp)) | (simp [*]; done)), H', ⟨qa38⟩, ⟨qrR HO_3.out⟩, ⟨qrR HO_4.out⟩, ⟨qH HB.out⟩⟩
           ·replace c16 := Bool.eq_false_iff.mpr c16
            subst c16; rw [qfn] at H; replace H := Option.bind_eq_some_iff.mp H; obtain ⟨t110, A170, H⟩ := H; have A17 := qO A170; clear A170; have H' := qO H; clear H; have p107 : 0 ≤ (x5_1 : Int) := qT qa2; have q107 : x5_1 < (t101.length : Int) := qT qa2; obtain ⟨ad107, e107, hx107_0⟩ := Kd.at_int (Kd.R_reads' HO_3.out).2.2 x5_1 p107 q107
            cases e107
            replace p107 := eq_true p107; replace q107 := eq_true q107; have p108 : 0 ≤ ((ji12) : Int) := qT qa2; have q108 : (ji12) < (x4_1.length : Int) := qT qa2; obtain ⟨ad108, e108, hx108_0⟩ := Kd.at_int (Kd.R_reads' HO_4.out).2.2 (ji12) p108 q108
            cases e108
            replace p108 := eq_true p108; replace q108 := eq_true q108
            go_wp2_with (first | (go_at_call 122; (with_reducible refine (spec_l13Less.calls _ _ l0 (rd t101 x5_1) (rd x4_1 (ji12)) false _ ?side1 ?side2 A15.out).mono ?_); (case side1 => exact qa26); (case side2 => exact HC0.out); rintro e w' ⟨rfl, ⟨nd, rfl⟩⟩; (try first | exact ⟨rfl, _, World.drewN_drewN _ _ _⟩ | exact ⟨rfl, _, Eq.trans (World.drewN_drewN _ _ _) (congrArg (World.drewN _) (Nat.add_assoc _ _ _))⟩)) | ((fail_if_success (go_not_at_region 9)); (refine (spec_l13ins.region (fun _ _ _ _ _ h => h) k2 _ _ t101 _ _ x4_1 x5_1 x6_2 t110 _ ?side1 ?side2 ?side3 ?side4 A17.out _ _ _ _ _ _ _ _ _ _ _ _ _ _ _ _ _ _ _ _ _ _ _ _ _ _ _ _ _ _ _ _ _ _ _ _ _ _ _ _ _ _ _ _ _ _ _ ?_)); (case side1 => exact qa45); (case side2 => exact qa54); (case side3 => exact qa46); (case side4 => exact qa55); intro v111 w18 ho0 hb _ _ _ _ _ _ _ _ _ _ _ _ _ _ _; have hx_ := qHX HB hb qa0; have HO112 := qO (Kd.R_lower (Kd.R_new' (Kd.R_new' ho0 (Kd.R_lt (qrR HO_3.out))) (Kd.R_lt (qrR HO_4.out))) (below_size (below_step HB.out hx_))); replace HO_3 := qO (Kd.R_elder' (qrR HO_3.out) (Kd.R_base ho0) hb); replace HO_4 := qO (Kd.R_elder' (qrR HO_4.out) (Kd.R_base ho0) hb); replace HB := qO (below_step (below_step HB.out hx_) hb); clear hx_))
            repeat (go_quiet (first | (go_at_call 122; (with_reducible refine (spec_l13Less.calls _ _ l0 (rd t101 x5_1) (rd x4_1 (ji12)) false _ ?side1 ?side2 A15.out).mono ?_); (case side1 => exact qa26); (case side2 => exact HC0.out); rintro e w' ⟨rfl, ⟨nd, rfl⟩⟩; (try first | exact ⟨rfl, _, World.drewN_drewN _ _ _⟩ | exact ⟨rfl, _, Eq.trans (World.drewN_drewN _ _ _) (congrArg (World.drewN _) (Nat.add_assoc _ _ _))⟩)) | ((fail_if_success (go_not_at_region 9)); (refine (spec_l13ins.region (fun _ _ _ _ _ h => h) k2 _ _ t101 _ _ x4_1 x5_1 x6_2 t110 _ ?side1 ?side2 ?side3 ?side4 A17.out _ _ _ _ _ _ _ _ _ _ _ _ _ _ _ _ _ _ _ _ _ _ _ _ _ _ _ _ _ _ _ _ _ _ _ _ _ _ _ _ _ _ _ _ _ _ _ ?_)); (case side1 => exact qa45); (case side2 => exact qa54); (case side3 => exact qa46); (case side4 => exact qa55); intro v111 w18 ho0 hb _ _ _ _ _ _ _ _ _ _ _ _ _ _ _; have HO112 := qO (Kd.R_lower (Kd.R_new' (Kd.R_new' ho0 (Kd.R_lt (qrR HO_3.out))) (Kd.R_lt (qrR HO_4.out))) (below_size (qH HB.out))); replace HO_3 := qO (Kd.R_elder' (qrR HO_3.out) (Kd.R_base ho0) hb); replace HO_4 := qO (Kd.R_elder' (qrR HO_4.out) (Kd.R_base ho0) hb); replace HB := qO (below_step (qH HB.out) hb))); try go_wp2_with (first | (go_at_call 122; (with_reducible refine (spec_l13Less.calls _ _ l0 (rd t101 x5_1) (rd x4_1 (ji12)) false _ ?side1 ?side2 A15.out).mono ?_); (case side1 => exact qa26); (case side2 => exact HC0.out); rintro e w' ⟨rfl, ⟨nd, rfl⟩⟩; (try first | exact ⟨rfl, _, World.drewN_drewN _ _ _⟩ | exact ⟨rfl, _, Eq.trans (World.drewN_drewN _ _ _) (congrArg (World.drewN _) (Nat.add_assoc _ _ _))⟩)) | ((fail_if_success (go_not_at_region 9)); (refine (spec_l13ins.region (fun _ _ _ _ _ h => h) k2 _ _ t101 _ _ x4_1 x5_1 x6_2 t110 _ ?side1 ?side2 ?side3 ?side4 A17.out _ _ _ _ _ _ _ _ _ _ _ _ _ _ _ _ _ _ _ _ _ _ _ _ _ _ _ _ _ _ _ _ _ _ _ _ _ _ _ _ _ _ _ _ _ _ _ ?_)); (case side1 => exact qa45); (case side2 => exact qa54); (case side3 => exact qa46); (case side4 => exact qa55); intro v111 w18 ho0 hb _ _ _ _ _ _ _ _ _ _ _ _ _ _ _; have hx_ := qHX HB hb qa0; have HO112 := qO (Kd.R_lower (Kd.R_new' (Kd.R_new' ho0 (Kd.R_lt (qrR HO_3.out))) (Kd.R_lt (qrR HO_4.out))) (below_size (below_step HB.out hx_))); replace HO_3 := qO (Kd.R_elder' (qrR HO_3.out) (Kd.R_base ho0) hb); replace HO_4 := qO (Kd.R_elder' (qrR HO_4.out) (Kd.R_base ho0) hb); replace HB := qO (below_step (below_step HB.out hx_) hb); clear hx_)))
            go_roundg k2
            case measure => have := HK1.out; have := HK2.out; omega
            case rel => exact ⟨(t110), (wrap64 (x5_1 + 1)), qa4, H', ⟨qa38⟩, ⟨qrR (Kd.R_mono HO_3.out (fun _ hk => hk.2))⟩, ⟨qrR (Kd.R_mono HO112.out (fun _ hk => hk.1.2))⟩, ⟨qH HB.out⟩⟩
          ·rw [if_neg c14] at H
           exact absurd H qa12
         ·rw [if_neg c13] at H
          exact absurd H qa12
        ·rw [if_neg c11] at H
         exact absurd H qa12
       ·rw [if_neg c10] at H
        exact absurd H qa12
      ·rw [if_neg c9] at H
       have c9b0 := qngt c9; clear c9; replace H := Option.bind_eq_some_iff.mp H; obtain ⟨t113, A190, H⟩ := H; have A19 := qO A190; clear A190; have H' := qO H; clear H
       go_wp2_with (first | ((fail_if_success (go_not_at_region 9)); (refine (spec_l13ins.region (fun _ _ _ _ _ h => h) k2 _ _ t101 _ _ x4_1 x5_1 x6_2 t113 _ ?side1 ?side2 ?side3 ?side4 A19.out _ _ _ _ _ _ _ _ _ _ _ _ _ _ _ _ _ _ _ _ _ _ _ _ _ _ _ _ _ _ _ _ _ _ _ _ _ _ _ _ _ _ _ _ _ _ _ ?_)); (case side1 => exact qa45); (case side2 => exact qa54); (case side3 => exact qa46); (case side4 => exact qa55); intro v114 w20 ho0 hb _ _ _ _ _ _ _ _ _ _ _ _ _ _ _; have hx_ := qHX HB hb qa0; have HO115 := qO (Kd.R_lower (Kd.R_new' (Kd.R_new' ho0 (Kd.R_lt (qrR HO_3.out))) (Kd.R_lt (qrR HO_4.out))) (below_size (below_step HB.out hx_))); replace HO_3 := qO (Kd.R_elder' (qrR HO_3.out) (Kd.R_base ho0) hb); replace HO_4 := qO (Kd.R_elder' (qrR HO_4.out) (Kd.R_base ho0) hb); replace HB := qO (below_step (below_step HB.out hx_) hb); clear hx_))
       repeat (go_quiet (first | ((fail_if_success (go_not_at_region 9)); (refine (spec_l13ins.region (fun _ _ _ _ _ h => h) k2 _ _ t101 _ _ x4_1 x5_1 x6_2 t113 _ ?side1 ?side2 ?side3 ?side4 A19.out _ _ _ _ _ _ _ _ _ _ _ _ _ _ _ _ _ _ _ _ _ _ _ _ _ _ _ _ _ _ _ _ _ _ _ _ _ _ _ _ _ _ _ _ _ _ _ ?_)); (case side1 => exact qa45); (case side2 => exact qa54); (case side3 => exact qa46); (case side4 => exact qa55); intro v114 w20 ho0 hb _ _ _ _ _ _ _ _ _ _ _ _ _ _ _; have HO115 := qO (Kd.R_lower (Kd.R_new' (Kd.R_new' ho0 (Kd.R_lt (qrR HO_3.out))) (Kd.R_lt (qrR HO_4.out))) (below_size (qH HB.out))); replace HO_3 := qO (Kd.R_elder' (qrR HO_3.out) (Kd.R_base ho0) hb); replace HO_4 := qO (Kd.R_elder' (qrR HO_4.out) (Kd.R_base ho0) hb); replace HB := qO (below_step (qH HB.out) hb))); try go_wp2_with (first | ((fail_if_success (go_not_at_region 9)); (refine (spec_l13ins.region (fun _ _ _ _ _ h => h) k2 _ _ t101 _ _ x4_1 x5_1 x6_2 t113 _ ?side1 ?side2 ?side3 ?side4 A19.out _ _ _ _ _ _ _ _ _ _ _ _ _ _ _ _ _ _ _ _ _ _ _ _ _ _ _ _ _ _ _ _ _ _ _ _ _ _ _ _ _ _ _ _ _ _ _ ?_)); (case side1 => exact qa45); (case side2 => exact qa54); (case side3 => exact qa46); (case side4 => exact qa55); intro v114 w20 ho0 hb _ _ _ _ _ _ _ _ _ _ _ _ _ _ _; have hx_ := qHX HB hb qa0; have HO115 := qO (Kd.R_lower (Kd.R_new' (Kd.R_new' ho0 (Kd.R_lt (qrR HO_3.out))) (Kd.R_lt (qrR HO_4.out))) (below_size (below_step HB.out hx_))); replace HO_3 := qO (Kd.R_elder' (qrR HO_3.out) (Kd.R_base ho0) hb); replace HO_4 := qO (Kd.R_elder' (qrR HO_4.out) (Kd.R_base ho0) hb); replace HB := qO (below_step (below_step HB.out hx_) hb); clear hx_)))
       go_roundg k2
       case measure => have := HK1.out; have := HK2.out; omega
       case rel => exact ⟨(t113), (wrap64 (x5_1 + 1)), qa4, H', ⟨qa38⟩, ⟨qrR (Kd.R_mono HO_3.out (fun _ hk => hk.2))⟩, ⟨qrR (Kd.R_mono HO115.out (fun _ hk => hk.1.2))⟩, ⟨qH HB.out⟩⟩
   ·rw [if_neg c6] at H
    have c6b0 := decide_eq_false c6; clear c6; obtain rfl := Option.some.inj H; obtain ⟨Ao21, co21, eo21⟩ := Kd.R_slice HO_3.out; subst eo21; go_wp2
    repeat (go_quiet (fail); try go_wp2)
    go_ret
    exact ⟨_, qa1, qrR (Kd.R_mono HO_4.out (fun _ hk => trivial)), qH HB.out⟩
set_option maxHeartbeats 8000000
set_option maxRecDepth 100000
mutual
def spec_l13Real.l0 : Nat → List (S115) → List Int → Int → Option (Bool)
 | 0, _, _, _ => none
 | k + 1, x0, x3, x4 => if x4 < (x3.length : Int) then (spec_l13Real.l1 k x0 x3 x4 (wrap64 (x4 + 1))) else (some true)
def spec_l13Real.l1 : Nat → List (S115) → List Int → Int → Int → Option (Bool)
 | 0, _, _, _, _ => none
 | k + 1, x0, x3, x4, x5 => if x5 < (x3.length : Int) then (if 0 ≤ x5 then (if 0 ≤ x4 then (if x4 < (x3.length : Int) then (if 0 ≤ (rd x3 x4) then (if (rd x3 x4) < (x0.length : Int) then (if (rd x3 x5) < ((rd_T115 x0 (rd x3 x4)).f3) then (some false) else (spec_l13Real.l1 k x0 x3 x4 (wrap64 (x5 + 1)))) else (none)) else (none)) else (none)) else (none)) else (none)) else (spec_l13Real.l0 k x0 x3 (wrap64 (x4 + 1)))
end
def spec_l13Real.f (k : Nat) (l0 : List (S115)) : Option (Bool) := (spec_l13Witness.f k l0).bind fun t101 => (spec_l13Real.l0 k l0 t101 0)
theorem spec_l13Real.calls (k : Nat) (A0 : Option Addr) (c0 : Nat) (l0 : List (S115)) (r : Bool) (w : World) (hr0 : Kd.C k115 w A0 l0.length l0) (hc0 : l0.length ≤ c0) (h : spec_l13Real.f k l0 = some r) :
  Calls Try.prog 87 #[.slice A0 l0.length c0] w fun e w' => e = .returned (.bool r) ∧ Below w.heap.size w w' := by
 have HR0 := qO hr0; have HC0 := qO hc0; clear hr0 hc0; have HB := qO (Below.refl w.heap.size w); have H : ((spec_l13Witness.f k l0).bind fun t101 => (spec_l13Real.l0 k l0 t101 0)) = some r := h; clear h; replace H := Option.bind_eq_some_iff.mp H; obtain ⟨t101, A20, H⟩ := H; have A2 := qO A20; clear A20; have H' := qO H; clear H
 go_enter Try.func87, Try.ntmps87
 go_wp2_with (first | (go_at_call 91; (with_reducible refine (spec_l13Witness.calls k _ _ l0 t101 _ ?side1 ?side2 A2.out).mono ?_); (case side1 => exact qa63); (case side2 => exact HC0.out); rintro e w3 ⟨v102, rfl, ho0, hb⟩; have hx_ := qHX HB hb qa0; have HO103 := qO (Kd.R_lower ho0 (below_size (below_step HB.out hx_))); replace HB := qO (below_step (below_step HB.out hx_) hb); clear hx_ hb ho0))
 repeat (go_quiet (first | (go_at_call 91; (with_reducible refine (spec_l13Witness.calls k _ _ l0 t101 _ ?side1 ?side2 A2.out).mono ?_); (case side1 => exact qa63); (case side2 => exact HC0.out); rintro e w3 ⟨v102, rfl, ho0, hb⟩; have HO103 := qO (Kd.R_lower ho0 (below_size (qH HB.out))); replace HB := qO (below_step (qH HB.out) hb); clear hb ho0)); try go_wp2_with (first | (go_at_call 91; (with_reducible refine (spec_l13Witness.calls k _ _ l0 t101 _ ?side1 ?side2 A2.out).mono ?_); (case side1 => exact qa63); (case side2 => exact HC0.out); rintro e w3 ⟨v102, rfl, ho0, hb⟩; have hx_ := qHX HB hb qa0; have HO103 := qO (Kd.R_lower ho0 (below_size (below_step HB.out hx_))); replace HB := qO (below_step (below_step HB.out hx_) hb); clear hx_ hb ho0)))
 go_loopg [4] k (fun kq v4 w' => ∃ (x4_1 : Int), v4 = .int .i64 x4_1 ∧ Aside0 (spec_l13Real.l0 kq l0 t101 x4_1 = some r) ∧ Aside0 (kq ≤ k) ∧ Aside0 (Kd.R (Kd.int .i64) 3 w' w.heap.size (fun _ => True) v102 t101) ∧ Aside0 (Below w.heap.size w w'))
 case atStart => exact ⟨(0), qa4, H', ⟨Nat.le_refl _⟩, ⟨qrR HO103.out⟩, ⟨qH HB.out⟩⟩
 case round =>
  clear H'
  obtain ⟨x4_1, rfl, HA, HK1, HO_3, HB⟩ := hrel
  cases gk with
  | zero => exact absurd HA.out (by simp [spec_l13Real.l0])
  | succ k1 =>
   have H := HA.out; clear HA; simp only [spec_l13Real.l0] at H
   by_cases c4 : x4_1 < (t101.length : Int)
   ·rw [if_pos c4] at H
    have c4b0 := decide_eq_true c4; clear c4; have H' := qO H; clear H; obtain ⟨Ao5, co5, eo5⟩ := Kd.R_slice HO_3.out; subst eo5; go_wp2
    repeat (go_quiet (fail); try go_wp2)
    go_loopg [5] k1 (fun kq v5 w' => ∃ (x5_2 : Int), v5 = .int .i64 x5_2 ∧ Aside0 (spec_l13Real.l1 kq l0 t101 x4_1 x5_2 = some r) ∧ Aside0 (kq ≤ k1) ∧ Aside0 (Kd.R (Kd.int .i64) 3 w' w.heap.size (fun _ => True) (.slice Ao5 t101.length co5) t101) ∧ Aside0 (Below w.heap.size w w'))
    case atStart => exact ⟨(wrap64 (x4_1 + 1)), qa4, H', ⟨Nat.le_refl _⟩, ⟨qrR HO_3.out⟩, ⟨qH HB.out⟩⟩
    case round =>
     clear H'
     obtain ⟨x5_2, rfl, HA, HK2, HO_3, HB⟩ := hrel
     cases gk with
     | zero => exact absurd HA.out (by simp [spec_l13Real.l1])
     | succ k2 =>
      have H := HA.out; clear HA; simp only [spec_l13Real.l1] at H
      by_cases c6 : x5_2 < (t101.length : Int)
      ·rw [if_pos c6] at H
       have c6b0 := decide_eq_true c6; clear c6
       by_cases c7 : 0 ≤ x5_2
       ·rw [if_pos c7] at H
        have c7b0 := decide_eq_true c7; clear c7
        by_cases c8 : 0 ≤ x4_1
        ·rw [if_pos c8] at H
         have c8b0 := decide_eq_true c8; clear c8
         by_cases c9 : x4_1 < (t101.length : Int)
         ·rw [if_pos c9] at H
          have c9b0 := decide_eq_true c9; clear c9
          by_cases c10 : 0 ≤ (rd t101 x4_1)
          ·rw [if_pos c10] at H
           have c10b0 := decide_eq_true c10; clear c10
           by_cases c11 : (rd t101 x4_1) < (l0.length : Int)
           ·rw [if_pos c11] at H
            have c11b0 := decide_eq_true c11; clear c11
            by_cases c12 : (rd t101 x5_2) < ((rd_T115 l0 (rd t101 x4_1)).f3)
            ·rw [if_pos c12] at H
             have c12b0 := decide_eq_true c12; clear c12; obtain rfl := Option.some.inj H; have p104 : 0 ≤ (x5_2 : Int) := qT qa2; have q104 : x5_2 < (t101.length : Int) := qT qa2; obtain ⟨ad104, e104, hx104_0⟩ := Kd.at_int (Kd.R_reads' HO_3.out).2.2 x5_2 p104 q104
             cases e104
             replace p104 := eq_true p104; replace q104 := eq_true q104; have p105 : 0 ≤ (x4_1 : Int) := qT qa2; have q105 : x4_1 < (t101.length : Int) := qT qa2; obtain ⟨ad105, e105, hx105_0⟩ := Kd.at_int (Kd.R_reads' HO_3.out).2.2 x4_1 p105 q105; obtain rfl : ad104 = ad105 := (by injection e105); replace p105 := eq_true p105; replace q105 := eq_true q105; have p106 : 0 ≤ ((rd t101 x4_1) : Int) := qT qa2; have q106 : (rd t101 x4_1) < (l0.length : Int) := qT qa2; obtain ⟨ad106, A106_5, c106_5, A106_6, c106_6, e106, hx106_0, hx106_1, hx106_2, hx106_3, hx106_4, hx106_5, hx106_6, hx106_7, hl106_5, hi106_5, hl106_6, hi106_6⟩ := at_T115 HR0.out (rd t101 x4_1) p106 q106
             cases e106
             replace hx106_0 := (HB.out.cell (qL w _ hx106_0)).trans hx106_0; replace hx106_1 := (HB.out.cell (qL w _ hx106_1)).trans hx106_1; replace hx106_2 := (HB.out.cell (qL w _ hx106_2)).trans hx106_2; replace hx106_3 := (HB.out.cell (qL w _ hx106_3)).trans hx106_3; replace hx106_4 := (HB.out.cell (qL w _ hx106_4)).trans hx106_4; replace hx106_5 := (HB.out.cell (qL w _ hx106_5)).trans hx106_5; replace hx106_6 := (HB.out.cell (qL w _ hx106_6)).trans hx106_6; replace hx106_7 := (HB.out.cell (qL w _ hx106_7)).trans hx106_7; have HR106_5 := qO hi106_5; have HC106_5 := qO hl106_5; clear hi106_5 hl106_5; have HR106_6 := qO hi106_6; have HC106_6 := qO hl106_6; clear hi106_6 hl106_6; replace p106 := eq_true p106; replace q106 := eq_true q106; go_wp2
             repeat (go_quiet (fail); try go_wp2)
             go_ret
             exact ⟨qa1, qH HB.out⟩
            ·rw [if_neg c12] at H
             have c12b0 := decide_eq_false c12; clear c12; have H' := qO H; clear H; have p104 : 0 ≤ (x5_2 : Int) := qT qa2; have q104 : x5_2 < (t101.length : Int) := qT qa2; obtain ⟨ad104, e104, hx104_0⟩ := Kd.at_int (Kd.R_reads' HO_3.out).2.2 x5_2 p104 q104
             cases e104
             replace p104 := eq_true p104; replace q104 := eq_true q104; have p105 : 0 ≤ (x4_1 : Int) := qT qa2; have q105 : x4_1 < (t101.length : Int) := qT qa2; obtain ⟨ad105, e105, hx105_0⟩ := Kd.at_int (Kd.R_reads' HO_3.out).2.2 x4_1 p105 q105; obtain rfl : ad104 = ad105 := (by injection e105); replace p105 := eq_true p105; replace q105 := eq_true q105; have p106 : 0 ≤ ((rd t101 x4_1) : Int) := qT qa2; have q106 : (rd t101 x4_1) < (l0.length : Int) := qT qa2; obtain ⟨ad106, A106_5, c106_5, A106_6, c106_6, e106, hx106_0, hx106_1, hx106_2, hx106_3, hx106_4, hx106_5, hx106_6, hx106_7, hl106_5, hi106_5, hl106_6, hi106_6⟩ := at_T115 HR0.out (rd t101 x4_1) p106 q106
             cases e106
             replace hx106_0 := (HB.out.cell (qL w _ hx106_0)).trans hx106_0; replace hx106_1 := (HB.out.cell (qL w _ hx106_1)).trans hx106_1; replace hx106_2 := (HB.out.cell (qL w _ hx106_2)).trans hx106_2; replace hx106_3 := (HB.out.cell (qL w _ hx106_3)).trans hx106_3; replace hx106_4 := (HB.out.cell (qL w _ hx106_4)).trans hx106_4; replace hx106_5 := (HB.out.cell (qL w _ hx106_5)).trans hx106_5; replace hx106_6 := (HB.out.cell (qL w _ hx106_6)).trans hx106_6; replace hx106_7 := (HB.out.cell (qL w _ hx106_7)).trans hx106_7; have HR106_5 := qO hi106_5; have HC106_5 := qO hl106_5; clear hi106_5 hl106_5; have HR106_6 := qO hi106_6; have HC106_6 := qO hl106_6; clear hi106_6 hl106_6; replace p106 := eq_true p106; replace q106 := eq_true q106; go_wp2
             repeat (go_quiet (fail); try go_wp2)
             go_roundg k2
             case measure => have := HK1.out; have := HK2.out; omega
             case rel => exact ⟨(wrap64 (x5_2 + 1)), qa4, H', ⟨qa38⟩, ⟨qrR HO_3.out⟩, ⟨qH HB.out⟩⟩
           ·rw [if_neg c11] at H
            exact absurd H qa12
          ·rw [if_neg c10] at H
           exact absurd H qa12
         ·rw [if_neg c9] at H
          exact absurd H qa12
        ·rw [if_neg c8] at H
         exact absurd H qa12
       ·rw [if_neg c7] at H
        exact absurd H qa12
      ·rw [if_neg c6] at H
       have c6b0 := decide_eq_false c6; clear c6; have H' := qO H; clear H; go_wp2
       repeat (go_quiet (fail); try go_wp2)
       go_roundg k2
       case measure => have := HK1.out; have := HK2.out; omega
       case rel => exact ⟨(wrap64 (x4_1 + 1)), qa4, H', ⟨qa38⟩, ⟨qrR HO_3.out⟩, ⟨qH HB.out⟩⟩
   ·rw [if_neg c4] at H
    have c4b0 := decide_eq_false c4; clear c4; obtain rfl := Option.some.inj H; obtain ⟨Ao13, co13, eo13⟩ := Kd.R_slice HO_3.out; subst eo13; go_wp2
    repeat (go_quiet (fail); try go_wp2)
    go_ret
    exact ⟨qa1, qH HB.out⟩
set_option maxHeartbeats 8000000
set_option maxRecDepth 100000
def spec_RealTime.f (k : Nat) (l0 : List (S115)) : Option (Bool × Int) := if (l0.length : Int) > 4096 then (some (false, 2)) else ((spec_l13OK.f k l0).bind fun t101 => (if t101 = true then ((spec_l13Real.f k l0).bind fun t102 => (some (t102, 0))) else (some (false, 1))))
theorem spec_RealTime.calls (k : Nat) (A0 : Option Addr) (c0 : Nat) (l0 : List (S115)) (r1 : Bool) (r2 : Int) (w : World) (hr0 : Kd.C k115 w A0 l0.length l0) (hc0 : l0.length ≤ c0) (h : spec_RealTime.f k l0 = some (r1, r2)) :
  Calls Try.prog 42 #[.slice A0 l0.length c0] w fun e w' => e = .returned (.tuple #[.bool r1, .int .i64 r2]) ∧ Below w.heap.size w w' := by
 have HR0 := qO hr0; have HC0 := qO hc0; clear hr0 hc0; have HB := qO (Below.refl w.heap.size w); have H : (if (l0.length : Int) > 4096 then (some (false, 2)) else ((spec_l13OK.f k l0).bind fun t101 => (if t101 = true then ((spec_l13Real.f k l0).bind fun t102 => (some (t102, 0))) else (some (false, 1))))) = some (r1, r2) := h; clear h
 by_cases c2 : (l0.length : Int) > 4096
 ·rw [if_pos c2] at H
  have c2b0 := qgt c2; have c2b1 : decide (4096 < l0.length) = true := decide_eq_true qa5; clear c2; simp only [Option.some.injEq, Prod.mk.injEq] at H; obtain ⟨rfl, rfl⟩ := H
  go_enter Try.func42, Try.ntmps42
  go_wp2
  go_ret2
  exact ⟨qa1, qH HB.out⟩
 ·rw [if_neg c2] at H
  have c2b0 := qngt c2; have c2b1 : decide (4096 < l0.length) = false := decide_eq_false qa5; clear c2; replace H := Option.bind_eq_some_iff.mp H; obtain ⟨t101, A30, H⟩ := H; have A3 := qO A30; clear A30
  by_cases c4 : t101 = true
  ·subst c4
   rw [if_pos rfl] at H; replace H := Option.bind_eq_some_iff.mp H; obtain ⟨t102, A50, H⟩ := H; have A5 := qO A50; clear A50; simp only [Option.some.injEq, Prod.mk.injEq] at H; obtain ⟨rfl, rfl⟩ := H
   go_enter Try.func42, Try.ntmps42
   go_wp2_with (first | ((with_reducible refine gate_callee (f := 69) rfl ?_); refine qGL 8 Try.func69 #[.slice A0 l0.length c0] ?_; (with_reducible refine (spec_l13OK.calls k _ _ l0 true _ ?side1 ?side2 A3.out).mono ?_); (case side1 => exact qa63); (case side2 => exact HC0.out); rintro e w6 ⟨rfl, hb⟩; have hx_ := qHX HB hb qa0; refine ⟨_, rfl, ?_⟩; replace HB := qO (below_step (below_step HB.out hx_) hb); clear hx_ hb) | ((with_reducible refine gate_callee (f := 87) rfl ?_); refine qGL 11 Try.func87 #[.slice A0 l0.length c0] ?_; (with_reducible refine (spec_l13Real.calls k _ _ l0 t102 _ ?side1 ?side2 A5.out).mono ?_); (case side1 => exact qa26); (case side2 => exact HC0.out); rintro e w7 ⟨rfl, hb⟩; have hx_ := qHX HB hb qa0; refine ⟨_, rfl, ?_⟩; replace HB := qO (below_step (below_step HB.out hx_) hb); clear hx_ hb))
   go_ret2
   exact ⟨qa1, qH HB.out⟩
  ·replace c4 := Bool.eq_false_iff.mpr c4
   subst c4; rw [qfn] at H; simp only [Option.some.injEq, Prod.mk.injEq] at H; obtain ⟨rfl, rfl⟩ := H
   go_enter Try.func42, Try.ntmps42
   go_wp2_with (first | ((with_reducible refine gate_callee (f := 69) rfl ?_); refine qGL 8 Try.func69 #[.slice A0 l0.length c0] ?_; (with_reducible refine (spec_l13OK.calls k _ _ l0 false _ ?side1 ?side2 A3.out).mono ?_); (case side1 => exact qa63); (case side2 => exact HC0.out); rintro e w8 ⟨rfl, hb⟩; have hx_ := qHX HB hb qa0; refine ⟨_, rfl, ?_⟩; replace HB := qO (below_step (below_step HB.out hx_) hb); clear hx_ hb))
   go_ret2
   exact ⟨qa1, qH HB.out⟩
set_option maxHeartbeats 8000000
set_option maxRecDepth 100000
def impl_within.f (a0 : Int) (a1 : Int) (a2 : Int) : Option (Bool) := if a0 ≥ a1 then (some (decide (a0 ≤ a2))) else (some false)
theorem impl_within.calls (a0 : Int) (a1 : Int) (a2 : Int) (r : Bool) (w : World) (h : impl_within.f a0 a1 a2 = some r) :
  Calls Try.prog 98 #[.int .i64 a0, .int .i64 a1, .int .i64 a2] w fun e w' => e = .returned (.bool r) ∧ Drawn0 w w' := by
 have H : (if a0 ≥ a1 then (some (decide (a0 ≤ a2))) else (some false)) = some r := h; clear h
 by_cases c4 : a0 ≥ a1
 ·rw [if_pos c4] at H
  have c4b0 := qge c4; clear c4; obtain rfl := Option.some.inj H
  go_enter Try.func98, Try.ntmps98
  go_wp2
  go_ret
  exact ⟨qa4, qa6⟩
 ·rw [if_neg c4] at H
  have c4b0 := qnge c4; clear c4; obtain rfl := Option.some.inj H
  go_enter Try.func98, Try.ntmps98
  go_wp2
  go_ret
  exact ⟨qa4, qa6⟩
set_option maxHeartbeats 8000000
set_option maxRecDepth 100000
def impl_Done.f (l0 : List (S115)) : Option (Bool) := some (decide ((l0.length : Int) ≤ 4096))
theorem impl_Done.calls (A0 : Option Addr) (c0 : Nat) (l0 : List (S115)) (r : Bool) (w : World) (hr0 : Kd.C k115 w A0 l0.length l0) (hc0 : l0.length ≤ c0) (h : impl_Done.f l0 = some r) :
  Calls Try.prog 109 #[.slice A0 l0.length c0] w fun e w' => e = .returned (.bool r) ∧ Drawn0 w w' := by
 have HR0 := qO hr0; have HC0 := qO hc0; clear hr0 hc0; have H : (some (decide ((l0.length : Int) ≤ 4096))) = some r := h; clear h; obtain rfl := Option.some.inj H
 go_enter Try.func109, Try.ntmps109
 go_wp2
 go_ret
 exact ⟨qa4, qa6⟩
set_option maxHeartbeats 8000000
set_option maxRecDepth 100000
def impl_historyCode.l0 : Nat → List (S115) → List (S115) → Int → Int → Option (Int)
 | 0, _, _, _, _ => none
 | k + 1, x0, x8, x9, x10 => if x10 < x9 then (if 0 ≤ x10 then (if x10 < (x8.length : Int) then ((impl_within.f ((rd_T115 x8 x10).f1) 0 19).bind fun t104 => (if t104 = true then ((impl_within.f ((rd_T115 x8 x10).f2) 0 100000).bind fun t105 => (if t105 = true then ((impl_within.f ((rd_T115 x8 x10).f3) 0 x10).bind fun t106 => (if t106 = true then (impl_historyCode.l0 k x0 x8 x9 (wrap64 (x10 + 1))) else (some 1))) else (some 1))) else (some 1))) else (none)) else (none)) else (if (x0.length : Int) > 60 then (some 1) else (some 0))
def impl_historyCode.f (k : Nat) (l0 : List (S115)) : Option (Int) := (impl_Done.f l0).bind fun t101 => (if t101 = true then (impl_historyCode.l0 k l0 l0 (l0.length : Int) 0) else (some 2))
theorem impl_historyCode.calls (k : Nat) (A0 : Option Addr) (c0 : Nat) (l0 : List (S115)) (r : Int) (w : World) (hr0 : Kd.C k115 w A0 l0.length l0) (hc0 : l0.length ≤ c0) (h : impl_historyCode.f k l0 = some r) :
  Calls Try.prog 72 #[.slice A0 l0.length c0] w fun e w' => e = .returned (.int .i64 r) ∧ Below w.heap.size w w' := by
 have hu115 := Try.underlying115; have HR0 := qO hr0; have HC0 := qO hc0; clear hr0 hc0; have HB := qO (Below.refl w.heap.size w); have H : ((impl_Done.f l0).bind fun t101 => (if t101 = true then (impl_historyCode.l0 k l0 l0 (l0.length : Int) 0) else (some 2))) = some r := h; clear h; replace H := Option.bind_eq_some_iff.mp H; obtain ⟨t101, A20, H⟩ := H; have A2 := qO A20; clear A20
 by_cases c3 : t101 = true
 ·subst c3
  rw [if_pos rfl] at H; have H' := qO H; clear H
  go_enter Try.func72, Try.ntmps72
  go_wp2_with (first | ((with_reducible refine gate_callee (f := 109) rfl ?_); refine qGL 6 Try.func109 #[.slice A0 l0.length c0] ?_; (with_reducible refine (impl_Done.calls _ _ l0 true _ ?side1 ?side2 A2.out).mono ?_); (case side1 => exact qa63); (case side2 => exact HC0.out); rintro e w' ⟨rfl, ⟨nd, rfl⟩⟩; refine ⟨_, rfl, ?_⟩))
  go_loopg [10] k (fun kq v10 w' => ∃ (x10_1 : Int), v10 = .int .i64 x10_1 ∧ Aside0 (impl_historyCode.l0 kq l0 l0 (l0.length : Int) x10_1 = some r) ∧ Aside0 (kq ≤ k) ∧ Aside0 (Below w.heap.size w w'))
  case atStart => exact ⟨(0), qa4, H', ⟨Nat.le_refl _⟩, ⟨qH HB.out⟩⟩
  case round =>
   clear H'
   obtain ⟨x10_1, rfl, HA, HK1, HB⟩ := hrel
   cases gk with
   | zero => exact absurd HA.out (by simp [impl_historyCode.l0])
   | succ k1 =>
    have H := HA.out; clear HA; simp only [impl_historyCode.l0] at H
    by_cases c4 : x10_1 < (l0.length : Int)
    ·rw [if_pos c4] at H
     have c4b0 := decide_eq_true c4; clear c4
     by_cases c5 : 0 ≤ x10_1
     ·rw [if_pos c5] at H
      have c5b0 := decide_eq_true c5; clear c5
      by_cases c6 : x10_1 < (l0.length : Int)
      ·rw [if_pos c6] at H
       have c6b0 := decide_eq_true c6; clear c6; replace H := Option.bind_eq_some_iff.mp H; obtain ⟨t104, A70, H⟩ := H; have A7 := qO A70; clear A70
       by_cases c8 : t104 = true
       ·subst c8
        rw [if_pos rfl] at H; replace H := Option.bind_eq_some_iff.mp H; obtain ⟨t105, A90, H⟩ := H; have A9 := qO A90; clear A90
        by_cases c10 : t105 = true
        ·subst c10
         rw [if_pos rfl] at H; replace H := Option.bind_eq_some_iff.mp H; obtain ⟨t106, A110, H⟩ := H; have A11 := qO A110; clear A110
         by_cases c12 : t106 = true
         ·subst c12
          rw [if_pos rfl] at H; have H' := qO H; clear H; have p102 : 0 ≤ (x10_1 : Int) := qT qa2; have q102 : x10_1 < (l0.length : Int) := qT qa2; obtain ⟨ad102, A102_5, c102_5, A102_6, c102_6, e102, hx102_0, hx102_1, hx102_2, hx102_3, hx102_4, hx102_5, hx102_6, hx102_7, hl102_5, hi102_5, hl102_6, hi102_6⟩ := at_T115 HR0.out x10_1 p102 q102
          cases e102
          replace hx102_0 := (HB.out.cell (qL w _ hx102_0)).trans hx102_0; replace hx102_1 := (HB.out.cell (qL w _ hx102_1)).trans hx102_1; replace hx102_2 := (HB.out.cell (qL w _ hx102_2)).trans hx102_2; replace hx102_3 := (HB.out.cell (qL w _ hx102_3)).trans hx102_3; replace hx102_4 := (HB.out.cell (qL w _ hx102_4)).trans hx102_4; replace hx102_5 := (HB.out.cell (qL w _ hx102_5)).trans hx102_5; replace hx102_6 := (HB.out.cell (qL w _ hx102_6)).trans hx102_6; replace hx102_7 := (HB.out.cell (qL w _ hx102_7)).trans hx102_7; have HR102_5 := qO hi102_5; have HC102_5 := qO hl102_5; clear hi102_5 hl102_5; have HR102_6 := qO hi102_6; have HC102_6 := qO hl102_6; clear hi102_6 hl102_6; replace p102 := eq_true p102; replace q102 := eq_true q102
          go_wp2_with (first | ((with_reducible refine gate_dst (N := 4) rfl ?_); refine qX 4 #[.int .i64 0, .int .i64 0, .int .i64 0, .int .i64 0, .bool false, .slice none 0 0, .slice none 0 0, .string (⟨#[]⟩ : ByteArray)] 115 ?_; intro gb103 hg w13 hbox hb; have hx_ := qHX HB hb qa0; have BK103 := qO (hbox); have GW103 := qO ((qa3 : w.heap.size ≤ gb103)); have GE103 := GW103; replace HB := qO (below_step (below_step HB.out hx_) hb); clear hx_ hb hbox hg; have hcz14_0 := qc0 BK103.out; have hcz14_1 := qc1 BK103.out; have hcz14_2 := qc2 BK103.out; have hcz14_3 := qc3 BK103.out; have hcz14_4 := qc4 BK103.out; have hcz14_5 := qc5 BK103.out; have hcz14_6 : w13.cell? ⟨gb103, 6, none⟩ = some (.slice none 0 0) := (blk_cell BK103.out 6).trans rfl; have hcz14_7 : w13.cell? ⟨gb103, 7, none⟩ = some (.string (⟨#[]⟩ : ByteArray)) := (blk_cell BK103.out 7).trans rfl; have hfz14_0 := blk_frozen BK103.out 0; have hfz14_1 := blk_frozen BK103.out 1; have hfz14_2 := blk_frozen BK103.out 2; have hfz14_3 := blk_frozen BK103.out 3; have hfz14_4 := blk_frozen BK103.out 4; have hfz14_5 := blk_frozen BK103.out 5; have hfz14_6 := blk_frozen BK103.out 6; have hfz14_7 := blk_frozen BK103.out 7) | ((with_reducible refine gate_callee (f := 98) rfl ?_); refine qGL 17 Try.func98 #[.int .i64 ((rd_T115 l0 x10_1).f1), .int .i64 0, .int .i64 19] ?_; (with_reducible refine (impl_within.calls ((rd_T115 l0 x10_1).f1) 0 19 true _ A7.out).mono ?_); rintro e w' ⟨rfl, ⟨nd, rfl⟩⟩; refine ⟨_, rfl, ?_⟩) | (go_at_call 98; (with_reducible refine (impl_within.calls ((rd_T115 l0 x10_1).f2) 0 100000 true _ A9.out).mono ?_); rintro e w' ⟨rfl, ⟨nd, rfl⟩⟩) | (go_at_call 98; (with_reducible refine (impl_within.calls ((rd_T115 l0 x10_1).f3) 0 x10_1 true _ A11.out).mono ?_); rintro e w' ⟨rfl, ⟨nd, rfl⟩⟩))
          go_roundg k1
          case measure => have := HK1.out; omega
          case rel => exact ⟨(wrap64 (x10_1 + 1)), qa4, H', ⟨qa9⟩, ⟨qH HB.out⟩⟩
         ·replace c12 := Bool.eq_false_iff.mpr c12
          subst c12; rw [qfn] at H; obtain rfl := Option.some.inj H; have p102 : 0 ≤ (x10_1 : Int) := qT qa2; have q102 : x10_1 < (l0.length : Int) := qT qa2; obtain ⟨ad102, A102_5, c102_5, A102_6, c102_6, e102, hx102_0, hx102_1, hx102_2, hx102_3, hx102_4, hx102_5, hx102_6, hx102_7, hl102_5, hi102_5, hl102_6, hi102_6⟩ := at_T115 HR0.out x10_1 p102 q102
          cases e102
          replace hx102_0 := (HB.out.cell (qL w _ hx102_0)).trans hx102_0; replace hx102_1 := (HB.out.cell (qL w _ hx102_1)).trans hx102_1; replace hx102_2 := (HB.out.cell (qL w _ hx102_2)).trans hx102_2; replace hx102_3 := (HB.out.cell (qL w _ hx102_3)).trans hx102_3; replace hx102_4 := (HB.out.cell (qL w _ hx102_4)).trans hx102_4; replace hx102_5 := (HB.out.cell (qL w _ hx102_5)).trans hx102_5; replace hx102_6 := (HB.out.cell (qL w _ hx102_6)).trans hx102_6; replace hx102_7 := (HB.out.cell (qL w _ hx102_7)).trans hx102_7; have HR102_5 := qO hi102_5; have HC102_5 := qO hl102_5; clear hi102_5 hl102_5; have HR102_6 := qO hi102_6; have HC102_6 := qO hl102_6; clear hi102_6 hl102_6; replace p102 := eq_true p102; replace q102 := eq_true q102
          go_wp2_with (first | ((with_reducible refine gate_dst (N := 4) rfl ?_); refine qX 4 #[.int .i64 0, .int .i64 0, .int .i64 0, .int .i64 0, .bool false, .slice none 0 0, .slice none 0 0, .string (⟨#[]⟩ : ByteArray)] 115 ?_; intro gb103 hg w15 hbox hb; have hx_ := qHX HB hb qa0; have BK103 := qO (hbox); have GW103 := qO ((qa3 : w.heap.size ≤ gb103)); have GE103 := GW103; replace HB := qO (below_step (below_step HB.out hx_) hb); clear hx_ hb hbox hg; have hcz16_0 := qc0 BK103.out; have hcz16_1 := qc1 BK103.out; have hcz16_2 := qc2 BK103.out; have hcz16_3 := qc3 BK103.out; have hcz16_4 := qc4 BK103.out; have hcz16_5 := qc5 BK103.out; have hcz16_6 : w15.cell? ⟨gb103, 6, none⟩ = some (.slice none 0 0) := (blk_cell BK103.out 6).trans rfl; have hcz16_7 : w15.cell? ⟨gb103, 7, none⟩ = some (.string (⟨#[]⟩ : ByteArray)) := (blk_cell BK103.out 7).trans rfl; have hfz16_0 := blk_frozen BK103.out 0; have hfz16_1 := blk_frozen BK103.out 1; have hfz16_2 := blk_frozen BK103.out 2; have hfz16_3 := blk_frozen BK103.out 3; have hfz16_4 := blk_frozen BK103.out 4; have hfz16_5 := blk_frozen BK103.out 5; have hfz16_6 := blk_frozen BK103.out 6; have hfz16_7 := blk_frozen BK103.out 7) | ((with_reducible refine gate_callee (f := 98) rfl ?_); refine qGL 17 Try.func98 #[.int .i64 ((rd_T115 l0 x10_1).f1), .int .i64 0, .int .i64 19] ?_; (with_reducible refine (impl_within.calls ((rd_T115 l0 x10_1).f1) 0 19 true _ A7.out).mono ?_); rintro e w' ⟨rfl, ⟨nd, rfl⟩⟩; refine ⟨_, rfl, ?_⟩) | (go_at_call 98; (with_reducible refine (impl_within.calls ((rd_T115 l0 x10_1).f2) 0 100000 true _ A9.out).mono ?_); rintro e w' ⟨rfl, ⟨nd, rfl⟩⟩) | (go_at_call 98; (with_reducible refine (impl_within.calls ((rd_T115 l0 x10_1).f3) 0 x10_1 false _ A11.out).mono ?_); rintro e w' ⟨rfl, ⟨nd, rfl⟩⟩))
          go_ret
          exact ⟨qa1, qH HB.out⟩
        ·replace c10 := Bool.eq_false_iff.mpr c10
         subst c10; rw [qfn] at H; obtain rfl := Option.some.inj H; have p102 : 0 ≤ (x10_1 : Int) := qT qa2; have q102 : x10_1 < (l0.length : Int) := qT qa2; obtain ⟨ad102, A102_5, c102_5, A102_6, c102_6, e102, hx102_0, hx102_1, hx102_2, hx102_3, hx102_4, hx102_5, hx102_6, hx102_7, hl102_5, hi102_5, hl102_6, hi102_6⟩ := at_T115 HR0.out x10_1 p102 q102
         cases e102
         replace hx102_0 := (HB.out.cell (qL w _ hx102_0)).trans hx102_0; replace hx102_1 := (HB.out.cell (qL w _ hx102_1)).trans hx102_1; replace hx102_2 := (HB.out.cell (qL w _ hx102_2)).trans hx102_2; replace hx102_3 := (HB.out.cell (qL w _ hx102_3)).trans hx102_3; replace hx102_4 := (HB.out.cell (qL w _ hx102_4)).trans hx102_4; replace hx102_5 := (HB.out.cell (qL w _ hx102_5)).trans hx102_5; replace hx102_6 := (HB.out.cell (qL w _ hx102_6)).trans hx102_6; replace hx102_7 := (HB.out.cell (qL w _ hx102_7)).trans hx102_7; have HR102_5 := qO hi102_5; have HC102_5 := qO hl102_5; clear hi102_5 hl102_5; have HR102_6 := qO hi102_6; have HC102_6 := qO hl102_6; clear hi102_6 hl102_6; replace p102 := eq_true p102; replace q102 := eq_true q102
         go_wp2_with (first | ((with_reducible refine gate_dst (N := 4) rfl ?_); refine qX 4 #[.int .i64 0, .int .i64 0, .int .i64 0, .int .i64 0, .bool false, .slice none 0 0, .slice none 0 0, .string (⟨#[]⟩ : ByteArray)] 115 ?_; intro gb103 hg w17 hbox hb; have hx_ := qHX HB hb qa0; have BK103 := qO (hbox); have GW103 := qO ((qa3 : w.heap.size ≤ gb103)); have GE103 := GW103; replace HB := qO (below_step (below_step HB.out hx_) hb); clear hx_ hb hbox hg; have hcz18_0 := qc0 BK103.out; have hcz18_1 := qc1 BK103.out; have hcz18_2 := qc2 BK103.out; have hcz18_3 := qc3 BK103.out; have hcz18_4 := qc4 BK103.out; have hcz18_5 := qc5 BK103.out; have hcz18_6 : w17.cell? ⟨gb103, 6, none⟩ = some (.slice none 0 0) := (blk_cell BK103.out 6).trans rfl; have hcz18_7 : w17.cell? ⟨gb103, 7, none⟩ = some (.string (⟨#[]⟩ : ByteArray)) := (blk_cell BK103.out 7).trans rfl; have hfz18_0 := blk_frozen BK103.out 0; have hfz18_1 := blk_frozen BK103.out 1; have hfz18_2 := blk_frozen BK103.out 2; have hfz18_3 := blk_frozen BK103.out 3; have hfz18_4 := blk_frozen BK103.out 4; have hfz18_5 := blk_frozen BK103.out 5; have hfz18_6 := blk_frozen BK103.out 6; have hfz18_7 := blk_frozen BK103.out 7) | ((with_reducible refine gate_callee (f := 98) rfl ?_); refine qGL 17 Try.func98 #[.int .i64 ((rd_T115 l0 x10_1).f1), .int .i64 0, .int .i64 19] ?_; (with_reducible refine (impl_within.calls ((rd_T115 l0 x10_1).f1) 0 19 true _ A7.out).mono ?_); rintro e w' ⟨rfl, ⟨nd, rfl⟩⟩; refine ⟨_, rfl, ?_⟩) | (go_at_call 98; (with_reducible refine (impl_within.calls ((rd_T115 l0 x10_1).f2) 0 100000 false _ A9.out).mono ?_); rintro e w' ⟨rfl, ⟨nd, rfl⟩⟩))
         go_ret
         exact ⟨qa1, qH HB.out⟩
       ·replace c8 := Bool.eq_false_iff.mpr c8
        subst c8; rw [qfn] at H; obtain rfl := Option.some.inj H; have p102 : 0 ≤ (x10_1 : Int) := qT qa2; have q102 : x10_1 < (l0.length : Int) := qT qa2; obtain ⟨ad102, A102_5, c102_5, A102_6, c102_6, e102, hx102_0, hx102_1, hx102_2, hx102_3, hx102_4, hx102_5, hx102_6, hx102_7, hl102_5, hi102_5, hl102_6, hi102_6⟩ := at_T115 HR0.out x10_1 p102 q102
        cases e102
        replace hx102_0 := (HB.out.cell (qL w _ hx102_0)).trans hx102_0; replace hx102_1 := (HB.out.cell (qL w _ hx102_1)).trans hx102_1; replace hx102_2 := (HB.out.cell (qL w _ hx102_2)).trans hx102_2; replace hx102_3 := (HB.out.cell (qL w _ hx102_3)).trans hx102_3; replace hx102_4 := (HB.out.cell (qL w _ hx102_4)).trans hx102_4; replace hx102_5 := (HB.out.cell (qL w _ hx102_5)).trans hx102_5; replace hx102_6 := (HB.out.cell (qL w _ hx102_6)).trans hx102_6; replace hx102_7 := (HB.out.cell (qL w _ hx102_7)).trans hx102_7; have HR102_5 := qO hi102_5; have HC102_5 := qO hl102_5; clear hi102_5 hl102_5; have HR102_6 := qO hi102_6; have HC102_6 := qO hl102_6; clear hi102_6 hl102_6; replace p102 := eq_true p102; replace q102 := eq_true q102
        go_wp2_with (first | ((with_reducible refine gate_dst (N := 4) rfl ?_); refine qX 4 #[.int .i64 0, .int .i64 0, .int .i64 0, .int .i64 0, .bool false, .slice none 0 0, .slice none 0 0, .string (⟨#[]⟩ : ByteArray)] 115 ?_; intro gb103 hg w19 hbox hb; have hx_ := qHX HB hb qa0; have BK103 := qO (hbox); have GW103 := qO ((qa3 : w.heap.size ≤ gb103)); have GE103 := GW103; replace HB := qO (below_step (below_step HB.out hx_) hb); clear hx_ hb hbox hg; have hcz20_0 := qc0 BK103.out; have hcz20_1 := qc1 BK103.out; have hcz20_2 := qc2 BK103.out; have hcz20_3 := qc3 BK103.out; have hcz20_4 := qc4 BK103.out; have hcz20_5 := qc5 BK103.out; have hcz20_6 : w19.cell? ⟨gb103, 6, none⟩ = some (.slice none 0 0) := (blk_cell BK103.out 6).trans rfl; have hcz20_7 : w19.cell? ⟨gb103, 7, none⟩ = some (.string (⟨#[]⟩ : ByteArray)) := (blk_cell BK103.out 7).trans rfl; have hfz20_0 := blk_frozen BK103.out 0; have hfz20_1 := blk_frozen BK103.out 1; have hfz20_2 := blk_frozen BK103.out 2; have hfz20_3 := blk_frozen BK103.out 3; have hfz20_4 := blk_frozen BK103.out 4; have hfz20_5 := blk_frozen BK103.out 5; have hfz20_6 := blk_frozen BK103.out 6; have hfz20_7 := blk_frozen BK103.out 7) | ((with_reducible refine gate_callee (f := 98) rfl ?_); refine qGL 17 Try.func98 #[.int .i64 ((rd_T115 l0 x10_1).f1), .int .i64 0, .int .i64 19] ?_; (with_reducible refine (impl_within.calls ((rd_T115 l0 x10_1).f1) 0 19 false _ A7.out).mono ?_); rintro e w' ⟨rfl, ⟨nd, rfl⟩⟩; refine ⟨_, rfl, ?_⟩))
        go_ret
        exact ⟨qa1, qH HB.out⟩
      ·rw [if_neg c6] at H
       exact absurd H qa12
     ·rw [if_neg c5] at H
      exact absurd H qa12
    ·rw [if_neg c4] at H
     have c4b0 := decide_eq_false c4; clear c4
     by_cases c21 : (l0.length : Int) > 60
     ·rw [if_pos c21] at H
      have c21b0 := qgt c21; have c21b1 : decide (60 < l0.length) = true := decide_eq_true qa5; clear c21; obtain rfl := Option.some.inj H; go_wp2
      go_ret
      exact ⟨qa1, qH HB.out⟩
     ·rw [if_neg c21] at H
      have c21b0 := qngt c21; have c21b1 : decide (60 < l0.length) = false := decide_eq_false qa5; clear c21; obtain rfl := Option.some.inj H; go_wp2
      go_ret
      exact ⟨qa1, qH HB.out⟩
 ·replace c3 := Bool.eq_false_iff.mpr c3
  subst c3; rw [qfn] at H; obtain rfl := Option.some.inj H
  go_enter Try.func72, Try.ntmps72
  go_wp2_with (first | ((with_reducible refine gate_callee (f := 109) rfl ?_); refine qGL 6 Try.func109 #[.slice A0 l0.length c0] ?_; (with_reducible refine (impl_Done.calls _ _ l0 false _ ?side1 ?side2 A2.out).mono ?_); (case side1 => exact qa63); (case side2 => exact HC0.out); rintro e w' ⟨rfl, ⟨nd, rfl⟩⟩; refine ⟨_, rfl, ?_⟩))
  go_ret
  exact ⟨qa1, qH HB.out⟩
set_option maxHeartbeats 8000000
set_option maxRecDepth 100000
def impl_committed.l0 : Nat → List Int → List (S115) → Int → Int → Option (List Int)
 | 0, _, _, _, _ => none
 | k + 1, x3, x7, x8, x9 => if x9 < x8 then (if 0 ≤ x9 then (if x9 < (x7.length : Int) then (if ((rd_T115 x7 x9).f1) = 0 then (if x3.length < 17592186044416 then (impl_committed.l0 k (x3 ++ [x9]) x7 x8 (wrap64 (x9 + 1))) else (none)) else (impl_committed.l0 k x3 x7 x8 (wrap64 (x9 + 1)))) else (none)) else (none)) else (some x3)
def impl_committed.f (k : Nat) (l0 : List (S115)) : Option (List Int) := impl_committed.l0 k (([] : List Int)) l0 (l0.length : Int) 0
theorem impl_committed.calls (k : Nat) (A0 : Option Addr) (c0 : Nat) (l0 : List (S115)) (r : List Int) (w : World) (hr0 : Kd.C k115 w A0 l0.length l0) (hc0 : l0.length ≤ c0) (h : impl_committed.f k l0 = some r) :
  Calls Try.prog 73 #[.slice A0 l0.length c0] w fun e w' => ∃ v0_ : Value, e = .returned (v0_) ∧ Kd.R (Kd.int .i64) 3 w' w.heap.size (fun _ => True) v0_ r ∧ Below w.heap.size w w' := by
 have hu115 := Try.underlying115; have HR0 := qO hr0; have HC0 := qO hc0; clear hr0 hc0; have HB := qO (Below.refl w.heap.size w); have H : (impl_committed.l0 k (([] : List Int)) l0 (l0.length : Int) 0) = some r := h; clear h; obtain ⟨y101, hy101⟩ : ∃ y_ : List Int, y_ = (([] : List Int)) := ⟨_, rfl⟩; (first | replace H := qsb hy101 H | rw [← hy101] at H)
 have Ny101 := qO hy101; clear hy101; have H' := qO H; clear H
 go_enter Try.func73, Try.ntmps73
 go_wp2_with (first | ((with_reducible refine gate_dst (N := 6) rfl ?_); refine Kd.R_lit (Kd.int .i64) _ 3 ?hg (N := 6) ?hd (xs := ([] : List Int)) (inner := []) (ok := fun _ => True) (okp := fun _ => True) ?hr ?hp (fun _ hk => hk) trivial (Below.refl _ _) (Nat.le_refl _) qa12 ?_; (case hd => rfl); (case hg => rfl); (case hr => exact qa21); (case hp => exact (Reps.none _ _)); intro v102 w2 ho3 hb hg_ hnew_; clear hg_ hnew_; (first | rw [← Ny101.out] at ho3 | (simp only [Int.reduceToNat] at ho3; rw [← Ny101.out] at ho3)); have HO103 := qO (Kd.R_lower ho3 (below_size (qH HB.out))); replace HB := qO (below_step (qH HB.out) hb); clear hb ho3))
 go_loopg [3, 9] k (fun kq v3 v9 w' => ∃ (x3_1 : List Int) (x9_1 : Int), v9 = .int .i64 x9_1 ∧ Aside0 (impl_committed.l0 kq x3_1 l0 (l0.length : Int) x9_1 = some r) ∧ Aside0 (kq ≤ k) ∧ Aside0 (Kd.R (Kd.int .i64) 3 w' w.heap.size (fun _ => True) v3 x3_1) ∧ Aside0 (Below w.heap.size w w'))
 case atStart => exact ⟨(y101), (0), qa4, H', ⟨Nat.le_refl _⟩, ⟨qrR HO103.out⟩, ⟨qH HB.out⟩⟩
 case round =>
  clear H'
  obtain ⟨x3_1, x9_1, rfl, HA, HK1, HO_3, HB⟩ := hrel
  cases gk with
  | zero => exact absurd HA.out (by simp [impl_committed.l0])
  | succ k1 =>
   have H := HA.out; clear HA; simp only [impl_committed.l0] at H
   by_cases c4 : x9_1 < (l0.length : Int)
   ·rw [if_pos c4] at H
    have c4b0 := decide_eq_true c4; clear c4
    by_cases c5 : 0 ≤ x9_1
    ·rw [if_pos c5] at H
     have c5b0 := decide_eq_true c5; clear c5
     by_cases c6 : x9_1 < (l0.length : Int)
     ·rw [if_pos c6] at H
      have c6b0 := decide_eq_true c6; clear c6
      by_cases c7 : ((rd_T115 l0 x9_1).f1) = 0
      ·rw [if_pos c7] at H
       have c7b0 := beq_iff_eq.mpr c7; have c7b1 := bne_eq_false_iff_eq.mpr c7; clear c7
       by_cases c8 : x3_1.length < 17592186044416
       ·rw [if_pos c8] at H
        have LMc8 := qO c8; clear c8; obtain ⟨y106, hy106⟩ : ∃ y_ : List Int, y_ = (x3_1 ++ [x9_1]) := ⟨_, rfl⟩; (first | replace H := qsb hy106 H | rw [← hy106] at H)
        have Ny106 := qO hy106; clear hy106; have H' := qO H; clear H; have p104 : 0 ≤ (x9_1 : Int) := qT qa2; have q104 : x9_1 < (l0.length : Int) := qT qa2; obtain ⟨ad104, A104_5, c104_5, A104_6, c104_6, e104, hx104_0, hx104_1, hx104_2, hx104_3, hx104_4, hx104_5, hx104_6, hx104_7, hl104_5, hi104_5, hl104_6, hi104_6⟩ := at_T115 HR0.out x9_1 p104 q104
        cases e104
        replace hx104_0 := (HB.out.cell (qL w _ hx104_0)).trans hx104_0; replace hx104_1 := (HB.out.cell (qL w _ hx104_1)).trans hx104_1; replace hx104_2 := (HB.out.cell (qL w _ hx104_2)).trans hx104_2; replace hx104_3 := (HB.out.cell (qL w _ hx104_3)).trans hx104_3; replace hx104_4 := (HB.out.cell (qL w _ hx104_4)).trans hx104_4; replace hx104_5 := (HB.out.cell (qL w _ hx104_5)).trans hx104_5; replace hx104_6 := (HB.out.cell (qL w _ hx104_6)).trans hx104_6; replace hx104_7 := (HB.out.cell (qL w _ hx104_7)).trans hx104_7; have HR104_5 := qO hi104_5; have HC104_5 := qO hl104_5; clear hi104_5 hl104_5; have HR104_6 := qO hi104_6; have HC104_6 := qO hl104_6; clear hi104_6 hl104_6; replace p104 := eq_true p104; replace q104 := eq_true q104
        go_wp2_with (first | ((with_reducible refine gate_dst (N := 5) rfl ?_); refine qX 5 #[.int .i64 0, .int .i64 0, .int .i64 0, .int .i64 0, .bool false, .slice none 0 0, .slice none 0 0, .string (⟨#[]⟩ : ByteArray)] 115 ?_; intro gb105 hg w9 hbox hb; have hx_ := qHX HB hb qa0; have BK105 := qO (hbox); have GW105 := qO ((qa3 : w.heap.size ≤ gb105)); have GE105 := GW105; replace HO_3 := qO (Kd.R_below (qrR HO_3.out) hb); replace HB := qO (below_step (below_step HB.out hx_) hb); clear hx_ hb hbox hg; have hcz10_0 := qc0 BK105.out; have hcz10_1 := qc1 BK105.out; have hcz10_2 := qc2 BK105.out; have hcz10_3 := qc3 BK105.out; have hcz10_4 := qc4 BK105.out; have hcz10_5 := qc5 BK105.out; have hcz10_6 : w9.cell? ⟨gb105, 6, none⟩ = some (.slice none 0 0) := (blk_cell BK105.out 6).trans rfl; have hcz10_7 : w9.cell? ⟨gb105, 7, none⟩ = some (.string (⟨#[]⟩ : ByteArray)) := (blk_cell BK105.out 7).trans rfl; have hfz10_0 := blk_frozen BK105.out 0; have hfz10_1 := blk_frozen BK105.out 1; have hfz10_2 := blk_frozen BK105.out 2; have hfz10_3 := blk_frozen BK105.out 3; have hfz10_4 := blk_frozen BK105.out 4; have hfz10_5 := blk_frozen BK105.out 5; have hfz10_6 := blk_frozen BK105.out 6; have hfz10_7 := blk_frozen BK105.out 7) | ((with_reducible refine gate_builtin (b := .append) (xs := #[.tmp 17, .tmp 19]) rfl ?_); at_builtin; refine Kd.R_append (Kd.int .i64) (w0 := w) w.heap.size rfl (.tmp 17) (.tmp 19) 53 3 (.int .i64 0) 8 rfl Try.underlying53 info3 rfl qa20 qa5 u3 x3_1 x9_1 [.int .i64 x9_1] (fun _ => True) (fun _ => False) rfl qa21 ?aP (fun _ hk => hk.elim) ?aF ?aO ?aB ?aS ?aL ?_; (case aP => exact rfl); (case aB => exact (qH HB.out)); (case aF => exact (fun _ _ => trivial)); (case aO => exact (qrR (Kd.R_mono (Kd.R_far (p := ⟨gb105, 7, none⟩) (Kd.R_far (p := ⟨gb105, 6, none⟩) (Kd.R_far (p := ⟨gb105, 5, none⟩) (Kd.R_far (p := ⟨gb105, 4, none⟩) (Kd.R_far (p := ⟨gb105, 3, none⟩) (Kd.R_far (p := ⟨gb105, 2, none⟩) (Kd.R_far (p := ⟨gb105, 1, none⟩) (Kd.R_far (p := ⟨gb105, 0, none⟩) (Kd.R_types HO_3.out BK105.out (by decide)) (fun _ hk => hk.2) (.int .i64 ((rd_T115 l0 x9_1).f0))) (fun _ hk => hk.2) (.int .i64 ((rd_T115 l0 x9_1).f1))) (fun _ hk => hk.2) (.int .i64 ((rd_T115 l0 x9_1).f2))) (fun _ hk => hk.2) (.int .i64 ((rd_T115 l0 x9_1).f3))) (fun _ hk => hk.2) (.bool ((rd_T115 l0 x9_1).f4))) (fun _ hk => hk.2) (.slice A104_5 ((rd_T115 l0 x9_1).f5.f0.f0).length c104_5)) (fun _ hk => hk.2) (.slice A104_6 ((rd_T115 l0 x9_1).f5.f1).length c104_6)) (fun _ hk => hk.2) (.string ((rd_T115 l0 x9_1).f6))) (fun _ hk => trivial)))); (case aS => exact (below_size (qH HB.out))); (case aL => have := LMc8.out; omega); intro v107 w11 ho hb hg hat; rw [← Ny106.out] at ho; have HO108 := qO (ho); replace BK105 := qO (blk_grown (g := gb105) (o := .cells #[.int .i64 ((rd_T115 l0 x9_1).f0), .int .i64 ((rd_T115 l0 x9_1).f1), .int .i64 ((rd_T115 l0 x9_1).f2), .int .i64 ((rd_T115 l0 x9_1).f3), .bool ((rd_T115 l0 x9_1).f4), .slice A104_5 ((rd_T115 l0 x9_1).f5.f0.f0).length c104_5, .slice A104_6 ((rd_T115 l0 x9_1).f5.f1).length c104_6, .string ((rd_T115 l0 x9_1).f6)] 115 (0, 0)) (qU (qU (qU (qU (qU (qU (qU (qU BK105.out)))))))) hg (Kd.R_ne HO_3.out BK105.out qa20)); replace HB := qO (hb); clear HO_3 ho hb hg hat))
        go_roundg k1
        case measure => have := HK1.out; omega
        case rel => exact ⟨(y106), (wrap64 (x9_1 + 1)), qa4, H', ⟨qa9⟩, ⟨qrR HO108.out⟩, ⟨qH HB.out⟩⟩
       ·rw [if_neg c8] at H
        exact absurd H qa12
      ·rw [if_neg c7] at H
       have c7b0 := beq_eq_false_iff_ne.mpr c7; have c7b1 := bne_iff_ne.mpr c7; have H' := qO H; clear H; have p104 : 0 ≤ (x9_1 : Int) := qT qa2; have q104 : x9_1 < (l0.length : Int) := qT qa2; obtain ⟨ad104, A104_5, c104_5, A104_6, c104_6, e104, hx104_0, hx104_1, hx104_2, hx104_3, hx104_4, hx104_5, hx104_6, hx104_7, hl104_5, hi104_5, hl104_6, hi104_6⟩ := at_T115 HR0.out x9_1 p104 q104
       cases e104
       replace hx104_0 := (HB.out.cell (qL w _ hx104_0)).trans hx104_0; replace hx104_1 := (HB.out.cell (qL w _ hx104_1)).trans hx104_1; replace hx104_2 := (HB.out.cell (qL w _ hx104_2)).trans hx104_2; replace hx104_3 := (HB.out.cell (qL w _ hx104_3)).trans hx104_3; replace hx104_4 := (HB.out.cell (qL w _ hx104_4)).trans hx104_4; replace hx104_5 := (HB.out.cell (qL w _ hx104_5)).trans hx104_5; replace hx104_6 := (HB.out.cell (qL w _ hx104_6)).trans hx104_6; replace hx104_7 := (HB.out.cell (qL w _ hx104_7)).trans hx104_7; have HR104_5 := qO hi104_5; have HC104_5 := qO hl104_5; clear hi104_5 hl104_5; have HR104_6 := qO hi104_6; have HC104_6 := qO hl104_6; clear hi104_6 hl104_6; replace p104 := eq_true p104; replace q104 := eq_true q104
       go_wp2_with (first | ((with_reducible refine gate_dst (N := 5) rfl ?_); refine qX 5 #[.int .i64 0, .int .i64 0, .int .i64 0, .int .i64 0, .bool false, .slice none 0 0, .slice none 0 0, .string (⟨#[]⟩ : ByteArray)] 115 ?_; intro gb105 hg w12 hbox hb; have hx_ := qHX HB hb qa0; have BK105 := qO (hbox); have GW105 := qO ((qa3 : w.heap.size ≤ gb105)); have GE105 := GW105; replace HO_3 := qO (Kd.R_below (qrR HO_3.out) hb); replace HB := qO (below_step (below_step HB.out hx_) hb); clear hx_ hb hbox hg; have hcz13_0 := qc0 BK105.out; have hcz13_1 := qc1 BK105.out; have hcz13_2 := qc2 BK105.out; have hcz13_3 := qc3 BK105.out; have hcz13_4 := qc4 BK105.out; have hcz13_5 := qc5 BK105.out; have hcz13_6 : w12.cell? ⟨gb105, 6, none⟩ = some (.slice none 0 0) := (blk_cell BK105.out 6).trans rfl; have hcz13_7 : w12.cell? ⟨gb105, 7, none⟩ = some (.string (⟨#[]⟩ : ByteArray)) := (blk_cell BK105.out 7).trans rfl; have hfz13_0 := blk_frozen BK105.out 0; have hfz13_1 := blk_frozen BK105.out 1; have hfz13_2 := blk_frozen BK105.out 2; have hfz13_3 := blk_frozen BK105.out 3; have hfz13_4 := blk_frozen BK105.out 4; have hfz13_5 := blk_frozen BK105.out 5; have hfz13_6 := blk_frozen BK105.out 6; have hfz13_7 := blk_frozen BK105.out 7))
       go_roundg k1
       case measure => have := HK1.out; omega
       case rel => exact ⟨(x3_1), (wrap64 (x9_1 + 1)), qa4, H', ⟨qa9⟩, ⟨qrR (Kd.R_mono (Kd.R_far (p := ⟨gb105, 7, none⟩) (Kd.R_far (p := ⟨gb105, 6, none⟩) (Kd.R_far (p := ⟨gb105, 5, none⟩) (Kd.R_far (p := ⟨gb105, 4, none⟩) (Kd.R_far (p := ⟨gb105, 3, none⟩) (Kd.R_far (p := ⟨gb105, 2, none⟩) (Kd.R_far (p := ⟨gb105, 1, none⟩) (Kd.R_far (p := ⟨gb105, 0, none⟩) (Kd.R_types HO_3.out BK105.out qa20) (fun _ hk => hk.2) (.int .i64 ((rd_T115 l0 x9_1).f0))) (fun _ hk => hk.2) (.int .i64 ((rd_T115 l0 x9_1).f1))) (fun _ hk => hk.2) (.int .i64 ((rd_T115 l0 x9_1).f2))) (fun _ hk => hk.2) (.int .i64 ((rd_T115 l0 x9_1).f3))) (fun _ hk => hk.2) (.bool ((rd_T115 l0 x9_1).f4))) (fun _ hk => hk.2) (.slice A104_5 ((rd_T115 l0 x9_1).f5.f0.f0).length c104_5)) (fun _ hk => hk.2) (.slice A104_6 ((rd_T115 l0 x9_1).f5.f1).length c104_6)) (fun _ hk => hk.2) (.string ((rd_T115 l0 x9_1).f6))) (fun _ hk => trivial))⟩, ⟨qH HB.out⟩⟩
     ·rw [if_neg c6] at H
      exact absurd H qa12
    ·rw [if_neg c5] at H
     exact absurd H qa12
   ·rw [if_neg c4] at H
    have c4b0 := decide_eq_false c4; clear c4; obtain rfl := Option.some.inj H; go_wp2
    go_ret
    exact ⟨_, qa1, qrR HO_3.out, qH HB.out⟩
end Go.Proofs.Ytfpkooafbeejmaa.Q
