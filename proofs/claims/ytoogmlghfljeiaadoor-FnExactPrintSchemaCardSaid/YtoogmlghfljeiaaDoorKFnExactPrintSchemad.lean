/- Texts of the claim on FnExactPrintSchema, gathered by a program of this session: what the program's functions compute (proved by walks), and the plain part. -/
import Derived.Test.YtoogmlghfljeiaaDoorKFnExactPrintSchemac
import Derived.Test.YtoogmlghfljeiaaDoorKFnExactPrintSchemaOpens
import Derived.KernelRfl
namespace Go.Proofs.YtoogmlghfljeiaaDoor.Q
open Go.RowKit Go.Proofs.YtoogmlghfljeiaaDoorW.PrintWords Go.Proofs.YtoogmlghfljeiaaDoorW.PrintLast Go.Proofs.YtoogmlghfljeiaaDoorW.PrintMore
attribute [local go_sem] max2_int min2_int max_two min_two max_three min_three max_four min_four
set_option linter.unusedVariables false
set_option linter.unusedSimpArgs false

def laws_eqFieldDef.f (k : Nat) (a0_0 : ByteArray) (l0_1 : List (S60)) (a0_2 : ByteArray) (a0_3 : Bool) (a0_4 : Bool) (a1_0 : ByteArray) (l1_1 : List (S60)) (a1_2 : ByteArray) (a1_3 : Bool) (a1_4 : Bool) : Option (Bool) := if a0_0.toList = a1_0.toList then ((laws_eqArgDefS.f k l0_1 l1_1).bind fun t103 => (if t103 = true then (if a0_2.toList = a1_2.toList then (if (a0_3 != a1_3) = true then (some false) else (if (a0_4 != a1_4) = true then (some false) else (some true))) else (some false)) else (some false))) else (some false)
set_option maxHeartbeats 8000000 in
set_option maxRecDepth 100000 in
theorem laws_eqFieldDef.calls (k : Nat) (a0_0 : ByteArray) (A0_1 : Option Addr) (c0_1 : Nat) (l0_1 : List (S60)) (a0_2 : ByteArray) (a0_3 : Bool) (a0_4 : Bool) (a1_0 : ByteArray) (A1_1 : Option Addr) (c1_1 : Nat) (l1_1 : List (S60)) (a1_2 : ByteArray) (a1_3 : Bool) (a1_4 : Bool) (r : Bool) (w : World) (hr0_1 : Kd.C k60 w A0_1 l0_1.length l0_1) (hc0_1 : l0_1.length ≤ c0_1) (hr1_1 : Kd.C k60 w A1_1 l1_1.length l1_1) (hc1_1 : l1_1.length ≤ c1_1) (h : laws_eqFieldDef.f k a0_0 l0_1 a0_2 a0_3 a0_4 a1_0 l1_1 a1_2 a1_3 a1_4 = some r) :
  Calls Tryd.prog 62 #[.agg #[.string a0_0, .slice A0_1 l0_1.length c0_1, .string a0_2, .bool a0_3, .bool a0_4], .agg #[.string a1_0, .slice A1_1 l1_1.length c1_1, .string a1_2, .bool a1_3, .bool a1_4]] w fun e w' => e = .returned (.bool r) ∧ Below w.heap.size w w' := by
 have hu47 := Tryd.underlying47; have HR0_1 := qO hr0_1; have HC0_1 := qO hc0_1; clear hr0_1 hc0_1; have HR1_1 := qO hr1_1; have HC1_1 := qO hc1_1; clear hr1_1 hc1_1; have HB := qO (Below.refl w.heap.size w); have H : (if a0_0.toList = a1_0.toList then ((laws_eqArgDefS.f k l0_1 l1_1).bind fun t103 => (if t103 = true then (if a0_2.toList = a1_2.toList then (if (a0_3 != a1_3) = true then (some false) else (if (a0_4 != a1_4) = true then (some false) else (some true))) else (some false)) else (some false))) else (some false)) = some r := h; clear h
 by_cases c3 : a0_0.toList = a1_0.toList
 ·rw [if_pos c3] at H
  have c3b0 : (a0_0.toList == a1_0.toList) = true := beq_iff_eq.mpr c3; have c3b1 : (a0_0.toList != a1_0.toList) = false := bne_eq_false_iff_eq.mpr c3; clear c3; replace H := Option.bind_eq_some_iff.mp H; obtain ⟨t103, A40, H⟩ := H; replace H : (if t103 = true then (if a0_2.toList = a1_2.toList then (if (a0_3 != a1_3) = true then (some false) else (if (a0_4 != a1_4) = true then (some false) else (some true))) else (some false)) else (some false)) = some r := H; have A4 := qO A40; clear A40
  by_cases c5 : t103 = true
  ·subst c5
   have H1 : (if a0_2.toList = a1_2.toList then (if (a0_3 != a1_3) = true then (some false) else (if (a0_4 != a1_4) = true then (some false) else (some true))) else (some false)) = some r := by rw [if_pos rfl] at H; exact H
   clear H; have H := H1; clear H1
   by_cases c6 : a0_2.toList = a1_2.toList
   ·rw [if_pos c6] at H
    have c6b0 : (a0_2.toList == a1_2.toList) = true := beq_iff_eq.mpr c6; have c6b1 : (a0_2.toList != a1_2.toList) = false := bne_eq_false_iff_eq.mpr c6; clear c6
    by_cases c7 : (a0_3 != a1_3) = true
    ·rw [if_pos c7] at H
     have c7b0 : (a0_3 != a1_3) = true := c7; (try (have c7b1 : decide (a0_3 = a1_3) = false := by simpa using c7)); (try (have c7b2 : (a0_3 == a1_3) = false := by simpa using c7)); (try (have c7b3 : ¬ (a0_3 = a1_3) := by simpa using c7)); clear c7; obtain rfl := Option.some.inj H
     go_enter Tryd.func62, Tryd.ntmps62
     go_wp2_with (first | ((with_reducible refine gate_dst (N := 2) rfl ?_); refine box_event ?hg (N := 2) ?hd (cs := #[.string a0_0, .slice A0_1 l0_1.length c0_1, .string a0_2, .bool a0_3, .bool a0_4]) (t := 47) ?hr ?_; (case hd => rfl); (case hg => rfl); (case hr => exact qa18); intro gb101 hg w8 hbox hb; have hx_ := qHX HB hb qa1; have n0_ := qO (below_step (below_step HB.out hx_) hb); have n1_ := qO (hbox); have n2_ := qO ((qa14 : w.heap.size ≤ gb101)); have n3_ := n2_; clear HB; have HB := n0_; have BK101 := n1_; have GW101 := n2_; have GE101 := n3_; clear n0_ n1_ n2_ n3_; clear hx_; clear hb hbox hg) | ((with_reducible refine gate_dst (N := 3) rfl ?_); refine box_event ?hg (N := 3) ?hd (cs := #[.string a1_0, .slice A1_1 l1_1.length c1_1, .string a1_2, .bool a1_3, .bool a1_4]) (t := 47) ?hr ?_; (case hd => rfl); (case hg => rfl); (case hr => exact qa18); intro gb102 hg w9 hbox hb; have hx_ := qHX HB hb qa1; have n0_ := qO (qB BK101.out hx_ hb); have n1_ := qO (below_step (below_step HB.out hx_) hb); have n2_ := qO (hbox); have n3_ := qO ((qa14 : w.heap.size ≤ gb102)); have n4_ := n3_; have n5_ := qO ((qa28 : gb101 ≠ gb102)); have n6_ := qO (Ne.symm n5_.out); clear BK101; clear HB; have BK101 := n0_; have HB := n1_; have BK102 := n2_; have GW102 := n3_; have GE102 := n4_; have NB101_102 := n5_; have NB102_101 := n6_; clear n0_ n1_ n2_ n3_ n4_ n5_ n6_; clear hx_; clear hb hbox hg; have hnb10 := NB101_102.out; have hnc10 := NB102_101.out; have hcz11_0 : w9.cell? ⟨gb101, 0, none⟩ = some (.string a0_0) := (blk_cell BK101.out 0).trans rfl; have hcz11_1 : w9.cell? ⟨gb101, 1, none⟩ = some (.slice A0_1 l0_1.length c0_1) := (blk_cell BK101.out 1).trans rfl; have hcz11_2 : w9.cell? ⟨gb101, 2, none⟩ = some (.string a0_2) := (blk_cell BK101.out 2).trans rfl; have hcz11_3 : w9.cell? ⟨gb101, 3, none⟩ = some (.bool a0_3) := (blk_cell BK101.out 3).trans rfl; have hcz11_4 : w9.cell? ⟨gb101, 4, none⟩ = some (.bool a0_4) := (blk_cell BK101.out 4).trans rfl; have hfz11_0 := blk_frozen BK101.out 0; have hfz11_1 := blk_frozen BK101.out 1; have hfz11_2 := blk_frozen BK101.out 2; have hfz11_3 := blk_frozen BK101.out 3; have hfz11_4 := blk_frozen BK101.out 4; have hcz12_0 : w9.cell? ⟨gb102, 0, none⟩ = some (.string a1_0) := (blk_cell BK102.out 0).trans rfl; have hcz12_1 : w9.cell? ⟨gb102, 1, none⟩ = some (.slice A1_1 l1_1.length c1_1) := (blk_cell BK102.out 1).trans rfl; have hcz12_2 : w9.cell? ⟨gb102, 2, none⟩ = some (.string a1_2) := (blk_cell BK102.out 2).trans rfl; have hcz12_3 : w9.cell? ⟨gb102, 3, none⟩ = some (.bool a1_3) := (blk_cell BK102.out 3).trans rfl; have hcz12_4 : w9.cell? ⟨gb102, 4, none⟩ = some (.bool a1_4) := (blk_cell BK102.out 4).trans rfl; have hfz12_0 := blk_frozen BK102.out 0; have hfz12_1 := blk_frozen BK102.out 1; have hfz12_2 := blk_frozen BK102.out 2; have hfz12_3 := blk_frozen BK102.out 3; have hfz12_4 := blk_frozen BK102.out 4) | ((with_reducible refine gate_callee (f := 68) rfl ?_); refine goesL_ (some 14) rfl rfl Tryd.func68 qa16 rfl #[.slice A0_1 l0_1.length c0_1, .slice A1_1 l1_1.length c1_1] rfl qa0 ?_; (with_reducible refine (laws_eqArgDefS.calls k _ _ l0_1 _ _ l1_1 true _ ?side1 ?side2 ?side3 ?side4 A4.out).mono ?_); (case side1 => exact qa26); (case side2 => exact HC0_1.out); (case side3 => exact qa46); (case side4 => exact HC1_1.out); rintro e w13 ⟨rfl, hb⟩; have hx_ := qHX HB hb qa1; refine ⟨_, rfl, ?_⟩; have n0_ := qO (qB BK101.out hx_ hb); have n1_ := qO (qB BK102.out hx_ hb); have n2_ := qO (below_step (below_step HB.out hx_) hb); clear BK101; clear BK102; clear HB; have BK101 := n0_; have BK102 := n1_; have HB := n2_; clear n0_ n1_ n2_; clear hx_; (try clear hb); (try clear hb2); (try clear hk); (try clear hi); have hcz14_0 : w13.cell? ⟨gb101, 0, none⟩ = some (.string a0_0) := (blk_cell BK101.out 0).trans rfl; have hcz14_1 : w13.cell? ⟨gb101, 1, none⟩ = some (.slice A0_1 l0_1.length c0_1) := (blk_cell BK101.out 1).trans rfl; have hcz14_2 : w13.cell? ⟨gb101, 2, none⟩ = some (.string a0_2) := (blk_cell BK101.out 2).trans rfl; have hcz14_3 : w13.cell? ⟨gb101, 3, none⟩ = some (.bool a0_3) := (blk_cell BK101.out 3).trans rfl; have hcz14_4 : w13.cell? ⟨gb101, 4, none⟩ = some (.bool a0_4) := (blk_cell BK101.out 4).trans rfl; have hfz14_0 := blk_frozen BK101.out 0; have hfz14_1 := blk_frozen BK101.out 1; have hfz14_2 := blk_frozen BK101.out 2; have hfz14_3 := blk_frozen BK101.out 3; have hfz14_4 := blk_frozen BK101.out 4; have hcz15_0 : w13.cell? ⟨gb102, 0, none⟩ = some (.string a1_0) := (blk_cell BK102.out 0).trans rfl; have hcz15_1 : w13.cell? ⟨gb102, 1, none⟩ = some (.slice A1_1 l1_1.length c1_1) := (blk_cell BK102.out 1).trans rfl; have hcz15_2 : w13.cell? ⟨gb102, 2, none⟩ = some (.string a1_2) := (blk_cell BK102.out 2).trans rfl; have hcz15_3 : w13.cell? ⟨gb102, 3, none⟩ = some (.bool a1_3) := (blk_cell BK102.out 3).trans rfl; have hcz15_4 : w13.cell? ⟨gb102, 4, none⟩ = some (.bool a1_4) := (blk_cell BK102.out 4).trans rfl; have hfz15_0 := blk_frozen BK102.out 0; have hfz15_1 := blk_frozen BK102.out 1; have hfz15_2 := blk_frozen BK102.out 2; have hfz15_3 := blk_frozen BK102.out 3; have hfz15_4 := blk_frozen BK102.out 4))
     go_ret
     exact ⟨qa5, qa17⟩
    ·rw [if_neg c7] at H
     have c7b0 : (a0_3 != a1_3) = false := by simpa using c7
     (try (have c7b1 : decide (a0_3 = a1_3) = true := by simpa using c7)); (try (have c7b2 : (a0_3 == a1_3) = true := by simpa using c7)); clear c7
     by_cases c16 : (a0_4 != a1_4) = true
     ·rw [if_pos c16] at H
      have c16b0 : (a0_4 != a1_4) = true := c16; (try (have c16b1 : decide (a0_4 = a1_4) = false := by simpa using c16)); (try (have c16b2 : (a0_4 == a1_4) = false := by simpa using c16)); (try (have c16b3 : ¬ (a0_4 = a1_4) := by simpa using c16)); clear c16; obtain rfl := Option.some.inj H
      go_enter Tryd.func62, Tryd.ntmps62
      go_wp2_with (first | ((with_reducible refine gate_dst (N := 2) rfl ?_); refine box_event ?hg (N := 2) ?hd (cs := #[.string a0_0, .slice A0_1 l0_1.length c0_1, .string a0_2, .bool a0_3, .bool a0_4]) (t := 47) ?hr ?_; (case hd => rfl); (case hg => rfl); (case hr => exact qa18); intro gb101 hg w17 hbox hb; have hx_ := qHX HB hb qa1; have n0_ := qO (below_step (below_step HB.out hx_) hb); have n1_ := qO (hbox); have n2_ := qO ((qa14 : w.heap.size ≤ gb101)); have n3_ := n2_; clear HB; have HB := n0_; have BK101 := n1_; have GW101 := n2_; have GE101 := n3_; clear n0_ n1_ n2_ n3_; clear hx_; clear hb hbox hg) | ((with_reducible refine gate_dst (N := 3) rfl ?_); refine box_event ?hg (N := 3) ?hd (cs := #[.string a1_0, .slice A1_1 l1_1.length c1_1, .string a1_2, .bool a1_3, .bool a1_4]) (t := 47) ?hr ?_; (case hd => rfl); (case hg => rfl); (case hr => exact qa18); intro gb102 hg w18 hbox hb; have hx_ := qHX HB hb qa1; have n0_ := qO (qB BK101.out hx_ hb); have n1_ := qO (below_step (below_step HB.out hx_) hb); have n2_ := qO (hbox); have n3_ := qO ((qa14 : w.heap.size ≤ gb102)); have n4_ := n3_; have n5_ := qO ((qa28 : gb101 ≠ gb102)); have n6_ := qO (Ne.symm n5_.out); clear BK101; clear HB; have BK101 := n0_; have HB := n1_; have BK102 := n2_; have GW102 := n3_; have GE102 := n4_; have NB101_102 := n5_; have NB102_101 := n6_; clear n0_ n1_ n2_ n3_ n4_ n5_ n6_; clear hx_; clear hb hbox hg; have hnb19 := NB101_102.out; have hnc19 := NB102_101.out; have hcz20_0 : w18.cell? ⟨gb101, 0, none⟩ = some (.string a0_0) := (blk_cell BK101.out 0).trans rfl; have hcz20_1 : w18.cell? ⟨gb101, 1, none⟩ = some (.slice A0_1 l0_1.length c0_1) := (blk_cell BK101.out 1).trans rfl; have hcz20_2 : w18.cell? ⟨gb101, 2, none⟩ = some (.string a0_2) := (blk_cell BK101.out 2).trans rfl; have hcz20_3 : w18.cell? ⟨gb101, 3, none⟩ = some (.bool a0_3) := (blk_cell BK101.out 3).trans rfl; have hcz20_4 : w18.cell? ⟨gb101, 4, none⟩ = some (.bool a0_4) := (blk_cell BK101.out 4).trans rfl; have hfz20_0 := blk_frozen BK101.out 0; have hfz20_1 := blk_frozen BK101.out 1; have hfz20_2 := blk_frozen BK101.out 2; have hfz20_3 := blk_frozen BK101.out 3; have hfz20_4 := blk_frozen BK101.out 4; have hcz21_0 : w18.cell? ⟨gb102, 0, none⟩ = some (.string a1_0) := (blk_cell BK102.out 0).trans rfl; have hcz21_1 : w18.cell? ⟨gb102, 1, none⟩ = some (.slice A1_1 l1_1.length c1_1) := (blk_cell BK102.out 1).trans rfl; have hcz21_2 : w18.cell? ⟨gb102, 2, none⟩ = some (.string a1_2) := (blk_cell BK102.out 2).trans rfl; have hcz21_3 : w18.cell? ⟨gb102, 3, none⟩ = some (.bool a1_3) := (blk_cell BK102.out 3).trans rfl; have hcz21_4 : w18.cell? ⟨gb102, 4, none⟩ = some (.bool a1_4) := (blk_cell BK102.out 4).trans rfl; have hfz21_0 := blk_frozen BK102.out 0; have hfz21_1 := blk_frozen BK102.out 1; have hfz21_2 := blk_frozen BK102.out 2; have hfz21_3 := blk_frozen BK102.out 3; have hfz21_4 := blk_frozen BK102.out 4) | ((with_reducible refine gate_callee (f := 68) rfl ?_); refine goesL_ (some 14) rfl rfl Tryd.func68 qa16 rfl #[.slice A0_1 l0_1.length c0_1, .slice A1_1 l1_1.length c1_1] rfl qa0 ?_; (with_reducible refine (laws_eqArgDefS.calls k _ _ l0_1 _ _ l1_1 true _ ?side1 ?side2 ?side3 ?side4 A4.out).mono ?_); (case side1 => exact qa26); (case side2 => exact HC0_1.out); (case side3 => exact qa46); (case side4 => exact HC1_1.out); rintro e w22 ⟨rfl, hb⟩; have hx_ := qHX HB hb qa1; refine ⟨_, rfl, ?_⟩; have n0_ := qO (qB BK101.out hx_ hb); have n1_ := qO (qB BK102.out hx_ hb); have n2_ := qO (below_step (below_step HB.out hx_) hb); clear BK101; clear BK102; clear HB; have BK101 := n0_; have BK102 := n1_; have HB := n2_; clear n0_ n1_ n2_; clear hx_; (try clear hb); (try clear hb2); (try clear hk); (try clear hi); have hcz23_0 : w22.cell? ⟨gb101, 0, none⟩ = some (.string a0_0) := (blk_cell BK101.out 0).trans rfl; have hcz23_1 : w22.cell? ⟨gb101, 1, none⟩ = some (.slice A0_1 l0_1.length c0_1) := (blk_cell BK101.out 1).trans rfl; have hcz23_2 : w22.cell? ⟨gb101, 2, none⟩ = some (.string a0_2) := (blk_cell BK101.out 2).trans rfl; have hcz23_3 : w22.cell? ⟨gb101, 3, none⟩ = some (.bool a0_3) := (blk_cell BK101.out 3).trans rfl; have hcz23_4 : w22.cell? ⟨gb101, 4, none⟩ = some (.bool a0_4) := (blk_cell BK101.out 4).trans rfl; have hfz23_0 := blk_frozen BK101.out 0; have hfz23_1 := blk_frozen BK101.out 1; have hfz23_2 := blk_frozen BK101.out 2; have hfz23_3 := blk_frozen BK101.out 3; have hfz23_4 := blk_frozen BK101.out 4; have hcz24_0 : w22.cell? ⟨gb102, 0, none⟩ = some (.string a1_0) := (blk_cell BK102.out 0).trans rfl; have hcz24_1 : w22.cell? ⟨gb102, 1, none⟩ = some (.slice A1_1 l1_1.length c1_1) := (blk_cell BK102.out 1).trans rfl; have hcz24_2 : w22.cell? ⟨gb102, 2, none⟩ = some (.string a1_2) := (blk_cell BK102.out 2).trans rfl; have hcz24_3 : w22.cell? ⟨gb102, 3, none⟩ = some (.bool a1_3) := (blk_cell BK102.out 3).trans rfl; have hcz24_4 : w22.cell? ⟨gb102, 4, none⟩ = some (.bool a1_4) := (blk_cell BK102.out 4).trans rfl; have hfz24_0 := blk_frozen BK102.out 0; have hfz24_1 := blk_frozen BK102.out 1; have hfz24_2 := blk_frozen BK102.out 2; have hfz24_3 := blk_frozen BK102.out 3; have hfz24_4 := blk_frozen BK102.out 4))
      go_ret
      exact ⟨qa5, qa17⟩
     ·rw [if_neg c16] at H
      have c16b0 : (a0_4 != a1_4) = false := by simpa using c16
      (try (have c16b1 : decide (a0_4 = a1_4) = true := by simpa using c16)); (try (have c16b2 : (a0_4 == a1_4) = true := by simpa using c16)); clear c16; obtain rfl := Option.some.inj H
      go_enter Tryd.func62, Tryd.ntmps62
      go_wp2_with (first | ((with_reducible refine gate_dst (N := 2) rfl ?_); refine box_event ?hg (N := 2) ?hd (cs := #[.string a0_0, .slice A0_1 l0_1.length c0_1, .string a0_2, .bool a0_3, .bool a0_4]) (t := 47) ?hr ?_; (case hd => rfl); (case hg => rfl); (case hr => exact qa18); intro gb101 hg w25 hbox hb; have hx_ := qHX HB hb qa1; have n0_ := qO (below_step (below_step HB.out hx_) hb); have n1_ := qO (hbox); have n2_ := qO ((qa14 : w.heap.size ≤ gb101)); have n3_ := n2_; clear HB; have HB := n0_; have BK101 := n1_; have GW101 := n2_; have GE101 := n3_; clear n0_ n1_ n2_ n3_; clear hx_; clear hb hbox hg) | ((with_reducible refine gate_dst (N := 3) rfl ?_); refine box_event ?hg (N := 3) ?hd (cs := #[.string a1_0, .slice A1_1 l1_1.length c1_1, .string a1_2, .bool a1_3, .bool a1_4]) (t := 47) ?hr ?_; (case hd => rfl); (case hg => rfl); (case hr => exact qa18); intro gb102 hg w26 hbox hb; have hx_ := qHX HB hb qa1; have n0_ := qO (qB BK101.out hx_ hb); have n1_ := qO (below_step (below_step HB.out hx_) hb); have n2_ := qO (hbox); have n3_ := qO ((qa14 : w.heap.size ≤ gb102)); have n4_ := n3_; have n5_ := qO ((qa28 : gb101 ≠ gb102)); have n6_ := qO (Ne.symm n5_.out); clear BK101; clear HB; have BK101 := n0_; have HB := n1_; have BK102 := n2_; have GW102 := n3_; have GE102 := n4_; have NB101_102 := n5_; have NB102_101 := n6_; clear n0_ n1_ n2_ n3_ n4_ n5_ n6_; clear hx_; clear hb hbox hg; have hnb27 := NB101_102.out; have hnc27 := NB102_101.out; have hcz28_0 : w26.cell? ⟨gb101, 0, none⟩ = some (.string a0_0) := (blk_cell BK101.out 0).trans rfl; have hcz28_1 : w26.cell? ⟨gb101, 1, none⟩ = some (.slice A0_1 l0_1.length c0_1) := (blk_cell BK101.out 1).trans rfl; have hcz28_2 : w26.cell? ⟨gb101, 2, none⟩ = some (.string a0_2) := (blk_cell BK101.out 2).trans rfl; have hcz28_3 : w26.cell? ⟨gb101, 3, none⟩ = some (.bool a0_3) := (blk_cell BK101.out 3).trans rfl; have hcz28_4 : w26.cell? ⟨gb101, 4, none⟩ = some (.bool a0_4) := (blk_cell BK101.out 4).trans rfl; have hfz28_0 := blk_frozen BK101.out 0; have hfz28_1 := blk_frozen BK101.out 1; have hfz28_2 := blk_frozen BK101.out 2; have hfz28_3 := blk_frozen BK101.out 3; have hfz28_4 := blk_frozen BK101.out 4; have hcz29_0 : w26.cell? ⟨gb102, 0, none⟩ = some (.string a1_0) := (blk_cell BK102.out 0).trans rfl; have hcz29_1 : w26.cell? ⟨gb102, 1, none⟩ = some (.slice A1_1 l1_1.length c1_1) := (blk_cell BK102.out 1).trans rfl; have hcz29_2 : w26.cell? ⟨gb102, 2, none⟩ = some (.string a1_2) := (blk_cell BK102.out 2).trans rfl; have hcz29_3 : w26.cell? ⟨gb102, 3, none⟩ = some (.bool a1_3) := (blk_cell BK102.out 3).trans rfl; have hcz29_4 : w26.cell? ⟨gb102, 4, none⟩ = some (.bool a1_4) := (blk_cell BK102.out 4).trans rfl; have hfz29_0 := blk_frozen BK102.out 0; have hfz29_1 := blk_frozen BK102.out 1; have hfz29_2 := blk_frozen BK102.out 2; have hfz29_3 := blk_frozen BK102.out 3; have hfz29_4 := blk_frozen BK102.out 4) | ((with_reducible refine gate_callee (f := 68) rfl ?_); refine goesL_ (some 14) rfl rfl Tryd.func68 qa16 rfl #[.slice A0_1 l0_1.length c0_1, .slice A1_1 l1_1.length c1_1] rfl qa0 ?_; (with_reducible refine (laws_eqArgDefS.calls k _ _ l0_1 _ _ l1_1 true _ ?side1 ?side2 ?side3 ?side4 A4.out).mono ?_); (case side1 => exact qa26); (case side2 => exact HC0_1.out); (case side3 => exact qa46); (case side4 => exact HC1_1.out); rintro e w30 ⟨rfl, hb⟩; have hx_ := qHX HB hb qa1; refine ⟨_, rfl, ?_⟩; have n0_ := qO (qB BK101.out hx_ hb); have n1_ := qO (qB BK102.out hx_ hb); have n2_ := qO (below_step (below_step HB.out hx_) hb); clear BK101; clear BK102; clear HB; have BK101 := n0_; have BK102 := n1_; have HB := n2_; clear n0_ n1_ n2_; clear hx_; (try clear hb); (try clear hb2); (try clear hk); (try clear hi); have hcz31_0 : w30.cell? ⟨gb101, 0, none⟩ = some (.string a0_0) := (blk_cell BK101.out 0).trans rfl; have hcz31_1 : w30.cell? ⟨gb101, 1, none⟩ = some (.slice A0_1 l0_1.length c0_1) := (blk_cell BK101.out 1).trans rfl; have hcz31_2 : w30.cell? ⟨gb101, 2, none⟩ = some (.string a0_2) := (blk_cell BK101.out 2).trans rfl; have hcz31_3 : w30.cell? ⟨gb101, 3, none⟩ = some (.bool a0_3) := (blk_cell BK101.out 3).trans rfl; have hcz31_4 : w30.cell? ⟨gb101, 4, none⟩ = some (.bool a0_4) := (blk_cell BK101.out 4).trans rfl; have hfz31_0 := blk_frozen BK101.out 0; have hfz31_1 := blk_frozen BK101.out 1; have hfz31_2 := blk_frozen BK101.out 2; have hfz31_3 := blk_frozen BK101.out 3; have hfz31_4 := blk_frozen BK101.out 4; have hcz32_0 : w30.cell? ⟨gb102, 0, none⟩ = some (.string a1_0) := (blk_cell BK102.out 0).trans rfl; have hcz32_1 : w30.cell? ⟨gb102, 1, none⟩ = some (.slice A1_1 l1_1.length c1_1) := (blk_cell BK102.out 1).trans rfl; have hcz32_2 : w30.cell? ⟨gb102, 2, none⟩ = some (.string a1_2) := (blk_cell BK102.out 2).trans rfl; have hcz32_3 : w30.cell? ⟨gb102, 3, none⟩ = some (.bool a1_3) := (blk_cell BK102.out 3).trans rfl; have hcz32_4 : w30.cell? ⟨gb102, 4, none⟩ = some (.bool a1_4) := (blk_cell BK102.out 4).trans rfl; have hfz32_0 := blk_frozen BK102.out 0; have hfz32_1 := blk_frozen BK102.out 1; have hfz32_2 := blk_frozen BK102.out 2; have hfz32_3 := blk_frozen BK102.out 3; have hfz32_4 := blk_frozen BK102.out 4))
      go_ret
      exact ⟨qa5, qa17⟩
   ·rw [if_neg c6] at H
    have c6b0 : (a0_2.toList == a1_2.toList) = false := beq_eq_false_iff_ne.mpr c6; have c6b1 : (a0_2.toList != a1_2.toList) = true := bne_iff_ne.mpr c6; obtain rfl := Option.some.inj H
    go_enter Tryd.func62, Tryd.ntmps62
    go_wp2_with (first | ((with_reducible refine gate_dst (N := 2) rfl ?_); refine box_event ?hg (N := 2) ?hd (cs := #[.string a0_0, .slice A0_1 l0_1.length c0_1, .string a0_2, .bool a0_3, .bool a0_4]) (t := 47) ?hr ?_; (case hd => rfl); (case hg => rfl); (case hr => exact qa18); intro gb101 hg w33 hbox hb; have hx_ := qHX HB hb qa1; have n0_ := qO (below_step (below_step HB.out hx_) hb); have n1_ := qO (hbox); have n2_ := qO ((qa14 : w.heap.size ≤ gb101)); have n3_ := n2_; clear HB; have HB := n0_; have BK101 := n1_; have GW101 := n2_; have GE101 := n3_; clear n0_ n1_ n2_ n3_; clear hx_; clear hb hbox hg) | ((with_reducible refine gate_dst (N := 3) rfl ?_); refine box_event ?hg (N := 3) ?hd (cs := #[.string a1_0, .slice A1_1 l1_1.length c1_1, .string a1_2, .bool a1_3, .bool a1_4]) (t := 47) ?hr ?_; (case hd => rfl); (case hg => rfl); (case hr => exact qa18); intro gb102 hg w34 hbox hb; have hx_ := qHX HB hb qa1; have n0_ := qO (qB BK101.out hx_ hb); have n1_ := qO (below_step (below_step HB.out hx_) hb); have n2_ := qO (hbox); have n3_ := qO ((qa14 : w.heap.size ≤ gb102)); have n4_ := n3_; have n5_ := qO ((qa28 : gb101 ≠ gb102)); have n6_ := qO (Ne.symm n5_.out); clear BK101; clear HB; have BK101 := n0_; have HB := n1_; have BK102 := n2_; have GW102 := n3_; have GE102 := n4_; have NB101_102 := n5_; have NB102_101 := n6_; clear n0_ n1_ n2_ n3_ n4_ n5_ n6_; clear hx_; clear hb hbox hg; have hnb35 := NB101_102.out; have hnc35 := NB102_101.out; have hcz36_0 : w34.cell? ⟨gb101, 0, none⟩ = some (.string a0_0) := (blk_cell BK101.out 0).trans rfl; have hcz36_1 : w34.cell? ⟨gb101, 1, none⟩ = some (.slice A0_1 l0_1.length c0_1) := (blk_cell BK101.out 1).trans rfl; have hcz36_2 : w34.cell? ⟨gb101, 2, none⟩ = some (.string a0_2) := (blk_cell BK101.out 2).trans rfl; have hcz36_3 : w34.cell? ⟨gb101, 3, none⟩ = some (.bool a0_3) := (blk_cell BK101.out 3).trans rfl; have hcz36_4 : w34.cell? ⟨gb101, 4, none⟩ = some (.bool a0_4) := (blk_cell BK101.out 4).trans rfl; have hfz36_0 := blk_frozen BK101.out 0; have hfz36_1 := blk_frozen BK101.out 1; have hfz36_2 := blk_frozen BK101.out 2; have hfz36_3 := blk_frozen BK101.out 3; have hfz36_4 := blk_frozen BK101.out 4; have hcz37_0 : w34.cell? ⟨gb102, 0, none⟩ = some (.string a1_0) := (blk_cell BK102.out 0).trans rfl; have hcz37_1 : w34.cell? ⟨gb102, 1, none⟩ = some (.slice A1_1 l1_1.length c1_1) := (blk_cell BK102.out 1).trans rfl; have hcz37_2 : w34.cell? ⟨gb102, 2, none⟩ = some (.string a1_2) := (blk_cell BK102.out 2).trans rfl; have hcz37_3 : w34.cell? ⟨gb102, 3, none⟩ = some (.bool a1_3) := (blk_cell BK102.out 3).trans rfl; have hcz37_4 : w34.cell? ⟨gb102, 4, none⟩ = some (.bool a1_4) := (blk_cell BK102.out 4).trans rfl; have hfz37_0 := blk_frozen BK102.out 0; have hfz37_1 := blk_frozen BK102.out 1; have hfz37_2 := blk_frozen BK102.out 2; have hfz37_3 := blk_frozen BK102.out 3; have hfz37_4 := blk_frozen BK102.out 4) | ((with_reducible refine gate_callee (f := 68) rfl ?_); refine goesL_ (some 14) rfl rfl Tryd.func68 qa16 rfl #[.slice A0_1 l0_1.length c0_1, .slice A1_1 l1_1.length c1_1] rfl qa0 ?_; (with_reducible refine (laws_eqArgDefS.calls k _ _ l0_1 _ _ l1_1 true _ ?side1 ?side2 ?side3 ?side4 A4.out).mono ?_); (case side1 => exact qa26); (case side2 => exact HC0_1.out); (case side3 => exact qa46); (case side4 => exact HC1_1.out); rintro e w38 ⟨rfl, hb⟩; have hx_ := qHX HB hb qa1; refine ⟨_, rfl, ?_⟩; have n0_ := qO (qB BK101.out hx_ hb); have n1_ := qO (qB BK102.out hx_ hb); have n2_ := qO (below_step (below_step HB.out hx_) hb); clear BK101; clear BK102; clear HB; have BK101 := n0_; have BK102 := n1_; have HB := n2_; clear n0_ n1_ n2_; clear hx_; (try clear hb); (try clear hb2); (try clear hk); (try clear hi); have hcz39_0 : w38.cell? ⟨gb101, 0, none⟩ = some (.string a0_0) := (blk_cell BK101.out 0).trans rfl; have hcz39_1 : w38.cell? ⟨gb101, 1, none⟩ = some (.slice A0_1 l0_1.length c0_1) := (blk_cell BK101.out 1).trans rfl; have hcz39_2 : w38.cell? ⟨gb101, 2, none⟩ = some (.string a0_2) := (blk_cell BK101.out 2).trans rfl; have hcz39_3 : w38.cell? ⟨gb101, 3, none⟩ = some (.bool a0_3) := (blk_cell BK101.out 3).trans rfl; have hcz39_4 : w38.cell? ⟨gb101, 4, none⟩ = some (.bool a0_4) := (blk_cell BK101.out 4).trans rfl; have hfz39_0 := blk_frozen BK101.out 0; have hfz39_1 := blk_frozen BK101.out 1; have hfz39_2 := blk_frozen BK101.out 2; have hfz39_3 := blk_frozen BK101.out 3; have hfz39_4 := blk_frozen BK101.out 4; have hcz40_0 : w38.cell? ⟨gb102, 0, none⟩ = some (.string a1_0) := (blk_cell BK102.out 0).trans rfl; have hcz40_1 : w38.cell? ⟨gb102, 1, none⟩ = some (.slice A1_1 l1_1.length c1_1) := (blk_cell BK102.out 1).trans rfl; have hcz40_2 : w38.cell? ⟨gb102, 2, none⟩ = some (.string a1_2) := (blk_cell BK102.out 2).trans rfl; have hcz40_3 : w38.cell? ⟨gb102, 3, none⟩ = some (.bool a1_3) := (blk_cell BK102.out 3).trans rfl; have hcz40_4 : w38.cell? ⟨gb102, 4, none⟩ = some (.bool a1_4) := (blk_cell BK102.out 4).trans rfl; have hfz40_0 := blk_frozen BK102.out 0; have hfz40_1 := blk_frozen BK102.out 1; have hfz40_2 := blk_frozen BK102.out 2; have hfz40_3 := blk_frozen BK102.out 3; have hfz40_4 := blk_frozen BK102.out 4))
    go_ret
    exact ⟨qa5, qa17⟩
  ·replace c5 := Bool.eq_false_iff.mpr c5
   subst c5; have H1 : (some false) = some r := by rw [if_neg (show ¬ (false = true) by decide)] at H; exact H
   clear H; have H := H1; clear H1; obtain rfl := Option.some.inj H
   go_enter Tryd.func62, Tryd.ntmps62
   go_wp2_with (first | ((with_reducible refine gate_dst (N := 2) rfl ?_); refine box_event ?hg (N := 2) ?hd (cs := #[.string a0_0, .slice A0_1 l0_1.length c0_1, .string a0_2, .bool a0_3, .bool a0_4]) (t := 47) ?hr ?_; (case hd => rfl); (case hg => rfl); (case hr => exact qa18); intro gb101 hg w41 hbox hb; have hx_ := qHX HB hb qa1; have n0_ := qO (below_step (below_step HB.out hx_) hb); have n1_ := qO (hbox); have n2_ := qO ((qa14 : w.heap.size ≤ gb101)); have n3_ := n2_; clear HB; have HB := n0_; have BK101 := n1_; have GW101 := n2_; have GE101 := n3_; clear n0_ n1_ n2_ n3_; clear hx_; clear hb hbox hg) | ((with_reducible refine gate_dst (N := 3) rfl ?_); refine box_event ?hg (N := 3) ?hd (cs := #[.string a1_0, .slice A1_1 l1_1.length c1_1, .string a1_2, .bool a1_3, .bool a1_4]) (t := 47) ?hr ?_; (case hd => rfl); (case hg => rfl); (case hr => exact qa18); intro gb102 hg w42 hbox hb; have hx_ := qHX HB hb qa1; have n0_ := qO (qB BK101.out hx_ hb); have n1_ := qO (below_step (below_step HB.out hx_) hb); have n2_ := qO (hbox); have n3_ := qO ((qa14 : w.heap.size ≤ gb102)); have n4_ := n3_; have n5_ := qO ((qa28 : gb101 ≠ gb102)); have n6_ := qO (Ne.symm n5_.out); clear BK101; clear HB; have BK101 := n0_; have HB := n1_; have BK102 := n2_; have GW102 := n3_; have GE102 := n4_; have NB101_102 := n5_; have NB102_101 := n6_; clear n0_ n1_ n2_ n3_ n4_ n5_ n6_; clear hx_; clear hb hbox hg; have hnb43 := NB101_102.out; have hnc43 := NB102_101.out; have hcz44_0 : w42.cell? ⟨gb101, 0, none⟩ = some (.string a0_0) := (blk_cell BK101.out 0).trans rfl; have hcz44_1 : w42.cell? ⟨gb101, 1, none⟩ = some (.slice A0_1 l0_1.length c0_1) := (blk_cell BK101.out 1).trans rfl; have hcz44_2 : w42.cell? ⟨gb101, 2, none⟩ = some (.string a0_2) := (blk_cell BK101.out 2).trans rfl; have hcz44_3 : w42.cell? ⟨gb101, 3, none⟩ = some (.bool a0_3) := (blk_cell BK101.out 3).trans rfl; have hcz44_4 : w42.cell? ⟨gb101, 4, none⟩ = some (.bool a0_4) := (blk_cell BK101.out 4).trans rfl; have hfz44_0 := blk_frozen BK101.out 0; have hfz44_1 := blk_frozen BK101.out 1; have hfz44_2 := blk_frozen BK101.out 2; have hfz44_3 := blk_frozen BK101.out 3; have hfz44_4 := blk_frozen BK101.out 4; have hcz45_0 : w42.cell? ⟨gb102, 0, none⟩ = some (.string a1_0) := (blk_cell BK102.out 0).trans rfl; have hcz45_1 : w42.cell? ⟨gb102, 1, none⟩ = some (.slice A1_1 l1_1.length c1_1) := (blk_cell BK102.out 1).trans rfl; have hcz45_2 : w42.cell? ⟨gb102, 2, none⟩ = some (.string a1_2) := (blk_cell BK102.out 2).trans rfl; have hcz45_3 : w42.cell? ⟨gb102, 3, none⟩ = some (.bool a1_3) := (blk_cell BK102.out 3).trans rfl; have hcz45_4 : w42.cell? ⟨gb102, 4, none⟩ = some (.bool a1_4) := (blk_cell BK102.out 4).trans rfl; have hfz45_0 := blk_frozen BK102.out 0; have hfz45_1 := blk_frozen BK102.out 1; have hfz45_2 := blk_frozen BK102.out 2; have hfz45_3 := blk_frozen BK102.out 3; have hfz45_4 := blk_frozen BK102.out 4) | ((with_reducible refine gate_callee (f := 68) rfl ?_); refine goesL_ (some 14) rfl rfl Tryd.func68 qa16 rfl #[.slice A0_1 l0_1.length c0_1, .slice A1_1 l1_1.length c1_1] rfl qa0 ?_; (with_reducible refine (laws_eqArgDefS.calls k _ _ l0_1 _ _ l1_1 false _ ?side1 ?side2 ?side3 ?side4 A4.out).mono ?_); (case side1 => exact qa26); (case side2 => exact HC0_1.out); (case side3 => exact qa46); (case side4 => exact HC1_1.out); rintro e w46 ⟨rfl, hb⟩; have hx_ := qHX HB hb qa1; refine ⟨_, rfl, ?_⟩; have n0_ := qO (qB BK101.out hx_ hb); have n1_ := qO (qB BK102.out hx_ hb); have n2_ := qO (below_step (below_step HB.out hx_) hb); clear BK101; clear BK102; clear HB; have BK101 := n0_; have BK102 := n1_; have HB := n2_; clear n0_ n1_ n2_; clear hx_; (try clear hb); (try clear hb2); (try clear hk); (try clear hi)))
   go_ret
   exact ⟨qa5, qa17⟩
 ·rw [if_neg c3] at H
  have c3b0 : (a0_0.toList == a1_0.toList) = false := beq_eq_false_iff_ne.mpr c3; have c3b1 : (a0_0.toList != a1_0.toList) = true := bne_iff_ne.mpr c3; obtain rfl := Option.some.inj H
  go_enter Tryd.func62, Tryd.ntmps62
  go_wp2_with (first | ((with_reducible refine gate_dst (N := 2) rfl ?_); refine box_event ?hg (N := 2) ?hd (cs := #[.string a0_0, .slice A0_1 l0_1.length c0_1, .string a0_2, .bool a0_3, .bool a0_4]) (t := 47) ?hr ?_; (case hd => rfl); (case hg => rfl); (case hr => exact qa18); intro gb101 hg w47 hbox hb; have hx_ := qHX HB hb qa1; have n0_ := qO (below_step (below_step HB.out hx_) hb); have n1_ := qO (hbox); have n2_ := qO ((qa14 : w.heap.size ≤ gb101)); have n3_ := n2_; clear HB; have HB := n0_; have BK101 := n1_; have GW101 := n2_; have GE101 := n3_; clear n0_ n1_ n2_ n3_; clear hx_; clear hb hbox hg) | ((with_reducible refine gate_dst (N := 3) rfl ?_); refine box_event ?hg (N := 3) ?hd (cs := #[.string a1_0, .slice A1_1 l1_1.length c1_1, .string a1_2, .bool a1_3, .bool a1_4]) (t := 47) ?hr ?_; (case hd => rfl); (case hg => rfl); (case hr => exact qa18); intro gb102 hg w48 hbox hb; have hx_ := qHX HB hb qa1; have n0_ := qO (qB BK101.out hx_ hb); have n1_ := qO (below_step (below_step HB.out hx_) hb); have n2_ := qO (hbox); have n3_ := qO ((qa14 : w.heap.size ≤ gb102)); have n4_ := n3_; have n5_ := qO ((qa28 : gb101 ≠ gb102)); have n6_ := qO (Ne.symm n5_.out); clear BK101; clear HB; have BK101 := n0_; have HB := n1_; have BK102 := n2_; have GW102 := n3_; have GE102 := n4_; have NB101_102 := n5_; have NB102_101 := n6_; clear n0_ n1_ n2_ n3_ n4_ n5_ n6_; clear hx_; clear hb hbox hg; have hnb49 := NB101_102.out; have hnc49 := NB102_101.out; have hcz50_0 : w48.cell? ⟨gb101, 0, none⟩ = some (.string a0_0) := (blk_cell BK101.out 0).trans rfl; have hcz50_1 : w48.cell? ⟨gb101, 1, none⟩ = some (.slice A0_1 l0_1.length c0_1) := (blk_cell BK101.out 1).trans rfl; have hcz50_2 : w48.cell? ⟨gb101, 2, none⟩ = some (.string a0_2) := (blk_cell BK101.out 2).trans rfl; have hcz50_3 : w48.cell? ⟨gb101, 3, none⟩ = some (.bool a0_3) := (blk_cell BK101.out 3).trans rfl; have hcz50_4 : w48.cell? ⟨gb101, 4, none⟩ = some (.bool a0_4) := (blk_cell BK101.out 4).trans rfl; have hfz50_0 := blk_frozen BK101.out 0; have hfz50_1 := blk_frozen BK101.out 1; have hfz50_2 := blk_frozen BK101.out 2; have hfz50_3 := blk_frozen BK101.out 3; have hfz50_4 := blk_frozen BK101.out 4; have hcz51_0 : w48.cell? ⟨gb102, 0, none⟩ = some (.string a1_0) := (blk_cell BK102.out 0).trans rfl; have hcz51_1 : w48.cell? ⟨gb102, 1, none⟩ = some (.slice A1_1 l1_1.length c1_1) := (blk_cell BK102.out 1).trans rfl; have hcz51_2 : w48.cell? ⟨gb102, 2, none⟩ = some (.string a1_2) := (blk_cell BK102.out 2).trans rfl; have hcz51_3 : w48.cell? ⟨gb102, 3, none⟩ = some (.bool a1_3) := (blk_cell BK102.out 3).trans rfl; have hcz51_4 : w48.cell? ⟨gb102, 4, none⟩ = some (.bool a1_4) := (blk_cell BK102.out 4).trans rfl; have hfz51_0 := blk_frozen BK102.out 0; have hfz51_1 := blk_frozen BK102.out 1; have hfz51_2 := blk_frozen BK102.out 2; have hfz51_3 := blk_frozen BK102.out 3; have hfz51_4 := blk_frozen BK102.out 4))
  go_ret
  exact ⟨qa5, qa17⟩


def laws_eqFieldDefS.l0 : Nat → List (S47) → List (S47) → Int → Option (Bool)
 | 0, _, _, _ => none
 | k + 1, x0, x1, x5 => if x5 < (x0.length : Int) then (if 0 ≤ x5 then (if x5 < (x1.length : Int) then ((laws_eqFieldDef.f k ((rd_T47 x0 x5).f0) ((rd_T47 x0 x5).f1) ((rd_T47 x0 x5).f2) ((rd_T47 x0 x5).f3) ((rd_T47 x0 x5).f4) ((rd_T47 x1 x5).f0) ((rd_T47 x1 x5).f1) ((rd_T47 x1 x5).f2) ((rd_T47 x1 x5).f3) ((rd_T47 x1 x5).f4)).bind fun t103 => (if t103 = true then (laws_eqFieldDefS.l0 k x0 x1 (wrap64 (x5 + 1))) else (some false))) else (none)) else (none)) else (some true)
def laws_eqFieldDefS.f (k : Nat) (l0 : List (S47)) (l1 : List (S47)) : Option (Bool) := if (l0.length : Int) = (l1.length : Int) then (laws_eqFieldDefS.l0 k l0 l1 0) else (some false)
def laws_eqFieldDefS.T6 : Bool × List (List Nat × List Nat) := (true, [([], []), ([], []), ([0, 1], [0, 1]), ([2], [2]), ([], []), ([], []), ([4, 5], [4, 5]), ([6], [6]), ([3, 7], [3, 7]), ([8], [8])])
def laws_eqFieldDefS.B6 : List Nat := [0, 0, 3, 7, 0, 0, 48, 112, 255, 511]
theorem laws_eqFieldDefS.tab6 : rtab .any (opsOf Tryd.f52 6) = laws_eqFieldDefS.T6 := by kernel_rfl
theorem laws_eqFieldDefS.bits6 : waitsOk laws_eqFieldDefS.T6.2 laws_eqFieldDefS.B6 = true := by kernel_rfl
def laws_eqFieldDefS.y0 : Array Bool := #[false, false, false, false, false, false, false, false, false, false]
def laws_eqFieldDefS.y1 : Array Bool := #[true, false, false, false, false, false, false, false, false, false]
def laws_eqFieldDefS.y2 : Array Bool := #[true, true, false, false, false, false, false, false, false, false]
def laws_eqFieldDefS.y3 : Array Bool := #[true, true, true, false, false, false, false, false, false, false]
def laws_eqFieldDefS.y4 : Array Bool := #[true, true, true, false, true, false, false, false, false, false]
def laws_eqFieldDefS.y5 : Array Bool := #[true, true, true, false, true, true, false, false, false, false]
def laws_eqFieldDefS.y6 : Array Bool := #[true, true, true, false, true, true, true, false, false, false]
def laws_eqFieldDefS.y7 : Array Bool := #[true, true, true, true, true, true, true, false, false, false]
def laws_eqFieldDefS.y8 : Array Bool := #[true, true, true, true, true, true, true, true, false, false]
def laws_eqFieldDefS.y9 : Array Bool := #[true, true, true, true, true, true, true, true, true, false]
def laws_eqFieldDefS.y10 : Array Bool := #[true, true, true, true, true, true, true, true, true, true]
set_option maxHeartbeats 8000000 in
set_option maxRecDepth 100000 in
theorem laws_eqFieldDefS.calls (k : Nat) (A0 : Option Addr) (c0 : Nat) (l0 : List (S47)) (A1 : Option Addr) (c1 : Nat) (l1 : List (S47)) (r : Bool) (w : World) (hr0 : Kd.C k47 w A0 l0.length l0) (hc0 : l0.length ≤ c0) (hr1 : Kd.C k47 w A1 l1.length l1) (hc1 : l1.length ≤ c1) (h : laws_eqFieldDefS.f k l0 l1 = some r) :
  Calls Tryd.prog 52 #[.slice A0 l0.length c0, .slice A1 l1.length c1] w fun e w' => e = .returned (.bool r) ∧ Below w.heap.size w w' := by
 have hu47 := Tryd.underlying47; have HR0 := qO hr0; have HC0 := qO hc0; clear hr0 hc0; have HR1 := qO hr1; have HC1 := qO hc1; clear hr1 hc1; have HB := qO (Below.refl w.heap.size w); have H : (if (l0.length : Int) = (l1.length : Int) then (laws_eqFieldDefS.l0 k l0 l1 0) else (some false)) = some r := h; clear h
 by_cases c3 : (l0.length : Int) = (l1.length : Int)
 ·rw [if_pos c3] at H
  have c3b0 : ((l0.length : Int) == (l1.length : Int)) = true := beq_iff_eq.mpr c3; have c3b1 : ((l0.length : Int) != (l1.length : Int)) = false := bne_eq_false_iff_eq.mpr c3; have c3b2 : (l0.length == l1.length) = true := by first | simpa using c3 | (simp at c3 ⊢; omega)
  clear c3; have H' := qO H; clear H
  go_enter Tryd.func52, Tryd.ntmps52
  go_wp2
  go_loopg [5] k (fun kq v5 w' => ∃ (x5_1 : Int), v5 = .int .i64 x5_1 ∧ Aside0 (laws_eqFieldDefS.l0 kq l0 l1 x5_1 = some r) ∧ Aside0 (kq ≤ k) ∧ Aside0 (Below w.heap.size w w'))
  case atStart => exact ⟨(0), qa10, H', ⟨Nat.le_refl _⟩, ⟨qa11⟩⟩
  case round =>
   clear H'
   try clear c1
   try clear p2
   try clear c3
   try clear c3b0
   try clear c3b1
   try clear c3b2
   obtain ⟨x5_1, rfl, HA, HK1, HB⟩ := hrel
   cases gk with
   | zero => exact absurd HA.out (by simp [laws_eqFieldDefS.l0])
   | succ k1 =>
    have H := HA.out; clear HA; simp only [laws_eqFieldDefS.l0] at H
    by_cases c4 : x5_1 < (l0.length : Int)
    ·rw [if_pos c4] at H
     have c4b0 : decide (x5_1 < (l0.length : Int)) = true := decide_eq_true c4; clear c4
     by_cases c5 : 0 ≤ x5_1
     ·rw [if_pos c5] at H
      have c5b0 : decide (0 ≤ x5_1) = true := decide_eq_true c5; clear c5
      by_cases c6 : x5_1 < (l1.length : Int)
      ·rw [if_pos c6] at H
       have c6b0 : decide (x5_1 < (l1.length : Int)) = true := decide_eq_true c6; clear c6; replace H := Option.bind_eq_some_iff.mp H; obtain ⟨t103, A70, H⟩ := H; replace H : (if t103 = true then (laws_eqFieldDefS.l0 k1 l0 l1 (wrap64 (x5_1 + 1))) else (some false)) = some r := H; have A7 := qO A70; clear A70
       by_cases c8 : t103 = true
       ·subst c8
        have H1 : (laws_eqFieldDefS.l0 k1 l0 l1 (wrap64 (x5_1 + 1))) = some r := by rw [if_pos rfl] at H; exact H
        clear H; have H := H1; clear H1; have H' := qO H; clear H
        try go_wp2
        have n0_ := qO (qbD HB.out); clear HB; have HB := n0_; clear n0_; have p101 : 0 ≤ (x5_1 : Int) := qT qa6; have q101 : x5_1 < (l0.length : Int) := qT qa6; obtain ⟨ad101, A101_1, c101_1, e101, hx101_0, hx101_1, hx101_2, hx101_3, hx101_4, hl101_1, hi101_1⟩ := at_T47 HR0.out x5_1 p101 q101; have hw101_4 := hx101_4; have hw101_3 := hx101_3; have hw101_2 := hx101_2; have hw101_1 := hx101_1; have hw101_0 := hx101_0
        cases e101
        replace hx101_0 := (HB.out.cell (qL w _ hx101_0)).trans hx101_0; replace hx101_1 := (HB.out.cell (qL w _ hx101_1)).trans hx101_1; replace hx101_2 := (HB.out.cell (qL w _ hx101_2)).trans hx101_2; replace hx101_3 := (HB.out.cell (qL w _ hx101_3)).trans hx101_3; replace hx101_4 := (HB.out.cell (qL w _ hx101_4)).trans hx101_4; have HR101_1 := qO hi101_1; have HC101_1 := qO hl101_1; clear hi101_1 hl101_1; replace p101 := eq_true p101; replace q101 := eq_true q101; have p102 : 0 ≤ (x5_1 : Int) := qT qa6; have q102 : x5_1 < (l1.length : Int) := qT qa6; obtain ⟨ad102, A102_1, c102_1, e102, hx102_0, hx102_1, hx102_2, hx102_3, hx102_4, hl102_1, hi102_1⟩ := at_T47 HR1.out x5_1 p102 q102; have hw102_4 := hx102_4; have hw102_3 := hx102_3; have hw102_2 := hx102_2; have hw102_1 := hx102_1; have hw102_0 := hx102_0
        cases e102
        replace hx102_0 := (HB.out.cell (qL w _ hx102_0)).trans hx102_0; replace hx102_1 := (HB.out.cell (qL w _ hx102_1)).trans hx102_1; replace hx102_2 := (HB.out.cell (qL w _ hx102_2)).trans hx102_2; replace hx102_3 := (HB.out.cell (qL w _ hx102_3)).trans hx102_3; replace hx102_4 := (HB.out.cell (qL w _ hx102_4)).trans hx102_4; have HR102_1 := qO hi102_1; have HC102_1 := qO hl102_1; clear hi102_1 hl102_1; replace p102 := eq_true p102; replace q102 := eq_true q102; refine start_ (n := 10) (S := fun w' => w'.cell? (ad101.add ((x5_1).toNat * 5)) = some (.string ((rd_T47 l0 x5_1).f0)) ∧ w'.cell? ⟨(ad101.add ((x5_1).toNat * 5)).block, (ad101.add ((x5_1).toNat * 5)).off + 1, none⟩ = some (.slice A101_1 ((rd_T47 l0 x5_1).f1).length c101_1) ∧ w'.cell? ⟨(ad101.add ((x5_1).toNat * 5)).block, (ad101.add ((x5_1).toNat * 5)).off + 2, none⟩ = some (.string ((rd_T47 l0 x5_1).f2)) ∧ w'.cell? ⟨(ad101.add ((x5_1).toNat * 5)).block, (ad101.add ((x5_1).toNat * 5)).off + 3, none⟩ = some (.bool ((rd_T47 l0 x5_1).f3)) ∧ w'.cell? ⟨(ad101.add ((x5_1).toNat * 5)).block, (ad101.add ((x5_1).toNat * 5)).off + 4, none⟩ = some (.bool ((rd_T47 l0 x5_1).f4)) ∧ w'.cell? (ad102.add ((x5_1).toNat * 5)) = some (.string ((rd_T47 l1 x5_1).f0)) ∧ w'.cell? ⟨(ad102.add ((x5_1).toNat * 5)).block, (ad102.add ((x5_1).toNat * 5)).off + 1, none⟩ = some (.slice A102_1 ((rd_T47 l1 x5_1).f1).length c102_1) ∧ w'.cell? ⟨(ad102.add ((x5_1).toNat * 5)).block, (ad102.add ((x5_1).toNat * 5)).off + 2, none⟩ = some (.string ((rd_T47 l1 x5_1).f2)) ∧ w'.cell? ⟨(ad102.add ((x5_1).toNat * 5)).block, (ad102.add ((x5_1).toNat * 5)).off + 3, none⟩ = some (.bool ((rd_T47 l1 x5_1).f3)) ∧ w'.cell? ⟨(ad102.add ((x5_1).toNat * 5)).block, (ad102.add ((x5_1).toNat * 5)).off + 4, none⟩ = some (.bool ((rd_T47 l1 x5_1).f4))) (ds := []) laws_eqFieldDefS.y0 qa16 rfl rfl ⟨((HB.out.cell (qL w _ hw101_0)).trans hw101_0), ((HB.out.cell (qL w _ hw101_1)).trans hw101_1), ((HB.out.cell (qL w _ hw101_2)).trans hw101_2), ((HB.out.cell (qL w _ hw101_3)).trans hw101_3), ((HB.out.cell (qL w _ hw101_4)).trans hw101_4), ((HB.out.cell (qL w _ hw102_0)).trans hw102_0), ((HB.out.cell (qL w _ hw102_1)).trans hw102_1), ((HB.out.cell (qL w _ hw102_2)).trans hw102_2), ((HB.out.cell (qL w _ hw102_3)).trans hw102_3), ((HB.out.cell (qL w _ hw102_4)).trans hw102_4)⟩ (fun hHeld => ?_); refine with_tabW laws_eqFieldDefS.tab6 laws_eqFieldDefS.bits6 (fun HT_ HW_ => ?_); generalize wr.drew = w9 at HB HR101_1 HR102_1 hx101_0 hx101_1 hx101_2 hx101_3 hx101_4 hx102_0 hx102_1 hx102_2 hx102_3 hx102_4 hHeld ⊢; refine pure_ (i := 0) (N := some 17) (v := ?_) (a' := ?_) laws_eqFieldDefS.y1 rfl rfl (any_of HT_.out qa16) (fun _ _ _ h => h) (Or.inl ⟨by rfl, ?_⟩) ?_ ?_; rotate_left; exact qa20; rotate_left; exact qa7; refine pure_ (i := 1) (N := some 18) (v := ?_) (a' := ?_) laws_eqFieldDefS.y2 rfl rfl (any_of HT_.out qa16) (fun _ _ _ h => h) (Or.inl ⟨by rfl, ?_⟩) ?_ ?_; rotate_left; exact qa20; rotate_left; exact qa7; refine pure_ (i := 2) (N := some 19) (v := ?_) (a' := ?_) laws_eqFieldDefS.y3 rfl rfl (any_of HT_.out qa16) (fun _ _ _ h => h) (Or.inl ⟨by rfl, ?_⟩) ?_ ?_; rotate_left; exact qa20; rotate_left; exact qa7; refine pure_ (i := 4) (N := some 21) (v := ?_) (a' := ?_) laws_eqFieldDefS.y4 rfl rfl (any_of HT_.out qa16) (fun _ _ _ h => h) (Or.inl ⟨by rfl, ?_⟩) ?_ ?_; rotate_left; exact qa20; rotate_left; exact qa7; refine pure_ (i := 5) (N := some 22) (v := ?_) (a' := ?_) laws_eqFieldDefS.y5 rfl rfl (any_of HT_.out qa16) (fun _ _ _ h => h) (Or.inl ⟨by rfl, ?_⟩) ?_ ?_; rotate_left; exact qa20; rotate_left; exact qa7; refine pure_ (i := 6) (N := some 23) (v := ?_) (a' := ?_) laws_eqFieldDefS.y6 rfl rfl (any_of HT_.out qa16) (fun _ _ _ h => h) (Or.inl ⟨by rfl, ?_⟩) ?_ ?_; rotate_left; exact qa20; rotate_left; exact qa7; refine take_ (i := 3) (N := some 20) (v := ?_) (a' := ?_) laws_eqFieldDefS.y7 rfl rfl (take_ofW HT_.out HW_.out qa16) (fun _ _ _ h => h) (Or.inl ⟨by rfl, ?_⟩) hHeld ?_ ?_; rotate_left; exact qa112; rotate_left; exact qa7; refine take_ (i := 7) (N := some 24) (v := ?_) (a' := ?_) laws_eqFieldDefS.y8 rfl rfl (take_ofW HT_.out HW_.out qa16) (fun _ _ _ h => h) (Or.inl ⟨by rfl, ?_⟩) hHeld ?_ ?_; rotate_left; exact qa112; rotate_left; exact qa7; refine one_ (i := 8) (N := some 25) laws_eqFieldDefS.y9 rfl rfl (one_of HT_.out qa16) qa60 (fun K hK => ?_); refine goes_ Tryd.func62 qa16 rfl #[.agg #[.string ((rd_T47 l0 x5_1).f0), .slice A101_1 ((rd_T47 l0 x5_1).f1).length c101_1, .string ((rd_T47 l0 x5_1).f2), .bool ((rd_T47 l0 x5_1).f3), .bool ((rd_T47 l0 x5_1).f4)], .agg #[.string ((rd_T47 l1 x5_1).f0), .slice A102_1 ((rd_T47 l1 x5_1).f1).length c102_1, .string ((rd_T47 l1 x5_1).f2), .bool ((rd_T47 l1 x5_1).f3), .bool ((rd_T47 l1 x5_1).f4)]] (by rfl) rfl rfl qa0 ?_; (with_reducible refine (laws_eqFieldDef.calls k1 ((rd_T47 l0 x5_1).f0) _ _ ((rd_T47 l0 x5_1).f1) ((rd_T47 l0 x5_1).f2) ((rd_T47 l0 x5_1).f3) ((rd_T47 l0 x5_1).f4) ((rd_T47 l1 x5_1).f0) _ _ ((rd_T47 l1 x5_1).f1) ((rd_T47 l1 x5_1).f2) ((rd_T47 l1 x5_1).f3) ((rd_T47 l1 x5_1).f4) true _ ?side1 ?side2 ?side3 ?side4 A7.out).mono ?_); (case side1 => exact qa42); (case side2 => exact HC101_1.out); (case side3 => exact qa78); (case side4 => exact HC102_1.out); rintro e w10 ⟨rfl, hb⟩; have hx_ := qHX HB hb qa1; refine ⟨_, rfl, ?_⟩; have n0_ := qO (below_step (below_step HB.out hx_) hb); clear HB; have HB := n0_; clear n0_; clear hx_; (try clear hb); (try clear hb2); (try clear hk); (try clear hi); refine hK.out _ _ ⟨((HB.out.cell (qL w _ hw101_0)).trans hw101_0), ((HB.out.cell (qL w _ hw101_1)).trans hw101_1), ((HB.out.cell (qL w _ hw101_2)).trans hw101_2), ((HB.out.cell (qL w _ hw101_3)).trans hw101_3), ((HB.out.cell (qL w _ hw101_4)).trans hw101_4), ((HB.out.cell (qL w _ hw102_0)).trans hw102_0), ((HB.out.cell (qL w _ hw102_1)).trans hw102_1), ((HB.out.cell (qL w _ hw102_2)).trans hw102_2), ((HB.out.cell (qL w _ hw102_3)).trans hw102_3), ((HB.out.cell (qL w _ hw102_4)).trans hw102_4)⟩ (fun hHeld => ?_); clear hK K; refine norm_ (a' := ?_) ?_ ?_; rotate_left
        ·exact qa13
        refine pure_ (i := 9) (N := some 26) (v := ?_) (a' := ?_) laws_eqFieldDefS.y10 rfl rfl (any_of HT_.out qa16) (fun _ _ _ h => h) (Or.inl ⟨by rfl, ?_⟩) ?_ ?_; rotate_left; exact qa20; rotate_left; exact qa7; refine done_ (done_of HT_.out qa16) ?_
        try go_wp2
        go_roundg k1
        case measure => have := HK1.out; omega
        case rel => exact ⟨(wrap64 (x5_1 + 1)), qa10, H', ⟨qa99⟩, ⟨qa11⟩⟩
       ·replace c8 := Bool.eq_false_iff.mpr c8
        subst c8; have H1 : (some false) = some r := by rw [if_neg (show ¬ (false = true) by decide)] at H; exact H
        clear H; have H := H1; clear H1; obtain rfl := Option.some.inj H
        try go_wp2
        have n0_ := qO (qbD HB.out); clear HB; have HB := n0_; clear n0_; have p101 : 0 ≤ (x5_1 : Int) := qT qa6; have q101 : x5_1 < (l0.length : Int) := qT qa6; obtain ⟨ad101, A101_1, c101_1, e101, hx101_0, hx101_1, hx101_2, hx101_3, hx101_4, hl101_1, hi101_1⟩ := at_T47 HR0.out x5_1 p101 q101; have hw101_4 := hx101_4; have hw101_3 := hx101_3; have hw101_2 := hx101_2; have hw101_1 := hx101_1; have hw101_0 := hx101_0
        cases e101
        replace hx101_0 := (HB.out.cell (qL w _ hx101_0)).trans hx101_0; replace hx101_1 := (HB.out.cell (qL w _ hx101_1)).trans hx101_1; replace hx101_2 := (HB.out.cell (qL w _ hx101_2)).trans hx101_2; replace hx101_3 := (HB.out.cell (qL w _ hx101_3)).trans hx101_3; replace hx101_4 := (HB.out.cell (qL w _ hx101_4)).trans hx101_4; have HR101_1 := qO hi101_1; have HC101_1 := qO hl101_1; clear hi101_1 hl101_1; replace p101 := eq_true p101; replace q101 := eq_true q101; have p102 : 0 ≤ (x5_1 : Int) := qT qa6; have q102 : x5_1 < (l1.length : Int) := qT qa6; obtain ⟨ad102, A102_1, c102_1, e102, hx102_0, hx102_1, hx102_2, hx102_3, hx102_4, hl102_1, hi102_1⟩ := at_T47 HR1.out x5_1 p102 q102; have hw102_4 := hx102_4; have hw102_3 := hx102_3; have hw102_2 := hx102_2; have hw102_1 := hx102_1; have hw102_0 := hx102_0
        cases e102
        replace hx102_0 := (HB.out.cell (qL w _ hx102_0)).trans hx102_0; replace hx102_1 := (HB.out.cell (qL w _ hx102_1)).trans hx102_1; replace hx102_2 := (HB.out.cell (qL w _ hx102_2)).trans hx102_2; replace hx102_3 := (HB.out.cell (qL w _ hx102_3)).trans hx102_3; replace hx102_4 := (HB.out.cell (qL w _ hx102_4)).trans hx102_4; have HR102_1 := qO hi102_1; have HC102_1 := qO hl102_1; clear hi102_1 hl102_1; replace p102 := eq_true p102; replace q102 := eq_true q102; refine start_ (n := 10) (S := fun w' => w'.cell? (ad101.add ((x5_1).toNat * 5)) = some (.string ((rd_T47 l0 x5_1).f0)) ∧ w'.cell? ⟨(ad101.add ((x5_1).toNat * 5)).block, (ad101.add ((x5_1).toNat * 5)).off + 1, none⟩ = some (.slice A101_1 ((rd_T47 l0 x5_1).f1).length c101_1) ∧ w'.cell? ⟨(ad101.add ((x5_1).toNat * 5)).block, (ad101.add ((x5_1).toNat * 5)).off + 2, none⟩ = some (.string ((rd_T47 l0 x5_1).f2)) ∧ w'.cell? ⟨(ad101.add ((x5_1).toNat * 5)).block, (ad101.add ((x5_1).toNat * 5)).off + 3, none⟩ = some (.bool ((rd_T47 l0 x5_1).f3)) ∧ w'.cell? ⟨(ad101.add ((x5_1).toNat * 5)).block, (ad101.add ((x5_1).toNat * 5)).off + 4, none⟩ = some (.bool ((rd_T47 l0 x5_1).f4)) ∧ w'.cell? (ad102.add ((x5_1).toNat * 5)) = some (.string ((rd_T47 l1 x5_1).f0)) ∧ w'.cell? ⟨(ad102.add ((x5_1).toNat * 5)).block, (ad102.add ((x5_1).toNat * 5)).off + 1, none⟩ = some (.slice A102_1 ((rd_T47 l1 x5_1).f1).length c102_1) ∧ w'.cell? ⟨(ad102.add ((x5_1).toNat * 5)).block, (ad102.add ((x5_1).toNat * 5)).off + 2, none⟩ = some (.string ((rd_T47 l1 x5_1).f2)) ∧ w'.cell? ⟨(ad102.add ((x5_1).toNat * 5)).block, (ad102.add ((x5_1).toNat * 5)).off + 3, none⟩ = some (.bool ((rd_T47 l1 x5_1).f3)) ∧ w'.cell? ⟨(ad102.add ((x5_1).toNat * 5)).block, (ad102.add ((x5_1).toNat * 5)).off + 4, none⟩ = some (.bool ((rd_T47 l1 x5_1).f4))) (ds := []) laws_eqFieldDefS.y0 qa16 rfl rfl ⟨((HB.out.cell (qL w _ hw101_0)).trans hw101_0), ((HB.out.cell (qL w _ hw101_1)).trans hw101_1), ((HB.out.cell (qL w _ hw101_2)).trans hw101_2), ((HB.out.cell (qL w _ hw101_3)).trans hw101_3), ((HB.out.cell (qL w _ hw101_4)).trans hw101_4), ((HB.out.cell (qL w _ hw102_0)).trans hw102_0), ((HB.out.cell (qL w _ hw102_1)).trans hw102_1), ((HB.out.cell (qL w _ hw102_2)).trans hw102_2), ((HB.out.cell (qL w _ hw102_3)).trans hw102_3), ((HB.out.cell (qL w _ hw102_4)).trans hw102_4)⟩ (fun hHeld => ?_); refine with_tabW laws_eqFieldDefS.tab6 laws_eqFieldDefS.bits6 (fun HT_ HW_ => ?_); generalize wr.drew = w11 at HB HR101_1 HR102_1 hx101_0 hx101_1 hx101_2 hx101_3 hx101_4 hx102_0 hx102_1 hx102_2 hx102_3 hx102_4 hHeld ⊢; refine pure_ (i := 0) (N := some 17) (v := ?_) (a' := ?_) laws_eqFieldDefS.y1 rfl rfl (any_of HT_.out qa16) (fun _ _ _ h => h) (Or.inl ⟨by rfl, ?_⟩) ?_ ?_; rotate_left; exact qa20; rotate_left; exact qa7; refine pure_ (i := 1) (N := some 18) (v := ?_) (a' := ?_) laws_eqFieldDefS.y2 rfl rfl (any_of HT_.out qa16) (fun _ _ _ h => h) (Or.inl ⟨by rfl, ?_⟩) ?_ ?_; rotate_left; exact qa20; rotate_left; exact qa7; refine pure_ (i := 2) (N := some 19) (v := ?_) (a' := ?_) laws_eqFieldDefS.y3 rfl rfl (any_of HT_.out qa16) (fun _ _ _ h => h) (Or.inl ⟨by rfl, ?_⟩) ?_ ?_; rotate_left; exact qa20; rotate_left; exact qa7; refine pure_ (i := 4) (N := some 21) (v := ?_) (a' := ?_) laws_eqFieldDefS.y4 rfl rfl (any_of HT_.out qa16) (fun _ _ _ h => h) (Or.inl ⟨by rfl, ?_⟩) ?_ ?_; rotate_left; exact qa20; rotate_left; exact qa7; refine pure_ (i := 5) (N := some 22) (v := ?_) (a' := ?_) laws_eqFieldDefS.y5 rfl rfl (any_of HT_.out qa16) (fun _ _ _ h => h) (Or.inl ⟨by rfl, ?_⟩) ?_ ?_; rotate_left; exact qa20; rotate_left; exact qa7; refine pure_ (i := 6) (N := some 23) (v := ?_) (a' := ?_) laws_eqFieldDefS.y6 rfl rfl (any_of HT_.out qa16) (fun _ _ _ h => h) (Or.inl ⟨by rfl, ?_⟩) ?_ ?_; rotate_left; exact qa20; rotate_left; exact qa7; refine take_ (i := 3) (N := some 20) (v := ?_) (a' := ?_) laws_eqFieldDefS.y7 rfl rfl (take_ofW HT_.out HW_.out qa16) (fun _ _ _ h => h) (Or.inl ⟨by rfl, ?_⟩) hHeld ?_ ?_; rotate_left; exact qa112; rotate_left; exact qa7; refine take_ (i := 7) (N := some 24) (v := ?_) (a' := ?_) laws_eqFieldDefS.y8 rfl rfl (take_ofW HT_.out HW_.out qa16) (fun _ _ _ h => h) (Or.inl ⟨by rfl, ?_⟩) hHeld ?_ ?_; rotate_left; exact qa112; rotate_left; exact qa7; refine one_ (i := 8) (N := some 25) laws_eqFieldDefS.y9 rfl rfl (one_of HT_.out qa16) qa60 (fun K hK => ?_); refine goes_ Tryd.func62 qa16 rfl #[.agg #[.string ((rd_T47 l0 x5_1).f0), .slice A101_1 ((rd_T47 l0 x5_1).f1).length c101_1, .string ((rd_T47 l0 x5_1).f2), .bool ((rd_T47 l0 x5_1).f3), .bool ((rd_T47 l0 x5_1).f4)], .agg #[.string ((rd_T47 l1 x5_1).f0), .slice A102_1 ((rd_T47 l1 x5_1).f1).length c102_1, .string ((rd_T47 l1 x5_1).f2), .bool ((rd_T47 l1 x5_1).f3), .bool ((rd_T47 l1 x5_1).f4)]] (by rfl) rfl rfl qa0 ?_; (with_reducible refine (laws_eqFieldDef.calls k1 ((rd_T47 l0 x5_1).f0) _ _ ((rd_T47 l0 x5_1).f1) ((rd_T47 l0 x5_1).f2) ((rd_T47 l0 x5_1).f3) ((rd_T47 l0 x5_1).f4) ((rd_T47 l1 x5_1).f0) _ _ ((rd_T47 l1 x5_1).f1) ((rd_T47 l1 x5_1).f2) ((rd_T47 l1 x5_1).f3) ((rd_T47 l1 x5_1).f4) false _ ?side1 ?side2 ?side3 ?side4 A7.out).mono ?_); (case side1 => exact qa42); (case side2 => exact HC101_1.out); (case side3 => exact qa78); (case side4 => exact HC102_1.out); rintro e w12 ⟨rfl, hb⟩; have hx_ := qHX HB hb qa1; refine ⟨_, rfl, ?_⟩; have n0_ := qO (below_step (below_step HB.out hx_) hb); clear HB; have HB := n0_; clear n0_; clear hx_; (try clear hb); (try clear hb2); (try clear hk); (try clear hi); refine hK.out _ _ ⟨((HB.out.cell (qL w _ hw101_0)).trans hw101_0), ((HB.out.cell (qL w _ hw101_1)).trans hw101_1), ((HB.out.cell (qL w _ hw101_2)).trans hw101_2), ((HB.out.cell (qL w _ hw101_3)).trans hw101_3), ((HB.out.cell (qL w _ hw101_4)).trans hw101_4), ((HB.out.cell (qL w _ hw102_0)).trans hw102_0), ((HB.out.cell (qL w _ hw102_1)).trans hw102_1), ((HB.out.cell (qL w _ hw102_2)).trans hw102_2), ((HB.out.cell (qL w _ hw102_3)).trans hw102_3), ((HB.out.cell (qL w _ hw102_4)).trans hw102_4)⟩ (fun hHeld => ?_); clear hK K; refine norm_ (a' := ?_) ?_ ?_; rotate_left
        ·exact qa13
        refine pure_ (i := 9) (N := some 26) (v := ?_) (a' := ?_) laws_eqFieldDefS.y10 rfl rfl (any_of HT_.out qa16) (fun _ _ _ h => h) (Or.inl ⟨by rfl, ?_⟩) ?_ ?_; rotate_left; exact qa20; rotate_left; exact qa7; refine done_ (done_of HT_.out qa16) ?_
        try go_wp2
        go_ret
        exact ⟨qa5, qa11⟩
      ·rw [if_neg c6] at H
       exact absurd H qa76
     ·rw [if_neg c5] at H
      exact absurd H qa76
    ·rw [if_neg c4] at H
     have c4b0 : decide (x5_1 < (l0.length : Int)) = false := decide_eq_false c4; clear c4; obtain rfl := Option.some.inj H; go_wp2
     go_ret
     exact ⟨qa5, qa11⟩
 ·rw [if_neg c3] at H
  have c3b0 : ((l0.length : Int) == (l1.length : Int)) = false := beq_eq_false_iff_ne.mpr c3; have c3b1 : ((l0.length : Int) != (l1.length : Int)) = true := bne_iff_ne.mpr c3; have c3b2 : (l0.length == l1.length) = false := by first | simpa using c3 | (simp at c3 ⊢; omega)
  obtain rfl := Option.some.inj H
  go_enter Tryd.func52, Tryd.ntmps52
  go_wp2
  go_ret
  exact ⟨qa5, qa11⟩


def laws_eqTypeDef.f (k : Nat) (a0_0 : ByteArray) (l0_1 : List (S47)) (a1_0 : ByteArray) (l1_1 : List (S47)) : Option (Bool) := if a0_0.toList = a1_0.toList then ((laws_eqFieldDefS.f k l0_1 l1_1).bind fun t103 => (if t103 = true then (some true) else (some false))) else (some false)
set_option maxHeartbeats 8000000 in
set_option maxRecDepth 100000 in
theorem laws_eqTypeDef.calls (k : Nat) (a0_0 : ByteArray) (A0_1 : Option Addr) (c0_1 : Nat) (l0_1 : List (S47)) (a1_0 : ByteArray) (A1_1 : Option Addr) (c1_1 : Nat) (l1_1 : List (S47)) (r : Bool) (w : World) (hr0_1 : Kd.C k47 w A0_1 l0_1.length l0_1) (hc0_1 : l0_1.length ≤ c0_1) (hr1_1 : Kd.C k47 w A1_1 l1_1.length l1_1) (hc1_1 : l1_1.length ≤ c1_1) (h : laws_eqTypeDef.f k a0_0 l0_1 a1_0 l1_1 = some r) :
  Calls Tryd.prog 37 #[.agg #[.string a0_0, .slice A0_1 l0_1.length c0_1], .agg #[.string a1_0, .slice A1_1 l1_1.length c1_1]] w fun e w' => e = .returned (.bool r) ∧ Below w.heap.size w w' := by
 have hu41 := Tryd.underlying41; have HR0_1 := qO hr0_1; have HC0_1 := qO hc0_1; clear hr0_1 hc0_1; have HR1_1 := qO hr1_1; have HC1_1 := qO hc1_1; clear hr1_1 hc1_1; have HB := qO (Below.refl w.heap.size w); have H : (if a0_0.toList = a1_0.toList then ((laws_eqFieldDefS.f k l0_1 l1_1).bind fun t103 => (if t103 = true then (some true) else (some false))) else (some false)) = some r := h; clear h
 by_cases c3 : a0_0.toList = a1_0.toList
 ·rw [if_pos c3] at H
  have c3b0 : (a0_0.toList == a1_0.toList) = true := beq_iff_eq.mpr c3; have c3b1 : (a0_0.toList != a1_0.toList) = false := bne_eq_false_iff_eq.mpr c3; clear c3; replace H := Option.bind_eq_some_iff.mp H; obtain ⟨t103, A40, H⟩ := H; replace H : (if t103 = true then (some true) else (some false)) = some r := H; have A4 := qO A40; clear A40
  by_cases c5 : t103 = true
  ·subst c5
   have H1 : (some true) = some r := by rw [if_pos rfl] at H; exact H
   clear H; have H := H1; clear H1; obtain rfl := Option.some.inj H
   go_enter Tryd.func37, Tryd.ntmps37
   go_wp2_with (first | ((with_reducible refine gate_dst (N := 2) rfl ?_); refine box_event ?hg (N := 2) ?hd (cs := #[.string a0_0, .slice A0_1 l0_1.length c0_1]) (t := 41) ?hr ?_; (case hd => rfl); (case hg => rfl); (case hr => exact qa18); intro gb101 hg w6 hbox hb; have hx_ := qHX HB hb qa1; have n0_ := qO (below_step (below_step HB.out hx_) hb); have n1_ := qO (hbox); have n2_ := qO ((qa14 : w.heap.size ≤ gb101)); have n3_ := n2_; clear HB; have HB := n0_; have BK101 := n1_; have GW101 := n2_; have GE101 := n3_; clear n0_ n1_ n2_ n3_; clear hx_; clear hb hbox hg) | ((with_reducible refine gate_dst (N := 3) rfl ?_); refine box_event ?hg (N := 3) ?hd (cs := #[.string a1_0, .slice A1_1 l1_1.length c1_1]) (t := 41) ?hr ?_; (case hd => rfl); (case hg => rfl); (case hr => exact qa18); intro gb102 hg w7 hbox hb; have hx_ := qHX HB hb qa1; have n0_ := qO (qB BK101.out hx_ hb); have n1_ := qO (below_step (below_step HB.out hx_) hb); have n2_ := qO (hbox); have n3_ := qO ((qa14 : w.heap.size ≤ gb102)); have n4_ := n3_; have n5_ := qO ((qa53 : gb101 ≠ gb102)); have n6_ := qO (Ne.symm n5_.out); clear BK101; clear HB; have BK101 := n0_; have HB := n1_; have BK102 := n2_; have GW102 := n3_; have GE102 := n4_; have NB101_102 := n5_; have NB102_101 := n6_; clear n0_ n1_ n2_ n3_ n4_ n5_ n6_; clear hx_; clear hb hbox hg; have hnb8 := NB101_102.out; have hnc8 := NB102_101.out; have hcz9_0 : w7.cell? ⟨gb101, 0, none⟩ = some (.string a0_0) := (blk_cell BK101.out 0).trans rfl; have hcz9_1 : w7.cell? ⟨gb101, 1, none⟩ = some (.slice A0_1 l0_1.length c0_1) := (blk_cell BK101.out 1).trans rfl; have hfz9_0 := blk_frozen BK101.out 0; have hfz9_1 := blk_frozen BK101.out 1; have hcz10_0 : w7.cell? ⟨gb102, 0, none⟩ = some (.string a1_0) := (blk_cell BK102.out 0).trans rfl; have hcz10_1 : w7.cell? ⟨gb102, 1, none⟩ = some (.slice A1_1 l1_1.length c1_1) := (blk_cell BK102.out 1).trans rfl; have hfz10_0 := blk_frozen BK102.out 0; have hfz10_1 := blk_frozen BK102.out 1) | ((with_reducible refine gate_callee (f := 52) rfl ?_); refine goesL_ (some 14) rfl rfl Tryd.func52 qa16 rfl #[.slice A0_1 l0_1.length c0_1, .slice A1_1 l1_1.length c1_1] rfl qa0 ?_; (with_reducible refine (laws_eqFieldDefS.calls k _ _ l0_1 _ _ l1_1 true _ ?side1 ?side2 ?side3 ?side4 A4.out).mono ?_); (case side1 => exact qa26); (case side2 => exact HC0_1.out); (case side3 => exact qa46); (case side4 => exact HC1_1.out); rintro e w11 ⟨rfl, hb⟩; have hx_ := qHX HB hb qa1; refine ⟨_, rfl, ?_⟩; have n0_ := qO (qB BK101.out hx_ hb); have n1_ := qO (qB BK102.out hx_ hb); have n2_ := qO (below_step (below_step HB.out hx_) hb); clear BK101; clear BK102; clear HB; have BK101 := n0_; have BK102 := n1_; have HB := n2_; clear n0_ n1_ n2_; clear hx_; (try clear hb); (try clear hb2); (try clear hk); (try clear hi)))
   go_ret
   exact ⟨qa5, qa17⟩
  ·replace c5 := Bool.eq_false_iff.mpr c5
   subst c5; have H1 : (some false) = some r := by rw [if_neg (show ¬ (false = true) by decide)] at H; exact H
   clear H; have H := H1; clear H1; obtain rfl := Option.some.inj H
   go_enter Tryd.func37, Tryd.ntmps37
   go_wp2_with (first | ((with_reducible refine gate_dst (N := 2) rfl ?_); refine box_event ?hg (N := 2) ?hd (cs := #[.string a0_0, .slice A0_1 l0_1.length c0_1]) (t := 41) ?hr ?_; (case hd => rfl); (case hg => rfl); (case hr => exact qa18); intro gb101 hg w12 hbox hb; have hx_ := qHX HB hb qa1; have n0_ := qO (below_step (below_step HB.out hx_) hb); have n1_ := qO (hbox); have n2_ := qO ((qa14 : w.heap.size ≤ gb101)); have n3_ := n2_; clear HB; have HB := n0_; have BK101 := n1_; have GW101 := n2_; have GE101 := n3_; clear n0_ n1_ n2_ n3_; clear hx_; clear hb hbox hg) | ((with_reducible refine gate_dst (N := 3) rfl ?_); refine box_event ?hg (N := 3) ?hd (cs := #[.string a1_0, .slice A1_1 l1_1.length c1_1]) (t := 41) ?hr ?_; (case hd => rfl); (case hg => rfl); (case hr => exact qa18); intro gb102 hg w13 hbox hb; have hx_ := qHX HB hb qa1; have n0_ := qO (qB BK101.out hx_ hb); have n1_ := qO (below_step (below_step HB.out hx_) hb); have n2_ := qO (hbox); have n3_ := qO ((qa14 : w.heap.size ≤ gb102)); have n4_ := n3_; have n5_ := qO ((qa53 : gb101 ≠ gb102)); have n6_ := qO (Ne.symm n5_.out); clear BK101; clear HB; have BK101 := n0_; have HB := n1_; have BK102 := n2_; have GW102 := n3_; have GE102 := n4_; have NB101_102 := n5_; have NB102_101 := n6_; clear n0_ n1_ n2_ n3_ n4_ n5_ n6_; clear hx_; clear hb hbox hg; have hnb14 := NB101_102.out; have hnc14 := NB102_101.out; have hcz15_0 : w13.cell? ⟨gb101, 0, none⟩ = some (.string a0_0) := (blk_cell BK101.out 0).trans rfl; have hcz15_1 : w13.cell? ⟨gb101, 1, none⟩ = some (.slice A0_1 l0_1.length c0_1) := (blk_cell BK101.out 1).trans rfl; have hfz15_0 := blk_frozen BK101.out 0; have hfz15_1 := blk_frozen BK101.out 1; have hcz16_0 : w13.cell? ⟨gb102, 0, none⟩ = some (.string a1_0) := (blk_cell BK102.out 0).trans rfl; have hcz16_1 : w13.cell? ⟨gb102, 1, none⟩ = some (.slice A1_1 l1_1.length c1_1) := (blk_cell BK102.out 1).trans rfl; have hfz16_0 := blk_frozen BK102.out 0; have hfz16_1 := blk_frozen BK102.out 1) | ((with_reducible refine gate_callee (f := 52) rfl ?_); refine goesL_ (some 14) rfl rfl Tryd.func52 qa16 rfl #[.slice A0_1 l0_1.length c0_1, .slice A1_1 l1_1.length c1_1] rfl qa0 ?_; (with_reducible refine (laws_eqFieldDefS.calls k _ _ l0_1 _ _ l1_1 false _ ?side1 ?side2 ?side3 ?side4 A4.out).mono ?_); (case side1 => exact qa26); (case side2 => exact HC0_1.out); (case side3 => exact qa46); (case side4 => exact HC1_1.out); rintro e w17 ⟨rfl, hb⟩; have hx_ := qHX HB hb qa1; refine ⟨_, rfl, ?_⟩; have n0_ := qO (qB BK101.out hx_ hb); have n1_ := qO (qB BK102.out hx_ hb); have n2_ := qO (below_step (below_step HB.out hx_) hb); clear BK101; clear BK102; clear HB; have BK101 := n0_; have BK102 := n1_; have HB := n2_; clear n0_ n1_ n2_; clear hx_; (try clear hb); (try clear hb2); (try clear hk); (try clear hi)))
   go_ret
   exact ⟨qa5, qa17⟩
 ·rw [if_neg c3] at H
  have c3b0 : (a0_0.toList == a1_0.toList) = false := beq_eq_false_iff_ne.mpr c3; have c3b1 : (a0_0.toList != a1_0.toList) = true := bne_iff_ne.mpr c3; obtain rfl := Option.some.inj H
  go_enter Tryd.func37, Tryd.ntmps37
  go_wp2_with (first | ((with_reducible refine gate_dst (N := 2) rfl ?_); refine box_event ?hg (N := 2) ?hd (cs := #[.string a0_0, .slice A0_1 l0_1.length c0_1]) (t := 41) ?hr ?_; (case hd => rfl); (case hg => rfl); (case hr => exact qa18); intro gb101 hg w18 hbox hb; have hx_ := qHX HB hb qa1; have n0_ := qO (below_step (below_step HB.out hx_) hb); have n1_ := qO (hbox); have n2_ := qO ((qa14 : w.heap.size ≤ gb101)); have n3_ := n2_; clear HB; have HB := n0_; have BK101 := n1_; have GW101 := n2_; have GE101 := n3_; clear n0_ n1_ n2_ n3_; clear hx_; clear hb hbox hg) | ((with_reducible refine gate_dst (N := 3) rfl ?_); refine box_event ?hg (N := 3) ?hd (cs := #[.string a1_0, .slice A1_1 l1_1.length c1_1]) (t := 41) ?hr ?_; (case hd => rfl); (case hg => rfl); (case hr => exact qa18); intro gb102 hg w19 hbox hb; have hx_ := qHX HB hb qa1; have n0_ := qO (qB BK101.out hx_ hb); have n1_ := qO (below_step (below_step HB.out hx_) hb); have n2_ := qO (hbox); have n3_ := qO ((qa14 : w.heap.size ≤ gb102)); have n4_ := n3_; have n5_ := qO ((qa53 : gb101 ≠ gb102)); have n6_ := qO (Ne.symm n5_.out); clear BK101; clear HB; have BK101 := n0_; have HB := n1_; have BK102 := n2_; have GW102 := n3_; have GE102 := n4_; have NB101_102 := n5_; have NB102_101 := n6_; clear n0_ n1_ n2_ n3_ n4_ n5_ n6_; clear hx_; clear hb hbox hg; have hnb20 := NB101_102.out; have hnc20 := NB102_101.out; have hcz21_0 : w19.cell? ⟨gb101, 0, none⟩ = some (.string a0_0) := (blk_cell BK101.out 0).trans rfl; have hcz21_1 : w19.cell? ⟨gb101, 1, none⟩ = some (.slice A0_1 l0_1.length c0_1) := (blk_cell BK101.out 1).trans rfl; have hfz21_0 := blk_frozen BK101.out 0; have hfz21_1 := blk_frozen BK101.out 1; have hcz22_0 : w19.cell? ⟨gb102, 0, none⟩ = some (.string a1_0) := (blk_cell BK102.out 0).trans rfl; have hcz22_1 : w19.cell? ⟨gb102, 1, none⟩ = some (.slice A1_1 l1_1.length c1_1) := (blk_cell BK102.out 1).trans rfl; have hfz22_0 := blk_frozen BK102.out 0; have hfz22_1 := blk_frozen BK102.out 1))
  go_ret
  exact ⟨qa5, qa17⟩


def laws_eqTypeDefS.l0 : Nat → List (S41) → List (S41) → Int → Option (Bool)
 | 0, _, _, _ => none
 | k + 1, x0, x1, x5 => if x5 < (x0.length : Int) then (if 0 ≤ x5 then (if x5 < (x1.length : Int) then ((laws_eqTypeDef.f k ((rd_T41 x0 x5).f0) ((rd_T41 x0 x5).f1) ((rd_T41 x1 x5).f0) ((rd_T41 x1 x5).f1)).bind fun t103 => (if t103 = true then (laws_eqTypeDefS.l0 k x0 x1 (wrap64 (x5 + 1))) else (some false))) else (none)) else (none)) else (some true)
def laws_eqTypeDefS.f (k : Nat) (l0 : List (S41)) (l1 : List (S41)) : Option (Bool) := if (l0.length : Int) = (l1.length : Int) then (laws_eqTypeDefS.l0 k l0 l1 0) else (some false)
def laws_eqTypeDefS.T6 : Bool × List (List Nat × List Nat) := (true, [([], []), ([], []), ([0, 1], [0, 1]), ([2], [2]), ([], []), ([], []), ([4, 5], [4, 5]), ([6], [6]), ([3, 7], [3, 7]), ([8], [8])])
def laws_eqTypeDefS.B6 : List Nat := [0, 0, 3, 7, 0, 0, 48, 112, 255, 511]
theorem laws_eqTypeDefS.tab6 : rtab .any (opsOf Tryd.f18 6) = laws_eqTypeDefS.T6 := by kernel_rfl
theorem laws_eqTypeDefS.bits6 : waitsOk laws_eqTypeDefS.T6.2 laws_eqTypeDefS.B6 = true := by kernel_rfl
def laws_eqTypeDefS.y0 : Array Bool := #[false, false, false, false, false, false, false, false, false, false]
def laws_eqTypeDefS.y1 : Array Bool := #[true, false, false, false, false, false, false, false, false, false]
def laws_eqTypeDefS.y2 : Array Bool := #[true, true, false, false, false, false, false, false, false, false]
def laws_eqTypeDefS.y3 : Array Bool := #[true, true, true, false, false, false, false, false, false, false]
def laws_eqTypeDefS.y4 : Array Bool := #[true, true, true, false, true, false, false, false, false, false]
def laws_eqTypeDefS.y5 : Array Bool := #[true, true, true, false, true, true, false, false, false, false]
def laws_eqTypeDefS.y6 : Array Bool := #[true, true, true, false, true, true, true, false, false, false]
def laws_eqTypeDefS.y7 : Array Bool := #[true, true, true, true, true, true, true, false, false, false]
def laws_eqTypeDefS.y8 : Array Bool := #[true, true, true, true, true, true, true, true, false, false]
def laws_eqTypeDefS.y9 : Array Bool := #[true, true, true, true, true, true, true, true, true, false]
def laws_eqTypeDefS.y10 : Array Bool := #[true, true, true, true, true, true, true, true, true, true]
set_option maxHeartbeats 8000000 in
set_option maxRecDepth 100000 in
theorem laws_eqTypeDefS.calls (k : Nat) (A0 : Option Addr) (c0 : Nat) (l0 : List (S41)) (A1 : Option Addr) (c1 : Nat) (l1 : List (S41)) (r : Bool) (w : World) (hr0 : Kd.C k41 w A0 l0.length l0) (hc0 : l0.length ≤ c0) (hr1 : Kd.C k41 w A1 l1.length l1) (hc1 : l1.length ≤ c1) (h : laws_eqTypeDefS.f k l0 l1 = some r) :
  Calls Tryd.prog 18 #[.slice A0 l0.length c0, .slice A1 l1.length c1] w fun e w' => e = .returned (.bool r) ∧ Below w.heap.size w w' := by
 have hu41 := Tryd.underlying41; have HR0 := qO hr0; have HC0 := qO hc0; clear hr0 hc0; have HR1 := qO hr1; have HC1 := qO hc1; clear hr1 hc1; have HB := qO (Below.refl w.heap.size w); have H : (if (l0.length : Int) = (l1.length : Int) then (laws_eqTypeDefS.l0 k l0 l1 0) else (some false)) = some r := h; clear h
 by_cases c3 : (l0.length : Int) = (l1.length : Int)
 ·rw [if_pos c3] at H
  have c3b0 : ((l0.length : Int) == (l1.length : Int)) = true := beq_iff_eq.mpr c3; have c3b1 : ((l0.length : Int) != (l1.length : Int)) = false := bne_eq_false_iff_eq.mpr c3; have c3b2 : (l0.length == l1.length) = true := by first | simpa using c3 | (simp at c3 ⊢; omega)
  clear c3; have H' := qO H; clear H
  go_enter Tryd.func18, Tryd.ntmps18
  go_wp2
  go_loopg [5] k (fun kq v5 w' => ∃ (x5_1 : Int), v5 = .int .i64 x5_1 ∧ Aside0 (laws_eqTypeDefS.l0 kq l0 l1 x5_1 = some r) ∧ Aside0 (kq ≤ k) ∧ Aside0 (Below w.heap.size w w'))
  case atStart => exact ⟨(0), qa10, H', ⟨Nat.le_refl _⟩, ⟨qa11⟩⟩
  case round =>
   clear H'
   try clear c1
   try clear p2
   try clear c3
   try clear c3b0
   try clear c3b1
   try clear c3b2
   obtain ⟨x5_1, rfl, HA, HK1, HB⟩ := hrel
   cases gk with
   | zero => exact absurd HA.out (by simp [laws_eqTypeDefS.l0])
   | succ k1 =>
    have H := HA.out; clear HA; simp only [laws_eqTypeDefS.l0] at H
    by_cases c4 : x5_1 < (l0.length : Int)
    ·rw [if_pos c4] at H
     have c4b0 : decide (x5_1 < (l0.length : Int)) = true := decide_eq_true c4; clear c4
     by_cases c5 : 0 ≤ x5_1
     ·rw [if_pos c5] at H
      have c5b0 : decide (0 ≤ x5_1) = true := decide_eq_true c5; clear c5
      by_cases c6 : x5_1 < (l1.length : Int)
      ·rw [if_pos c6] at H
       have c6b0 : decide (x5_1 < (l1.length : Int)) = true := decide_eq_true c6; clear c6; replace H := Option.bind_eq_some_iff.mp H; obtain ⟨t103, A70, H⟩ := H; replace H : (if t103 = true then (laws_eqTypeDefS.l0 k1 l0 l1 (wrap64 (x5_1 + 1))) else (some false)) = some r := H; have A7 := qO A70; clear A70
       by_cases c8 : t103 = true
       ·subst c8
        have H1 : (laws_eqTypeDefS.l0 k1 l0 l1 (wrap64 (x5_1 + 1))) = some r := by rw [if_pos rfl] at H; exact H
        clear H; have H := H1; clear H1; have H' := qO H; clear H
        try go_wp2
        have n0_ := qO (qbD HB.out); clear HB; have HB := n0_; clear n0_; have p101 : 0 ≤ (x5_1 : Int) := qT qa6; have q101 : x5_1 < (l0.length : Int) := qT qa6; obtain ⟨ad101, A101_1, c101_1, e101, hx101_0, hx101_1, hl101_1, hi101_1⟩ := at_T41 HR0.out x5_1 p101 q101; have hw101_1 := hx101_1; have hw101_0 := hx101_0
        cases e101
        replace hx101_0 := (HB.out.cell (qL w _ hx101_0)).trans hx101_0; replace hx101_1 := (HB.out.cell (qL w _ hx101_1)).trans hx101_1; have HR101_1 := qO hi101_1; have HC101_1 := qO hl101_1; clear hi101_1 hl101_1; replace p101 := eq_true p101; replace q101 := eq_true q101; have p102 : 0 ≤ (x5_1 : Int) := qT qa6; have q102 : x5_1 < (l1.length : Int) := qT qa6; obtain ⟨ad102, A102_1, c102_1, e102, hx102_0, hx102_1, hl102_1, hi102_1⟩ := at_T41 HR1.out x5_1 p102 q102; have hw102_1 := hx102_1; have hw102_0 := hx102_0
        cases e102
        replace hx102_0 := (HB.out.cell (qL w _ hx102_0)).trans hx102_0; replace hx102_1 := (HB.out.cell (qL w _ hx102_1)).trans hx102_1; have HR102_1 := qO hi102_1; have HC102_1 := qO hl102_1; clear hi102_1 hl102_1; replace p102 := eq_true p102; replace q102 := eq_true q102; refine start_ (n := 10) (S := fun w' => w'.cell? (ad101.add ((x5_1).toNat * 2)) = some (.string ((rd_T41 l0 x5_1).f0)) ∧ w'.cell? ⟨(ad101.add ((x5_1).toNat * 2)).block, (ad101.add ((x5_1).toNat * 2)).off + 1, none⟩ = some (.slice A101_1 ((rd_T41 l0 x5_1).f1).length c101_1) ∧ w'.cell? (ad102.add ((x5_1).toNat * 2)) = some (.string ((rd_T41 l1 x5_1).f0)) ∧ w'.cell? ⟨(ad102.add ((x5_1).toNat * 2)).block, (ad102.add ((x5_1).toNat * 2)).off + 1, none⟩ = some (.slice A102_1 ((rd_T41 l1 x5_1).f1).length c102_1)) (ds := []) laws_eqTypeDefS.y0 qa16 rfl rfl ⟨((HB.out.cell (qL w _ hw101_0)).trans hw101_0), ((HB.out.cell (qL w _ hw101_1)).trans hw101_1), ((HB.out.cell (qL w _ hw102_0)).trans hw102_0), ((HB.out.cell (qL w _ hw102_1)).trans hw102_1)⟩ (fun hHeld => ?_); refine with_tabW laws_eqTypeDefS.tab6 laws_eqTypeDefS.bits6 (fun HT_ HW_ => ?_); generalize wr.drew = w9 at HB HR101_1 HR102_1 hx101_0 hx101_1 hx102_0 hx102_1 hHeld ⊢; refine pure_ (i := 0) (N := some 17) (v := ?_) (a' := ?_) laws_eqTypeDefS.y1 rfl rfl (any_of HT_.out qa16) (fun _ _ _ h => h) (Or.inl ⟨by rfl, ?_⟩) ?_ ?_; rotate_left; exact qa20; rotate_left; exact qa7; refine pure_ (i := 1) (N := some 18) (v := ?_) (a' := ?_) laws_eqTypeDefS.y2 rfl rfl (any_of HT_.out qa16) (fun _ _ _ h => h) (Or.inl ⟨by rfl, ?_⟩) ?_ ?_; rotate_left; exact qa20; rotate_left; exact qa7; refine pure_ (i := 2) (N := some 19) (v := ?_) (a' := ?_) laws_eqTypeDefS.y3 rfl rfl (any_of HT_.out qa16) (fun _ _ _ h => h) (Or.inl ⟨by rfl, ?_⟩) ?_ ?_; rotate_left; exact qa20; rotate_left; exact qa7; refine pure_ (i := 4) (N := some 21) (v := ?_) (a' := ?_) laws_eqTypeDefS.y4 rfl rfl (any_of HT_.out qa16) (fun _ _ _ h => h) (Or.inl ⟨by rfl, ?_⟩) ?_ ?_; rotate_left; exact qa20; rotate_left; exact qa7; refine pure_ (i := 5) (N := some 22) (v := ?_) (a' := ?_) laws_eqTypeDefS.y5 rfl rfl (any_of HT_.out qa16) (fun _ _ _ h => h) (Or.inl ⟨by rfl, ?_⟩) ?_ ?_; rotate_left; exact qa20; rotate_left; exact qa7; refine pure_ (i := 6) (N := some 23) (v := ?_) (a' := ?_) laws_eqTypeDefS.y6 rfl rfl (any_of HT_.out qa16) (fun _ _ _ h => h) (Or.inl ⟨by rfl, ?_⟩) ?_ ?_; rotate_left; exact qa20; rotate_left; exact qa7; refine take_ (i := 3) (N := some 20) (v := ?_) (a' := ?_) laws_eqTypeDefS.y7 rfl rfl (take_ofW HT_.out HW_.out qa16) (fun _ _ _ h => h) (Or.inl ⟨by rfl, ?_⟩) hHeld ?_ ?_; rotate_left; exact qa101; rotate_left; exact qa7; refine take_ (i := 7) (N := some 24) (v := ?_) (a' := ?_) laws_eqTypeDefS.y8 rfl rfl (take_ofW HT_.out HW_.out qa16) (fun _ _ _ h => h) (Or.inl ⟨by rfl, ?_⟩) hHeld ?_ ?_; rotate_left; exact qa101; rotate_left; exact qa7; refine one_ (i := 8) (N := some 25) laws_eqTypeDefS.y9 rfl rfl (one_of HT_.out qa16) qa60 (fun K hK => ?_); refine goes_ Tryd.func37 qa16 rfl #[.agg #[.string ((rd_T41 l0 x5_1).f0), .slice A101_1 ((rd_T41 l0 x5_1).f1).length c101_1], .agg #[.string ((rd_T41 l1 x5_1).f0), .slice A102_1 ((rd_T41 l1 x5_1).f1).length c102_1]] (by rfl) rfl rfl qa0 ?_; (with_reducible refine (laws_eqTypeDef.calls k1 ((rd_T41 l0 x5_1).f0) _ _ ((rd_T41 l0 x5_1).f1) ((rd_T41 l1 x5_1).f0) _ _ ((rd_T41 l1 x5_1).f1) true _ ?side1 ?side2 ?side3 ?side4 A7.out).mono ?_); (case side1 => exact qa42); (case side2 => exact HC101_1.out); (case side3 => exact qa78); (case side4 => exact HC102_1.out); rintro e w10 ⟨rfl, hb⟩; have hx_ := qHX HB hb qa1; refine ⟨_, rfl, ?_⟩; have n0_ := qO (below_step (below_step HB.out hx_) hb); clear HB; have HB := n0_; clear n0_; clear hx_; (try clear hb); (try clear hb2); (try clear hk); (try clear hi); refine hK.out _ _ ⟨((HB.out.cell (qL w _ hw101_0)).trans hw101_0), ((HB.out.cell (qL w _ hw101_1)).trans hw101_1), ((HB.out.cell (qL w _ hw102_0)).trans hw102_0), ((HB.out.cell (qL w _ hw102_1)).trans hw102_1)⟩ (fun hHeld => ?_); clear hK K; refine norm_ (a' := ?_) ?_ ?_; rotate_left
        ·exact qa13
        refine pure_ (i := 9) (N := some 26) (v := ?_) (a' := ?_) laws_eqTypeDefS.y10 rfl rfl (any_of HT_.out qa16) (fun _ _ _ h => h) (Or.inl ⟨by rfl, ?_⟩) ?_ ?_; rotate_left; exact qa20; rotate_left; exact qa7; refine done_ (done_of HT_.out qa16) ?_
        try go_wp2
        go_roundg k1
        case measure => have := HK1.out; omega
        case rel => exact ⟨(wrap64 (x5_1 + 1)), qa10, H', ⟨qa99⟩, ⟨qa11⟩⟩
       ·replace c8 := Bool.eq_false_iff.mpr c8
        subst c8; have H1 : (some false) = some r := by rw [if_neg (show ¬ (false = true) by decide)] at H; exact H
        clear H; have H := H1; clear H1; obtain rfl := Option.some.inj H
        try go_wp2
        have n0_ := qO (qbD HB.out); clear HB; have HB := n0_; clear n0_; have p101 : 0 ≤ (x5_1 : Int) := qT qa6; have q101 : x5_1 < (l0.length : Int) := qT qa6; obtain ⟨ad101, A101_1, c101_1, e101, hx101_0, hx101_1, hl101_1, hi101_1⟩ := at_T41 HR0.out x5_1 p101 q101; have hw101_1 := hx101_1; have hw101_0 := hx101_0
        cases e101
        replace hx101_0 := (HB.out.cell (qL w _ hx101_0)).trans hx101_0; replace hx101_1 := (HB.out.cell (qL w _ hx101_1)).trans hx101_1; have HR101_1 := qO hi101_1; have HC101_1 := qO hl101_1; clear hi101_1 hl101_1; replace p101 := eq_true p101; replace q101 := eq_true q101; have p102 : 0 ≤ (x5_1 : Int) := qT qa6; have q102 : x5_1 < (l1.length : Int) := qT qa6; obtain ⟨ad102, A102_1, c102_1, e102, hx102_0, hx102_1, hl102_1, hi102_1⟩ := at_T41 HR1.out x5_1 p102 q102; have hw102_1 := hx102_1; have hw102_0 := hx102_0
        cases e102
        replace hx102_0 := (HB.out.cell (qL w _ hx102_0)).trans hx102_0; replace hx102_1 := (HB.out.cell (qL w _ hx102_1)).trans hx102_1; have HR102_1 := qO hi102_1; have HC102_1 := qO hl102_1; clear hi102_1 hl102_1; replace p102 := eq_true p102; replace q102 := eq_true q102; refine start_ (n := 10) (S := fun w' => w'.cell? (ad101.add ((x5_1).toNat * 2)) = some (.string ((rd_T41 l0 x5_1).f0)) ∧ w'.cell? ⟨(ad101.add ((x5_1).toNat * 2)).block, (ad101.add ((x5_1).toNat * 2)).off + 1, none⟩ = some (.slice A101_1 ((rd_T41 l0 x5_1).f1).length c101_1) ∧ w'.cell? (ad102.add ((x5_1).toNat * 2)) = some (.string ((rd_T41 l1 x5_1).f0)) ∧ w'.cell? ⟨(ad102.add ((x5_1).toNat * 2)).block, (ad102.add ((x5_1).toNat * 2)).off + 1, none⟩ = some (.slice A102_1 ((rd_T41 l1 x5_1).f1).length c102_1)) (ds := []) laws_eqTypeDefS.y0 qa16 rfl rfl ⟨((HB.out.cell (qL w _ hw101_0)).trans hw101_0), ((HB.out.cell (qL w _ hw101_1)).trans hw101_1), ((HB.out.cell (qL w _ hw102_0)).trans hw102_0), ((HB.out.cell (qL w _ hw102_1)).trans hw102_1)⟩ (fun hHeld => ?_); refine with_tabW laws_eqTypeDefS.tab6 laws_eqTypeDefS.bits6 (fun HT_ HW_ => ?_); generalize wr.drew = w11 at HB HR101_1 HR102_1 hx101_0 hx101_1 hx102_0 hx102_1 hHeld ⊢; refine pure_ (i := 0) (N := some 17) (v := ?_) (a' := ?_) laws_eqTypeDefS.y1 rfl rfl (any_of HT_.out qa16) (fun _ _ _ h => h) (Or.inl ⟨by rfl, ?_⟩) ?_ ?_; rotate_left; exact qa20; rotate_left; exact qa7; refine pure_ (i := 1) (N := some 18) (v := ?_) (a' := ?_) laws_eqTypeDefS.y2 rfl rfl (any_of HT_.out qa16) (fun _ _ _ h => h) (Or.inl ⟨by rfl, ?_⟩) ?_ ?_; rotate_left; exact qa20; rotate_left; exact qa7; refine pure_ (i := 2) (N := some 19) (v := ?_) (a' := ?_) laws_eqTypeDefS.y3 rfl rfl (any_of HT_.out qa16) (fun _ _ _ h => h) (Or.inl ⟨by rfl, ?_⟩) ?_ ?_; rotate_left; exact qa20; rotate_left; exact qa7; refine pure_ (i := 4) (N := some 21) (v := ?_) (a' := ?_) laws_eqTypeDefS.y4 rfl rfl (any_of HT_.out qa16) (fun _ _ _ h => h) (Or.inl ⟨by rfl, ?_⟩) ?_ ?_; rotate_left; exact qa20; rotate_left; exact qa7; refine pure_ (i := 5) (N := some 22) (v := ?_) (a' := ?_) laws_eqTypeDefS.y5 rfl rfl (any_of HT_.out qa16) (fun _ _ _ h => h) (Or.inl ⟨by rfl, ?_⟩) ?_ ?_; rotate_left; exact qa20; rotate_left; exact qa7; refine pure_ (i := 6) (N := some 23) (v := ?_) (a' := ?_) laws_eqTypeDefS.y6 rfl rfl (any_of HT_.out qa16) (fun _ _ _ h => h) (Or.inl ⟨by rfl, ?_⟩) ?_ ?_; rotate_left; exact qa20; rotate_left; exact qa7; refine take_ (i := 3) (N := some 20) (v := ?_) (a' := ?_) laws_eqTypeDefS.y7 rfl rfl (take_ofW HT_.out HW_.out qa16) (fun _ _ _ h => h) (Or.inl ⟨by rfl, ?_⟩) hHeld ?_ ?_; rotate_left; exact qa101; rotate_left; exact qa7; refine take_ (i := 7) (N := some 24) (v := ?_) (a' := ?_) laws_eqTypeDefS.y8 rfl rfl (take_ofW HT_.out HW_.out qa16) (fun _ _ _ h => h) (Or.inl ⟨by rfl, ?_⟩) hHeld ?_ ?_; rotate_left; exact qa101; rotate_left; exact qa7; refine one_ (i := 8) (N := some 25) laws_eqTypeDefS.y9 rfl rfl (one_of HT_.out qa16) qa60 (fun K hK => ?_); refine goes_ Tryd.func37 qa16 rfl #[.agg #[.string ((rd_T41 l0 x5_1).f0), .slice A101_1 ((rd_T41 l0 x5_1).f1).length c101_1], .agg #[.string ((rd_T41 l1 x5_1).f0), .slice A102_1 ((rd_T41 l1 x5_1).f1).length c102_1]] (by rfl) rfl rfl qa0 ?_; (with_reducible refine (laws_eqTypeDef.calls k1 ((rd_T41 l0 x5_1).f0) _ _ ((rd_T41 l0 x5_1).f1) ((rd_T41 l1 x5_1).f0) _ _ ((rd_T41 l1 x5_1).f1) false _ ?side1 ?side2 ?side3 ?side4 A7.out).mono ?_); (case side1 => exact qa42); (case side2 => exact HC101_1.out); (case side3 => exact qa78); (case side4 => exact HC102_1.out); rintro e w12 ⟨rfl, hb⟩; have hx_ := qHX HB hb qa1; refine ⟨_, rfl, ?_⟩; have n0_ := qO (below_step (below_step HB.out hx_) hb); clear HB; have HB := n0_; clear n0_; clear hx_; (try clear hb); (try clear hb2); (try clear hk); (try clear hi); refine hK.out _ _ ⟨((HB.out.cell (qL w _ hw101_0)).trans hw101_0), ((HB.out.cell (qL w _ hw101_1)).trans hw101_1), ((HB.out.cell (qL w _ hw102_0)).trans hw102_0), ((HB.out.cell (qL w _ hw102_1)).trans hw102_1)⟩ (fun hHeld => ?_); clear hK K; refine norm_ (a' := ?_) ?_ ?_; rotate_left
        ·exact qa13
        refine pure_ (i := 9) (N := some 26) (v := ?_) (a' := ?_) laws_eqTypeDefS.y10 rfl rfl (any_of HT_.out qa16) (fun _ _ _ h => h) (Or.inl ⟨by rfl, ?_⟩) ?_ ?_; rotate_left; exact qa20; rotate_left; exact qa7; refine done_ (done_of HT_.out qa16) ?_
        try go_wp2
        go_ret
        exact ⟨qa5, qa11⟩
      ·rw [if_neg c6] at H
       exact absurd H qa76
     ·rw [if_neg c5] at H
      exact absurd H qa76
    ·rw [if_neg c4] at H
     have c4b0 : decide (x5_1 < (l0.length : Int)) = false := decide_eq_false c4; clear c4; obtain rfl := Option.some.inj H; go_wp2
     go_ret
     exact ⟨qa5, qa11⟩
 ·rw [if_neg c3] at H
  have c3b0 : ((l0.length : Int) == (l1.length : Int)) = false := beq_eq_false_iff_ne.mpr c3; have c3b1 : ((l0.length : Int) != (l1.length : Int)) = true := bne_iff_ne.mpr c3; have c3b2 : (l0.length == l1.length) = false := by first | simpa using c3 | (simp at c3 ⊢; omega)
  obtain rfl := Option.some.inj H
  go_enter Tryd.func18, Tryd.ntmps18
  go_wp2
  go_ret
  exact ⟨qa5, qa11⟩


def laws_eqSchema.f (k : Nat) (l0_0 : List (S41)) (l1_0 : List (S41)) : Option (Bool) := (laws_eqTypeDefS.f k l0_0 l1_0).bind fun t103 => (if t103 = true then (some true) else (some false))
set_option maxHeartbeats 8000000 in
set_option maxRecDepth 100000 in
theorem laws_eqSchema.calls (k : Nat) (A0_0 : Option Addr) (c0_0 : Nat) (l0_0 : List (S41)) (A1_0 : Option Addr) (c1_0 : Nat) (l1_0 : List (S41)) (r : Bool) (w : World) (hr0_0 : Kd.C k41 w A0_0 l0_0.length l0_0) (hc0_0 : l0_0.length ≤ c0_0) (hr1_0 : Kd.C k41 w A1_0 l1_0.length l1_0) (hc1_0 : l1_0.length ≤ c1_0) (h : laws_eqSchema.f k l0_0 l1_0 = some r) :
  Calls Tryd.prog 8 #[.agg #[.slice A0_0 l0_0.length c0_0], .agg #[.slice A1_0 l1_0.length c1_0]] w fun e w' => e = .returned (.bool r) ∧ Below w.heap.size w w' := by
 have hu30 := Tryd.underlying30; have HR0_0 := qO hr0_0; have HC0_0 := qO hc0_0; clear hr0_0 hc0_0; have HR1_0 := qO hr1_0; have HC1_0 := qO hc1_0; clear hr1_0 hc1_0; have HB := qO (Below.refl w.heap.size w); have H : ((laws_eqTypeDefS.f k l0_0 l1_0).bind fun t103 => (if t103 = true then (some true) else (some false))) = some r := h; clear h; replace H := Option.bind_eq_some_iff.mp H; obtain ⟨t103, A30, H⟩ := H; replace H : (if t103 = true then (some true) else (some false)) = some r := H; have A3 := qO A30; clear A30
 by_cases c4 : t103 = true
 ·subst c4
  have H1 : (some true) = some r := by rw [if_pos rfl] at H; exact H
  clear H; have H := H1; clear H1; obtain rfl := Option.some.inj H
  go_enter Tryd.func8, Tryd.ntmps8
  go_wp2_with (first | ((with_reducible refine gate_dst (N := 2) rfl ?_); refine box_event ?hg (N := 2) ?hd (cs := #[.slice A0_0 l0_0.length c0_0]) (t := 30) ?hr ?_; (case hd => rfl); (case hg => rfl); (case hr => exact qa18); intro gb101 hg w5 hbox hb; have hx_ := qHX HB hb qa1; have n0_ := qO (below_step (below_step HB.out hx_) hb); have n1_ := qO (hbox); have n2_ := qO ((qa14 : w.heap.size ≤ gb101)); have n3_ := n2_; clear HB; have HB := n0_; have BK101 := n1_; have GW101 := n2_; have GE101 := n3_; clear n0_ n1_ n2_ n3_; clear hx_; clear hb hbox hg) | ((with_reducible refine gate_dst (N := 3) rfl ?_); refine box_event ?hg (N := 3) ?hd (cs := #[.slice A1_0 l1_0.length c1_0]) (t := 30) ?hr ?_; (case hd => rfl); (case hg => rfl); (case hr => exact qa18); intro gb102 hg w6 hbox hb; have hx_ := qHX HB hb qa1; have n0_ := qO (qB BK101.out hx_ hb); have n1_ := qO (below_step (below_step HB.out hx_) hb); have n2_ := qO (hbox); have n3_ := qO ((qa14 : w.heap.size ≤ gb102)); have n4_ := n3_; have n5_ := qO ((qa33 : gb101 ≠ gb102)); have n6_ := qO (Ne.symm n5_.out); clear BK101; clear HB; have BK101 := n0_; have HB := n1_; have BK102 := n2_; have GW102 := n3_; have GE102 := n4_; have NB101_102 := n5_; have NB102_101 := n6_; clear n0_ n1_ n2_ n3_ n4_ n5_ n6_; clear hx_; clear hb hbox hg; have hnb7 := NB101_102.out; have hnc7 := NB102_101.out; have hcz8_0 : w6.cell? ⟨gb101, 0, none⟩ = some (.slice A0_0 l0_0.length c0_0) := (blk_cell BK101.out 0).trans rfl; have hfz8_0 := blk_frozen BK101.out 0; have hcz9_0 : w6.cell? ⟨gb102, 0, none⟩ = some (.slice A1_0 l1_0.length c1_0) := (blk_cell BK102.out 0).trans rfl; have hfz9_0 := blk_frozen BK102.out 0) | ((with_reducible refine gate_callee (f := 18) rfl ?_); refine goesL_ (some 9) rfl rfl Tryd.func18 qa16 rfl #[.slice A0_0 l0_0.length c0_0, .slice A1_0 l1_0.length c1_0] rfl qa0 ?_; (with_reducible refine (laws_eqTypeDefS.calls k _ _ l0_0 _ _ l1_0 true _ ?side1 ?side2 ?side3 ?side4 A3.out).mono ?_); (case side1 => exact qa23); (case side2 => exact HC0_0.out); (case side3 => exact qa114); (case side4 => exact HC1_0.out); rintro e w10 ⟨rfl, hb⟩; have hx_ := qHX HB hb qa1; refine ⟨_, rfl, ?_⟩; have n0_ := qO (qB BK101.out hx_ hb); have n1_ := qO (qB BK102.out hx_ hb); have n2_ := qO (below_step (below_step HB.out hx_) hb); clear BK101; clear BK102; clear HB; have BK101 := n0_; have BK102 := n1_; have HB := n2_; clear n0_ n1_ n2_; clear hx_; (try clear hb); (try clear hb2); (try clear hk); (try clear hi)))
  go_ret
  exact ⟨qa5, qa17⟩
 ·replace c4 := Bool.eq_false_iff.mpr c4
  subst c4; have H1 : (some false) = some r := by rw [if_neg (show ¬ (false = true) by decide)] at H; exact H
  clear H; have H := H1; clear H1; obtain rfl := Option.some.inj H
  go_enter Tryd.func8, Tryd.ntmps8
  go_wp2_with (first | ((with_reducible refine gate_dst (N := 2) rfl ?_); refine box_event ?hg (N := 2) ?hd (cs := #[.slice A0_0 l0_0.length c0_0]) (t := 30) ?hr ?_; (case hd => rfl); (case hg => rfl); (case hr => exact qa18); intro gb101 hg w11 hbox hb; have hx_ := qHX HB hb qa1; have n0_ := qO (below_step (below_step HB.out hx_) hb); have n1_ := qO (hbox); have n2_ := qO ((qa14 : w.heap.size ≤ gb101)); have n3_ := n2_; clear HB; have HB := n0_; have BK101 := n1_; have GW101 := n2_; have GE101 := n3_; clear n0_ n1_ n2_ n3_; clear hx_; clear hb hbox hg) | ((with_reducible refine gate_dst (N := 3) rfl ?_); refine box_event ?hg (N := 3) ?hd (cs := #[.slice A1_0 l1_0.length c1_0]) (t := 30) ?hr ?_; (case hd => rfl); (case hg => rfl); (case hr => exact qa18); intro gb102 hg w12 hbox hb; have hx_ := qHX HB hb qa1; have n0_ := qO (qB BK101.out hx_ hb); have n1_ := qO (below_step (below_step HB.out hx_) hb); have n2_ := qO (hbox); have n3_ := qO ((qa14 : w.heap.size ≤ gb102)); have n4_ := n3_; have n5_ := qO ((qa33 : gb101 ≠ gb102)); have n6_ := qO (Ne.symm n5_.out); clear BK101; clear HB; have BK101 := n0_; have HB := n1_; have BK102 := n2_; have GW102 := n3_; have GE102 := n4_; have NB101_102 := n5_; have NB102_101 := n6_; clear n0_ n1_ n2_ n3_ n4_ n5_ n6_; clear hx_; clear hb hbox hg; have hnb13 := NB101_102.out; have hnc13 := NB102_101.out; have hcz14_0 : w12.cell? ⟨gb101, 0, none⟩ = some (.slice A0_0 l0_0.length c0_0) := (blk_cell BK101.out 0).trans rfl; have hfz14_0 := blk_frozen BK101.out 0; have hcz15_0 : w12.cell? ⟨gb102, 0, none⟩ = some (.slice A1_0 l1_0.length c1_0) := (blk_cell BK102.out 0).trans rfl; have hfz15_0 := blk_frozen BK102.out 0) | ((with_reducible refine gate_callee (f := 18) rfl ?_); refine goesL_ (some 9) rfl rfl Tryd.func18 qa16 rfl #[.slice A0_0 l0_0.length c0_0, .slice A1_0 l1_0.length c1_0] rfl qa0 ?_; (with_reducible refine (laws_eqTypeDefS.calls k _ _ l0_0 _ _ l1_0 false _ ?side1 ?side2 ?side3 ?side4 A3.out).mono ?_); (case side1 => exact qa23); (case side2 => exact HC0_0.out); (case side3 => exact qa114); (case side4 => exact HC1_0.out); rintro e w16 ⟨rfl, hb⟩; have hx_ := qHX HB hb qa1; refine ⟨_, rfl, ?_⟩; have n0_ := qO (qB BK101.out hx_ hb); have n1_ := qO (qB BK102.out hx_ hb); have n2_ := qO (below_step (below_step HB.out hx_) hb); clear BK101; clear BK102; clear HB; have BK101 := n0_; have BK102 := n1_; have HB := n2_; clear n0_ n1_ n2_; clear hx_; (try clear hb); (try clear hb2); (try clear hk); (try clear hi)))
  go_ret
  exact ⟨qa5, qa17⟩


def laws_FnExactPrintSchema.j0 : Nat → Bool → List (S54) → List (S41) → Option (Bool)
 | 0, _, _, _ => none
 | k + 1, x34, x102000, x112000 => if x34 = true then (none) else ((laws_toSchema.f k x102000).bind fun t114 => ((laws_eqSchema.f k x112000 t114).bind fun t117 => (if t117 = true then (some true) else (none))))
def laws_FnExactPrintSchema.f (k : Nat) (l0_0 : List (S54)) : Option (Bool) := (laws_szSchema.f k l0_0 1048576).bind fun t102 => (if t102 < 0 then (some true) else ((laws_toSchema.f k l0_0).bind fun t103 => ((spec_PrintSchema.f k t103).bind fun bt106 => ((laws_toSchema.f k l0_0).bind fun t108 => ((impl_PrintSchema.f k t108).bind fun bt112 => (if bt112.1.toList = bt106.1.toList then (laws_FnExactPrintSchema.j0 k (bt112.2 != bt106.2) l0_0 t108) else (laws_FnExactPrintSchema.j0 k true l0_0 t108)))))))
set_option maxHeartbeats 8000000 in
set_option maxRecDepth 100000 in
theorem laws_FnExactPrintSchema.calls (k : Nat) (A0_0 : Option Addr) (c0_0 : Nat) (l0_0 : List (S54)) (r : Bool) (w : World) (hr0_0 : Kd.C k54 w A0_0 l0_0.length l0_0) (hc0_0 : l0_0.length ≤ c0_0) (h : laws_FnExactPrintSchema.f k l0_0 = some r) (htab : Tb w) :
  Calls Tryd.prog 3 #[.agg #[.slice A0_0 l0_0.length c0_0]] w fun e w' => e = .returned (.bool r) ∧ Below w.heap.size w w' := by
 have HTAB := qO htab; clear htab; have hu24 := Tryd.underlying24; have hu30 := Tryd.underlying30; have HR0_0 := qO hr0_0; have HC0_0 := qO hc0_0; clear hr0_0 hc0_0; have HB := qO (Below.refl w.heap.size w); have H : ((laws_szSchema.f k l0_0 1048576).bind fun t102 => (if t102 < 0 then (some true) else ((laws_toSchema.f k l0_0).bind fun t103 => ((spec_PrintSchema.f k t103).bind fun bt106 => ((laws_toSchema.f k l0_0).bind fun t108 => ((impl_PrintSchema.f k t108).bind fun bt112 => (if bt112.1.toList = bt106.1.toList then (laws_FnExactPrintSchema.j0 k (bt112.2 != bt106.2) l0_0 t108) else (laws_FnExactPrintSchema.j0 k true l0_0 t108)))))))) = some r := h; clear h; replace H := Option.bind_eq_some_iff.mp H; obtain ⟨t102, A20, H⟩ := H; replace H : (if t102 < 0 then (some true) else ((laws_toSchema.f k l0_0).bind fun t103 => ((spec_PrintSchema.f k t103).bind fun bt106 => ((laws_toSchema.f k l0_0).bind fun t108 => ((impl_PrintSchema.f k t108).bind fun bt112 => (if bt112.1.toList = bt106.1.toList then (laws_FnExactPrintSchema.j0 k (bt112.2 != bt106.2) l0_0 t108) else (laws_FnExactPrintSchema.j0 k true l0_0 t108))))))) = some r := H; have A2 := qO A20; clear A20
 by_cases c3 : t102 < 0
 ·rw [if_pos c3] at H
  have c3b0 : decide (t102 < 0) = true := decide_eq_true c3; clear c3; obtain rfl := Option.some.inj H
  go_enter Tryd.func3, Tryd.ntmps3
  go_wp2_with (first | ((with_reducible refine gate_dst (N := 1) rfl ?_); refine box_event ?hg (N := 1) ?hd (cs := #[.slice A0_0 l0_0.length c0_0]) (t := 24) ?hr ?_; (case hd => rfl); (case hg => rfl); (case hr => exact qa18); intro gb101 hg w4 hbox hb; have hx_ := qHX HB hb qa1; have n0_ := qO (below_step (below_step HB.out hx_) hb); have n1_ := qO (hbox); have n2_ := qO ((qa14 : w.heap.size ≤ gb101)); have n3_ := n2_; clear HB; have HB := n0_; have BK101 := n1_; have GW101 := n2_; have GE101 := n3_; clear n0_ n1_ n2_ n3_; clear hx_; clear hb hbox hg; have hcz5_0 : w4.cell? ⟨gb101, 0, none⟩ = some (.slice A0_0 l0_0.length c0_0) := (blk_cell BK101.out 0).trans rfl; have hfz5_0 := blk_frozen BK101.out 0) | ((with_reducible refine gate_callee (f := 4) rfl ?_); refine goesL_ (some 11) rfl rfl Tryd.func4 qa16 rfl #[.agg #[.slice A0_0 l0_0.length c0_0], .int .i64 1048576] rfl qa0 ?_; (with_reducible refine (laws_szSchema.calls k _ _ l0_0 1048576 t102 _ ?side1 ?side2 A2.out).mono ?_); (case side1 => exact qa23); (case side2 => exact HC0_0.out); rintro e w6 ⟨rfl, hb⟩; have hx_ := qHX HB hb qa1; refine ⟨_, rfl, ?_⟩; have n0_ := qO (qB BK101.out hx_ hb); have n1_ := qO (below_step (below_step HB.out hx_) hb); clear BK101; clear HB; have BK101 := n0_; have HB := n1_; clear n0_ n1_; clear hx_; (try clear hb); (try clear hb2); (try clear hk); (try clear hi)))
  go_ret
  exact ⟨qa5, qa2⟩
 ·rw [if_neg c3] at H
  have c3b0 : decide (t102 < 0) = false := decide_eq_false c3; clear c3; replace H := Option.bind_eq_some_iff.mp H; obtain ⟨t103, A70, H⟩ := H; replace H : ((spec_PrintSchema.f k t103).bind fun bt106 => ((laws_toSchema.f k l0_0).bind fun t108 => ((impl_PrintSchema.f k t108).bind fun bt112 => (if bt112.1.toList = bt106.1.toList then (laws_FnExactPrintSchema.j0 k (bt112.2 != bt106.2) l0_0 t108) else (laws_FnExactPrintSchema.j0 k true l0_0 t108))))) = some r := H; have A7 := qO A70; clear A70; replace H := Option.bind_eq_some_iff.mp H; obtain ⟨⟨t106, t107⟩, A80, H⟩ := H; replace H : ((laws_toSchema.f k l0_0).bind fun t108 => ((impl_PrintSchema.f k t108).bind fun bt112 => (if bt112.1.toList = t106.toList then (laws_FnExactPrintSchema.j0 k (bt112.2 != t107) l0_0 t108) else (laws_FnExactPrintSchema.j0 k true l0_0 t108)))) = some r := H; have A8 := qO A80; clear A80; replace H := Option.bind_eq_some_iff.mp H; obtain ⟨t108, A90, H⟩ := H; replace H : ((impl_PrintSchema.f k t108).bind fun bt112 => (if bt112.1.toList = t106.toList then (laws_FnExactPrintSchema.j0 k (bt112.2 != t107) l0_0 t108) else (laws_FnExactPrintSchema.j0 k true l0_0 t108))) = some r := H; have A9 := qO A90; clear A90; replace H := Option.bind_eq_some_iff.mp H; obtain ⟨⟨t112, t113⟩, A100, H⟩ := H; replace H : (if t112.toList = t106.toList then (laws_FnExactPrintSchema.j0 k (t113 != t107) l0_0 t108) else (laws_FnExactPrintSchema.j0 k true l0_0 t108)) = some r := H; have A10 := qO A100; clear A100; have HC11 := qO H; clear H
  go_enter Tryd.func3, Tryd.ntmps3
  go_upto_region 8 with (first | ((with_reducible refine gate_dst (N := 1) rfl ?_); refine box_event ?hg (N := 1) ?hd (cs := #[.slice A0_0 l0_0.length c0_0]) (t := 24) ?hr ?_; (case hd => rfl); (case hg => rfl); (case hr => exact qa18); intro gb101 hg w12 hbox hb; have n0_ := qO (below_step qa11 hb); have n1_ := qO (hbox); have n2_ := qO ((qa43 : w.heap.size ≤ gb101)); have n3_ := qO ((qa43 : w.heap.size ≤ gb101)); clear HB; have HB := n0_; have BK101 := n1_; have GW101 := n2_; have GE101 := n3_; clear n0_ n1_ n2_ n3_; clear hb hbox hg; have hcz13_0 : w12.cell? ⟨gb101, 0, none⟩ = some (.slice A0_0 l0_0.length c0_0) := (blk_cell BK101.out 0).trans rfl; have hfz13_0 := blk_frozen BK101.out 0) | ((with_reducible refine gate_callee (f := 4) rfl ?_); refine goesL_ (some 11) rfl rfl Tryd.func4 qa16 rfl #[.agg #[.slice A0_0 l0_0.length c0_0], .int .i64 1048576] rfl qa0 ?_; (with_reducible refine (laws_szSchema.calls k _ _ l0_0 1048576 t102 _ ?side1 ?side2 A2.out).mono ?_); (case side1 => exact qa23); (case side2 => exact HC0_0.out); rintro e w14 ⟨rfl, hb⟩; refine ⟨_, rfl, ?_⟩; have n0_ := qO (blk_below (g := gb101) (o := .cells #[.slice A0_0 l0_0.length c0_0] 24 (0, 0)) qa4 hb); have n1_ := qO (below_step qa2 hb); clear BK101; clear HB; have BK101 := n0_; have HB := n1_; clear n0_ n1_; (try clear hb); (try clear hb2); (try clear hk); (try clear hi); have hcz15_0 : w14.cell? ⟨gb101, 0, none⟩ = some (.slice A0_0 l0_0.length c0_0) := (blk_cell BK101.out 0).trans rfl; have hfz15_0 := blk_frozen BK101.out 0) | ((with_reducible refine gate_callee (f := 6) rfl ?_); refine goesL_ (some 16) rfl rfl Tryd.func6 qa16 rfl #[.agg #[.slice A0_0 l0_0.length c0_0]] rfl qa0 ?_; (with_reducible refine (laws_toSchema.calls k _ _ l0_0 t103 _ ?side1 ?side2 A7.out).mono ?_); (case side1 => exact qa23); (case side2 => exact HC0_0.out); rintro e w16 ⟨v104, rfl, ho0, hb⟩; refine ⟨_, rfl, ?_⟩; have n0_ := qO (Kd.R_lower ho0 (below_size qa2)); have n1_ := qO (blk_below (g := gb101) (o := .cells #[.slice A0_0 l0_0.length c0_0] 24 (0, 0)) qa4 hb); have n2_ := qO (below_step qa2 hb); clear BK101; clear HB; have HO105 := n0_; have BK101 := n1_; have HB := n2_; clear n0_ n1_ n2_; (try clear hb); (try clear hb2); (try clear hk); (try clear hi); (try clear ho0); obtain ⟨Ao17, co17, eo17⟩ := Kd.R_slice HO105.out; subst eo17) | ((with_reducible refine gate_callee (f := 5) rfl ?_); refine goesL_ (some 17) rfl rfl Tryd.func5 qa16 rfl #[.agg #[.slice Ao17 t103.length co17]] rfl qa0 ?_; (with_reducible refine (spec_PrintSchema.calls k _ _ t103 t106 t107 _ ?side1 ?side2 A8.out).mono ?_); (case side1 => repeat (first | exact (Kd.R_reads' HO105.out).2.2 | with_reducible first | refine Kd.C_alloc ?_ _ | refine Kd.C_drewN ?_ _ | refine Kd.C_drew ?_)); (case side2 => exact (Kd.R_reads' HO105.out).2.1); rintro e w18 ⟨rfl, hb⟩; refine ⟨_, rfl, ?_⟩; have n0_ := qO (Kd.R_below qa84 hb); have n1_ := qO (blk_below (g := gb101) (o := .cells #[.slice A0_0 l0_0.length c0_0] 24 (0, 0)) qa4 hb); have n2_ := qO (below_step qa2 hb); clear HO105; clear BK101; clear HB; have HO105 := n0_; have BK101 := n1_; have HB := n2_; clear n0_ n1_ n2_; (try clear hb); (try clear hb2); (try clear hk); (try clear hi); have hcz19_0 : w18.cell? ⟨gb101, 0, none⟩ = some (.slice A0_0 l0_0.length c0_0) := (blk_cell BK101.out 0).trans rfl; have hfz19_0 := blk_frozen BK101.out 0) | ((with_reducible refine gate_callee (f := 6) rfl ?_); refine goesL_ (some 21) rfl rfl Tryd.func6 qa16 rfl #[.agg #[.slice A0_0 l0_0.length c0_0]] rfl qa0 ?_; (with_reducible refine (laws_toSchema.calls k _ _ l0_0 t108 _ ?side1 ?side2 A9.out).mono ?_); (case side1 => exact qa23); (case side2 => exact HC0_0.out); rintro e w20 ⟨v109, rfl, ho0, hb⟩; refine ⟨_, rfl, ?_⟩; have n0_ := qO (Kd.R_elder' qa84 (Kd.R_base ho0) hb); have n1_ := qO (Kd.R_lower (Kd.R_new' ho0 (Kd.R_lt qa84)) (below_size qa2)); have n2_ := qO (blk_below (g := gb101) (o := .cells #[.slice A0_0 l0_0.length c0_0] 24 (0, 0)) qa4 hb); have n3_ := qO (below_step qa2 hb); clear HO105; clear BK101; clear HB; have HO105 := n0_; have HO110 := n1_; have BK101 := n2_; have HB := n3_; clear n0_ n1_ n2_ n3_; (try clear hb); (try clear hb2); (try clear hk); (try clear hi); (try clear ho0)) | ((with_reducible refine gate_dst (N := 6) rfl ?_); refine box_event ?hg (N := 6) ?hd (cs := #[.slice none 0 0]) (t := 30) ?hr ?_; (case hd => rfl); (case hg => rfl); (case hr => exact qa18); intro gb111 hg w21 hbox hb; have n0_ := qO (Kd.R_below qa84 hb); have n1_ := qO (Kd.R_below qa129 hb); have n2_ := qO (blk_below (g := gb101) (o := .cells #[.slice A0_0 l0_0.length c0_0] 24 (0, 0)) qa4 hb); have n3_ := qO (below_step qa2 hb); have n4_ := qO (hbox); have n5_ := qO ((qa37 : w.heap.size ≤ gb111)); have n6_ := qO ((qa37 : w.heap.size ≤ gb111)); have n7_ := qO ((qa69 : gb101 ≠ gb111)); have n8_ := qO ((by rw [hg]; exact Nat.ne_of_gt (blk_lt (g := gb101) (o := .cells #[.slice A0_0 l0_0.length c0_0] 24 (0, 0)) (by (with_reducible repeat (first | refine qkN ?_ _ | refine qkD ?_ | refine qkA ?_ _)); exact BK101.out)) : gb111 ≠ gb101)); clear HO105; clear HO110; clear BK101; clear HB; have HO105 := n0_; have HO110 := n1_; have BK101 := n2_; have HB := n3_; have BK111 := n4_; have GW111 := n5_; have GE111 := n6_; have NB101_111 := n7_; have NB111_101 := n8_; clear n0_ n1_ n2_ n3_ n4_ n5_ n6_ n7_ n8_; clear hb hbox hg; obtain ⟨Ao22, co22, eo22⟩ := Kd.R_slice HO110.out; subst eo22; have hnb23 := NB111_101.out; have hnc23 := NB101_111.out; have hcz24_0 : w21.cell? ⟨gb111, 0, none⟩ = some (.slice none 0 0) := (blk_cell BK111.out 0).trans rfl; have hfz24_0 := blk_frozen BK111.out 0) | ((with_reducible refine gate_callee (f := 7) rfl ?_); refine goesL_ (some 24) rfl rfl Tryd.func7 qa16 rfl #[.agg #[.slice Ao22 t108.length co22]] rfl qa0 ?_; (with_reducible refine (impl_PrintSchema.calls k _ _ t108 t112 t113 _ ?side1 ?side2 A10.out (by first | exact tb_below HTAB.out HB.out | exact tb_below HTAB.out (below_step HB.out HX.out) | (refine tb_below HTAB.out ?_; repeat (first | (with_reducible first | exact HB.out | apply qbA | apply qbN | apply qbD  | refine qbS ?_ GE101.out | refine qbS ?_ GE111.out) | exact HB.out)))).mono ?_); (case side1 => refine (Kd.R_reads' (e := 41) (base := w.heap.size) (ok := fun k_ => (True ∧ some k_ ≠ (.slice Ao17 t103.length co17 : Value).ownBlock)) (n := t108.length) (c := co22) ?_).2.2; exact (by (with_reducible repeat (first | apply Kd.R_alloc | apply Kd.R_drewN | apply Kd.R_drew)); exact (Kd.R_mono (Kd.R_far (p := ⟨gb111, 0, none⟩) (Kd.R_types HO110.out BK111.out (by decide)) (fun _ hk => hk.2) (.slice Ao22 t108.length co22)) (fun _ h_ => h_.1)))); (case side2 => exact (Kd.R_reads' HO110.out).2.1); rintro e w25 ⟨rfl, hb⟩; refine ⟨_, rfl, ?_⟩; have n0_ := qO (Kd.R_below (by (with_reducible repeat (first | apply Kd.R_alloc | apply Kd.R_drewN | apply Kd.R_drew)); exact (Kd.R_mono (Kd.R_far (p := ⟨gb111, 0, none⟩) (Kd.R_types HO105.out BK111.out (by decide)) (fun _ hk => hk.2) (.slice Ao22 t108.length co22)) (fun _ h_ => h_.1))) hb); have n1_ := qO (Kd.R_below (by (with_reducible repeat (first | apply Kd.R_alloc | apply Kd.R_drewN | apply Kd.R_drew)); exact (Kd.R_mono (Kd.R_far (p := ⟨gb111, 0, none⟩) (Kd.R_types HO110.out BK111.out (by decide)) (fun _ hk => hk.2) (.slice Ao22 t108.length co22)) (fun _ h_ => h_.1))) hb); have n2_ := qO (blk_below (g := gb101) (o := .cells #[.slice A0_0 l0_0.length c0_0] 24 (0, 0)) (by (with_reducible repeat (first | refine qkN ?_ _ | refine qkD ?_ | refine qkA ?_ _)); refine blk_far ?_ NB101_111.out _; (with_reducible repeat (first | refine qkN ?_ _ | refine qkD ?_ | refine qkA ?_ _)); exact BK101.out) hb); have n3_ := qO (blk_below (g := gb111) (o := .cells #[.slice Ao22 t108.length co22] 30 (0, 0)) (by (with_reducible repeat (first | refine qkN ?_ _ | refine qkD ?_ | refine qkA ?_ _)); refine blk_put (cs := #[.slice none 0 0]) ?_ 0 _ rfl; (with_reducible repeat (first | refine qkN ?_ _ | refine qkD ?_ | refine qkA ?_ _)); exact BK111.out) hb); have n4_ := qO (below_step qa70 hb); clear HO105; clear HO110; clear BK101; clear BK111; clear HB; have HO105 := n0_; have HO110 := n1_; have BK101 := n2_; have BK111 := n3_; have HB := n4_; clear n0_ n1_ n2_ n3_ n4_; (try clear hb); (try clear hb2); (try clear hk); (try clear hi)))
  (try simp only [Act.put, qzA, qzB, qzC])
  go_cut [34] (fun v34 wc => ∃ (kq : Nat) (x34_10 : Bool), v34 = .bool x34_10 ∧ Aside0 (laws_FnExactPrintSchema.j0 kq x34_10 l0_0 t108 = some r) ∧ Aside0 (kq ≤ k) ∧ Aside0 (Kd.R k41 41 wc w.heap.size (fun _ => True) (.slice Ao22 t108.length co22) t108) ∧ Aside0 (wc.heap[gb101]? = some (.cells #[(.slice A0_0 l0_0.length c0_0)] 24 (0, 0))) ∧ Aside0 (wc.heap[gb111]? = some (.cells #[(.slice Ao22 t108.length co22)] 30 (0, 0))) ∧ Aside0 (Below w.heap.size w wc))
  case first =>
   have H := HC11.out; clear HC11
   by_cases c26 : t112.toList = t106.toList
   ·rw [if_pos c26] at H
    have c26b0 : (t112.toList == t106.toList) = true := beq_iff_eq.mpr c26; have c26b1 : (t112.toList != t106.toList) = false := bne_eq_false_iff_eq.mpr c26; clear c26; (first | rw [c26b0] | (simp only [i64_w, i32_w]; rw [c26b0]) | skip); have H' := qO H; clear H; go_wp2
    go_meet
    case rel => exact ⟨_, ((t113 != t107)), qa10, H', ⟨qa88⟩, ⟨qa118⟩, ⟨qa4⟩, ⟨qa131⟩, ⟨qa70⟩⟩
   ·rw [if_neg c26] at H
    have c26b0 : (t112.toList == t106.toList) = false := beq_eq_false_iff_ne.mpr c26; have c26b1 : (t112.toList != t106.toList) = true := bne_iff_ne.mpr c26; (first | rw [c26b0] | (simp only [i64_w, i32_w]; rw [c26b0]) | skip); have H' := qO H; clear H; go_wp2
    go_meet
    case rel => exact ⟨_, (true), qa10, H', ⟨qa88⟩, ⟨qa118⟩, ⟨qa4⟩, ⟨qa131⟩, ⟨qa70⟩⟩
  case rest =>
   clear HC11
   try clear c2
   try clear p2
   try clear c3
   try clear c3b0
   try clear c4
   try clear c5
   try clear c6
   try clear c7
   try clear c23
   try clear c26
   try clear c26b0
   try clear c26b1
   try clear hcz13_0
   try clear hcz15_0
   try clear hcz19_0
   try clear hcz24_0
   try clear hcz5_0
   try clear hfz13_0
   try clear hfz15_0
   try clear hfz19_0
   try clear hfz24_0
   try clear hfz5_0
   obtain ⟨kq, x34_10, rfl, HA, HJ10, HO_112000, BK101, BK111, HB⟩ := hcut
   cases kq with
   | zero => exact absurd HA.out (by simp [laws_FnExactPrintSchema.j0])
   | succ kj10 =>
    have H := HA.out; clear HA; simp only [laws_FnExactPrintSchema.j0] at H
    by_cases c27 : x34_10 = true
    ·subst c27
     have H1 : (none) = some r := by rw [if_pos rfl] at H; exact H
     clear H; have H := H1; clear H1
     exact absurd H qa76
    ·replace c27 := Bool.eq_false_iff.mpr c27
     subst c27; have H1 : ((laws_toSchema.f kj10 l0_0).bind fun t114 => ((laws_eqSchema.f kj10 t108 t114).bind fun t117 => (if t117 = true then (some true) else (none)))) = some r := by rw [if_neg (show ¬ (false = true) by decide)] at H; exact H
     clear H; have H := H1; clear H1; replace H := Option.bind_eq_some_iff.mp H; obtain ⟨t114, A280, H⟩ := H; replace H : ((laws_eqSchema.f kj10 t108 t114).bind fun t117 => (if t117 = true then (some true) else (none))) = some r := H; have A28 := qO A280; clear A280; replace H := Option.bind_eq_some_iff.mp H; obtain ⟨t117, A290, H⟩ := H; replace H : (if t117 = true then (some true) else (none)) = some r := H; have A29 := qO A290; clear A290
     by_cases c30 : t117 = true
     ·subst c30
      have H1 : (some true) = some r := by rw [if_pos rfl] at H; exact H
      clear H; have H := H1; clear H1; obtain rfl := Option.some.inj H
      try go_wp2
      have n0_ := qO (Kd.R_drew HO_112000.out); have n1_ := qO (qkD BK101.out); have n2_ := qO (qkD BK111.out); have n3_ := qO (qbD HB.out); clear HO_112000; clear BK101; clear BK111; clear HB; have HO_112000 := n0_; have BK101 := n1_; have BK111 := n2_; have HB := n3_; clear n0_ n1_ n2_ n3_; refine start_ (n := 5) (S := fun w' => w'.cell? ⟨gb111, 0, none⟩ = some (.slice Ao22 t108.length co22) ∧ w'.cell? ⟨gb101, 0, none⟩ = some (.slice A0_0 l0_0.length c0_0)) (ds := []) #[false, false, false, false, false] qa16 rfl rfl ⟨(blk_cell BK111.out 0).trans rfl, (blk_cell BK101.out 0).trans rfl⟩ (fun hHeld => ?_); generalize wc.drew = w31 at HO_112000 BK101 BK111 HB hHeld ⊢; refine take_ (i := 0) (N := some 35) (v := ?_) (a' := ?_) #[true, false, false, false, false] rfl rfl qa16 (fun _ _ _ h => h) (Or.inl ⟨by rfl, ?_⟩) hHeld ?_ ?_; rotate_left; exact qa139; rotate_left; exact qa7; refine take_ (i := 1) (N := some 36) (v := ?_) (a' := ?_) #[true, true, false, false, false] rfl rfl qa16 (fun _ _ _ h => h) (Or.inl ⟨by rfl, ?_⟩) hHeld ?_ ?_; rotate_left; exact qa139; rotate_left; exact qa7; refine one_ (i := 2) (N := some 37) #[true, true, true, false, false] rfl rfl qa16 qa60 (fun K hK => ?_); refine goes_ Tryd.func6 qa16 rfl #[.agg #[.slice A0_0 l0_0.length c0_0]] (by rfl) rfl rfl qa0 ?_; (with_reducible refine (laws_toSchema.calls kj10 _ _ l0_0 t114 _ ?side1 ?side2 A28.out).mono ?_); (case side1 => exact qa23); (case side2 => exact HC0_0.out); rintro e w32 ⟨v115, rfl, ho0, hb⟩; have hx_ := qHX HB hb qa1; refine ⟨_, rfl, ?_⟩; have n0_ := qO (Kd.R_elder' qa105 (Kd.R_base ho0) hb); have n1_ := qO (Kd.R_lower (Kd.R_new' ho0 (Kd.R_lt qa105)) (below_size (below_step HB.out hx_))); have n2_ := qO (qB BK101.out hx_ hb); have n3_ := qO (qB BK111.out hx_ hb); have n4_ := qO (below_step (below_step HB.out hx_) hb); clear HO_112000; clear BK101; clear BK111; clear HB; have HO_112000 := n0_; have HO116 := n1_; have BK101 := n2_; have BK111 := n3_; have HB := n4_; clear n0_ n1_ n2_ n3_ n4_; clear hx_; (try clear hb); (try clear hb2); (try clear hk); (try clear hi); (try clear ho0); obtain ⟨Ao33, co33, eo33⟩ := Kd.R_slice HO116.out; (first | subst eo33 | (injection eo33 with f1_ f2_ f3_; have f4_ := f1_.symm; have f5_ := f3_.symm; clear f1_ f2_ f3_; subst f4_; subst f5_)); refine hK.out _ _ ⟨(blk_cell BK111.out 0).trans rfl, (blk_cell BK101.out 0).trans rfl⟩ (fun hHeld => ?_); clear hK K; refine norm_ (a' := ?_) ?_ ?_; rotate_left
      ·exact qa13
      refine one_ (i := 3) (N := some 38) #[true, true, true, true, false] rfl rfl qa16 qa60 (fun K hK => ?_); refine goes_ Tryd.func8 qa16 rfl #[.agg #[.slice Ao22 t108.length co22], .agg #[.slice Ao33 t114.length co33]] (by rfl) rfl rfl qa0 ?_; (with_reducible refine (laws_eqSchema.calls kj10 _ _ t108 _ _ t114 true _ ?side1 ?side2 ?side3 ?side4 A29.out).mono ?_); (case side1 => repeat (first | exact (Kd.R_reads' HO_112000.out).2.2 | with_reducible first | refine Kd.C_alloc ?_ _ | refine Kd.C_drewN ?_ _ | refine Kd.C_drew ?_)); (case side2 => exact (Kd.R_reads' HO_112000.out).2.1); (case side3 => repeat (first | exact (Kd.R_reads' HO116.out).2.2 | with_reducible first | refine Kd.C_alloc ?_ _ | refine Kd.C_drewN ?_ _ | refine Kd.C_drew ?_)); (case side4 => exact (Kd.R_reads' HO116.out).2.1); rintro e w34 ⟨rfl, hb⟩; have hx_ := qHX HB hb qa1; refine ⟨_, rfl, ?_⟩; have n0_ := qO (Kd.R_below qa105 hb); have n1_ := qO (Kd.R_below (by (with_reducible repeat (first | apply Kd.R_alloc | apply Kd.R_drewN | apply Kd.R_drew)); exact HO116.out) hb); have n2_ := qO (qB BK101.out hx_ hb); have n3_ := qO (qB BK111.out hx_ hb); have n4_ := qO (below_step (below_step HB.out hx_) hb); clear HO_112000; clear HO116; clear BK101; clear BK111; clear HB; have HO_112000 := n0_; have HO116 := n1_; have BK101 := n2_; have BK111 := n3_; have HB := n4_; clear n0_ n1_ n2_ n3_ n4_; clear hx_; (try clear hb); (try clear hb2); (try clear hk); (try clear hi); refine hK.out _ _ ⟨(blk_cell BK111.out 0).trans rfl, (blk_cell BK101.out 0).trans rfl⟩ (fun hHeld => ?_); clear hK K; refine norm_ (a' := ?_) ?_ ?_; rotate_left
      ·exact qa13
      refine pure_ (i := 4) (N := some 39) (v := ?_) (a' := ?_) #[true, true, true, true, true] rfl rfl qa16 (fun _ _ _ h => h) (Or.inl ⟨by rfl, ?_⟩) ?_ ?_; rotate_left; exact qa20; rotate_left; exact qa7; refine done_ qa16 ?_
      try go_wp2
      go_ret
      exact ⟨qa5, qa70⟩
     ·replace c30 := Bool.eq_false_iff.mpr c30
      subst c30; have H1 : (none) = some r := by rw [if_neg (show ¬ (false = true) by decide)] at H; exact H
      clear H; have H := H1; clear H1
      exact absurd H qa76

end Go.Proofs.YtoogmlghfljeiaaDoor.Q
namespace Go.Proofs.YtoogmlghfljeiaaDoor.Q
open Go.RowKit Go.Proofs.YtoogmlghfljeiaaDoorW.PrintWords Go.Proofs.YtoogmlghfljeiaaDoor.Opens
set_option linter.unusedVariables false
def i105 (x : S105) : Prop := x.f0.size ≤ 9223372036854775807 ∧ True
theorem o105 : Opens Tryd.prog 105 k105 i105 := opens_struct (N := 2) Tryd.underlying105 qa16 (opensF_cons rfl qa16 (opens_string Tryd.underlying9) (opensF_one rfl rfl qa16 (opens_bool Tryd.underlying4))) (fun y => ⟨y.1, y.2⟩) (fun _ => rfl)
def i91 (x : S91) : Prop := x.f0.size ≤ 9223372036854775807 ∧ (x.f1.length ≤ 9223372036854775807 ∧ ∀ y1_ ∈ x.f1, i105 y1_) ∧ x.f2.size ≤ 9223372036854775807 ∧ True ∧ True
theorem o91 : Opens Tryd.prog 91 k91 i91 := opens_struct (N := 5) Tryd.underlying91 qa16 (opensF_cons rfl qa16 (opens_string Tryd.underlying9) (opensF_cons rfl qa16 (opens_slice Tryd.underlying89 qa16 o105) (opensF_cons rfl qa16 (opens_string Tryd.underlying9) (opensF_cons rfl qa16 (opens_bool Tryd.underlying4) (opensF_one rfl rfl qa16 (opens_bool Tryd.underlying4)))))) (fun y => ⟨y.1, y.2.1, y.2.2.1, y.2.2.2.1, y.2.2.2.2⟩) (fun _ => rfl)
def i54 (x : S54) : Prop := x.f0.size ≤ 9223372036854775807 ∧ (x.f1.length ≤ 9223372036854775807 ∧ ∀ y1_ ∈ x.f1, i91 y1_)
theorem o54 : Opens Tryd.prog 54 k54 i54 := opens_struct (N := 2) Tryd.underlying54 qa16 (opensF_cons rfl qa16 (opens_string Tryd.underlying9) (opensF_one rfl rfl qa16 (opens_slice Tryd.underlying52 qa16 o91))) (fun y => ⟨y.1, y.2⟩) (fun _ => rfl)
def i24 (x : S24) : Prop := (x.f0.length ≤ 9223372036854775807 ∧ ∀ y1_ ∈ x.f0, i54 y1_)
theorem o24 : Opens Tryd.prog 24 k24 i24 := opens_struct (N := 1) Tryd.underlying24 qa16 (opensF_one rfl rfl qa16 (opens_slice Tryd.underlying22 qa16 o54)) (fun y => ⟨y⟩) (fun _ => rfl)
def laws_FnExactPrintSchema.Pure2 : Prop := ∀ (y0 : S24), i24 y0 → ∃ k, laws_FnExactPrintSchema.f k y0.f0 = some true
end Go.Proofs.YtoogmlghfljeiaaDoor.Q
namespace Go.Proofs.YtoogmlghfljeiaaDoor.Pure2
open Go.RowKit Go.Proofs.YtoogmlghfljeiaaDoor.Q Go.Proofs.YtoogmlghfljeiaaDoorW.PrintWords Go.Proofs.YtoogmlghfljeiaaDoorW.PrintLast
set_option linter.unusedVariables false
set_option linter.unusedSimpArgs false
/-! small words -/
theorem wsucc {j n : Nat} (h : j < n) (hn : n ≤ 4611686018427387904) : wrap64 ((j : Int) + 1) = ((j + 1 : Nat) : Int) := by unfold wrap64; omega
theorem ev_step {α : Type} {g f : Nat → Option α} {r : α} (h : ∃ K, ∀ k, K ≤ k → g (k + 1) = f k) (k : Ev f r) : Ev g r := by
  obtain ⟨K, h⟩ := h
  obtain ⟨K', k⟩ := k
  refine ⟨max K K' + 1, fun n hn => ?_⟩
  obtain ⟨m, rfl⟩ : ∃ m, n = m + 1 := ⟨n - 1, qa25⟩
  rw [h m qa25, k m qa25]
theorem ev_now {α : Type} {g : Nat → Option α} {r : α} (h : ∃ K, ∀ k, K ≤ k → g (k + 1) = some r) : Ev g r := ev_step (f := fun _ => some r) h (Ev.now r)
theorem ev_same {α : Type} {g f : Nat → Option α} {r : α} (h : ∃ K, ∀ k, K ≤ k → g k = f k) (k : Ev f r) : Ev g r := by
  obtain ⟨K, h⟩ := h
  obtain ⟨K', k⟩ := k
  exact ⟨max K K', fun n hn => by rw [h n qa25, k n qa25]⟩
theorem ev_two {α β : Type} {g : Nat → Option α} {f : Nat → Option β} {r : α} {q : β} (h : Ev g r) (k : Ev f q) : ∃ K, ∀ n, K ≤ n → g n = some r ∧ f n = some q := by
  obtain ⟨K, h⟩ := h
  obtain ⟨K', k⟩ := k
  exact ⟨max K K', fun n hn => ⟨h n qa25, k n qa25⟩⟩
theorem ev_mk {α : Type} {g : Nat → Option α} {r : α} (K : Nat) (h : ∀ k, K ≤ k → g k = some r) : Ev g r := ⟨K, h⟩
theorem ev_at {α : Type} {g : Nat → Option α} {r : α} (h : Ev g r) : ∃ K, ∀ k, K ≤ k → g k = some r := h
/-- A loop that counts up to n: from the end back. -/
theorem count_loop {ρ : Type} (n : Nat) (L : Nat → Int → Option ρ) (Post : Nat → ρ → Prop) (hend : ∃ r, Post n r ∧ Ev (fun k => L k (n : Int)) r)
    (hstep : ∀ j, j < n → ∀ r, Post (j + 1) r → Ev (fun k => L k ((j + 1 : Nat) : Int)) r → ∃ r', Post j r' ∧ Ev (fun k => L k (j : Int)) r') :
    ∀ j, j ≤ n → ∃ r, Post j r ∧ Ev (fun k => L k (j : Int)) r := by
  have key : ∀ d j, j ≤ n → n - j = d → ∃ r, Post j r ∧ Ev (fun k => L k (j : Int)) r := by
    intro d
    induction d with
    | zero => intro j hj hd; obtain rfl : j = n := by omega
              exact hend
    | succ d ih =>
      intro j hj hd
      obtain ⟨r, hp, he⟩ := ih (j + 1) qa25 qa25
      exact hstep j qa25 r hp he
  intro j hj
  exact key _ j hj rfl
/-- A loop that carries a state up to n. -/
theorem state_loop {σ ρ : Type} (n : Nat) (L : Nat → σ → Int → Option ρ) (Inv : Nat → σ → Prop) (Post : Nat → σ → ρ → Prop) (hend : ∀ s, Inv n s → ∃ r, Post n s r ∧ Ev (fun k => L k s (n : Int)) r)
    (hstep : ∀ j s, j < n → Inv j s → (∃ r, Post j s r ∧ Ev (fun k => L k s (j : Int)) r) ∨ ∃ s', Inv (j + 1) s' ∧ (∀ r, Post (j + 1) s' r → Post j s r) ∧ ∃ K, ∀ k, K ≤ k → L (k + 1) s (j : Int) = L k s' ((j + 1 : Nat) : Int)) :
    ∀ j s, j ≤ n → Inv j s → ∃ r, Post j s r ∧ Ev (fun k => L k s (j : Int)) r := by
  have key : ∀ d j s, j ≤ n → n - j = d → Inv j s → ∃ r, Post j s r ∧ Ev (fun k => L k s (j : Int)) r := by
    intro d
    induction d with
    | zero => intro j s hj hd hi; obtain rfl : j = n := by omega
              exact hend s hi
    | succ d ih =>
      intro j s hj hd hi
      rcases hstep j s qa25 hi with h | ⟨s', hi', hp, hk⟩
      · exact h
      · obtain ⟨r, hr, he⟩ := ih (j + 1) s' qa25 qa25 hi'
        exact ⟨r, hp r hr, ev_step hk he⟩
  intro j s hj hi
  exact key _ j s hj rfl hi
/-- A loop that fills a row of its own. -/
theorem fill_loop {α β : Type} (xs : List α) (z : α) (g : α → β) (L : Nat → List β → Int → Option (List β)) (hend : ∀ y : List β, y.length = xs.length → ∃ K, ∀ k, K ≤ k → L (k + 1) y (xs.length : Int) = some y)
    (hstep : ∀ (j : Nat) (y : List β), j < xs.length → y.length = xs.length → ∃ K, ∀ k, K ≤ k → L (k + 1) y (j : Int) = L k (y.set j (g (xs.getD j z))) ((j + 1 : Nat) : Int)) (y : List β) (hy : y.length = xs.length) :
    Ev (fun k => L k y 0) (xs.map g) := by
  obtain ⟨r, hr, he⟩ := state_loop xs.length L (fun j y => y.length = xs.length ∧ ∀ i, i < j → y[i]? = (xs.map g)[i]?) (fun _ _ r => r = xs.map g) (fun y hi => ⟨y, List.ext_getElem? fun i => by
      by_cases hi' : i < xs.length
      · exact hi.2 i hi'
      · rw [List.getElem?_eq_none qa25, List.getElem?_eq_none qa136], ev_now (hend y hi.1)⟩) (fun j y hj hi => .inr ⟨_, ⟨by simp [hi.1], fun i hij => by
      by_cases he : i = j
      · subst he
        rw [List.getElem?_set_self qa25]
        simp [List.getD_eq_getElem?_getD, List.getElem?_eq_getElem hj]
      · rw [List.getElem?_set_ne qa25]
        exact hi.2 i qa25⟩, fun r h => h, hstep j y hj hi.1⟩) 0 y qa25 ⟨hy, fun i hi => by omega⟩
  subst hr
  exact he
theorem spec_in (a b c : Int) : spec_l01In.f a b c = some (decide (b ≤ a ∧ a ≤ c)) := by
  unfold spec_l01In.f
  by_cases h : b ≤ a
  · rw [if_pos h]; simp [h]
  · rw [if_neg h]; simp [h]
theorem impl_in (a b c : Int) : impl_within.f a b c = some (decide (b ≤ a ∧ a ≤ c)) := spec_in a b c
/-- A letter or _; a digit. -/
def isL (b : Int) : Bool := decide (97 ≤ b ∧ b ≤ 122 ∨ 65 ≤ b ∧ b ≤ 90 ∨ b = 95)
def isD (b : Int) : Bool := decide (48 ≤ b ∧ b ≤ 57)
/-- What a name is. -/
def IsName (s : ByteArray) : Prop := 1 ≤ s.size ∧ s.size ≤ 40 ∧ isL (bt s 0) = true ∧ ∀ i : Int, 1 ≤ i → i < s.size → isL (bt s i) = true ∨ isD (bt s i) = true
theorem beq95 (b : Int) (h : ¬ (97 ≤ b ∧ b ≤ 122)) (h' : ¬ (65 ≤ b ∧ b ≤ 90)) : (b == 95) = isL b := by
  unfold isL
  by_cases e : b = 95
  · subst e; rfl
  · rw [beq_eq_false_iff_ne.mpr e]; symm; simp only [decide_eq_false_iff_not]; omega
theorem impl_letter (b : Int) : impl_isLetter.f b = some (isL b) := by
  unfold impl_isLetter.f
  by_cases h1 : b ≥ 97 <;> by_cases h2 : b ≤ 122 <;> by_cases h3 : b ≥ 65 <;> by_cases h4 : b ≤ 90 <;> simp only [h1, h2, h3, h4, if_true, if_false, Option.some.injEq] <;>
    first | exact beq95 b qa25 qa25 | (symm; unfold isL; simp only [decide_eq_true_eq]; omega)
theorem spec_letter (b : Int) : spec_l00Letter.f b = some (isL b) := impl_letter b
theorem impl_digit (b : Int) : impl_isDigit.f b = some (isD b) := by
  unfold impl_isDigit.f isD
  by_cases h1 : b ≥ 48
  · rw [if_pos h1]; simp only [Option.some.injEq, decide_eq_decide]; omega
  · rw [if_neg h1]; simp only [Option.some.injEq]; symm; rw [decide_eq_false_iff_not]; omega
theorem spec_digit (b : Int) : spec_l00Digit.f b = some (isD b) := impl_digit b
/-- The reference's loop, from i on. -/
theorem spec_word_from (s : ByteArray) (hn : s.size ≤ 1048576) (d : Nat) : ∀ (k : Nat) (i : Int), 0 ≤ i → i ≤ s.size → (s.size : Int) - i = d → d < k →
    ∃ r, spec_l00Word.l0 k s i = some r ∧ (r = true ↔ ∀ j : Int, i ≤ j → j < s.size → isL (bt s j) = true ∨ isD (bt s j) = true) := by
  induction d with
  | zero =>
    intro k i h0 h1 hd hk
    obtain ⟨k, rfl⟩ : ∃ m, k = m + 1 := ⟨k - 1, qa25⟩
    refine ⟨true, ?_, ⟨fun _ j h2 h3 => by omega, fun _ => rfl⟩⟩
    simp only [spec_l00Word.l0]; rw [if_neg qa25]
  | succ d ih =>
    intro k i h0 h1 hd hk
    obtain ⟨k, rfl⟩ : ∃ m, k = m + 1 := ⟨k - 1, qa25⟩
    have hw : wrap64 (i + 1) = i + 1 := by unfold wrap64; omega
    obtain ⟨r, e, hr⟩ := ih k (i + 1) qa25 qa25 qa25 qa25
    have step : (isL (bt s i) = true ∨ isD (bt s i) = true) → (r = true ↔ ∀ j : Int, i ≤ j → j < s.size → isL (bt s j) = true ∨ isD (bt s j) = true) := by
      intro hh
      rw [hr]
      constructor
      · intro h j h2 h3
        rcases Int.lt_or_eq_of_le h2 with h4 | h4
        · exact h j qa25 h3
        · rw [← h4]; exact hh
      · intro h j h2 h3; exact h j qa25 h3
    simp only [spec_l00Word.l0]; rw [if_pos qa25, if_pos h0, spec_letter]; simp only [Option.bind_some]
    by_cases hl : isL (bt s i) = true
    · rw [if_pos hl, hw]; exact ⟨r, e, step (.inl hl)⟩
    · rw [if_neg hl, spec_digit]; simp only [Option.bind_some]
      by_cases hdg : isD (bt s i) = true
      · rw [if_pos hdg, hw]; exact ⟨r, e, step (.inr hdg)⟩
      · rw [if_neg hdg]
        exact ⟨false, rfl, ⟨fun h => (by cases h), fun h => absurd (h i (Int.le_refl _) qa25) (fun h => h.elim hl hdg)⟩⟩
theorem spec_name (s : ByteArray) (hn : s.size ≤ 1048576) : ∃ r, (∀ k, s.size + 1 < k → spec_NameOK.f k s = some r) ∧ (r = true ↔ IsName s) := by
  by_cases h1 : (s.size : Int) < 1
  · refine ⟨false, fun k hk => ?_, ⟨fun h => (by cases h), fun h => absurd h.1 qa25⟩⟩
    obtain ⟨k, rfl⟩ : ∃ m, k = m + 1 := ⟨k - 1, qa25⟩
    unfold spec_NameOK.f spec_l00Word.f
    rw [if_pos h1]; rfl
  · by_cases h2 : (s.size : Int) > 40
    · refine ⟨false, fun k hk => ?_, ⟨fun h => (by cases h), fun h => absurd h.2.1 qa25⟩⟩
      obtain ⟨k, rfl⟩ : ∃ m, k = m + 1 := ⟨k - 1, qa25⟩
      unfold spec_NameOK.f spec_l00Word.f
      rw [if_neg h1, if_pos h2]; rfl
    · by_cases hl : isL (bt s 0) = true
      · obtain ⟨r, _, hr⟩ := spec_word_from s hn (s.size - 1) (s.size + 1) 1 qa25 qa25 qa25 qa25
        refine ⟨r, fun k hk => ?_, ?_⟩
        · obtain ⟨k, rfl⟩ : ∃ m, k = m + 1 := ⟨k - 1, qa25⟩
          obtain ⟨r', e', hr'⟩ := spec_word_from s hn (s.size - 1) k 1 qa25 qa25 qa25 qa25
          have : r' = r := by rw [Bool.eq_iff_iff, hr, hr']
          subst this
          unfold spec_NameOK.f spec_l00Word.f
          rw [if_neg h1, if_neg h2, if_pos qa25, spec_letter]; simp only [Option.bind_some, hl, Bool.not_true, spec_l00Word.j0]
          rw [if_neg qa76, e']; rfl
        · rw [hr]; exact ⟨fun h => ⟨qa25, qa25, hl, h⟩, fun h => h.2.2.2⟩
      · refine ⟨false, fun k hk => ?_, ⟨fun h => (by cases h), fun h => absurd h.2.2.1 hl⟩⟩
        obtain ⟨k, rfl⟩ : ∃ m, k = m + 1 := ⟨k - 1, qa25⟩
        unfold spec_NameOK.f spec_l00Word.f
        rw [if_neg h1, if_neg h2, if_pos qa25, spec_letter]; simp only [Option.bind_some]
        have : isL (bt s 0) = false := by simpa using hl
        rw [this]; rfl
/-- The program's loop, from i on. -/
theorem impl_name_from (s : ByteArray) (hn : s.size ≤ 1048576) (d : Nat) : ∀ (k : Nat) (i : Int), 0 ≤ i → i ≤ s.size → (s.size : Int) - i = d → d < k →
    ∃ r, impl_NameOK.l0 k s s.size i = some r ∧ (r = true ↔ (1 ≤ s.size ∧ s.size ≤ 40) ∧ ∀ j : Int, i ≤ j → j < s.size → isL (bt s j) = true ∨ j ≠ 0 ∧ isD (bt s j) = true) := by
  induction d with
  | zero =>
    intro k i h0 h1 hd hk
    obtain ⟨k, rfl⟩ : ∃ m, k = m + 1 := ⟨k - 1, qa25⟩
    simp only [impl_NameOK.l0]; rw [if_neg qa25]
    unfold impl_within.f
    by_cases h2 : (s.size : Int) ≥ 1
    · rw [if_pos h2]
      refine ⟨_, rfl, ?_⟩
      simp only [decide_eq_true_eq]
      exact ⟨fun h => ⟨⟨qa25, qa25⟩, fun j _ _ => by omega⟩, fun h => by omega⟩
    · rw [if_neg h2]
      refine ⟨_, rfl, ?_⟩
      exact ⟨fun h => by simp at h, fun h => by omega⟩
  | succ d ih =>
    intro k i h0 h1 hd hk
    obtain ⟨k, rfl⟩ : ∃ m, k = m + 1 := ⟨k - 1, qa25⟩
    have hw : wrap64 (i + 1) = i + 1 := by unfold wrap64; omega
    obtain ⟨r, e, hr⟩ := ih k (i + 1) qa25 qa25 qa25 qa25
    have step : (isL (bt s i) = true ∨ i ≠ 0 ∧ isD (bt s i) = true) → (r = true ↔ (1 ≤ s.size ∧ s.size ≤ 40) ∧ ∀ j : Int, i ≤ j → j < s.size → isL (bt s j) = true ∨ j ≠ 0 ∧ isD (bt s j) = true) := by
      intro hh
      rw [hr]
      constructor
      · intro ⟨h', h⟩
        refine ⟨h', fun j h2 h3 => ?_⟩
        rcases Int.lt_or_eq_of_le h2 with h4 | h4
        · exact h j qa25 h3
        · rw [← h4]; exact hh
      · intro ⟨h', h⟩; exact ⟨h', fun j h2 h3 => h j qa25 h3⟩
    simp only [impl_NameOK.l0]; rw [if_pos qa25, if_pos h0, if_pos qa25, impl_letter]; simp only [Option.bind_some]
    by_cases hl : isL (bt s i) = true
    · rw [if_pos hl, hw]; exact ⟨r, e, step (.inl hl)⟩
    · rw [if_neg hl]
      by_cases hz : i = 0
      · rw [if_pos hz]
        exact ⟨false, rfl, ⟨fun h => (by cases h), fun h => absurd (h.2 i (Int.le_refl _) qa25) (fun h => h.elim hl (fun h => h.1 hz))⟩⟩
      · rw [if_neg hz, impl_digit]; simp only [Option.bind_some]
        by_cases hdg : isD (bt s i) = true
        · rw [if_pos hdg, hw]; exact ⟨r, e, step (.inr ⟨hz, hdg⟩)⟩
        · rw [if_neg hdg]
          exact ⟨false, rfl, ⟨fun h => (by cases h), fun h => absurd (h.2 i (Int.le_refl _) qa25) (fun h => h.elim hl (fun h => hdg h.2))⟩⟩
theorem impl_name (s : ByteArray) (hn : s.size ≤ 1048576) : ∃ r, (∀ k, s.size + 1 < k → impl_NameOK.f k s = some r) ∧ (r = true ↔ IsName s) := by
  obtain ⟨r, _, hr⟩ := impl_name_from s hn s.size (s.size + 1) 0 qa25 qa25 qa25 qa25
  refine ⟨r, fun k hk => ?_, ?_⟩
  · obtain ⟨r', e', hr'⟩ := impl_name_from s hn s.size k 0 qa25 qa25 qa25 qa25
    have : r' = r := by rw [Bool.eq_iff_iff, hr, hr']
    subst this
    exact e'
  · rw [hr]
    constructor
    · rintro ⟨⟨h1, h2⟩, h⟩
      refine ⟨h1, h2, ?_, fun j hj hj' => ?_⟩
      · have := h 0 qa25 qa25
        simpa using this
      · rcases h j qa25 hj' with h | h
        · exact .inl h
        · exact .inr h.2
    · rintro ⟨h1, h2, h3, h⟩
      refine ⟨⟨h1, h2⟩, fun j hj hj' => ?_⟩
      by_cases hz : j = 0
      · subst hz; exact .inl h3
      · rcases h j qa25 hj' with h | h
        · exact .inl h
        · exact .inr ⟨hz, h⟩
/-- Both say the same. -/
theorem names_agree (s : ByteArray) (hn : s.size ≤ 1048576) : ∃ r, (∀ k, s.size + 1 < k → spec_NameOK.f k s = some r ∧ impl_NameOK.f k s = some r) ∧ (r = true ↔ IsName s) := by
  obtain ⟨r, e, hr⟩ := spec_name s hn
  obtain ⟨r', e', hr'⟩ := impl_name s hn
  have : r' = r := by rw [Bool.eq_iff_iff, hr, hr']
  subst this
  exact ⟨r', fun k hk => ⟨e k hk, e' k hk⟩, hr⟩
theorem names_ev (s : ByteArray) (hn : s.size ≤ 1048576) : ∃ r, Ev (fun k => spec_NameOK.f k s) r ∧ Ev (fun k => impl_NameOK.f k s) r ∧ (r = true ↔ IsName s) := by
  obtain ⟨r, h, hr⟩ := names_agree s hn
  exact ⟨r, ev_mk (s.size + 2) (fun k hk => (h k qa25).1), ev_mk (s.size + 2) (fun k hk => (h k qa25).2), hr⟩
end Go.Proofs.YtoogmlghfljeiaaDoor.Pure2
namespace Go.Proofs.YtoogmlghfljeiaaDoor.Pure2
open Go.RowKit Go.Proofs.YtoogmlghfljeiaaDoor.Q Go.Proofs.YtoogmlghfljeiaaDoorW.PrintWords Go.Proofs.YtoogmlghfljeiaaDoorW.PrintLast
set_option linter.unusedVariables false
set_option linter.unusedSimpArgs false
/-! schemas -/
theorem getD_mem {α : Type} (l : List α) (z : α) (j : Nat) (h : j < l.length) : l.getD j z ∈ l := by rw [List.getD_eq_getElem?_getD, List.getElem?_eq_getElem h]; exact List.getElem_mem h
theorem wsub (a : Int) (n : Nat) (h0 : 0 ≤ a) (h1 : a ≤ 1048576) (hn : n ≤ 9223372036854775807) : wrap64 (a - (n : Int)) = a - (n : Int) := by unfold wrap64; omega
theorem sz_loop {α : Type} (l : List α) (z : α) (P : α → Prop) (a : Int) (h0 : 0 ≤ a) (L : Nat → Int → Int → Option Int) (hend : ∀ k s, L (k + 1) s (l.length : Int) = some s)
    (hx : ∀ j, j < l.length → ∀ s, 0 ≤ s → s ≤ a → ∃ t, (t < 0 ∨ 0 ≤ t ∧ t ≤ s ∧ P (l.getD j z)) ∧ ∃ K, ∀ k, K ≤ k → L (k + 1) s (j : Int) = if t < 0 then some (-1) else L k t ((j + 1 : Nat) : Int)) :
    ∃ r, Ev (fun k => L k a 0) r ∧ (r < 0 ∨ 0 ≤ r ∧ r ≤ a ∧ ∀ x ∈ l, P x) := by
  obtain ⟨r, hr, he⟩ := state_loop l.length L (fun j s => 0 ≤ s ∧ s ≤ a ∧ ∀ i, i < j → P (l.getD i z)) (fun _ _ r => r < 0 ∨ 0 ≤ r ∧ r ≤ a ∧ ∀ i, i < l.length → P (l.getD i z))
    (fun s hi => ⟨s, .inr hi, ev_now ⟨0, fun k _ => hend k s⟩⟩)
    (fun j s hj hi => by
      obtain ⟨t, ht, K, hk⟩ := hx j hj s hi.1 hi.2.1
      rcases ht with ht | ⟨t0, t1, t2⟩
      · exact .inl ⟨-1, .inl qa25, ev_now ⟨K, fun k h => by rw [hk k h, if_pos ht]⟩⟩
      · refine .inr ⟨t, ⟨t0, qa25, fun i hij => ?_⟩, fun r h => h, K, fun k h => by rw [hk k h, if_neg qa25]⟩
        rcases Nat.lt_or_eq_of_le (Nat.le_of_lt_succ hij) with h' | rfl
        · exact hi.2.2 i h'
        · exact t2) 0 a qa25 ⟨h0, qa25, fun i hi => by omega⟩
  refine ⟨r, he, ?_⟩
  rcases hr with hr | ⟨h2, h3, h4⟩
  · exact .inl hr
  · refine .inr ⟨h2, h3, fun x hx' => ?_⟩
    obtain ⟨i, hi, rfl⟩ := List.getElem_of_mem hx'
    have := h4 i hi
    rw [List.getD_eq_getElem?_getD, List.getElem?_eq_getElem hi] at this
    exact this
def SmA (x : S105) : Prop := x.f0.size ≤ 1048576
def SmF (x : S91) : Prop := x.f0.size ≤ 1048576 ∧ x.f2.size ≤ 1048576 ∧ x.f1.length ≤ 1048576 ∧ ∀ y ∈ x.f1, SmA y
def SmT (x : S54) : Prop := x.f0.size ≤ 1048576 ∧ x.f1.length ≤ 1048576 ∧ ∀ y ∈ x.f1, SmF y
def SmS (l : List S54) : Prop := l.length ≤ 1048576 ∧ ∀ y ∈ l, SmT y
theorem sz_args (l : List S105) (a : Int) (h0 : 0 ≤ a) (h1 : a ≤ 1048576) (hl : l.length ≤ 9223372036854775807) (hx : ∀ x ∈ l, i105 x) :
    ∃ r, Ev (fun k => laws_szArgDefS.f k l a) r ∧ (r < 0 ∨ 0 ≤ r ∧ r ≤ a ∧ l.length ≤ 1048576 ∧ ∀ x ∈ l, SmA x) := by
  have hw := wsub a l.length h0 h1 hl
  by_cases h : a - (l.length : Int) < 0
  · exact ⟨-1, ev_mk 0 (fun k _ => by unfold laws_szArgDefS.f; rw [hw, if_pos h]), .inl qa25⟩
  · obtain ⟨r, he, hr⟩ := sz_loop l z105 SmA (a - l.length) qa25 (fun k s i => laws_szArgDefS.l0 k l s i) (fun k s => by simp only [laws_szArgDefS.l0]; rw [if_neg qa25]) (fun j hj s s0 s1 => by
      have hi := hx _ (getD_mem l z105 j hj)
      have hw' := wsub s (l.getD j z105).f0.size s0 qa25 hi.1
      have hrd : rd_T105 l (j : Int) = l.getD j z105 := rfl
      by_cases h2 : s - ((l.getD j z105).f0.size : Int) < 0
      · exact ⟨-1, .inl qa25, 0, fun k _ => by simp only [laws_szArgDefS.l0, laws_szArgDef.f]; rw [if_pos qa25, if_pos qa25, hrd, hw', if_pos h2, Option.bind_some, if_pos qa25, if_pos qa25]⟩
      · refine ⟨s - ((l.getD j z105).f0.size : Int), .inr ⟨qa25, qa25, ?_⟩, 0, fun k _ => by simp only [laws_szArgDefS.l0, laws_szArgDef.f]; rw [if_pos qa25, if_pos qa25, hrd, hw', if_neg h2, Option.bind_some, if_neg qa25, if_neg qa25, wsucc hj qa25]⟩
        show (l.getD j z105).f0.size ≤ 1048576
        omega)
    refine ⟨r, ev_same ⟨0, fun k _ => by unfold laws_szArgDefS.f; rw [hw, if_neg h]⟩ he, ?_⟩
    rcases hr with hr | ⟨h2, h3, h4⟩
    · exact .inl hr
    · exact .inr ⟨h2, qa25, qa25, h4⟩
theorem sz_field (x : S91) (a : Int) (h0 : 0 ≤ a) (h1 : a ≤ 1048576) (hi : i91 x) :
    ∃ r, Ev (fun k => laws_szFieldDef.f k x.f0 x.f1 x.f2 x.f3 x.f4 a) r ∧ (r < 0 ∨ 0 ≤ r ∧ r ≤ a ∧ SmF x) := by
  have hw := wsub a x.f0.size h0 h1 hi.1
  by_cases h : a - (x.f0.size : Int) < 0
  · exact ⟨-1, ev_mk 0 (fun k _ => by unfold laws_szFieldDef.f; rw [hw, if_pos h]), .inl qa25⟩
  · obtain ⟨r, he, hr⟩ := sz_args x.f1 (a - (x.f0.size : Int)) qa25 qa25 hi.2.1.1 hi.2.1.2
    obtain ⟨K, hk⟩ := ev_at he
    rcases hr with hr | ⟨h2, h3, h4⟩
    · exact ⟨-1, ev_mk K (fun k hq => by unfold laws_szFieldDef.f; rw [hw, if_neg h, hk k hq, Option.bind_some, if_pos hr]), .inl qa25⟩
    · have hw' := wsub r x.f2.size h2 qa25 hi.2.2.1
      by_cases h5 : r - (x.f2.size : Int) < 0
      · exact ⟨-1, ev_mk K (fun k hq => by unfold laws_szFieldDef.f; rw [hw, if_neg h, hk k hq, Option.bind_some, if_neg qa25, hw', if_pos h5]), .inl qa25⟩
      · exact ⟨r - (x.f2.size : Int), ev_mk K (fun k hq => by unfold laws_szFieldDef.f; rw [hw, if_neg h, hk k hq, Option.bind_some, if_neg qa25, hw', if_neg h5]), .inr ⟨qa25, qa25, qa25, qa25, h4⟩⟩
theorem sz_fields (l : List S91) (a : Int) (h0 : 0 ≤ a) (h1 : a ≤ 1048576) (hl : l.length ≤ 9223372036854775807) (hx : ∀ x ∈ l, i91 x) :
    ∃ r, Ev (fun k => laws_szFieldDefS.f k l a) r ∧ (r < 0 ∨ 0 ≤ r ∧ r ≤ a ∧ l.length ≤ 1048576 ∧ ∀ x ∈ l, SmF x) := by
  have hw := wsub a l.length h0 h1 hl
  by_cases h : a - (l.length : Int) < 0
  · exact ⟨-1, ev_mk 0 (fun k _ => by unfold laws_szFieldDefS.f; rw [hw, if_pos h]), .inl qa25⟩
  · obtain ⟨r, he, hr⟩ := sz_loop l z91 SmF (a - l.length) qa25 (fun k s i => laws_szFieldDefS.l0 k l s i) (fun k s => by simp only [laws_szFieldDefS.l0]; rw [if_neg qa25]) (fun j hj s s0 s1 => by
      obtain ⟨t, te, ht⟩ := sz_field (l.getD j z91) s s0 qa25 (hx _ (getD_mem l z91 j hj))
      obtain ⟨K, hk⟩ := ev_at te
      have hrd : rd_T91 l (j : Int) = l.getD j z91 := rfl
      exact ⟨t, ht, K, fun k hq => by simp only [laws_szFieldDefS.l0]; rw [if_pos qa25, if_pos qa25, hrd, hk k hq, Option.bind_some, wsucc hj qa25]⟩)
    refine ⟨r, ev_same ⟨0, fun k _ => by unfold laws_szFieldDefS.f; rw [hw, if_neg h]⟩ he, ?_⟩
    rcases hr with hr | ⟨h2, h3, h4⟩
    · exact .inl hr
    · exact .inr ⟨h2, qa25, qa25, h4⟩
theorem sz_type (x : S54) (a : Int) (h0 : 0 ≤ a) (h1 : a ≤ 1048576) (hi : i54 x) :
    ∃ r, Ev (fun k => laws_szTypeDef.f k x.f0 x.f1 a) r ∧ (r < 0 ∨ 0 ≤ r ∧ r ≤ a ∧ SmT x) := by
  have hw := wsub a x.f0.size h0 h1 hi.1
  by_cases h : a - (x.f0.size : Int) < 0
  · exact ⟨-1, ev_mk 0 (fun k _ => by unfold laws_szTypeDef.f; rw [hw, if_pos h]), .inl qa25⟩
  · obtain ⟨r, he, hr⟩ := sz_fields x.f1 (a - (x.f0.size : Int)) qa25 qa25 hi.2.1 hi.2.2
    obtain ⟨K, hk⟩ := ev_at he
    rcases hr with hr | ⟨h2, h3, h4⟩
    · exact ⟨-1, ev_mk K (fun k hq => by unfold laws_szTypeDef.f; rw [hw, if_neg h, hk k hq, Option.bind_some, if_pos hr]), .inl qa25⟩
    · exact ⟨r, ev_mk K (fun k hq => by unfold laws_szTypeDef.f; rw [hw, if_neg h, hk k hq, Option.bind_some, if_neg qa25]), .inr ⟨h2, qa25, qa25, h4⟩⟩
theorem sz_schema (l : List S54) (a : Int) (h0 : 0 ≤ a) (h1 : a ≤ 1048576) (hl : l.length ≤ 9223372036854775807) (hx : ∀ x ∈ l, i54 x) :
    ∃ r, Ev (fun k => laws_szSchema.f k l a) r ∧ (r < 0 ∨ 0 ≤ r ∧ r ≤ a ∧ SmS l) := by
  have hw := wsub a l.length h0 h1 hl
  by_cases h : a - (l.length : Int) < 0
  · exact ⟨-1, ev_mk 0 (fun k _ => by unfold laws_szSchema.f laws_szTypeDefS.f; rw [hw, if_pos h]; rfl), .inl qa25⟩
  · obtain ⟨r, he, hr⟩ := sz_loop l z54 SmT (a - l.length) qa25 (fun k s i => laws_szTypeDefS.l0 k l s i) (fun k s => by simp only [laws_szTypeDefS.l0]; rw [if_neg qa25]) (fun j hj s s0 s1 => by
      obtain ⟨t, te, ht⟩ := sz_type (l.getD j z54) s s0 qa25 (hx _ (getD_mem l z54 j hj))
      obtain ⟨K, hk⟩ := ev_at te
      have hrd : rd_T54 l (j : Int) = l.getD j z54 := rfl
      exact ⟨t, ht, K, fun k hq => by simp only [laws_szTypeDefS.l0]; rw [if_pos qa25, if_pos qa25, hrd, hk k hq, Option.bind_some, wsucc hj qa25]⟩)
    obtain ⟨K, hk⟩ := ev_at he
    rcases hr with hr | ⟨h2, h3, h4⟩
    · exact ⟨-1, ev_mk K (fun k hq => by unfold laws_szSchema.f laws_szTypeDefS.f; rw [hw, if_neg h, hk k hq, Option.bind_some, if_pos hr]), .inl qa25⟩
    · exact ⟨r, ev_mk K (fun k hq => by unfold laws_szSchema.f laws_szTypeDefS.f; rw [hw, if_neg h, hk k hq, Option.bind_some, if_neg qa25]), .inr ⟨h2, qa25, qa25, h4⟩⟩
def cvA (x : S105) : S60 := ⟨x.f0, x.f1⟩
def cvF (x : S91) : S47 := ⟨x.f0, x.f1.map cvA, x.f2, x.f3, x.f4⟩
def cvT (x : S54) : S41 := ⟨x.f0, x.f1.map cvF⟩
theorem to_args (l : List S105) (hl : l.length ≤ 1048576) : Ev (fun k => laws_toArgDefS.f k l) (l.map cvA) := by
  have h := fill_loop l z105 cvA (fun k y i => laws_toArgDefS.l0 k l y i) (fun y hy => ⟨0, fun k _ => by simp only [laws_toArgDefS.l0]; rw [if_neg qa25]⟩)
    (fun j y hj hy => ⟨0, fun k _ => by
      simp only [laws_toArgDefS.l0, laws_toArgDef.f]; rw [if_pos qa25, if_pos qa25, Option.bind_some, if_pos qa25, wsucc hj qa25]; rfl⟩) (List.replicate l.length z60) qa76
  refine ev_same ⟨0, fun k _ => ?_⟩ h
  unfold laws_toArgDefS.f
  rw [if_pos qa25, if_pos qa136, Int.toNat_natCast]
theorem to_fields (l : List S91) (hl : l.length ≤ 1048576) (hx : ∀ x ∈ l, SmF x) : Ev (fun k => laws_toFieldDefS.f k l) (l.map cvF) := by
  have h := fill_loop l z91 cvF (fun k y i => laws_toFieldDefS.l0 k l y i) (fun y hy => ⟨0, fun k _ => by simp only [laws_toFieldDefS.l0]; rw [if_neg qa25]⟩)
    (fun j y hj hy => by
      obtain ⟨K, hk⟩ := ev_at (to_args (l.getD j z91).f1 (hx _ (getD_mem l z91 j hj)).2.2.1)
      have hrd : rd_T91 l (j : Int) = l.getD j z91 := rfl
      exact ⟨K, fun k hq => by
        simp only [laws_toFieldDefS.l0, laws_toFieldDef.f]; rw [if_pos qa25, if_pos qa25, hrd, hk k hq, Option.bind_some, Option.bind_some, if_pos qa25, wsucc hj qa25]; rfl⟩) (List.replicate l.length z47) qa76
  refine ev_same ⟨0, fun k _ => ?_⟩ h
  unfold laws_toFieldDefS.f
  rw [if_pos qa25, if_pos qa136, Int.toNat_natCast]
theorem to_schema (l : List S54) (hl : SmS l) : Ev (fun k => laws_toSchema.f k l) (l.map cvT) := by
  obtain ⟨hl, hx⟩ := hl
  have h := fill_loop l z54 cvT (fun k y i => laws_toTypeDefS.l0 k l y i) (fun y hy => ⟨0, fun k _ => by simp only [laws_toTypeDefS.l0]; rw [if_neg qa25]⟩)
    (fun j y hj hy => by
      have hm := hx _ (getD_mem l z54 j hj)
      obtain ⟨K, hk⟩ := ev_at (to_fields (l.getD j z54).f1 hm.2.1 hm.2.2)
      have hrd : rd_T54 l (j : Int) = l.getD j z54 := rfl
      exact ⟨K, fun k hq => by
        simp only [laws_toTypeDefS.l0, laws_toTypeDef.f]; rw [if_pos qa25, if_pos qa25, hrd, hk k hq, Option.bind_some, Option.bind_some, if_pos qa25, wsucc hj qa25]; rfl⟩) (List.replicate l.length z41) qa76
  obtain ⟨K, hk⟩ := ev_at h
  refine ev_mk K fun k hq => ?_
  unfold laws_toSchema.f laws_toTypeDefS.f
  rw [if_pos qa25, if_pos qa136, Int.toNat_natCast, hk k hq]
  rfl
theorem eq_loop {α : Type} (n : Nat) (L : Nat → Int → Option Bool) (hend : ∀ k, L (k + 1) (n : Int) = some true) (hs : ∀ j, j < n → ∃ K, ∀ k, K ≤ k → L (k + 1) (j : Int) = L k ((j + 1 : Nat) : Int)) : Ev (fun k => L k 0) true := by
  obtain ⟨r, hr, he⟩ := count_loop n L (fun _ r => r = true) ⟨true, rfl, ev_now ⟨0, fun k _ => hend k⟩⟩ (fun j hj r hr he => ⟨r, hr, ev_step (hs j hj) he⟩) 0 qa25
  subst hr
  exact he
theorem eq_args (l : List S60) (hl : l.length ≤ 1048576) : Ev (fun k => laws_eqArgDefS.f k l l) true := by
  refine ev_same ⟨0, fun k _ => by unfold laws_eqArgDefS.f; rw [if_pos rfl]⟩ (eq_loop (α := Unit) l.length (fun k i => laws_eqArgDefS.l0 k l l i) (fun k => by simp only [laws_eqArgDefS.l0]; rw [if_neg qa25]) fun j hj => ⟨0, fun k _ => ?_⟩)
  simp only [laws_eqArgDefS.l0, laws_eqArgDef.f, bne_self_eq_false]; rw [if_pos qa25, if_pos qa25, if_pos qa25, if_pos trivial, if_neg qa76, Option.bind_some, if_pos rfl, wsucc hj qa25]
theorem eq_fields (l : List S47) (hl : l.length ≤ 1048576) (hx : ∀ x ∈ l, x.f1.length ≤ 1048576) : Ev (fun k => laws_eqFieldDefS.f k l l) true := by
  refine ev_same ⟨0, fun k _ => by unfold laws_eqFieldDefS.f; rw [if_pos rfl]⟩ (eq_loop (α := Unit) l.length (fun k i => laws_eqFieldDefS.l0 k l l i) (fun k => by simp only [laws_eqFieldDefS.l0]; rw [if_neg qa25]) fun j hj => ?_)
  obtain ⟨K, hk⟩ := ev_at (eq_args (l.getD j z47).f1 (hx _ (getD_mem l z47 j hj)))
  have hrd : rd_T47 l (j : Int) = l.getD j z47 := rfl
  refine ⟨K, fun k hq => ?_⟩
  simp only [laws_eqFieldDefS.l0, laws_eqFieldDef.f, bne_self_eq_false]; rw [if_pos qa25, if_pos qa25, if_pos qa25, if_pos trivial, hrd, hk k hq, Option.bind_some, if_pos rfl, if_pos trivial, if_neg qa76, if_neg qa76, Option.bind_some, if_pos rfl, wsucc hj qa25]
theorem eq_schema (l : List S41) (hl : l.length ≤ 1048576) (hx : ∀ x ∈ l, x.f1.length ≤ 1048576 ∧ ∀ y ∈ x.f1, y.f1.length ≤ 1048576) : Ev (fun k => laws_eqSchema.f k l l) true := by
  have h : Ev (fun k => laws_eqTypeDefS.f k l l) true := by
    refine ev_same ⟨0, fun k _ => by unfold laws_eqTypeDefS.f; rw [if_pos rfl]⟩ (eq_loop (α := Unit) l.length (fun k i => laws_eqTypeDefS.l0 k l l i) (fun k => by simp only [laws_eqTypeDefS.l0]; rw [if_neg qa25]) fun j hj => ?_)
    obtain ⟨K, hk⟩ := ev_at (eq_fields (l.getD j z41).f1 (hx _ (getD_mem l z41 j hj)).1 (hx _ (getD_mem l z41 j hj)).2)
    have hrd : rd_T41 l (j : Int) = l.getD j z41 := rfl
    refine ⟨K, fun k hq => ?_⟩
    simp only [laws_eqTypeDefS.l0, laws_eqTypeDef.f]; rw [if_pos qa25, if_pos qa25, if_pos qa25, if_pos trivial, hrd, hk k hq, Option.bind_some, if_pos rfl, Option.bind_some, if_pos rfl, wsucc hj qa25]
  obtain ⟨K, hk⟩ := ev_at h
  exact ev_mk K fun k hq => by unfold laws_eqSchema.f; rw [hk k hq]; rfl
end Go.Proofs.YtoogmlghfljeiaaDoor.Pure2
namespace Go.Proofs.YtoogmlghfljeiaaDoor.Pure2
open Go.RowKit Go.Proofs.YtoogmlghfljeiaaDoor.Q Go.Proofs.YtoogmlghfljeiaaDoorW.PrintWords Go.Proofs.YtoogmlghfljeiaaDoorW.PrintLast
set_option linter.unusedVariables false
set_option linter.unusedSimpArgs false
/-! whether a schema is one -/
theorem find_ev {α : Type} (l : List α) (z : α) (p : α → Bool) (L : Nat → Int → Option Int) (hend : ∀ k, L (k + 1) (l.length : Int) = some (-1))
    (hs : ∀ k j, j < l.length → L (k + 1) (j : Int) = if p (l.getD j z) = true then some (j : Int) else L k ((j + 1 : Nat) : Int)) : Ev (fun k => L k 0) (match l.findIdx? p with | some i => (i : Int) | none => -1) := by
  obtain ⟨r, hr, he⟩ := count_loop l.length L (fun j r => r = match (l.drop j).findIdx? p with | some i => ((i + j : Nat) : Int) | none => -1) ⟨-1, by rw [List.drop_eq_nil_of_le (Nat.le_refl _)]; rfl, ev_now ⟨0, fun k _ => hend k⟩⟩
    (fun j hj r hr he => by
      have hg : l.getD j z = l[j] := by rw [List.getD_eq_getElem?_getD, List.getElem?_eq_getElem hj]; rfl
      rw [List.drop_eq_getElem_cons hj, List.findIdx?_cons]
      cases hc : p l[j] with
      | true => exact ⟨(j : Int), by rw [if_pos rfl]; simp, ev_now ⟨0, fun k _ => by rw [hs k j hj, hg, hc, if_pos rfl]⟩⟩
      | false =>
        refine ⟨r, ?_, ev_step ⟨0, fun k _ => by rw [hs k j hj, hg, hc, if_neg qa76]⟩ he⟩
        rw [hr, if_neg qa76]
        cases (l.drop (j + 1)).findIdx? p with
        | none => rfl
        | some i => simp only [Option.map_some]; congr 1; omega) 0 qa25
  rw [List.drop_zero] at hr
  subst hr
  exact he
theorem find_type (l : List S41) (s : ByteArray) (hl : l.length ≤ 1048576) : ∃ r, Ev (fun k => spec_l03Find.f k l s) r ∧ impl_Schema_typeAt.f l s = some r :=
  ⟨_, find_ev l z41 (fun x => x.f0.toList == s.toList) (fun k i => spec_l03Find.l0 k s i l) (fun k => by simp only [spec_l03Find.l0]; rw [if_neg qa25])
    (fun k j hj => by
      have hrd : rd_T41 l (j : Int) = l.getD j z41 := rfl
      conv => lhs; simp only [spec_l03Find.l0]
      rw [if_pos qa25, if_pos qa25, hrd, wsucc hj qa25]
      simp only [beq_iff_eq]), rfl⟩
theorem find_field (l : List S47) (nm s : ByteArray) (hl : l.length ≤ 1048576) : ∃ r, Ev (fun k => spec_l03Field.f k nm l s) r ∧ impl_TypeDef_fieldAt.f nm l s = some r :=
  ⟨_, find_ev l z47 (fun x => x.f0.toList == s.toList) (fun k i => spec_l03Field.l0 k s i nm l) (fun k => by simp only [spec_l03Field.l0]; rw [if_neg qa25])
    (fun k j hj => by
      have hrd : rd_T47 l (j : Int) = l.getD j z47 := rfl
      conv => lhs; simp only [spec_l03Field.l0]
      rw [if_pos qa25, if_pos qa25, hrd, wsucc hj qa25]
      simp only [beq_iff_eq]), rfl⟩
theorem find_arg (l : List S60) (nm t : ByteArray) (b c : Bool) (s : ByteArray) (hl : l.length ≤ 1048576) : ∃ r, Ev (fun k => spec_l03Arg.f k nm l t b c s) r ∧ impl_FieldDef_argAt.f nm l t b c s = some r :=
  ⟨_, find_ev l z60 (fun x => x.f0.toList == s.toList) (fun k i => spec_l03Arg.l0 k s i nm l t b c) (fun k => by simp only [spec_l03Arg.l0]; rw [if_neg qa25])
    (fun k j hj => by
      have hrd : rd_T60 l (j : Int) = l.getD j z60 := rfl
      conv => lhs; simp only [spec_l03Arg.l0]
      rw [if_pos qa25, if_pos qa25, hrd, wsucc hj qa25]
      simp only [beq_iff_eq]), rfl⟩
def CmF (x : S47) : Prop := x.f0.size ≤ 1048576 ∧ x.f1.length ≤ 1048576 ∧ ∀ y ∈ x.f1, y.f0.size ≤ 1048576
def CmT (x : S41) : Prop := x.f0.size ≤ 1048576 ∧ x.f1.length ≤ 1048576 ∧ ∀ y ∈ x.f1, CmF y
def CmS (l : List S41) : Prop := l.length ≤ 1048576 ∧ ∀ y ∈ l, CmT y
theorem args_agree (fd : S47) (hf : CmF fd) (i j : Nat) (T : List S41) (nm : ByteArray) (fs : List S47) (hj : j < fs.length) (hfs : fs.length ≤ 1048576) (R : Bool) (hR : Ev (fun k => spec_SchemaOK.l1 k (i : Int) ((j + 1 : Nat) : Int) T nm fs) R) :
    ∃ b, Ev (fun k => spec_SchemaOK.l2 k (i : Int) (j : Int) 0 T nm fs fd.f0 fd.f1 fd.f2 fd.f3 fd.f4) (if b = true then R else false) ∧ Ev (fun k => impl_Schema_fieldOK.l0 k fd.f1 (fd.f1.length : Int) 0 fd.f0 fd.f1 fd.f2 fd.f3 fd.f4) b := by
  have hl := hf.2.1
  obtain ⟨b, h1, h2⟩ := count_loop fd.f1.length (fun k q => impl_Schema_fieldOK.l0 k fd.f1 (fd.f1.length : Int) q fd.f0 fd.f1 fd.f2 fd.f3 fd.f4) (fun q b => Ev (fun k => spec_SchemaOK.l2 k (i : Int) (j : Int) (q : Int) T nm fs fd.f0 fd.f1 fd.f2 fd.f3 fd.f4) (if b = true then R else false))
    ⟨true, by rw [if_pos rfl]; exact ev_step ⟨0, fun k _ => by simp only [spec_SchemaOK.l2]; rw [if_neg (by omega), wsucc hj (by omega)]⟩ hR, ev_now ⟨0, fun k _ => by simp only [impl_Schema_fieldOK.l0]; rw [if_neg qa25]⟩⟩
    (fun q hq b hp he => by
      have hrd : rd_T60 fd.f1 (q : Int) = fd.f1.getD q z60 := rfl
      obtain ⟨n, n1, n2, _⟩ := names_ev (fd.f1.getD q z60).f0 (hf.2.2 _ (getD_mem fd.f1 z60 q hq))
      obtain ⟨t, t1, t2⟩ := find_arg fd.f1 fd.f0 fd.f2 fd.f3 fd.f4 (fd.f1.getD q z60).f0 hl
      obtain ⟨K1, n1⟩ := ev_at n1
      obtain ⟨K2, n2⟩ := ev_at n2
      obtain ⟨K3, t1⟩ := ev_at t1
      cases n with
      | false =>
        refine ⟨false, ?_, ev_now ⟨K2, fun k hk => by simp only [impl_Schema_fieldOK.l0]; rw [if_pos qa25, if_pos qa25, if_pos qa25, hrd, n2 k hk]; rfl⟩⟩
        exact ev_now ⟨K1, fun k hk => by simp only [spec_SchemaOK.l2]; rw [if_pos qa25, if_pos qa25, hrd, n1 k hk]; rfl⟩
      | true =>
        by_cases ht : t = (q : Int)
        · refine ⟨b, ev_step ⟨K1 + K3, fun k hk => ?_⟩ hp, ev_step ⟨K2, fun k hk => ?_⟩ he⟩
          · simp only [spec_SchemaOK.l2]; rw [if_pos qa25, if_pos qa25, hrd, n1 k qa25, Option.bind_some, if_pos rfl, t1 k qa25, Option.bind_some, if_pos ht, wsucc hq qa25]
          · simp only [impl_Schema_fieldOK.l0]; rw [if_pos qa25, if_pos qa25, if_pos qa25, hrd, n2 k hk, Option.bind_some, if_pos rfl, t2, Option.bind_some, if_pos ht, wsucc hq qa25]
        · refine ⟨false, ?_, ev_now ⟨K2, fun k hk => by simp only [impl_Schema_fieldOK.l0]; rw [if_pos qa25, if_pos qa25, if_pos qa25, hrd, n2 k hk, Option.bind_some, if_pos rfl, t2, Option.bind_some, if_neg ht]⟩⟩
          exact ev_now ⟨K1 + K3, fun k hk => by simp only [spec_SchemaOK.l2]; rw [if_pos qa25, if_pos qa25, hrd, n1 k qa25, Option.bind_some, if_pos rfl, t1 k qa25, Option.bind_some, if_neg ht]; rfl⟩) 0 qa25
  exact ⟨b, h1, h2⟩
theorem fields_agree (T : List S41) (hT : T.length ≤ 1048576) (i : Nat) (hi : i < T.length) (nm : ByteArray) (fs : List S47) (hl : fs.length ≤ 1048576) (hx : ∀ x ∈ fs, CmF x) (R : Bool) (hR : Ev (fun k => spec_SchemaOK.l0 k ((i + 1 : Nat) : Int) T) R) (hR' : Ev (fun k => impl_SchemaOK.l0 k T (T.length : Int) ((i + 1 : Nat) : Int) T) R) :
    ∃ r, Ev (fun k => spec_SchemaOK.l1 k (i : Int) 0 T nm fs) r ∧ Ev (fun k => impl_SchemaOK.l1 k T (T.length : Int) (i : Int) fs (fs.length : Int) 0 T nm fs) r := by
  obtain ⟨r, h1, h2⟩ := count_loop fs.length (fun k q => impl_SchemaOK.l1 k T (T.length : Int) (i : Int) fs (fs.length : Int) q T nm fs) (fun q r => Ev (fun k => spec_SchemaOK.l1 k (i : Int) (q : Int) T nm fs) r)
    ⟨R, ev_step ⟨0, fun k _ => by simp only [spec_SchemaOK.l1]; rw [if_neg qa25, wsucc hi qa25]⟩ hR, ev_step ⟨0, fun k _ => by simp only [impl_SchemaOK.l1]; rw [if_neg qa25, wsucc hi qa25]⟩ hR'⟩
    (fun q hq r hp he => by
      have hrd : rd_T47 fs (q : Int) = fs.getD q z47 := rfl
      have hm := hx _ (getD_mem fs z47 q hq)
      obtain ⟨n, n1, n2, _⟩ := names_ev (fs.getD q z47).f0 hm.1
      obtain ⟨u, u1, u2⟩ := find_field fs nm (fs.getD q z47).f0 hl
      obtain ⟨t, t1, t2⟩ := find_type T (fs.getD q z47).f2 hT
      obtain ⟨b, b1, b2⟩ := args_agree (fs.getD q z47) hm i q T nm fs hq hl r hp
      obtain ⟨K1, n1⟩ := ev_at n1
      obtain ⟨K2, n2⟩ := ev_at n2
      obtain ⟨K3, u1⟩ := ev_at u1
      obtain ⟨K4, t1⟩ := ev_at t1
      obtain ⟨K5, b1⟩ := ev_at b1
      obtain ⟨K6, b2⟩ := ev_at b2
      obtain ⟨K7, he⟩ := ev_at he
      generalize fs.getD q z47 = fd at *
      refine ⟨if n = true then (if fd.f0.toList = ([95, 95, 116, 121, 112, 101, 110, 97, 109, 101] : List UInt8) then false else if u = (q : Int) then (if fd.f2.toList = ([73, 110, 116] : List UInt8) then (if (fd.f1.length : Int) > 4 then false else if b = true then r else false) else if t < 0 then false else if (fd.f1.length : Int) > 4 then false else if b = true then r else false) else false) else false, ev_mk (K1 + K3 + K4 + K5 + 2) fun k hk => ?_, ev_mk (K2 + K6 + K7 + 2) fun k hk => ?_⟩
      · obtain ⟨k, rfl⟩ : ∃ m, k = m + 2 := ⟨k - 2, qa25⟩
        simp only [spec_SchemaOK.l1, spec_SchemaOK.j4]
        rw [if_pos qa25, if_pos qa25, hrd, n1 _ qa25, Option.bind_some, u1 _ qa25, Option.bind_some, t1 _ qa25, Option.bind_some, b1 k qa25]
        by_cases c1 : n = true
        · rw [if_pos c1, if_pos c1]
          by_cases c2 : fd.f0.toList = ([95, 95, 116, 121, 112, 101, 110, 97, 109, 101] : List UInt8)
          · rw [if_pos c2, if_pos c2]; rfl
          · rw [if_neg c2, if_neg c2]
            by_cases c3 : u = (q : Int)
            · rw [if_pos c3, if_pos c3]
              by_cases c4 : fd.f2.toList = ([73, 110, 116] : List UInt8)
              · rw [if_pos c4, if_pos c4]
                by_cases c6 : (fd.f1.length : Int) > 4
                · rw [if_pos c6, if_pos (decide_eq_true c6)]
                · rw [if_neg c6, if_neg qa138]
              · rw [if_neg c4, if_neg c4]
                by_cases c5 : t < 0
                · rw [if_pos c5, if_pos c5]; rfl
                · rw [if_neg c5, if_neg c5]
                  by_cases c6 : (fd.f1.length : Int) > 4
                  · rw [if_pos c6, if_pos (decide_eq_true c6)]
                  · rw [if_neg c6, if_neg qa138]
            · rw [if_neg c3, if_neg c3]; rfl
        · rw [if_neg c1, if_neg c1]; rfl
      · obtain ⟨k, rfl⟩ : ∃ m, k = m + 2 := ⟨k - 2, qa25⟩
        rw [impl_SchemaOK.l1]
        simp only [impl_Schema_fieldOK.f, impl_Schema_fieldOK.j0]
        rw [if_pos qa25, if_pos qa25, if_pos qa25, hrd, n2 _ qa25, Option.bind_some, t2, Option.bind_some, u2, Option.bind_some, wsucc hq qa25, he _ qa25, b2 k qa25]
        by_cases c1 : n = true
        · rw [if_pos c1, if_pos c1]
          by_cases c2 : fd.f0.toList = ([95, 95, 116, 121, 112, 101, 110, 97, 109, 101] : List UInt8)
          · rw [if_pos c2, if_pos c2]; rfl
          · rw [if_neg c2, if_neg c2]
            by_cases c4 : fd.f2.toList = ([73, 110, 116] : List UInt8)
            · rw [if_pos c4, if_pos c4]
              by_cases c6 : (fd.f1.length : Int) > 4
              · rw [if_pos c6, if_pos (decide_eq_true c6)]; simp
              · rw [if_neg c6, if_neg qa138]
                by_cases c3 : u = (q : Int)
                · rw [if_pos c3, if_pos c3]; cases b <;> rfl
                · rw [if_neg c3, if_neg c3]; cases b <;> rfl
            · rw [if_neg c4, if_neg c4]
              by_cases c5 : t < 0
              · rw [if_pos c5, if_pos c5]; simp
              · rw [if_neg c5, if_neg c5]
                by_cases c6 : (fd.f1.length : Int) > 4
                · rw [if_pos c6, if_pos (decide_eq_true c6)]; simp
                · rw [if_neg c6, if_neg qa138]
                  by_cases c3 : u = (q : Int)
                  · rw [if_pos c3, if_pos c3]; cases b <;> rfl
                  · rw [if_neg c3, if_neg c3]; cases b <;> rfl
        · rw [if_neg c1, if_neg c1]; rfl) 0 qa25
  exact ⟨r, h1, h2⟩
theorem schema_agree (T : List S41) (hT : CmS T) : ∃ r, Ev (fun k => spec_SchemaOK.f k T) r ∧ Ev (fun k => impl_SchemaOK.f k T) r := by
  obtain ⟨hl, hx⟩ := hT
  obtain ⟨R, h1, h2⟩ := count_loop T.length (fun k q => impl_SchemaOK.l0 k T (T.length : Int) q T) (fun q r => Ev (fun k => spec_SchemaOK.l0 k (q : Int) T) r)
    ⟨true, ev_now ⟨0, fun k _ => by simp only [spec_SchemaOK.l0]; rw [if_neg qa25]⟩, ev_now ⟨0, fun k _ => by simp only [impl_SchemaOK.l0]; rw [if_neg qa25]⟩⟩
    (fun q hq r hp he => by
      have hrd : rd_T41 T (q : Int) = T.getD q z41 := rfl
      have hm := hx _ (getD_mem T z41 q hq)
      obtain ⟨n, n1, n2, _⟩ := names_ev (T.getD q z41).f0 hm.1
      obtain ⟨t, t1, t2⟩ := find_type T (T.getD q z41).f0 hl
      obtain ⟨b, b1, b2⟩ := fields_agree T hl q hq (T.getD q z41).f0 (T.getD q z41).f1 hm.2.1 hm.2.2 r hp he
      obtain ⟨K1, n1⟩ := ev_at n1
      obtain ⟨K2, n2⟩ := ev_at n2
      obtain ⟨K4, t1⟩ := ev_at t1
      obtain ⟨K5, b1⟩ := ev_at b1
      obtain ⟨K6, b2⟩ := ev_at b2
      generalize T.getD q z41 = td at *
      refine ⟨if n = true then (if td.f0.toList = ([73, 110, 116] : List UInt8) then false else if t = (q : Int) then (if decide (1 ≤ (td.f1.length : Int) ∧ (td.f1.length : Int) ≤ 10) = true then b else false) else false) else false, ev_mk (K1 + K4 + K5 + 2) fun k hk => ?_, ev_mk (K2 + K6 + 2) fun k hk => ?_⟩
      · obtain ⟨k, rfl⟩ : ∃ m, k = m + 2 := ⟨k - 2, qa25⟩
        simp only [spec_SchemaOK.l0, spec_SchemaOK.j2]
        rw [if_pos qa25, if_pos qa25, hrd, n1 _ qa25, Option.bind_some, t1 _ qa25, Option.bind_some, spec_in, Option.bind_some, b1 k qa25]
        by_cases c1 : n = true
        · rw [if_pos c1, if_pos c1]
          by_cases c2 : td.f0.toList = ([73, 110, 116] : List UInt8)
          · rw [if_pos c2, if_pos c2]; rfl
          · rw [if_neg c2, if_neg c2]
            by_cases c3 : t = (q : Int)
            · rw [if_pos c3, if_pos c3]
              cases decide (1 ≤ (td.f1.length : Int) ∧ (td.f1.length : Int) ≤ 10) <;> rfl
            · rw [if_neg c3, if_neg c3]; rfl
        · rw [if_neg c1, if_neg c1]; rfl
      · obtain ⟨k, rfl⟩ : ∃ m, k = m + 2 := ⟨k - 2, qa25⟩
        simp only [impl_SchemaOK.l0, impl_SchemaOK.j2]
        rw [if_pos qa25, if_pos qa25, if_pos qa25, hrd, n2 _ qa25, Option.bind_some, t2, Option.bind_some, impl_in, Option.bind_some, b2 k qa25]
        by_cases c1 : n = true
        · rw [if_pos c1, if_pos c1]
          by_cases c2 : td.f0.toList = ([73, 110, 116] : List UInt8)
          · rw [if_pos c2, if_pos c2]; rfl
          · rw [if_neg c2, if_neg c2]
            by_cases c3 : t = (q : Int)
            · rw [if_pos c3, if_pos c3]
              cases decide (1 ≤ (td.f1.length : Int) ∧ (td.f1.length : Int) ≤ 10) <;> rfl
            · rw [if_neg c3, if_neg c3]; rfl
        · rw [if_neg c1, if_neg c1]; rfl) 0 qa25
  obtain ⟨t, t1, t2⟩ := find_type T (⟨#[81, 117, 101, 114, 121]⟩ : ByteArray) hl
  obtain ⟨K1, t1⟩ := ev_at t1
  obtain ⟨K2, h1⟩ := ev_at h1
  obtain ⟨K3, h2⟩ := ev_at h2
  refine ⟨if decide (1 ≤ (T.length : Int) ∧ (T.length : Int) ≤ 8) = true then (if t < 0 then false else R) else false, ev_mk (K1 + K2 + 2) fun k hk => ?_, ev_mk (K3 + 2) fun k hk => ?_⟩
  · obtain ⟨k, rfl⟩ : ∃ m, k = m + 1 := ⟨k - 1, qa25⟩
    simp only [spec_SchemaOK.f, spec_SchemaOK.j0]
    rw [spec_in, Option.bind_some, t1 _ qa25, Option.bind_some, show spec_SchemaOK.l0 k 0 T = some R from h1 k qa25]
    cases decide (1 ≤ (T.length : Int) ∧ (T.length : Int) ≤ 8) with
    | false => rfl
    | true =>
      by_cases c : t < 0
      · rw [if_pos rfl, if_pos rfl, if_pos c, if_pos (decide_eq_true c)]
      · rw [if_pos rfl, if_pos rfl, if_neg c, if_neg (by rw [decide_eq_false c]; simp)]
  · obtain ⟨k, rfl⟩ : ∃ m, k = m + 1 := ⟨k - 1, qa25⟩
    simp only [impl_SchemaOK.f, impl_SchemaOK.j0]
    rw [impl_in, Option.bind_some, t2, Option.bind_some, show impl_SchemaOK.l0 k T (T.length : Int) 0 T = some R from h2 k qa25]
    cases decide (1 ≤ (T.length : Int) ∧ (T.length : Int) ≤ 8) with
    | false => rfl
    | true =>
      by_cases c : t < 0
      · rw [if_pos rfl, if_pos rfl, if_pos c, if_pos (decide_eq_true c)]
      · rw [if_pos rfl, if_pos rfl, if_neg c, if_neg (by rw [decide_eq_false c]; simp)]
theorem small_S (l : List S54) (h : SmS l) : CmS (l.map cvT) := by
  refine ⟨by rw [List.length_map]; exact h.1, fun x hx => ?_⟩
  obtain ⟨y, hy, rfl⟩ := List.mem_map.1 hx
  have h1 := h.2 y hy
  refine ⟨h1.1, by show (y.f1.map cvF).length ≤ _; rw [List.length_map]; exact h1.2.1, fun u hu => ?_⟩
  obtain ⟨v, hv, rfl⟩ := List.mem_map.1 hu
  have h2 := h1.2.2 v hv
  refine ⟨h2.1, by show (v.f1.map cvA).length ≤ _; rw [List.length_map]; exact h2.2.2.1, fun p hp => ?_⟩
  obtain ⟨o, ho, rfl⟩ := List.mem_map.1 hp
  exact h2.2.2.2 o ho
end Go.Proofs.YtoogmlghfljeiaaDoor.Pure2
namespace Go.Proofs.YtoogmlghfljeiaaDoor.Pure2
open Go.RowKit Go.Proofs.YtoogmlghfljeiaaDoor.Q Go.Proofs.YtoogmlghfljeiaaDoorW.PrintWords Go.Proofs.YtoogmlghfljeiaaDoorW.PrintLast
set_option linter.unusedVariables false
set_option linter.unusedSimpArgs false
/-! what a right schema is: names, and how many of what -/
theorem name_of (k : Nat) (s : ByteArray) (hs : s.size ≤ 1048576) (h : spec_NameOK.f k s = some true) : IsName s := by
  obtain ⟨r, hr, _, hi⟩ := names_ev s hs
  obtain ⟨K, hK⟩ := ev_at hr
  have hm : ∀ d, spec_NameOK.f (k + d) s = some true := by
    intro d
    induction d with
    | zero => exact h
    | succ d ih => exact spec_NameOK.mono s (k + d) _ ih
  have e := hm K
  rw [hK (k + K) qa25] at e
  exact hi.1 (Option.some.inj e)
theorem args_right (i j : Int) (T : List S41) (nm : ByteArray) (fs : List S47) (fd : S47) (hf : CmF fd) : ∀ (k : Nat) (q : Nat), spec_SchemaOK.l2 k i j (q : Int) T nm fs fd.f0 fd.f1 fd.f2 fd.f3 fd.f4 = some true → q ≤ fd.f1.length →
    (∀ p, q ≤ p → p < fd.f1.length → IsName (fd.f1.getD p z60).f0) ∧ ∃ k', k' < k ∧ spec_SchemaOK.l1 k' i (wrap64 (j + 1)) T nm fs = some true := by
  intro k
  induction k with
  | zero => intro q h; simp [spec_SchemaOK.l2] at h
  | succ k ih =>
    intro q h hq
    have hl := hf.2.1
    simp only [spec_SchemaOK.l2] at h
    by_cases hlt : (q : Int) < (fd.f1.length : Int)
    · rw [if_pos hlt, if_pos qa25] at h
      obtain ⟨n, hn, h⟩ := Option.bind_eq_some_iff.mp h
      cases n with
      | false => simp at h
      | true =>
        rw [if_pos rfl] at h
        obtain ⟨t, ht, h⟩ := Option.bind_eq_some_iff.mp h
        by_cases e : t = (q : Int)
        · rw [if_pos e, wsucc (show q < fd.f1.length by omega) qa25] at h
          obtain ⟨h1, k', hk, h2⟩ := ih (q + 1) h qa25
          refine ⟨fun p hp hp' => ?_, k', qa25, h2⟩
          rcases Nat.lt_or_eq_of_le hp with h3 | rfl
          · exact h1 p h3 hp'
          · exact name_of k _ (hf.2.2 _ (getD_mem fd.f1 z60 q hp')) hn
        · rw [if_neg e] at h; simp at h
    · rw [if_neg hlt] at h
      exact ⟨fun p hp hp' => by omega, k, qa25, h⟩
theorem find_mem (T : List S41) (s : ByteArray) (hl : T.length ≤ 1048576) (t : Int) (h0 : 0 ≤ t) : ∀ (k q : Nat), spec_l03Find.l0 k s (q : Int) T = some t → q ≤ T.length → ∃ x ∈ T, x.f0.toList = s.toList := by
  intro k
  induction k with
  | zero => intro q h; simp [spec_l03Find.l0] at h
  | succ k ih =>
    intro q h hq
    rw [spec_l03Find.l0] at h
    by_cases hlt : (q : Int) < (T.length : Int)
    · have hrd : rd_T41 T (q : Int) = T.getD q z41 := rfl
      rw [if_pos hlt, if_pos qa25, hrd, wsucc (show q < T.length by omega) qa25] at h
      split at h
      · rename_i he; exact ⟨_, getD_mem T z41 q qa25, he⟩
      · exact ih (q + 1) h qa25
    · rw [if_neg hlt] at h
      have := Option.some.inj h
      omega
def RightF (T : List S41) (f : S47) : Prop := IsName f.f0 ∧ (f.f2.toList = [73, 110, 116] ∨ ∃ x ∈ T, x.f0.toList = f.f2.toList) ∧ f.f1.length ≤ 4 ∧ ∀ a ∈ f.f1, IsName a.f0
theorem fields_right (i : Int) (T : List S41) (hTl : T.length ≤ 1048576) (nm : ByteArray) (fs : List S47) (hl : fs.length ≤ 1048576) (hx : ∀ x ∈ fs, CmF x) : ∀ (K k : Nat), k ≤ K → ∀ (q : Nat), spec_SchemaOK.l1 k i (q : Int) T nm fs = some true → q ≤ fs.length →
    (∀ p, q ≤ p → p < fs.length → RightF T (fs.getD p z47)) ∧ ∃ k', k' < k ∧ spec_SchemaOK.l0 k' (wrap64 (i + 1)) T = some true := by
  intro K
  induction K with
  | zero => intro k hk q h; obtain rfl : k = 0 := by omega
            simp [spec_SchemaOK.l1] at h
  | succ K ih =>
    intro k hk q h hq
    cases k with
    | zero => simp [spec_SchemaOK.l1] at h
    | succ k =>
      rw [spec_SchemaOK.l1] at h
      by_cases hlt : (q : Int) < (fs.length : Int)
      · have hrd : rd_T47 fs (q : Int) = fs.getD q z47 := rfl
        have hm := hx _ (getD_mem fs z47 q qa25)
        have go : ∀ b, spec_SchemaOK.j4 k i (q : Int) b T nm fs (fs.getD q z47).f0 (fs.getD q z47).f1 (fs.getD q z47).f2 (fs.getD q z47).f3 (fs.getD q z47).f4 = some true → b = false ∧ (∀ a ∈ (fs.getD q z47).f1, IsName a.f0) ∧ (∀ p, q + 1 ≤ p → p < fs.length → RightF T (fs.getD p z47)) ∧ ∃ k', k' < k + 1 ∧ spec_SchemaOK.l0 k' (wrap64 (i + 1)) T = some true := by
          intro b hb
          cases k with
          | zero => simp [spec_SchemaOK.j4] at hb
          | succ k =>
            simp only [spec_SchemaOK.j4] at hb
            cases b with
            | true => simp at hb
            | false =>
              rw [if_neg qa76] at hb
              obtain ⟨h1, k1, hk1, h2⟩ := args_right i (q : Int) T nm fs _ hm k 0 hb qa25
              rw [wsucc (show q < fs.length by omega) qa25] at h2
              obtain ⟨h3, k2, hk2, h4⟩ := ih k1 qa25 (q + 1) h2 qa25
              refine ⟨rfl, fun a ha => ?_, h3, k2, qa25, h4⟩
              obtain ⟨p, hp, rfl⟩ := List.getElem_of_mem ha
              have := h1 p qa25 hp
              rw [List.getD_eq_getElem?_getD, List.getElem?_eq_getElem hp] at this
              exact this
        rw [if_pos hlt, if_pos qa25, hrd] at h
        obtain ⟨n, hn, h⟩ := Option.bind_eq_some_iff.mp h
        cases n with
        | false => rw [if_neg qa76] at h; exact absurd (go _ h).1 qa76
        | true =>
          rw [if_pos rfl] at h
          have fin : ((fs.getD q z47).f2.toList = [73, 110, 116] ∨ ∃ x ∈ T, x.f0.toList = (fs.getD q z47).f2.toList) → ∀ b, b = decide (((fs.getD q z47).f1.length : Int) > 4) → spec_SchemaOK.j4 k i (q : Int) b T nm fs (fs.getD q z47).f0 (fs.getD q z47).f1 (fs.getD q z47).f2 (fs.getD q z47).f3 (fs.getD q z47).f4 = some true → (∀ p, q ≤ p → p < fs.length → RightF T (fs.getD p z47)) ∧ ∃ k', k' < k + 1 ∧ spec_SchemaOK.l0 k' (wrap64 (i + 1)) T = some true := by
            intro hty b hb hj
            obtain ⟨g1, g2, g3, g4⟩ := go b hj
            rw [g1] at hb
            have h4 := of_decide_eq_false hb.symm
            refine ⟨fun p hp hp' => ?_, g4⟩
            rcases Nat.lt_or_eq_of_le hp with h3 | rfl
            · exact g3 p h3 hp'
            · exact ⟨name_of k _ hm.1 hn, hty, qa25, g2⟩
          split at h
          · exact absurd (go _ h).1 qa76
          · obtain ⟨u, hu, h⟩ := Option.bind_eq_some_iff.mp h
            split at h
            · split at h
              · rename_i he; exact fin (.inl he) _ rfl h
              · obtain ⟨t, ht, h⟩ := Option.bind_eq_some_iff.mp h
                split at h
                · exact absurd (go _ h).1 qa76
                · exact fin (.inr (find_mem T _ hTl t qa25 k 0 ht qa25)) _ rfl h
            · exact absurd (go _ h).1 qa76
      · rw [if_neg hlt] at h
        exact ⟨fun p hp hp' => by omega, k, qa25, h⟩
def RightT (T : List S41) (t : S41) : Prop := IsName t.f0 ∧ t.f1.length ≤ 10 ∧ ∀ f ∈ t.f1, RightF T f
theorem types_right (T : List S41) (hT : CmS T) : ∀ (K k : Nat), k ≤ K → ∀ (q : Nat), spec_SchemaOK.l0 k (q : Int) T = some true → q ≤ T.length → ∀ p, q ≤ p → p < T.length → RightT T (T.getD p z41) := by
  obtain ⟨hl, hx⟩ := hT
  intro K
  induction K with
  | zero => intro k hk q h; obtain rfl : k = 0 := by omega
            simp [spec_SchemaOK.l0] at h
  | succ K ih =>
    intro k hk q h hq
    cases k with
    | zero => simp [spec_SchemaOK.l0] at h
    | succ k =>
      rw [spec_SchemaOK.l0] at h
      by_cases hlt : (q : Int) < (T.length : Int)
      · have hrd : rd_T41 T (q : Int) = T.getD q z41 := rfl
        have hm := hx _ (getD_mem T z41 q qa25)
        have go : ∀ b, spec_SchemaOK.j2 k (q : Int) b T (T.getD q z41).f0 (T.getD q z41).f1 = some true → b = false ∧ (∀ f ∈ (T.getD q z41).f1, RightF T f) ∧ ∀ p, q + 1 ≤ p → p < T.length → RightT T (T.getD p z41) := by
          intro b hb
          cases k with
          | zero => simp [spec_SchemaOK.j2] at hb
          | succ k =>
            simp only [spec_SchemaOK.j2] at hb
            cases b with
            | true => simp at hb
            | false =>
              rw [if_neg qa76] at hb
              obtain ⟨h1, k1, hk1, h2⟩ := fields_right (q : Int) T hl _ _ hm.2.1 hm.2.2 k k (Nat.le_refl _) 0 hb qa25
              rw [wsucc (show q < T.length by omega) qa25] at h2
              refine ⟨rfl, fun f hf => ?_, ih k1 qa25 (q + 1) h2 qa25⟩
              obtain ⟨p, hp, rfl⟩ := List.getElem_of_mem hf
              have := h1 p qa25 hp
              rw [List.getD_eq_getElem?_getD, List.getElem?_eq_getElem hp] at this
              exact this
        rw [if_pos hlt, if_pos qa25, hrd] at h
        obtain ⟨n, hn, h⟩ := Option.bind_eq_some_iff.mp h
        cases n with
        | false => rw [if_neg qa76] at h; exact absurd (go _ h).1 qa76
        | true =>
          rw [if_pos rfl] at h
          split at h
          · exact absurd (go _ h).1 qa76
          · obtain ⟨u, hu, h⟩ := Option.bind_eq_some_iff.mp h
            split at h
            · rw [spec_in, Option.bind_some] at h
              obtain ⟨g1, g2, g3⟩ := go _ h
              intro p hp hp'
              rcases Nat.lt_or_eq_of_le hp with h3 | rfl
              · exact g3 p h3 hp'
              · have := of_decide_eq_true (Bool.not_eq_false' .. ▸ g1 : decide _ = true)
                exact ⟨name_of k _ hm.1 hn, qa25, g2⟩
            · exact absurd (go _ h).1 qa76
      · intro p hp hp'; omega
theorem schema_right (k : Nat) (T : List S41) (hT : CmS T) (h : spec_SchemaOK.f k T = some true) : 1 ≤ T.length ∧ T.length ≤ 8 ∧ ∀ t ∈ T, RightT T t := by
  unfold spec_SchemaOK.f at h
  rw [spec_in, Option.bind_some] at h
  have go : ∀ b, spec_SchemaOK.j0 k b T = some true → b = false ∧ ∀ t ∈ T, RightT T t := by
    intro b hb
    cases k with
    | zero => simp [spec_SchemaOK.j0] at hb
    | succ k =>
      simp only [spec_SchemaOK.j0] at hb
      cases b with
      | true => simp at hb
      | false =>
        rw [if_neg qa76] at hb
        refine ⟨rfl, fun t ht => ?_⟩
        obtain ⟨p, hp, rfl⟩ := List.getElem_of_mem ht
        have := types_right T hT k k (Nat.le_refl _) 0 hb qa25 p qa25 hp
        rw [List.getD_eq_getElem?_getD, List.getElem?_eq_getElem hp] at this
        exact this
  split at h
  · rename_i hd
    have hd := of_decide_eq_true hd
    obtain ⟨t, ht, h⟩ := Option.bind_eq_some_iff.mp h
    exact ⟨qa25, qa25, (go _ h).2⟩
  · exact absurd (go _ h).1 qa76
/-! the tokens of a schema tell it -/
theorem toList_loop_spec (b : ByteArray) : ∀ (d i : Nat) (r : List UInt8), b.size - i = d → ByteArray.toList.loop b i r = r.reverse ++ b.data.toList.drop i := by
  have hsz : b.data.toList.length = b.size := Array.length_toList ..
  intro d
  induction d with
  | zero =>
    intro i r h
    unfold ByteArray.toList.loop
    rw [if_neg qa25, List.drop_eq_nil_of_le qa25, List.append_nil]
  | succ d ih =>
    intro i r h
    have hi : i < b.data.toList.length := by omega
    unfold ByteArray.toList.loop
    rw [if_pos qa25, ih (i + 1) _ qa25, List.reverse_cons, List.append_assoc, List.singleton_append, List.drop_eq_getElem_cons hi]
    have hg : b.get! i = b.data.toList[i] := by
      show b.data[i]! = _
      rw [getElem!_pos b.data i (by rw [← Array.length_toList]; exact hi), Array.getElem_toList]
    rw [hg]
theorem toList_data (b : ByteArray) : b.toList = b.data.toList := by
  unfold ByteArray.toList
  rw [toList_loop_spec b _ 0 [] rfl]
  rfl
def Wd (t : List UInt8) : Prop := t ≠ [40] ∧ t ≠ [41] ∧ t ≠ [58] ∧ t ≠ [91] ∧ t ≠ [33] ∧ t ≠ [125]
def tokA (a : S60) : List (List UInt8) := a.f0.toList :: [58] :: [73, 110, 116] :: (if a.f1 = true then [[33]] else [])
def tokAs : List S60 → List (List UInt8)
  | [] => []
  | a :: l => tokA a ++ tokAs l
def tokArgs (l : List S60) : List (List UInt8) := match l with | [] => [] | a :: l => [40] :: (tokAs (a :: l) ++ [[41]])
def tokTy (t : List UInt8) (l b : Bool) : List (List UInt8) := (if l = true then [[91], t, [93]] else [t]) ++ (if b = true then [[33]] else [])
def tokF (f : S47) : List (List UInt8) := f.f0.toList :: (tokArgs f.f1 ++ [58] :: tokTy f.f2.toList f.f3 f.f4)
def tokFs : List S47 → List (List UInt8)
  | [] => []
  | f :: l => tokF f ++ tokFs l
def tokT (t : S41) : List (List UInt8) := [116, 121, 112, 101] :: t.f0.toList :: [123] :: (tokFs t.f1 ++ [[125]])
def tokS : List S41 → List (List UInt8)
  | [] => []
  | t :: l => tokT t ++ tokS l
theorem bytes_ext {a b : ByteArray} (h : a.toList = b.toList) : a = b := by
  have h1 : a.data.toList = b.data.toList := by rw [← toList_data, ← toList_data, h]
  cases a; cases b
  exact congrArg ByteArray.mk (Array.toList_inj.1 h1)
def NoB (r : List (List UInt8)) : Prop := r.head? ≠ some [33]
theorem tokA_inj (a b : S60) (r s : List (List UInt8)) (hr : NoB r) (hs : NoB s) (h : tokA a ++ r = tokA b ++ s) : a = b ∧ r = s := by
  obtain ⟨a0, a1⟩ := a
  obtain ⟨b0, b1⟩ := b
  simp only [tokA, List.cons_append, List.cons.injEq, true_and] at h
  obtain ⟨h0, h⟩ := h
  have e0 := bytes_ext h0
  subst e0
  cases a1 <;> cases b1 <;> simp at h
  · exact ⟨rfl, h⟩
  · exact absurd (by rw [h]; rfl) hr
  · exact absurd (by rw [← h]; rfl) hs
  · exact ⟨rfl, h⟩
theorem tokAs_inj : ∀ (l m : List S60) (r s : List (List UInt8)), (∀ a ∈ l, Wd a.f0.toList) → (∀ a ∈ m, Wd a.f0.toList) → tokAs l ++ [41] :: r = tokAs m ++ [41] :: s → l = m ∧ r = s := by
  intro l
  induction l with
  | nil =>
    intro m r s _ hm h
    cases m with
    | nil => simp only [tokAs, List.nil_append, List.cons.injEq, true_and] at h; exact ⟨rfl, h⟩
    | cons b m => simp only [tokAs, tokA, List.nil_append, List.cons_append, List.cons.injEq] at h; exact absurd h.1.symm (hm b (List.mem_cons_self ..)).2.1
  | cons a l ih =>
    intro m r s hl hm h
    cases m with
    | nil => simp only [tokAs, tokA, List.nil_append, List.cons_append, List.cons.injEq] at h; exact absurd h.1 (hl a (List.mem_cons_self ..)).2.1
    | cons b m =>
      simp only [tokAs, List.append_assoc] at h
      have nb : ∀ (q : List S60) (t : List (List UInt8)), (∀ a ∈ q, Wd a.f0.toList) → NoB (tokAs q ++ [41] :: t) := by
        intro q t hq
        cases q with
        | nil => simp [NoB, tokAs]
        | cons c q => simp only [NoB, tokAs, tokA, List.cons_append, List.head?_cons]; exact fun e => (hq c (List.mem_cons_self ..)).2.2.2.2.1 (Option.some.inj e)
      obtain ⟨rfl, h2⟩ := tokA_inj a b _ _ (nb l r fun x hx => hl x (List.mem_cons_of_mem _ hx)) (nb m s fun x hx => hm x (List.mem_cons_of_mem _ hx)) h
      obtain ⟨rfl, rfl⟩ := ih m r s (fun x hx => hl x (List.mem_cons_of_mem _ hx)) (fun x hx => hm x (List.mem_cons_of_mem _ hx)) h2
      exact ⟨rfl, rfl⟩
theorem tokArgs_inj (l m : List S60) (r s : List (List UInt8)) (hl : ∀ a ∈ l, Wd a.f0.toList) (hm : ∀ a ∈ m, Wd a.f0.toList) (h : tokArgs l ++ [58] :: r = tokArgs m ++ [58] :: s) : l = m ∧ r = s := by
  cases l with
  | nil =>
    cases m with
    | nil => simp only [tokArgs, List.nil_append, List.cons.injEq, true_and] at h; exact ⟨rfl, h⟩
    | cons b m => simp [tokArgs] at h
  | cons a l =>
    cases m with
    | nil => simp [tokArgs] at h
    | cons b m =>
      simp only [tokArgs, List.cons_append, List.append_assoc, List.nil_append, List.cons.injEq, true_and] at h
      obtain ⟨h1, h2⟩ := tokAs_inj (a :: l) (b :: m) _ _ hl hm h
      simp only [List.cons.injEq, true_and] at h2
      exact ⟨h1, h2⟩
theorem tokTy_inj (t u : List UInt8) (l b l' b' : Bool) (r s : List (List UInt8)) (ht : Wd t) (hu : Wd u) (hr : NoB r) (hs : NoB s) (h : tokTy t l b ++ r = tokTy u l' b' ++ s) : t = u ∧ l = l' ∧ b = b' ∧ r = s := by
  have n1 : t ≠ [91] := ht.2.2.2.1
  have n2 : u ≠ [91] := hu.2.2.2.1
  have hb : ∀ (b b' : Bool) (r s : List (List UInt8)), NoB r → NoB s → (if b = true then [[33]] else []) ++ r = (if b' = true then [[33]] else []) ++ s → b = b' ∧ r = s := by
    intro b b' r s hr hs h
    cases b <;> cases b' <;> simp at h
    · exact ⟨rfl, h⟩
    · exact absurd (by rw [h]; rfl) hr
    · exact absurd (by rw [← h]; rfl) hs
    · exact ⟨rfl, h⟩
  cases l <;> cases l'
  · simp only [tokTy, Bool.false_eq_true, if_false, List.cons_append, List.nil_append, List.cons.injEq] at h
    obtain ⟨h1, h2⟩ := hb _ _ _ _ hr hs h.2
    exact ⟨h.1, rfl, h1, h2⟩
  · simp only [tokTy, Bool.false_eq_true, if_false, if_true, List.cons_append, List.nil_append, List.cons.injEq] at h
    exact absurd h.1 n1
  · simp only [tokTy, Bool.false_eq_true, if_false, if_true, List.cons_append, List.nil_append, List.cons.injEq] at h
    exact absurd h.1.symm n2
  · simp only [tokTy, if_true, List.cons_append, List.nil_append, List.cons.injEq, true_and] at h
    obtain ⟨h1, h2⟩ := hb _ _ _ _ hr hs h.2
    exact ⟨h.1, rfl, h1, h2⟩
def WdF (f : S47) : Prop := Wd f.f0.toList ∧ Wd f.f2.toList ∧ ∀ a ∈ f.f1, Wd a.f0.toList
theorem tokF_inj (f g : S47) (r s : List (List UInt8)) (hf : WdF f) (hg : WdF g) (hr : NoB r) (hs : NoB s) (h : tokF f ++ r = tokF g ++ s) : f = g ∧ r = s := by
  obtain ⟨a0, a1, a2, a3, a4⟩ := f
  obtain ⟨b0, b1, b2, b3, b4⟩ := g
  simp only [tokF, List.cons_append, List.append_assoc, List.cons.injEq] at h
  obtain ⟨h0, h⟩ := h
  obtain ⟨rfl, h2⟩ := tokArgs_inj a1 b1 _ _ hf.2.2 hg.2.2 h
  obtain ⟨h3, rfl, rfl, h4⟩ := tokTy_inj _ _ _ _ _ _ _ _ hf.2.1 hg.2.1 hr hs h2
  have e0 := bytes_ext h0
  have e3 := bytes_ext (show a2.toList = b2.toList from h3)
  subst e0 e3
  exact ⟨rfl, h4⟩
theorem tokFs_inj : ∀ (l m : List S47) (r s : List (List UInt8)), (∀ f ∈ l, WdF f) → (∀ f ∈ m, WdF f) → tokFs l ++ [125] :: r = tokFs m ++ [125] :: s → l = m ∧ r = s := by
  intro l
  induction l with
  | nil =>
    intro m r s _ hm h
    cases m with
    | nil => simp only [tokFs, List.nil_append, List.cons.injEq, true_and] at h; exact ⟨rfl, h⟩
    | cons b m => simp only [tokFs, tokF, List.nil_append, List.cons_append, List.cons.injEq] at h; exact absurd h.1.symm (hm b (List.mem_cons_self ..)).1.2.2.2.2.2
  | cons a l ih =>
    intro m r s hl hm h
    cases m with
    | nil => simp only [tokFs, tokF, List.nil_append, List.cons_append, List.cons.injEq] at h; exact absurd h.1 (hl a (List.mem_cons_self ..)).1.2.2.2.2.2
    | cons b m =>
      simp only [tokFs, List.append_assoc] at h
      have nb : ∀ (q : List S47) (t : List (List UInt8)), (∀ a ∈ q, WdF a) → NoB (tokFs q ++ [125] :: t) := by
        intro q t hq
        cases q with
        | nil => simp [NoB, tokFs]
        | cons c q => simp only [NoB, tokFs, tokF, List.cons_append, List.head?_cons]; exact fun e => (hq c (List.mem_cons_self ..)).1.2.2.2.2.1 (Option.some.inj e)
      obtain ⟨rfl, h2⟩ := tokF_inj a b _ _ (hl a (List.mem_cons_self ..)) (hm b (List.mem_cons_self ..)) (nb l r fun x hx => hl x (List.mem_cons_of_mem _ hx)) (nb m s fun x hx => hm x (List.mem_cons_of_mem _ hx)) h
      obtain ⟨rfl, rfl⟩ := ih m r s (fun x hx => hl x (List.mem_cons_of_mem _ hx)) (fun x hx => hm x (List.mem_cons_of_mem _ hx)) h2
      exact ⟨rfl, rfl⟩
theorem tokS_inj : ∀ (l m : List S41), (∀ t ∈ l, ∀ f ∈ t.f1, WdF f) → (∀ t ∈ m, ∀ f ∈ t.f1, WdF f) → tokS l = tokS m → l = m := by
  intro l
  induction l with
  | nil => intro m _ _ h; cases m with
           | nil => rfl
           | cons b m => simp [tokS, tokT] at h
  | cons a l ih =>
    intro m hl hm h
    cases m with
    | nil => simp [tokS, tokT] at h
    | cons b m =>
      obtain ⟨a0, a1⟩ := a
      obtain ⟨b0, b1⟩ := b
      simp only [tokS, tokT, List.cons_append, List.append_assoc, List.nil_append, List.cons.injEq, true_and] at h
      obtain ⟨h0, h⟩ := h
      obtain ⟨h1, h2⟩ := tokFs_inj a1 b1 _ _ (hl _ (List.mem_cons_self ..)) (hm _ (List.mem_cons_self ..)) h
      rw [ih m (fun x hx => hl x (List.mem_cons_of_mem _ hx)) (fun x hx => hm x (List.mem_cons_of_mem _ hx)) h2, bytes_ext h0, h1]
/-- Words with a blank between each two, and nothing ahead of the first: they tell the words. -/
def blanks : List (List UInt8) → List UInt8
  | [] => []
  | t :: l => 32 :: (t ++ blanks l)
theorem blanks_inj : ∀ (l m : List (List UInt8)), (∀ t ∈ l, (32 : UInt8) ∉ t) → (∀ t ∈ m, (32 : UInt8) ∉ t) → blanks l = blanks m → l = m := by
  have cut : ∀ (t u : List UInt8) (l m : List (List UInt8)), (32 : UInt8) ∉ t → (32 : UInt8) ∉ u → t ++ blanks l = u ++ blanks m → t = u ∧ blanks l = blanks m := by
    intro t
    induction t with
    | nil =>
      intro u l m _ hu h
      cases u with
      | nil => exact ⟨rfl, h⟩
      | cons c u =>
        cases l with
        | nil => simp [blanks] at h
        | cons t l => simp only [blanks, List.nil_append, List.cons_append, List.cons.injEq] at h; exact absurd (by rw [h.1]; exact List.mem_cons_self ..) hu
    | cons b t ih =>
      intro u l m ht hu h
      cases u with
      | nil =>
        cases m with
        | nil => simp [blanks] at h
        | cons t m => simp only [blanks, List.nil_append, List.cons_append, List.cons.injEq] at h; exact absurd (by rw [← h.1]; exact List.mem_cons_self ..) ht
      | cons c u =>
        simp only [List.cons_append, List.cons.injEq] at h
        obtain ⟨h1, h2⟩ := ih u l m (fun e => ht (List.mem_cons_of_mem _ e)) (fun e => hu (List.mem_cons_of_mem _ e)) h.2
        exact ⟨by rw [h.1, h1], h2⟩
  intro l
  induction l with
  | nil => intro m _ _ h; cases m with
           | nil => rfl
           | cons b m => simp [blanks] at h
  | cons a l ih =>
    intro m hl hm h
    cases m with
    | nil => simp [blanks] at h
    | cons b m =>
      simp only [blanks, List.cons.injEq, true_and] at h
      obtain ⟨h1, h2⟩ := cut a b l m (hl _ (List.mem_cons_self ..)) (hm _ (List.mem_cons_self ..)) h
      rw [h1, ih m (fun x hx => hl x (List.mem_cons_of_mem _ hx)) (fun x hx => hm x (List.mem_cons_of_mem _ hx)) h2]
/-! a name has no blank, and is no mark -/
theorem name_bytes (s : ByteArray) (h : IsName s) (c : UInt8) (hc : c ∈ s.toList) : isL (c.toNat : Int) = true ∨ isD (c.toNat : Int) = true := by
  rw [toList_data] at hc
  obtain ⟨i, hi, rfl⟩ := List.getElem_of_mem hc
  have hsz : s.data.toList.length = s.size := Array.length_toList ..
  have hb : bt s (i : Int) = ((s.data.toList[i]).toNat : Int) := by
    unfold bt
    rw [dif_pos (by rw [Int.toNat_natCast]; omega)]
    simp only [Int.toNat_natCast]
    rfl
  rw [← hb]
  cases i with
  | zero => exact .inl h.2.2.1
  | succ i => exact h.2.2.2 _ qa25 qa25
theorem name_wd (s : ByteArray) (h : IsName s) : Wd s.toList ∧ (32 : UInt8) ∉ s.toList := by
  have no : ∀ c : UInt8, isL (c.toNat : Int) = false → isD (c.toNat : Int) = false → c ∉ s.toList := by
    intro c h1 h2 hc
    rcases name_bytes s h c hc with h3 | h3
    · rw [h1] at h3; cases h3
    · rw [h2] at h3; cases h3
  have ne : ∀ c : UInt8, isL (c.toNat : Int) = false → isD (c.toNat : Int) = false → s.toList ≠ [c] := fun c h1 h2 e => no c h1 h2 (by rw [e]; exact List.mem_cons_self ..)
  exact ⟨⟨ne 40 qa60 qa60, ne 41 qa60 qa60, ne 58 qa60 qa60, ne 91 qa60 qa60, ne 33 qa60 qa60, ne 125 qa60 qa60⟩, no 32 qa60 qa60⟩
theorem name_size (s : ByteArray) (h : IsName s) : s.size ≤ 40 := h.2.1
theorem int_wd : Wd [73, 110, 116] ∧ (32 : UInt8) ∉ ([73, 110, 116] : List UInt8) := by unfold Wd; decide
theorem right_wd (T : List S41) (hT : ∀ t ∈ T, RightT T t) : ∀ t ∈ T, ∀ f ∈ t.f1, WdF f ∧ (32 : UInt8) ∉ f.f2.toList := by
  intro t ht f hf
  have hr := (hT t ht).2.2 f hf
  have h2 : Wd f.f2.toList ∧ (32 : UInt8) ∉ f.f2.toList := by
    rcases hr.2.1 with e | ⟨x, hx, e⟩
    · rw [e]; exact int_wd
    · rw [← e]; exact name_wd _ (hT x hx).1
  exact ⟨⟨(name_wd _ hr.1).1, h2.1, fun a ha => (name_wd _ (hr.2.2.2 a ha)).1⟩, h2.2⟩
end Go.Proofs.YtoogmlghfljeiaaDoor.Pure2
namespace Go.Proofs.YtoogmlghfljeiaaDoor.Pure2
open Go.RowKit Go.Proofs.YtoogmlghfljeiaaDoor.Q Go.Proofs.YtoogmlghfljeiaaDoorW.PrintWords Go.Proofs.YtoogmlghfljeiaaDoorW.PrintLast
set_option linter.unusedVariables false
set_option linter.unusedSimpArgs false
/-! the print of a schema, word by word -/
theorem app_toList (a b : ByteArray) : (a ++ b).toList = a.toList ++ b.toList := by rw [toList_data, toList_data, toList_data]; simp
theorem lit_toList (l : List UInt8) : (⟨l.toArray⟩ : ByteArray).toList = l := by rw [toList_data]
theorem blanks_app (l m : List (List UInt8)) : blanks (l ++ m) = blanks l ++ blanks m := by
  induction l with
  | nil => rfl
  | cons t l ih => simp only [List.cons_append, blanks, ih, List.append_assoc]
theorem join_words (k0 : Nat) (x0 : List ByteArray) (hn : x0.length ≤ 1048576) (hs : ∀ w ∈ x0, w.size ≤ 1048576) (W : ByteArray → List (List UInt8)) (hw : ∀ w ∈ x0, 32 :: w.toList = blanks (W w)) :
    ∀ d q (x5 : ByteArray) (tk : List (List UInt8)), q ≤ x0.length → x0.length - q = d → x5.size ≤ 1048577 * q → (q = 0 → x5 = ⟨#[]⟩ ∧ tk = []) → (0 < q → 32 :: x5.toList = blanks tk) →
    ∃ s, Ev (fun k => spec_l00Join.l0 k x0 (⟨#[32]⟩ : ByteArray) x5 (q : Int)) s ∧ (0 < x0.length → 32 :: s.toList = blanks (tk ++ (x0.drop q).flatMap W)) := by
  intro d
  induction d with
  | zero =>
    intro q x5 tk hq hd hz h0 h1
    obtain rfl : q = x0.length := by omega
    refine ⟨x5, ev_now ⟨0, fun k _ => by simp only [spec_l00Join.l0]; rw [if_neg qa25]⟩, fun h => ?_⟩
    rw [List.drop_eq_nil_of_le (Nat.le_refl _), List.flatMap_nil, List.append_nil]
    exact h1 h
  | succ d ih =>
    intro q x5 tk hq hd hz h0 h1
    have hql : q < x0.length := by omega
    have hg : x0.getD q ByteArray.empty = x0[q] := by rw [List.getD_eq_getElem?_getD, List.getElem?_eq_getElem hql]; rfl
    have hrd : rdOf ByteArray.empty x0 (q : Int) = x0[q] := by rw [← hg]; rfl
    have hm := List.getElem_mem hql
    have hsz := hs _ hm
    have hwd := hw _ hm
    have hd2 : x0.drop q = x0[q] :: x0.drop (q + 1) := List.drop_eq_getElem_cons hql
    by_cases hp : 0 < q
    · obtain ⟨s, e, hS⟩ := ih (q + 1) ((x5 ++ (⟨#[32]⟩ : ByteArray)) ++ x0[q]) (tk ++ W x0[q]) qa25 qa25 (by rw [ByteArray.size_append, ByteArray.size_append]; show x5.size + 1 + _ ≤ _; omega) (fun h => by omega) (fun _ => by
        have e1 : (⟨#[32]⟩ : ByteArray).toList = [32] := lit_toList [32]
        rw [blanks_app, ← h1 hp, ← hwd, app_toList, app_toList, e1]; simp)
      refine ⟨s, ev_step ⟨0, fun k _ => ?_⟩ e, fun h => ?_⟩
      · have s1 : (⟨#[32]⟩ : ByteArray).size = 1 := rfl
        simp only [spec_l00Join.l0]
        rw [if_pos qa25, if_pos qa25, if_pos (by rw [s1]; omega), if_pos qa25, hrd, if_pos (by rw [ByteArray.size_append, s1]; omega), wsucc hql qa25]
      · rw [hS h, hd2, List.flatMap_cons, List.append_assoc]
    · have hq0 : q = 0 := by omega
      obtain ⟨hx5, htk⟩ := h0 hq0
      subst hx5 htk
      obtain ⟨s, e, hS⟩ := ih (q + 1) ((⟨#[]⟩ : ByteArray) ++ x0[q]) (W x0[q]) qa25 qa25 (by rw [ByteArray.size_append]; show 0 + _ ≤ _; omega) (fun h => by omega) (fun _ => by
        have e1 : (⟨#[]⟩ : ByteArray).toList = [] := lit_toList []
        rw [app_toList, e1, List.nil_append]; exact hwd)
      refine ⟨s, ev_step ⟨0, fun k _ => ?_⟩ e, fun h => ?_⟩
      · have s1 : (⟨#[]⟩ : ByteArray).size = 0 := rfl
        simp only [spec_l00Join.l0]
        rw [if_pos qa25, if_neg qa25, if_pos qa25, hrd, if_pos (by rw [s1]; omega), wsucc hql qa25]
      · rw [hS h, hd2, List.flatMap_cons, List.nil_append]
theorem print_type (a0 : ByteArray) (l1 : List S60) (t : ByteArray) (l b : Bool) (ht : t.size ≤ 1048576) : ∃ ty, spec_l03Type.f a0 l1 t l b = some ty ∧ 32 :: ty.toList = blanks (tokTy t.toList l b) ∧ ty.size ≤ t.size + 6 := by
  have e1 : (⟨#[91, 32]⟩ : ByteArray).toList = [91, 32] := lit_toList [91, 32]
  have e2 : (⟨#[32, 93]⟩ : ByteArray).toList = [32, 93] := lit_toList [32, 93]
  have e3 : (⟨#[32, 33]⟩ : ByteArray).toList = [32, 33] := lit_toList [32, 33]
  have s1 : (⟨#[91, 32]⟩ : ByteArray).size = 2 := rfl
  have s2 : (⟨#[32, 93]⟩ : ByteArray).size = 2 := rfl
  have s3 : (⟨#[32, 33]⟩ : ByteArray).size = 2 := rfl
  unfold spec_l03Type.f
  cases l <;> cases b
  · exact ⟨t, qa76, by simp [tokTy, blanks], qa25⟩
  · refine ⟨t ++ ⟨#[32, 33]⟩, by rw [if_neg (by simp), if_pos rfl, if_pos (by omega)], by rw [app_toList, e3]; simp [tokTy, blanks], by rw [ByteArray.size_append, s3]; omega⟩
  · refine ⟨((⟨#[91, 32]⟩ : ByteArray) ++ t) ++ ⟨#[32, 93]⟩, by rw [if_pos rfl, if_pos (by omega), if_pos (by rw [ByteArray.size_append, s1]; omega), if_neg (by simp)], by rw [app_toList, app_toList, e1, e2]; simp [tokTy, blanks], by rw [ByteArray.size_append, ByteArray.size_append, s1, s2]; omega⟩
  · refine ⟨(((⟨#[91, 32]⟩ : ByteArray) ++ t) ++ ⟨#[32, 93]⟩) ++ ⟨#[32, 33]⟩, by rw [if_pos rfl, if_pos (by omega), if_pos (by rw [ByteArray.size_append, s1]; omega), if_pos rfl, if_pos (by rw [ByteArray.size_append, ByteArray.size_append, s1, s2]; omega)], by rw [app_toList, app_toList, app_toList, e1, e2, e3]; simp [tokTy, blanks], by rw [ByteArray.size_append, ByteArray.size_append, ByteArray.size_append, s1, s2, s3]; omega⟩
def argsFrom (l : List S60) (q : Nat) : List (List UInt8) := (if q = 0 ∧ 0 < l.length then [[40]] else []) ++ tokAs (l.drop q) ++ (if 0 < l.length then [[41]] else [])
theorem argsFrom_zero (l : List S60) : argsFrom l 0 = tokArgs l := by
  cases l with
  | nil => rfl
  | cons a l => simp [argsFrom, tokArgs]
theorem print_args (T : List S41) (x3 : List ByteArray) (x4 : Int) (x6 : Nat) (hx6 : x6 ≤ 1048576) (a0 : ByteArray) (l : List S60) (t : ByteArray) (li ba : Bool) (hl : l.length ≤ 4) (hn : ∀ a ∈ l, IsName a.f0) (ht : t.size ≤ 1048576) :
    ∀ d q (x5 : ByteArray) (tk : List (List UInt8)), q ≤ l.length → l.length - q = d → 32 :: x5.toList = blanks tk → x5.size + 51 * d ≤ 1099511627776 →
    ∃ x', x'.size ≤ x5.size + 51 * d + t.size + 11 ∧ 32 :: x'.toList = blanks (tk ++ argsFrom l q ++ [58] :: tokTy t.toList li ba) ∧
      ∀ R, Ev (fun k => spec_l03Print.l1 k x3 x4 x' ((x6 + 1 : Nat) : Int) T) R → Ev (fun k => spec_l03Print.l2 k x3 x4 x5 (x6 : Int) (q : Int) T a0 l t li ba) R := by
  have e1 : (⟨#[32, 41]⟩ : ByteArray).toList = [32, 41] := lit_toList [32, 41]
  have e2 : (⟨#[32, 58, 32]⟩ : ByteArray).toList = [32, 58, 32] := lit_toList [32, 58, 32]
  have e3 : (⟨#[32, 33]⟩ : ByteArray).toList = [32, 33] := lit_toList [32, 33]
  have e4 : (⟨#[32, 58, 32, 73, 110, 116]⟩ : ByteArray).toList = [32, 58, 32, 73, 110, 116] := lit_toList [32, 58, 32, 73, 110, 116]
  have e5 : (⟨#[32, 40, 32]⟩ : ByteArray).toList = [32, 40, 32] := lit_toList [32, 40, 32]
  have e6 : (⟨#[32]⟩ : ByteArray).toList = [32] := lit_toList [32]
  have s1 : (⟨#[32, 41]⟩ : ByteArray).size = 2 := rfl
  have s2 : (⟨#[32, 58, 32]⟩ : ByteArray).size = 3 := rfl
  have s3 : (⟨#[32, 33]⟩ : ByteArray).size = 2 := rfl
  have s4 : (⟨#[32, 58, 32, 73, 110, 116]⟩ : ByteArray).size = 6 := rfl
  have s5 : (⟨#[32, 40, 32]⟩ : ByteArray).size = 3 := rfl
  have s6 : (⟨#[32]⟩ : ByteArray).size = 1 := rfl
  have hw6 : wrap64 ((x6 : Int) + 1) = ((x6 + 1 : Nat) : Int) := by unfold wrap64; omega
  obtain ⟨ty, y1, y2, y3⟩ := print_type a0 l t li ba ht
  intro d
  induction d with
  | zero =>
    intro q x5 tk hq hd hb hz
    obtain rfl : q = l.length := by omega
    by_cases h0 : 0 < l.length
    · refine ⟨(x5 ++ ⟨#[32, 41]⟩) ++ (⟨#[32, 58, 32]⟩ ++ ty), by simp only [ByteArray.size_append, s1, s2]; omega, ?_, fun R hR => ev_step ⟨0, fun k _ => ?_⟩ hR⟩
      · rw [app_toList, app_toList, app_toList, e1, e2]
        simp only [argsFrom, if_neg (show ¬ (l.length = 0 ∧ 0 < l.length) by omega), if_pos h0, List.drop_eq_nil_of_le (Nat.le_refl _), tokAs, List.nil_append, blanks_app, blanks, List.append_assoc, List.cons_append]
        rw [← hb, ← y2]
        simp
      · simp only [spec_l03Print.l2]
        rw [if_neg qa25, if_pos qa25, if_pos qa25, y1, Option.bind_some, if_pos qa25, if_pos (by simp only [ByteArray.size_append, s1, s2]; omega), hw6]
    · refine ⟨x5 ++ (⟨#[32, 58, 32]⟩ ++ ty), qa135, ?_, fun R hR => ev_step ⟨0, fun k _ => ?_⟩ hR⟩
      · rw [app_toList, app_toList, e2]
        simp only [argsFrom, if_neg (show ¬ (l.length = 0 ∧ 0 < l.length) by omega), if_neg h0, List.drop_eq_nil_of_le (Nat.le_refl _), tokAs, List.nil_append, List.append_nil, blanks_app, blanks, List.append_assoc, List.cons_append]
        rw [← hb, ← y2]
        simp
      · simp only [spec_l03Print.l2]
        rw [if_neg qa25, if_neg qa25, y1, Option.bind_some, if_pos qa25, if_pos qa135, hw6]
  | succ d ih =>
    intro q x5 tk hq hd hb hz
    have hql : q < l.length := by omega
    have hg : l.getD q z60 = l[q] := by rw [List.getD_eq_getElem?_getD, List.getElem?_eq_getElem hql]; rfl
    have hrd : rd_T60 l (q : Int) = l[q] := by rw [← hg]; rfl
    have hm := List.getElem_mem hql
    have hsz := (hn _ hm).2.1
    have hd2 : l.drop q = l[q] :: l.drop (q + 1) := List.drop_eq_getElem_cons hql
    let hd : ByteArray := if 0 < q then ⟨#[32]⟩ else ⟨#[32, 40, 32]⟩
    have hds : hd.size ≤ 3 := by show (if 0 < q then _ else _ : ByteArray).size ≤ 3; split <;> decide
    have hsel : rdOf ByteArray.empty ([(⟨#[32, 40, 32]⟩ : ByteArray), (⟨#[32]⟩ : ByteArray)]) (if decide ((q : Int) > 0) = true then 1 else 0) = hd := by
      by_cases hp : 0 < q
      · rw [if_pos (decide_eq_true qa25)]; show _ = (if 0 < q then _ else _ : ByteArray); rw [if_pos hp]; rfl
      · rw [if_neg (by rw [decide_eq_false (by omega)]; simp)]; show _ = (if 0 < q then _ else _ : ByteArray); rw [if_neg hp]; rfl
    have hbit : spec_l01Bit.f (decide ((q : Int) > 0)) = some (if decide ((q : Int) > 0) = true then 1 else 0) := by unfold spec_l01Bit.f; split <;> rfl
    generalize hx2 : (if l[q].f1 = true then (x5 ++ ((hd ++ l[q].f0) ++ ⟨#[32, 58, 32, 73, 110, 116]⟩)) ++ ⟨#[32, 33]⟩ else x5 ++ ((hd ++ l[q].f0) ++ ⟨#[32, 58, 32, 73, 110, 116]⟩)) = x2
    have hx2s : x2.size ≤ x5.size + 51 := by
      rw [← hx2]; split <;> simp only [ByteArray.size_append, s3, s4] <;> omega
    have hx2b : 32 :: x2.toList = blanks (tk ++ (if q = 0 then [[40]] else []) ++ tokA l[q]) := by
      rw [blanks_app, blanks_app, ← hb, ← hx2]
      have hh : hd.toList ++ l[q].f0.toList = blanks (if q = 0 then [[40]] else []) ++ 32 :: l[q].f0.toList := by
        show (if 0 < q then _ else _ : ByteArray).toList ++ _ = _
        by_cases hp : 0 < q
        · rw [if_pos hp, if_neg qa25, e6]; simp [blanks]
        · rw [if_neg hp, if_pos qa25, e5]; simp [blanks]
      split
      · rename_i hf
        simp only [app_toList, e3, e4, tokA, if_pos hf, blanks, List.append_assoc, List.cons_append]
        rw [← List.append_assoc hd.toList, hh]; simp
      · rename_i hf
        simp only [app_toList, e4, tokA, if_neg hf, blanks, List.append_assoc, List.cons_append]
        rw [← List.append_assoc hd.toList, hh]; simp
    obtain ⟨x', g1, g2, g3⟩ := ih (q + 1) x2 _ qa25 qa25 hx2b qa25
    refine ⟨x', qa25, ?_, fun R hR => ev_step ⟨0, fun k _ => ?_⟩ (g3 R hR)⟩
    · rw [g2]
      congr 1
      simp only [argsFrom, hd2, tokAs, if_neg (show ¬ (q + 1 = 0 ∧ 0 < l.length) by omega), List.nil_append, List.append_assoc]
      by_cases hq0 : q = 0
      · rw [if_pos hq0, if_pos (show q = 0 ∧ 0 < l.length from ⟨hq0, qa25⟩)]
      · rw [if_neg hq0, if_neg (show ¬ (q = 0 ∧ 0 < l.length) from fun h => hq0 h.1)]
    · simp only [spec_l03Print.l2]
      rw [if_pos qa25, Option.bind_some, hbit, Option.bind_some, if_pos (by split <;> omega), if_pos (by show _ < (2 : Int); split <;> omega), if_pos qa25, hsel, hrd, if_pos qa25, if_pos (by simp only [ByteArray.size_append]; omega), if_pos (by simp only [ByteArray.size_append, s4]; omega), wsucc hql qa25, ← hx2]
      split
      · rw [if_pos (by simp only [ByteArray.size_append, s4]; omega)]
      · rfl
theorem print_fields (T : List S41) (hT8 : T.length ≤ 8) (x3 : List ByteArray) (hx3 : x3.length ≤ 1048576) (x4 : Nat) (hx4 : x4 < T.length) (hr : RightT T (T.getD x4 z41)) (h2 : ∀ f ∈ (T.getD x4 z41).f1, f.f2.size ≤ 40) :
    ∀ d q (x5 : ByteArray) (tk : List (List UInt8)), q ≤ (T.getD x4 z41).f1.length → (T.getD x4 z41).f1.length - q = d → 32 :: x5.toList = blanks tk → x5.size + 300 * d ≤ 109951162777 →
    ∃ x', x'.size ≤ x5.size + 300 * d + 2 ∧ 32 :: x'.toList = blanks (tk ++ tokFs ((T.getD x4 z41).f1.drop q) ++ [[125]]) ∧
      ∀ R, Ev (fun k => spec_l03Print.l0 k (x3 ++ [x']) ((x4 + 1 : Nat) : Int) T) R → Ev (fun k => spec_l03Print.l1 k x3 (x4 : Int) x5 (q : Int) T) R := by
  have e1 : (⟨#[32, 125]⟩ : ByteArray).toList = [32, 125] := lit_toList [32, 125]
  have e2 : (⟨#[32]⟩ : ByteArray).toList = [32] := lit_toList [32]
  have s1 : (⟨#[32, 125]⟩ : ByteArray).size = 2 := rfl
  have s2 : (⟨#[32]⟩ : ByteArray).size = 1 := rfl
  have hrT : rd_T41 T (x4 : Int) = T.getD x4 z41 := rfl
  generalize T.getD x4 z41 = tt at *
  intro d
  induction d with
  | zero =>
    intro q x5 tk hq hd hb hz
    obtain rfl : q = tt.f1.length := by omega
    refine ⟨x5 ++ ⟨#[32, 125]⟩, by rw [ByteArray.size_append, s1]; omega, ?_, fun R hR => ev_step ⟨0, fun k _ => ?_⟩ hR⟩
    · rw [List.drop_eq_nil_of_le (Nat.le_refl _), app_toList, e1, blanks_app, blanks_app, ← hb]
      simp [tokFs, blanks]
    · rw [spec_l03Print.l1, if_pos qa25, if_pos qa25, hrT, if_neg qa25, if_pos qa25, if_pos qa25, wsucc hx4 qa25]
  | succ d ih =>
    intro q x5 tk hq hd hb hz
    have hql : q < tt.f1.length := by omega
    have hg : tt.f1.getD q z47 = tt.f1[q] := by rw [List.getD_eq_getElem?_getD, List.getElem?_eq_getElem hql]; rfl
    have hrd : rd_T47 tt.f1 (q : Int) = tt.f1[q] := by rw [← hg]; rfl
    have hm := List.getElem_mem hql
    have hrf := hr.2.2 _ hm
    have hsz := hrf.1.2.1
    have hd2 : tt.f1.drop q = tt.f1[q] :: tt.f1.drop (q + 1) := List.drop_eq_getElem_cons hql
    have h10 := hr.2.1
    have hb2 : 32 :: (x5 ++ (⟨#[32]⟩ ++ tt.f1[q].f0)).toList = blanks (tk ++ [tt.f1[q].f0.toList]) := by
      rw [app_toList, app_toList, e2, blanks_app, ← hb]; simp [blanks]
    obtain ⟨xa, a1, a2, a3⟩ := print_args T x3 (x4 : Int) q qa25 tt.f1[q].f0 tt.f1[q].f1 tt.f1[q].f2 tt.f1[q].f3 tt.f1[q].f4 hrf.2.2.1 hrf.2.2.2 (by have := h2 _ hm; omega) _ 0 (x5 ++ (⟨#[32]⟩ ++ tt.f1[q].f0)) _ qa25 rfl hb2 (by have := hrf.2.2.1; simp only [ByteArray.size_append, s2]; omega)
    have hsa : xa.size ≤ x5.size + 300 := by have := hrf.2.2.1; have := h2 _ hm; simp only [ByteArray.size_append, s2] at a1; omega
    obtain ⟨x', g1, g2, g3⟩ := ih (q + 1) xa _ qa25 qa25 a2 qa25
    refine ⟨x', qa25, ?_, fun R hR => ev_step ⟨0, fun k _ => ?_⟩ (a3 R (g3 R hR))⟩
    · rw [g2, hd2, argsFrom_zero]
      simp only [tokFs, tokF, List.append_assoc, List.cons_append, List.nil_append]
    · rw [spec_l03Print.l1, if_pos qa25, if_pos qa25, hrT, if_pos qa25, if_pos qa25, hrd, if_pos qa25, if_pos qa135]
      rfl
theorem size_toList (s : ByteArray) : s.toList.length = s.size := by rw [toList_data]; exact Array.length_toList ..
theorem type_size (T : List S41) (hr : ∀ t ∈ T, RightT T t) : ∀ t ∈ T, ∀ f ∈ t.f1, f.f2.size ≤ 40 := by
  intro t ht f hf
  rcases ((hr t ht).2.2 f hf).2.1 with e | ⟨x, hx, e⟩
  · rw [← size_toList, e]; decide
  · rw [← size_toList, ← e, size_toList]; exact (hr x hx).1.2.1
theorem print_types (T : List S41) (hT1 : 1 ≤ T.length) (hT8 : T.length ≤ 8) (hr : ∀ t ∈ T, RightT T t) :
    ∀ d q (x3 : List ByteArray) (tk : List (List UInt8)), q ≤ T.length → T.length - q = d → x3.length = q → (∀ w ∈ x3, w.size ≤ 1048576) → blanks (x3.map ByteArray.toList) = blanks tk →
    ∃ s, Ev (fun k => spec_l03Print.l0 k x3 (q : Int) T) s ∧ 32 :: s.toList = blanks (tk ++ tokS (T.drop q)) := by
  have e1 : (⟨#[116, 121, 112, 101, 32]⟩ : ByteArray).toList = [116, 121, 112, 101, 32] := lit_toList [116, 121, 112, 101, 32]
  have e2 : (⟨#[32, 123]⟩ : ByteArray).toList = [32, 123] := lit_toList [32, 123]
  have s1 : (⟨#[116, 121, 112, 101, 32]⟩ : ByteArray).size = 5 := rfl
  have s2 : (⟨#[32, 123]⟩ : ByteArray).size = 2 := rfl
  intro d
  induction d with
  | zero =>
    intro q x3 tk hq hd hl hs hb
    obtain rfl : q = T.length := by omega
    obtain ⟨s, e, hS⟩ := join_words 0 x3 qa25 hs (fun w => [w.toList]) (fun w _ => by simp [blanks]) x3.length 0 ⟨#[]⟩ [] qa25 qa25 (by show 0 ≤ _; omega) (fun _ => ⟨rfl, rfl⟩) (fun h => by omega)
    obtain ⟨K, hK⟩ := ev_at e
    refine ⟨s, ev_now ⟨K, fun k hk => ?_⟩, ?_⟩
    · simp only [spec_l03Print.l0]
      rw [if_neg qa25, spec_l00Join.f, show spec_l00Join.l0 k x3 (⟨#[32]⟩ : ByteArray) ⟨#[]⟩ 0 = some s from hK k hk]
      rfl
    · rw [List.drop_eq_nil_of_le (Nat.le_refl _), tokS, List.append_nil, ← hb, hS qa25, List.nil_append, List.drop_zero]
      congr 1
      clear hK e hS hb hs hl
      induction x3 with
      | nil => rfl
      | cons a l ih => simp only [List.flatMap_cons, List.map_cons, ih, List.singleton_append]
  | succ d ih =>
    intro q x3 tk hq hd hl hs hb
    have hql : q < T.length := by omega
    have hg : T.getD q z41 = T[q] := by rw [List.getD_eq_getElem?_getD, List.getElem?_eq_getElem hql]; rfl
    have hrd : rd_T41 T (q : Int) = T[q] := by rw [← hg]; rfl
    have hm := List.getElem_mem hql
    have hrt := hr _ hm
    have hsz := hrt.1.2.1
    have h10 := hrt.2.1
    have hd2 : T.drop q = T[q] :: T.drop (q + 1) := List.drop_eq_getElem_cons hql
    have hb2 : 32 :: (((⟨#[116, 121, 112, 101, 32]⟩ : ByteArray) ++ T[q].f0) ++ ⟨#[32, 123]⟩).toList = blanks [[116, 121, 112, 101], T[q].f0.toList, [123]] := by
      rw [app_toList, app_toList, e1, e2]; simp [blanks]
    obtain ⟨x', a1, a2, a3⟩ := print_fields T hT8 x3 qa25 q hql (by rw [hg]; exact hrt) (by rw [hg]; exact type_size T hr _ hm) _ 0 (((⟨#[116, 121, 112, 101, 32]⟩ : ByteArray) ++ T[q].f0) ++ ⟨#[32, 123]⟩) _ qa25 rfl hb2 (by rw [hg]; simp only [ByteArray.size_append, s1, s2]; omega)
    rw [hg] at a1 a2
    simp only [ByteArray.size_append, s1, s2] at a1
    obtain ⟨s, e, hS⟩ := ih (q + 1) (x3 ++ [x']) (tk ++ tokT T[q]) qa25 qa25 (by rw [List.length_append, hl]; rfl) (fun w hw => by
      rcases List.mem_append.1 hw with h | h
      · exact hs w h
      · rw [List.mem_singleton.1 h]; omega) (by
      rw [List.map_append, blanks_app, blanks_app, hb]
      congr 1
      have : blanks ([x'].map ByteArray.toList) = 32 :: x'.toList := by simp [blanks]
      rw [this, a2]
      simp only [tokT, List.drop_zero, List.cons_append, List.nil_append, List.append_assoc])
    refine ⟨s, ev_step ⟨0, fun k _ => ?_⟩ (a3 s e), ?_⟩
    · conv => lhs; rw [spec_l03Print.l0]
      rw [if_pos qa25, if_pos qa25, hrd, if_pos qa25, if_pos (by simp only [ByteArray.size_append, s1]; omega)]
      rfl
    · rw [hS, hd2]; simp only [tokS, List.append_assoc]
theorem print_schema (T : List S41) (hT1 : 1 ≤ T.length) (hT8 : T.length ≤ 8) (hr : ∀ t ∈ T, RightT T t) : ∃ s, Ev (fun k => spec_l03Print.f k T) s ∧ 32 :: s.toList = blanks (tokS T) := by
  obtain ⟨s, e, h⟩ := print_types T hT1 hT8 hr T.length 0 [] [] qa25 qa25 rfl (fun w hw => by simp at hw) rfl
  exact ⟨s, e, h⟩
def NB (l : List (List UInt8)) : Prop := ∀ t ∈ l, (32 : UInt8) ∉ t
theorem nb_app {l m : List (List UInt8)} (h : NB l) (k : NB m) : NB (l ++ m) := fun t ht => (List.mem_append.1 ht).elim (h t) (k t)
theorem nb_cons {a : List UInt8} {m : List (List UInt8)} (h : (32 : UInt8) ∉ a) (k : NB m) : NB (a :: m) := fun t ht => (List.mem_cons.1 ht).elim (fun e => by rw [e]; exact h) (k t)
theorem nb_nil : NB [] := fun t ht => by simp at ht
theorem nb_tokAs (l : List S60) (h : ∀ a ∈ l, IsName a.f0) : NB (tokAs l) := by
  induction l with
  | nil => exact nb_nil
  | cons a l ih =>
    refine nb_app ?_ (ih fun x hx => h x (List.mem_cons_of_mem _ hx))
    unfold tokA
    refine nb_cons (name_wd _ (h a (List.mem_cons_self ..))).2 (nb_cons qa60 (nb_cons qa60 ?_))
    split
    · exact nb_cons qa60 nb_nil
    · exact nb_nil
theorem nb_tokF (f : S47) (h0 : IsName f.f0) (h2 : (32 : UInt8) ∉ f.f2.toList) (h1 : ∀ a ∈ f.f1, IsName a.f0) : NB (tokF f) := by
  unfold tokF
  refine nb_cons (name_wd _ h0).2 (nb_app ?_ (nb_cons qa60 ?_))
  · unfold tokArgs
    split
    · exact nb_nil
    · rename_i a l e
      rw [← e]
      exact nb_cons qa60 (nb_app (nb_tokAs _ h1) (nb_cons qa60 nb_nil))
  · unfold tokTy
    refine nb_app ?_ ?_
    · split
      · exact nb_cons qa60 (nb_cons h2 (nb_cons qa60 nb_nil))
      · exact nb_cons h2 nb_nil
    · split
      · exact nb_cons qa60 nb_nil
      · exact nb_nil
theorem nb_tokFs (l : List S47) (h : ∀ f ∈ l, IsName f.f0 ∧ (32 : UInt8) ∉ f.f2.toList ∧ ∀ a ∈ f.f1, IsName a.f0) : NB (tokFs l) := by
  induction l with
  | nil => exact nb_nil
  | cons f l ih =>
    have hf := h f (List.mem_cons_self ..)
    exact nb_app (nb_tokF f hf.1 hf.2.1 hf.2.2) (ih fun x hx => h x (List.mem_cons_of_mem _ hx))
theorem nb_tokS (l : List S41) (h : ∀ t ∈ l, IsName t.f0 ∧ ∀ f ∈ t.f1, IsName f.f0 ∧ (32 : UInt8) ∉ f.f2.toList ∧ ∀ a ∈ f.f1, IsName a.f0) : NB (tokS l) := by
  induction l with
  | nil => exact nb_nil
  | cons t l ih =>
    have ht := h t (List.mem_cons_self ..)
    refine nb_app ?_ (ih fun x hx => h x (List.mem_cons_of_mem _ hx))
    unfold tokT
    exact nb_cons qa60 (nb_cons (name_wd _ ht.1).2 (nb_cons qa60 (nb_app (nb_tokFs _ ht.2) (nb_cons qa60 nb_nil))))
theorem nb_right (T : List S41) (hr : ∀ t ∈ T, RightT T t) : NB (tokS T) :=
  nb_tokS T fun t ht => ⟨(hr t ht).1, fun f hf => ⟨((hr t ht).2.2 f hf).1, (right_wd T hr t ht f hf).2, ((hr t ht).2.2 f hf).2.2.2⟩⟩
/-- Two right schemas have one print if, and only if, they are one schema. -/
theorem same_print (T U : List S41) (s u : ByteArray) (hT : ∀ t ∈ T, RightT T t) (hU : ∀ t ∈ U, RightT U t) (hs : 32 :: s.toList = blanks (tokS T)) (hu : 32 :: u.toList = blanks (tokS U)) : s.toList = u.toList ↔ T = U := by
  constructor
  · intro h
    have h1 : blanks (tokS T) = blanks (tokS U) := by rw [← hs, ← hu, h]
    exact tokS_inj T U (fun t ht f hf => (right_wd T hT t ht f hf).1) (fun t ht f hf => (right_wd U hU t ht f hf).1) (blanks_inj _ _ (nb_right T hT) (nb_right U hU) h1)
  · intro h
    subst h
    have := hs.trans hu.symm
    exact (List.cons.inj this).2
end Go.Proofs.YtoogmlghfljeiaaDoor.Pure2
namespace Go.Proofs.YtoogmlghfljeiaaDoor.Pure2
open Go.RowKit Go.Proofs.YtoogmlghfljeiaaDoor.Q Go.Proofs.YtoogmlghfljeiaaDoorW.PrintWords Go.Proofs.YtoogmlghfljeiaaDoorW.PrintLast
set_option linter.unusedVariables false
set_option linter.unusedSimpArgs false
/-! texts joined -/
theorem join_snoc (l : List (List UInt8)) (x sep : List UInt8) (h : l ≠ []) : Lib.join (l ++ [x]) sep = Lib.join l sep ++ sep ++ x := by
  cases l with
  | nil => exact absurd rfl h
  | cons y r => rw [List.cons_append, Lib.join_cons, Lib.join_cons]; simp [Lib.joinTail, List.append_assoc]
theorem lens_le (l : List (List UInt8)) (B : Nat) (h : ∀ x ∈ l, x.length ≤ B) : Lib.lens l ≤ l.length * B := by
  induction l with
  | nil => simp [Lib.lens]
  | cons y r ih =>
    have h1 := h y qa76
    have h2 := ih fun x hx => h x (List.mem_cons_of_mem _ hx)
    simp only [Lib.lens, List.map_cons, List.sum_cons, List.length_cons, Nat.succ_mul] at h2 ⊢
    omega
theorem join_le (l : List (List UInt8)) (sep : List UInt8) (B : Nat) (h : ∀ x ∈ l, x.length ≤ B) : (Lib.join l sep).length ≤ l.length * B + l.length * sep.length := by
  cases l with
  | nil => simp [Lib.join_nil]
  | cons y r =>
    have h2 := lens_le (y :: r) B h
    rw [Lib.join_length]
    rw [Nat.mul_comm sep.length]
    simp only [List.length_cons, Nat.succ_mul] at h2 ⊢
    omega
theorem join_texts (ws : List ByteArray) (sep : ByteArray) (hn : ws.length ≤ 1048576) (hs : sep.size ≤ 16) (hw : ∀ w ∈ ws, w.size ≤ 2147483650) :
    Ev (fun k => spec_l00Join.f k ws sep) ⟨(Lib.join (ws.map (·.data.toList)) sep.data.toList).toArray⟩ := by
  have hb : ∀ j, j ≤ ws.length → (Lib.join ((ws.take j).map (·.data.toList)) sep.data.toList).length ≤ j * 2147483650 + j * 16 := fun j hj => by
    have h := join_le ((ws.take j).map (·.data.toList)) sep.data.toList 2147483650 (fun x hx => by
      obtain ⟨w, hw', rfl⟩ := List.mem_map.1 hx
      have := hw w (List.mem_of_mem_take hw')
      simpa using this)
    have hl : ((ws.take j).map (·.data.toList)).length = j := by rw [List.length_map, List.length_take]; omega
    have hsl : sep.data.toList.length ≤ 16 := by simpa using hs
    rw [hl] at h
    have := Nat.mul_le_mul_left j hsl
    omega
  obtain ⟨r, hr, he⟩ := state_loop ws.length (fun k s i => spec_l00Join.l0 k ws sep s i) (fun j s => s = ⟨(Lib.join ((ws.take j).map (·.data.toList)) sep.data.toList).toArray⟩) (fun _ _ r => r = ⟨(Lib.join (ws.map (·.data.toList)) sep.data.toList).toArray⟩)
    (fun s hi => ⟨s, by rw [hi, List.take_length], ev_now ⟨0, fun k _ => by simp only [spec_l00Join.l0]; rw [if_neg qa25]⟩⟩)
    (fun j s hj hi => by
      have hbj := hb j qa25
      have hsz : s.size = (Lib.join ((ws.take j).map (·.data.toList)) sep.data.toList).length := by rw [hi]; show (Lib.join _ _).toArray.size = _; simp
      have hx : ws[j]? = some (ws.getD j ByteArray.empty) := by rw [List.getD_eq_getElem?_getD, List.getElem?_eq_getElem hj]; rfl
      have hwj : (ws.getD j ByteArray.empty).size ≤ 2147483650 := hw _ (List.mem_of_getElem? hx)
      have hrd : rdOf ByteArray.empty ws (j : Int) = ws.getD j ByteArray.empty := rfl
      have htk : ws.take (j + 1) = ws.take j ++ [ws.getD j ByteArray.empty] := by rw [List.take_add_one, hx]; rfl
      by_cases h0 : j = 0
      · subst h0
        refine .inr ⟨s ++ ws.getD 0 ByteArray.empty, ?_, fun r h => h, 0, fun k _ => ?_⟩
        · rw [htk, hi]
          apply ByteArray.ext
          simp [Lib.join_nil, Lib.join_one]
        · simp only [spec_l00Join.l0]
          rw [if_pos qa25, if_neg qa25, if_pos qa25, hrd, if_pos qa25, wsucc hj qa25]
      · refine .inr ⟨(s ++ sep) ++ ws.getD j ByteArray.empty, ?_, fun r h => h, 0, fun k _ => ?_⟩
        · rw [htk, List.map_append, List.map_cons, List.map_nil, join_snoc _ _ _ (by intro e; have := congrArg List.length e; rw [List.length_map, List.length_take, List.length_nil] at this; omega), hi]
          apply ByteArray.ext
          simp
        · simp only [spec_l00Join.l0]
          rw [if_pos qa25, if_pos qa25, if_pos qa25, if_pos qa25, hrd, if_pos (by rw [ByteArray.size_append]; omega), wsucc hj qa25]) 0 ⟨#[]⟩ qa25 (by simp [Lib.join_nil])
  subst hr
  exact ev_same ⟨0, fun k _ => by unfold spec_l00Join.f; rfl⟩ he
theorem lib_join (ws : List ByteArray) (sep : ByteArray) (hn : ws.length ≤ 4096) (hs : sep.size ≤ 16) (hw : ∀ w ∈ ws, w.size ≤ 2147483650) :
    strings_Join.f ws sep = some ⟨(Lib.join (ws.map (·.data.toList)) sep.data.toList).toArray⟩ := by
  have h := join_le (ws.map (·.data.toList)) sep.data.toList 2147483650 (fun x hx => by
    obtain ⟨w, hw', rfl⟩ := List.mem_map.1 hx
    have := hw w hw'
    simpa using this)
  have hsl : sep.data.toList.length ≤ 16 := by simpa using hs
  rw [List.length_map] at h
  have := Nat.mul_le_mul_left ws.length hsl
  unfold strings_Join.f
  rw [if_pos ⟨qa25, qa25⟩]
/-! the program's print: tokens, then their texts with blanks -/
def words (ts : List S43) : List (List UInt8) := ts.map fun x => x.f2.toList
def Marks (ts : List S43) : Prop := ∀ x ∈ ts, (x.f0 = 1 ∨ x.f0 = 4) ∧ x.f2.size ≤ 40
theorem marks_app {a b : List S43} (h : Marks a) (k : Marks b) : Marks (a ++ b) := fun x hx => (List.mem_append.1 hx).elim (h x) (k x)
theorem words_app (a b : List S43) : words (a ++ b) = words a ++ words b := by simp [words]
theorem marks_one {t : S43} (h0 : t.f0 = 1 ∨ t.f0 = 4) (h2 : t.f2.size ≤ 40) : Marks [t] := fun x hx => by rw [List.mem_singleton.1 hx]; exact ⟨h0, h2⟩
theorem marks_three {t u v : S43} (h : Marks [t]) (k : Marks [u]) (l : Marks [v]) : Marks [t, u, v] := marks_app (a := [t]) h (marks_app (a := [u]) k l)
def nameT (s : ByteArray) : S43 := ⟨1, 0, s⟩
def punctT (s : ByteArray) : S43 := ⟨4, 0, s⟩
theorem nameM (s : ByteArray) (h : s.size ≤ 40) : Marks [nameT s] := marks_one (.inl rfl) h
theorem punctM (s : ByteArray) (h : s.size ≤ 40) : Marks [punctT s] := marks_one (.inr rfl) h
theorem lit1 (l : List UInt8) : (⟨l.toArray⟩ : ByteArray).toList = l := lit_toList l
theorem type_tokens (a0 : ByteArray) (l1 : List S60) (t : ByteArray) (li ba : Bool) (ht : t.size ≤ 40) :
    ∃ ts, impl_FieldDef_typeTokens.f a0 l1 t li ba = some ts ∧ words ts = tokTy t.toList li ba ∧ Marks ts ∧ ts.length ≤ 4 := by
  have m1 := punctM ⟨[91].toArray⟩ (show (1 : Nat) ≤ 40 by omega)
  have m2 := punctM ⟨[93].toArray⟩ (show (1 : Nat) ≤ 40 by omega)
  have m3 := punctM ⟨[33].toArray⟩ (show (1 : Nat) ≤ 40 by omega)
  have mt := nameM t ht
  cases li <;> cases ba
  · exact ⟨[nameT t], rfl, rfl, mt, qa76⟩
  · exact ⟨[nameT t] ++ [punctT ⟨[33].toArray⟩], rfl, qa134, marks_app mt m3, qa76⟩
  · exact ⟨[punctT ⟨[91].toArray⟩, nameT t, punctT ⟨[93].toArray⟩], rfl, qa134, marks_three m1 mt m2, qa76⟩
  · exact ⟨[punctT ⟨[91].toArray⟩, nameT t, punctT ⟨[93].toArray⟩] ++ [punctT ⟨[33].toArray⟩], rfl, qa134, marks_app (marks_three m1 mt m2) m3, qa76⟩
theorem tokAs_snoc (l : List S60) (a : S60) : tokAs (l ++ [a]) = tokAs l ++ tokA a := by
  induction l with
  | nil => simp [tokAs]
  | cons x l ih => simp only [List.cons_append, tokAs]; rw [ih, List.append_assoc]
theorem tokFs_snoc (l : List S47) (a : S47) : tokFs (l ++ [a]) = tokFs l ++ tokF a := by
  induction l with
  | nil => simp [tokFs]
  | cons x l ih => simp only [List.cons_append, tokFs]; rw [ih, List.append_assoc]
theorem tokS_snoc (l : List S41) (a : S41) : tokS (l ++ [a]) = tokS l ++ tokT a := by
  induction l with
  | nil => simp [tokS]
  | cons x l ih => simp only [List.cons_append, tokS]; rw [ih, List.append_assoc]
theorem take_one {α : Type} (l : List α) (z : α) (j : Nat) (h : j < l.length) : l.take (j + 1) = l.take j ++ [l.getD j z] := by
  rw [List.take_add_one, List.getElem?_eq_getElem h, List.getD_eq_getElem?_getD, List.getElem?_eq_getElem h]; rfl
theorem field_tokens (nm : ByteArray) (l : List S60) (t : ByteArray) (li ba : Bool) (hn : nm.size ≤ 40) (ht : t.size ≤ 40) (hl : l.length ≤ 4) (ha : ∀ a ∈ l, a.f0.size ≤ 40) :
    ∃ ts, Ev (fun k => impl_FieldDef_tokens.f k nm l t li ba) ts ∧ words ts = tokF ⟨nm, l, t, li, ba⟩ ∧ Marks ts ∧ ts.length ≤ 24 := by
  obtain ⟨ty, e1, w1, m1, l1⟩ := type_tokens nm l t li ba ht
  have mn := nameM nm hn
  have mo := punctM ⟨[40].toArray⟩ (show (1 : Nat) ≤ 40 by omega)
  have mc := punctM ⟨[41].toArray⟩ (show (1 : Nat) ≤ 40 by omega)
  have mk := punctM ⟨[58].toArray⟩ (show (1 : Nat) ≤ 40 by omega)
  have mb := punctM ⟨[33].toArray⟩ (show (1 : Nat) ≤ 40 by omega)
  have mi := nameM ⟨[73, 110, 116].toArray⟩ (show (3 : Nat) ≤ 40 by omega)
  by_cases h0 : 0 < l.length
  · obtain ⟨r, hr, he⟩ := state_loop l.length (fun k s i => impl_FieldDef_tokens.l0 k s l (l.length : Int) i nm l t li ba) (fun j s => words s = [nm.toList, [40]] ++ tokAs (l.take j) ∧ Marks s ∧ s.length ≤ 2 + 4 * j)
      (fun _ _ r => words r = tokF ⟨nm, l, t, li, ba⟩ ∧ Marks r ∧ r.length ≤ 24)
      (fun s hi => by
        obtain ⟨i1, i2, i3⟩ := hi
        refine ⟨((s ++ [punctT ⟨[41].toArray⟩]) ++ [punctT ⟨[58].toArray⟩]) ++ ty, ⟨?_, marks_app (marks_app (marks_app i2 mc) mk) m1, qa102⟩, ev_now ⟨0, fun k _ => ?_⟩⟩
        · rw [words_app, words_app, words_app, i1, w1, List.take_length]
          have hz : tokArgs l = [40] :: (tokAs l ++ [[41]]) := by
            cases l with
            | nil => simp at h0
            | cons a l => rfl
          simp only [words, punctT, List.map_cons, List.map_nil, lit_toList, tokF, hz]
          simp
        · simp only [impl_FieldDef_tokens.l0, impl_punct.f, Option.bind_some]
          rw [if_neg qa25, if_pos qa25, if_pos qa136, e1]
          simp only [Option.bind_some]
          rw [if_pos qa136]
          rfl)
      (fun j s hj hi => by
        obtain ⟨i1, i2, i3⟩ := hi
        have hm := getD_mem l z60 j hj
        have hrd : rd_T60 l (j : Int) = l.getD j z60 := rfl
        have ma := nameM (l.getD j z60).f0 (ha _ hm)
        have m3 : Marks [nameT (l.getD j z60).f0, punctT ⟨[58].toArray⟩, nameT ⟨[73, 110, 116].toArray⟩] := marks_three ma mk mi
        cases hb : (l.getD j z60).f1 with
        | true =>
          refine .inr ⟨(s ++ [nameT (l.getD j z60).f0, punctT ⟨[58].toArray⟩, nameT ⟨[73, 110, 116].toArray⟩]) ++ [punctT ⟨[33].toArray⟩], ⟨?_, marks_app (marks_app i2 m3) mb, qa102⟩, fun r h => h, 0, fun k _ => ?_⟩
          · rw [words_app, words_app, i1, take_one l z60 j hj, tokAs_snoc]
            simp only [words, nameT, punctT, List.map_cons, List.map_nil, lit_toList, tokA, hb]
            simp
          · simp only [impl_FieldDef_tokens.l0, impl_punct.f, impl_name.f, Option.bind_some]
            rw [if_pos qa25, if_pos qa25, if_pos qa25, if_pos qa136, hrd, if_pos hb, if_pos qa136, wsucc hj qa25]
            rfl
        | false =>
          refine .inr ⟨s ++ [nameT (l.getD j z60).f0, punctT ⟨[58].toArray⟩, nameT ⟨[73, 110, 116].toArray⟩], ⟨?_, marks_app i2 m3, qa102⟩, fun r h => h, 0, fun k _ => ?_⟩
          · rw [words_app, i1, take_one l z60 j hj, tokAs_snoc]
            simp only [words, nameT, punctT, List.map_cons, List.map_nil, lit_toList, tokA, hb]
            simp
          · simp only [impl_FieldDef_tokens.l0, impl_punct.f, impl_name.f, Option.bind_some]
            rw [if_pos qa25, if_pos qa25, if_pos qa25, if_pos qa136, hrd, if_neg (by rw [hb]; simp), wsucc hj qa25]
            rfl) 0 ([nameT nm] ++ [punctT ⟨[40].toArray⟩]) qa25 ⟨by simp [words, nameT, punctT, lit_toList, tokAs], marks_app mn mo, qa76⟩
    refine ⟨r, ev_same ⟨0, fun k _ => ?_⟩ he, hr.1, hr.2.1, hr.2.2⟩
    unfold impl_FieldDef_tokens.f impl_name.f impl_punct.f
    simp only [Option.bind_some]
    rw [if_pos qa25, if_pos qa76]
    rfl
  · have hz : l = [] := List.eq_nil_of_length_eq_zero qa25
    subst hz
    refine ⟨([nameT nm] ++ [punctT ⟨[58].toArray⟩]) ++ ty, ev_mk 0 fun k _ => ?_, ?_, marks_app (marks_app mn mk) m1, qa102⟩
    · unfold impl_FieldDef_tokens.f impl_name.f impl_punct.f
      simp only [Option.bind_some]
      rw [if_neg qa76, if_pos qa76, e1]
      simp only [Option.bind_some]
      rw [if_pos qa136]
      rfl
    · rw [words_app, words_app, w1]
      simp only [words, nameT, punctT, List.map_cons, List.map_nil, lit_toList, tokF, tokArgs]
      simp
theorem types_tokens (T : List S41) (hT8 : T.length ≤ 8) (hr : ∀ t ∈ T, RightT T t) (R : ByteArray × Int) (hR : ∀ ts, words ts = tokS T → Marks ts → ts.length ≤ 1952 → Ev (fun k => (impl_joined.f k ts).bind fun t106 => some (t106, (0 : Int))) R) :
    Ev (fun k => impl_PrintSchema.l0 k [] T (T.length : Int) 0) R := by
  have hts := type_size T hr
  have key : ∀ d j (s : List S43), T.length - j = d → j ≤ T.length → words s = tokS (T.take j) → Marks s → s.length ≤ 244 * j → Ev (fun k => impl_PrintSchema.l0 k s T (T.length : Int) (j : Int)) R := by
    intro d
    induction d with
    | zero =>
      intro j s hd hj i1 i2 i3
      obtain rfl : j = T.length := by omega
      rw [List.take_length] at i1
      refine ev_step ⟨0, fun k _ => ?_⟩ (hR s i1 i2 qa25)
      simp only [impl_PrintSchema.l0]
      rw [if_neg qa25]
    | succ d ih =>
      intro j s hd hj0 i1 i2 i3
      have hj : j < T.length := by omega
      have hm := getD_mem T z41 j hj
      obtain ⟨t1, t2, t3⟩ := hr _ hm
      have hrd : rd_T41 T (j : Int) = T.getD j z41 := rfl
      have m0 : Marks [nameT ⟨[116, 121, 112, 101].toArray⟩, nameT (T.getD j z41).f0, punctT ⟨[123].toArray⟩] := marks_three (nameM _ (show (4 : Nat) ≤ 40 by omega)) (nameM _ (name_size _ t1)) (punctM _ (show (1 : Nat) ≤ 40 by omega))
      have mz := punctM ⟨[125].toArray⟩ (show (1 : Nat) ≤ 40 by omega)
      have hts2 : ∀ f ∈ (T.getD j z41).f1, f.f2.size ≤ 40 := hts _ hm
      have hw : tokS (T.take (j + 1)) = tokS (T.take j) ++ ([[116, 121, 112, 101], (T.getD j z41).f0.toList, [123]] ++ tokFs (T.getD j z41).f1 ++ [[125]]) := by
        rw [take_one T z41 j hj, tokS_snoc]
        simp only [tokT]
        simp
      obtain ⟨fs, hfs⟩ : ∃ fs, fs = (T.getD j z41).f1 := ⟨_, rfl⟩
      rw [← hfs] at t2 t3 hts2 hw
      have inner : ∀ e q (u : List S43), fs.length - q = e → q ≤ fs.length → words u = words s ++ ([[116, 121, 112, 101], (T.getD j z41).f0.toList, [123]] ++ tokFs (fs.take q)) → Marks u → u.length ≤ 244 * j + 3 + 24 * q →
          Ev (fun k => impl_PrintSchema.l1 k u T (T.length : Int) (j : Int) fs (fs.length : Int) (q : Int)) R := by
        intro e
        induction e with
        | zero =>
          intro q u he hq hu mu lu
          obtain rfl : q = fs.length := by omega
          rw [List.take_length] at hu
          refine ev_step ⟨0, fun k _ => ?_⟩ (ih (j + 1) (u ++ [punctT ⟨[125].toArray⟩]) qa25 qa25 (by rw [words_app, hu, hw, i1]; simp [words, punctT, lit_toList]) (marks_app mu mz) qa102)
          simp only [impl_PrintSchema.l1, impl_punct.f, Option.bind_some]
          rw [if_neg qa25, if_pos qa25, wsucc hj qa25]
          rfl
        | succ e ih2 =>
          intro q u he hq hu mu lu
          have hq' : q < fs.length := by omega
          have hmf := getD_mem fs z47 q hq'
          obtain ⟨f1, f2, f3, f4⟩ := t3 _ hmf
          obtain ⟨ft, e1, w1, m1, l1⟩ := field_tokens (fs.getD q z47).f0 (fs.getD q z47).f1 (fs.getD q z47).f2 (fs.getD q z47).f3 (fs.getD q z47).f4 (name_size _ f1) (hts2 _ hmf) f3 (fun a ha => name_size _ (f4 a ha))
          obtain ⟨K1, k1⟩ := ev_at e1
          have hrf : rd_T47 fs (q : Int) = fs.getD q z47 := rfl
          refine ev_step ⟨K1, fun k hk => ?_⟩ (ih2 (q + 1) (u ++ ft) qa25 qa25 (by rw [words_app, hu, w1, take_one fs z47 q hq', tokFs_snoc]; simp) (marks_app mu m1) (by rw [List.length_append]; omega))
          simp only [impl_PrintSchema.l1]
          rw [if_pos qa25, if_pos qa25, if_pos qa25, hrf, k1 k hk]
          simp only [Option.bind_some]
          rw [if_pos qa25, wsucc hq' qa25]
      refine ev_step ⟨0, fun k _ => ?_⟩ (inner _ 0 (s ++ [nameT ⟨[116, 121, 112, 101].toArray⟩, nameT (T.getD j z41).f0, punctT ⟨[123].toArray⟩]) rfl qa25 (by rw [words_app]; simp [words, nameT, punctT, lit_toList, tokFs]) (marks_app i2 m0) (by rw [List.length_append]; simp; omega))
      simp only [impl_PrintSchema.l0, impl_punct.f, impl_name.f, Option.bind_some]
      rw [if_pos qa25, if_pos qa25, if_pos qa25, hrd, if_pos qa136, ← hfs]
      rfl
  exact key _ 0 [] rfl qa25 (by simp [words, tokS]) (fun x hx => by cases hx) qa76
theorem blanks_join (l : List (List UInt8)) (h : l ≠ []) : 32 :: Lib.join l [32] = blanks l := by
  cases l with
  | nil => exact absurd rfl h
  | cons x r =>
    rw [Lib.join_cons]
    have hr : ∀ r : List (List UInt8), Lib.joinTail [32] r = blanks r := by
      intro r
      induction r with
      | nil => rfl
      | cons y r ih => simp only [Lib.joinTail, List.map_cons, List.flatten_cons, blanks] at ih ⊢; rw [ih]; simp
    rw [hr]
    rfl
def blank : ByteArray := ⟨#[32]⟩
theorem mark_text (x : S43) (h : x.f0 = 1 ∨ x.f0 = 4) : impl_Token_text.f x.f0 x.f1 x.f2 = some x.f2 := by
  unfold impl_Token_text.f
  rcases h with h | h <;> rw [if_neg qa25, if_neg qa25]
theorem joined_marks (ts : List S43) (hm : Marks ts) (hl : ts.length ≤ 1952) : Ev (fun k => impl_joined.f k ts) ⟨(Lib.join ((ts.map (·.f2)).map (·.data.toList)) blank.data.toList).toArray⟩ := by
  have hk := lib_join (ts.map (·.f2)) blank (by rw [List.length_map]; omega) (by show 1 ≤ 16; omega) (fun w hw => by
    obtain ⟨x, hx, rfl⟩ := List.mem_map.1 hw
    have := (hm x hx).2
    omega)
  generalize (⟨(Lib.join ((ts.map (·.f2)).map (·.data.toList)) blank.data.toList).toArray⟩ : ByteArray) = J at hk
  obtain ⟨r, hr, he⟩ := state_loop ts.length (fun k s i => impl_joined.l0 k s ts (ts.length : Int) i) (fun j s => s = (ts.take j).map (·.f2)) (fun _ _ r => r = J)
    (fun s hi => ⟨J, rfl, by
      rw [List.take_length] at hi
      subst hi
      refine ev_now ⟨0, fun k _ => ?_⟩
      simp only [impl_joined.l0]
      rw [if_neg qa25]
      rw [show (⟨#[32]⟩ : ByteArray) = blank from rfl, hk]
      rfl⟩)
    (fun j s hj' hi => by
      have hmm := getD_mem ts z43 j hj'
      have hrd : rd_T43 ts (j : Int) = ts.getD j z43 := rfl
      have hlen : s.length ≤ 1952 := by rw [hi, List.length_map, List.length_take]; omega
      refine .inr ⟨s ++ [(ts.getD j z43).f2], by rw [take_one ts z43 j hj', List.map_append, hi]; rfl, fun r h => h, 0, fun k hk => ?_⟩
      simp only [impl_joined.l0]
      rw [if_pos qa25, if_pos qa25, if_pos qa25, hrd, mark_text _ (hm _ hmm).1]
      simp only [Option.bind_some]
      rw [if_pos qa25, wsucc hj' qa25]) 0 [] qa25 qa76
  subst hr
  exact ev_same ⟨0, fun k _ => by unfold impl_joined.f; rfl⟩ he
theorem print_agree (T : List S41) (hT : CmS T) : ∃ r : ByteArray × Int, Ev (fun k => spec_PrintSchema.f k T) r ∧ Ev (fun k => impl_PrintSchema.f k T) r := by
  obtain ⟨a, e1, e2⟩ := schema_agree T hT
  obtain ⟨K1, k1⟩ := ev_at e1
  obtain ⟨K2, k2⟩ := ev_at e2
  cases a with
  | false => exact ⟨((⟨#[]⟩ : ByteArray), 1), ev_mk K1 fun k hk => by unfold spec_PrintSchema.f; rw [k1 k hk]; rfl, ev_mk K2 fun k hk => by unfold impl_PrintSchema.f; rw [k2 k hk]; rfl⟩
  | true =>
    obtain ⟨p1, p2, p3⟩ := schema_right K1 T hT (k1 K1 (Nat.le_refl _))
    obtain ⟨s, e5, hs⟩ := print_schema T p1 p2 p3
    obtain ⟨K5, k5⟩ := ev_at e5
    have hne : tokS T ≠ [] := by
      cases T with
      | nil => simp at p1
      | cons t T => simp [tokS, tokT]
    have e6 := types_tokens T p2 p3 (s, 0) (fun ts hw hm hl => by
      obtain ⟨K, hk⟩ := ev_at (joined_marks ts hm hl)
      refine ev_mk K fun k hq => ?_
      rw [hk k hq]
      show some (_, (0 : Int)) = some (s, 0)
      congr 2
      apply bytes_ext
      have h1 : (ts.map (·.f2)).map (·.data.toList) = tokS T := by
        rw [← hw, List.map_map]
        unfold words
        apply List.map_congr_left
        intro x _
        exact (toList_data x.f2).symm
      rw [h1]
      have h2 := blanks_join (tokS T) hne
      rw [← hs] at h2
      rw [toList_data]
      exact (List.cons.inj h2).2)
    obtain ⟨K6, k6⟩ := ev_at e6
    exact ⟨(s, 0), ev_mk (K1 + K5) fun k hk => by unfold spec_PrintSchema.f; rw [k1 k qa25, Option.bind_some, if_pos rfl, k5 k qa25]; rfl, ev_mk (K2 + K6) fun k hk => by unfold impl_PrintSchema.f; rw [k2 k qa25, Option.bind_some, if_pos rfl]; exact k6 k qa25⟩
end Go.Proofs.YtoogmlghfljeiaaDoor.Pure2
namespace Go.Proofs.YtoogmlghfljeiaaDoor.Pure2
open Go.RowKit Go.Proofs.YtoogmlghfljeiaaDoor.Q Go.Proofs.YtoogmlghfljeiaaDoorW.PrintWords Go.Proofs.YtoogmlghfljeiaaDoorW.PrintLast
set_option linter.unusedVariables false
set_option linter.unusedSimpArgs false
theorem FnExactPrintSchema : laws_FnExactPrintSchema.Pure2 := by
  intro y hy
  obtain ⟨r, he, hr⟩ := sz_schema y.f0 1048576 qa25 qa25 hy.1 hy.2
  refine Ev.rounds (r := true) ?_
  obtain ⟨K1, h1⟩ := ev_at he
  rcases hr with hr | ⟨_, _, hs⟩
  · exact ev_mk K1 fun k hk => by unfold laws_FnExactPrintSchema.f; rw [h1 k hk, Option.bind_some, if_pos hr]
  · have hc := small_S y.f0 hs
    obtain ⟨K2, h2⟩ := ev_at (to_schema y.f0 hs)
    obtain ⟨⟨t, c⟩, e1, e2⟩ := print_agree (y.f0.map cvT) hc
    obtain ⟨K3, h3⟩ := ev_at e1
    obtain ⟨K4, h4⟩ := ev_at e2
    obtain ⟨K5, h5⟩ := ev_at (eq_schema (y.f0.map cvT) hc.1 fun x hx => ⟨(hc.2 x hx).2.1, fun u hu => ((hc.2 x hx).2.2 u hu).2.1⟩)
    refine ev_mk (K1 + K2 + K3 + K4 + K5 + 1) fun k hk => ?_
    obtain ⟨m, rfl⟩ : ∃ m, k = m + 1 := ⟨k - 1, qa25⟩
    unfold laws_FnExactPrintSchema.f
    rw [h1 _ qa25, Option.bind_some, if_neg qa25, h2 _ qa25, Option.bind_some, h3 _ qa25, Option.bind_some, Option.bind_some, h4 _ qa25]
    simp only [Option.bind_some, if_true, bne_self_eq_false]
    simp only [laws_FnExactPrintSchema.j0]
    rw [if_neg qa76, h2 _ qa25, Option.bind_some, h5 _ qa25]
    rfl
end Go.Proofs.YtoogmlghfljeiaaDoor.Pure2
