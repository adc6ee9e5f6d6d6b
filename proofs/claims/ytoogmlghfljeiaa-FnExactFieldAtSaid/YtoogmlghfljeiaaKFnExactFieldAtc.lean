/- Texts of the claim on FnExactFieldAt, gathered by a program of this session: what the program's functions compute (proved by walks), and the plain part. -/
import Derived.Test.YtoogmlghfljeiaaKFnExactFieldAtb
namespace Go.Proofs.Ytoogmlghfljeiaa.Q
open Go.RowKit Go.Proofs.YtoogmlghfljeiaaW.PrintWords Go.Proofs.YtoogmlghfljeiaaW.PrintLast Go.Proofs.YtoogmlghfljeiaaW.PrintMore
attribute [local go_sem] max2_int min2_int max_two min_two max_three min_three max_four min_four
set_option linter.unusedVariables false
set_option linter.unusedSimpArgs false

mutual
def impl_Schema_fieldOK.j0 : Nat → Bool → ByteArray → List (S57) → ByteArray → Bool → Bool → Option (Bool)
 | 0, _, _, _, _, _, _ => none
 | k + 1, x33, x103000, x103001, x103002, x103003, x103004 => if x33 = true then (some false) else (impl_Schema_fieldOK.l0 k x103001 (x103001.length : Int) 0 x103000 x103001 x103002 x103003 x103004)
def impl_Schema_fieldOK.l0 : Nat → List (S57) → Int → Int → ByteArray → List (S57) → ByteArray → Bool → Bool → Option (Bool)
 | 0, _, _, _, _, _, _, _, _ => none
 | k + 1, x35, x36, x37, x103000, x103001, x103002, x103003, x103004 => if x37 < x36 then (if 0 ≤ x37 then (if x37 < (x35.length : Int) then ((impl_NameOK.f k ((rd_T57 x35 x37).f0)).bind fun t107 => (if t107 = true then ((impl_FieldDef_argAt.f x103000 x103001 x103002 x103003 x103004 ((rd_T57 x35 x37).f0)).bind fun t108 => (if t108 = x37 then (impl_Schema_fieldOK.l0 k x35 x36 (wrap64 (x37 + 1)) x103000 x103001 x103002 x103003 x103004) else (some false))) else (some false))) else (none)) else (none)) else (some true)
end
def impl_Schema_fieldOK.f (k : Nat) (l0_0 : List (S53)) (a1_0 : ByteArray) (l1_1 : List (S57)) (a1_2 : ByteArray) (a1_3 : Bool) (a1_4 : Bool) : Option (Bool) := (impl_NameOK.f k a1_0).bind fun t103 => (if t103 = true then (if a1_0.toList = ([95, 95, 116, 121, 112, 101, 110, 97, 109, 101] : List UInt8) then (impl_Schema_fieldOK.j0 k true a1_0 l1_1 a1_2 a1_3 a1_4) else (if a1_2.toList = ([73, 110, 116] : List UInt8) then (impl_Schema_fieldOK.j0 k (decide ((l1_1.length : Int) > 4)) a1_0 l1_1 a1_2 a1_3 a1_4) else ((impl_Schema_typeAt.f l0_0 a1_2).bind fun t104 => (if t104 < 0 then (impl_Schema_fieldOK.j0 k true a1_0 l1_1 a1_2 a1_3 a1_4) else (impl_Schema_fieldOK.j0 k (decide ((l1_1.length : Int) > 4)) a1_0 l1_1 a1_2 a1_3 a1_4))))) else (impl_Schema_fieldOK.j0 k true a1_0 l1_1 a1_2 a1_3 a1_4))
set_option maxHeartbeats 8000000 in
set_option maxRecDepth 100000 in
theorem impl_Schema_fieldOK.calls (k : Nat) (A0_0 : Option Addr) (c0_0 : Nat) (l0_0 : List (S53)) (a1_0 : ByteArray) (A1_1 : Option Addr) (c1_1 : Nat) (l1_1 : List (S57)) (a1_2 : ByteArray) (a1_3 : Bool) (a1_4 : Bool) (r : Bool) (w : World) (hr0_0 : Kd.C k53 w A0_0 l0_0.length l0_0) (hc0_0 : l0_0.length ≤ c0_0) (hr1_1 : Kd.C k57 w A1_1 l1_1.length l1_1) (hc1_1 : l1_1.length ≤ c1_1) (h : impl_Schema_fieldOK.f k l0_0 a1_0 l1_1 a1_2 a1_3 a1_4 = some r) :
  Calls Try.prog 36 #[.agg #[.slice A0_0 l0_0.length c0_0], .agg #[.string a1_0, .slice A1_1 l1_1.length c1_1, .string a1_2, .bool a1_3, .bool a1_4]] w fun e w' => e = .returned (.bool r) ∧ Below w.heap.size w w' := by
 have hu29 := Try.underlying29; have hu38 := Try.underlying38; have hu57 := Try.underlying57; have HR0_0 := qO hr0_0; have HC0_0 := qO hc0_0; clear hr0_0 hc0_0; have HR1_1 := qO hr1_1; have HC1_1 := qO hc1_1; clear hr1_1 hc1_1; have HB := qO (Below.refl w.heap.size w); have H : ((impl_NameOK.f k a1_0).bind fun t103 => (if t103 = true then (if a1_0.toList = ([95, 95, 116, 121, 112, 101, 110, 97, 109, 101] : List UInt8) then (impl_Schema_fieldOK.j0 k true a1_0 l1_1 a1_2 a1_3 a1_4) else (if a1_2.toList = ([73, 110, 116] : List UInt8) then (impl_Schema_fieldOK.j0 k (decide ((l1_1.length : Int) > 4)) a1_0 l1_1 a1_2 a1_3 a1_4) else ((impl_Schema_typeAt.f l0_0 a1_2).bind fun t104 => (if t104 < 0 then (impl_Schema_fieldOK.j0 k true a1_0 l1_1 a1_2 a1_3 a1_4) else (impl_Schema_fieldOK.j0 k (decide ((l1_1.length : Int) > 4)) a1_0 l1_1 a1_2 a1_3 a1_4))))) else (impl_Schema_fieldOK.j0 k true a1_0 l1_1 a1_2 a1_3 a1_4))) = some r := h; clear h; have HC3 := qO H; clear H
 go_enter Try.func36, Try.ntmps36
 go_upto_region 1 with (first | ((with_reducible refine gate_dst (N := 2) rfl ?_); (try (refine gate_guard (by rfl) ?_; dsimp only)); refine box_event ?hg (N := 2) ?hd (cs := #[.slice A0_0 l0_0.length c0_0]) (t := 29) ?hr ?_; (case hd => rfl); (case hg => rfl); (case hr => exact qa18); intro gb101 hg w4 hbox hb; have n0_ := qO (below_step qa8 hb); have n1_ := qO (hbox); have n2_ := qO ((qa40 : w.heap.size ≤ gb101)); have n3_ := qO ((qa40 : w.heap.size ≤ gb101)); clear HB; have HB := n0_; have BK101 := n1_; have GW101 := n2_; have GE101 := n3_; clear n0_ n1_ n2_ n3_; clear hb hbox hg) | ((with_reducible refine gate_dst (N := 3) rfl ?_); (try (refine gate_guard (by rfl) ?_; dsimp only)); refine box_event ?hg (N := 3) ?hd (cs := #[.string a1_0, .slice A1_1 l1_1.length c1_1, .string a1_2, .bool a1_3, .bool a1_4]) (t := 38) ?hr ?_; (case hd => rfl); (case hg => rfl); (case hr => exact qa18); intro gb102 hg w5 hbox hb; have n0_ := qO (blk_below (g := gb101) (o := .cells #[.slice A0_0 l0_0.length c0_0] 29 (0, 0)) qa13 hb); have n1_ := qO (below_step qa6 hb); have n2_ := qO (hbox); have n3_ := qO ((qa37 : w.heap.size ≤ gb102)); have n4_ := qO ((qa37 : w.heap.size ≤ gb102)); have n5_ := qO ((qa24 : gb101 ≠ gb102)); have n6_ := qO ((qa83 : gb102 ≠ gb101)); clear BK101; clear HB; have BK101 := n0_; have HB := n1_; have BK102 := n2_; have GW102 := n3_; have GE102 := n4_; have NB101_102 := n5_; have NB102_101 := n6_; clear n0_ n1_ n2_ n3_ n4_ n5_ n6_; clear hb hbox hg))
 (try simp only [Act.put, qzA, qzB, qzC])
 go_cut [33] (fun v33 wc => ∃ (kq : Nat) (x33_2 : Bool), v33 = .bool x33_2 ∧ Aside0 (impl_Schema_fieldOK.j0 kq x33_2 a1_0 l1_1 a1_2 a1_3 a1_4 = some r) ∧ Aside0 (kq ≤ k) ∧ Aside0 (wc.heap[gb101]? = some (.cells #[(.slice A0_0 l0_0.length c0_0)] 29 (0, 0))) ∧ Aside0 (wc.heap[gb102]? = some (.cells #[.string a1_0, (.slice A1_1 l1_1.length c1_1), .string a1_2, .bool a1_3, .bool a1_4] 38 (0, 0))) ∧ Aside0 (Below w.heap.size w wc))
 case first =>
  have H := HC3.out; clear HC3; replace H := Option.bind_eq_some_iff.mp H; obtain ⟨t103, A60, H⟩ := H; replace H : (if t103 = true then (if a1_0.toList = ([95, 95, 116, 121, 112, 101, 110, 97, 109, 101] : List UInt8) then (impl_Schema_fieldOK.j0 k true a1_0 l1_1 a1_2 a1_3 a1_4) else (if a1_2.toList = ([73, 110, 116] : List UInt8) then (impl_Schema_fieldOK.j0 k (decide ((l1_1.length : Int) > 4)) a1_0 l1_1 a1_2 a1_3 a1_4) else ((impl_Schema_typeAt.f l0_0 a1_2).bind fun t104 => (if t104 < 0 then (impl_Schema_fieldOK.j0 k true a1_0 l1_1 a1_2 a1_3 a1_4) else (impl_Schema_fieldOK.j0 k (decide ((l1_1.length : Int) > 4)) a1_0 l1_1 a1_2 a1_3 a1_4))))) else (impl_Schema_fieldOK.j0 k true a1_0 l1_1 a1_2 a1_3 a1_4)) = some r := H; have A6 := qO A60; clear A60
  by_cases c7 : t103 = true
  ·subst c7
   have H1 : (if a1_0.toList = ([95, 95, 116, 121, 112, 101, 110, 97, 109, 101] : List UInt8) then (impl_Schema_fieldOK.j0 k true a1_0 l1_1 a1_2 a1_3 a1_4) else (if a1_2.toList = ([73, 110, 116] : List UInt8) then (impl_Schema_fieldOK.j0 k (decide ((l1_1.length : Int) > 4)) a1_0 l1_1 a1_2 a1_3 a1_4) else ((impl_Schema_typeAt.f l0_0 a1_2).bind fun t104 => (if t104 < 0 then (impl_Schema_fieldOK.j0 k true a1_0 l1_1 a1_2 a1_3 a1_4) else (impl_Schema_fieldOK.j0 k (decide ((l1_1.length : Int) > 4)) a1_0 l1_1 a1_2 a1_3 a1_4))))) = some r := by rw [if_pos rfl] at H; exact H
   clear H; have H := H1; clear H1
   by_cases c8 : a1_0.toList = ([95, 95, 116, 121, 112, 101, 110, 97, 109, 101] : List UInt8)
   ·rw [if_pos c8] at H
    have c8b0 : (a1_0.toList == ([95, 95, 116, 121, 112, 101, 110, 97, 109, 101] : List UInt8)) = true := beq_iff_eq.mpr c8; have c8b1 : (a1_0.toList != ([95, 95, 116, 121, 112, 101, 110, 97, 109, 101] : List UInt8)) = false := bne_eq_false_iff_eq.mpr c8; clear c8; (first | rw [c8b0] | (simp only [i64_w, i32_w]; rw [c8b0]) | skip); have H' := qO H; clear H; have hnb9 := NB102_101.out; have hnc9 := NB101_102.out; have hcz10_0 : w5.cell? ⟨gb102, 0, none⟩ = some (.string a1_0) := (blk_cell BK102.out 0).trans rfl; have hcz10_1 : w5.cell? ⟨gb102, 1, none⟩ = some (.slice A1_1 l1_1.length c1_1) := (blk_cell BK102.out 1).trans rfl; have hcz10_2 : w5.cell? ⟨gb102, 2, none⟩ = some (.string a1_2) := (blk_cell BK102.out 2).trans rfl; have hcz10_3 : w5.cell? ⟨gb102, 3, none⟩ = some (.bool a1_3) := (blk_cell BK102.out 3).trans rfl; have hcz10_4 : w5.cell? ⟨gb102, 4, none⟩ = some (.bool a1_4) := (blk_cell BK102.out 4).trans rfl; have hfz10_0 := blk_frozen BK102.out 0; have hfz10_1 := blk_frozen BK102.out 1; have hfz10_2 := blk_frozen BK102.out 2; have hfz10_3 := blk_frozen BK102.out 3; have hfz10_4 := blk_frozen BK102.out 4
    go_wp2_with (first | ((with_reducible refine gate_callee (f := 35) rfl ?_); refine goesL_ (some 9) rfl rfl Try.func35 qa17 rfl #[.string a1_0] rfl qa1 ?_; (with_reducible refine (impl_NameOK.calls k a1_0 true _ A6.out).mono ?_); rintro e w' ⟨rfl, ⟨nd, rfl⟩⟩; refine ⟨_, rfl, ?_⟩))
    go_meet
    case rel => exact ⟨_, (true), qa11, H', ⟨qa77⟩, ⟨qa13⟩, ⟨qa31⟩, ⟨qa7⟩⟩
   ·rw [if_neg c8] at H
    have c8b0 : (a1_0.toList == ([95, 95, 116, 121, 112, 101, 110, 97, 109, 101] : List UInt8)) = false := beq_eq_false_iff_ne.mpr c8; have c8b1 : (a1_0.toList != ([95, 95, 116, 121, 112, 101, 110, 97, 109, 101] : List UInt8)) = true := bne_iff_ne.mpr c8; (first | rw [c8b0] | (simp only [i64_w, i32_w]; rw [c8b0]) | skip)
    by_cases c11 : a1_2.toList = ([73, 110, 116] : List UInt8)
    ·rw [if_pos c11] at H
     have c11b0 : (a1_2.toList == ([73, 110, 116] : List UInt8)) = true := beq_iff_eq.mpr c11; have c11b1 : (a1_2.toList != ([73, 110, 116] : List UInt8)) = false := bne_eq_false_iff_eq.mpr c11; clear c11; have H' := qO H; clear H; have hnb12 := NB102_101.out; have hnc12 := NB101_102.out; have hcz13_0 : w5.cell? ⟨gb102, 0, none⟩ = some (.string a1_0) := (blk_cell BK102.out 0).trans rfl; have hcz13_1 : w5.cell? ⟨gb102, 1, none⟩ = some (.slice A1_1 l1_1.length c1_1) := (blk_cell BK102.out 1).trans rfl; have hcz13_2 : w5.cell? ⟨gb102, 2, none⟩ = some (.string a1_2) := (blk_cell BK102.out 2).trans rfl; have hcz13_3 : w5.cell? ⟨gb102, 3, none⟩ = some (.bool a1_3) := (blk_cell BK102.out 3).trans rfl; have hcz13_4 : w5.cell? ⟨gb102, 4, none⟩ = some (.bool a1_4) := (blk_cell BK102.out 4).trans rfl; have hfz13_0 := blk_frozen BK102.out 0; have hfz13_1 := blk_frozen BK102.out 1; have hfz13_2 := blk_frozen BK102.out 2; have hfz13_3 := blk_frozen BK102.out 3; have hfz13_4 := blk_frozen BK102.out 4
     go_wp2_with (first | ((with_reducible refine gate_callee (f := 35) rfl ?_); refine goesL_ (some 9) rfl rfl Try.func35 qa17 rfl #[.string a1_0] rfl qa1 ?_; (with_reducible refine (impl_NameOK.calls k a1_0 true _ A6.out).mono ?_); rintro e w' ⟨rfl, ⟨nd, rfl⟩⟩; refine ⟨_, rfl, ?_⟩))
     go_meet
     case rel => exact ⟨_, (decide ((l1_1.length : Int) > 4)), qa11, H', ⟨qa77⟩, ⟨qa13⟩, ⟨qa31⟩, ⟨qa7⟩⟩
    ·rw [if_neg c11] at H
     have c11b0 : (a1_2.toList == ([73, 110, 116] : List UInt8)) = false := beq_eq_false_iff_ne.mpr c11; have c11b1 : (a1_2.toList != ([73, 110, 116] : List UInt8)) = true := bne_iff_ne.mpr c11; replace H := Option.bind_eq_some_iff.mp H; obtain ⟨t104, A140, H⟩ := H; replace H : (if t104 < 0 then (impl_Schema_fieldOK.j0 k true a1_0 l1_1 a1_2 a1_3 a1_4) else (impl_Schema_fieldOK.j0 k (decide ((l1_1.length : Int) > 4)) a1_0 l1_1 a1_2 a1_3 a1_4)) = some r := H; have A14 := qO A140; clear A140
     by_cases c15 : t104 < 0
     ·rw [if_pos c15] at H
      have c15b0 : decide (t104 < 0) = true := decide_eq_true c15; clear c15; have H' := qO H; clear H; have hnb16 := NB102_101.out; have hnc16 := NB101_102.out; have hcz17_0 : w5.cell? ⟨gb102, 0, none⟩ = some (.string a1_0) := (blk_cell BK102.out 0).trans rfl; have hcz17_1 : w5.cell? ⟨gb102, 1, none⟩ = some (.slice A1_1 l1_1.length c1_1) := (blk_cell BK102.out 1).trans rfl; have hcz17_2 : w5.cell? ⟨gb102, 2, none⟩ = some (.string a1_2) := (blk_cell BK102.out 2).trans rfl; have hcz17_3 : w5.cell? ⟨gb102, 3, none⟩ = some (.bool a1_3) := (blk_cell BK102.out 3).trans rfl; have hcz17_4 : w5.cell? ⟨gb102, 4, none⟩ = some (.bool a1_4) := (blk_cell BK102.out 4).trans rfl; have hfz17_0 := blk_frozen BK102.out 0; have hfz17_1 := blk_frozen BK102.out 1; have hfz17_2 := blk_frozen BK102.out 2; have hfz17_3 := blk_frozen BK102.out 3; have hfz17_4 := blk_frozen BK102.out 4
      go_wp2_with (first | ((with_reducible refine gate_callee (f := 35) rfl ?_); refine goesL_ (some 9) rfl rfl Try.func35 qa17 rfl #[.string a1_0] rfl qa1 ?_; (with_reducible refine (impl_NameOK.calls k a1_0 true _ A6.out).mono ?_); rintro e w' ⟨rfl, ⟨nd, rfl⟩⟩; refine ⟨_, rfl, ?_⟩; have hcz18_0 : w5.cell? ⟨gb101, 0, none⟩ = some (.slice A0_0 l0_0.length c0_0) := (blk_cell BK101.out 0).trans rfl; have hfz18_0 := blk_frozen BK101.out 0) | (go_at_call 34; (with_reducible refine (impl_Schema_typeAt.calls _ _ l0_0 a1_2 t104 _ ?side1 ?side2 A14.out).mono ?_); (case side1 => exact qa64); (case side2 => exact HC0_0.out); rintro e w19 ⟨rfl, hb⟩; have hx_ := qHX HB hb qa0; have n0_ := qO (qB BK101.out hx_ hb); have n1_ := qO (qB BK102.out hx_ hb); have n2_ := qO (below_step (below_step HB.out hx_) hb); clear BK101; clear BK102; clear HB; have BK101 := n0_; have BK102 := n1_; have HB := n2_; clear n0_ n1_ n2_; clear hx_; (try clear hb); (try clear hb2); (try clear hk); (try clear hi)))
      go_meet
      case rel => exact ⟨_, (true), qa11, H', ⟨qa77⟩, ⟨qa13⟩, ⟨qa31⟩, ⟨qa7⟩⟩
     ·rw [if_neg c15] at H
      have c15b0 : decide (t104 < 0) = false := decide_eq_false c15; clear c15; have H' := qO H; clear H; have hnb20 := NB102_101.out; have hnc20 := NB101_102.out; have hcz21_0 : w5.cell? ⟨gb102, 0, none⟩ = some (.string a1_0) := (blk_cell BK102.out 0).trans rfl; have hcz21_1 : w5.cell? ⟨gb102, 1, none⟩ = some (.slice A1_1 l1_1.length c1_1) := (blk_cell BK102.out 1).trans rfl; have hcz21_2 : w5.cell? ⟨gb102, 2, none⟩ = some (.string a1_2) := (blk_cell BK102.out 2).trans rfl; have hcz21_3 : w5.cell? ⟨gb102, 3, none⟩ = some (.bool a1_3) := (blk_cell BK102.out 3).trans rfl; have hcz21_4 : w5.cell? ⟨gb102, 4, none⟩ = some (.bool a1_4) := (blk_cell BK102.out 4).trans rfl; have hfz21_0 := blk_frozen BK102.out 0; have hfz21_1 := blk_frozen BK102.out 1; have hfz21_2 := blk_frozen BK102.out 2; have hfz21_3 := blk_frozen BK102.out 3; have hfz21_4 := blk_frozen BK102.out 4
      go_wp2_with (first | ((with_reducible refine gate_callee (f := 35) rfl ?_); refine goesL_ (some 9) rfl rfl Try.func35 qa17 rfl #[.string a1_0] rfl qa1 ?_; (with_reducible refine (impl_NameOK.calls k a1_0 true _ A6.out).mono ?_); rintro e w' ⟨rfl, ⟨nd, rfl⟩⟩; refine ⟨_, rfl, ?_⟩; have hcz22_0 : w5.cell? ⟨gb101, 0, none⟩ = some (.slice A0_0 l0_0.length c0_0) := (blk_cell BK101.out 0).trans rfl; have hfz22_0 := blk_frozen BK101.out 0) | (go_at_call 34; (with_reducible refine (impl_Schema_typeAt.calls _ _ l0_0 a1_2 t104 _ ?side1 ?side2 A14.out).mono ?_); (case side1 => exact qa64); (case side2 => exact HC0_0.out); rintro e w23 ⟨rfl, hb⟩; have hx_ := qHX HB hb qa0; have n0_ := qO (qB BK101.out hx_ hb); have n1_ := qO (qB BK102.out hx_ hb); have n2_ := qO (below_step (below_step HB.out hx_) hb); clear BK101; clear BK102; clear HB; have BK101 := n0_; have BK102 := n1_; have HB := n2_; clear n0_ n1_ n2_; clear hx_; (try clear hb); (try clear hb2); (try clear hk); (try clear hi); have hcz24_0 : w23.cell? ⟨gb102, 0, none⟩ = some (.string a1_0) := (blk_cell BK102.out 0).trans rfl; have hcz24_1 : w23.cell? ⟨gb102, 1, none⟩ = some (.slice A1_1 l1_1.length c1_1) := (blk_cell BK102.out 1).trans rfl; have hcz24_2 : w23.cell? ⟨gb102, 2, none⟩ = some (.string a1_2) := (blk_cell BK102.out 2).trans rfl; have hcz24_3 : w23.cell? ⟨gb102, 3, none⟩ = some (.bool a1_3) := (blk_cell BK102.out 3).trans rfl; have hcz24_4 : w23.cell? ⟨gb102, 4, none⟩ = some (.bool a1_4) := (blk_cell BK102.out 4).trans rfl; have hfz24_0 := blk_frozen BK102.out 0; have hfz24_1 := blk_frozen BK102.out 1; have hfz24_2 := blk_frozen BK102.out 2; have hfz24_3 := blk_frozen BK102.out 3; have hfz24_4 := blk_frozen BK102.out 4))
      go_meet
      case rel => exact ⟨_, (decide ((l1_1.length : Int) > 4)), qa11, H', ⟨qa77⟩, ⟨qa13⟩, ⟨qa31⟩, ⟨qa7⟩⟩
  ·replace c7 := Bool.eq_false_iff.mpr c7
   subst c7; have H1 : (impl_Schema_fieldOK.j0 k true a1_0 l1_1 a1_2 a1_3 a1_4) = some r := by rw [if_neg (show ¬ (false = true) by decide)] at H; exact H
   clear H; have H := H1; clear H1; have H' := qO H; clear H; have hnb25 := NB102_101.out; have hnc25 := NB101_102.out; have hcz26_0 : w5.cell? ⟨gb102, 0, none⟩ = some (.string a1_0) := (blk_cell BK102.out 0).trans rfl; have hcz26_1 : w5.cell? ⟨gb102, 1, none⟩ = some (.slice A1_1 l1_1.length c1_1) := (blk_cell BK102.out 1).trans rfl; have hcz26_2 : w5.cell? ⟨gb102, 2, none⟩ = some (.string a1_2) := (blk_cell BK102.out 2).trans rfl; have hcz26_3 : w5.cell? ⟨gb102, 3, none⟩ = some (.bool a1_3) := (blk_cell BK102.out 3).trans rfl; have hcz26_4 : w5.cell? ⟨gb102, 4, none⟩ = some (.bool a1_4) := (blk_cell BK102.out 4).trans rfl; have hfz26_0 := blk_frozen BK102.out 0; have hfz26_1 := blk_frozen BK102.out 1; have hfz26_2 := blk_frozen BK102.out 2; have hfz26_3 := blk_frozen BK102.out 3; have hfz26_4 := blk_frozen BK102.out 4
   go_wp2_with (first | ((with_reducible refine gate_callee (f := 35) rfl ?_); refine goesL_ (some 9) rfl rfl Try.func35 qa17 rfl #[.string a1_0] rfl qa1 ?_; (with_reducible refine (impl_NameOK.calls k a1_0 false _ A6.out).mono ?_); rintro e w' ⟨rfl, ⟨nd, rfl⟩⟩; refine ⟨_, rfl, ?_⟩))
   go_meet
   case rel => exact ⟨_, (true), qa11, H', ⟨qa77⟩, ⟨qa13⟩, ⟨qa31⟩, ⟨qa7⟩⟩
 case rest =>
  clear HC3
  try clear c1
  try clear c2
  try clear p2
  try clear c3
  try clear c7
  try clear c8
  try clear c8b0
  try clear c8b1
  try clear c9
  try clear c11
  try clear c11b0
  try clear c11b1
  try clear c12
  try clear c15
  try clear c15b0
  try clear c16
  try clear c20
  try clear c25
  try clear hcz10_0
  try clear hcz10_1
  try clear hcz10_2
  try clear hcz10_3
  try clear hcz10_4
  try clear hcz13_0
  try clear hcz13_1
  try clear hcz13_2
  try clear hcz13_3
  try clear hcz13_4
  try clear hcz17_0
  try clear hcz17_1
  try clear hcz17_2
  try clear hcz17_3
  try clear hcz17_4
  try clear hcz18_0
  try clear hcz21_0
  try clear hcz21_1
  try clear hcz21_2
  try clear hcz21_3
  try clear hcz21_4
  try clear hcz22_0
  try clear hcz24_0
  try clear hcz24_1
  try clear hcz24_2
  try clear hcz24_3
  try clear hcz24_4
  try clear hcz26_0
  try clear hcz26_1
  try clear hcz26_2
  try clear hcz26_3
  try clear hcz26_4
  try clear hfz10_0
  try clear hfz10_1
  try clear hfz10_2
  try clear hfz10_3
  try clear hfz10_4
  try clear hfz13_0
  try clear hfz13_1
  try clear hfz13_2
  try clear hfz13_3
  try clear hfz13_4
  try clear hfz17_0
  try clear hfz17_1
  try clear hfz17_2
  try clear hfz17_3
  try clear hfz17_4
  try clear hfz18_0
  try clear hfz21_0
  try clear hfz21_1
  try clear hfz21_2
  try clear hfz21_3
  try clear hfz21_4
  try clear hfz22_0
  try clear hfz24_0
  try clear hfz24_1
  try clear hfz24_2
  try clear hfz24_3
  try clear hfz24_4
  try clear hfz26_0
  try clear hfz26_1
  try clear hfz26_2
  try clear hfz26_3
  try clear hfz26_4
  obtain ⟨kq, x33_2, rfl, HA, HJ2, BK101, BK102, HB⟩ := hcut
  cases kq with
  | zero => exact absurd HA.out (by simp [impl_Schema_fieldOK.j0])
  | succ kj2 =>
   have H := HA.out; clear HA; simp only [impl_Schema_fieldOK.j0] at H
   by_cases c27 : x33_2 = true
   ·subst c27
    have H1 : (some false) = some r := by rw [if_pos rfl] at H; exact H
    clear H; have H := H1; clear H1; obtain rfl := Option.some.inj H; go_wp2
    go_ret
    exact ⟨qa3, qa7⟩
   ·replace c27 := Bool.eq_false_iff.mpr c27
    subst c27; have H1 : (impl_Schema_fieldOK.l0 kj2 l1_1 (l1_1.length : Int) 0 a1_0 l1_1 a1_2 a1_3 a1_4) = some r := by rw [if_neg (show ¬ (false = true) by decide)] at H; exact H
    clear H; have H := H1; clear H1; have H' := qO H; clear H; have hnb28 := NB102_101.out; have hnc28 := NB101_102.out; have hcz29_0 : wc.cell? ⟨gb102, 0, none⟩ = some (.string a1_0) := (blk_cell BK102.out 0).trans rfl; have hcz29_1 : wc.cell? ⟨gb102, 1, none⟩ = some (.slice A1_1 l1_1.length c1_1) := (blk_cell BK102.out 1).trans rfl; have hcz29_2 : wc.cell? ⟨gb102, 2, none⟩ = some (.string a1_2) := (blk_cell BK102.out 2).trans rfl; have hcz29_3 : wc.cell? ⟨gb102, 3, none⟩ = some (.bool a1_3) := (blk_cell BK102.out 3).trans rfl; have hcz29_4 : wc.cell? ⟨gb102, 4, none⟩ = some (.bool a1_4) := (blk_cell BK102.out 4).trans rfl; have hfz29_0 := blk_frozen BK102.out 0; have hfz29_1 := blk_frozen BK102.out 1; have hfz29_2 := blk_frozen BK102.out 2; have hfz29_3 := blk_frozen BK102.out 3; have hfz29_4 := blk_frozen BK102.out 4; go_wp2
    go_loopg [37] kj2 (fun kq v37 w' => ∃ (x37_2 : Int), v37 = .int .i64 x37_2 ∧ Aside0 (impl_Schema_fieldOK.l0 kq l1_1 (l1_1.length : Int) x37_2 a1_0 l1_1 a1_2 a1_3 a1_4 = some r) ∧ Aside0 (kq ≤ kj2) ∧ Aside0 (w'.heap[gb101]? = some (.cells #[(.slice A0_0 l0_0.length c0_0)] 29 (0, 0))) ∧ Aside0 (w'.heap[gb102]? = some (.cells #[.string a1_0, (.slice A1_1 l1_1.length c1_1), .string a1_2, .bool a1_3, .bool a1_4] 38 (0, 0))) ∧ Aside0 (Below w.heap.size w w'))
    case atStart => exact ⟨(0), qa11, H', ⟨Nat.le_refl _⟩, ⟨qa13⟩, ⟨qa31⟩, ⟨qa7⟩⟩
    case round =>
     clear H'
     try clear c1
     try clear c2
     try clear p2
     try clear c3
     try clear c7
     try clear c8
     try clear c8b0
     try clear c8b1
     try clear c9
     try clear c11
     try clear c11b0
     try clear c11b1
     try clear c12
     try clear c15
     try clear c15b0
     try clear c16
     try clear c20
     try clear c25
     try clear c27
     try clear c28
     try clear hcz10_0
     try clear hcz10_1
     try clear hcz10_2
     try clear hcz10_3
     try clear hcz10_4
     try clear hcz13_0
     try clear hcz13_1
     try clear hcz13_2
     try clear hcz13_3
     try clear hcz13_4
     try clear hcz17_0
     try clear hcz17_1
     try clear hcz17_2
     try clear hcz17_3
     try clear hcz17_4
     try clear hcz18_0
     try clear hcz21_0
     try clear hcz21_1
     try clear hcz21_2
     try clear hcz21_3
     try clear hcz21_4
     try clear hcz22_0
     try clear hcz24_0
     try clear hcz24_1
     try clear hcz24_2
     try clear hcz24_3
     try clear hcz24_4
     try clear hcz26_0
     try clear hcz26_1
     try clear hcz26_2
     try clear hcz26_3
     try clear hcz26_4
     try clear hcz29_0
     try clear hcz29_1
     try clear hcz29_2
     try clear hcz29_3
     try clear hcz29_4
     try clear hfz10_0
     try clear hfz10_1
     try clear hfz10_2
     try clear hfz10_3
     try clear hfz10_4
     try clear hfz13_0
     try clear hfz13_1
     try clear hfz13_2
     try clear hfz13_3
     try clear hfz13_4
     try clear hfz17_0
     try clear hfz17_1
     try clear hfz17_2
     try clear hfz17_3
     try clear hfz17_4
     try clear hfz18_0
     try clear hfz21_0
     try clear hfz21_1
     try clear hfz21_2
     try clear hfz21_3
     try clear hfz21_4
     try clear hfz22_0
     try clear hfz24_0
     try clear hfz24_1
     try clear hfz24_2
     try clear hfz24_3
     try clear hfz24_4
     try clear hfz26_0
     try clear hfz26_1
     try clear hfz26_2
     try clear hfz26_3
     try clear hfz26_4
     try clear hfz29_0
     try clear hfz29_1
     try clear hfz29_2
     try clear hfz29_3
     try clear hfz29_4
     try clear p2
     obtain ⟨x37_2, rfl, HA, HK2, BK101, BK102, HB⟩ := hrel
     cases gk with
     | zero => exact absurd HA.out (by simp [impl_Schema_fieldOK.l0])
     | succ k2 =>
      have H := HA.out; clear HA; simp only [impl_Schema_fieldOK.l0] at H
      by_cases c30 : x37_2 < (l1_1.length : Int)
      ·rw [if_pos c30] at H
       have c30b0 : decide (x37_2 < (l1_1.length : Int)) = true := decide_eq_true c30; clear c30
       by_cases c31 : 0 ≤ x37_2
       ·rw [if_pos c31] at H
        have c31b0 : decide (0 ≤ x37_2) = true := decide_eq_true c31; clear c31
        by_cases c32 : x37_2 < (l1_1.length : Int)
        ·rw [if_pos c32] at H
         have c32b0 : decide (x37_2 < (l1_1.length : Int)) = true := decide_eq_true c32; clear c32; replace H := Option.bind_eq_some_iff.mp H; obtain ⟨t107, A330, H⟩ := H; replace H : (if t107 = true then ((impl_FieldDef_argAt.f a1_0 l1_1 a1_2 a1_3 a1_4 ((rd_T57 l1_1 x37_2).f0)).bind fun t108 => (if t108 = x37_2 then (impl_Schema_fieldOK.l0 k2 l1_1 (l1_1.length : Int) (wrap64 (x37_2 + 1)) a1_0 l1_1 a1_2 a1_3 a1_4) else (some false))) else (some false)) = some r := H; have A33 := qO A330; clear A330
         by_cases c34 : t107 = true
         ·subst c34
          have H1 : ((impl_FieldDef_argAt.f a1_0 l1_1 a1_2 a1_3 a1_4 ((rd_T57 l1_1 x37_2).f0)).bind fun t108 => (if t108 = x37_2 then (impl_Schema_fieldOK.l0 k2 l1_1 (l1_1.length : Int) (wrap64 (x37_2 + 1)) a1_0 l1_1 a1_2 a1_3 a1_4) else (some false))) = some r := by rw [if_pos rfl] at H; exact H
          clear H; have H := H1; clear H1; replace H := Option.bind_eq_some_iff.mp H; obtain ⟨t108, A350, H⟩ := H; replace H : (if t108 = x37_2 then (impl_Schema_fieldOK.l0 k2 l1_1 (l1_1.length : Int) (wrap64 (x37_2 + 1)) a1_0 l1_1 a1_2 a1_3 a1_4) else (some false)) = some r := H; have A35 := qO A350; clear A350
          by_cases c36 : t108 = x37_2
          ·rw [if_pos c36] at H
           have c36b0 : (t108 == x37_2) = true := beq_iff_eq.mpr c36; have c36b1 : (t108 != x37_2) = false := bne_eq_false_iff_eq.mpr c36; clear c36; have H' := qO H; clear H; have p105 : 0 ≤ (x37_2 : Int) := qT qa5; have q105 : x37_2 < (l1_1.length : Int) := qT qa5; obtain ⟨ad105, e105, hx105_0, hx105_1⟩ := at_T57 HR1_1.out x37_2 p105 q105
           cases e105
           replace hx105_0 := (HB.out.cell (qL w _ hx105_0)).trans hx105_0; replace hx105_1 := (HB.out.cell (qL w _ hx105_1)).trans hx105_1; replace p105 := eq_true p105; replace q105 := eq_true q105
           go_wp2_with (first | ((with_reducible refine gate_dst (N := 6) rfl ?_); (try (refine gate_guard (by rfl) ?_; dsimp only)); refine box_event ?hg (N := 6) ?hd (cs := #[.string (⟨#[]⟩ : ByteArray), .bool false]) (t := 57) ?hr ?_; (case hd => rfl); (case hg => rfl); (case hr => exact qa18); intro gb106 hg w37 hbox hb; have hx_ := qHX HB hb qa0; have n0_ := qO (qB BK101.out hx_ hb); have n1_ := qO (qB BK102.out hx_ hb); have n2_ := qO (below_step (below_step HB.out hx_) hb); have n3_ := qO (hbox); have n4_ := qO ((qa15 : w.heap.size ≤ gb106)); have n5_ := n4_; have n6_ := qO ((qa24 : gb101 ≠ gb106)); have n7_ := qO (Ne.symm n6_.out); have n8_ := qO ((qa52 : gb102 ≠ gb106)); have n9_ := qO (Ne.symm n8_.out); clear BK101; clear BK102; clear HB; have BK101 := n0_; have BK102 := n1_; have HB := n2_; have BK106 := n3_; have GW106 := n4_; have GE106 := n5_; have NB101_106 := n6_; have NB106_101 := n7_; have NB102_106 := n8_; have NB106_102 := n9_; clear n0_ n1_ n2_ n3_ n4_ n5_ n6_ n7_ n8_ n9_; clear hx_; clear hb hbox hg; have hnb38 := NB106_101.out; have hnc38 := NB101_106.out; have hnb39 := NB106_102.out; have hnc39 := NB102_106.out; have hcz40_0 : w37.cell? ⟨gb106, 0, none⟩ = some (.string (⟨#[]⟩ : ByteArray)) := (blk_cell BK106.out 0).trans rfl; have hcz40_1 : w37.cell? ⟨gb106, 1, none⟩ = some (.bool false) := (blk_cell BK106.out 1).trans rfl; have hfz40_0 := blk_frozen BK106.out 0; have hfz40_1 := blk_frozen BK106.out 1) | ((with_reducible refine gate_callee (f := 35) rfl ?_); refine goesL_ (some 44) rfl rfl Try.func35 qa17 rfl #[.string ((rd_T57 l1_1 x37_2).f0)] rfl qa1 ?_; (with_reducible refine (impl_NameOK.calls k2 ((rd_T57 l1_1 x37_2).f0) true _ A33.out).mono ?_); rintro e w' ⟨rfl, ⟨nd, rfl⟩⟩; refine ⟨_, rfl, ?_⟩; have hnb41 := NB102_101.out; have hnc41 := NB101_102.out; have hcz42_0 : w37.cell? ⟨gb102, 0, none⟩ = some (.string a1_0) := (blk_cell BK102.out 0).trans rfl; have hcz42_1 : w37.cell? ⟨gb102, 1, none⟩ = some (.slice (some ad105) l1_1.length c1_1) := (blk_cell BK102.out 1).trans rfl; have hcz42_2 : w37.cell? ⟨gb102, 2, none⟩ = some (.string a1_2) := (blk_cell BK102.out 2).trans rfl; have hcz42_3 : w37.cell? ⟨gb102, 3, none⟩ = some (.bool a1_3) := (blk_cell BK102.out 3).trans rfl; have hcz42_4 : w37.cell? ⟨gb102, 4, none⟩ = some (.bool a1_4) := (blk_cell BK102.out 4).trans rfl; have hfz42_0 := blk_frozen BK102.out 0; have hfz42_1 := blk_frozen BK102.out 1; have hfz42_2 := blk_frozen BK102.out 2; have hfz42_3 := blk_frozen BK102.out 3; have hfz42_4 := blk_frozen BK102.out 4) | (go_at_call 61; (with_reducible refine (impl_FieldDef_argAt.calls a1_0 _ _ l1_1 a1_2 a1_3 a1_4 ((rd_T57 l1_1 x37_2).f0) t108 _ ?side1 ?side2 A35.out).mono ?_); (case side1 => exact qa86); (case side2 => exact HC1_1.out); rintro e w43 ⟨rfl, hb⟩; have n0_ := qO (blk_below (g := gb101) (o := .cells #[.slice A0_0 l0_0.length c0_0] 29 (0, 0)) qa55 hb); have n1_ := qO (blk_below (g := gb102) (o := .cells #[.string a1_0, .slice (some ad105) l1_1.length c1_1, .string a1_2, .bool a1_3, .bool a1_4] 38 (0, 0)) qa56 hb); have n2_ := qO (blk_below (g := gb106) (o := .cells #[.string ((rd_T57 l1_1 x37_2).f0), .bool ((rd_T57 l1_1 x37_2).f1)] 57 (0, 0)) qa48 hb); have n3_ := qO (below_step qa45 hb); clear BK101; clear BK102; clear BK106; clear HB; have BK101 := n0_; have BK102 := n1_; have BK106 := n2_; have HB := n3_; clear n0_ n1_ n2_ n3_; (try clear hb); (try clear hb2); (try clear hk); (try clear hi)))
           go_roundg k2
           case measure => have := HJ2.out; have := HK2.out; omega
           case rel => exact ⟨(wrap64 (x37_2 + 1)), qa11, H', ⟨by have := HJ2.out; have := HK2.out; omega⟩, ⟨qa13⟩, ⟨qa31⟩, ⟨qa45⟩⟩
          ·rw [if_neg c36] at H
           have c36b0 : (t108 == x37_2) = false := beq_eq_false_iff_ne.mpr c36; have c36b1 : (t108 != x37_2) = true := bne_iff_ne.mpr c36; obtain rfl := Option.some.inj H; have p105 : 0 ≤ (x37_2 : Int) := qT qa5; have q105 : x37_2 < (l1_1.length : Int) := qT qa5; obtain ⟨ad105, e105, hx105_0, hx105_1⟩ := at_T57 HR1_1.out x37_2 p105 q105
           cases e105
           replace hx105_0 := (HB.out.cell (qL w _ hx105_0)).trans hx105_0; replace hx105_1 := (HB.out.cell (qL w _ hx105_1)).trans hx105_1; replace p105 := eq_true p105; replace q105 := eq_true q105
           go_wp2_with (first | ((with_reducible refine gate_dst (N := 6) rfl ?_); (try (refine gate_guard (by rfl) ?_; dsimp only)); refine box_event ?hg (N := 6) ?hd (cs := #[.string (⟨#[]⟩ : ByteArray), .bool false]) (t := 57) ?hr ?_; (case hd => rfl); (case hg => rfl); (case hr => exact qa18); intro gb106 hg w44 hbox hb; have hx_ := qHX HB hb qa0; have n0_ := qO (qB BK101.out hx_ hb); have n1_ := qO (qB BK102.out hx_ hb); have n2_ := qO (below_step (below_step HB.out hx_) hb); have n3_ := qO (hbox); have n4_ := qO ((qa15 : w.heap.size ≤ gb106)); have n5_ := n4_; have n6_ := qO ((qa24 : gb101 ≠ gb106)); have n7_ := qO (Ne.symm n6_.out); have n8_ := qO ((qa52 : gb102 ≠ gb106)); have n9_ := qO (Ne.symm n8_.out); clear BK101; clear BK102; clear HB; have BK101 := n0_; have BK102 := n1_; have HB := n2_; have BK106 := n3_; have GW106 := n4_; have GE106 := n5_; have NB101_106 := n6_; have NB106_101 := n7_; have NB102_106 := n8_; have NB106_102 := n9_; clear n0_ n1_ n2_ n3_ n4_ n5_ n6_ n7_ n8_ n9_; clear hx_; clear hb hbox hg; have hnb45 := NB106_101.out; have hnc45 := NB101_106.out; have hnb46 := NB106_102.out; have hnc46 := NB102_106.out; have hcz47_0 : w44.cell? ⟨gb106, 0, none⟩ = some (.string (⟨#[]⟩ : ByteArray)) := (blk_cell BK106.out 0).trans rfl; have hcz47_1 : w44.cell? ⟨gb106, 1, none⟩ = some (.bool false) := (blk_cell BK106.out 1).trans rfl; have hfz47_0 := blk_frozen BK106.out 0; have hfz47_1 := blk_frozen BK106.out 1) | ((with_reducible refine gate_callee (f := 35) rfl ?_); refine goesL_ (some 44) rfl rfl Try.func35 qa17 rfl #[.string ((rd_T57 l1_1 x37_2).f0)] rfl qa1 ?_; (with_reducible refine (impl_NameOK.calls k2 ((rd_T57 l1_1 x37_2).f0) true _ A33.out).mono ?_); rintro e w' ⟨rfl, ⟨nd, rfl⟩⟩; refine ⟨_, rfl, ?_⟩; have hnb48 := NB102_101.out; have hnc48 := NB101_102.out; have hcz49_0 : w44.cell? ⟨gb102, 0, none⟩ = some (.string a1_0) := (blk_cell BK102.out 0).trans rfl; have hcz49_1 : w44.cell? ⟨gb102, 1, none⟩ = some (.slice (some ad105) l1_1.length c1_1) := (blk_cell BK102.out 1).trans rfl; have hcz49_2 : w44.cell? ⟨gb102, 2, none⟩ = some (.string a1_2) := (blk_cell BK102.out 2).trans rfl; have hcz49_3 : w44.cell? ⟨gb102, 3, none⟩ = some (.bool a1_3) := (blk_cell BK102.out 3).trans rfl; have hcz49_4 : w44.cell? ⟨gb102, 4, none⟩ = some (.bool a1_4) := (blk_cell BK102.out 4).trans rfl; have hfz49_0 := blk_frozen BK102.out 0; have hfz49_1 := blk_frozen BK102.out 1; have hfz49_2 := blk_frozen BK102.out 2; have hfz49_3 := blk_frozen BK102.out 3; have hfz49_4 := blk_frozen BK102.out 4) | (go_at_call 61; (with_reducible refine (impl_FieldDef_argAt.calls a1_0 _ _ l1_1 a1_2 a1_3 a1_4 ((rd_T57 l1_1 x37_2).f0) t108 _ ?side1 ?side2 A35.out).mono ?_); (case side1 => exact qa86); (case side2 => exact HC1_1.out); rintro e w50 ⟨rfl, hb⟩; have n0_ := qO (blk_below (g := gb101) (o := .cells #[.slice A0_0 l0_0.length c0_0] 29 (0, 0)) qa55 hb); have n1_ := qO (blk_below (g := gb102) (o := .cells #[.string a1_0, .slice (some ad105) l1_1.length c1_1, .string a1_2, .bool a1_3, .bool a1_4] 38 (0, 0)) qa56 hb); have n2_ := qO (blk_below (g := gb106) (o := .cells #[.string ((rd_T57 l1_1 x37_2).f0), .bool ((rd_T57 l1_1 x37_2).f1)] 57 (0, 0)) qa48 hb); have n3_ := qO (below_step qa45 hb); clear BK101; clear BK102; clear BK106; clear HB; have BK101 := n0_; have BK102 := n1_; have BK106 := n2_; have HB := n3_; clear n0_ n1_ n2_ n3_; (try clear hb); (try clear hb2); (try clear hk); (try clear hi)))
           go_ret
           exact ⟨qa3, qa45⟩
         ·replace c34 := Bool.eq_false_iff.mpr c34
          subst c34; have H1 : (some false) = some r := by rw [if_neg (show ¬ (false = true) by decide)] at H; exact H
          clear H; have H := H1; clear H1; obtain rfl := Option.some.inj H; have p105 : 0 ≤ (x37_2 : Int) := qT qa5; have q105 : x37_2 < (l1_1.length : Int) := qT qa5; obtain ⟨ad105, e105, hx105_0, hx105_1⟩ := at_T57 HR1_1.out x37_2 p105 q105
          cases e105
          replace hx105_0 := (HB.out.cell (qL w _ hx105_0)).trans hx105_0; replace hx105_1 := (HB.out.cell (qL w _ hx105_1)).trans hx105_1; replace p105 := eq_true p105; replace q105 := eq_true q105
          go_wp2_with (first | ((with_reducible refine gate_dst (N := 6) rfl ?_); (try (refine gate_guard (by rfl) ?_; dsimp only)); refine box_event ?hg (N := 6) ?hd (cs := #[.string (⟨#[]⟩ : ByteArray), .bool false]) (t := 57) ?hr ?_; (case hd => rfl); (case hg => rfl); (case hr => exact qa18); intro gb106 hg w51 hbox hb; have hx_ := qHX HB hb qa0; have n0_ := qO (qB BK101.out hx_ hb); have n1_ := qO (qB BK102.out hx_ hb); have n2_ := qO (below_step (below_step HB.out hx_) hb); have n3_ := qO (hbox); have n4_ := qO ((qa15 : w.heap.size ≤ gb106)); have n5_ := n4_; have n6_ := qO ((qa24 : gb101 ≠ gb106)); have n7_ := qO (Ne.symm n6_.out); have n8_ := qO ((qa52 : gb102 ≠ gb106)); have n9_ := qO (Ne.symm n8_.out); clear BK101; clear BK102; clear HB; have BK101 := n0_; have BK102 := n1_; have HB := n2_; have BK106 := n3_; have GW106 := n4_; have GE106 := n5_; have NB101_106 := n6_; have NB106_101 := n7_; have NB102_106 := n8_; have NB106_102 := n9_; clear n0_ n1_ n2_ n3_ n4_ n5_ n6_ n7_ n8_ n9_; clear hx_; clear hb hbox hg; have hnb52 := NB106_101.out; have hnc52 := NB101_106.out; have hnb53 := NB106_102.out; have hnc53 := NB102_106.out; have hcz54_0 : w51.cell? ⟨gb106, 0, none⟩ = some (.string (⟨#[]⟩ : ByteArray)) := (blk_cell BK106.out 0).trans rfl; have hcz54_1 : w51.cell? ⟨gb106, 1, none⟩ = some (.bool false) := (blk_cell BK106.out 1).trans rfl; have hfz54_0 := blk_frozen BK106.out 0; have hfz54_1 := blk_frozen BK106.out 1) | ((with_reducible refine gate_callee (f := 35) rfl ?_); refine goesL_ (some 44) rfl rfl Try.func35 qa17 rfl #[.string ((rd_T57 l1_1 x37_2).f0)] rfl qa1 ?_; (with_reducible refine (impl_NameOK.calls k2 ((rd_T57 l1_1 x37_2).f0) false _ A33.out).mono ?_); rintro e w' ⟨rfl, ⟨nd, rfl⟩⟩; refine ⟨_, rfl, ?_⟩))
          go_ret
          exact ⟨qa3, qa45⟩
        ·rw [if_neg c32] at H
         exact absurd H qa91
       ·rw [if_neg c31] at H
        exact absurd H qa91
      ·rw [if_neg c30] at H
       have c30b0 : decide (x37_2 < (l1_1.length : Int)) = false := decide_eq_false c30; clear c30; obtain rfl := Option.some.inj H; go_wp2
       go_ret
       exact ⟨qa3, qa7⟩


mutual
def impl_SchemaOK.j0 : Nat → Bool → List (S53) → Option (Bool)
 | 0, _, _ => none
 | k + 1, x16, x102000 => if x16 = true then (some false) else (impl_SchemaOK.l0 k x102000 (x102000.length : Int) 0 x102000)
def impl_SchemaOK.l0 : Nat → List (S53) → Int → Int → List (S53) → Option (Bool)
 | 0, _, _, _, _ => none
 | k + 1, x18, x19, x20, x102000 => if x20 < x19 then (if 0 ≤ x20 then (if x20 < (x18.length : Int) then ((impl_NameOK.f k ((rd_T53 x18 x20).f0)).bind fun t106 => (if t106 = true then (if ((rd_T53 x18 x20).f0).toList = ([73, 110, 116] : List UInt8) then (impl_SchemaOK.j2 k x18 x19 x20 true x102000 ((rd_T53 x18 x20).f0) ((rd_T53 x18 x20).f1)) else ((impl_Schema_typeAt.f x102000 ((rd_T53 x18 x20).f0)).bind fun t107 => (if t107 = x20 then ((impl_within.f (((rd_T53 x18 x20).f1).length : Int) 1 10).bind fun t108 => (impl_SchemaOK.j2 k x18 x19 x20 (!t108) x102000 ((rd_T53 x18 x20).f0) ((rd_T53 x18 x20).f1))) else (impl_SchemaOK.j2 k x18 x19 x20 true x102000 ((rd_T53 x18 x20).f0) ((rd_T53 x18 x20).f1))))) else (impl_SchemaOK.j2 k x18 x19 x20 true x102000 ((rd_T53 x18 x20).f0) ((rd_T53 x18 x20).f1)))) else (none)) else (none)) else (some true)
def impl_SchemaOK.j2 : Nat → List (S53) → Int → Int → Bool → List (S53) → ByteArray → List (S38) → Option (Bool)
 | 0, _, _, _, _, _, _, _ => none
 | k + 1, x18, x19, x20, x48, x102000, x106000, x106001 => if x48 = true then (some false) else (impl_SchemaOK.l1 k x18 x19 x20 x106001 (x106001.length : Int) 0 x102000 x106000 x106001)
def impl_SchemaOK.l1 : Nat → List (S53) → Int → Int → List (S38) → Int → Int → List (S53) → ByteArray → List (S38) → Option (Bool)
 | 0, _, _, _, _, _, _, _, _, _ => none
 | k + 1, x18, x19, x20, x50, x51, x52, x102000, x106000, x106001 => if x52 < x51 then (if 0 ≤ x52 then (if x52 < (x50.length : Int) then ((impl_Schema_fieldOK.f k x102000 ((rd_T38 x50 x52).f0) ((rd_T38 x50 x52).f1) ((rd_T38 x50 x52).f2) ((rd_T38 x50 x52).f3) ((rd_T38 x50 x52).f4)).bind fun t111 => (if t111 = true then ((impl_TypeDef_fieldAt.f x106000 x106001 ((rd_T38 x50 x52).f0)).bind fun t112 => (if t112 = x52 then (impl_SchemaOK.l1 k x18 x19 x20 x50 x51 (wrap64 (x52 + 1)) x102000 x106000 x106001) else (some false))) else (some false))) else (none)) else (none)) else (impl_SchemaOK.l0 k x18 x19 (wrap64 (x20 + 1)) x102000)
end
def impl_SchemaOK.f (k : Nat) (l0_0 : List (S53)) : Option (Bool) := (impl_within.f (l0_0.length : Int) 1 8).bind fun t102 => (if t102 = true then ((impl_Schema_typeAt.f l0_0 (⟨#[81, 117, 101, 114, 121]⟩ : ByteArray)).bind fun t103 => (impl_SchemaOK.j0 k (decide (t103 < 0)) l0_0)) else (impl_SchemaOK.j0 k true l0_0))
set_option maxHeartbeats 8000000 in
set_option maxRecDepth 100000 in
theorem impl_SchemaOK.calls (k : Nat) (A0_0 : Option Addr) (c0_0 : Nat) (l0_0 : List (S53)) (r : Bool) (w : World) (hr0_0 : Kd.C k53 w A0_0 l0_0.length l0_0) (hc0_0 : l0_0.length ≤ c0_0) (h : impl_SchemaOK.f k l0_0 = some r) :
  Calls Try.prog 11 #[.agg #[.slice A0_0 l0_0.length c0_0]] w fun e w' => e = .returned (.bool r) ∧ Below w.heap.size w w' := by
 have hu29 := Try.underlying29; have hu53 := Try.underlying53; have hu38 := Try.underlying38; have HR0_0 := qO hr0_0; have HC0_0 := qO hc0_0; clear hr0_0 hc0_0; have HB := qO (Below.refl w.heap.size w); have H : ((impl_within.f (l0_0.length : Int) 1 8).bind fun t102 => (if t102 = true then ((impl_Schema_typeAt.f l0_0 (⟨#[81, 117, 101, 114, 121]⟩ : ByteArray)).bind fun t103 => (impl_SchemaOK.j0 k (decide (t103 < 0)) l0_0)) else (impl_SchemaOK.j0 k true l0_0))) = some r := h; clear h; have HC2 := qO H; clear H
 go_enter Try.func11, Try.ntmps11
 go_upto_region 1 with (first | ((with_reducible refine gate_dst (N := 1) rfl ?_); (try (refine gate_guard (by rfl) ?_; dsimp only)); refine box_event ?hg (N := 1) ?hd (cs := #[.slice A0_0 l0_0.length c0_0]) (t := 29) ?hr ?_; (case hd => rfl); (case hg => rfl); (case hr => exact qa18); intro gb101 hg w3 hbox hb; have n0_ := qO (below_step qa8 hb); have n1_ := qO (hbox); have n2_ := qO ((qa40 : w.heap.size ≤ gb101)); have n3_ := qO ((qa40 : w.heap.size ≤ gb101)); clear HB; have HB := n0_; have BK101 := n1_; have GW101 := n2_; have GE101 := n3_; clear n0_ n1_ n2_ n3_; clear hb hbox hg))
 (try simp only [Act.put, qzA, qzB, qzC])
 go_cut [16] (fun v16 wc => ∃ (kq : Nat) (x16_1 : Bool), v16 = .bool x16_1 ∧ Aside0 (impl_SchemaOK.j0 kq x16_1 l0_0 = some r) ∧ Aside0 (kq ≤ k) ∧ Aside0 (wc.heap[gb101]? = some (.cells #[(.slice A0_0 l0_0.length c0_0)] 29 (0, 0))) ∧ Aside0 (Below w.heap.size w wc))
 case first =>
  have H := HC2.out; clear HC2; replace H := Option.bind_eq_some_iff.mp H; obtain ⟨t102, A40, H⟩ := H; replace H : (if t102 = true then ((impl_Schema_typeAt.f l0_0 (⟨#[81, 117, 101, 114, 121]⟩ : ByteArray)).bind fun t103 => (impl_SchemaOK.j0 k (decide (t103 < 0)) l0_0)) else (impl_SchemaOK.j0 k true l0_0)) = some r := H; have A4 := qO A40; clear A40
  by_cases c5 : t102 = true
  ·subst c5
   have H1 : ((impl_Schema_typeAt.f l0_0 (⟨#[81, 117, 101, 114, 121]⟩ : ByteArray)).bind fun t103 => (impl_SchemaOK.j0 k (decide (t103 < 0)) l0_0)) = some r := by rw [if_pos rfl] at H; exact H
   clear H; have H := H1; clear H1; replace H := Option.bind_eq_some_iff.mp H; obtain ⟨t103, A60, H⟩ := H; replace H : (impl_SchemaOK.j0 k (decide (t103 < 0)) l0_0) = some r := H; have A6 := qO A60; clear A60; have H' := qO H; clear H; have hcz7_0 : w3.cell? ⟨gb101, 0, none⟩ = some (.slice A0_0 l0_0.length c0_0) := (blk_cell BK101.out 0).trans rfl; have hfz7_0 := blk_frozen BK101.out 0
   go_wp2_with (first | ((with_reducible refine gate_callee (f := 33) rfl ?_); refine goesL_ (some 10) rfl rfl Try.func33 qa17 rfl #[.int .i64 (l0_0.length : Int), .int .i64 1, .int .i64 8] rfl qa1 ?_; (with_reducible refine (impl_within.calls (l0_0.length : Int) 1 8 true _ A4.out).mono ?_); rintro e w' ⟨rfl, ⟨nd, rfl⟩⟩; refine ⟨_, rfl, ?_⟩) | (go_at_call 34; (with_reducible refine (impl_Schema_typeAt.calls _ _ l0_0 (⟨#[81, 117, 101, 114, 121]⟩ : ByteArray) t103 _ ?side1 ?side2 A6.out).mono ?_); (case side1 => exact qa74); (case side2 => exact HC0_0.out); rintro e w8 ⟨rfl, hb⟩; have hx_ := qHX HB hb qa0; have n0_ := qO (qB BK101.out hx_ hb); have n1_ := qO (below_step (below_step HB.out hx_) hb); clear BK101; clear HB; have BK101 := n0_; have HB := n1_; clear n0_ n1_; clear hx_; (try clear hb); (try clear hb2); (try clear hk); (try clear hi)))
   go_meet
   case rel => exact ⟨_, (decide (t103 < 0)), qa11, H', ⟨qa77⟩, ⟨qa13⟩, ⟨qa6⟩⟩
  ·replace c5 := Bool.eq_false_iff.mpr c5
   subst c5; have H1 : (impl_SchemaOK.j0 k true l0_0) = some r := by rw [if_neg (show ¬ (false = true) by decide)] at H; exact H
   clear H; have H := H1; clear H1; have H' := qO H; clear H; have hcz9_0 : w3.cell? ⟨gb101, 0, none⟩ = some (.slice A0_0 l0_0.length c0_0) := (blk_cell BK101.out 0).trans rfl; have hfz9_0 := blk_frozen BK101.out 0
   go_wp2_with (first | ((with_reducible refine gate_callee (f := 33) rfl ?_); refine goesL_ (some 10) rfl rfl Try.func33 qa17 rfl #[.int .i64 (l0_0.length : Int), .int .i64 1, .int .i64 8] rfl qa1 ?_; (with_reducible refine (impl_within.calls (l0_0.length : Int) 1 8 false _ A4.out).mono ?_); rintro e w' ⟨rfl, ⟨nd, rfl⟩⟩; refine ⟨_, rfl, ?_⟩))
   go_meet
   case rel => exact ⟨_, (true), qa11, H', ⟨qa77⟩, ⟨qa13⟩, ⟨qa6⟩⟩
 case rest =>
  clear HC2
  try clear c1
  try clear p2
  try clear c3
  try clear c5
  try clear hcz7_0
  try clear hcz9_0
  try clear hfz7_0
  try clear hfz9_0
  obtain ⟨kq, x16_1, rfl, HA, HJ1, BK101, HB⟩ := hcut
  cases kq with
  | zero => exact absurd HA.out (by simp [impl_SchemaOK.j0])
  | succ kj1 =>
   have H := HA.out; clear HA; simp only [impl_SchemaOK.j0] at H
   by_cases c10 : x16_1 = true
   ·subst c10
    have H1 : (some false) = some r := by rw [if_pos rfl] at H; exact H
    clear H; have H := H1; clear H1; obtain rfl := Option.some.inj H; go_wp2
    go_ret
    exact ⟨qa3, qa6⟩
   ·replace c10 := Bool.eq_false_iff.mpr c10
    subst c10; have H1 : (impl_SchemaOK.l0 kj1 l0_0 (l0_0.length : Int) 0 l0_0) = some r := by rw [if_neg (show ¬ (false = true) by decide)] at H; exact H
    clear H; have H := H1; clear H1; have H' := qO H; clear H; have hcz11_0 : wc.cell? ⟨gb101, 0, none⟩ = some (.slice A0_0 l0_0.length c0_0) := (blk_cell BK101.out 0).trans rfl; have hfz11_0 := blk_frozen BK101.out 0; go_wp2
    go_loopg [20] kj1 (fun kq v20 w' => ∃ (x20_2 : Int), v20 = .int .i64 x20_2 ∧ Aside0 (impl_SchemaOK.l0 kq l0_0 (l0_0.length : Int) x20_2 l0_0 = some r) ∧ Aside0 (kq ≤ kj1) ∧ Aside0 (w'.heap[gb101]? = some (.cells #[(.slice A0_0 l0_0.length c0_0)] 29 (0, 0))) ∧ Aside0 (Below w.heap.size w w'))
    case atStart => exact ⟨(0), qa11, H', ⟨Nat.le_refl _⟩, ⟨qa13⟩, ⟨qa6⟩⟩
    case round =>
     clear H'
     try clear c1
     try clear p2
     try clear c3
     try clear c5
     try clear c10
     try clear c11
     try clear hcz11_0
     try clear hcz7_0
     try clear hcz9_0
     try clear hfz11_0
     try clear hfz7_0
     try clear hfz9_0
     try clear p2
     obtain ⟨x20_2, rfl, HA, HK2, BK101, HB⟩ := hrel
     cases gk with
     | zero => exact absurd HA.out (by simp [impl_SchemaOK.l0])
     | succ k2 =>
      have H := HA.out; clear HA; simp only [impl_SchemaOK.l0] at H
      by_cases c12 : x20_2 < (l0_0.length : Int)
      ·rw [if_pos c12] at H
       have c12b0 : decide (x20_2 < (l0_0.length : Int)) = true := decide_eq_true c12; clear c12
       by_cases c13 : 0 ≤ x20_2
       ·rw [if_pos c13] at H
        have c13b0 : decide (0 ≤ x20_2) = true := decide_eq_true c13; clear c13
        by_cases c14 : x20_2 < (l0_0.length : Int)
        ·rw [if_pos c14] at H
         have c14b0 : decide (x20_2 < (l0_0.length : Int)) = true := decide_eq_true c14; clear c14; have HC15 := qO H; clear H; have p104 : 0 ≤ (x20_2 : Int) := qT qa5; have q104 : x20_2 < (l0_0.length : Int) := qT qa5; obtain ⟨ad104, A104_1, c104_1, e104, hx104_0, hx104_1, hl104_1, hi104_1⟩ := at_T53 HR0_0.out x20_2 p104 q104
         cases e104
         replace hx104_0 := (HB.out.cell (qL w _ hx104_0)).trans hx104_0; replace hx104_1 := (HB.out.cell (qL w _ hx104_1)).trans hx104_1; have HR104_1 := qO hi104_1; have HC104_1 := qO hl104_1; clear hi104_1 hl104_1; replace p104 := eq_true p104; replace q104 := eq_true q104
         go_upto_region 6 with (first | ((with_reducible refine gate_dst (N := 4) rfl ?_); (try (refine gate_guard (by rfl) ?_; dsimp only)); refine box_event ?hg (N := 4) ?hd (cs := #[.string (⟨#[]⟩ : ByteArray), .slice none 0 0]) (t := 53) ?hr ?_; (case hd => rfl); (case hg => rfl); (case hr => exact qa18); intro gb105 hg w16 hbox hb; have n0_ := qO (blk_below (g := gb101) (o := .cells #[.slice (some ad104) l0_0.length c0_0] 29 (0, 0)) qa13 hb); have n1_ := qO (below_step qa6 hb); have n2_ := qO (hbox); have n3_ := qO ((qa37 : w.heap.size ≤ gb105)); have n4_ := qO ((qa37 : w.heap.size ≤ gb105)); have n5_ := qO ((qa36 : gb101 ≠ gb105)); have n6_ := qO ((qa58 : gb105 ≠ gb101)); clear BK101; clear HB; have BK101 := n0_; have HB := n1_; have BK105 := n2_; have GW105 := n3_; have GE105 := n4_; have NB101_105 := n5_; have NB105_101 := n6_; clear n0_ n1_ n2_ n3_ n4_ n5_ n6_; clear hb hbox hg; have hnb17 := NB105_101.out; have hnc17 := NB101_105.out; have hcz18_0 : w16.cell? ⟨gb105, 0, none⟩ = some (.string (⟨#[]⟩ : ByteArray)) := (blk_cell BK105.out 0).trans rfl; have hcz18_1 : w16.cell? ⟨gb105, 1, none⟩ = some (.slice none 0 0) := (blk_cell BK105.out 1).trans rfl; have hfz18_0 := blk_frozen BK105.out 0; have hfz18_1 := blk_frozen BK105.out 1))
         (try simp only [Act.put, qzA, qzB, qzC])
         go_cut [48] (fun v48 wc => ∃ (kq : Nat) (x48_14 : Bool), v48 = .bool x48_14 ∧ Aside0 (impl_SchemaOK.j2 kq l0_0 (l0_0.length : Int) x20_2 x48_14 l0_0 ((rd_T53 l0_0 x20_2).f0) ((rd_T53 l0_0 x20_2).f1) = some r) ∧ Aside0 (kq ≤ k2) ∧ Aside0 (wc.heap[gb101]? = some (.cells #[(.slice (some ad104) l0_0.length c0_0)] 29 (0, 0))) ∧ Aside0 (wc.heap[gb105]? = some (.cells #[.string ((rd_T53 l0_0 x20_2).f0), (.slice A104_1 ((rd_T53 l0_0 x20_2).f1).length c104_1)] 53 (0, 0))) ∧ Aside0 (Below w.heap.size w wc))
         case first =>
          have H := HC15.out; clear HC15; replace H := Option.bind_eq_some_iff.mp H; obtain ⟨t106, A190, H⟩ := H; replace H : (if t106 = true then (if ((rd_T53 l0_0 x20_2).f0).toList = ([73, 110, 116] : List UInt8) then (impl_SchemaOK.j2 k2 l0_0 (l0_0.length : Int) x20_2 true l0_0 ((rd_T53 l0_0 x20_2).f0) ((rd_T53 l0_0 x20_2).f1)) else ((impl_Schema_typeAt.f l0_0 ((rd_T53 l0_0 x20_2).f0)).bind fun t107 => (if t107 = x20_2 then ((impl_within.f (((rd_T53 l0_0 x20_2).f1).length : Int) 1 10).bind fun t108 => (impl_SchemaOK.j2 k2 l0_0 (l0_0.length : Int) x20_2 (!t108) l0_0 ((rd_T53 l0_0 x20_2).f0) ((rd_T53 l0_0 x20_2).f1))) else (impl_SchemaOK.j2 k2 l0_0 (l0_0.length : Int) x20_2 true l0_0 ((rd_T53 l0_0 x20_2).f0) ((rd_T53 l0_0 x20_2).f1))))) else (impl_SchemaOK.j2 k2 l0_0 (l0_0.length : Int) x20_2 true l0_0 ((rd_T53 l0_0 x20_2).f0) ((rd_T53 l0_0 x20_2).f1))) = some r := H; have A19 := qO A190; clear A190
          by_cases c20 : t106 = true
          ·subst c20
           have H1 : (if ((rd_T53 l0_0 x20_2).f0).toList = ([73, 110, 116] : List UInt8) then (impl_SchemaOK.j2 k2 l0_0 (l0_0.length : Int) x20_2 true l0_0 ((rd_T53 l0_0 x20_2).f0) ((rd_T53 l0_0 x20_2).f1)) else ((impl_Schema_typeAt.f l0_0 ((rd_T53 l0_0 x20_2).f0)).bind fun t107 => (if t107 = x20_2 then ((impl_within.f (((rd_T53 l0_0 x20_2).f1).length : Int) 1 10).bind fun t108 => (impl_SchemaOK.j2 k2 l0_0 (l0_0.length : Int) x20_2 (!t108) l0_0 ((rd_T53 l0_0 x20_2).f0) ((rd_T53 l0_0 x20_2).f1))) else (impl_SchemaOK.j2 k2 l0_0 (l0_0.length : Int) x20_2 true l0_0 ((rd_T53 l0_0 x20_2).f0) ((rd_T53 l0_0 x20_2).f1))))) = some r := by rw [if_pos rfl] at H; exact H
           clear H; have H := H1; clear H1
           by_cases c21 : ((rd_T53 l0_0 x20_2).f0).toList = ([73, 110, 116] : List UInt8)
           ·rw [if_pos c21] at H
            have c21b0 : (((rd_T53 l0_0 x20_2).f0).toList == ([73, 110, 116] : List UInt8)) = true := beq_iff_eq.mpr c21; have c21b1 : (((rd_T53 l0_0 x20_2).f0).toList != ([73, 110, 116] : List UInt8)) = false := bne_eq_false_iff_eq.mpr c21; clear c21; (first | rw [c21b0] | (simp only [i64_w, i32_w]; rw [c21b0]) | skip); have H' := qO H; clear H; have hnb22 := NB105_101.out; have hnc22 := NB101_105.out; have hcz23_0 : w16.cell? ⟨gb105, 0, none⟩ = some (.string (⟨#[]⟩ : ByteArray)) := (blk_cell BK105.out 0).trans rfl; have hcz23_1 : w16.cell? ⟨gb105, 1, none⟩ = some (.slice none 0 0) := (blk_cell BK105.out 1).trans rfl; have hfz23_0 := blk_frozen BK105.out 0; have hfz23_1 := blk_frozen BK105.out 1
            go_wp2_with (first | ((with_reducible refine gate_callee (f := 35) rfl ?_); refine goesL_ (some 27) rfl rfl Try.func35 qa17 rfl #[.string ((rd_T53 l0_0 x20_2).f0)] rfl qa1 ?_; (with_reducible refine (impl_NameOK.calls k2 ((rd_T53 l0_0 x20_2).f0) true _ A19.out).mono ?_); rintro e w' ⟨rfl, ⟨nd, rfl⟩⟩; refine ⟨_, rfl, ?_⟩))
            go_meet
            case rel => exact ⟨_, (true), qa11, H', ⟨qa71⟩, ⟨qa21⟩, ⟨qa29⟩, ⟨qa20⟩⟩
           ·rw [if_neg c21] at H
            have c21b0 : (((rd_T53 l0_0 x20_2).f0).toList == ([73, 110, 116] : List UInt8)) = false := beq_eq_false_iff_ne.mpr c21; have c21b1 : (((rd_T53 l0_0 x20_2).f0).toList != ([73, 110, 116] : List UInt8)) = true := bne_iff_ne.mpr c21; (first | rw [c21b0] | (simp only [i64_w, i32_w]; rw [c21b0]) | skip); replace H := Option.bind_eq_some_iff.mp H; obtain ⟨t107, A240, H⟩ := H; replace H : (if t107 = x20_2 then ((impl_within.f (((rd_T53 l0_0 x20_2).f1).length : Int) 1 10).bind fun t108 => (impl_SchemaOK.j2 k2 l0_0 (l0_0.length : Int) x20_2 (!t108) l0_0 ((rd_T53 l0_0 x20_2).f0) ((rd_T53 l0_0 x20_2).f1))) else (impl_SchemaOK.j2 k2 l0_0 (l0_0.length : Int) x20_2 true l0_0 ((rd_T53 l0_0 x20_2).f0) ((rd_T53 l0_0 x20_2).f1))) = some r := H; have A24 := qO A240; clear A240
            by_cases c25 : t107 = x20_2
            ·rw [if_pos c25] at H
             have c25b0 : (t107 == x20_2) = true := beq_iff_eq.mpr c25; have c25b1 : (t107 != x20_2) = false := bne_eq_false_iff_eq.mpr c25; clear c25; replace H := Option.bind_eq_some_iff.mp H; obtain ⟨t108, A260, H⟩ := H; replace H : (impl_SchemaOK.j2 k2 l0_0 (l0_0.length : Int) x20_2 (!t108) l0_0 ((rd_T53 l0_0 x20_2).f0) ((rd_T53 l0_0 x20_2).f1)) = some r := H; have A26 := qO A260; clear A260; have H' := qO H; clear H; have hnb27 := NB105_101.out; have hnc27 := NB101_105.out; have hcz28_0 : w16.cell? ⟨gb105, 0, none⟩ = some (.string (⟨#[]⟩ : ByteArray)) := (blk_cell BK105.out 0).trans rfl; have hcz28_1 : w16.cell? ⟨gb105, 1, none⟩ = some (.slice none 0 0) := (blk_cell BK105.out 1).trans rfl; have hfz28_0 := blk_frozen BK105.out 0; have hfz28_1 := blk_frozen BK105.out 1
             go_wp2_with (first | ((with_reducible refine gate_callee (f := 35) rfl ?_); refine goesL_ (some 27) rfl rfl Try.func35 qa17 rfl #[.string ((rd_T53 l0_0 x20_2).f0)] rfl qa1 ?_; (with_reducible refine (impl_NameOK.calls k2 ((rd_T53 l0_0 x20_2).f0) true _ A19.out).mono ?_); rintro e w' ⟨rfl, ⟨nd, rfl⟩⟩; refine ⟨_, rfl, ?_⟩; have hcz29_0 : w16.cell? ⟨gb101, 0, none⟩ = some (.slice (some ad104) l0_0.length c0_0) := (blk_cell BK101.out 0).trans rfl; have hfz29_0 := blk_frozen BK101.out 0) | (go_at_call 34; (with_reducible refine (impl_Schema_typeAt.calls _ _ l0_0 ((rd_T53 l0_0 x20_2).f0) t107 _ ?side1 ?side2 A24.out).mono ?_); (case side1 => exact qa54); (case side2 => exact HC0_0.out); rintro e w30 ⟨rfl, hb⟩; have n0_ := qO (blk_below (g := gb101) (o := .cells #[.slice (some ad104) l0_0.length c0_0] 29 (0, 0)) qa21 hb); have n1_ := qO (blk_below (g := gb105) (o := .cells #[.string ((rd_T53 l0_0 x20_2).f0), .slice A104_1 ((rd_T53 l0_0 x20_2).f1).length c104_1] 53 (0, 0)) qa29 hb); have n2_ := qO (below_step qa20 hb); clear BK101; clear BK105; clear HB; have BK101 := n0_; have BK105 := n1_; have HB := n2_; clear n0_ n1_ n2_; (try clear hb); (try clear hb2); (try clear hk); (try clear hi); have hcz31_0 : w30.cell? ⟨gb105, 0, none⟩ = some (.string ((rd_T53 l0_0 x20_2).f0)) := (blk_cell BK105.out 0).trans rfl; have hcz31_1 : w30.cell? ⟨gb105, 1, none⟩ = some (.slice A104_1 ((rd_T53 l0_0 x20_2).f1).length c104_1) := (blk_cell BK105.out 1).trans rfl; have hfz31_0 := blk_frozen BK105.out 0; have hfz31_1 := blk_frozen BK105.out 1) | (go_at_call 33; (with_reducible refine (impl_within.calls (((rd_T53 l0_0 x20_2).f1).length : Int) 1 10 t108 _ A26.out).mono ?_); rintro e w' ⟨rfl, ⟨nd, rfl⟩⟩))
             go_meet
             case rel => exact ⟨_, (!t108), qa11, H', ⟨qa71⟩, ⟨qa13⟩, ⟨qa34⟩, ⟨qa20⟩⟩
            ·rw [if_neg c25] at H
             have c25b0 : (t107 == x20_2) = false := beq_eq_false_iff_ne.mpr c25; have c25b1 : (t107 != x20_2) = true := bne_iff_ne.mpr c25; have H' := qO H; clear H; have hnb32 := NB105_101.out; have hnc32 := NB101_105.out; have hcz33_0 : w16.cell? ⟨gb105, 0, none⟩ = some (.string (⟨#[]⟩ : ByteArray)) := (blk_cell BK105.out 0).trans rfl; have hcz33_1 : w16.cell? ⟨gb105, 1, none⟩ = some (.slice none 0 0) := (blk_cell BK105.out 1).trans rfl; have hfz33_0 := blk_frozen BK105.out 0; have hfz33_1 := blk_frozen BK105.out 1
             go_wp2_with (first | ((with_reducible refine gate_callee (f := 35) rfl ?_); refine goesL_ (some 27) rfl rfl Try.func35 qa17 rfl #[.string ((rd_T53 l0_0 x20_2).f0)] rfl qa1 ?_; (with_reducible refine (impl_NameOK.calls k2 ((rd_T53 l0_0 x20_2).f0) true _ A19.out).mono ?_); rintro e w' ⟨rfl, ⟨nd, rfl⟩⟩; refine ⟨_, rfl, ?_⟩; have hcz34_0 : w16.cell? ⟨gb101, 0, none⟩ = some (.slice (some ad104) l0_0.length c0_0) := (blk_cell BK101.out 0).trans rfl; have hfz34_0 := blk_frozen BK101.out 0) | (go_at_call 34; (with_reducible refine (impl_Schema_typeAt.calls _ _ l0_0 ((rd_T53 l0_0 x20_2).f0) t107 _ ?side1 ?side2 A24.out).mono ?_); (case side1 => exact qa54); (case side2 => exact HC0_0.out); rintro e w35 ⟨rfl, hb⟩; have n0_ := qO (blk_below (g := gb101) (o := .cells #[.slice (some ad104) l0_0.length c0_0] 29 (0, 0)) qa21 hb); have n1_ := qO (blk_below (g := gb105) (o := .cells #[.string ((rd_T53 l0_0 x20_2).f0), .slice A104_1 ((rd_T53 l0_0 x20_2).f1).length c104_1] 53 (0, 0)) qa29 hb); have n2_ := qO (below_step qa20 hb); clear BK101; clear BK105; clear HB; have BK101 := n0_; have BK105 := n1_; have HB := n2_; clear n0_ n1_ n2_; (try clear hb); (try clear hb2); (try clear hk); (try clear hi)))
             go_meet
             case rel => exact ⟨_, (true), qa11, H', ⟨qa71⟩, ⟨qa13⟩, ⟨qa34⟩, ⟨qa20⟩⟩
          ·replace c20 := Bool.eq_false_iff.mpr c20
           subst c20; have H1 : (impl_SchemaOK.j2 k2 l0_0 (l0_0.length : Int) x20_2 true l0_0 ((rd_T53 l0_0 x20_2).f0) ((rd_T53 l0_0 x20_2).f1)) = some r := by rw [if_neg (show ¬ (false = true) by decide)] at H; exact H
           clear H; have H := H1; clear H1; have H' := qO H; clear H; have hnb36 := NB105_101.out; have hnc36 := NB101_105.out; have hcz37_0 : w16.cell? ⟨gb105, 0, none⟩ = some (.string (⟨#[]⟩ : ByteArray)) := (blk_cell BK105.out 0).trans rfl; have hcz37_1 : w16.cell? ⟨gb105, 1, none⟩ = some (.slice none 0 0) := (blk_cell BK105.out 1).trans rfl; have hfz37_0 := blk_frozen BK105.out 0; have hfz37_1 := blk_frozen BK105.out 1
           go_wp2_with (first | ((with_reducible refine gate_callee (f := 35) rfl ?_); refine goesL_ (some 27) rfl rfl Try.func35 qa17 rfl #[.string ((rd_T53 l0_0 x20_2).f0)] rfl qa1 ?_; (with_reducible refine (impl_NameOK.calls k2 ((rd_T53 l0_0 x20_2).f0) false _ A19.out).mono ?_); rintro e w' ⟨rfl, ⟨nd, rfl⟩⟩; refine ⟨_, rfl, ?_⟩))
           go_meet
           case rel => exact ⟨_, (true), qa11, H', ⟨qa71⟩, ⟨qa21⟩, ⟨qa29⟩, ⟨qa20⟩⟩
         case rest =>
          clear HC15
          try clear c1
          try clear p1
          try clear q1
          try clear hx1
          try clear c2
          try clear p2
          try clear c3
          try clear c5
          try clear c10
          try clear p10
          try clear q10
          try clear hx10
          try clear c11
          try clear c12
          try clear c12b0
          try clear c13
          try clear c13b0
          try clear c14
          try clear c14b0
          try clear c17
          try clear c20
          try clear c21
          try clear c21b0
          try clear c21b1
          try clear c22
          try clear c25
          try clear c25b0
          try clear c25b1
          try clear c27
          try clear c32
          try clear c33
          try clear c35
          try clear c36
          try clear hcz11_0
          try clear hcz18_0
          try clear hcz18_1
          try clear hcz23_0
          try clear hcz23_1
          try clear hcz28_0
          try clear hcz28_1
          try clear hcz29_0
          try clear hcz31_0
          try clear hcz31_1
          try clear hcz33_0
          try clear hcz33_1
          try clear hcz34_0
          try clear hcz37_0
          try clear hcz37_1
          try clear hcz7_0
          try clear hcz9_0
          try clear hfz11_0
          try clear hfz18_0
          try clear hfz18_1
          try clear hfz23_0
          try clear hfz23_1
          try clear hfz28_0
          try clear hfz28_1
          try clear hfz29_0
          try clear hfz31_0
          try clear hfz31_1
          try clear hfz33_0
          try clear hfz33_1
          try clear hfz34_0
          try clear hfz37_0
          try clear hfz37_1
          try clear hfz7_0
          try clear hfz9_0
          try clear hx104_0
          try clear hx104_1
          try clear p104
          try clear p2
          try clear q104
          obtain ⟨kq, x48_14, rfl, HA, HJ14, BK101, BK105, HB⟩ := hcut
          cases kq with
          | zero => exact absurd HA.out (by simp [impl_SchemaOK.j2])
          | succ kj14 =>
           have H := HA.out; clear HA; simp only [impl_SchemaOK.j2] at H
           by_cases c38 : x48_14 = true
           ·subst c38
            have H1 : (some false) = some r := by rw [if_pos rfl] at H; exact H
            clear H; have H := H1; clear H1; obtain rfl := Option.some.inj H; go_wp2
            go_ret
            exact ⟨qa3, qa20⟩
           ·replace c38 := Bool.eq_false_iff.mpr c38
            subst c38; have H1 : (impl_SchemaOK.l1 kj14 l0_0 (l0_0.length : Int) x20_2 ((rd_T53 l0_0 x20_2).f1) (((rd_T53 l0_0 x20_2).f1).length : Int) 0 l0_0 ((rd_T53 l0_0 x20_2).f0) ((rd_T53 l0_0 x20_2).f1)) = some r := by rw [if_neg (show ¬ (false = true) by decide)] at H; exact H
            clear H; have H := H1; clear H1; have H' := qO H; clear H; have hnb39 := NB105_101.out; have hnc39 := NB101_105.out; have hcz40_0 : wc.cell? ⟨gb105, 0, none⟩ = some (.string ((rd_T53 l0_0 x20_2).f0)) := (blk_cell BK105.out 0).trans rfl; have hcz40_1 : wc.cell? ⟨gb105, 1, none⟩ = some (.slice A104_1 ((rd_T53 l0_0 x20_2).f1).length c104_1) := (blk_cell BK105.out 1).trans rfl; have hfz40_0 := blk_frozen BK105.out 0; have hfz40_1 := blk_frozen BK105.out 1; go_wp2
            go_loopg [52] kj14 (fun kq v52 w' => ∃ (x52_4 : Int), v52 = .int .i64 x52_4 ∧ Aside0 (impl_SchemaOK.l1 kq l0_0 (l0_0.length : Int) x20_2 ((rd_T53 l0_0 x20_2).f1) (((rd_T53 l0_0 x20_2).f1).length : Int) x52_4 l0_0 ((rd_T53 l0_0 x20_2).f0) ((rd_T53 l0_0 x20_2).f1) = some r) ∧ Aside0 (kq ≤ kj14) ∧ Aside0 (w'.heap[gb101]? = some (.cells #[(.slice (some ad104) l0_0.length c0_0)] 29 (0, 0))) ∧ Aside0 (w'.heap[gb105]? = some (.cells #[.string ((rd_T53 l0_0 x20_2).f0), (.slice A104_1 ((rd_T53 l0_0 x20_2).f1).length c104_1)] 53 (0, 0))) ∧ Aside0 (Below w.heap.size w w'))
            case atStart => exact ⟨(0), qa11, H', ⟨Nat.le_refl _⟩, ⟨qa13⟩, ⟨qa34⟩, ⟨qa20⟩⟩
            case round =>
             clear H'
             try clear c1
             try clear p1
             try clear q1
             try clear hx1
             try clear c2
             try clear p2
             try clear c3
             try clear c5
             try clear c10
             try clear p10
             try clear q10
             try clear hx10
             try clear c11
             try clear c12
             try clear c12b0
             try clear c13
             try clear c13b0
             try clear c14
             try clear c14b0
             try clear c17
             try clear c20
             try clear c21
             try clear c21b0
             try clear c21b1
             try clear c22
             try clear c25
             try clear c25b0
             try clear c25b1
             try clear c27
             try clear c32
             try clear c33
             try clear c35
             try clear c36
             try clear c38
             try clear c39
             try clear hcz11_0
             try clear hcz18_0
             try clear hcz18_1
             try clear hcz23_0
             try clear hcz23_1
             try clear hcz28_0
             try clear hcz28_1
             try clear hcz29_0
             try clear hcz31_0
             try clear hcz31_1
             try clear hcz33_0
             try clear hcz33_1
             try clear hcz34_0
             try clear hcz37_0
             try clear hcz37_1
             try clear hcz40_0
             try clear hcz40_1
             try clear hcz7_0
             try clear hcz9_0
             try clear hfz11_0
             try clear hfz18_0
             try clear hfz18_1
             try clear hfz23_0
             try clear hfz23_1
             try clear hfz28_0
             try clear hfz28_1
             try clear hfz29_0
             try clear hfz31_0
             try clear hfz31_1
             try clear hfz33_0
             try clear hfz33_1
             try clear hfz34_0
             try clear hfz37_0
             try clear hfz37_1
             try clear hfz40_0
             try clear hfz40_1
             try clear hfz7_0
             try clear hfz9_0
             try clear hx104_0
             try clear hx104_1
             try clear p1
             try clear p10
             try clear p104
             try clear p2
             try clear q1
             try clear q10
             try clear q104
             obtain ⟨x52_4, rfl, HA, HK4, BK101, BK105, HB⟩ := hrel
             cases gk with
             | zero => exact absurd HA.out (by simp [impl_SchemaOK.l1])
             | succ k4 =>
              have H := HA.out; clear HA; simp only [impl_SchemaOK.l1] at H
              by_cases c41 : x52_4 < (((rd_T53 l0_0 x20_2).f1).length : Int)
              ·rw [if_pos c41] at H
               have c41b0 : decide (x52_4 < (((rd_T53 l0_0 x20_2).f1).length : Int)) = true := decide_eq_true c41; clear c41
               by_cases c42 : 0 ≤ x52_4
               ·rw [if_pos c42] at H
                have c42b0 : decide (0 ≤ x52_4) = true := decide_eq_true c42; clear c42
                by_cases c43 : x52_4 < (((rd_T53 l0_0 x20_2).f1).length : Int)
                ·rw [if_pos c43] at H
                 have c43b0 : decide (x52_4 < (((rd_T53 l0_0 x20_2).f1).length : Int)) = true := decide_eq_true c43; clear c43; replace H := Option.bind_eq_some_iff.mp H; obtain ⟨t111, A440, H⟩ := H; replace H : (if t111 = true then ((impl_TypeDef_fieldAt.f ((rd_T53 l0_0 x20_2).f0) ((rd_T53 l0_0 x20_2).f1) ((rd_T38 ((rd_T53 l0_0 x20_2).f1) x52_4).f0)).bind fun t112 => (if t112 = x52_4 then (impl_SchemaOK.l1 k4 l0_0 (l0_0.length : Int) x20_2 ((rd_T53 l0_0 x20_2).f1) (((rd_T53 l0_0 x20_2).f1).length : Int) (wrap64 (x52_4 + 1)) l0_0 ((rd_T53 l0_0 x20_2).f0) ((rd_T53 l0_0 x20_2).f1)) else (some false))) else (some false)) = some r := H; have A44 := qO A440; clear A440
                 by_cases c45 : t111 = true
                 ·subst c45
                  have H1 : ((impl_TypeDef_fieldAt.f ((rd_T53 l0_0 x20_2).f0) ((rd_T53 l0_0 x20_2).f1) ((rd_T38 ((rd_T53 l0_0 x20_2).f1) x52_4).f0)).bind fun t112 => (if t112 = x52_4 then (impl_SchemaOK.l1 k4 l0_0 (l0_0.length : Int) x20_2 ((rd_T53 l0_0 x20_2).f1) (((rd_T53 l0_0 x20_2).f1).length : Int) (wrap64 (x52_4 + 1)) l0_0 ((rd_T53 l0_0 x20_2).f0) ((rd_T53 l0_0 x20_2).f1)) else (some false))) = some r := by rw [if_pos rfl] at H; exact H
                  clear H; have H := H1; clear H1; replace H := Option.bind_eq_some_iff.mp H; obtain ⟨t112, A460, H⟩ := H; replace H : (if t112 = x52_4 then (impl_SchemaOK.l1 k4 l0_0 (l0_0.length : Int) x20_2 ((rd_T53 l0_0 x20_2).f1) (((rd_T53 l0_0 x20_2).f1).length : Int) (wrap64 (x52_4 + 1)) l0_0 ((rd_T53 l0_0 x20_2).f0) ((rd_T53 l0_0 x20_2).f1)) else (some false)) = some r := H; have A46 := qO A460; clear A460
                  by_cases c47 : t112 = x52_4
                  ·rw [if_pos c47] at H
                   have c47b0 : (t112 == x52_4) = true := beq_iff_eq.mpr c47; have c47b1 : (t112 != x52_4) = false := bne_eq_false_iff_eq.mpr c47; clear c47; have H' := qO H; clear H; have p109 : 0 ≤ (x52_4 : Int) := qT qa5; have q109 : x52_4 < (((rd_T53 l0_0 x20_2).f1).length : Int) := qT qa5; obtain ⟨ad109, A109_1, c109_1, e109, hx109_0, hx109_1, hx109_2, hx109_3, hx109_4, hl109_1, hi109_1⟩ := at_T38 HR104_1.out x52_4 p109 q109
                   cases e109
                   replace hx109_0 := (HB.out.cell (qL w _ hx109_0)).trans hx109_0; replace hx109_1 := (HB.out.cell (qL w _ hx109_1)).trans hx109_1; replace hx109_2 := (HB.out.cell (qL w _ hx109_2)).trans hx109_2; replace hx109_3 := (HB.out.cell (qL w _ hx109_3)).trans hx109_3; replace hx109_4 := (HB.out.cell (qL w _ hx109_4)).trans hx109_4; have HR109_1 := qO hi109_1; have HC109_1 := qO hl109_1; clear hi109_1 hl109_1; replace p109 := eq_true p109; replace q109 := eq_true q109
                   go_wp2_with (first | ((with_reducible refine gate_dst (N := 6) rfl ?_); (try (refine gate_guard (by rfl) ?_; dsimp only)); refine box_event ?hg (N := 6) ?hd (cs := #[.string (⟨#[]⟩ : ByteArray), .slice none 0 0, .string (⟨#[]⟩ : ByteArray), .bool false, .bool false]) (t := 38) ?hr ?_; (case hd => rfl); (case hg => rfl); (case hr => exact qa18); intro gb110 hg w48 hbox hb; have hx_ := qHX HB hb qa0; have n0_ := qO (qB BK101.out hx_ hb); have n1_ := qO (qB BK105.out hx_ hb); have n2_ := qO (below_step (below_step HB.out hx_) hb); have n3_ := qO (hbox); have n4_ := qO ((qa15 : w.heap.size ≤ gb110)); have n5_ := n4_; have n6_ := qO ((qa36 : gb101 ≠ gb110)); have n7_ := qO (Ne.symm n6_.out); have n8_ := qO ((qa51 : gb105 ≠ gb110)); have n9_ := qO (Ne.symm n8_.out); clear BK101; clear BK105; clear HB; have BK101 := n0_; have BK105 := n1_; have HB := n2_; have BK110 := n3_; have GW110 := n4_; have GE110 := n5_; have NB101_110 := n6_; have NB110_101 := n7_; have NB105_110 := n8_; have NB110_105 := n9_; clear n0_ n1_ n2_ n3_ n4_ n5_ n6_ n7_ n8_ n9_; clear hx_; clear hb hbox hg; have hnb49 := NB110_101.out; have hnc49 := NB101_110.out; have hnb50 := NB110_105.out; have hnc50 := NB105_110.out; have hcz51_0 : w48.cell? ⟨gb110, 0, none⟩ = some (.string (⟨#[]⟩ : ByteArray)) := (blk_cell BK110.out 0).trans rfl; have hcz51_1 : w48.cell? ⟨gb110, 1, none⟩ = some (.slice none 0 0) := (blk_cell BK110.out 1).trans rfl; have hcz51_2 : w48.cell? ⟨gb110, 2, none⟩ = some (.string (⟨#[]⟩ : ByteArray)) := (blk_cell BK110.out 2).trans rfl; have hcz51_3 : w48.cell? ⟨gb110, 3, none⟩ = some (.bool false) := (blk_cell BK110.out 3).trans rfl; have hcz51_4 : w48.cell? ⟨gb110, 4, none⟩ = some (.bool false) := (blk_cell BK110.out 4).trans rfl; have hfz51_0 := blk_frozen BK110.out 0; have hfz51_1 := blk_frozen BK110.out 1; have hfz51_2 := blk_frozen BK110.out 2; have hfz51_3 := blk_frozen BK110.out 3; have hfz51_4 := blk_frozen BK110.out 4; have hnb52 := NB101_105.out; have hnc52 := NB105_101.out; have hcz53_0 : w48.cell? ⟨gb101, 0, none⟩ = some (.slice (some ad104) l0_0.length c0_0) := (blk_cell BK101.out 0).trans rfl; have hfz53_0 := blk_frozen BK101.out 0) | ((with_reducible refine gate_callee (f := 36) rfl ?_); refine goesL_ (some 59) rfl rfl Try.func36 qa17 rfl #[.agg #[.slice (some ad104) l0_0.length c0_0], .agg #[.string ((rd_T38 ((rd_T53 l0_0 x20_2).f1) x52_4).f0), .slice A109_1 ((rd_T38 ((rd_T53 l0_0 x20_2).f1) x52_4).f1).length c109_1, .string ((rd_T38 ((rd_T53 l0_0 x20_2).f1) x52_4).f2), .bool ((rd_T38 ((rd_T53 l0_0 x20_2).f1) x52_4).f3), .bool ((rd_T38 ((rd_T53 l0_0 x20_2).f1) x52_4).f4)]] rfl qa1 ?_; (with_reducible refine (impl_Schema_fieldOK.calls k4 _ _ l0_0 ((rd_T38 ((rd_T53 l0_0 x20_2).f1) x52_4).f0) _ _ ((rd_T38 ((rd_T53 l0_0 x20_2).f1) x52_4).f1) ((rd_T38 ((rd_T53 l0_0 x20_2).f1) x52_4).f2) ((rd_T38 ((rd_T53 l0_0 x20_2).f1) x52_4).f3) ((rd_T38 ((rd_T53 l0_0 x20_2).f1) x52_4).f4) true _ ?side1 ?side2 ?side3 ?side4 A44.out).mono ?_); (case side1 => exact qa63); (case side2 => exact HC0_0.out); (case side3 => exact qa60); (case side4 => exact HC109_1.out); rintro e w54 ⟨rfl, hb⟩; refine ⟨_, rfl, ?_⟩; have n0_ := qO (blk_below (g := gb101) (o := .cells #[.slice (some ad104) l0_0.length c0_0] 29 (0, 0)) qa9 hb); have n1_ := qO (blk_below (g := gb105) (o := .cells #[.string ((rd_T53 l0_0 x20_2).f0), .slice (some ad109) ((rd_T53 l0_0 x20_2).f1).length c104_1] 53 (0, 0)) qa10 hb); have n2_ := qO (blk_below (g := gb110) (o := .cells #[.string ((rd_T38 ((rd_T53 l0_0 x20_2).f1) x52_4).f0), .slice A109_1 ((rd_T38 ((rd_T53 l0_0 x20_2).f1) x52_4).f1).length c109_1, .string ((rd_T38 ((rd_T53 l0_0 x20_2).f1) x52_4).f2), .bool ((rd_T38 ((rd_T53 l0_0 x20_2).f1) x52_4).f3), .bool ((rd_T38 ((rd_T53 l0_0 x20_2).f1) x52_4).f4)] 38 (0, 0)) qa14 hb); have n3_ := qO (below_step qa16 hb); clear BK101; clear BK105; clear BK110; clear HB; have BK101 := n0_; have BK105 := n1_; have BK110 := n2_; have HB := n3_; clear n0_ n1_ n2_ n3_; (try clear hb); (try clear hb2); (try clear hk); (try clear hi); have hcz55_0 : w54.cell? ⟨gb105, 0, none⟩ = some (.string ((rd_T53 l0_0 x20_2).f0)) := (blk_cell BK105.out 0).trans rfl; have hcz55_1 : w54.cell? ⟨gb105, 1, none⟩ = some (.slice (some ad109) ((rd_T53 l0_0 x20_2).f1).length c104_1) := (blk_cell BK105.out 1).trans rfl; have hfz55_0 := blk_frozen BK105.out 0; have hfz55_1 := blk_frozen BK105.out 1; have hcz56_0 : w54.cell? ⟨gb110, 0, none⟩ = some (.string ((rd_T38 ((rd_T53 l0_0 x20_2).f1) x52_4).f0)) := (blk_cell BK110.out 0).trans rfl; have hcz56_1 : w54.cell? ⟨gb110, 1, none⟩ = some (.slice A109_1 ((rd_T38 ((rd_T53 l0_0 x20_2).f1) x52_4).f1).length c109_1) := (blk_cell BK110.out 1).trans rfl; have hcz56_2 : w54.cell? ⟨gb110, 2, none⟩ = some (.string ((rd_T38 ((rd_T53 l0_0 x20_2).f1) x52_4).f2)) := (blk_cell BK110.out 2).trans rfl; have hcz56_3 : w54.cell? ⟨gb110, 3, none⟩ = some (.bool ((rd_T38 ((rd_T53 l0_0 x20_2).f1) x52_4).f3)) := (blk_cell BK110.out 3).trans rfl; have hcz56_4 : w54.cell? ⟨gb110, 4, none⟩ = some (.bool ((rd_T38 ((rd_T53 l0_0 x20_2).f1) x52_4).f4)) := (blk_cell BK110.out 4).trans rfl; have hfz56_0 := blk_frozen BK110.out 0; have hfz56_1 := blk_frozen BK110.out 1; have hfz56_2 := blk_frozen BK110.out 2; have hfz56_3 := blk_frozen BK110.out 3; have hfz56_4 := blk_frozen BK110.out 4) | (go_at_call 37; (with_reducible refine (impl_TypeDef_fieldAt.calls ((rd_T53 l0_0 x20_2).f0) _ _ ((rd_T53 l0_0 x20_2).f1) ((rd_T38 ((rd_T53 l0_0 x20_2).f1) x52_4).f0) t112 _ ?side1 ?side2 A46.out).mono ?_); (case side1 => exact qa66); (case side2 => exact HC104_1.out); rintro e w57 ⟨rfl, hb⟩; have hx_ := qHX HB hb qa0; have n0_ := qO (qB BK101.out hx_ hb); have n1_ := qO (qB BK105.out hx_ hb); have n2_ := qO (blk_below (g := gb110) (o := .cells #[.string ((rd_T38 ((rd_T53 l0_0 x20_2).f1) x52_4).f0), .slice A109_1 ((rd_T38 ((rd_T53 l0_0 x20_2).f1) x52_4).f1).length c109_1, .string ((rd_T38 ((rd_T53 l0_0 x20_2).f1) x52_4).f2), .bool ((rd_T38 ((rd_T53 l0_0 x20_2).f1) x52_4).f3), .bool ((rd_T38 ((rd_T53 l0_0 x20_2).f1) x52_4).f4)] 38 (0, 0)) qa38 hb); have n3_ := qO (below_step (below_step HB.out hx_) hb); clear BK101; clear BK105; clear BK110; clear HB; have BK101 := n0_; have BK105 := n1_; have BK110 := n2_; have HB := n3_; clear n0_ n1_ n2_ n3_; clear hx_; (try clear hb); (try clear hb2); (try clear hk); (try clear hi)))
                   go_roundg k4
                   case measure => have := HJ1.out; have := HK2.out; have := HJ14.out; have := HK4.out; omega
                   case rel => exact ⟨(wrap64 (x52_4 + 1)), qa11, H', ⟨qa112⟩, ⟨qa13⟩, ⟨qa34⟩, ⟨qa16⟩⟩
                  ·rw [if_neg c47] at H
                   have c47b0 : (t112 == x52_4) = false := beq_eq_false_iff_ne.mpr c47; have c47b1 : (t112 != x52_4) = true := bne_iff_ne.mpr c47; obtain rfl := Option.some.inj H; have p109 : 0 ≤ (x52_4 : Int) := qT qa5; have q109 : x52_4 < (((rd_T53 l0_0 x20_2).f1).length : Int) := qT qa5; obtain ⟨ad109, A109_1, c109_1, e109, hx109_0, hx109_1, hx109_2, hx109_3, hx109_4, hl109_1, hi109_1⟩ := at_T38 HR104_1.out x52_4 p109 q109
                   cases e109
                   replace hx109_0 := (HB.out.cell (qL w _ hx109_0)).trans hx109_0; replace hx109_1 := (HB.out.cell (qL w _ hx109_1)).trans hx109_1; replace hx109_2 := (HB.out.cell (qL w _ hx109_2)).trans hx109_2; replace hx109_3 := (HB.out.cell (qL w _ hx109_3)).trans hx109_3; replace hx109_4 := (HB.out.cell (qL w _ hx109_4)).trans hx109_4; have HR109_1 := qO hi109_1; have HC109_1 := qO hl109_1; clear hi109_1 hl109_1; replace p109 := eq_true p109; replace q109 := eq_true q109
                   go_wp2_with (first | ((with_reducible refine gate_dst (N := 6) rfl ?_); (try (refine gate_guard (by rfl) ?_; dsimp only)); refine box_event ?hg (N := 6) ?hd (cs := #[.string (⟨#[]⟩ : ByteArray), .slice none 0 0, .string (⟨#[]⟩ : ByteArray), .bool false, .bool false]) (t := 38) ?hr ?_; (case hd => rfl); (case hg => rfl); (case hr => exact qa18); intro gb110 hg w58 hbox hb; have hx_ := qHX HB hb qa0; have n0_ := qO (qB BK101.out hx_ hb); have n1_ := qO (qB BK105.out hx_ hb); have n2_ := qO (below_step (below_step HB.out hx_) hb); have n3_ := qO (hbox); have n4_ := qO ((qa15 : w.heap.size ≤ gb110)); have n5_ := n4_; have n6_ := qO ((qa36 : gb101 ≠ gb110)); have n7_ := qO (Ne.symm n6_.out); have n8_ := qO ((qa51 : gb105 ≠ gb110)); have n9_ := qO (Ne.symm n8_.out); clear BK101; clear BK105; clear HB; have BK101 := n0_; have BK105 := n1_; have HB := n2_; have BK110 := n3_; have GW110 := n4_; have GE110 := n5_; have NB101_110 := n6_; have NB110_101 := n7_; have NB105_110 := n8_; have NB110_105 := n9_; clear n0_ n1_ n2_ n3_ n4_ n5_ n6_ n7_ n8_ n9_; clear hx_; clear hb hbox hg; have hnb59 := NB110_101.out; have hnc59 := NB101_110.out; have hnb60 := NB110_105.out; have hnc60 := NB105_110.out; have hcz61_0 : w58.cell? ⟨gb110, 0, none⟩ = some (.string (⟨#[]⟩ : ByteArray)) := (blk_cell BK110.out 0).trans rfl; have hcz61_1 : w58.cell? ⟨gb110, 1, none⟩ = some (.slice none 0 0) := (blk_cell BK110.out 1).trans rfl; have hcz61_2 : w58.cell? ⟨gb110, 2, none⟩ = some (.string (⟨#[]⟩ : ByteArray)) := (blk_cell BK110.out 2).trans rfl; have hcz61_3 : w58.cell? ⟨gb110, 3, none⟩ = some (.bool false) := (blk_cell BK110.out 3).trans rfl; have hcz61_4 : w58.cell? ⟨gb110, 4, none⟩ = some (.bool false) := (blk_cell BK110.out 4).trans rfl; have hfz61_0 := blk_frozen BK110.out 0; have hfz61_1 := blk_frozen BK110.out 1; have hfz61_2 := blk_frozen BK110.out 2; have hfz61_3 := blk_frozen BK110.out 3; have hfz61_4 := blk_frozen BK110.out 4; have hnb62 := NB101_105.out; have hnc62 := NB105_101.out; have hcz63_0 : w58.cell? ⟨gb101, 0, none⟩ = some (.slice (some ad104) l0_0.length c0_0) := (blk_cell BK101.out 0).trans rfl; have hfz63_0 := blk_frozen BK101.out 0) | ((with_reducible refine gate_callee (f := 36) rfl ?_); refine goesL_ (some 59) rfl rfl Try.func36 qa17 rfl #[.agg #[.slice (some ad104) l0_0.length c0_0], .agg #[.string ((rd_T38 ((rd_T53 l0_0 x20_2).f1) x52_4).f0), .slice A109_1 ((rd_T38 ((rd_T53 l0_0 x20_2).f1) x52_4).f1).length c109_1, .string ((rd_T38 ((rd_T53 l0_0 x20_2).f1) x52_4).f2), .bool ((rd_T38 ((rd_T53 l0_0 x20_2).f1) x52_4).f3), .bool ((rd_T38 ((rd_T53 l0_0 x20_2).f1) x52_4).f4)]] rfl qa1 ?_; (with_reducible refine (impl_Schema_fieldOK.calls k4 _ _ l0_0 ((rd_T38 ((rd_T53 l0_0 x20_2).f1) x52_4).f0) _ _ ((rd_T38 ((rd_T53 l0_0 x20_2).f1) x52_4).f1) ((rd_T38 ((rd_T53 l0_0 x20_2).f1) x52_4).f2) ((rd_T38 ((rd_T53 l0_0 x20_2).f1) x52_4).f3) ((rd_T38 ((rd_T53 l0_0 x20_2).f1) x52_4).f4) true _ ?side1 ?side2 ?side3 ?side4 A44.out).mono ?_); (case side1 => exact qa63); (case side2 => exact HC0_0.out); (case side3 => exact qa60); (case side4 => exact HC109_1.out); rintro e w64 ⟨rfl, hb⟩; refine ⟨_, rfl, ?_⟩; have n0_ := qO (blk_below (g := gb101) (o := .cells #[.slice (some ad104) l0_0.length c0_0] 29 (0, 0)) qa9 hb); have n1_ := qO (blk_below (g := gb105) (o := .cells #[.string ((rd_T53 l0_0 x20_2).f0), .slice (some ad109) ((rd_T53 l0_0 x20_2).f1).length c104_1] 53 (0, 0)) qa10 hb); have n2_ := qO (blk_below (g := gb110) (o := .cells #[.string ((rd_T38 ((rd_T53 l0_0 x20_2).f1) x52_4).f0), .slice A109_1 ((rd_T38 ((rd_T53 l0_0 x20_2).f1) x52_4).f1).length c109_1, .string ((rd_T38 ((rd_T53 l0_0 x20_2).f1) x52_4).f2), .bool ((rd_T38 ((rd_T53 l0_0 x20_2).f1) x52_4).f3), .bool ((rd_T38 ((rd_T53 l0_0 x20_2).f1) x52_4).f4)] 38 (0, 0)) qa14 hb); have n3_ := qO (below_step qa16 hb); clear BK101; clear BK105; clear BK110; clear HB; have BK101 := n0_; have BK105 := n1_; have BK110 := n2_; have HB := n3_; clear n0_ n1_ n2_ n3_; (try clear hb); (try clear hb2); (try clear hk); (try clear hi); have hcz65_0 : w64.cell? ⟨gb105, 0, none⟩ = some (.string ((rd_T53 l0_0 x20_2).f0)) := (blk_cell BK105.out 0).trans rfl; have hcz65_1 : w64.cell? ⟨gb105, 1, none⟩ = some (.slice (some ad109) ((rd_T53 l0_0 x20_2).f1).length c104_1) := (blk_cell BK105.out 1).trans rfl; have hfz65_0 := blk_frozen BK105.out 0; have hfz65_1 := blk_frozen BK105.out 1; have hcz66_0 : w64.cell? ⟨gb110, 0, none⟩ = some (.string ((rd_T38 ((rd_T53 l0_0 x20_2).f1) x52_4).f0)) := (blk_cell BK110.out 0).trans rfl; have hcz66_1 : w64.cell? ⟨gb110, 1, none⟩ = some (.slice A109_1 ((rd_T38 ((rd_T53 l0_0 x20_2).f1) x52_4).f1).length c109_1) := (blk_cell BK110.out 1).trans rfl; have hcz66_2 : w64.cell? ⟨gb110, 2, none⟩ = some (.string ((rd_T38 ((rd_T53 l0_0 x20_2).f1) x52_4).f2)) := (blk_cell BK110.out 2).trans rfl; have hcz66_3 : w64.cell? ⟨gb110, 3, none⟩ = some (.bool ((rd_T38 ((rd_T53 l0_0 x20_2).f1) x52_4).f3)) := (blk_cell BK110.out 3).trans rfl; have hcz66_4 : w64.cell? ⟨gb110, 4, none⟩ = some (.bool ((rd_T38 ((rd_T53 l0_0 x20_2).f1) x52_4).f4)) := (blk_cell BK110.out 4).trans rfl; have hfz66_0 := blk_frozen BK110.out 0; have hfz66_1 := blk_frozen BK110.out 1; have hfz66_2 := blk_frozen BK110.out 2; have hfz66_3 := blk_frozen BK110.out 3; have hfz66_4 := blk_frozen BK110.out 4) | (go_at_call 37; (with_reducible refine (impl_TypeDef_fieldAt.calls ((rd_T53 l0_0 x20_2).f0) _ _ ((rd_T53 l0_0 x20_2).f1) ((rd_T38 ((rd_T53 l0_0 x20_2).f1) x52_4).f0) t112 _ ?side1 ?side2 A46.out).mono ?_); (case side1 => exact qa66); (case side2 => exact HC104_1.out); rintro e w67 ⟨rfl, hb⟩; have hx_ := qHX HB hb qa0; have n0_ := qO (qB BK101.out hx_ hb); have n1_ := qO (qB BK105.out hx_ hb); have n2_ := qO (blk_below (g := gb110) (o := .cells #[.string ((rd_T38 ((rd_T53 l0_0 x20_2).f1) x52_4).f0), .slice A109_1 ((rd_T38 ((rd_T53 l0_0 x20_2).f1) x52_4).f1).length c109_1, .string ((rd_T38 ((rd_T53 l0_0 x20_2).f1) x52_4).f2), .bool ((rd_T38 ((rd_T53 l0_0 x20_2).f1) x52_4).f3), .bool ((rd_T38 ((rd_T53 l0_0 x20_2).f1) x52_4).f4)] 38 (0, 0)) qa38 hb); have n3_ := qO (below_step (below_step HB.out hx_) hb); clear BK101; clear BK105; clear BK110; clear HB; have BK101 := n0_; have BK105 := n1_; have BK110 := n2_; have HB := n3_; clear n0_ n1_ n2_ n3_; clear hx_; (try clear hb); (try clear hb2); (try clear hk); (try clear hi)))
                   go_ret
                   exact ⟨qa3, qa16⟩
                 ·replace c45 := Bool.eq_false_iff.mpr c45
                  subst c45; have H1 : (some false) = some r := by rw [if_neg (show ¬ (false = true) by decide)] at H; exact H
                  clear H; have H := H1; clear H1; obtain rfl := Option.some.inj H; have p109 : 0 ≤ (x52_4 : Int) := qT qa5; have q109 : x52_4 < (((rd_T53 l0_0 x20_2).f1).length : Int) := qT qa5; obtain ⟨ad109, A109_1, c109_1, e109, hx109_0, hx109_1, hx109_2, hx109_3, hx109_4, hl109_1, hi109_1⟩ := at_T38 HR104_1.out x52_4 p109 q109
                  cases e109
                  replace hx109_0 := (HB.out.cell (qL w _ hx109_0)).trans hx109_0; replace hx109_1 := (HB.out.cell (qL w _ hx109_1)).trans hx109_1; replace hx109_2 := (HB.out.cell (qL w _ hx109_2)).trans hx109_2; replace hx109_3 := (HB.out.cell (qL w _ hx109_3)).trans hx109_3; replace hx109_4 := (HB.out.cell (qL w _ hx109_4)).trans hx109_4; have HR109_1 := qO hi109_1; have HC109_1 := qO hl109_1; clear hi109_1 hl109_1; replace p109 := eq_true p109; replace q109 := eq_true q109
                  go_wp2_with (first | ((with_reducible refine gate_dst (N := 6) rfl ?_); (try (refine gate_guard (by rfl) ?_; dsimp only)); refine box_event ?hg (N := 6) ?hd (cs := #[.string (⟨#[]⟩ : ByteArray), .slice none 0 0, .string (⟨#[]⟩ : ByteArray), .bool false, .bool false]) (t := 38) ?hr ?_; (case hd => rfl); (case hg => rfl); (case hr => exact qa18); intro gb110 hg w68 hbox hb; have hx_ := qHX HB hb qa0; have n0_ := qO (qB BK101.out hx_ hb); have n1_ := qO (qB BK105.out hx_ hb); have n2_ := qO (below_step (below_step HB.out hx_) hb); have n3_ := qO (hbox); have n4_ := qO ((qa15 : w.heap.size ≤ gb110)); have n5_ := n4_; have n6_ := qO ((qa36 : gb101 ≠ gb110)); have n7_ := qO (Ne.symm n6_.out); have n8_ := qO ((qa51 : gb105 ≠ gb110)); have n9_ := qO (Ne.symm n8_.out); clear BK101; clear BK105; clear HB; have BK101 := n0_; have BK105 := n1_; have HB := n2_; have BK110 := n3_; have GW110 := n4_; have GE110 := n5_; have NB101_110 := n6_; have NB110_101 := n7_; have NB105_110 := n8_; have NB110_105 := n9_; clear n0_ n1_ n2_ n3_ n4_ n5_ n6_ n7_ n8_ n9_; clear hx_; clear hb hbox hg; have hnb69 := NB110_101.out; have hnc69 := NB101_110.out; have hnb70 := NB110_105.out; have hnc70 := NB105_110.out; have hcz71_0 : w68.cell? ⟨gb110, 0, none⟩ = some (.string (⟨#[]⟩ : ByteArray)) := (blk_cell BK110.out 0).trans rfl; have hcz71_1 : w68.cell? ⟨gb110, 1, none⟩ = some (.slice none 0 0) := (blk_cell BK110.out 1).trans rfl; have hcz71_2 : w68.cell? ⟨gb110, 2, none⟩ = some (.string (⟨#[]⟩ : ByteArray)) := (blk_cell BK110.out 2).trans rfl; have hcz71_3 : w68.cell? ⟨gb110, 3, none⟩ = some (.bool false) := (blk_cell BK110.out 3).trans rfl; have hcz71_4 : w68.cell? ⟨gb110, 4, none⟩ = some (.bool false) := (blk_cell BK110.out 4).trans rfl; have hfz71_0 := blk_frozen BK110.out 0; have hfz71_1 := blk_frozen BK110.out 1; have hfz71_2 := blk_frozen BK110.out 2; have hfz71_3 := blk_frozen BK110.out 3; have hfz71_4 := blk_frozen BK110.out 4; have hnb72 := NB101_105.out; have hnc72 := NB105_101.out; have hcz73_0 : w68.cell? ⟨gb101, 0, none⟩ = some (.slice (some ad104) l0_0.length c0_0) := (blk_cell BK101.out 0).trans rfl; have hfz73_0 := blk_frozen BK101.out 0) | ((with_reducible refine gate_callee (f := 36) rfl ?_); refine goesL_ (some 59) rfl rfl Try.func36 qa17 rfl #[.agg #[.slice (some ad104) l0_0.length c0_0], .agg #[.string ((rd_T38 ((rd_T53 l0_0 x20_2).f1) x52_4).f0), .slice A109_1 ((rd_T38 ((rd_T53 l0_0 x20_2).f1) x52_4).f1).length c109_1, .string ((rd_T38 ((rd_T53 l0_0 x20_2).f1) x52_4).f2), .bool ((rd_T38 ((rd_T53 l0_0 x20_2).f1) x52_4).f3), .bool ((rd_T38 ((rd_T53 l0_0 x20_2).f1) x52_4).f4)]] rfl qa1 ?_; (with_reducible refine (impl_Schema_fieldOK.calls k4 _ _ l0_0 ((rd_T38 ((rd_T53 l0_0 x20_2).f1) x52_4).f0) _ _ ((rd_T38 ((rd_T53 l0_0 x20_2).f1) x52_4).f1) ((rd_T38 ((rd_T53 l0_0 x20_2).f1) x52_4).f2) ((rd_T38 ((rd_T53 l0_0 x20_2).f1) x52_4).f3) ((rd_T38 ((rd_T53 l0_0 x20_2).f1) x52_4).f4) false _ ?side1 ?side2 ?side3 ?side4 A44.out).mono ?_); (case side1 => exact qa63); (case side2 => exact HC0_0.out); (case side3 => exact qa60); (case side4 => exact HC109_1.out); rintro e w74 ⟨rfl, hb⟩; refine ⟨_, rfl, ?_⟩; have n0_ := qO (blk_below (g := gb101) (o := .cells #[.slice (some ad104) l0_0.length c0_0] 29 (0, 0)) qa9 hb); have n1_ := qO (blk_below (g := gb105) (o := .cells #[.string ((rd_T53 l0_0 x20_2).f0), .slice (some ad109) ((rd_T53 l0_0 x20_2).f1).length c104_1] 53 (0, 0)) qa10 hb); have n2_ := qO (blk_below (g := gb110) (o := .cells #[.string ((rd_T38 ((rd_T53 l0_0 x20_2).f1) x52_4).f0), .slice A109_1 ((rd_T38 ((rd_T53 l0_0 x20_2).f1) x52_4).f1).length c109_1, .string ((rd_T38 ((rd_T53 l0_0 x20_2).f1) x52_4).f2), .bool ((rd_T38 ((rd_T53 l0_0 x20_2).f1) x52_4).f3), .bool ((rd_T38 ((rd_T53 l0_0 x20_2).f1) x52_4).f4)] 38 (0, 0)) qa14 hb); have n3_ := qO (below_step qa16 hb); clear BK101; clear BK105; clear BK110; clear HB; have BK101 := n0_; have BK105 := n1_; have BK110 := n2_; have HB := n3_; clear n0_ n1_ n2_ n3_; (try clear hb); (try clear hb2); (try clear hk); (try clear hi)))
                  go_ret
                  exact ⟨qa3, qa16⟩
                ·rw [if_neg c43] at H
                 exact absurd H qa91
               ·rw [if_neg c42] at H
                exact absurd H qa91
              ·rw [if_neg c41] at H
               have c41b0 : decide (x52_4 < (((rd_T53 l0_0 x20_2).f1).length : Int)) = false := decide_eq_false c41; clear c41; have H' := qO H; clear H; go_wp2
               go_roundg k4
               case measure => have := HJ1.out; have := HK2.out; have := HJ14.out; have := HK4.out; omega
               case rel => exact ⟨(wrap64 (x20_2 + 1)), qa11, H', ⟨qa112⟩, ⟨qa13⟩, ⟨qa20⟩⟩
        ·rw [if_neg c14] at H
         exact absurd H qa91
       ·rw [if_neg c13] at H
        exact absurd H qa91
      ·rw [if_neg c12] at H
       have c12b0 : decide (x20_2 < (l0_0.length : Int)) = false := decide_eq_false c12; clear c12; obtain rfl := Option.some.inj H; go_wp2
       go_ret
       exact ⟨qa3, qa6⟩


def impl_TypeAt.f (k : Nat) (l0_0 : List (S53)) (a1 : ByteArray) : Option (Int × Int) := (impl_isText.f (([a1] : List ByteArray))).bind fun t105 => (if t105 = true then ((impl_SchemaOK.f k l0_0).bind fun t106 => (if t106 = true then ((impl_Schema_typeAt.f l0_0 a1).bind fun t107 => (if t107 < 0 then (some (0, 5)) else (some (t107, 0)))) else (some (0, 1)))) else (some (0, 2)))
set_option maxHeartbeats 8000000 in
set_option maxRecDepth 100000 in
theorem impl_TypeAt.calls (k : Nat) (A0_0 : Option Addr) (c0_0 : Nat) (l0_0 : List (S53)) (a1 : ByteArray) (r1 : Int) (r2 : Int) (w : World) (hr0_0 : Kd.C k53 w A0_0 l0_0.length l0_0) (hc0_0 : l0_0.length ≤ c0_0) (h : impl_TypeAt.f k l0_0 a1 = some (r1, r2)) :
  Calls Try.prog 14 #[.agg #[.slice A0_0 l0_0.length c0_0], .string a1] w fun e w' => e = .returned (.tuple #[.int .i64 r1, .int .i64 r2]) ∧ Below w.heap.size w w' := by
 have hu29 := Try.underlying29; have HR0_0 := qO hr0_0; have HC0_0 := qO hc0_0; clear hr0_0 hc0_0; have HB := qO (Below.refl w.heap.size w); have H : ((impl_isText.f (([a1] : List ByteArray))).bind fun t105 => (if t105 = true then ((impl_SchemaOK.f k l0_0).bind fun t106 => (if t106 = true then ((impl_Schema_typeAt.f l0_0 a1).bind fun t107 => (if t107 < 0 then (some (0, 5)) else (some (t107, 0)))) else (some (0, 1)))) else (some (0, 2)))) = some (r1, r2) := h; clear h; obtain ⟨y102, hy102⟩ : ∃ y_ : List ByteArray, y_ = (([a1] : List ByteArray)) := ⟨_, rfl⟩; replace H : ((impl_isText.f y102).bind fun t105 => (if t105 = true then ((impl_SchemaOK.f k l0_0).bind fun t106 => (if t106 = true then ((impl_Schema_typeAt.f l0_0 a1).bind fun t107 => (if t107 < 0 then (some (0, 5)) else (some (t107, 0)))) else (some (0, 1)))) else (some (0, 2)))) = some (r1, r2) := by first | (rw [hy102]; with_reducible exact H) | (have H2_ := (Option.bind_some _ _).symm.trans H; rw [hy102]; with_reducible exact H2_) | (have H2_ := (Option.bind_some _ _).symm.trans H; with_reducible exact H2_) | with_reducible exact H | (rw [hy102]; exact H) | exact H
 have Ny102 := qO hy102; clear hy102; replace H := Option.bind_eq_some_iff.mp H; obtain ⟨t105, A30, H⟩ := H; replace H : (if t105 = true then ((impl_SchemaOK.f k l0_0).bind fun t106 => (if t106 = true then ((impl_Schema_typeAt.f l0_0 a1).bind fun t107 => (if t107 < 0 then (some (0, 5)) else (some (t107, 0)))) else (some (0, 1)))) else (some (0, 2))) = some (r1, r2) := H; have A3 := qO A30; clear A30
 by_cases c4 : t105 = true
 ·subst c4
  have H1 : ((impl_SchemaOK.f k l0_0).bind fun t106 => (if t106 = true then ((impl_Schema_typeAt.f l0_0 a1).bind fun t107 => (if t107 < 0 then (some (0, 5)) else (some (t107, 0)))) else (some (0, 1)))) = some (r1, r2) := by rw [if_pos rfl] at H; exact H
  clear H; have H := H1; clear H1; replace H := Option.bind_eq_some_iff.mp H; obtain ⟨t106, A50, H⟩ := H; replace H : (if t106 = true then ((impl_Schema_typeAt.f l0_0 a1).bind fun t107 => (if t107 < 0 then (some (0, 5)) else (some (t107, 0)))) else (some (0, 1))) = some (r1, r2) := H; have A5 := qO A50; clear A50
  by_cases c6 : t106 = true
  ·subst c6
   have H1 : ((impl_Schema_typeAt.f l0_0 a1).bind fun t107 => (if t107 < 0 then (some (0, 5)) else (some (t107, 0)))) = some (r1, r2) := by rw [if_pos rfl] at H; exact H
   clear H; have H := H1; clear H1; replace H := Option.bind_eq_some_iff.mp H; obtain ⟨t107, A70, H⟩ := H; replace H : (if t107 < 0 then (some (0, 5)) else (some (t107, 0))) = some (r1, r2) := H; have A7 := qO A70; clear A70
   by_cases c8 : t107 < 0
   ·rw [if_pos c8] at H
    have c8b0 : decide (t107 < 0) = true := decide_eq_true c8; clear c8; simp only [Option.some.injEq, Prod.mk.injEq] at H; obtain ⟨rfl, rfl⟩ := H
    go_enter Try.func14, Try.ntmps14
    go_wp2_with (first | ((with_reducible refine gate_dst (N := 2) rfl ?_); refine box_event ?hg (N := 2) ?hd (cs := #[.slice A0_0 l0_0.length c0_0]) (t := 29) ?hr ?_; (case hd => rfl); (case hg => rfl); (case hr => exact qa18); intro gb101 hg w9 hbox hb; have hx_ := qHX HB hb qa0; have n0_ := qO (below_step (below_step HB.out hx_) hb); have n1_ := qO (hbox); have n2_ := qO ((qa15 : w.heap.size ≤ gb101)); have n3_ := n2_; clear HB; have HB := n0_; have BK101 := n1_; have GW101 := n2_; have GE101 := n3_; clear n0_ n1_ n2_ n3_; clear hx_; clear hb hbox hg) | ((with_reducible refine gate_dst (N := 9) rfl ?_); refine Kd.R_lit Kd.string _ 9 ?hg (N := 9) ?hd (xs := ([a1] : List ByteArray)) (inner := [.string a1]) (ok := fun _ => True) (okp := fun _ => True) ?hr ?hp (fun _ hk => hk) trivial (Below.refl _ _) (Nat.le_refl _) qa91 ?_; (case hd => rfl); (case hg => rfl); (case hr => exact qa18); (case hp => exact qa93); intro v103 w10 ho11 hb hg_ hnew_; clear hg_ hnew_; (first | rw [← Ny102.out] at ho11 | (simp only [Int.reduceToNat] at ho11; rw [← Ny102.out] at ho11)); have n0_ := qO (Kd.R_lower ho11 (below_size qa6)); have n1_ := qO (blk_below (g := gb101) (o := .cells #[.slice A0_0 l0_0.length c0_0] 29 (0, 0)) qa13 hb); have n2_ := qO (below_step qa6 hb); clear BK101; clear HB; have HO104 := n0_; have BK101 := n1_; have HB := n2_; clear n0_ n1_ n2_; clear hb ho11; obtain ⟨Ao12, co12, eo12⟩ := Kd.R_slice HO104.out; subst eo12) | ((with_reducible refine gate_callee (f := 39) rfl ?_); refine goesL_ (some 10) rfl rfl Try.func39 qa17 rfl #[.slice Ao12 y102.length co12] rfl qa1 ?_; (with_reducible refine (impl_isText.calls _ _ y102 true _ ?side1 ?side2 A3.out).mono ?_); (case side1 => exact qa72); (case side2 => exact (Kd.R_reads' HO104.out).2.1); rintro e w13 ⟨rfl, hb⟩; have hx_ := qHX HB hb qa0; refine ⟨_, rfl, ?_⟩; have n0_ := qO (Kd.R_below qa44 hb); have n1_ := qO (qB BK101.out hx_ hb); have n2_ := qO (below_step (below_step HB.out hx_) hb); clear HO104; clear BK101; clear HB; have HO104 := n0_; have BK101 := n1_; have HB := n2_; clear n0_ n1_ n2_; clear hx_; (try clear hb); (try clear hb2); (try clear hk); (try clear hi); have hcz14_0 : w13.cell? ⟨gb101, 0, none⟩ = some (.slice A0_0 l0_0.length c0_0) := (blk_cell BK101.out 0).trans rfl; have hfz14_0 := blk_frozen BK101.out 0) | ((with_reducible refine gate_callee (f := 11) rfl ?_); refine goesL_ (some 14) rfl rfl Try.func11 qa17 rfl #[.agg #[.slice A0_0 l0_0.length c0_0]] rfl qa1 ?_; (with_reducible refine (impl_SchemaOK.calls k _ _ l0_0 true _ ?side1 ?side2 A5.out).mono ?_); (case side1 => exact qa19); (case side2 => exact HC0_0.out); rintro e w15 ⟨rfl, hb⟩; have hx_ := qHX HB hb qa0; refine ⟨_, rfl, ?_⟩; have n0_ := qO (Kd.R_below qa44 hb); have n1_ := qO (qB BK101.out hx_ hb); have n2_ := qO (below_step (below_step HB.out hx_) hb); clear HO104; clear BK101; clear HB; have HO104 := n0_; have BK101 := n1_; have HB := n2_; clear n0_ n1_ n2_; clear hx_; (try clear hb); (try clear hb2); (try clear hk); (try clear hi); have hcz16_0 : w15.cell? ⟨gb101, 0, none⟩ = some (.slice A0_0 l0_0.length c0_0) := (blk_cell BK101.out 0).trans rfl; have hfz16_0 := blk_frozen BK101.out 0) | ((with_reducible refine gate_callee (f := 34) rfl ?_); refine goesL_ (some 18) rfl rfl Try.func34 qa17 rfl #[.agg #[.slice A0_0 l0_0.length c0_0], .string a1] rfl qa1 ?_; (with_reducible refine (impl_Schema_typeAt.calls _ _ l0_0 a1 t107 _ ?side1 ?side2 A7.out).mono ?_); (case side1 => exact qa19); (case side2 => exact HC0_0.out); rintro e w17 ⟨rfl, hb⟩; have hx_ := qHX HB hb qa0; refine ⟨_, rfl, ?_⟩; have n0_ := qO (Kd.R_below qa44 hb); have n1_ := qO (qB BK101.out hx_ hb); have n2_ := qO (below_step (below_step HB.out hx_) hb); clear HO104; clear BK101; clear HB; have HO104 := n0_; have BK101 := n1_; have HB := n2_; clear n0_ n1_ n2_; clear hx_; (try clear hb); (try clear hb2); (try clear hk); (try clear hi)))
    go_ret2
    exact ⟨qa3, qa6⟩
   ·rw [if_neg c8] at H
    have c8b0 : decide (t107 < 0) = false := decide_eq_false c8; clear c8; simp only [Option.some.injEq, Prod.mk.injEq] at H; obtain ⟨rfl, rfl⟩ := H
    go_enter Try.func14, Try.ntmps14
    go_wp2_with (first | ((with_reducible refine gate_dst (N := 2) rfl ?_); refine box_event ?hg (N := 2) ?hd (cs := #[.slice A0_0 l0_0.length c0_0]) (t := 29) ?hr ?_; (case hd => rfl); (case hg => rfl); (case hr => exact qa18); intro gb101 hg w18 hbox hb; have hx_ := qHX HB hb qa0; have n0_ := qO (below_step (below_step HB.out hx_) hb); have n1_ := qO (hbox); have n2_ := qO ((qa15 : w.heap.size ≤ gb101)); have n3_ := n2_; clear HB; have HB := n0_; have BK101 := n1_; have GW101 := n2_; have GE101 := n3_; clear n0_ n1_ n2_ n3_; clear hx_; clear hb hbox hg) | ((with_reducible refine gate_dst (N := 9) rfl ?_); refine Kd.R_lit Kd.string _ 9 ?hg (N := 9) ?hd (xs := ([a1] : List ByteArray)) (inner := [.string a1]) (ok := fun _ => True) (okp := fun _ => True) ?hr ?hp (fun _ hk => hk) trivial (Below.refl _ _) (Nat.le_refl _) qa91 ?_; (case hd => rfl); (case hg => rfl); (case hr => exact qa18); (case hp => exact qa93); intro v103 w19 ho20 hb hg_ hnew_; clear hg_ hnew_; (first | rw [← Ny102.out] at ho20 | (simp only [Int.reduceToNat] at ho20; rw [← Ny102.out] at ho20)); have n0_ := qO (Kd.R_lower ho20 (below_size qa6)); have n1_ := qO (blk_below (g := gb101) (o := .cells #[.slice A0_0 l0_0.length c0_0] 29 (0, 0)) qa13 hb); have n2_ := qO (below_step qa6 hb); clear BK101; clear HB; have HO104 := n0_; have BK101 := n1_; have HB := n2_; clear n0_ n1_ n2_; clear hb ho20; obtain ⟨Ao21, co21, eo21⟩ := Kd.R_slice HO104.out; subst eo21) | ((with_reducible refine gate_callee (f := 39) rfl ?_); refine goesL_ (some 10) rfl rfl Try.func39 qa17 rfl #[.slice Ao21 y102.length co21] rfl qa1 ?_; (with_reducible refine (impl_isText.calls _ _ y102 true _ ?side1 ?side2 A3.out).mono ?_); (case side1 => exact qa72); (case side2 => exact (Kd.R_reads' HO104.out).2.1); rintro e w22 ⟨rfl, hb⟩; have hx_ := qHX HB hb qa0; refine ⟨_, rfl, ?_⟩; have n0_ := qO (Kd.R_below qa44 hb); have n1_ := qO (qB BK101.out hx_ hb); have n2_ := qO (below_step (below_step HB.out hx_) hb); clear HO104; clear BK101; clear HB; have HO104 := n0_; have BK101 := n1_; have HB := n2_; clear n0_ n1_ n2_; clear hx_; (try clear hb); (try clear hb2); (try clear hk); (try clear hi); have hcz23_0 : w22.cell? ⟨gb101, 0, none⟩ = some (.slice A0_0 l0_0.length c0_0) := (blk_cell BK101.out 0).trans rfl; have hfz23_0 := blk_frozen BK101.out 0) | ((with_reducible refine gate_callee (f := 11) rfl ?_); refine goesL_ (some 14) rfl rfl Try.func11 qa17 rfl #[.agg #[.slice A0_0 l0_0.length c0_0]] rfl qa1 ?_; (with_reducible refine (impl_SchemaOK.calls k _ _ l0_0 true _ ?side1 ?side2 A5.out).mono ?_); (case side1 => exact qa19); (case side2 => exact HC0_0.out); rintro e w24 ⟨rfl, hb⟩; have hx_ := qHX HB hb qa0; refine ⟨_, rfl, ?_⟩; have n0_ := qO (Kd.R_below qa44 hb); have n1_ := qO (qB BK101.out hx_ hb); have n2_ := qO (below_step (below_step HB.out hx_) hb); clear HO104; clear BK101; clear HB; have HO104 := n0_; have BK101 := n1_; have HB := n2_; clear n0_ n1_ n2_; clear hx_; (try clear hb); (try clear hb2); (try clear hk); (try clear hi); have hcz25_0 : w24.cell? ⟨gb101, 0, none⟩ = some (.slice A0_0 l0_0.length c0_0) := (blk_cell BK101.out 0).trans rfl; have hfz25_0 := blk_frozen BK101.out 0) | ((with_reducible refine gate_callee (f := 34) rfl ?_); refine goesL_ (some 18) rfl rfl Try.func34 qa17 rfl #[.agg #[.slice A0_0 l0_0.length c0_0], .string a1] rfl qa1 ?_; (with_reducible refine (impl_Schema_typeAt.calls _ _ l0_0 a1 t107 _ ?side1 ?side2 A7.out).mono ?_); (case side1 => exact qa19); (case side2 => exact HC0_0.out); rintro e w26 ⟨rfl, hb⟩; have hx_ := qHX HB hb qa0; refine ⟨_, rfl, ?_⟩; have n0_ := qO (Kd.R_below qa44 hb); have n1_ := qO (qB BK101.out hx_ hb); have n2_ := qO (below_step (below_step HB.out hx_) hb); clear HO104; clear BK101; clear HB; have HO104 := n0_; have BK101 := n1_; have HB := n2_; clear n0_ n1_ n2_; clear hx_; (try clear hb); (try clear hb2); (try clear hk); (try clear hi)))
    go_ret2
    exact ⟨qa3, qa6⟩
  ·replace c6 := Bool.eq_false_iff.mpr c6
   subst c6; have H1 : (some (0, 1)) = some (r1, r2) := by rw [if_neg (show ¬ (false = true) by decide)] at H; exact H
   clear H; have H := H1; clear H1; simp only [Option.some.injEq, Prod.mk.injEq] at H; obtain ⟨rfl, rfl⟩ := H
   go_enter Try.func14, Try.ntmps14
   go_wp2_with (first | ((with_reducible refine gate_dst (N := 2) rfl ?_); refine box_event ?hg (N := 2) ?hd (cs := #[.slice A0_0 l0_0.length c0_0]) (t := 29) ?hr ?_; (case hd => rfl); (case hg => rfl); (case hr => exact qa18); intro gb101 hg w27 hbox hb; have hx_ := qHX HB hb qa0; have n0_ := qO (below_step (below_step HB.out hx_) hb); have n1_ := qO (hbox); have n2_ := qO ((qa15 : w.heap.size ≤ gb101)); have n3_ := n2_; clear HB; have HB := n0_; have BK101 := n1_; have GW101 := n2_; have GE101 := n3_; clear n0_ n1_ n2_ n3_; clear hx_; clear hb hbox hg) | ((with_reducible refine gate_dst (N := 9) rfl ?_); refine Kd.R_lit Kd.string _ 9 ?hg (N := 9) ?hd (xs := ([a1] : List ByteArray)) (inner := [.string a1]) (ok := fun _ => True) (okp := fun _ => True) ?hr ?hp (fun _ hk => hk) trivial (Below.refl _ _) (Nat.le_refl _) qa91 ?_; (case hd => rfl); (case hg => rfl); (case hr => exact qa18); (case hp => exact qa93); intro v103 w28 ho29 hb hg_ hnew_; clear hg_ hnew_; (first | rw [← Ny102.out] at ho29 | (simp only [Int.reduceToNat] at ho29; rw [← Ny102.out] at ho29)); have n0_ := qO (Kd.R_lower ho29 (below_size qa6)); have n1_ := qO (blk_below (g := gb101) (o := .cells #[.slice A0_0 l0_0.length c0_0] 29 (0, 0)) qa13 hb); have n2_ := qO (below_step qa6 hb); clear BK101; clear HB; have HO104 := n0_; have BK101 := n1_; have HB := n2_; clear n0_ n1_ n2_; clear hb ho29; obtain ⟨Ao30, co30, eo30⟩ := Kd.R_slice HO104.out; subst eo30) | ((with_reducible refine gate_callee (f := 39) rfl ?_); refine goesL_ (some 10) rfl rfl Try.func39 qa17 rfl #[.slice Ao30 y102.length co30] rfl qa1 ?_; (with_reducible refine (impl_isText.calls _ _ y102 true _ ?side1 ?side2 A3.out).mono ?_); (case side1 => exact qa72); (case side2 => exact (Kd.R_reads' HO104.out).2.1); rintro e w31 ⟨rfl, hb⟩; have hx_ := qHX HB hb qa0; refine ⟨_, rfl, ?_⟩; have n0_ := qO (Kd.R_below qa44 hb); have n1_ := qO (qB BK101.out hx_ hb); have n2_ := qO (below_step (below_step HB.out hx_) hb); clear HO104; clear BK101; clear HB; have HO104 := n0_; have BK101 := n1_; have HB := n2_; clear n0_ n1_ n2_; clear hx_; (try clear hb); (try clear hb2); (try clear hk); (try clear hi); have hcz32_0 : w31.cell? ⟨gb101, 0, none⟩ = some (.slice A0_0 l0_0.length c0_0) := (blk_cell BK101.out 0).trans rfl; have hfz32_0 := blk_frozen BK101.out 0) | ((with_reducible refine gate_callee (f := 11) rfl ?_); refine goesL_ (some 14) rfl rfl Try.func11 qa17 rfl #[.agg #[.slice A0_0 l0_0.length c0_0]] rfl qa1 ?_; (with_reducible refine (impl_SchemaOK.calls k _ _ l0_0 false _ ?side1 ?side2 A5.out).mono ?_); (case side1 => exact qa19); (case side2 => exact HC0_0.out); rintro e w33 ⟨rfl, hb⟩; have hx_ := qHX HB hb qa0; refine ⟨_, rfl, ?_⟩; have n0_ := qO (Kd.R_below qa44 hb); have n1_ := qO (qB BK101.out hx_ hb); have n2_ := qO (below_step (below_step HB.out hx_) hb); clear HO104; clear BK101; clear HB; have HO104 := n0_; have BK101 := n1_; have HB := n2_; clear n0_ n1_ n2_; clear hx_; (try clear hb); (try clear hb2); (try clear hk); (try clear hi)))
   go_ret2
   exact ⟨qa3, qa6⟩
 ·replace c4 := Bool.eq_false_iff.mpr c4
  subst c4; have H1 : (some (0, 2)) = some (r1, r2) := by rw [if_neg (show ¬ (false = true) by decide)] at H; exact H
  clear H; have H := H1; clear H1; simp only [Option.some.injEq, Prod.mk.injEq] at H; obtain ⟨rfl, rfl⟩ := H
  go_enter Try.func14, Try.ntmps14
  go_wp2_with (first | ((with_reducible refine gate_dst (N := 2) rfl ?_); refine box_event ?hg (N := 2) ?hd (cs := #[.slice A0_0 l0_0.length c0_0]) (t := 29) ?hr ?_; (case hd => rfl); (case hg => rfl); (case hr => exact qa18); intro gb101 hg w34 hbox hb; have hx_ := qHX HB hb qa0; have n0_ := qO (below_step (below_step HB.out hx_) hb); have n1_ := qO (hbox); have n2_ := qO ((qa15 : w.heap.size ≤ gb101)); have n3_ := n2_; clear HB; have HB := n0_; have BK101 := n1_; have GW101 := n2_; have GE101 := n3_; clear n0_ n1_ n2_ n3_; clear hx_; clear hb hbox hg) | ((with_reducible refine gate_dst (N := 9) rfl ?_); refine Kd.R_lit Kd.string _ 9 ?hg (N := 9) ?hd (xs := ([a1] : List ByteArray)) (inner := [.string a1]) (ok := fun _ => True) (okp := fun _ => True) ?hr ?hp (fun _ hk => hk) trivial (Below.refl _ _) (Nat.le_refl _) qa91 ?_; (case hd => rfl); (case hg => rfl); (case hr => exact qa18); (case hp => exact qa93); intro v103 w35 ho36 hb hg_ hnew_; clear hg_ hnew_; (first | rw [← Ny102.out] at ho36 | (simp only [Int.reduceToNat] at ho36; rw [← Ny102.out] at ho36)); have n0_ := qO (Kd.R_lower ho36 (below_size qa6)); have n1_ := qO (blk_below (g := gb101) (o := .cells #[.slice A0_0 l0_0.length c0_0] 29 (0, 0)) qa13 hb); have n2_ := qO (below_step qa6 hb); clear BK101; clear HB; have HO104 := n0_; have BK101 := n1_; have HB := n2_; clear n0_ n1_ n2_; clear hb ho36; obtain ⟨Ao37, co37, eo37⟩ := Kd.R_slice HO104.out; subst eo37) | ((with_reducible refine gate_callee (f := 39) rfl ?_); refine goesL_ (some 10) rfl rfl Try.func39 qa17 rfl #[.slice Ao37 y102.length co37] rfl qa1 ?_; (with_reducible refine (impl_isText.calls _ _ y102 false _ ?side1 ?side2 A3.out).mono ?_); (case side1 => exact qa72); (case side2 => exact (Kd.R_reads' HO104.out).2.1); rintro e w38 ⟨rfl, hb⟩; have hx_ := qHX HB hb qa0; refine ⟨_, rfl, ?_⟩; have n0_ := qO (Kd.R_below qa44 hb); have n1_ := qO (qB BK101.out hx_ hb); have n2_ := qO (below_step (below_step HB.out hx_) hb); clear HO104; clear BK101; clear HB; have HO104 := n0_; have BK101 := n1_; have HB := n2_; clear n0_ n1_ n2_; clear hx_; (try clear hb); (try clear hb2); (try clear hk); (try clear hi)))
  go_ret2
  exact ⟨qa3, qa6⟩


def impl_ArgDef_40.f (l0 : List (S57)) : Option (List (S57)) := if l0.length < 5864062014805 then some l0 else none
set_option maxHeartbeats 4000000 in
set_option maxRecDepth 100000 in
theorem impl_ArgDef_40.calls (A0 : Option Addr) (c0 : Nat) (l0 : List (S57)) (r : List (S57)) (w : World) (hr0 : Kd.C k57 w A0 l0.length l0) (hc0 : l0.length ≤ c0) (h : impl_ArgDef_40.f l0 = some r) :
  Calls Try.prog 40 #[.slice A0 l0.length c0] w fun e w' => ∃ v0_ : Value, e = .returned (v0_) ∧ Kd.R k57 57 w' w.heap.size (fun _ => True) v0_ r ∧ Below w.heap.size w w' := by
 unfold impl_ArgDef_40.f at h
 by_cases hl : l0.length < 5864062014805
 ·rw [if_pos hl] at h
  obtain rfl := Option.some.inj h; have LM := qO hl; have HR0 := qO hr0; have HB := qO (Below.refl w.heap.size w)
  cases A0 with
  | none =>
   have hz : l0.length = 0 := by
    rcases Nat.eq_zero_or_pos l0.length with h0 | h0
    ·exact h0
    ·obtain ⟨ad, e, _⟩ := hr0.2.2 h0
     cases e
   obtain rfl := List.eq_nil_of_length_eq_zero hz; have heq := fun w => Lib.run_eql_slice_nil (P := Try.prog) w 36 57 none 0 c0 0 0 Try.underlying36
   clear hr0 hc0 hl LM HR0 hz
   go_enter Try.func40, Try.ntmps40
   go_wp2
   go_ret
   exact ⟨_, rfl, Kd.R_nil _ _ _ _ _, HB.out⟩
  | some a0 =>
   have heq := fun w => Lib.run_eql_slice_nil (P := Try.prog) w 36 57 (some a0) l0.length c0 0 0 Try.underlying36
   clear hr0 hc0 hl
   go_enter Try.func40, Try.ntmps40
   go_wp2_with (first | ((with_reducible refine gate_dst (N := 5) rfl ?_); refine Kd.R_lit k57 _ 57 ?hg (N := 5) ?hd (xs := ([] : List (S57))) (inner := []) (ok := fun _ => True) (okp := fun _ => True) ?hr ?hp (fun _ hk => hk) trivial (Below.refl _ _) (Nat.le_refl _) qa91 ?_; (case hd => rfl); (case hg => rfl); (case hr => exact qa18); (case hp => exact (Reps.none _ _)); intro v104 w6 ho7 hb hg_ hnew_; clear hg_ hnew_; have n0_ := qO ho7; have n1_ := qO hb; clear HB; have HO := n0_; have HB := n1_; clear n0_ n1_ hb ho7) | ((with_reducible refine gate_builtin (b := .append) (xs := #[.tmp 5, .tmp 6]) rfl ?_); at_builtin; refine Kd.R_append_rows k57 (w0 := w) w.heap.size rfl (.tmp 5) (.tmp 6) 36 57 (.agg #[(.string ⟨#[]⟩), (.bool false)]) 24 rfl Try.underlying36 info57 rfl qa108 qa27 v104 [] l0 _ _ _ (fun _ => True) (fun _ => False) rfl rfl ?aO ?aR (fun _ _ h => h) (fun _ h => h.elim) ?aF ?aB ?aS ?aL ?_; (case aR => repeat (first | exact (Kd.C_below HR0.out HB.out) | with_reducible first | refine Kd.C_alloc ?_ _ | refine Kd.C_drewN ?_ _ | refine Kd.C_drew ?_)); (case aB => exact HB.out); (case aF => exact (fun _ _ => trivial)); (case aO => exact HO.out); (case aS => exact (below_size HB.out)); (case aL => have := LM.out; simp only [List.length_nil]; omega); intro v107 w10 ho hb hg hat; have n0_ := qO hb; have n1_ := qO ho; clear HB HO; have HB := n0_; have HO := n1_; clear n0_ n1_ ho hb hg hat))
   go_ret
   exact ⟨_, rfl, by simpa using HO.out, HB.out⟩
 ·rw [if_neg hl] at h
  cases h


def impl_FieldAt.f (k : Nat) (l0_0 : List (S53)) (a1 : ByteArray) (a2 : ByteArray) : Option (ByteArray × (List (S57)) × ByteArray × Bool × Bool × Int) := (impl_isText.f (([a2] : List ByteArray))).bind fun t106 => (if t106 = true then ((impl_TypeAt.f k l0_0 a1).bind fun bt107 => (if bt107.2 = 0 then (if 0 ≤ bt107.1 then (if bt107.1 < (l0_0.length : Int) then ((impl_TypeDef_fieldAt.f ((rd_T53 l0_0 bt107.1).f0) ((rd_T53 l0_0 bt107.1).f1) a2).bind fun t110 => (if t110 < 0 then (some ((⟨#[]⟩ : ByteArray), ([] : List (S57)), (⟨#[]⟩ : ByteArray), false, false, 9)) else (if 0 ≤ t110 then (if t110 < (((rd_T53 l0_0 bt107.1).f1).length : Int) then ((impl_ArgDef_40.f ((rd_T38 ((rd_T53 l0_0 bt107.1).f1) t110).f1)).bind fun t114 => (some ((rd_T38 ((rd_T53 l0_0 bt107.1).f1) t110).f0, t114, (rd_T38 ((rd_T53 l0_0 bt107.1).f1) t110).f2, (rd_T38 ((rd_T53 l0_0 bt107.1).f1) t110).f3, (rd_T38 ((rd_T53 l0_0 bt107.1).f1) t110).f4, 0))) else (none)) else (none)))) else (none)) else (none)) else (some ((⟨#[]⟩ : ByteArray), ([] : List (S57)), (⟨#[]⟩ : ByteArray), false, false, bt107.2)))) else (some ((⟨#[]⟩ : ByteArray), ([] : List (S57)), (⟨#[]⟩ : ByteArray), false, false, 2)))
set_option maxHeartbeats 8000000 in
set_option maxRecDepth 100000 in
theorem impl_FieldAt.calls (k : Nat) (A0_0 : Option Addr) (c0_0 : Nat) (l0_0 : List (S53)) (a1 : ByteArray) (a2 : ByteArray) (r1 : ByteArray) (r2 : List (S57)) (r3 : ByteArray) (r4 : Bool) (r5 : Bool) (r6 : Int) (w : World) (hr0_0 : Kd.C k53 w A0_0 l0_0.length l0_0) (hc0_0 : l0_0.length ≤ c0_0) (h : impl_FieldAt.f k l0_0 a1 a2 = some (r1, r2, r3, r4, r5, r6)) :
  Calls Try.prog 16 #[.agg #[.slice A0_0 l0_0.length c0_0], .string a1, .string a2] w fun e w' => ∃ v1_ : Value, e = .returned (.tuple #[.agg #[.string r1, v1_, .string r3, .bool r4, .bool r5], .int .i64 r6]) ∧ Kd.R k57 57 w' w.heap.size (fun _ => True) v1_ r2 ∧ Below w.heap.size w w' := by
 have hu29 := Try.underlying29; have hu38 := Try.underlying38; have hu53 := Try.underlying53; have HR0_0 := qO hr0_0; have HC0_0 := qO hc0_0; clear hr0_0 hc0_0; have HB := qO (Below.refl w.heap.size w); have H : ((impl_isText.f (([a2] : List ByteArray))).bind fun t106 => (if t106 = true then ((impl_TypeAt.f k l0_0 a1).bind fun bt107 => (if bt107.2 = 0 then (if 0 ≤ bt107.1 then (if bt107.1 < (l0_0.length : Int) then ((impl_TypeDef_fieldAt.f ((rd_T53 l0_0 bt107.1).f0) ((rd_T53 l0_0 bt107.1).f1) a2).bind fun t110 => (if t110 < 0 then (some ((⟨#[]⟩ : ByteArray), ([] : List (S57)), (⟨#[]⟩ : ByteArray), false, false, 9)) else (if 0 ≤ t110 then (if t110 < (((rd_T53 l0_0 bt107.1).f1).length : Int) then ((impl_ArgDef_40.f ((rd_T38 ((rd_T53 l0_0 bt107.1).f1) t110).f1)).bind fun t114 => (some ((rd_T38 ((rd_T53 l0_0 bt107.1).f1) t110).f0, t114, (rd_T38 ((rd_T53 l0_0 bt107.1).f1) t110).f2, (rd_T38 ((rd_T53 l0_0 bt107.1).f1) t110).f3, (rd_T38 ((rd_T53 l0_0 bt107.1).f1) t110).f4, 0))) else (none)) else (none)))) else (none)) else (none)) else (some ((⟨#[]⟩ : ByteArray), ([] : List (S57)), (⟨#[]⟩ : ByteArray), false, false, bt107.2)))) else (some ((⟨#[]⟩ : ByteArray), ([] : List (S57)), (⟨#[]⟩ : ByteArray), false, false, 2)))) = some (r1, r2, r3, r4, r5, r6) := h; clear h; obtain ⟨y103, hy103⟩ : ∃ y_ : List ByteArray, y_ = (([a2] : List ByteArray)) := ⟨_, rfl⟩; replace H : ((impl_isText.f y103).bind fun t106 => (if t106 = true then ((impl_TypeAt.f k l0_0 a1).bind fun bt107 => (if bt107.2 = 0 then (if 0 ≤ bt107.1 then (if bt107.1 < (l0_0.length : Int) then ((impl_TypeDef_fieldAt.f ((rd_T53 l0_0 bt107.1).f0) ((rd_T53 l0_0 bt107.1).f1) a2).bind fun t110 => (if t110 < 0 then (some ((⟨#[]⟩ : ByteArray), ([] : List (S57)), (⟨#[]⟩ : ByteArray), false, false, 9)) else (if 0 ≤ t110 then (if t110 < (((rd_T53 l0_0 bt107.1).f1).length : Int) then ((impl_ArgDef_40.f ((rd_T38 ((rd_T53 l0_0 bt107.1).f1) t110).f1)).bind fun t114 => (some ((rd_T38 ((rd_T53 l0_0 bt107.1).f1) t110).f0, t114, (rd_T38 ((rd_T53 l0_0 bt107.1).f1) t110).f2, (rd_T38 ((rd_T53 l0_0 bt107.1).f1) t110).f3, (rd_T38 ((rd_T53 l0_0 bt107.1).f1) t110).f4, 0))) else (none)) else (none)))) else (none)) else (none)) else (some ((⟨#[]⟩ : ByteArray), ([] : List (S57)), (⟨#[]⟩ : ByteArray), false, false, bt107.2)))) else (some ((⟨#[]⟩ : ByteArray), ([] : List (S57)), (⟨#[]⟩ : ByteArray), false, false, 2)))) = some (r1, r2, r3, r4, r5, r6) := by first | (rw [hy103]; with_reducible exact H) | (have H2_ := (Option.bind_some _ _).symm.trans H; rw [hy103]; with_reducible exact H2_) | (have H2_ := (Option.bind_some _ _).symm.trans H; with_reducible exact H2_) | with_reducible exact H | (rw [hy103]; exact H) | exact H
 have Ny103 := qO hy103; clear hy103; replace H := Option.bind_eq_some_iff.mp H; obtain ⟨t106, A40, H⟩ := H; replace H : (if t106 = true then ((impl_TypeAt.f k l0_0 a1).bind fun bt107 => (if bt107.2 = 0 then (if 0 ≤ bt107.1 then (if bt107.1 < (l0_0.length : Int) then ((impl_TypeDef_fieldAt.f ((rd_T53 l0_0 bt107.1).f0) ((rd_T53 l0_0 bt107.1).f1) a2).bind fun t110 => (if t110 < 0 then (some ((⟨#[]⟩ : ByteArray), ([] : List (S57)), (⟨#[]⟩ : ByteArray), false, false, 9)) else (if 0 ≤ t110 then (if t110 < (((rd_T53 l0_0 bt107.1).f1).length : Int) then ((impl_ArgDef_40.f ((rd_T38 ((rd_T53 l0_0 bt107.1).f1) t110).f1)).bind fun t114 => (some ((rd_T38 ((rd_T53 l0_0 bt107.1).f1) t110).f0, t114, (rd_T38 ((rd_T53 l0_0 bt107.1).f1) t110).f2, (rd_T38 ((rd_T53 l0_0 bt107.1).f1) t110).f3, (rd_T38 ((rd_T53 l0_0 bt107.1).f1) t110).f4, 0))) else (none)) else (none)))) else (none)) else (none)) else (some ((⟨#[]⟩ : ByteArray), ([] : List (S57)), (⟨#[]⟩ : ByteArray), false, false, bt107.2)))) else (some ((⟨#[]⟩ : ByteArray), ([] : List (S57)), (⟨#[]⟩ : ByteArray), false, false, 2))) = some (r1, r2, r3, r4, r5, r6) := H; have A4 := qO A40; clear A40
 by_cases c5 : t106 = true
 ·subst c5
  have H1 : ((impl_TypeAt.f k l0_0 a1).bind fun bt107 => (if bt107.2 = 0 then (if 0 ≤ bt107.1 then (if bt107.1 < (l0_0.length : Int) then ((impl_TypeDef_fieldAt.f ((rd_T53 l0_0 bt107.1).f0) ((rd_T53 l0_0 bt107.1).f1) a2).bind fun t110 => (if t110 < 0 then (some ((⟨#[]⟩ : ByteArray), ([] : List (S57)), (⟨#[]⟩ : ByteArray), false, false, 9)) else (if 0 ≤ t110 then (if t110 < (((rd_T53 l0_0 bt107.1).f1).length : Int) then ((impl_ArgDef_40.f ((rd_T38 ((rd_T53 l0_0 bt107.1).f1) t110).f1)).bind fun t114 => (some ((rd_T38 ((rd_T53 l0_0 bt107.1).f1) t110).f0, t114, (rd_T38 ((rd_T53 l0_0 bt107.1).f1) t110).f2, (rd_T38 ((rd_T53 l0_0 bt107.1).f1) t110).f3, (rd_T38 ((rd_T53 l0_0 bt107.1).f1) t110).f4, 0))) else (none)) else (none)))) else (none)) else (none)) else (some ((⟨#[]⟩ : ByteArray), ([] : List (S57)), (⟨#[]⟩ : ByteArray), false, false, bt107.2)))) = some (r1, r2, r3, r4, r5, r6) := by rw [if_pos rfl] at H; exact H
  clear H; have H := H1; clear H1; replace H := Option.bind_eq_some_iff.mp H; obtain ⟨⟨t107, t108⟩, A60, H⟩ := H; replace H : (if t108 = 0 then (if 0 ≤ t107 then (if t107 < (l0_0.length : Int) then ((impl_TypeDef_fieldAt.f ((rd_T53 l0_0 t107).f0) ((rd_T53 l0_0 t107).f1) a2).bind fun t110 => (if t110 < 0 then (some ((⟨#[]⟩ : ByteArray), ([] : List (S57)), (⟨#[]⟩ : ByteArray), false, false, 9)) else (if 0 ≤ t110 then (if t110 < (((rd_T53 l0_0 t107).f1).length : Int) then ((impl_ArgDef_40.f ((rd_T38 ((rd_T53 l0_0 t107).f1) t110).f1)).bind fun t114 => (some ((rd_T38 ((rd_T53 l0_0 t107).f1) t110).f0, t114, (rd_T38 ((rd_T53 l0_0 t107).f1) t110).f2, (rd_T38 ((rd_T53 l0_0 t107).f1) t110).f3, (rd_T38 ((rd_T53 l0_0 t107).f1) t110).f4, 0))) else (none)) else (none)))) else (none)) else (none)) else (some ((⟨#[]⟩ : ByteArray), ([] : List (S57)), (⟨#[]⟩ : ByteArray), false, false, t108))) = some (r1, r2, r3, r4, r5, r6) := H; have A6 := qO A60; clear A60
  by_cases c7 : t108 = 0
  ·rw [if_pos c7] at H
   have c7b0 : (t108 == 0) = true := beq_iff_eq.mpr c7; have c7b1 : (t108 != 0) = false := bne_eq_false_iff_eq.mpr c7; clear c7
   by_cases c8 : 0 ≤ t107
   ·rw [if_pos c8] at H
    have c8b0 : decide (0 ≤ t107) = true := decide_eq_true c8; clear c8
    by_cases c9 : t107 < (l0_0.length : Int)
    ·rw [if_pos c9] at H
     have c9b0 : decide (t107 < (l0_0.length : Int)) = true := decide_eq_true c9; clear c9; replace H := Option.bind_eq_some_iff.mp H; obtain ⟨t110, A100, H⟩ := H; replace H : (if t110 < 0 then (some ((⟨#[]⟩ : ByteArray), ([] : List (S57)), (⟨#[]⟩ : ByteArray), false, false, 9)) else (if 0 ≤ t110 then (if t110 < (((rd_T53 l0_0 t107).f1).length : Int) then ((impl_ArgDef_40.f ((rd_T38 ((rd_T53 l0_0 t107).f1) t110).f1)).bind fun t114 => (some ((rd_T38 ((rd_T53 l0_0 t107).f1) t110).f0, t114, (rd_T38 ((rd_T53 l0_0 t107).f1) t110).f2, (rd_T38 ((rd_T53 l0_0 t107).f1) t110).f3, (rd_T38 ((rd_T53 l0_0 t107).f1) t110).f4, 0))) else (none)) else (none))) = some (r1, r2, r3, r4, r5, r6) := H; have A10 := qO A100; clear A100
     by_cases c11 : t110 < 0
     ·rw [if_pos c11] at H
      have c11b0 : decide (t110 < 0) = true := decide_eq_true c11; clear c11; simp only [Option.some.injEq, Prod.mk.injEq] at H; obtain ⟨rfl, rfl, rfl, rfl, rfl, rfl⟩ := H
      go_enter Try.func16, Try.ntmps16
      go_wp2_with (first | ((with_reducible refine gate_dst (N := 3) rfl ?_); refine box_event ?hg (N := 3) ?hd (cs := #[.slice A0_0 l0_0.length c0_0]) (t := 29) ?hr ?_; (case hd => rfl); (case hg => rfl); (case hr => exact qa18); intro gb101 hg w12 hbox hb; have hx_ := qHX HB hb qa0; have n0_ := qO (below_step (below_step HB.out hx_) hb); have n1_ := qO (hbox); have n2_ := qO ((qa15 : w.heap.size ≤ gb101)); have n3_ := n2_; clear HB; have HB := n0_; have BK101 := n1_; have GW101 := n2_; have GE101 := n3_; clear n0_ n1_ n2_ n3_; clear hx_; clear hb hbox hg) | ((with_reducible refine gate_dst (N := 6) rfl ?_); refine box_event ?hg (N := 6) ?hd (cs := #[.string (⟨#[]⟩ : ByteArray), .slice none 0 0, .string (⟨#[]⟩ : ByteArray), .bool false, .bool false]) (t := 38) ?hr ?_; (case hd => rfl); (case hg => rfl); (case hr => exact qa18); intro gb102 hg w13 hbox hb; have hx_ := qHX HB hb qa0; have n0_ := qO (qB BK101.out hx_ hb); have n1_ := qO (below_step (below_step HB.out hx_) hb); have n2_ := qO (hbox); have n3_ := qO ((qa15 : w.heap.size ≤ gb102)); have n4_ := n3_; have n5_ := qO ((qa24 : gb101 ≠ gb102)); have n6_ := qO (Ne.symm n5_.out); clear BK101; clear HB; have BK101 := n0_; have HB := n1_; have BK102 := n2_; have GW102 := n3_; have GE102 := n4_; have NB101_102 := n5_; have NB102_101 := n6_; clear n0_ n1_ n2_ n3_ n4_ n5_ n6_; clear hx_; clear hb hbox hg) | ((with_reducible refine gate_dst (N := 13) rfl ?_); refine Kd.R_lit Kd.string _ 9 ?hg (N := 13) ?hd (xs := ([a2] : List ByteArray)) (inner := [.string a2]) (ok := fun _ => True) (okp := fun _ => True) ?hr ?hp (fun _ hk => hk) trivial (Below.refl _ _) (Nat.le_refl _) qa91 ?_; (case hd => rfl); (case hg => rfl); (case hr => exact qa18); (case hp => exact qa94); intro v104 w14 ho15 hb hg_ hnew_; clear hg_ hnew_; (first | rw [← Ny103.out] at ho15 | (simp only [Int.reduceToNat] at ho15; rw [← Ny103.out] at ho15)); have n0_ := qO (Kd.R_lower ho15 (below_size qa7)); have n1_ := qO (blk_below (g := gb101) (o := .cells #[.slice A0_0 l0_0.length c0_0] 29 (0, 0)) qa13 hb); have n2_ := qO (blk_below (g := gb102) (o := .cells #[.string (⟨#[]⟩ : ByteArray), .slice none 0 0, .string (⟨#[]⟩ : ByteArray), .bool false, .bool false] 38 (0, 0)) qa31 hb); have n3_ := qO (below_step qa7 hb); clear BK101; clear BK102; clear HB; have HO105 := n0_; have BK101 := n1_; have BK102 := n2_; have HB := n3_; clear n0_ n1_ n2_ n3_; clear hb ho15; obtain ⟨Ao16, co16, eo16⟩ := Kd.R_slice HO105.out; subst eo16) | ((with_reducible refine gate_callee (f := 39) rfl ?_); refine goesL_ (some 14) rfl rfl Try.func39 qa17 rfl #[.slice Ao16 y103.length co16] rfl qa1 ?_; (with_reducible refine (impl_isText.calls _ _ y103 true _ ?side1 ?side2 A4.out).mono ?_); (case side1 => exact qa73); (case side2 => exact (Kd.R_reads' HO105.out).2.1); rintro e w17 ⟨rfl, hb⟩; have hx_ := qHX HB hb qa0; refine ⟨_, rfl, ?_⟩; have n0_ := qO (Kd.R_below qa41 hb); have n1_ := qO (qB BK101.out hx_ hb); have n2_ := qO (qB BK102.out hx_ hb); have n3_ := qO (below_step (below_step HB.out hx_) hb); clear HO105; clear BK101; clear BK102; clear HB; have HO105 := n0_; have BK101 := n1_; have BK102 := n2_; have HB := n3_; clear n0_ n1_ n2_ n3_; clear hx_; (try clear hb); (try clear hb2); (try clear hk); (try clear hi); have hnb18 := NB101_102.out; have hnc18 := NB102_101.out; have hcz19_0 : w17.cell? ⟨gb101, 0, none⟩ = some (.slice A0_0 l0_0.length c0_0) := (blk_cell BK101.out 0).trans rfl; have hfz19_0 := blk_frozen BK101.out 0) | ((with_reducible refine gate_callee (f := 14) rfl ?_); refine goesL_ (some 20) rfl rfl Try.func14 qa17 rfl #[.agg #[.slice A0_0 l0_0.length c0_0], .string a1] rfl qa1 ?_; (with_reducible refine (impl_TypeAt.calls k _ _ l0_0 a1 t107 t108 _ ?side1 ?side2 A6.out).mono ?_); (case side1 => exact qa19); (case side2 => exact HC0_0.out); rintro e w20 ⟨rfl, hb⟩; have hx_ := qHX HB hb qa0; refine ⟨_, rfl, ?_⟩; have n0_ := qO (Kd.R_below qa41 hb); have n1_ := qO (qB BK101.out hx_ hb); have n2_ := qO (qB BK102.out hx_ hb); have n3_ := qO (below_step (below_step HB.out hx_) hb); clear HO105; clear BK101; clear BK102; clear HB; have HO105 := n0_; have BK101 := n1_; have BK102 := n2_; have HB := n3_; clear n0_ n1_ n2_ n3_; clear hx_; (try clear hb); (try clear hb2); (try clear hk); (try clear hi); have hcz21_0 : w20.cell? ⟨gb101, 0, none⟩ = some (.slice A0_0 l0_0.length c0_0) := (blk_cell BK101.out 0).trans rfl; have hfz21_0 := blk_frozen BK101.out 0; have p109 : 0 ≤ (t107 : Int) := qT qa5; have q109 : t107 < (l0_0.length : Int) := qT qa5; obtain ⟨ad109, A109_1, c109_1, e109, hx109_0, hx109_1, hl109_1, hi109_1⟩ := at_T53 HR0_0.out t107 p109 q109; cases e109; replace hx109_0 := (HB.out.cell (qL w _ hx109_0)).trans hx109_0; replace hx109_1 := (HB.out.cell (qL w _ hx109_1)).trans hx109_1; have HR109_1 := qO hi109_1; have HC109_1 := qO hl109_1; clear hi109_1 hl109_1; replace p109 := eq_true p109; replace q109 := eq_true q109) | ((with_reducible refine gate_callee (f := 37) rfl ?_); refine goesL_ (some 33) rfl rfl Try.func37 qa17 rfl #[.agg #[.string ((rd_T53 l0_0 t107).f0), .slice A109_1 ((rd_T53 l0_0 t107).f1).length c109_1], .string a2] rfl qa1 ?_; (with_reducible refine (impl_TypeDef_fieldAt.calls ((rd_T53 l0_0 t107).f0) _ _ ((rd_T53 l0_0 t107).f1) a2 t110 _ ?side1 ?side2 A10.out).mono ?_); (case side1 => exact qa97); (case side2 => exact HC109_1.out); rintro e w22 ⟨rfl, hb⟩; have hx_ := qHX HB hb qa0; refine ⟨_, rfl, ?_⟩; have n0_ := qO (Kd.R_below qa41 hb); have n1_ := qO (qB BK101.out hx_ hb); have n2_ := qO (qB BK102.out hx_ hb); have n3_ := qO (below_step (below_step HB.out hx_) hb); clear HO105; clear BK101; clear BK102; clear HB; have HO105 := n0_; have BK101 := n1_; have BK102 := n2_; have HB := n3_; clear n0_ n1_ n2_ n3_; clear hx_; (try clear hb); (try clear hb2); (try clear hk); (try clear hi); have hcz23_0 : w22.cell? ⟨gb102, 0, none⟩ = some (.string (⟨#[]⟩ : ByteArray)) := (blk_cell BK102.out 0).trans rfl; have hcz23_1 : w22.cell? ⟨gb102, 1, none⟩ = some (.slice none 0 0) := (blk_cell BK102.out 1).trans rfl; have hcz23_2 : w22.cell? ⟨gb102, 2, none⟩ = some (.string (⟨#[]⟩ : ByteArray)) := (blk_cell BK102.out 2).trans rfl; have hcz23_3 : w22.cell? ⟨gb102, 3, none⟩ = some (.bool false) := (blk_cell BK102.out 3).trans rfl; have hcz23_4 : w22.cell? ⟨gb102, 4, none⟩ = some (.bool false) := (blk_cell BK102.out 4).trans rfl; have hfz23_0 := blk_frozen BK102.out 0; have hfz23_1 := blk_frozen BK102.out 1; have hfz23_2 := blk_frozen BK102.out 2; have hfz23_3 := blk_frozen BK102.out 3; have hfz23_4 := blk_frozen BK102.out 4))
      refine bodyPost_ret (results_ct rfl _ _ gb102 38 #[.string (⟨#[]⟩ : ByteArray), .slice none 0 0, .string (⟨#[]⟩ : ByteArray), .bool false, .bool false] (0, 0) _ rfl qa4 Try.underlying38 rfl qa17) rfl ?_
      exact ⟨_, qa3, qa42, qa7⟩
     ·rw [if_neg c11] at H
      have c11b0 : decide (t110 < 0) = false := decide_eq_false c11; clear c11
      by_cases c24 : 0 ≤ t110
      ·rw [if_pos c24] at H
       have c24b0 : decide (0 ≤ t110) = true := decide_eq_true c24; clear c24
       by_cases c25 : t110 < (((rd_T53 l0_0 t107).f1).length : Int)
       ·rw [if_pos c25] at H
        have c25b0 : decide (t110 < (((rd_T53 l0_0 t107).f1).length : Int)) = true := decide_eq_true c25; clear c25; replace H := Option.bind_eq_some_iff.mp H; obtain ⟨t114, A260, H⟩ := H; replace H : (some ((rd_T38 ((rd_T53 l0_0 t107).f1) t110).f0, t114, (rd_T38 ((rd_T53 l0_0 t107).f1) t110).f2, (rd_T38 ((rd_T53 l0_0 t107).f1) t110).f3, (rd_T38 ((rd_T53 l0_0 t107).f1) t110).f4, 0)) = some (r1, r2, r3, r4, r5, r6) := H; have A26 := qO A260; clear A260; simp only [Option.some.injEq, Prod.mk.injEq] at H; obtain ⟨rfl, rfl, rfl, rfl, rfl, rfl⟩ := H
        go_enter Try.func16, Try.ntmps16
        go_wp2_with (first | ((with_reducible refine gate_dst (N := 3) rfl ?_); refine box_event ?hg (N := 3) ?hd (cs := #[.slice A0_0 l0_0.length c0_0]) (t := 29) ?hr ?_; (case hd => rfl); (case hg => rfl); (case hr => exact qa18); intro gb101 hg w27 hbox hb; have hx_ := qHX HB hb qa0; have n0_ := qO (below_step (below_step HB.out hx_) hb); have n1_ := qO (hbox); have n2_ := qO ((qa15 : w.heap.size ≤ gb101)); have n3_ := n2_; clear HB; have HB := n0_; have BK101 := n1_; have GW101 := n2_; have GE101 := n3_; clear n0_ n1_ n2_ n3_; clear hx_; clear hb hbox hg) | ((with_reducible refine gate_dst (N := 6) rfl ?_); refine box_event ?hg (N := 6) ?hd (cs := #[.string (⟨#[]⟩ : ByteArray), .slice none 0 0, .string (⟨#[]⟩ : ByteArray), .bool false, .bool false]) (t := 38) ?hr ?_; (case hd => rfl); (case hg => rfl); (case hr => exact qa18); intro gb102 hg w28 hbox hb; have hx_ := qHX HB hb qa0; have n0_ := qO (qB BK101.out hx_ hb); have n1_ := qO (below_step (below_step HB.out hx_) hb); have n2_ := qO (hbox); have n3_ := qO ((qa15 : w.heap.size ≤ gb102)); have n4_ := n3_; have n5_ := qO ((qa24 : gb101 ≠ gb102)); have n6_ := qO (Ne.symm n5_.out); clear BK101; clear HB; have BK101 := n0_; have HB := n1_; have BK102 := n2_; have GW102 := n3_; have GE102 := n4_; have NB101_102 := n5_; have NB102_101 := n6_; clear n0_ n1_ n2_ n3_ n4_ n5_ n6_; clear hx_; clear hb hbox hg) | ((with_reducible refine gate_dst (N := 13) rfl ?_); refine Kd.R_lit Kd.string _ 9 ?hg (N := 13) ?hd (xs := ([a2] : List ByteArray)) (inner := [.string a2]) (ok := fun _ => True) (okp := fun _ => True) ?hr ?hp (fun _ hk => hk) trivial (Below.refl _ _) (Nat.le_refl _) qa91 ?_; (case hd => rfl); (case hg => rfl); (case hr => exact qa18); (case hp => exact qa94); intro v104 w29 ho30 hb hg_ hnew_; clear hg_ hnew_; (first | rw [← Ny103.out] at ho30 | (simp only [Int.reduceToNat] at ho30; rw [← Ny103.out] at ho30)); have n0_ := qO (Kd.R_lower ho30 (below_size qa7)); have n1_ := qO (blk_below (g := gb101) (o := .cells #[.slice A0_0 l0_0.length c0_0] 29 (0, 0)) qa13 hb); have n2_ := qO (blk_below (g := gb102) (o := .cells #[.string (⟨#[]⟩ : ByteArray), .slice none 0 0, .string (⟨#[]⟩ : ByteArray), .bool false, .bool false] 38 (0, 0)) qa31 hb); have n3_ := qO (below_step qa7 hb); clear BK101; clear BK102; clear HB; have HO105 := n0_; have BK101 := n1_; have BK102 := n2_; have HB := n3_; clear n0_ n1_ n2_ n3_; clear hb ho30; obtain ⟨Ao31, co31, eo31⟩ := Kd.R_slice HO105.out; subst eo31) | ((with_reducible refine gate_callee (f := 39) rfl ?_); refine goesL_ (some 14) rfl rfl Try.func39 qa17 rfl #[.slice Ao31 y103.length co31] rfl qa1 ?_; (with_reducible refine (impl_isText.calls _ _ y103 true _ ?side1 ?side2 A4.out).mono ?_); (case side1 => exact qa73); (case side2 => exact (Kd.R_reads' HO105.out).2.1); rintro e w32 ⟨rfl, hb⟩; have hx_ := qHX HB hb qa0; refine ⟨_, rfl, ?_⟩; have n0_ := qO (Kd.R_below qa41 hb); have n1_ := qO (qB BK101.out hx_ hb); have n2_ := qO (qB BK102.out hx_ hb); have n3_ := qO (below_step (below_step HB.out hx_) hb); clear HO105; clear BK101; clear BK102; clear HB; have HO105 := n0_; have BK101 := n1_; have BK102 := n2_; have HB := n3_; clear n0_ n1_ n2_ n3_; clear hx_; (try clear hb); (try clear hb2); (try clear hk); (try clear hi); have hnb33 := NB101_102.out; have hnc33 := NB102_101.out; have hcz34_0 : w32.cell? ⟨gb101, 0, none⟩ = some (.slice A0_0 l0_0.length c0_0) := (blk_cell BK101.out 0).trans rfl; have hfz34_0 := blk_frozen BK101.out 0) | ((with_reducible refine gate_callee (f := 14) rfl ?_); refine goesL_ (some 20) rfl rfl Try.func14 qa17 rfl #[.agg #[.slice A0_0 l0_0.length c0_0], .string a1] rfl qa1 ?_; (with_reducible refine (impl_TypeAt.calls k _ _ l0_0 a1 t107 t108 _ ?side1 ?side2 A6.out).mono ?_); (case side1 => exact qa19); (case side2 => exact HC0_0.out); rintro e w35 ⟨rfl, hb⟩; have hx_ := qHX HB hb qa0; refine ⟨_, rfl, ?_⟩; have n0_ := qO (Kd.R_below qa41 hb); have n1_ := qO (qB BK101.out hx_ hb); have n2_ := qO (qB BK102.out hx_ hb); have n3_ := qO (below_step (below_step HB.out hx_) hb); clear HO105; clear BK101; clear BK102; clear HB; have HO105 := n0_; have BK101 := n1_; have BK102 := n2_; have HB := n3_; clear n0_ n1_ n2_ n3_; clear hx_; (try clear hb); (try clear hb2); (try clear hk); (try clear hi); have hcz36_0 : w35.cell? ⟨gb101, 0, none⟩ = some (.slice A0_0 l0_0.length c0_0) := (blk_cell BK101.out 0).trans rfl; have hfz36_0 := blk_frozen BK101.out 0; have p109 : 0 ≤ (t107 : Int) := qT qa5; have q109 : t107 < (l0_0.length : Int) := qT qa5; obtain ⟨ad109, A109_1, c109_1, e109, hx109_0, hx109_1, hl109_1, hi109_1⟩ := at_T53 HR0_0.out t107 p109 q109; cases e109; replace hx109_0 := (HB.out.cell (qL w _ hx109_0)).trans hx109_0; replace hx109_1 := (HB.out.cell (qL w _ hx109_1)).trans hx109_1; have HR109_1 := qO hi109_1; have HC109_1 := qO hl109_1; clear hi109_1 hl109_1; replace p109 := eq_true p109; replace q109 := eq_true q109) | ((with_reducible refine gate_callee (f := 37) rfl ?_); refine goesL_ (some 33) rfl rfl Try.func37 qa17 rfl #[.agg #[.string ((rd_T53 l0_0 t107).f0), .slice A109_1 ((rd_T53 l0_0 t107).f1).length c109_1], .string a2] rfl qa1 ?_; (with_reducible refine (impl_TypeDef_fieldAt.calls ((rd_T53 l0_0 t107).f0) _ _ ((rd_T53 l0_0 t107).f1) a2 t110 _ ?side1 ?side2 A10.out).mono ?_); (case side1 => exact qa97); (case side2 => exact HC109_1.out); rintro e w37 ⟨rfl, hb⟩; have hx_ := qHX HB hb qa0; refine ⟨_, rfl, ?_⟩; have n0_ := qO (Kd.R_below qa41 hb); have n1_ := qO (qB BK101.out hx_ hb); have n2_ := qO (qB BK102.out hx_ hb); have n3_ := qO (below_step (below_step HB.out hx_) hb); clear HO105; clear BK101; clear BK102; clear HB; have HO105 := n0_; have BK101 := n1_; have BK102 := n2_; have HB := n3_; clear n0_ n1_ n2_ n3_; clear hx_; (try clear hb); (try clear hb2); (try clear hk); (try clear hi); have hcz38_0 : w37.cell? ⟨gb101, 0, none⟩ = some (.slice (some ad109) l0_0.length c0_0) := (blk_cell BK101.out 0).trans rfl; have hfz38_0 := blk_frozen BK101.out 0; have p111 : 0 ≤ (t107 : Int) := qT qa5; have q111 : t107 < (l0_0.length : Int) := qT qa5; obtain ⟨ad111, A111_1, c111_1, e111, hx111_0, hx111_1, hl111_1, hi111_1⟩ := at_T53 HR0_0.out t107 p111 q111; obtain rfl : ad109 = ad111 := (by injection e111); replace hx111_0 := (HB.out.cell (qL w _ hx111_0)).trans hx111_0; replace hx111_1 := (HB.out.cell (qL w _ hx111_1)).trans hx111_1; have HR111_1 := qO hi111_1; have HC111_1 := qO hl111_1; clear hi111_1 hl111_1; replace p111 := eq_true p111; replace q111 := eq_true q111; have p112 : 0 ≤ (t110 : Int) := qT qa5; have q112 : t110 < (((rd_T53 l0_0 t107).f1).length : Int) := qT qa5; obtain ⟨ad112, A112_1, c112_1, e112, hx112_0, hx112_1, hx112_2, hx112_3, hx112_4, hl112_1, hi112_1⟩ := at_T38 HR111_1.out t110 p112 q112; cases e112; replace hx112_0 := (HB.out.cell (qL w _ hx112_0)).trans hx112_0; replace hx112_1 := (HB.out.cell (qL w _ hx112_1)).trans hx112_1; replace hx112_2 := (HB.out.cell (qL w _ hx112_2)).trans hx112_2; replace hx112_3 := (HB.out.cell (qL w _ hx112_3)).trans hx112_3; replace hx112_4 := (HB.out.cell (qL w _ hx112_4)).trans hx112_4; have HR112_1 := qO hi112_1; have HC112_1 := qO hl112_1; clear hi112_1 hl112_1; replace p112 := eq_true p112; replace q112 := eq_true q112) | ((with_reducible refine gate_dst (N := 11) rfl ?_); refine box_event ?hg (N := 11) ?hd (cs := #[.string (⟨#[]⟩ : ByteArray), .slice none 0 0, .string (⟨#[]⟩ : ByteArray), .bool false, .bool false]) (t := 38) ?hr ?_; (case hd => rfl); (case hg => rfl); (case hr => exact qa18); intro gb113 hg w39 hbox hb; have hx_ := qHX HB hb qa0; have n0_ := qO (Kd.R_below qa41 hb); have n1_ := qO (qB BK101.out hx_ hb); have n2_ := qO (qB BK102.out hx_ hb); have n3_ := qO (below_step (below_step HB.out hx_) hb); have n4_ := qO (hbox); have n5_ := qO ((qa15 : w.heap.size ≤ gb113)); have n6_ := n5_; have n7_ := qO ((by rw [hg]; exact Nat.ne_of_lt (blk_lt (g := gb101) (o := .cells #[.slice (some ad109) l0_0.length c0_0] 29 (0, 0)) (by (with_reducible repeat (first | refine qkN ?_ _ | refine qkD ?_ | refine qkA ?_ _)); exact BK101.out)) : gb101 ≠ gb113)); have n8_ := qO (Ne.symm n7_.out); have n9_ := qO ((qa49 : gb102 ≠ gb113)); have n10_ := qO (Ne.symm n9_.out); clear HO105; clear BK101; clear BK102; clear HB; have HO105 := n0_; have BK101 := n1_; have BK102 := n2_; have HB := n3_; have BK113 := n4_; have GW113 := n5_; have GE113 := n6_; have NB101_113 := n7_; have NB113_101 := n8_; have NB102_113 := n9_; have NB113_102 := n10_; clear n0_ n1_ n2_ n3_ n4_ n5_ n6_ n7_ n8_ n9_ n10_; clear hx_; clear hb hbox hg; have hnb40 := NB113_101.out; have hnc40 := NB101_113.out; have hnb41 := NB113_102.out; have hnc41 := NB102_113.out; have hcz42_0 : w39.cell? ⟨gb113, 0, none⟩ = some (.string (⟨#[]⟩ : ByteArray)) := (blk_cell BK113.out 0).trans rfl; have hcz42_1 : w39.cell? ⟨gb113, 1, none⟩ = some (.slice none 0 0) := (blk_cell BK113.out 1).trans rfl; have hcz42_2 : w39.cell? ⟨gb113, 2, none⟩ = some (.string (⟨#[]⟩ : ByteArray)) := (blk_cell BK113.out 2).trans rfl; have hcz42_3 : w39.cell? ⟨gb113, 3, none⟩ = some (.bool false) := (blk_cell BK113.out 3).trans rfl; have hcz42_4 : w39.cell? ⟨gb113, 4, none⟩ = some (.bool false) := (blk_cell BK113.out 4).trans rfl; have hfz42_0 := blk_frozen BK113.out 0; have hfz42_1 := blk_frozen BK113.out 1; have hfz42_2 := blk_frozen BK113.out 2; have hfz42_3 := blk_frozen BK113.out 3; have hfz42_4 := blk_frozen BK113.out 4) | ((with_reducible refine gate_callee (f := 40) rfl ?_); refine goesL_ (some 48) rfl rfl Try.func40 qa17 rfl #[.slice A112_1 ((rd_T38 ((rd_T53 l0_0 t107).f1) t110).f1).length c112_1] rfl qa1 ?_; (with_reducible refine (impl_ArgDef_40.calls _ _ ((rd_T38 ((rd_T53 l0_0 t107).f1) t110).f1) t114 _ ?side1 ?side2 A26.out).mono ?_); (case side1 => exact Kd.C_below HR112_1.out (by repeat (first | (with_reducible first | exact HB.out | apply qbA | apply qbN | apply qbD | refine qbS ?_ GE101.out | refine qbS ?_ GE102.out | refine qbS ?_ GE113.out) | exact HB.out))); (case side2 => exact HC112_1.out); rintro e w43 ⟨v115, rfl, ho0, hb⟩; refine ⟨_, rfl, ?_⟩; have n0_ := qO (Kd.R_below (by (with_reducible repeat (first | apply Kd.R_alloc | apply Kd.R_drewN | apply Kd.R_drew)); exact (Kd.R_mono (Kd.R_far (p := ⟨gb113, 4, none⟩) (Kd.R_far (p := ⟨gb113, 3, none⟩) (Kd.R_far (p := ⟨gb113, 2, none⟩) (Kd.R_far (p := ⟨gb113, 1, none⟩) (Kd.R_far (p := ⟨gb113, 0, none⟩) (Kd.R_types HO105.out BK113.out (by decide)) (fun _ hk => hk.2) (.string ((rd_T38 ((rd_T53 l0_0 t107).f1) t110).f0))) (fun _ hk => hk.2) (.slice A112_1 ((rd_T38 ((rd_T53 l0_0 t107).f1) t110).f1).length c112_1)) (fun _ hk => hk.2) (.string ((rd_T38 ((rd_T53 l0_0 t107).f1) t110).f2))) (fun _ hk => hk.2) (.bool ((rd_T38 ((rd_T53 l0_0 t107).f1) t110).f3))) (fun _ hk => hk.2) (.bool ((rd_T38 ((rd_T53 l0_0 t107).f1) t110).f4))) (fun _ h_ => h_.1))) hb); have n1_ := qO (Kd.R_lower ho0 (below_size qa69)); have n2_ := qO (blk_below (g := gb101) (o := .cells #[.slice (some ad109) l0_0.length c0_0] 29 (0, 0)) (by (with_reducible repeat (first | refine qkN ?_ _ | refine qkD ?_ | refine qkA ?_ _)); refine blk_far ?_ NB101_113.out _; (with_reducible repeat (first | refine qkN ?_ _ | refine qkD ?_ | refine qkA ?_ _)); refine blk_far ?_ NB101_113.out _; (with_reducible repeat (first | refine qkN ?_ _ | refine qkD ?_ | refine qkA ?_ _)); refine blk_far ?_ NB101_113.out _; (with_reducible repeat (first | refine qkN ?_ _ | refine qkD ?_ | refine qkA ?_ _)); refine blk_far ?_ NB101_113.out _; (with_reducible repeat (first | refine qkN ?_ _ | refine qkD ?_ | refine qkA ?_ _)); refine blk_far ?_ NB101_113.out _; (with_reducible repeat (first | refine qkN ?_ _ | refine qkD ?_ | refine qkA ?_ _)); exact BK101.out) hb); have n3_ := qO (blk_below (g := gb102) (o := .cells #[.string (⟨#[]⟩ : ByteArray), .slice none 0 0, .string (⟨#[]⟩ : ByteArray), .bool false, .bool false] 38 (0, 0)) (by (with_reducible repeat (first | refine qkN ?_ _ | refine qkD ?_ | refine qkA ?_ _)); refine blk_far ?_ NB102_113.out _; (with_reducible repeat (first | refine qkN ?_ _ | refine qkD ?_ | refine qkA ?_ _)); refine blk_far ?_ NB102_113.out _; (with_reducible repeat (first | refine qkN ?_ _ | refine qkD ?_ | refine qkA ?_ _)); refine blk_far ?_ NB102_113.out _; (with_reducible repeat (first | refine qkN ?_ _ | refine qkD ?_ | refine qkA ?_ _)); refine blk_far ?_ NB102_113.out _; (with_reducible repeat (first | refine qkN ?_ _ | refine qkD ?_ | refine qkA ?_ _)); refine blk_far ?_ NB102_113.out _; (with_reducible repeat (first | refine qkN ?_ _ | refine qkD ?_ | refine qkA ?_ _)); exact BK102.out) hb); have n4_ := qO (blk_below (g := gb113) (o := .cells #[.string ((rd_T38 ((rd_T53 l0_0 t107).f1) t110).f0), .slice A112_1 ((rd_T38 ((rd_T53 l0_0 t107).f1) t110).f1).length c112_1, .string ((rd_T38 ((rd_T53 l0_0 t107).f1) t110).f2), .bool ((rd_T38 ((rd_T53 l0_0 t107).f1) t110).f3), .bool ((rd_T38 ((rd_T53 l0_0 t107).f1) t110).f4)] 38 (0, 0)) (by (with_reducible repeat (first | refine qkN ?_ _ | refine qkD ?_ | refine qkA ?_ _)); refine blk_put (cs := #[.string ((rd_T38 ((rd_T53 l0_0 t107).f1) t110).f0), .slice A112_1 ((rd_T38 ((rd_T53 l0_0 t107).f1) t110).f1).length c112_1, .string ((rd_T38 ((rd_T53 l0_0 t107).f1) t110).f2), .bool ((rd_T38 ((rd_T53 l0_0 t107).f1) t110).f3), .bool false]) ?_ 4 _ rfl; (with_reducible repeat (first | refine qkN ?_ _ | refine qkD ?_ | refine qkA ?_ _)); refine blk_put (cs := #[.string ((rd_T38 ((rd_T53 l0_0 t107).f1) t110).f0), .slice A112_1 ((rd_T38 ((rd_T53 l0_0 t107).f1) t110).f1).length c112_1, .string ((rd_T38 ((rd_T53 l0_0 t107).f1) t110).f2), .bool false, .bool false]) ?_ 3 _ rfl; (with_reducible repeat (first | refine qkN ?_ _ | refine qkD ?_ | refine qkA ?_ _)); refine blk_put (cs := #[.string ((rd_T38 ((rd_T53 l0_0 t107).f1) t110).f0), .slice A112_1 ((rd_T38 ((rd_T53 l0_0 t107).f1) t110).f1).length c112_1, .string (⟨#[]⟩ : ByteArray), .bool false, .bool false]) ?_ 2 _ rfl; (with_reducible repeat (first | refine qkN ?_ _ | refine qkD ?_ | refine qkA ?_ _)); refine blk_put (cs := #[.string ((rd_T38 ((rd_T53 l0_0 t107).f1) t110).f0), .slice none 0 0, .string (⟨#[]⟩ : ByteArray), .bool false, .bool false]) ?_ 1 _ rfl; (with_reducible repeat (first | refine qkN ?_ _ | refine qkD ?_ | refine qkA ?_ _)); refine blk_put (cs := #[.string (⟨#[]⟩ : ByteArray), .slice none 0 0, .string (⟨#[]⟩ : ByteArray), .bool false, .bool false]) ?_ 0 _ rfl; (with_reducible repeat (first | refine qkN ?_ _ | refine qkD ?_ | refine qkA ?_ _)); exact BK113.out) hb); have n5_ := qO (below_step qa69 hb); clear HO105; clear BK101; clear BK102; clear BK113; clear HB; have HO105 := n0_; have HO116 := n1_; have BK101 := n2_; have BK102 := n3_; have BK113 := n4_; have HB := n5_; clear n0_ n1_ n2_ n3_ n4_ n5_; (try clear hb); (try clear hb2); (try clear hk); (try clear hi); (try clear ho0); obtain ⟨Ao44, co44, eo44⟩ := Kd.R_slice HO116.out; subst eo44; have hcz45_0 : w43.cell? ⟨gb113, 0, none⟩ = some (.string ((rd_T38 ((rd_T53 l0_0 t107).f1) t110).f0)) := (blk_cell BK113.out 0).trans rfl; have hcz45_1 : w43.cell? ⟨gb113, 1, none⟩ = some (.slice A112_1 ((rd_T38 ((rd_T53 l0_0 t107).f1) t110).f1).length c112_1) := (blk_cell BK113.out 1).trans rfl; have hcz45_2 : w43.cell? ⟨gb113, 2, none⟩ = some (.string ((rd_T38 ((rd_T53 l0_0 t107).f1) t110).f2)) := (blk_cell BK113.out 2).trans rfl; have hcz45_3 : w43.cell? ⟨gb113, 3, none⟩ = some (.bool ((rd_T38 ((rd_T53 l0_0 t107).f1) t110).f3)) := (blk_cell BK113.out 3).trans rfl; have hcz45_4 : w43.cell? ⟨gb113, 4, none⟩ = some (.bool ((rd_T38 ((rd_T53 l0_0 t107).f1) t110).f4)) := (blk_cell BK113.out 4).trans rfl; have hfz45_0 := blk_frozen BK113.out 0; have hfz45_1 := blk_frozen BK113.out 1; have hfz45_2 := blk_frozen BK113.out 2; have hfz45_3 := blk_frozen BK113.out 3; have hfz45_4 := blk_frozen BK113.out 4; have hcz46_0 : w43.cell? ⟨gb102, 0, none⟩ = some (.string (⟨#[]⟩ : ByteArray)) := (blk_cell BK102.out 0).trans rfl; have hcz46_1 : w43.cell? ⟨gb102, 1, none⟩ = some (.slice none 0 0) := (blk_cell BK102.out 1).trans rfl; have hcz46_2 : w43.cell? ⟨gb102, 2, none⟩ = some (.string (⟨#[]⟩ : ByteArray)) := (blk_cell BK102.out 2).trans rfl; have hcz46_3 : w43.cell? ⟨gb102, 3, none⟩ = some (.bool false) := (blk_cell BK102.out 3).trans rfl; have hcz46_4 : w43.cell? ⟨gb102, 4, none⟩ = some (.bool false) := (blk_cell BK102.out 4).trans rfl; have hfz46_0 := blk_frozen BK102.out 0; have hfz46_1 := blk_frozen BK102.out 1; have hfz46_2 := blk_frozen BK102.out 2; have hfz46_3 := blk_frozen BK102.out 3; have hfz46_4 := blk_frozen BK102.out 4))
        refine bodyPost_ret (results_ct rfl _ _ gb102 38 #[.string ((rd_T38 ((rd_T53 l0_0 t107).f1) t110).f0), .slice Ao44 t114.length co44, .string ((rd_T38 ((rd_T53 l0_0 t107).f1) t110).f2), .bool ((rd_T38 ((rd_T53 l0_0 t107).f1) t110).f3), .bool ((rd_T38 ((rd_T53 l0_0 t107).f1) t110).f4)] (0, 0) _ rfl (by (with_reducible repeat (first | refine qkN ?_ _ | refine qkD ?_ | refine qkA ?_ _)); refine blk_put (cs := #[.string ((rd_T38 ((rd_T53 l0_0 t107).f1) t110).f0), .slice Ao44 t114.length co44, .string ((rd_T38 ((rd_T53 l0_0 t107).f1) t110).f2), .bool ((rd_T38 ((rd_T53 l0_0 t107).f1) t110).f3), .bool false]) ?_ 4 _ rfl; (with_reducible repeat (first | refine qkN ?_ _ | refine qkD ?_ | refine qkA ?_ _)); refine blk_put (cs := #[.string ((rd_T38 ((rd_T53 l0_0 t107).f1) t110).f0), .slice Ao44 t114.length co44, .string ((rd_T38 ((rd_T53 l0_0 t107).f1) t110).f2), .bool false, .bool false]) ?_ 3 _ rfl; (with_reducible repeat (first | refine qkN ?_ _ | refine qkD ?_ | refine qkA ?_ _)); refine blk_put (cs := #[.string ((rd_T38 ((rd_T53 l0_0 t107).f1) t110).f0), .slice Ao44 t114.length co44, .string (⟨#[]⟩ : ByteArray), .bool false, .bool false]) ?_ 2 _ rfl; (with_reducible repeat (first | refine qkN ?_ _ | refine qkD ?_ | refine qkA ?_ _)); refine blk_put (cs := #[.string ((rd_T38 ((rd_T53 l0_0 t107).f1) t110).f0), .slice none 0 0, .string (⟨#[]⟩ : ByteArray), .bool false, .bool false]) ?_ 1 _ rfl; (with_reducible repeat (first | refine qkN ?_ _ | refine qkD ?_ | refine qkA ?_ _)); refine blk_put (cs := #[.string (⟨#[]⟩ : ByteArray), .slice none 0 0, .string (⟨#[]⟩ : ByteArray), .bool false, .bool false]) ?_ 0 _ rfl; (with_reducible repeat (first | refine qkN ?_ _ | refine qkD ?_ | refine qkA ?_ _)); refine blk_far ?_ NB102_113.out _; (with_reducible repeat (first | refine qkN ?_ _ | refine qkD ?_ | refine qkA ?_ _)); exact BK102.out) Try.underlying38 rfl qa17) rfl ?_
        exact ⟨_, qa3, by (with_reducible repeat (first | apply Kd.R_alloc | apply Kd.R_drewN | apply Kd.R_drew)); exact Kd.R_mono (Kd.R_far (p := ⟨gb102, 4, none⟩) (Kd.R_far (p := ⟨gb102, 3, none⟩) (Kd.R_far (p := ⟨gb102, 2, none⟩) (Kd.R_far (p := ⟨gb102, 1, none⟩) (Kd.R_far (p := ⟨gb102, 0, none⟩) (Kd.R_far (p := ⟨gb113, 1, none⟩) (Kd.R_types (Kd.R_types HO116.out BK113.out (by decide)) BK102.out (by decide)) (fun _ hk => hk.1.2) (.slice Ao44 t114.length co44)) (fun _ hk => hk.2) (.string ((rd_T38 ((rd_T53 l0_0 t107).f1) t110).f0))) (fun _ hk => hk.2) (.slice Ao44 t114.length co44)) (fun _ hk => hk.2) (.string ((rd_T38 ((rd_T53 l0_0 t107).f1) t110).f2))) (fun _ hk => hk.2) (.bool ((rd_T38 ((rd_T53 l0_0 t107).f1) t110).f3))) (fun _ hk => hk.2) (.bool ((rd_T38 ((rd_T53 l0_0 t107).f1) t110).f4))) (fun _ hk => trivial), qa69⟩
       ·rw [if_neg c25] at H
        exact absurd H qa91
      ·rw [if_neg c24] at H
       exact absurd H qa91
    ·rw [if_neg c9] at H
     exact absurd H qa91
   ·rw [if_neg c8] at H
    exact absurd H qa91
  ·rw [if_neg c7] at H
   have c7b0 : (t108 == 0) = false := beq_eq_false_iff_ne.mpr c7; have c7b1 : (t108 != 0) = true := bne_iff_ne.mpr c7; simp only [Option.some.injEq, Prod.mk.injEq] at H; obtain ⟨rfl, rfl, rfl, rfl, rfl, rfl⟩ := H
   go_enter Try.func16, Try.ntmps16
   go_wp2_with (first | ((with_reducible refine gate_dst (N := 3) rfl ?_); refine box_event ?hg (N := 3) ?hd (cs := #[.slice A0_0 l0_0.length c0_0]) (t := 29) ?hr ?_; (case hd => rfl); (case hg => rfl); (case hr => exact qa18); intro gb101 hg w47 hbox hb; have hx_ := qHX HB hb qa0; have n0_ := qO (below_step (below_step HB.out hx_) hb); have n1_ := qO (hbox); have n2_ := qO ((qa15 : w.heap.size ≤ gb101)); have n3_ := n2_; clear HB; have HB := n0_; have BK101 := n1_; have GW101 := n2_; have GE101 := n3_; clear n0_ n1_ n2_ n3_; clear hx_; clear hb hbox hg) | ((with_reducible refine gate_dst (N := 6) rfl ?_); refine box_event ?hg (N := 6) ?hd (cs := #[.string (⟨#[]⟩ : ByteArray), .slice none 0 0, .string (⟨#[]⟩ : ByteArray), .bool false, .bool false]) (t := 38) ?hr ?_; (case hd => rfl); (case hg => rfl); (case hr => exact qa18); intro gb102 hg w48 hbox hb; have hx_ := qHX HB hb qa0; have n0_ := qO (qB BK101.out hx_ hb); have n1_ := qO (below_step (below_step HB.out hx_) hb); have n2_ := qO (hbox); have n3_ := qO ((qa15 : w.heap.size ≤ gb102)); have n4_ := n3_; have n5_ := qO ((qa24 : gb101 ≠ gb102)); have n6_ := qO (Ne.symm n5_.out); clear BK101; clear HB; have BK101 := n0_; have HB := n1_; have BK102 := n2_; have GW102 := n3_; have GE102 := n4_; have NB101_102 := n5_; have NB102_101 := n6_; clear n0_ n1_ n2_ n3_ n4_ n5_ n6_; clear hx_; clear hb hbox hg) | ((with_reducible refine gate_dst (N := 13) rfl ?_); refine Kd.R_lit Kd.string _ 9 ?hg (N := 13) ?hd (xs := ([a2] : List ByteArray)) (inner := [.string a2]) (ok := fun _ => True) (okp := fun _ => True) ?hr ?hp (fun _ hk => hk) trivial (Below.refl _ _) (Nat.le_refl _) qa91 ?_; (case hd => rfl); (case hg => rfl); (case hr => exact qa18); (case hp => exact qa94); intro v104 w49 ho50 hb hg_ hnew_; clear hg_ hnew_; (first | rw [← Ny103.out] at ho50 | (simp only [Int.reduceToNat] at ho50; rw [← Ny103.out] at ho50)); have n0_ := qO (Kd.R_lower ho50 (below_size qa7)); have n1_ := qO (blk_below (g := gb101) (o := .cells #[.slice A0_0 l0_0.length c0_0] 29 (0, 0)) qa13 hb); have n2_ := qO (blk_below (g := gb102) (o := .cells #[.string (⟨#[]⟩ : ByteArray), .slice none 0 0, .string (⟨#[]⟩ : ByteArray), .bool false, .bool false] 38 (0, 0)) qa31 hb); have n3_ := qO (below_step qa7 hb); clear BK101; clear BK102; clear HB; have HO105 := n0_; have BK101 := n1_; have BK102 := n2_; have HB := n3_; clear n0_ n1_ n2_ n3_; clear hb ho50; obtain ⟨Ao51, co51, eo51⟩ := Kd.R_slice HO105.out; subst eo51) | ((with_reducible refine gate_callee (f := 39) rfl ?_); refine goesL_ (some 14) rfl rfl Try.func39 qa17 rfl #[.slice Ao51 y103.length co51] rfl qa1 ?_; (with_reducible refine (impl_isText.calls _ _ y103 true _ ?side1 ?side2 A4.out).mono ?_); (case side1 => exact qa73); (case side2 => exact (Kd.R_reads' HO105.out).2.1); rintro e w52 ⟨rfl, hb⟩; have hx_ := qHX HB hb qa0; refine ⟨_, rfl, ?_⟩; have n0_ := qO (Kd.R_below qa41 hb); have n1_ := qO (qB BK101.out hx_ hb); have n2_ := qO (qB BK102.out hx_ hb); have n3_ := qO (below_step (below_step HB.out hx_) hb); clear HO105; clear BK101; clear BK102; clear HB; have HO105 := n0_; have BK101 := n1_; have BK102 := n2_; have HB := n3_; clear n0_ n1_ n2_ n3_; clear hx_; (try clear hb); (try clear hb2); (try clear hk); (try clear hi); have hnb53 := NB101_102.out; have hnc53 := NB102_101.out; have hcz54_0 : w52.cell? ⟨gb101, 0, none⟩ = some (.slice A0_0 l0_0.length c0_0) := (blk_cell BK101.out 0).trans rfl; have hfz54_0 := blk_frozen BK101.out 0) | ((with_reducible refine gate_callee (f := 14) rfl ?_); refine goesL_ (some 20) rfl rfl Try.func14 qa17 rfl #[.agg #[.slice A0_0 l0_0.length c0_0], .string a1] rfl qa1 ?_; (with_reducible refine (impl_TypeAt.calls k _ _ l0_0 a1 t107 t108 _ ?side1 ?side2 A6.out).mono ?_); (case side1 => exact qa19); (case side2 => exact HC0_0.out); rintro e w55 ⟨rfl, hb⟩; have hx_ := qHX HB hb qa0; refine ⟨_, rfl, ?_⟩; have n0_ := qO (Kd.R_below qa41 hb); have n1_ := qO (qB BK101.out hx_ hb); have n2_ := qO (qB BK102.out hx_ hb); have n3_ := qO (below_step (below_step HB.out hx_) hb); clear HO105; clear BK101; clear BK102; clear HB; have HO105 := n0_; have BK101 := n1_; have BK102 := n2_; have HB := n3_; clear n0_ n1_ n2_ n3_; clear hx_; (try clear hb); (try clear hb2); (try clear hk); (try clear hi); have hcz56_0 : w55.cell? ⟨gb102, 0, none⟩ = some (.string (⟨#[]⟩ : ByteArray)) := (blk_cell BK102.out 0).trans rfl; have hcz56_1 : w55.cell? ⟨gb102, 1, none⟩ = some (.slice none 0 0) := (blk_cell BK102.out 1).trans rfl; have hcz56_2 : w55.cell? ⟨gb102, 2, none⟩ = some (.string (⟨#[]⟩ : ByteArray)) := (blk_cell BK102.out 2).trans rfl; have hcz56_3 : w55.cell? ⟨gb102, 3, none⟩ = some (.bool false) := (blk_cell BK102.out 3).trans rfl; have hcz56_4 : w55.cell? ⟨gb102, 4, none⟩ = some (.bool false) := (blk_cell BK102.out 4).trans rfl; have hfz56_0 := blk_frozen BK102.out 0; have hfz56_1 := blk_frozen BK102.out 1; have hfz56_2 := blk_frozen BK102.out 2; have hfz56_3 := blk_frozen BK102.out 3; have hfz56_4 := blk_frozen BK102.out 4))
   refine bodyPost_ret (results_ct rfl _ _ gb102 38 #[.string (⟨#[]⟩ : ByteArray), .slice none 0 0, .string (⟨#[]⟩ : ByteArray), .bool false, .bool false] (0, 0) _ rfl qa4 Try.underlying38 rfl qa17) rfl ?_
   exact ⟨_, qa3, qa42, qa7⟩
 ·replace c5 := Bool.eq_false_iff.mpr c5
  subst c5; have H1 : (some ((⟨#[]⟩ : ByteArray), ([] : List (S57)), (⟨#[]⟩ : ByteArray), false, false, 2)) = some (r1, r2, r3, r4, r5, r6) := by rw [if_neg (show ¬ (false = true) by decide)] at H; exact H
  clear H; have H := H1; clear H1; simp only [Option.some.injEq, Prod.mk.injEq] at H; obtain ⟨rfl, rfl, rfl, rfl, rfl, rfl⟩ := H
  go_enter Try.func16, Try.ntmps16
  go_wp2_with (first | ((with_reducible refine gate_dst (N := 3) rfl ?_); refine box_event ?hg (N := 3) ?hd (cs := #[.slice A0_0 l0_0.length c0_0]) (t := 29) ?hr ?_; (case hd => rfl); (case hg => rfl); (case hr => exact qa18); intro gb101 hg w57 hbox hb; have hx_ := qHX HB hb qa0; have n0_ := qO (below_step (below_step HB.out hx_) hb); have n1_ := qO (hbox); have n2_ := qO ((qa15 : w.heap.size ≤ gb101)); have n3_ := n2_; clear HB; have HB := n0_; have BK101 := n1_; have GW101 := n2_; have GE101 := n3_; clear n0_ n1_ n2_ n3_; clear hx_; clear hb hbox hg) | ((with_reducible refine gate_dst (N := 6) rfl ?_); refine box_event ?hg (N := 6) ?hd (cs := #[.string (⟨#[]⟩ : ByteArray), .slice none 0 0, .string (⟨#[]⟩ : ByteArray), .bool false, .bool false]) (t := 38) ?hr ?_; (case hd => rfl); (case hg => rfl); (case hr => exact qa18); intro gb102 hg w58 hbox hb; have hx_ := qHX HB hb qa0; have n0_ := qO (qB BK101.out hx_ hb); have n1_ := qO (below_step (below_step HB.out hx_) hb); have n2_ := qO (hbox); have n3_ := qO ((qa15 : w.heap.size ≤ gb102)); have n4_ := n3_; have n5_ := qO ((qa24 : gb101 ≠ gb102)); have n6_ := qO (Ne.symm n5_.out); clear BK101; clear HB; have BK101 := n0_; have HB := n1_; have BK102 := n2_; have GW102 := n3_; have GE102 := n4_; have NB101_102 := n5_; have NB102_101 := n6_; clear n0_ n1_ n2_ n3_ n4_ n5_ n6_; clear hx_; clear hb hbox hg) | ((with_reducible refine gate_dst (N := 13) rfl ?_); refine Kd.R_lit Kd.string _ 9 ?hg (N := 13) ?hd (xs := ([a2] : List ByteArray)) (inner := [.string a2]) (ok := fun _ => True) (okp := fun _ => True) ?hr ?hp (fun _ hk => hk) trivial (Below.refl _ _) (Nat.le_refl _) qa91 ?_; (case hd => rfl); (case hg => rfl); (case hr => exact qa18); (case hp => exact qa94); intro v104 w59 ho60 hb hg_ hnew_; clear hg_ hnew_; (first | rw [← Ny103.out] at ho60 | (simp only [Int.reduceToNat] at ho60; rw [← Ny103.out] at ho60)); have n0_ := qO (Kd.R_lower ho60 (below_size qa7)); have n1_ := qO (blk_below (g := gb101) (o := .cells #[.slice A0_0 l0_0.length c0_0] 29 (0, 0)) qa13 hb); have n2_ := qO (blk_below (g := gb102) (o := .cells #[.string (⟨#[]⟩ : ByteArray), .slice none 0 0, .string (⟨#[]⟩ : ByteArray), .bool false, .bool false] 38 (0, 0)) qa31 hb); have n3_ := qO (below_step qa7 hb); clear BK101; clear BK102; clear HB; have HO105 := n0_; have BK101 := n1_; have BK102 := n2_; have HB := n3_; clear n0_ n1_ n2_ n3_; clear hb ho60; obtain ⟨Ao61, co61, eo61⟩ := Kd.R_slice HO105.out; subst eo61) | ((with_reducible refine gate_callee (f := 39) rfl ?_); refine goesL_ (some 14) rfl rfl Try.func39 qa17 rfl #[.slice Ao61 y103.length co61] rfl qa1 ?_; (with_reducible refine (impl_isText.calls _ _ y103 false _ ?side1 ?side2 A4.out).mono ?_); (case side1 => exact qa73); (case side2 => exact (Kd.R_reads' HO105.out).2.1); rintro e w62 ⟨rfl, hb⟩; have hx_ := qHX HB hb qa0; refine ⟨_, rfl, ?_⟩; have n0_ := qO (Kd.R_below qa41 hb); have n1_ := qO (qB BK101.out hx_ hb); have n2_ := qO (qB BK102.out hx_ hb); have n3_ := qO (below_step (below_step HB.out hx_) hb); clear HO105; clear BK101; clear BK102; clear HB; have HO105 := n0_; have BK101 := n1_; have BK102 := n2_; have HB := n3_; clear n0_ n1_ n2_ n3_; clear hx_; (try clear hb); (try clear hb2); (try clear hk); (try clear hi); have hnb63 := NB102_101.out; have hnc63 := NB101_102.out; have hcz64_0 : w62.cell? ⟨gb102, 0, none⟩ = some (.string (⟨#[]⟩ : ByteArray)) := (blk_cell BK102.out 0).trans rfl; have hcz64_1 : w62.cell? ⟨gb102, 1, none⟩ = some (.slice none 0 0) := (blk_cell BK102.out 1).trans rfl; have hcz64_2 : w62.cell? ⟨gb102, 2, none⟩ = some (.string (⟨#[]⟩ : ByteArray)) := (blk_cell BK102.out 2).trans rfl; have hcz64_3 : w62.cell? ⟨gb102, 3, none⟩ = some (.bool false) := (blk_cell BK102.out 3).trans rfl; have hcz64_4 : w62.cell? ⟨gb102, 4, none⟩ = some (.bool false) := (blk_cell BK102.out 4).trans rfl; have hfz64_0 := blk_frozen BK102.out 0; have hfz64_1 := blk_frozen BK102.out 1; have hfz64_2 := blk_frozen BK102.out 2; have hfz64_3 := blk_frozen BK102.out 3; have hfz64_4 := blk_frozen BK102.out 4))
  refine bodyPost_ret (results_ct rfl _ _ gb102 38 #[.string (⟨#[]⟩ : ByteArray), .slice none 0 0, .string (⟨#[]⟩ : ByteArray), .bool false, .bool false] (0, 0) _ rfl qa4 Try.underlying38 rfl qa17) rfl ?_
  exact ⟨_, qa3, qa42, qa7⟩


def laws_markText.l0 : Nat → Int → ByteArray → Option (ByteArray)
 | 0, _, _ => none
 | k + 1, x0, x3 => if x0 > 0 then ((some (([(wrap64 (48 + (Int.tmod x0 10))) % 256] : List Int) : List Int)).bind fun y101 => (if (strOfNums y101).size + x3.size ≤ 9223372036854775807 then (laws_markText.l0 k (wrap64 (Int.tdiv x0 10)) ((strOfNums y101) ++ x3)) else (none))) else (if 1 + x3.size ≤ 9223372036854775807 then (some ((⟨#[109]⟩ : ByteArray) ++ x3)) else (none))
def laws_markText.f (k : Nat) (a0 : Int) : Option (ByteArray) := if a0 ≤ 0 then (some (⟨#[109, 48]⟩ : ByteArray)) else (laws_markText.l0 k a0 (⟨#[]⟩ : ByteArray))
set_option maxHeartbeats 8000000 in
set_option maxRecDepth 100000 in
theorem laws_markText.calls (k : Nat) (a0 : Int) (r : ByteArray) (w : World) (h : laws_markText.f k a0 = some r) :
  Calls Try.prog 68 #[.int .i64 a0] w fun e w' => e = .returned (.string r) ∧ Below w.heap.size w w' := by
 have HB := qO (Below.refl w.heap.size w); have H : (if a0 ≤ 0 then (some (⟨#[109, 48]⟩ : ByteArray)) else (laws_markText.l0 k a0 (⟨#[]⟩ : ByteArray))) = some r := h; clear h
 by_cases c2 : a0 ≤ 0
 ·rw [if_pos c2] at H
  have c2b0 : decide (a0 ≤ 0) = true := decide_eq_true c2; clear c2; obtain rfl := Option.some.inj H
  go_enter Try.func68, Try.ntmps68
  go_wp2
  go_ret
  exact ⟨qa3, qa8⟩
 ·rw [if_neg c2] at H
  have c2b0 : decide (a0 ≤ 0) = false := decide_eq_false c2; clear c2; have H' := qO H; clear H
  go_enter Try.func68, Try.ntmps68
  go_wp2
  go_loopg [0, 3] k (fun kq v0 v3 w' => ∃ (x0_1 : Int) (x3_1 : ByteArray), v0 = .int .i64 x0_1 ∧ v3 = .string x3_1 ∧ Aside0 (laws_markText.l0 kq x0_1 x3_1 = some r) ∧ Aside0 (kq ≤ k) ∧ Aside0 (Below w.heap.size w w'))
  case atStart => exact ⟨(a0), ((⟨#[]⟩ : ByteArray)), qa11, qa11, H', ⟨Nat.le_refl _⟩, ⟨qa8⟩⟩
  case round =>
   clear H'
   try clear c2
   try clear c2b0
   try clear p2
   obtain ⟨x0_1, x3_1, rfl, rfl, HA, HK1, HB⟩ := hrel
   cases gk with
   | zero => exact absurd HA.out (by simp [laws_markText.l0])
   | succ k1 =>
    have H := HA.out; clear HA; simp only [laws_markText.l0] at H
    by_cases c3 : x0_1 > 0
    ·rw [if_pos c3] at H
     have c3b0 : decide (0 < x0_1) = true := decide_eq_true c3; clear c3; obtain ⟨y101, hy101⟩ : ∃ y_ : List Int, y_ = (([(wrap64 (48 + (Int.tmod x0_1 10))) % 256] : List Int)) := ⟨_, rfl⟩; replace H : (if (strOfNums y101).size + x3_1.size ≤ 9223372036854775807 then (laws_markText.l0 k1 (wrap64 (Int.tdiv x0_1 10)) ((strOfNums y101) ++ x3_1)) else (none)) = some r := by first | (rw [hy101]; with_reducible exact H) | (have H2_ := (Option.bind_some _ _).symm.trans H; rw [hy101]; with_reducible exact H2_) | (have H2_ := (Option.bind_some _ _).symm.trans H; with_reducible exact H2_) | with_reducible exact H | (rw [hy101]; exact H) | exact H
     have Ny101 := qO hy101; clear hy101
     by_cases c4 : (strOfNums y101).size + x3_1.size ≤ 9223372036854775807
     ·rw [if_pos c4] at H
      have c4b0 := eq_true c4; have c4b1 : decide ((strOfNums y101).size + x3_1.size ≤ 9223372036854775807) = true := decide_eq_true c4
      try have c4b2 : (9223372036854775807 < (strOfNums y101).size + x3_1.size) = False := eq_false (Nat.not_lt.2 c4)
      have H' := qO H; clear H
      go_wp2_with (first | ((with_reducible refine gate_dst (N := 12) rfl ?_); refine Kd.R_lit (Kd.int .u8) _ 5 ?hg (N := 12) ?hd (xs := ([(wrap64 (48 + (Int.tmod x0_1 10))) % 256] : List Int)) (inner := [.int .u8 ((wrap64 (48 + (Int.tmod x0_1 10))) % 256)]) (ok := fun _ => True) (okp := fun _ => True) ?hr ?hp (fun _ hk => hk) trivial (Below.refl _ _) (Nat.le_refl _) qa91 ?_; (case hd => rfl); (case hg => rfl); (case hr => exact qa18); (case hp => exact (Reps.one (show Kd.M (Kd.int .u8) _ _ _ ((wrap64 (48 + (Int.tmod x0_1 10))) % 256) [.int .u8 ((wrap64 (48 + (Int.tmod x0_1 10))) % 256)] from rfl) (Reps.none _ _))); intro v102 w5 ho6 hb hg_ hnew_; clear hg_ hnew_; (first | rw [← Ny101.out] at ho6 | (simp only [Int.reduceToNat] at ho6; rw [← Ny101.out] at ho6)); have n0_ := qO (Kd.R_lower ho6 (below_size qa8)); have n1_ := qO (below_step qa8 hb); clear HB; have HO103 := n0_; have HB := n1_; clear n0_ n1_; clear hb ho6; have hcv7 := own_string (P := Try.prog) Try.underlying97 Try.underlying5 Try.underlying9 (Kd.own_of_R HO103.out)))
      go_roundg k1
      case measure => have := HK1.out; omega
      case rel => exact ⟨(wrap64 (Int.tdiv x0_1 10)), ((strOfNums y101) ++ x3_1), qa11, qa11, H', ⟨qa87⟩, ⟨qa8⟩⟩
     ·rw [if_neg c4] at H
      exact absurd H qa91
    ·rw [if_neg c3] at H
     have c3b0 : decide (0 < x0_1) = false := decide_eq_false c3; clear c3
     by_cases c8 : 1 + x3_1.size ≤ 9223372036854775807
     ·rw [if_pos c8] at H
      have c8b0 := eq_true c8; have c8b1 : decide (1 + x3_1.size ≤ 9223372036854775807) = true := decide_eq_true c8
      try have c8b2 : (9223372036854775807 < 1 + x3_1.size) = False := eq_false (Nat.not_lt.2 c8)
      obtain rfl := Option.some.inj H; go_wp2
      go_ret
      exact ⟨qa3, qa8⟩
     ·rw [if_neg c8] at H
      exact absurd H qa91


def wk_Sk (ok : Nat → Prop) (d w : World) : Prop := (w.os = d.os ∧ w.tape = d.tape ∧ w.output = d.output) ∧ Kept d w ok ∧ ∀ (k : Nat) (cs : Array Value) (t : TypeId), d.heap[k]? = some (.cells cs t (0, 0)) → ∃ cs', w.heap[k]? = some (.cells cs' t (0, 0)) ∧ cs'.size = cs.size ∧ ∀ (j : Nat) (A : Option Addr) (n c : Nat), cs[j]? = some (Value.slice A n c) → cs'[j]? = some (Value.slice A n c)
theorem wk_refl (ok : Nat → Prop) (d : World) : wk_Sk ok d d := ⟨⟨rfl, rfl, rfl⟩, Kept.refl d ok, fun _ cs _ h => ⟨cs, h, rfl, fun _ _ _ _ h => h⟩⟩
theorem wk_below {ok : Nat → Prop} {d w w1 : World} (h : wk_Sk ok d w) (hb : Below w.heap.size w w1) : wk_Sk ok d w1 :=
 ⟨⟨hb.os.trans h.1.1, hb.tape.trans h.1.2.1, hb.output.trans h.1.2.2⟩, h.2.1.below hb, fun k cs t hk => by
  obtain ⟨cs', h1, h2, h3⟩ := h.2.2 k cs t hk
  exact ⟨cs', blk_below h1 hb, h2, h3⟩⟩
theorem wk_set {ok : Nat → Prop} {d w : World} {g j : Nat} {cs : Array Value} {t : TypeId} {v : Value} (h : wk_Sk ok d w) (hg : d.heap[g]? = some (.cells cs t (0, 0))) (hok : ok g) (hc : d.cell? ⟨g, j, none⟩ = some v) (hv : ∀ A n c, v ≠ .slice A n c) (u : Value) : wk_Sk ok d (w.setCell ⟨g, j, none⟩ u) := by
 refine ⟨⟨h.1.1, h.1.2.1, h.1.2.2⟩, Kept.setCell h.2.1 (.inl hok) u, fun k cs1 t1 hk => ?_⟩; obtain ⟨cs', h1, h2, h3⟩ := h.2.2 k cs1 t1 hk
 by_cases e : k = g
 ·subst e
  refine ⟨_, blk_set h1 j u, by simpa using h2, fun j' A n c hj' => ?_⟩
  by_cases e' : j = j'
  ·subst e'
   rw [blk_cell hk] at hc; rw [hj'] at hc
   exact absurd (Option.some.inj hc).symm (hv A n c)
  ·rw [Array.getElem?_setIfInBounds_ne e']
   exact h3 j' A n c hj'
 ·exact ⟨cs', blk_far h1 (p := ⟨g, j, none⟩) e u, h2, h3⟩
theorem wk_mono {ok ok' : Nat → Prop} {d w : World} (h : wk_Sk ok d w) (ho : ∀ k, ok k → ok' k) : wk_Sk ok' d w := ⟨h.1, h.2.1.mono ho, h.2.2⟩
theorem wk_froz {ok : Nat → Prop} {d w : World} {g : Nat} {cs : Array Value} {t : TypeId} (h : wk_Sk ok d w) (hg : d.heap[g]? = some (.cells cs t (0, 0))) (j : Nat) : w.frozen? ⟨g, j, none⟩ = false := by
 obtain ⟨cs', h1, _, _⟩ := h.2.2 g cs t hg
 exact blk_frozen h1 j
theorem wk_some {ok : Nat → Prop} {d w : World} {g j : Nat} {cs : Array Value} {t : TypeId} {v : Value} (h : wk_Sk ok d w) (hg : d.heap[g]? = some (.cells cs t (0, 0))) (hc : d.cell? ⟨g, j, none⟩ = some v) : ∃ u, w.cell? ⟨g, j, none⟩ = some u := by
 obtain ⟨cs', h1, h2, _⟩ := h.2.2 g cs t hg; rw [blk_cell hg] at hc; rw [blk_cell h1]; have := (Array.getElem?_eq_some_iff.1 hc).1
 exact ⟨_, Array.getElem?_eq_getElem qa27⟩
theorem wk_slice {ok : Nat → Prop} {d w : World} {g j n c : Nat} {A : Option Addr} {cs : Array Value} {t : TypeId} (h : wk_Sk ok d w) (hg : d.heap[g]? = some (.cells cs t (0, 0))) (hc : d.cell? ⟨g, j, none⟩ = some (.slice A n c)) : w.cell? ⟨g, j, none⟩ = some (.slice A n c) := by
 obtain ⟨cs', h1, _, h3⟩ := h.2.2 g cs t hg; rw [blk_cell hg] at hc; rw [blk_cell h1]
 exact h3 j A n c hc
theorem wk_Below {B : Nat} {ok : Nat → Prop} {w0 d w : World} (hB : Below B w0 d) (h : wk_Sk ok d w) (hok : ∀ k, ok k → B ≤ k) (hs : B ≤ d.heap.size) : Below B w0 w :=
 ⟨h.1.1.trans hB.os, h.1.2.1.trans hB.tape, h.1.2.2.trans hB.output, Nat.le_trans hB.size h.2.1.1, fun k hk => (h.2.1.2 k (Nat.lt_of_lt_of_le hk hs) (fun ho => by have := hok k ho; omega)).trans (hB.block k hk)⟩
def wk_laws_markArgDefS.l0 : Nat → List (S57) → Int → Int → Option Int
 | 0, _, _, _ => none
 | k + 1, l, m, i => if i < (l.length : Int) then (if 0 ≤ i then ((laws_markText.f k m).bind fun t1_ => wk_laws_markArgDefS.l0 k l (wrap64 ((wrap64 (m + 1)) + 1)) (wrap64 (i + 1))) else none) else some m
def wk_laws_markArgDefS.f (k : Nat) (l0 : List (S57)) (a1 : Int) : Option Int := wk_laws_markArgDefS.l0 k l0 a1 0
set_option maxHeartbeats 8000000 in
set_option maxRecDepth 100000 in
theorem wk_laws_markArgDefS.callsW (k : Nat) : ∀ (ok : Nat → Prop) (base : Nat) (v : Value) (l : List (S57)) (m r : Int) (d w : World) (hR : Kd.R (k57) 57 d base ok v l) (hS : wk_Sk ok d w) (h : wk_laws_markArgDefS.l0 k l m 0 = some r),
  Calls Try.prog 43 #[v, .int .i64 m] w fun e w' => e = .returned (.int .i64 r) ∧ wk_Sk ok d w' := by
 induction k using Nat.strongRecOn with
 | _ k ih =>
 intro ok base v l m r d w hR hS h; have hu57 := Try.underlying57; obtain ⟨A0, c0, e0⟩ := Kd.R_slice hR; subst e0; have HR := qO hR; have HS0 := qO hS; have H0' := qO h; clear h hR hS
 go_enter Try.func43, Try.ntmps43
 go_wp2
 go_loopg [1, 5] k (fun kq v1 v5 w' => ∃ (m i : Int), v1 = .int .i64 m ∧ v5 = .int .i64 i ∧ Aside0 (wk_laws_markArgDefS.l0 kq l m i = some r) ∧ Aside0 (kq ≤ k) ∧ Aside0 (wk_Sk ok d w'))
 case atStart => exact ⟨m, 0, rfl, rfl, H0', ⟨Nat.le_refl _⟩, HS0⟩
 case round =>
  clear H0' HS0; obtain ⟨m, i, rfl, rfl, HA, HK1, HSwr⟩ := hrel
  cases gk with
  | zero => exact absurd HA.out (by simp [wk_laws_markArgDefS.l0])
  | succ k1 =>
   have H := HA.out; clear HA; simp only [wk_laws_markArgDefS.l0] at H
   by_cases c1 : i < (l.length : Int)
   ·rw [if_pos c1] at H
    by_cases c2 : 0 ≤ i
    ·rw [if_pos c2] at H
     obtain ⟨xe, hxe⟩ : ∃ xe, xe = rd_T57 l i := ⟨_, rfl⟩; (try rw [← hxe] at H); replace H := Option.bind_eq_some_iff.mp H; obtain ⟨t1_, A1_0, H⟩ := H; have A1_ := qO A1_0; clear A1_0; have H' := qO (show wk_laws_markArgDefS.l0 k1 l (wrap64 ((wrap64 (m + 1)) + 1)) (wrap64 (i + 1)) = some r from H); clear H; have c1b := decide_eq_true c1; have c2b := decide_eq_true c2; obtain ⟨go, co, eo, gb, gl, cl, HG⟩ := Kd.R_form HR.out qa27; (first | cases eo | (injection eo with ea_ en_ ec_; (first | subst ea_ | (injection ea_ with ea_; subst ea_)); subst ec_; clear en_)); have HOK := qO (HR.out.1 go rfl); have HGd := qO HG; obtain ⟨ce, hcl, hM, hcc, hfr⟩ := Kd.R_elem HR.out z57 i c2 c1; rw [show List.getD l i.toNat z57 = xe from hxe.symm] at hM; clear hxe; obtain rfl := k57_openM hM; have hd0 : d.cell? ⟨go, i.toNat * 2, none⟩ = some (.string (xe.f0)) := hcc 0 _ rfl; have hd1 : d.cell? ⟨go, i.toNat * 2 + 1, none⟩ = some (.bool (xe.f1)) := hcc 1 _ rfl
     
     obtain ⟨uwr_0, hxwr_0⟩ := wk_some HSwr.out HGd.out hd0; obtain ⟨uwr_1, hxwr_1⟩ := wk_some HSwr.out HGd.out hd1; have hfwr_0 : wr.frozen? ⟨go, i.toNat * 2, none⟩ = false := wk_froz HSwr.out HGd.out _; have hfwr_1 : wr.frozen? ⟨go, i.toNat * 2 + 1, none⟩ = false := wk_froz HSwr.out HGd.out _; clear hcc hfr hcl HG gb gl; (try clear hM); replace c1 := eq_true c1; replace c2 := eq_true c2
     go_wp2_with (first | ((with_reducible refine gate_callee (f := 68) rfl ?_); refine goesL_ (some 15) rfl rfl Try.func68 qa17 rfl #[.int .i64 m] rfl qa32 ?_; (with_reducible refine (laws_markText.calls k1 m t1_ _ A1_.out).mono ?_); rintro e w1x ⟨rfl, hd_⟩; have HSw1x := qO (wk_below HSwr.out hd_); clear hd_; refine ⟨_, rfl, ?_⟩; obtain ⟨uw1x_0, hxw1x_0⟩ := wk_some HSw1x.out HGd.out hd0; obtain ⟨uw1x_1, hxw1x_1⟩ := wk_some HSw1x.out HGd.out hd1; have hfw1x_0 : w1x.frozen? ⟨go, i.toNat * 2, none⟩ = false := wk_froz HSw1x.out HGd.out _; have hfw1x_1 : w1x.frozen? ⟨go, i.toNat * 2 + 1, none⟩ = false := wk_froz HSw1x.out HGd.out _))
     go_roundg k1
     case measure => have := HK1.out; omega
     case rel => exact ⟨(wrap64 ((wrap64 (m + 1)) + 1)), wrap64 (i + 1), qa11, qa11, H', ⟨qa87⟩, ⟨(wk_set (wk_set HSw1x.out HGd.out HOK.out hd0 qa109 _) HGd.out HOK.out hd1 qa109 _)⟩⟩
    ·rw [if_neg c2] at H
     exact absurd H qa91
   ·rw [if_neg c1] at H
    have c1b := decide_eq_false c1; clear c1; simp only [Option.some.injEq] at H; subst H; go_wp2
    go_ret
    exact ⟨rfl, HSwr.out⟩
theorem wk_laws_markArgDefS.calls (k : Nat) (P0_ : Nat → Prop) (u9000_ : Value) (l0 : List (S57)) (a1 : Int) (r1 : Int) (w0 w : World) (hB : Below w0.heap.size w0 w) (ho0 : Kd.R (k57) 57 w w0.heap.size P0_ u9000_ l0) (h : wk_laws_markArgDefS.f k l0 a1 = some r1) :
  Calls Try.prog 43 #[u9000_, .int .i64 a1] w fun e w' => e = .returned (.int .i64 r1) ∧ Below w0.heap.size w0 w' ∧ Kept w w' (fun k_ => P0_ k_) := by
 refine (wk_laws_markArgDefS.callsW k (fun k_ => P0_ k_ ∧ w0.heap.size ≤ k_) w0.heap.size u9000_ l0 a1 r1 w w (Kd.R_mono (Kd.R_bound ho0) (fun k_ hk_ => ⟨hk_.1, hk_.2.1⟩)) (wk_refl _ _) h).mono ?_; rintro e w' ⟨rfl, hS⟩
 exact ⟨rfl, wk_Below hB hS (fun k_ hk_ => hk_.2) hB.size, hS.2.1.mono (fun k_ hk_ => hk_.1)⟩
def laws_markFieldDefS.l0 : Nat → List (S38) → Int → Int → Option Int
 | 0, _, _, _ => none
 | k + 1, l, m, i => if i < (l.length : Int) then (if 0 ≤ i then ((laws_markText.f k m).bind fun t1_ => ((wk_laws_markArgDefS.l0 k (rd_T38 l i).f1 (wrap64 (m + 1)) 0).bind fun t2_ => ((laws_markText.f k t2_).bind fun t3_ => laws_markFieldDefS.l0 k l (wrap64 ((wrap64 ((wrap64 (t2_ + 1)) + 1)) + 1)) (wrap64 (i + 1))))) else none) else some m
def laws_markFieldDefS.f (k : Nat) (l0 : List (S38)) (a1 : Int) : Option Int := laws_markFieldDefS.l0 k l0 a1 0
set_option maxHeartbeats 8000000 in
set_option maxRecDepth 100000 in
theorem laws_markFieldDefS.callsW (k : Nat) : ∀ (ok : Nat → Prop) (base : Nat) (v : Value) (l : List (S38)) (m r : Int) (d w : World) (hR : Kd.R (k38) 38 d base ok v l) (hS : wk_Sk ok d w) (h : laws_markFieldDefS.l0 k l m 0 = some r),
  Calls Try.prog 69 #[v, .int .i64 m] w fun e w' => e = .returned (.int .i64 r) ∧ wk_Sk ok d w' := by
 induction k using Nat.strongRecOn with
 | _ k ih =>
 intro ok base v l m r d w hR hS h; have hu38 := Try.underlying38; obtain ⟨A0, c0, e0⟩ := Kd.R_slice hR; subst e0; have HR := qO hR; have HS0 := qO hS; have H0' := qO h; clear h hR hS
 go_enter Try.func69, Try.ntmps69
 go_wp2
 go_loopg [1, 5] k (fun kq v1 v5 w' => ∃ (m i : Int), v1 = .int .i64 m ∧ v5 = .int .i64 i ∧ Aside0 (laws_markFieldDefS.l0 kq l m i = some r) ∧ Aside0 (kq ≤ k) ∧ Aside0 (wk_Sk ok d w'))
 case atStart => exact ⟨m, 0, rfl, rfl, H0', ⟨Nat.le_refl _⟩, HS0⟩
 case round =>
  clear H0' HS0; obtain ⟨m, i, rfl, rfl, HA, HK1, HSwr⟩ := hrel
  cases gk with
  | zero => exact absurd HA.out (by simp [laws_markFieldDefS.l0])
  | succ k1 =>
   have H := HA.out; clear HA; simp only [laws_markFieldDefS.l0] at H
   by_cases c1 : i < (l.length : Int)
   ·rw [if_pos c1] at H
    by_cases c2 : 0 ≤ i
    ·rw [if_pos c2] at H
     obtain ⟨xe, hxe⟩ : ∃ xe, xe = rd_T38 l i := ⟨_, rfl⟩; (try rw [← hxe] at H); replace H := Option.bind_eq_some_iff.mp H; obtain ⟨t1_, A1_0, H⟩ := H; have A1_ := qO A1_0; clear A1_0; replace H := Option.bind_eq_some_iff.mp H; obtain ⟨t2_, A2_0, H⟩ := H; have A2_ := qO A2_0; clear A2_0; replace H := Option.bind_eq_some_iff.mp H; obtain ⟨t3_, A3_0, H⟩ := H; have A3_ := qO A3_0; clear A3_0; have H' := qO (show laws_markFieldDefS.l0 k1 l (wrap64 ((wrap64 ((wrap64 (t2_ + 1)) + 1)) + 1)) (wrap64 (i + 1)) = some r from H); clear H; have c1b := decide_eq_true c1; have c2b := decide_eq_true c2; obtain ⟨go, co, eo, gb, gl, cl, HG⟩ := Kd.R_form HR.out qa27; (first | cases eo | (injection eo with ea_ en_ ec_; (first | subst ea_ | (injection ea_ with ea_; subst ea_)); subst ec_; clear en_)); have HOK := qO (HR.out.1 go rfl); have HGd := qO HG; obtain ⟨ce, hcl, hM, hcc, hfr⟩ := Kd.R_elem HR.out z38 i c2 c1; rw [show List.getD l i.toNat z38 = xe from hxe.symm] at hM; clear hxe; obtain ⟨v1_, rfl, g1_⟩ := k38_openM hM; have hd0 : d.cell? ⟨go, i.toNat * 5, none⟩ = some (.string (xe.f0)) := hcc 0 _ rfl; have hd1 : d.cell? ⟨go, i.toNat * 5 + 1, none⟩ = some (v1_) := hcc 1 _ rfl; have hd2 : d.cell? ⟨go, i.toNat * 5 + 2, none⟩ = some (.string (xe.f2)) := hcc 2 _ rfl; have hd3 : d.cell? ⟨go, i.toNat * 5 + 3, none⟩ = some (.bool (xe.f3)) := hcc 3 _ rfl; have hd4 : d.cell? ⟨go, i.toNat * 5 + 4, none⟩ = some (.bool (xe.f4)) := hcc 4 _ rfl; obtain ⟨Av1, cv1, ev1⟩ := Kd.R_slice g1_; subst ev1; have HR1 := qO (Kd.R_mono (ok' := ok) g1_ (fun _ hk => hk.1)); obtain ⟨uwr_0, hxwr_0⟩ := wk_some HSwr.out HGd.out hd0; have hxwr_1 := wk_slice HSwr.out HGd.out hd1; obtain ⟨uwr_2, hxwr_2⟩ := wk_some HSwr.out HGd.out hd2; obtain ⟨uwr_3, hxwr_3⟩ := wk_some HSwr.out HGd.out hd3; obtain ⟨uwr_4, hxwr_4⟩ := wk_some HSwr.out HGd.out hd4; have hfwr_0 : wr.frozen? ⟨go, i.toNat * 5, none⟩ = false := wk_froz HSwr.out HGd.out _; have hfwr_2 : wr.frozen? ⟨go, i.toNat * 5 + 2, none⟩ = false := wk_froz HSwr.out HGd.out _; have hfwr_3 : wr.frozen? ⟨go, i.toNat * 5 + 3, none⟩ = false := wk_froz HSwr.out HGd.out _; have hfwr_4 : wr.frozen? ⟨go, i.toNat * 5 + 4, none⟩ = false := wk_froz HSwr.out HGd.out _; clear hcc hfr hcl HG gb gl g1_; (try clear hM); replace c1 := eq_true c1; replace c2 := eq_true c2
     go_wp2_with (first | ((with_reducible refine gate_callee (f := 68) rfl ?_); refine goesL_ (some 15) rfl rfl Try.func68 qa17 rfl #[.int .i64 m] rfl qa32 ?_; (with_reducible refine (laws_markText.calls k1 m t1_ _ A1_.out).mono ?_); rintro e w1x ⟨rfl, hd_⟩; have HSw1x := qO (wk_below HSwr.out hd_); clear hd_; refine ⟨_, rfl, ?_⟩; obtain ⟨uw1x_0, hxw1x_0⟩ := wk_some HSw1x.out HGd.out hd0; have hxw1x_1 := wk_slice HSw1x.out HGd.out hd1; obtain ⟨uw1x_2, hxw1x_2⟩ := wk_some HSw1x.out HGd.out hd2; obtain ⟨uw1x_3, hxw1x_3⟩ := wk_some HSw1x.out HGd.out hd3; obtain ⟨uw1x_4, hxw1x_4⟩ := wk_some HSw1x.out HGd.out hd4; have hfw1x_0 : w1x.frozen? ⟨go, i.toNat * 5, none⟩ = false := wk_froz HSw1x.out HGd.out _; have hfw1x_2 : w1x.frozen? ⟨go, i.toNat * 5 + 2, none⟩ = false := wk_froz HSw1x.out HGd.out _; have hfw1x_3 : w1x.frozen? ⟨go, i.toNat * 5 + 3, none⟩ = false := wk_froz HSw1x.out HGd.out _; have hfw1x_4 : w1x.frozen? ⟨go, i.toNat * 5 + 4, none⟩ = false := wk_froz HSw1x.out HGd.out _) | ((with_reducible refine gate_callee (f := 43) rfl ?_); refine goesL_ (some 26) rfl rfl Try.func43 qa17 rfl #[.slice Av1 (xe.f1).length cv1, .int .i64 (wrap64 (m + 1))] rfl qa32 ?_; refine ((wk_laws_markArgDefS.callsW k1) ok base _ _ (wrap64 (m + 1)) t2_ d _ HR1.out (wk_set HSw1x.out HGd.out HOK.out hd0 qa109 _) A2_.out).mono ?_; rintro e w2x ⟨rfl, hS_⟩; have HSw2x := qO hS_; clear hS_; refine ⟨_, rfl, ?_⟩; obtain ⟨uw2x_0, hxw2x_0⟩ := wk_some HSw2x.out HGd.out hd0; have hxw2x_1 := wk_slice HSw2x.out HGd.out hd1; obtain ⟨uw2x_2, hxw2x_2⟩ := wk_some HSw2x.out HGd.out hd2; obtain ⟨uw2x_3, hxw2x_3⟩ := wk_some HSw2x.out HGd.out hd3; obtain ⟨uw2x_4, hxw2x_4⟩ := wk_some HSw2x.out HGd.out hd4; have hfw2x_0 : w2x.frozen? ⟨go, i.toNat * 5, none⟩ = false := wk_froz HSw2x.out HGd.out _; have hfw2x_2 : w2x.frozen? ⟨go, i.toNat * 5 + 2, none⟩ = false := wk_froz HSw2x.out HGd.out _; have hfw2x_3 : w2x.frozen? ⟨go, i.toNat * 5 + 3, none⟩ = false := wk_froz HSw2x.out HGd.out _; have hfw2x_4 : w2x.frozen? ⟨go, i.toNat * 5 + 4, none⟩ = false := wk_froz HSw2x.out HGd.out _) | ((with_reducible refine gate_callee (f := 68) rfl ?_); refine goesL_ (some 30) rfl rfl Try.func68 qa17 rfl #[.int .i64 t2_] rfl qa32 ?_; (with_reducible refine (laws_markText.calls k1 t2_ t3_ _ A3_.out).mono ?_); rintro e w3x ⟨rfl, hd_⟩; have HSw3x := qO (wk_below HSw2x.out hd_); clear hd_; refine ⟨_, rfl, ?_⟩; obtain ⟨uw3x_0, hxw3x_0⟩ := wk_some HSw3x.out HGd.out hd0; have hxw3x_1 := wk_slice HSw3x.out HGd.out hd1; obtain ⟨uw3x_2, hxw3x_2⟩ := wk_some HSw3x.out HGd.out hd2; obtain ⟨uw3x_3, hxw3x_3⟩ := wk_some HSw3x.out HGd.out hd3; obtain ⟨uw3x_4, hxw3x_4⟩ := wk_some HSw3x.out HGd.out hd4; have hfw3x_0 : w3x.frozen? ⟨go, i.toNat * 5, none⟩ = false := wk_froz HSw3x.out HGd.out _; have hfw3x_2 : w3x.frozen? ⟨go, i.toNat * 5 + 2, none⟩ = false := wk_froz HSw3x.out HGd.out _; have hfw3x_3 : w3x.frozen? ⟨go, i.toNat * 5 + 3, none⟩ = false := wk_froz HSw3x.out HGd.out _; have hfw3x_4 : w3x.frozen? ⟨go, i.toNat * 5 + 4, none⟩ = false := wk_froz HSw3x.out HGd.out _))
     go_roundg k1
     case measure => have := HK1.out; omega
     case rel => exact ⟨(wrap64 ((wrap64 ((wrap64 (t2_ + 1)) + 1)) + 1)), wrap64 (i + 1), qa11, qa11, H', ⟨qa87⟩, ⟨(wk_set (wk_set (wk_set HSw3x.out HGd.out HOK.out hd2 qa109 _) HGd.out HOK.out hd3 qa109 _) HGd.out HOK.out hd4 qa109 _)⟩⟩
    ·rw [if_neg c2] at H
     exact absurd H qa91
   ·rw [if_neg c1] at H
    have c1b := decide_eq_false c1; clear c1; simp only [Option.some.injEq] at H; subst H; go_wp2
    go_ret
    exact ⟨rfl, HSwr.out⟩
theorem laws_markFieldDefS.calls (k : Nat) (P0_ : Nat → Prop) (u9000_ : Value) (l0 : List (S38)) (a1 : Int) (r1 : Int) (w0 w : World) (hB : Below w0.heap.size w0 w) (ho0 : Kd.R (k38) 38 w w0.heap.size P0_ u9000_ l0) (h : laws_markFieldDefS.f k l0 a1 = some r1) :
  Calls Try.prog 69 #[u9000_, .int .i64 a1] w fun e w' => e = .returned (.int .i64 r1) ∧ Below w0.heap.size w0 w' ∧ Kept w w' (fun k_ => P0_ k_) := by
 refine (laws_markFieldDefS.callsW k (fun k_ => P0_ k_ ∧ w0.heap.size ≤ k_) w0.heap.size u9000_ l0 a1 r1 w w (Kd.R_mono (Kd.R_bound ho0) (fun k_ hk_ => ⟨hk_.1, hk_.2.1⟩)) (wk_refl _ _) h).mono ?_; rintro e w' ⟨rfl, hS⟩
 exact ⟨rfl, wk_Below hB hS (fun k_ hk_ => hk_.2) hB.size, hS.2.1.mono (fun k_ hk_ => hk_.1)⟩


def laws_markTypeDefS.l0 : Nat → List (S53) → Int → Int → Option Int
 | 0, _, _, _ => none
 | k + 1, l, m, i => if i < (l.length : Int) then (if 0 ≤ i then ((laws_markText.f k m).bind fun t1_ => ((laws_markFieldDefS.l0 k (rd_T53 l i).f1 (wrap64 (m + 1)) 0).bind fun t2_ => laws_markTypeDefS.l0 k l t2_ (wrap64 (i + 1)))) else none) else some m
def laws_markTypeDefS.f (k : Nat) (l0 : List (S53)) (a1 : Int) : Option Int := laws_markTypeDefS.l0 k l0 a1 0
set_option maxHeartbeats 8000000 in
set_option maxRecDepth 100000 in
theorem laws_markTypeDefS.callsW (k : Nat) : ∀ (ok : Nat → Prop) (base : Nat) (v : Value) (l : List (S53)) (m r : Int) (d w : World) (hR : Kd.R (k53) 53 d base ok v l) (hS : wk_Sk ok d w) (h : laws_markTypeDefS.l0 k l m 0 = some r),
  Calls Try.prog 42 #[v, .int .i64 m] w fun e w' => e = .returned (.int .i64 r) ∧ wk_Sk ok d w' := by
 induction k using Nat.strongRecOn with
 | _ k ih =>
 intro ok base v l m r d w hR hS h; have hu53 := Try.underlying53; obtain ⟨A0, c0, e0⟩ := Kd.R_slice hR; subst e0; have HR := qO hR; have HS0 := qO hS; have H0' := qO h; clear h hR hS
 go_enter Try.func42, Try.ntmps42
 go_wp2
 go_loopg [1, 5] k (fun kq v1 v5 w' => ∃ (m i : Int), v1 = .int .i64 m ∧ v5 = .int .i64 i ∧ Aside0 (laws_markTypeDefS.l0 kq l m i = some r) ∧ Aside0 (kq ≤ k) ∧ Aside0 (wk_Sk ok d w'))
 case atStart => exact ⟨m, 0, rfl, rfl, H0', ⟨Nat.le_refl _⟩, HS0⟩
 case round =>
  clear H0' HS0; obtain ⟨m, i, rfl, rfl, HA, HK1, HSwr⟩ := hrel
  cases gk with
  | zero => exact absurd HA.out (by simp [laws_markTypeDefS.l0])
  | succ k1 =>
   have H := HA.out; clear HA; simp only [laws_markTypeDefS.l0] at H
   by_cases c1 : i < (l.length : Int)
   ·rw [if_pos c1] at H
    by_cases c2 : 0 ≤ i
    ·rw [if_pos c2] at H
     obtain ⟨xe, hxe⟩ : ∃ xe, xe = rd_T53 l i := ⟨_, rfl⟩; (try rw [← hxe] at H); replace H := Option.bind_eq_some_iff.mp H; obtain ⟨t1_, A1_0, H⟩ := H; have A1_ := qO A1_0; clear A1_0; replace H := Option.bind_eq_some_iff.mp H; obtain ⟨t2_, A2_0, H⟩ := H; have A2_ := qO A2_0; clear A2_0; have H' := qO (show laws_markTypeDefS.l0 k1 l t2_ (wrap64 (i + 1)) = some r from H); clear H; have c1b := decide_eq_true c1; have c2b := decide_eq_true c2; obtain ⟨go, co, eo, gb, gl, cl, HG⟩ := Kd.R_form HR.out qa27; (first | cases eo | (injection eo with ea_ en_ ec_; (first | subst ea_ | (injection ea_ with ea_; subst ea_)); subst ec_; clear en_)); have HOK := qO (HR.out.1 go rfl); have HGd := qO HG; obtain ⟨ce, hcl, hM, hcc, hfr⟩ := Kd.R_elem HR.out z53 i c2 c1; rw [show List.getD l i.toNat z53 = xe from hxe.symm] at hM; clear hxe; obtain ⟨v1_, rfl, g1_⟩ := k53_openM hM; have hd0 : d.cell? ⟨go, i.toNat * 2, none⟩ = some (.string (xe.f0)) := hcc 0 _ rfl; have hd1 : d.cell? ⟨go, i.toNat * 2 + 1, none⟩ = some (v1_) := hcc 1 _ rfl; obtain ⟨Av1, cv1, ev1⟩ := Kd.R_slice g1_; subst ev1; have HR1 := qO (Kd.R_mono (ok' := ok) g1_ (fun _ hk => hk.1)); obtain ⟨uwr_0, hxwr_0⟩ := wk_some HSwr.out HGd.out hd0; have hxwr_1 := wk_slice HSwr.out HGd.out hd1; have hfwr_0 : wr.frozen? ⟨go, i.toNat * 2, none⟩ = false := wk_froz HSwr.out HGd.out _; clear hcc hfr hcl HG gb gl g1_; (try clear hM); replace c1 := eq_true c1; replace c2 := eq_true c2
     go_wp2_with (first | ((with_reducible refine gate_callee (f := 68) rfl ?_); refine goesL_ (some 15) rfl rfl Try.func68 qa17 rfl #[.int .i64 m] rfl qa32 ?_; (with_reducible refine (laws_markText.calls k1 m t1_ _ A1_.out).mono ?_); rintro e w1x ⟨rfl, hd_⟩; have HSw1x := qO (wk_below HSwr.out hd_); clear hd_; refine ⟨_, rfl, ?_⟩; obtain ⟨uw1x_0, hxw1x_0⟩ := wk_some HSw1x.out HGd.out hd0; have hxw1x_1 := wk_slice HSw1x.out HGd.out hd1; have hfw1x_0 : w1x.frozen? ⟨go, i.toNat * 2, none⟩ = false := wk_froz HSw1x.out HGd.out _) | ((with_reducible refine gate_callee (f := 69) rfl ?_); refine goesL_ (some 26) rfl rfl Try.func69 qa17 rfl #[.slice Av1 (xe.f1).length cv1, .int .i64 (wrap64 (m + 1))] rfl qa32 ?_; refine ((laws_markFieldDefS.callsW k1) ok base _ _ (wrap64 (m + 1)) t2_ d _ HR1.out (wk_set HSw1x.out HGd.out HOK.out hd0 qa109 _) A2_.out).mono ?_; rintro e w2x ⟨rfl, hS_⟩; have HSw2x := qO hS_; clear hS_; refine ⟨_, rfl, ?_⟩; obtain ⟨uw2x_0, hxw2x_0⟩ := wk_some HSw2x.out HGd.out hd0; have hxw2x_1 := wk_slice HSw2x.out HGd.out hd1; have hfw2x_0 : w2x.frozen? ⟨go, i.toNat * 2, none⟩ = false := wk_froz HSw2x.out HGd.out _))
     go_roundg k1
     case measure => have := HK1.out; omega
     case rel => exact ⟨t2_, wrap64 (i + 1), qa11, qa11, H', ⟨qa87⟩, ⟨HSw2x.out⟩⟩
    ·rw [if_neg c2] at H
     exact absurd H qa91
   ·rw [if_neg c1] at H
    have c1b := decide_eq_false c1; clear c1; simp only [Option.some.injEq] at H; subst H; go_wp2
    go_ret
    exact ⟨rfl, HSwr.out⟩
theorem laws_markTypeDefS.calls (k : Nat) (P0_ : Nat → Prop) (u9000_ : Value) (l0 : List (S53)) (a1 : Int) (r1 : Int) (w0 w : World) (hB : Below w0.heap.size w0 w) (ho0 : Kd.R (k53) 53 w w0.heap.size P0_ u9000_ l0) (h : laws_markTypeDefS.f k l0 a1 = some r1) :
  Calls Try.prog 42 #[u9000_, .int .i64 a1] w fun e w' => e = .returned (.int .i64 r1) ∧ Below w0.heap.size w0 w' ∧ Kept w w' (fun k_ => P0_ k_) := by
 refine (laws_markTypeDefS.callsW k (fun k_ => P0_ k_ ∧ w0.heap.size ≤ k_) w0.heap.size u9000_ l0 a1 r1 w w (Kd.R_mono (Kd.R_bound ho0) (fun k_ hk_ => ⟨hk_.1, hk_.2.1⟩)) (wk_refl _ _) h).mono ?_; rintro e w' ⟨rfl, hS⟩
 exact ⟨rfl, wk_Below hB hS (fun k_ hk_ => hk_.2) hB.size, hS.2.1.mono (fun k_ hk_ => hk_.1)⟩


def laws_markSchema.f (k : Nat) (l0_0 : List (S53)) (a1 : Int) : Option Int := laws_markTypeDefS.f k l0_0 a1
set_option maxHeartbeats 8000000 in
set_option maxRecDepth 100000 in
theorem laws_markSchema.calls (k : Nat) (P0_ : Nat → Prop) (u9000_ : Value) (l0_0 : List (S53)) (a1 : Int) (r1 : Int) (w0 w : World) (hB : Below w0.heap.size w0 w) (ho0 : Kd.R (k53) 53 w w0.heap.size P0_ u9000_ l0_0) (h : laws_markSchema.f k l0_0 a1 = some r1) :
  Calls Try.prog 18 #[.agg #[u9000_], .int .i64 a1] w fun e w' => e = .returned (.int .i64 r1) ∧ Below w0.heap.size w0 w' ∧ Kept w w' (fun k_ => P0_ k_) := by
 have hu29 := Try.underlying29; obtain ⟨A0, c0, e0⟩ := Kd.R_slice ho0; subst e0; have HO := qO ho0; have HB := qO hB; have HF := qO (show laws_markTypeDefS.f k l0_0 a1 = some r1 from h); clear ho0 hB h
 go_enter Try.func18, Try.ntmps18
 go_wp2_with (first | ((with_reducible refine gate_dst (N := 2) rfl ?_); refine box_event ?hg (N := 2) ?hd (cs := #[.slice A0 l0_0.length c0]) (t := 29) ?hr ?_; (case hd => rfl); (case hg => rfl); (case hr => exact qa18); intro gb hg w1 hbox hb; have hcz_0 : w1.cell? ⟨gb, 0, none⟩ = some (.slice A0 l0_0.length c0) := (blk_cell hbox 0).trans rfl; have HB1 := qO (below_step HB.out hb); have HO1 := qO (Kd.R_below HO.out hb); have HK1 := qO (Kept.of_below hb (fun k_ => P0_ k_)); clear hb hg hbox) | (go_at_call 42; refine (laws_markTypeDefS.calls k P0_ _ l0_0 a1 r1 w0 _ HB1.out HO1.out HF.out).mono ?_; rintro e w2 ⟨rfl, hB2, hK2⟩; have HB2 := qO hB2; have HK2 := qO hK2; clear hB2 hK2))
 go_ret
 exact ⟨rfl, HB2.out, Kept.then_ HK1.out HK2.out (fun k_ hk => .inl hk)⟩


def laws_markArgDefS.l0 : Nat → List (S57) → Int → Int → Option (Int × (List (S57)))
 | 0, _, _, _ => none
 | k + 1, x0, x1, x5 => if x5 < (x0.length : Int) then ((laws_markText.f k x1).bind fun t101 => (if 0 ≤ x5 then ((some (x0.set (x5 : Int).toNat (⟨t101, (rd_T57 x0 x5).f1⟩ : S57) : List (S57))).bind fun y102 => (laws_markArgDefS.l0 k (y102.set (x5 : Int).toNat (⟨(rd_T57 y102 x5).f0, ((Int.tmod (wrap64 (x1 + 1)) 3) == 0)⟩ : S57)) (wrap64 ((wrap64 (x1 + 1)) + 1)) (wrap64 (x5 + 1)))) else (none))) else (some (x1, x0))
def laws_markArgDefS.f (k : Nat) (l0 : List (S57)) (a1 : Int) : Option (Int × (List (S57))) := laws_markArgDefS.l0 k l0 a1 0
set_option maxHeartbeats 8000000 in
set_option maxRecDepth 100000 in
theorem laws_markArgDefS.calls (k : Nat) (P0_ : Nat → Prop) (u9000_ : Value) (l0 : List (S57)) (a1 : Int) (r1 : Int) (r2 : List (S57)) (w0 w : World) (hB : Below w0.heap.size w0 w) (ho0 : Kd.R k57 57 w w0.heap.size P0_ u9000_ l0) (h : laws_markArgDefS.f k l0 a1 = some (r1, r2)) :
  Calls Try.prog 43 #[u9000_, .int .i64 a1] w fun e w' => e = .returned (.int .i64 r1) ∧ Kd.R k57 57 w' w0.heap.size (fun k_ => (P0_ k_ ∨ w.heap.size ≤ k_)) u9000_ r2 ∧ Below w0.heap.size w0 w' ∧ Kept w w' (fun k_ => P0_ k_) := by
 have HO0 := qO (show Kd.R k57 57 w w0.heap.size (fun k_ => (P0_ k_ ∨ w.heap.size ≤ k_)) u9000_ l0 from Kd.R_mono ho0 (fun k_ hk => (.inl hk))); have HK := qO (Kept.refl w (fun k_ => P0_ k_)); have HW0 := qO hB.size; have HB := qO hB; clear hB; have H : (laws_markArgDefS.l0 k l0 a1 0) = some (r1, r2) := h; clear h; have H' := qO H; clear H
 go_enter Try.func43, Try.ntmps43
 go_wp2
 go_loopg [1, 5] k (fun kq v1 v5 w' => ∃ (x0_1 : List (S57)) (x1_1 : Int) (x5_1 : Int), v1 = .int .i64 x1_1 ∧ v5 = .int .i64 x5_1 ∧ Aside0 (laws_markArgDefS.l0 kq x0_1 x1_1 x5_1 = some (r1, r2)) ∧ Aside0 (kq ≤ k) ∧ Aside0 (Kd.R k57 57 w' w0.heap.size (fun k_ => (P0_ k_ ∨ w.heap.size ≤ k_)) u9000_ x0_1) ∧ Aside0 (Kept w w' (fun k_ => P0_ k_)) ∧ Aside0 (Below w0.heap.size w0 w'))
 case atStart => exact ⟨(l0), (a1), (0), qa11, qa11, H', ⟨Nat.le_refl _⟩, ⟨by (with_reducible repeat (first | apply Kd.R_alloc | apply Kd.R_drewN | apply Kd.R_drew)); exact HO0.out⟩, ⟨qa47⟩, ⟨qa8⟩⟩
 case round =>
  clear H'
  try clear p2
  obtain ⟨x0_1, x1_1, x5_1, rfl, rfl, HA, HK1, HO_0, HK, HB⟩ := hrel
  cases gk with
  | zero => exact absurd HA.out (by simp [laws_markArgDefS.l0])
  | succ k1 =>
   have H := HA.out; clear HA; simp only [laws_markArgDefS.l0] at H
   by_cases c3 : x5_1 < (x0_1.length : Int)
   ·rw [if_pos c3] at H
    have c3b0 : decide (x5_1 < (x0_1.length : Int)) = true := decide_eq_true c3; clear c3; replace H := Option.bind_eq_some_iff.mp H; obtain ⟨t101, A40, H⟩ := H; replace H : (if 0 ≤ x5_1 then ((some (x0_1.set (x5_1 : Int).toNat (⟨t101, (rd_T57 x0_1 x5_1).f1⟩ : S57) : List (S57))).bind fun y102 => (laws_markArgDefS.l0 k1 (y102.set (x5_1 : Int).toNat (⟨(rd_T57 y102 x5_1).f0, ((Int.tmod (wrap64 (x1_1 + 1)) 3) == 0)⟩ : S57)) (wrap64 ((wrap64 (x1_1 + 1)) + 1)) (wrap64 (x5_1 + 1)))) else (none)) = some (r1, r2) := H; have A4 := qO A40; clear A40
    by_cases c5 : 0 ≤ x5_1
    ·rw [if_pos c5] at H
     have c5b0 : decide (0 ≤ x5_1) = true := decide_eq_true c5; clear c5; obtain ⟨y102, hy102⟩ : ∃ y_ : List (S57), y_ = (x0_1.set (x5_1 : Int).toNat (⟨t101, (rd_T57 x0_1 x5_1).f1⟩ : S57)) := ⟨_, rfl⟩; replace H : (laws_markArgDefS.l0 k1 (y102.set (x5_1 : Int).toNat (⟨(rd_T57 y102 x5_1).f0, ((Int.tmod (wrap64 (x1_1 + 1)) 3) == 0)⟩ : S57)) (wrap64 ((wrap64 (x1_1 + 1)) + 1)) (wrap64 (x5_1 + 1))) = some (r1, r2) := by first | (rw [hy102]; with_reducible exact H) | (have H2_ := (Option.bind_some _ _).symm.trans H; rw [hy102]; with_reducible exact H2_) | (have H2_ := (Option.bind_some _ _).symm.trans H; with_reducible exact H2_) | with_reducible exact H | (rw [hy102]; exact H) | exact H
     have Ny102 := qO hy102; clear hy102; obtain ⟨y103, hy103⟩ : ∃ y_ : List (S57), y_ = (y102.set (x5_1 : Int).toNat (⟨(rd_T57 y102 x5_1).f0, ((Int.tmod (wrap64 (x1_1 + 1)) 3) == 0)⟩ : S57)) := ⟨_, rfl⟩; replace H : (laws_markArgDefS.l0 k1 y103 (wrap64 ((wrap64 (x1_1 + 1)) + 1)) (wrap64 (x5_1 + 1))) = some (r1, r2) := by first | (rw [hy103]; with_reducible exact H) | (have H2_ := (Option.bind_some _ _).symm.trans H; rw [hy103]; with_reducible exact H2_) | (have H2_ := (Option.bind_some _ _).symm.trans H; with_reducible exact H2_) | with_reducible exact H | (rw [hy103]; exact H) | exact H
     have Ny103 := qO hy103; clear hy103; have H' := qO H; clear H; obtain ⟨Ao8, co8, eo8⟩ := Kd.R_slice HO_0.out; subst eo8
     go_wp2_with (first | ((with_reducible refine gate_callee (f := 68) rfl ?_); refine goesL_ (some 15) rfl rfl Try.func68 qa17 rfl #[.int .i64 x1_1] rfl qa1 ?_; (with_reducible refine (laws_markText.calls k1 x1_1 t101 _ A4.out).mono ?_); rintro e w9 ⟨rfl, hb⟩; have hx_ := qHX HB hb qa0; refine ⟨_, rfl, ?_⟩; have n0_ := qO (Kd.R_below qa76 hb); have n1_ := qO (Kept.below (w := w) (S := (fun k_ => P0_ k_)) qa47 hb); have n2_ := qO (below_step (below_step HB.out hx_) hb); clear HO_0; clear HK; clear HB; have HO_0 := n0_; have HK := n1_; have HB := n2_; clear n0_ n1_ n2_; clear hx_; (try clear hb); (try clear hb2); (try clear hk); (try clear hi); have p6 : 0 ≤ (x5_1 : Int) := qT qa5; have q6 : (x5_1 : Int) < ((x0_1.length : Int) : Int) := qT qa5; obtain ⟨go6, co6, eo6, gb6, gl6, cl6, HG6⟩ := Kd.R_form HO_0.out qa27; (first | cases eo6 | (injection eo6 with ea_ en_ ec_; (first | subst ea_ | (injection ea_ with ea_; subst ea_)); subst ec_; clear en_)); have GB6 := qO gb6; have GG6 := qO HG6; clear gb6 gl6 HG6; have HMgo6 := qO (show (P0_ go6 ∨ w.heap.size ≤ go6) from (HO_0.out.1 _ rfl)); obtain ⟨ce6, hcl6, hM6, hcc6, hfr6⟩ := Kd.R_elem HO_0.out z57 (x5_1 : Int) p6 q6; obtain rfl := k57_openM hM6; have hx6_0 : w9.cell? ⟨go6, (x5_1 : Int).toNat * 2, none⟩ = some (.string ((rd_T57 x0_1 x5_1).f0)) := hcc6 0 _ rfl; have hx6_1 : w9.cell? ⟨go6, (x5_1 : Int).toNat * 2 + 1, none⟩ = some (.bool ((rd_T57 x0_1 x5_1).f1)) := hcc6 1 _ rfl; have hf6_0 : w9.frozen? ⟨go6, (x5_1 : Int).toNat * 2, none⟩ = false := hfr6 0; have hf6_1 : w9.frozen? ⟨go6, (x5_1 : Int).toNat * 2 + 1, none⟩ = false := hfr6 1; clear hcl6 hcc6 hfr6; (try clear hM6); replace p6 := eq_true p6; replace q6 := eq_true q6; have HX10 := qO (show Kd.R k57 57 w9 w0.heap.size (fun k_ => (P0_ k_ ∨ w.heap.size ≤ k_)) (.slice (some ⟨go6, 0, none⟩) x0_1.length co8) x0_1 from qa76); obtain ⟨ce10, hcl10, hM10, hcc10, hfr10⟩ := Kd.R_elem HX10.out z57 (x5_1 : Int) (qT qa5) (by have h_ : (x5_1 : Int) < ((x0_1.length : Int) : Int) := qT qa5; first | exact h_ | (have e_ := (Kd.R_reads' HO_0.out).1; omega) | simpa using h_); obtain rfl := k57_openM hM10; have HP10 := Kd.R_seg HX10.out (x5_1 : Int) (qT qa5) (by have h_ : (x5_1 : Int) < ((x0_1.length : Int) : Int) := qT qa5; first | exact h_ | (have e_ := (Kd.R_reads' HO_0.out).1; omega) | simpa using h_) (seg := [.string t101]) (j := 0) hcl10 hcc10 (show 1 ≤ 2 from by decide) (x' := (⟨t101, (rd_T57 x0_1 x5_1).f1⟩ : S57)) (k57_mkM _ _ _ (⟨t101, (rd_T57 x0_1 x5_1).f1⟩ : S57) ) (fun _ hk => hk); have hx10_0 := hcc10 0 _ rfl; (try simp only [show (k57).sz = 2 from rfl, Nat.mul_one, Nat.add_zero] at hx10_0); have hf10_0 := hfr10 0; (try simp only [show (k57).sz = 2 from rfl, Nat.mul_one, Nat.add_zero] at hf10_0); clear hcl10 hcc10 hfr10; (try clear hM10)) | ((with_reducible refine gate_store (t := 9) (p := 17) rfl ?_); refine store_event (t := 9) (p := 17) (v := ?vo_w11) (w1 := (w9.setCell ⟨go6, (x5_1 : Int).toNat * 2, none⟩ (.string t101))) ?hg ?ho ?hn ?hr ?_; (case ho => rfl); (case hg => rfl); (case hn => rfl); (case hr => exact qa18); intro w11 hw; have hg : w9.grownBy w11 (some go6) := (by rw [hw]; exact HP10.2); have hp_ : Kd.R k57 57 w11 w0.heap.size (fun k_ => (P0_ k_ ∨ w.heap.size ≤ k_)) (.slice (some ⟨go6, 0, none⟩) x0_1.length co8) y102 := (by rw [hw, Ny102.out]; exact HP10.1); clear HP10; have n0_ := qO (hp_); have n1_ := qO ((by rw [hw]; exact qbS (HB.out) GB6.out : Below w0.heap.size w0 w11)); have n2_ := qO (Kept.of_grown (S := (fun k_ => P0_ k_)) hg qa47 (fun k_ e_ => (HO_0.out.1 k_ e_))); clear HO_0; clear HB; clear HK; have HO_0 := n0_; have HB := n1_; have HK := n2_; clear n0_ n1_ n2_; clear hg hw hp_; have p7 : 0 ≤ (x5_1 : Int) := qT qa5; have q7 : (x5_1 : Int) < ((x0_1.length : Int) : Int) := qT qa5; obtain ⟨ce7, hcl7, hM7, hcc7, hfr7⟩ := Kd.R_elem HO_0.out z57 (x5_1 : Int) p7 q7; obtain rfl := k57_openM hM7; have hx7_0 : w11.cell? ⟨go6, (x5_1 : Int).toNat * 2, none⟩ = some (.string ((rd_T57 y102 x5_1).f0)) := hcc7 0 _ rfl; have hx7_1 : w11.cell? ⟨go6, (x5_1 : Int).toNat * 2 + 1, none⟩ = some (.bool ((rd_T57 y102 x5_1).f1)) := hcc7 1 _ rfl; have hf7_0 : w11.frozen? ⟨go6, (x5_1 : Int).toNat * 2, none⟩ = false := hfr7 0; have hf7_1 : w11.frozen? ⟨go6, (x5_1 : Int).toNat * 2 + 1, none⟩ = false := hfr7 1; clear hcl7 hcc7 hfr7; (try clear hM7); replace p7 := eq_true p7; replace q7 := eq_true q7; have HX12 := qO (show Kd.R k57 57 w11 w0.heap.size (fun k_ => (P0_ k_ ∨ w.heap.size ≤ k_)) (.slice (some ⟨go6, 0, none⟩) x0_1.length co8) y102 from qa76); obtain ⟨ce12, hcl12, hM12, hcc12, hfr12⟩ := Kd.R_elem HX12.out z57 (x5_1 : Int) (qT qa5) (by have h_ : (x5_1 : Int) < ((x0_1.length : Int) : Int) := qT qa5; first | exact h_ | (have e_ := (Kd.R_reads' HO_0.out).1; omega) | simpa using h_); obtain rfl := k57_openM hM12; have HP12 := Kd.R_seg HX12.out (x5_1 : Int) (qT qa5) (by have h_ : (x5_1 : Int) < ((x0_1.length : Int) : Int) := qT qa5; first | exact h_ | (have e_ := (Kd.R_reads' HO_0.out).1; omega) | simpa using h_) (seg := [.bool ((Int.tmod (wrap64 (x1_1 + 1)) 3) == 0)]) (j := 1) hcl12 hcc12 (show 2 ≤ 2 from by decide) (x' := (⟨(rd_T57 y102 x5_1).f0, ((Int.tmod (wrap64 (x1_1 + 1)) 3) == 0)⟩ : S57)) (k57_mkM _ _ _ (⟨(rd_T57 y102 x5_1).f0, ((Int.tmod (wrap64 (x1_1 + 1)) 3) == 0)⟩ : S57) ) (fun _ hk => hk); have hx12_1 := hcc12 1 _ rfl; (try simp only [show (k57).sz = 2 from rfl, Nat.mul_one, Nat.add_zero] at hx12_1); have hf12_1 := hfr12 1; (try simp only [show (k57).sz = 2 from rfl, Nat.mul_one, Nat.add_zero] at hf12_1); clear hcl12 hcc12 hfr12; (try clear hM12)) | ((with_reducible refine gate_store (t := 4) (p := 26) rfl ?_); refine store_event (t := 4) (p := 26) (v := ?vo_w13) (w1 := (w11.setCell ⟨go6, (x5_1 : Int).toNat * 2 + 1, none⟩ (.bool ((Int.tmod (wrap64 (x1_1 + 1)) 3) == 0)))) ?hg ?ho ?hn ?hr ?_; (case ho => rfl); (case hg => rfl); (case hn => rfl); (case hr => exact qa18); intro w13 hw; have hg : w11.grownBy w13 (some go6) := qa116; have hp_ : Kd.R k57 57 w13 w0.heap.size (fun k_ => (P0_ k_ ∨ w.heap.size ≤ k_)) (.slice (some ⟨go6, 0, none⟩) x0_1.length co8) y103 := (by rw [hw, Ny103.out]; exact HP12.1); clear HP12; have n0_ := qO (hp_); have n1_ := qO ((by rw [hw]; exact qbS (HB.out) GB6.out : Below w0.heap.size w0 w13)); have n2_ := qO (Kept.of_grown (S := (fun k_ => P0_ k_)) hg qa47 (fun k_ e_ => (HO_0.out.1 k_ e_))); clear HO_0; clear HB; clear HK; have HO_0 := n0_; have HB := n1_; have HK := n2_; clear n0_ n1_ n2_; clear hg hw hp_))
     go_roundg k1
     case measure => have := HK1.out; omega
     case rel => exact ⟨(y103), (wrap64 ((wrap64 (x1_1 + 1)) + 1)), (wrap64 (x5_1 + 1)), qa11, qa11, H', ⟨qa87⟩, ⟨qa76⟩, ⟨qa47⟩, ⟨qa8⟩⟩
    ·rw [if_neg c5] at H
     exact absurd H qa91
   ·rw [if_neg c3] at H
    have c3b0 : decide (x5_1 < (x0_1.length : Int)) = false := decide_eq_false c3; clear c3; simp only [Option.some.injEq, Prod.mk.injEq] at H; obtain ⟨rfl, rfl⟩ := H; obtain ⟨Ao14, co14, eo14⟩ := Kd.R_slice HO_0.out; subst eo14; go_wp2
    go_ret
    exact ⟨qa3, qa76, qa8, qa47⟩


def laws_markFieldDef.f (k : Nat) (a0_0 : ByteArray) (l0_1 : List (S57)) (a0_2 : ByteArray) (a0_3 : Bool) (a0_4 : Bool) (a1 : Int) : Option (Int × (List (S57))) := (laws_markArgDefS.f k l0_1 a1).bind fun bt102 => (some (bt102.1, bt102.2))
set_option maxHeartbeats 8000000 in
set_option maxRecDepth 100000 in
theorem laws_markFieldDef.calls (k : Nat) (a0_0 : ByteArray) (P0_1_ : Nat → Prop) (u9000_ : Value) (l0_1 : List (S57)) (a0_2 : ByteArray) (a0_3 : Bool) (a0_4 : Bool) (a1 : Int) (r1 : Int) (r2 : List (S57)) (w0 w : World) (hB : Below w0.heap.size w0 w) (ho0_1 : Kd.R k57 57 w w0.heap.size P0_1_ u9000_ l0_1) (h : laws_markFieldDef.f k a0_0 l0_1 a0_2 a0_3 a0_4 a1 = some (r1, r2)) :
  Calls Try.prog 19 #[.agg #[.string a0_0, u9000_, .string a0_2, .bool a0_3, .bool a0_4], .int .i64 a1] w fun e w' => e = .returned (.int .i64 r1) ∧ Kd.R k57 57 w' w0.heap.size (fun k_ => (P0_1_ k_ ∨ w.heap.size ≤ k_)) u9000_ r2 ∧ Below w0.heap.size w0 w' ∧ Kept w w' (fun k_ => P0_1_ k_) := by
 have hu38 := Try.underlying38; have HO0_1 := qO (show Kd.R k57 57 w w0.heap.size (fun k_ => (P0_1_ k_ ∨ w.heap.size ≤ k_)) u9000_ l0_1 from Kd.R_mono ho0_1 (fun k_ hk => (.inl hk))); have HK := qO (Kept.refl w (fun k_ => P0_1_ k_)); have HW0 := qO hB.size; have HB := qO hB; clear hB; have H : ((laws_markArgDefS.f k l0_1 a1).bind fun bt102 => (some (bt102.1, bt102.2))) = some (r1, r2) := h; clear h; replace H := Option.bind_eq_some_iff.mp H; obtain ⟨⟨t102, t103⟩, A30, H⟩ := H; replace H : (some (t102, t103)) = some (r1, r2) := H; have A3 := qO A30; clear A30; simp only [Option.some.injEq, Prod.mk.injEq] at H; obtain ⟨rfl, rfl⟩ := H; obtain ⟨Ao4, co4, eo4⟩ := Kd.R_slice HO0_1.out; subst eo4
 go_enter Try.func19, Try.ntmps19
 go_wp2_with (first | ((with_reducible refine gate_dst (N := 2) rfl ?_); refine box_event ?hg (N := 2) ?hd (cs := #[.string a0_0, .slice Ao4 l0_1.length co4, .string a0_2, .bool a0_3, .bool a0_4]) (t := 38) ?hr ?_; (case hd => rfl); (case hg => rfl); (case hr => exact qa18); intro gb101 hg w5 hbox hb; have hx_ := qHX HB hb qa0; have n0_ := qO (Kd.R_below qa103 hb); have n1_ := qO (Kept.below (w := w) (S := (fun k_ => P0_1_ k_)) qa47 hb); have n2_ := qO (below_step (below_step HB.out hx_) hb); have n3_ := qO (hbox); have n4_ := qO ((by rw [hg]; exact (by first | exact HK.out.1 | exact (show Kept w _ (fun k_ => P0_1_ k_) from by repeat (first | (with_reducible first | exact HK.out | apply Kept.alloc | apply Kept.drewN | apply Kept.drew) | exact HK.out)).1) : w.heap.size ≤ gb101)); have n5_ := qO ((qa15 : w0.heap.size ≤ gb101)); clear HO0_1; clear HK; clear HB; have HO0_1 := n0_; have HK := n1_; have HB := n2_; have BK101 := n3_; have GW101 := n4_; have GE101 := n5_; clear n0_ n1_ n2_ n3_ n4_ n5_; clear hx_; clear hb hbox hg; have hcz6_0 : w5.cell? ⟨gb101, 0, none⟩ = some (.string a0_0) := (blk_cell BK101.out 0).trans rfl; have hcz6_1 : w5.cell? ⟨gb101, 1, none⟩ = some (.slice Ao4 l0_1.length co4) := (blk_cell BK101.out 1).trans rfl; have hcz6_2 : w5.cell? ⟨gb101, 2, none⟩ = some (.string a0_2) := (blk_cell BK101.out 2).trans rfl; have hcz6_3 : w5.cell? ⟨gb101, 3, none⟩ = some (.bool a0_3) := (blk_cell BK101.out 3).trans rfl; have hcz6_4 : w5.cell? ⟨gb101, 4, none⟩ = some (.bool a0_4) := (blk_cell BK101.out 4).trans rfl; have hfz6_0 := blk_frozen BK101.out 0; have hfz6_1 := blk_frozen BK101.out 1; have hfz6_2 := blk_frozen BK101.out 2; have hfz6_3 := blk_frozen BK101.out 3; have hfz6_4 := blk_frozen BK101.out 4) | ((with_reducible refine gate_callee (f := 43) rfl ?_); refine goesL_ (some 8) rfl rfl Try.func43 qa17 rfl #[.slice Ao4 l0_1.length co4, .int .i64 a1] rfl qa1 ?_; (with_reducible refine (laws_markArgDefS.calls k (fun k_ => some k_ = (.slice Ao4 l0_1.length co4 : Value).ownBlock) (.slice Ao4 l0_1.length co4) l0_1 a1 t102 t103 w0 _ ?side1 ?side2 A3.out).mono ?_); (case side1 => exact qa6); (case side2 => exact Kd.R_tight rfl HO0_1.out); rintro e w7 ⟨rfl, hy0, hb, hkp⟩; refine ⟨_, rfl, ?_⟩; have n0_ := qO (Kd.R_reok rfl hy0 (fun k_ e_ => HO0_1.out.1 k_ e_)); have n1_ := qO (blk_kept qa13 hkp (fun hs_ => (fun e_ => (Kd.R_ne HO0_1.out BK101.out qa108) e_) hs_)); have n2_ := qO (Kept.then_ (S := (fun k_ => P0_1_ k_)) qa90 hkp (fun k_ hs_ => (fun e_ => (HO0_1.out.1 k_ e_.symm)) hs_)); have n3_ := qO (hb); clear HO0_1; clear BK101; clear HK; clear HB; have HO0_1 := n0_; have BK101 := n1_; have HK := n2_; have HB := n3_; clear n0_ n1_ n2_ n3_; (try clear hb); (try clear hkp); (try clear hy0)))
 go_ret
 exact ⟨qa3, qa103, qa6, qa90⟩


def laws_heldArgDefS.l0 : Nat → List (S57) → Int → Int → Option (Int)
 | 0, _, _, _ => none
 | k + 1, x0, x1, x5 => if x5 < (x0.length : Int) then (if 0 ≤ x5 then ((laws_markText.f k x1).bind fun t102 => (if ((rd_T57 x0 x5).f0).toList = t102.toList then (if (((rd_T57 x0 x5).f1) != ((Int.tmod (wrap64 (x1 + 1)) 3) == 0)) = true then (some (-1)) else (laws_heldArgDefS.l0 k x0 (wrap64 ((wrap64 (x1 + 1)) + 1)) (wrap64 (x5 + 1)))) else (some (-1)))) else (none)) else (some x1)
def laws_heldArgDefS.f (k : Nat) (l0 : List (S57)) (a1 : Int) : Option (Int) := laws_heldArgDefS.l0 k l0 a1 0
def laws_heldArgDefS.T4 : Bool × List (List Nat × List Nat) := (true, [([], []), ([], []), ([0, 1], [0, 1]), ([2], [2]), ([3], [3]), ([], []), ([5], [5]), ([4, 6], [4, 6])])
def laws_heldArgDefS.B4 : List Nat := [0, 0, 3, 7, 15, 0, 32, 127]
theorem laws_heldArgDefS.tab4 : rtab .any (opsOf Try.f44 4) = laws_heldArgDefS.T4 := by kernel_rfl
theorem laws_heldArgDefS.bits4 : waitsOk laws_heldArgDefS.T4.2 laws_heldArgDefS.B4 = true := by kernel_rfl
def laws_heldArgDefS.y0 : Array Bool := #[false, false, false, false, false, false, false, false]
def laws_heldArgDefS.y1 : Array Bool := #[true, false, false, false, false, false, false, false]
def laws_heldArgDefS.y2 : Array Bool := #[true, true, false, false, false, false, false, false]
def laws_heldArgDefS.y3 : Array Bool := #[true, true, true, false, false, false, false, false]
def laws_heldArgDefS.y4 : Array Bool := #[true, true, true, true, false, false, false, false]
def laws_heldArgDefS.y5 : Array Bool := #[true, true, true, true, false, true, false, false]
def laws_heldArgDefS.y6 : Array Bool := #[true, true, true, true, true, true, false, false]
def laws_heldArgDefS.y7 : Array Bool := #[true, true, true, true, true, true, true, false]
def laws_heldArgDefS.y8 : Array Bool := #[true, true, true, true, true, true, true, true]
set_option maxHeartbeats 8000000 in
set_option maxRecDepth 100000 in
theorem laws_heldArgDefS.calls (k : Nat) (A0 : Option Addr) (c0 : Nat) (l0 : List (S57)) (a1 : Int) (r : Int) (w : World) (hr0 : Kd.C k57 w A0 l0.length l0) (hc0 : l0.length ≤ c0) (h : laws_heldArgDefS.f k l0 a1 = some r) :
  Calls Try.prog 44 #[.slice A0 l0.length c0, .int .i64 a1] w fun e w' => e = .returned (.int .i64 r) ∧ Below w.heap.size w w' := by
 have HR0 := qO hr0; have HC0 := qO hc0; clear hr0 hc0; have HB := qO (Below.refl w.heap.size w); have H : (laws_heldArgDefS.l0 k l0 a1 0) = some r := h; clear h; have H' := qO H; clear H
 go_enter Try.func44, Try.ntmps44
 go_wp2
 go_loopg [1, 5] k (fun kq v1 v5 w' => ∃ (x1_1 : Int) (x5_1 : Int), v1 = .int .i64 x1_1 ∧ v5 = .int .i64 x5_1 ∧ Aside0 (laws_heldArgDefS.l0 kq l0 x1_1 x5_1 = some r) ∧ Aside0 (kq ≤ k) ∧ Aside0 (Below w.heap.size w w'))
 case atStart => exact ⟨(a1), (0), qa11, qa11, H', ⟨Nat.le_refl _⟩, ⟨qa8⟩⟩
 case round =>
  clear H'
  try clear p2
  obtain ⟨x1_1, x5_1, rfl, rfl, HA, HK1, HB⟩ := hrel
  cases gk with
  | zero => exact absurd HA.out (by simp [laws_heldArgDefS.l0])
  | succ k1 =>
   have H := HA.out; clear HA; simp only [laws_heldArgDefS.l0] at H
   by_cases c3 : x5_1 < (l0.length : Int)
   ·rw [if_pos c3] at H
    have c3b0 : decide (x5_1 < (l0.length : Int)) = true := decide_eq_true c3; clear c3
    by_cases c4 : 0 ≤ x5_1
    ·rw [if_pos c4] at H
     have c4b0 : decide (0 ≤ x5_1) = true := decide_eq_true c4; clear c4; replace H := Option.bind_eq_some_iff.mp H; obtain ⟨t102, A50, H⟩ := H; replace H : (if ((rd_T57 l0 x5_1).f0).toList = t102.toList then (if (((rd_T57 l0 x5_1).f1) != ((Int.tmod (wrap64 (x1_1 + 1)) 3) == 0)) = true then (some (-1)) else (laws_heldArgDefS.l0 k1 l0 (wrap64 ((wrap64 (x1_1 + 1)) + 1)) (wrap64 (x5_1 + 1)))) else (some (-1))) = some r := H; have A5 := qO A50; clear A50
     by_cases c6 : ((rd_T57 l0 x5_1).f0).toList = t102.toList
     ·rw [if_pos c6] at H
      have c6b0 : (((rd_T57 l0 x5_1).f0).toList == t102.toList) = true := beq_iff_eq.mpr c6; have c6b1 : (((rd_T57 l0 x5_1).f0).toList != t102.toList) = false := bne_eq_false_iff_eq.mpr c6; clear c6
      by_cases c7 : (((rd_T57 l0 x5_1).f1) != ((Int.tmod (wrap64 (x1_1 + 1)) 3) == 0)) = true
      ·rw [if_pos c7] at H
       have c7b0 : (((rd_T57 l0 x5_1).f1) != ((Int.tmod (wrap64 (x1_1 + 1)) 3) == 0)) = true := c7; (try (have c7b1 : decide (((rd_T57 l0 x5_1).f1) = ((Int.tmod (wrap64 (x1_1 + 1)) 3) == 0)) = false := by simpa using c7)); (try (have c7b2 : (((rd_T57 l0 x5_1).f1) == ((Int.tmod (wrap64 (x1_1 + 1)) 3) == 0)) = false := by simpa using c7)); (try (have c7b3 : ¬ (((rd_T57 l0 x5_1).f1) = ((Int.tmod (wrap64 (x1_1 + 1)) 3) == 0)) := by simpa using c7)); clear c7; obtain rfl := Option.some.inj H
       try go_wp2
       have n0_ := qO (qbD HB.out); clear HB; have HB := n0_; clear n0_; have p101 : 0 ≤ (x5_1 : Int) := qT qa5; have q101 : x5_1 < (l0.length : Int) := qT qa5; obtain ⟨ad101, e101, hx101_0, hx101_1⟩ := at_T57 HR0.out x5_1 p101 q101; have hw101_1 := hx101_1; have hw101_0 := hx101_0
       cases e101
       replace hx101_0 := (HB.out.cell (qL w _ hx101_0)).trans hx101_0; replace hx101_1 := (HB.out.cell (qL w _ hx101_1)).trans hx101_1; replace p101 := eq_true p101; replace q101 := eq_true q101; refine start_ (n := 8) (S := fun w' => w'.cell? (ad101.add ((x5_1).toNat * 2)) = some (.string ((rd_T57 l0 x5_1).f0)) ∧ w'.cell? ⟨(ad101.add ((x5_1).toNat * 2)).block, (ad101.add ((x5_1).toNat * 2)).off + 1, none⟩ = some (.bool ((rd_T57 l0 x5_1).f1))) (ds := []) laws_heldArgDefS.y0 qa17 rfl rfl ⟨((HB.out.cell (qL w _ hw101_0)).trans hw101_0), ((HB.out.cell (qL w _ hw101_1)).trans hw101_1)⟩ (fun hHeld => ?_); refine with_tabW laws_heldArgDefS.tab4 laws_heldArgDefS.bits4 (fun HT_ HW_ => ?_); generalize wr.drew = w8 at HB hx101_0 hx101_1 hHeld ⊢; refine pure_ (i := 0) (N := some 12) (v := ?_) (a' := ?_) laws_heldArgDefS.y1 rfl rfl (any_of HT_.out qa17) (fun _ _ _ h => h) (Or.inl ⟨by rfl, ?_⟩) ?_ ?_; rotate_left; exact qa22; rotate_left; exact qa12; refine pure_ (i := 1) (N := some 13) (v := ?_) (a' := ?_) laws_heldArgDefS.y2 rfl rfl (any_of HT_.out qa17) (fun _ _ _ h => h) (Or.inl ⟨by rfl, ?_⟩) ?_ ?_; rotate_left; exact qa22; rotate_left; exact qa12; refine pure_ (i := 2) (N := some 14) (v := ?_) (a' := ?_) laws_heldArgDefS.y3 rfl rfl (any_of HT_.out qa17) (fun _ _ _ h => h) (Or.inl ⟨by rfl, ?_⟩) ?_ ?_; rotate_left; exact qa22; rotate_left; exact qa12; refine pure_ (i := 3) (N := some 15) (v := ?_) (a' := ?_) laws_heldArgDefS.y4 rfl rfl (any_of HT_.out qa17) (fun _ _ _ h => h) (Or.inl ⟨by rfl, ?_⟩) ?_ ?_; rotate_left; exact qa22; rotate_left; exact qa12; refine pure_ (i := 5) (N := some 17) (v := ?_) (a' := ?_) laws_heldArgDefS.y5 rfl rfl (any_of HT_.out qa17) (fun _ _ _ h => h) (Or.inl ⟨by rfl, ?_⟩) ?_ ?_; rotate_left; exact qa22; rotate_left; exact qa12; refine take_ (i := 4) (N := some 16) (v := ?_) (a' := ?_) laws_heldArgDefS.y6 rfl rfl (take_ofW HT_.out HW_.out qa17) (fun _ _ _ h => h) (Or.inl ⟨by rfl, ?_⟩) hHeld ?_ ?_; rotate_left; exact qa105; rotate_left; exact qa12; refine one_ (i := 6) (N := some 18) laws_heldArgDefS.y7 rfl rfl (one_of HT_.out qa17) qa108 (fun K hK => ?_); refine goes_ Try.func68 qa17 rfl #[.int .i64 x1_1] (by rfl) rfl rfl qa1 ?_; (with_reducible refine (laws_markText.calls k1 x1_1 t102 _ A5.out).mono ?_); rintro e w9 ⟨rfl, hb⟩; have hx_ := qHX HB hb qa0; refine ⟨_, rfl, ?_⟩; have n0_ := qO (below_step (below_step HB.out hx_) hb); clear HB; have HB := n0_; clear n0_; clear hx_; (try clear hb); (try clear hb2); (try clear hk); (try clear hi); refine hK.out _ _ ⟨((HB.out.cell (qL w _ hw101_0)).trans hw101_0), ((HB.out.cell (qL w _ hw101_1)).trans hw101_1)⟩ (fun hHeld => ?_); clear hK K; refine norm_ (a' := ?_) ?_ ?_; rotate_left
       ·exact qa33
       refine pure_ (i := 7) (N := some 19) (v := ?_) (a' := ?_) laws_heldArgDefS.y8 rfl rfl (any_of HT_.out qa17) (fun _ _ _ h => h) (Or.inl ⟨by rfl, ?_⟩) ?_ ?_; rotate_left; exact qa22; rotate_left; exact qa12; refine done_ (done_of HT_.out qa17) ?_; have p103 : 0 ≤ (x5_1 : Int) := qT qa5; have q103 : x5_1 < (l0.length : Int) := qT qa5; obtain ⟨ad103, e103, hx103_0, hx103_1⟩ := at_T57 HR0.out x5_1 p103 q103; obtain rfl : ad101 = ad103 := (by injection e103); replace hx103_0 := (HB.out.cell (qL w _ hx103_0)).trans hx103_0; replace hx103_1 := (HB.out.cell (qL w _ hx103_1)).trans hx103_1; replace p103 := eq_true p103; replace q103 := eq_true q103
       try go_wp2
       go_ret
       exact ⟨qa3, qa8⟩
      ·rw [if_neg c7] at H
       have c7b0 : (((rd_T57 l0 x5_1).f1) != ((Int.tmod (wrap64 (x1_1 + 1)) 3) == 0)) = false := by simpa using c7
       (try (have c7b1 : decide (((rd_T57 l0 x5_1).f1) = ((Int.tmod (wrap64 (x1_1 + 1)) 3) == 0)) = true := by simpa using c7)); (try (have c7b2 : (((rd_T57 l0 x5_1).f1) == ((Int.tmod (wrap64 (x1_1 + 1)) 3) == 0)) = true := by simpa using c7)); clear c7; have H' := qO H; clear H
       try go_wp2
       have n0_ := qO (qbD HB.out); clear HB; have HB := n0_; clear n0_; have p101 : 0 ≤ (x5_1 : Int) := qT qa5; have q101 : x5_1 < (l0.length : Int) := qT qa5; obtain ⟨ad101, e101, hx101_0, hx101_1⟩ := at_T57 HR0.out x5_1 p101 q101; have hw101_1 := hx101_1; have hw101_0 := hx101_0
       cases e101
       replace hx101_0 := (HB.out.cell (qL w _ hx101_0)).trans hx101_0; replace hx101_1 := (HB.out.cell (qL w _ hx101_1)).trans hx101_1; replace p101 := eq_true p101; replace q101 := eq_true q101; refine start_ (n := 8) (S := fun w' => w'.cell? (ad101.add ((x5_1).toNat * 2)) = some (.string ((rd_T57 l0 x5_1).f0)) ∧ w'.cell? ⟨(ad101.add ((x5_1).toNat * 2)).block, (ad101.add ((x5_1).toNat * 2)).off + 1, none⟩ = some (.bool ((rd_T57 l0 x5_1).f1))) (ds := []) laws_heldArgDefS.y0 qa17 rfl rfl ⟨((HB.out.cell (qL w _ hw101_0)).trans hw101_0), ((HB.out.cell (qL w _ hw101_1)).trans hw101_1)⟩ (fun hHeld => ?_); refine with_tabW laws_heldArgDefS.tab4 laws_heldArgDefS.bits4 (fun HT_ HW_ => ?_); generalize wr.drew = w10 at HB hx101_0 hx101_1 hHeld ⊢; refine pure_ (i := 0) (N := some 12) (v := ?_) (a' := ?_) laws_heldArgDefS.y1 rfl rfl (any_of HT_.out qa17) (fun _ _ _ h => h) (Or.inl ⟨by rfl, ?_⟩) ?_ ?_; rotate_left; exact qa22; rotate_left; exact qa12; refine pure_ (i := 1) (N := some 13) (v := ?_) (a' := ?_) laws_heldArgDefS.y2 rfl rfl (any_of HT_.out qa17) (fun _ _ _ h => h) (Or.inl ⟨by rfl, ?_⟩) ?_ ?_; rotate_left; exact qa22; rotate_left; exact qa12; refine pure_ (i := 2) (N := some 14) (v := ?_) (a' := ?_) laws_heldArgDefS.y3 rfl rfl (any_of HT_.out qa17) (fun _ _ _ h => h) (Or.inl ⟨by rfl, ?_⟩) ?_ ?_; rotate_left; exact qa22; rotate_left; exact qa12; refine pure_ (i := 3) (N := some 15) (v := ?_) (a' := ?_) laws_heldArgDefS.y4 rfl rfl (any_of HT_.out qa17) (fun _ _ _ h => h) (Or.inl ⟨by rfl, ?_⟩) ?_ ?_; rotate_left; exact qa22; rotate_left; exact qa12; refine pure_ (i := 5) (N := some 17) (v := ?_) (a' := ?_) laws_heldArgDefS.y5 rfl rfl (any_of HT_.out qa17) (fun _ _ _ h => h) (Or.inl ⟨by rfl, ?_⟩) ?_ ?_; rotate_left; exact qa22; rotate_left; exact qa12; refine take_ (i := 4) (N := some 16) (v := ?_) (a' := ?_) laws_heldArgDefS.y6 rfl rfl (take_ofW HT_.out HW_.out qa17) (fun _ _ _ h => h) (Or.inl ⟨by rfl, ?_⟩) hHeld ?_ ?_; rotate_left; exact qa105; rotate_left; exact qa12; refine one_ (i := 6) (N := some 18) laws_heldArgDefS.y7 rfl rfl (one_of HT_.out qa17) qa108 (fun K hK => ?_); refine goes_ Try.func68 qa17 rfl #[.int .i64 x1_1] (by rfl) rfl rfl qa1 ?_; (with_reducible refine (laws_markText.calls k1 x1_1 t102 _ A5.out).mono ?_); rintro e w11 ⟨rfl, hb⟩; have hx_ := qHX HB hb qa0; refine ⟨_, rfl, ?_⟩; have n0_ := qO (below_step (below_step HB.out hx_) hb); clear HB; have HB := n0_; clear n0_; clear hx_; (try clear hb); (try clear hb2); (try clear hk); (try clear hi); refine hK.out _ _ ⟨((HB.out.cell (qL w _ hw101_0)).trans hw101_0), ((HB.out.cell (qL w _ hw101_1)).trans hw101_1)⟩ (fun hHeld => ?_); clear hK K; refine norm_ (a' := ?_) ?_ ?_; rotate_left
       ·exact qa33
       refine pure_ (i := 7) (N := some 19) (v := ?_) (a' := ?_) laws_heldArgDefS.y8 rfl rfl (any_of HT_.out qa17) (fun _ _ _ h => h) (Or.inl ⟨by rfl, ?_⟩) ?_ ?_; rotate_left; exact qa22; rotate_left; exact qa12; refine done_ (done_of HT_.out qa17) ?_; have p103 : 0 ≤ (x5_1 : Int) := qT qa5; have q103 : x5_1 < (l0.length : Int) := qT qa5; obtain ⟨ad103, e103, hx103_0, hx103_1⟩ := at_T57 HR0.out x5_1 p103 q103; obtain rfl : ad101 = ad103 := (by injection e103); replace hx103_0 := (HB.out.cell (qL w _ hx103_0)).trans hx103_0; replace hx103_1 := (HB.out.cell (qL w _ hx103_1)).trans hx103_1; replace p103 := eq_true p103; replace q103 := eq_true q103
       try go_wp2
       go_roundg k1
       case measure => have := HK1.out; omega
       case rel => exact ⟨(wrap64 ((wrap64 (x1_1 + 1)) + 1)), (wrap64 (x5_1 + 1)), qa11, qa11, H', ⟨qa87⟩, ⟨qa8⟩⟩
     ·rw [if_neg c6] at H
      have c6b0 : (((rd_T57 l0 x5_1).f0).toList == t102.toList) = false := beq_eq_false_iff_ne.mpr c6; have c6b1 : (((rd_T57 l0 x5_1).f0).toList != t102.toList) = true := bne_iff_ne.mpr c6; obtain rfl := Option.some.inj H
      try go_wp2
      have n0_ := qO (qbD HB.out); clear HB; have HB := n0_; clear n0_; have p101 : 0 ≤ (x5_1 : Int) := qT qa5; have q101 : x5_1 < (l0.length : Int) := qT qa5; obtain ⟨ad101, e101, hx101_0, hx101_1⟩ := at_T57 HR0.out x5_1 p101 q101; have hw101_1 := hx101_1; have hw101_0 := hx101_0
      cases e101
      replace hx101_0 := (HB.out.cell (qL w _ hx101_0)).trans hx101_0; replace hx101_1 := (HB.out.cell (qL w _ hx101_1)).trans hx101_1; replace p101 := eq_true p101; replace q101 := eq_true q101; refine start_ (n := 8) (S := fun w' => w'.cell? (ad101.add ((x5_1).toNat * 2)) = some (.string ((rd_T57 l0 x5_1).f0)) ∧ w'.cell? ⟨(ad101.add ((x5_1).toNat * 2)).block, (ad101.add ((x5_1).toNat * 2)).off + 1, none⟩ = some (.bool ((rd_T57 l0 x5_1).f1))) (ds := []) laws_heldArgDefS.y0 qa17 rfl rfl ⟨((HB.out.cell (qL w _ hw101_0)).trans hw101_0), ((HB.out.cell (qL w _ hw101_1)).trans hw101_1)⟩ (fun hHeld => ?_); refine with_tabW laws_heldArgDefS.tab4 laws_heldArgDefS.bits4 (fun HT_ HW_ => ?_); generalize wr.drew = w12 at HB hx101_0 hx101_1 hHeld ⊢; refine pure_ (i := 0) (N := some 12) (v := ?_) (a' := ?_) laws_heldArgDefS.y1 rfl rfl (any_of HT_.out qa17) (fun _ _ _ h => h) (Or.inl ⟨by rfl, ?_⟩) ?_ ?_; rotate_left; exact qa22; rotate_left; exact qa12; refine pure_ (i := 1) (N := some 13) (v := ?_) (a' := ?_) laws_heldArgDefS.y2 rfl rfl (any_of HT_.out qa17) (fun _ _ _ h => h) (Or.inl ⟨by rfl, ?_⟩) ?_ ?_; rotate_left; exact qa22; rotate_left; exact qa12; refine pure_ (i := 2) (N := some 14) (v := ?_) (a' := ?_) laws_heldArgDefS.y3 rfl rfl (any_of HT_.out qa17) (fun _ _ _ h => h) (Or.inl ⟨by rfl, ?_⟩) ?_ ?_; rotate_left; exact qa22; rotate_left; exact qa12; refine pure_ (i := 3) (N := some 15) (v := ?_) (a' := ?_) laws_heldArgDefS.y4 rfl rfl (any_of HT_.out qa17) (fun _ _ _ h => h) (Or.inl ⟨by rfl, ?_⟩) ?_ ?_; rotate_left; exact qa22; rotate_left; exact qa12; refine pure_ (i := 5) (N := some 17) (v := ?_) (a' := ?_) laws_heldArgDefS.y5 rfl rfl (any_of HT_.out qa17) (fun _ _ _ h => h) (Or.inl ⟨by rfl, ?_⟩) ?_ ?_; rotate_left; exact qa22; rotate_left; exact qa12; refine take_ (i := 4) (N := some 16) (v := ?_) (a' := ?_) laws_heldArgDefS.y6 rfl rfl (take_ofW HT_.out HW_.out qa17) (fun _ _ _ h => h) (Or.inl ⟨by rfl, ?_⟩) hHeld ?_ ?_; rotate_left; exact qa105; rotate_left; exact qa12; refine one_ (i := 6) (N := some 18) laws_heldArgDefS.y7 rfl rfl (one_of HT_.out qa17) qa108 (fun K hK => ?_); refine goes_ Try.func68 qa17 rfl #[.int .i64 x1_1] (by rfl) rfl rfl qa1 ?_; (with_reducible refine (laws_markText.calls k1 x1_1 t102 _ A5.out).mono ?_); rintro e w13 ⟨rfl, hb⟩; have hx_ := qHX HB hb qa0; refine ⟨_, rfl, ?_⟩; have n0_ := qO (below_step (below_step HB.out hx_) hb); clear HB; have HB := n0_; clear n0_; clear hx_; (try clear hb); (try clear hb2); (try clear hk); (try clear hi); refine hK.out _ _ ⟨((HB.out.cell (qL w _ hw101_0)).trans hw101_0), ((HB.out.cell (qL w _ hw101_1)).trans hw101_1)⟩ (fun hHeld => ?_); clear hK K; refine norm_ (a' := ?_) ?_ ?_; rotate_left
      ·exact qa33
      refine pure_ (i := 7) (N := some 19) (v := ?_) (a' := ?_) laws_heldArgDefS.y8 rfl rfl (any_of HT_.out qa17) (fun _ _ _ h => h) (Or.inl ⟨by rfl, ?_⟩) ?_ ?_; rotate_left; exact qa22; rotate_left; exact qa12; refine done_ (done_of HT_.out qa17) ?_
      try go_wp2
      go_ret
      exact ⟨qa3, qa8⟩
    ·rw [if_neg c4] at H
     exact absurd H qa91
   ·rw [if_neg c3] at H
    have c3b0 : decide (x5_1 < (l0.length : Int)) = false := decide_eq_false c3; clear c3; obtain rfl := Option.some.inj H; go_wp2
    go_ret
    exact ⟨qa3, qa8⟩


def laws_heldFieldDef.f (k : Nat) (a0_0 : ByteArray) (l0_1 : List (S57)) (a0_2 : ByteArray) (a0_3 : Bool) (a0_4 : Bool) (a1 : Int) : Option (Int) := (laws_heldArgDefS.f k l0_1 a1).bind fun t102 => (if t102 < 0 then (some (-1)) else (some t102))
set_option maxHeartbeats 8000000 in
set_option maxRecDepth 100000 in
theorem laws_heldFieldDef.calls (k : Nat) (a0_0 : ByteArray) (A0_1 : Option Addr) (c0_1 : Nat) (l0_1 : List (S57)) (a0_2 : ByteArray) (a0_3 : Bool) (a0_4 : Bool) (a1 : Int) (r : Int) (w : World) (hr0_1 : Kd.C k57 w A0_1 l0_1.length l0_1) (hc0_1 : l0_1.length ≤ c0_1) (h : laws_heldFieldDef.f k a0_0 l0_1 a0_2 a0_3 a0_4 a1 = some r) :
  Calls Try.prog 20 #[.agg #[.string a0_0, .slice A0_1 l0_1.length c0_1, .string a0_2, .bool a0_3, .bool a0_4], .int .i64 a1] w fun e w' => e = .returned (.int .i64 r) ∧ Below w.heap.size w w' := by
 have hu38 := Try.underlying38; have HR0_1 := qO hr0_1; have HC0_1 := qO hc0_1; clear hr0_1 hc0_1; have HB := qO (Below.refl w.heap.size w); have H : ((laws_heldArgDefS.f k l0_1 a1).bind fun t102 => (if t102 < 0 then (some (-1)) else (some t102))) = some r := h; clear h; replace H := Option.bind_eq_some_iff.mp H; obtain ⟨t102, A30, H⟩ := H; replace H : (if t102 < 0 then (some (-1)) else (some t102)) = some r := H; have A3 := qO A30; clear A30
 by_cases c4 : t102 < 0
 ·rw [if_pos c4] at H
  have c4b0 : decide (t102 < 0) = true := decide_eq_true c4; clear c4; obtain rfl := Option.some.inj H
  go_enter Try.func20, Try.ntmps20
  go_wp2_with (first | ((with_reducible refine gate_dst (N := 2) rfl ?_); refine box_event ?hg (N := 2) ?hd (cs := #[.string a0_0, .slice A0_1 l0_1.length c0_1, .string a0_2, .bool a0_3, .bool a0_4]) (t := 38) ?hr ?_; (case hd => rfl); (case hg => rfl); (case hr => exact qa18); intro gb101 hg w5 hbox hb; have hx_ := qHX HB hb qa0; have n0_ := qO (below_step (below_step HB.out hx_) hb); have n1_ := qO (hbox); have n2_ := qO ((qa15 : w.heap.size ≤ gb101)); have n3_ := n2_; clear HB; have HB := n0_; have BK101 := n1_; have GW101 := n2_; have GE101 := n3_; clear n0_ n1_ n2_ n3_; clear hx_; clear hb hbox hg; have hcz6_0 : w5.cell? ⟨gb101, 0, none⟩ = some (.string a0_0) := (blk_cell BK101.out 0).trans rfl; have hcz6_1 : w5.cell? ⟨gb101, 1, none⟩ = some (.slice A0_1 l0_1.length c0_1) := (blk_cell BK101.out 1).trans rfl; have hcz6_2 : w5.cell? ⟨gb101, 2, none⟩ = some (.string a0_2) := (blk_cell BK101.out 2).trans rfl; have hcz6_3 : w5.cell? ⟨gb101, 3, none⟩ = some (.bool a0_3) := (blk_cell BK101.out 3).trans rfl; have hcz6_4 : w5.cell? ⟨gb101, 4, none⟩ = some (.bool a0_4) := (blk_cell BK101.out 4).trans rfl; have hfz6_0 := blk_frozen BK101.out 0; have hfz6_1 := blk_frozen BK101.out 1; have hfz6_2 := blk_frozen BK101.out 2; have hfz6_3 := blk_frozen BK101.out 3; have hfz6_4 := blk_frozen BK101.out 4) | ((with_reducible refine gate_callee (f := 44) rfl ?_); refine goesL_ (some 8) rfl rfl Try.func44 qa17 rfl #[.slice A0_1 l0_1.length c0_1, .int .i64 a1] rfl qa1 ?_; (with_reducible refine (laws_heldArgDefS.calls k _ _ l0_1 a1 t102 _ ?side1 ?side2 A3.out).mono ?_); (case side1 => exact qa25); (case side2 => exact HC0_1.out); rintro e w7 ⟨rfl, hb⟩; have hx_ := qHX HB hb qa0; refine ⟨_, rfl, ?_⟩; have n0_ := qO (qB BK101.out hx_ hb); have n1_ := qO (below_step (below_step HB.out hx_) hb); clear BK101; clear HB; have BK101 := n0_; have HB := n1_; clear n0_ n1_; clear hx_; (try clear hb); (try clear hb2); (try clear hk); (try clear hi)))
  go_ret
  exact ⟨qa3, qa6⟩
 ·rw [if_neg c4] at H
  have c4b0 : decide (t102 < 0) = false := decide_eq_false c4; clear c4; obtain rfl := Option.some.inj H
  go_enter Try.func20, Try.ntmps20
  go_wp2_with (first | ((with_reducible refine gate_dst (N := 2) rfl ?_); refine box_event ?hg (N := 2) ?hd (cs := #[.string a0_0, .slice A0_1 l0_1.length c0_1, .string a0_2, .bool a0_3, .bool a0_4]) (t := 38) ?hr ?_; (case hd => rfl); (case hg => rfl); (case hr => exact qa18); intro gb101 hg w8 hbox hb; have hx_ := qHX HB hb qa0; have n0_ := qO (below_step (below_step HB.out hx_) hb); have n1_ := qO (hbox); have n2_ := qO ((qa15 : w.heap.size ≤ gb101)); have n3_ := n2_; clear HB; have HB := n0_; have BK101 := n1_; have GW101 := n2_; have GE101 := n3_; clear n0_ n1_ n2_ n3_; clear hx_; clear hb hbox hg; have hcz9_0 : w8.cell? ⟨gb101, 0, none⟩ = some (.string a0_0) := (blk_cell BK101.out 0).trans rfl; have hcz9_1 : w8.cell? ⟨gb101, 1, none⟩ = some (.slice A0_1 l0_1.length c0_1) := (blk_cell BK101.out 1).trans rfl; have hcz9_2 : w8.cell? ⟨gb101, 2, none⟩ = some (.string a0_2) := (blk_cell BK101.out 2).trans rfl; have hcz9_3 : w8.cell? ⟨gb101, 3, none⟩ = some (.bool a0_3) := (blk_cell BK101.out 3).trans rfl; have hcz9_4 : w8.cell? ⟨gb101, 4, none⟩ = some (.bool a0_4) := (blk_cell BK101.out 4).trans rfl; have hfz9_0 := blk_frozen BK101.out 0; have hfz9_1 := blk_frozen BK101.out 1; have hfz9_2 := blk_frozen BK101.out 2; have hfz9_3 := blk_frozen BK101.out 3; have hfz9_4 := blk_frozen BK101.out 4) | ((with_reducible refine gate_callee (f := 44) rfl ?_); refine goesL_ (some 8) rfl rfl Try.func44 qa17 rfl #[.slice A0_1 l0_1.length c0_1, .int .i64 a1] rfl qa1 ?_; (with_reducible refine (laws_heldArgDefS.calls k _ _ l0_1 a1 t102 _ ?side1 ?side2 A3.out).mono ?_); (case side1 => exact qa25); (case side2 => exact HC0_1.out); rintro e w10 ⟨rfl, hb⟩; have hx_ := qHX HB hb qa0; refine ⟨_, rfl, ?_⟩; have n0_ := qO (qB BK101.out hx_ hb); have n1_ := qO (below_step (below_step HB.out hx_) hb); clear BK101; clear HB; have BK101 := n0_; have HB := n1_; clear n0_ n1_; clear hx_; (try clear hb); (try clear hb2); (try clear hk); (try clear hi)))
  go_ret
  exact ⟨qa3, qa6⟩

end Go.Proofs.Ytoogmlghfljeiaa.Q
