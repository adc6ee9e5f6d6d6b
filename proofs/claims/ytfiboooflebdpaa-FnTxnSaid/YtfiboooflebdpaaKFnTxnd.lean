/- Texts of the claim on FnTxn, gathered by a program of this session: what the program's functions compute (proved by walks), and the plain part. -/
import Derived.Test.YtfiboooflebdpaaKFnTxnc
namespace Go.Proofs.Ytfiboooflebdpaa.Q
open Go.RowKit Go.Proofs.YtfiboooflebdpaaW.PrintWords Go.Proofs.YtfiboooflebdpaaW.PrintLast Go.Proofs.YtfiboooflebdpaaW.PrintMore
attribute [local go_sem] max2_int min2_int max_two min_two max_three min_three max_four min_four
set_option linter.unusedVariables false
set_option linter.unusedSimpArgs false
set_option maxHeartbeats 8000000
set_option maxRecDepth 100000
def impl_ReadAt.f (k : Nat) (l0_0 : List (List (S43))) (a0_1 : Int) (a1 : Int) (a2 : Int) : Option (Int × Int) := (impl_StoreOK.f k l0_0 a0_1).bind fun t102 => (if t102 = true then ((impl_isKey.f a1).bind fun t103 => (if t103 = true then ((impl_Store_isHour.f l0_0 a0_1 a2).bind fun t104 => (if t104 = true then ((impl_Store_readAt.f l0_0 a0_1 a1 a2).bind fun t105 => (some (t105, 0))) else (some (0, 4)))) else (some (0, 4)))) else (some (0, 1)))
theorem impl_ReadAt.calls (k : Nat) (A0_0 : Option Addr) (c0_0 : Nat) (l0_0 : List (List (S43))) (a0_1 : Int) (a1 : Int) (a2 : Int) (r1 : Int) (r2 : Int) (w : World) (hr0_0 : Kd.C (Kd.slice 43 k43) w A0_0 l0_0.length l0_0) (hc0_0 : l0_0.length ≤ c0_0) (h : impl_ReadAt.f k l0_0 a0_1 a1 a2 = some (r1, r2)) :
  Calls Try.prog 23 #[.agg #[.slice A0_0 l0_0.length c0_0, .int .i64 a0_1], .int .i64 a1, .int .i64 a2] w fun e w' => e = .returned (.tuple #[.int .i64 r1, .int .i64 r2]) ∧ Below w.heap.size w w' := by
 have hu28 := Try.underlying28; have HR0_0 := qO hr0_0; have HC0_0 := qO hc0_0; clear hr0_0 hc0_0; have HB := qO (Below.refl w.heap.size w); have H : ((impl_StoreOK.f k l0_0 a0_1).bind fun t102 => (if t102 = true then ((impl_isKey.f a1).bind fun t103 => (if t103 = true then ((impl_Store_isHour.f l0_0 a0_1 a2).bind fun t104 => (if t104 = true then ((impl_Store_readAt.f l0_0 a0_1 a1 a2).bind fun t105 => (some (t105, 0))) else (some (0, 4)))) else (some (0, 4)))) else (some (0, 1)))) = some (r1, r2) := h; clear h; replace H := Option.bind_eq_some_iff.mp H; obtain ⟨t102, A40, H⟩ := H; have A4 := qO A40; clear A40
 by_cases c5 : t102 = true
 ·subst c5
  rw [if_pos rfl] at H; replace H := Option.bind_eq_some_iff.mp H; obtain ⟨t103, A60, H⟩ := H; have A6 := qO A60; clear A60
  by_cases c7 : t103 = true
  ·subst c7
   rw [if_pos rfl] at H; replace H := Option.bind_eq_some_iff.mp H; obtain ⟨t104, A80, H⟩ := H; have A8 := qO A80; clear A80
   by_cases c9 : t104 = true
   ·subst c9
    rw [if_pos rfl] at H; replace H := Option.bind_eq_some_iff.mp H; obtain ⟨t105, A100, H⟩ := H; have A10 := qO A100; clear A100; simp only [Option.some.injEq, Prod.mk.injEq] at H; obtain ⟨rfl, rfl⟩ := H
    go_enter Try.func23, Try.ntmps23
    go_wp2_with (first | ((with_reducible refine gate_dst (N := 3) rfl ?_); refine qX 3 #[.slice A0_0 l0_0.length c0_0, .int .i64 a0_1] 28 ?_; intro gb101 hg w11 hbox hb; have hx_ := qHX HB hb qa0; have BK101 := qO (hbox); have GW101 := qO ((qa3 : w.heap.size ≤ gb101)); have GE101 := GW101; replace HB := qO (below_step (below_step HB.out hx_) hb); clear hx_ hb hbox hg; obtain ⟨hcz12_0, hcz12_1, hfz12_0, hfz12_1⟩ := qb2 BK101.out) | ((with_reducible refine gate_callee (f := 22) rfl ?_); refine qGL 10 Try.func22 #[.agg #[.slice A0_0 l0_0.length c0_0, .int .i64 a0_1]] ?_; (with_reducible refine (impl_StoreOK.calls k _ _ l0_0 a0_1 true _ ?side1 ?side2 A4.out).mono ?_); (case side1 => exact qa42); (case side2 => exact HC0_0.out); rintro e w13 ⟨rfl, hb⟩; have hx_ := qHX HB hb qa0; refine ⟨_, rfl, ?_⟩; replace BK101 := qO (qB BK101.out hx_ hb); replace HB := qO (below_step (below_step HB.out hx_) hb); clear hx_ hb) | ((with_reducible refine gate_callee (f := 67) rfl ?_); refine qGL 14 Try.func67 #[.int .i64 a1] ?_; (with_reducible refine (impl_isKey.calls a1 true _ A6.out).mono ?_); rintro e w' ⟨rfl, ⟨nd, rfl⟩⟩; refine ⟨_, rfl, ?_⟩; obtain ⟨hcz14_0, hcz14_1, hfz14_0, hfz14_1⟩ := qb2 BK101.out) | (go_at_call 57; (with_reducible refine (impl_Store_isHour.calls _ _ l0_0 a0_1 a2 true _ ?side1 ?side2 A8.out).mono ?_); (case side1 => exact qkC (Kd.C_below HR0_0.out (qH HB.out))); (case side2 => exact HC0_0.out); rintro e w15 ⟨rfl, hb⟩; have hx_ := qHX HB hb qa0; replace BK101 := qO (qB BK101.out hx_ hb); replace HB := qO (below_step (below_step HB.out hx_) hb); clear hx_ hb; obtain ⟨hcz16_0, hcz16_1, hfz16_0, hfz16_1⟩ := qb2 BK101.out) | ((with_reducible refine gate_callee (f := 68) rfl ?_); refine qGL 25 Try.func68 #[.agg #[.slice A0_0 l0_0.length c0_0, .int .i64 a0_1], .int .i64 a1, .int .i64 a2] ?_; (with_reducible refine (impl_Store_readAt.calls _ _ l0_0 a0_1 a1 a2 t105 _ ?side1 ?side2 A10.out).mono ?_); (case side1 => exact qa42); (case side2 => exact HC0_0.out); rintro e w17 ⟨rfl, hb⟩; have hx_ := qHX HB hb qa0; refine ⟨_, rfl, ?_⟩; replace BK101 := qO (qB BK101.out hx_ hb); replace HB := qO (below_step (below_step HB.out hx_) hb); clear hx_ hb))
    go_ret2
    exact ⟨qa2, qH HB.out⟩
   ·replace c9 := Bool.eq_false_iff.mpr c9
    subst c9; rw [qfn] at H; simp only [Option.some.injEq, Prod.mk.injEq] at H; obtain ⟨rfl, rfl⟩ := H
    go_enter Try.func23, Try.ntmps23
    go_wp2_with (first | ((with_reducible refine gate_dst (N := 3) rfl ?_); refine qX 3 #[.slice A0_0 l0_0.length c0_0, .int .i64 a0_1] 28 ?_; intro gb101 hg w18 hbox hb; have hx_ := qHX HB hb qa0; have BK101 := qO (hbox); have GW101 := qO ((qa3 : w.heap.size ≤ gb101)); have GE101 := GW101; replace HB := qO (below_step (below_step HB.out hx_) hb); clear hx_ hb hbox hg; obtain ⟨hcz19_0, hcz19_1, hfz19_0, hfz19_1⟩ := qb2 BK101.out) | ((with_reducible refine gate_callee (f := 22) rfl ?_); refine qGL 10 Try.func22 #[.agg #[.slice A0_0 l0_0.length c0_0, .int .i64 a0_1]] ?_; (with_reducible refine (impl_StoreOK.calls k _ _ l0_0 a0_1 true _ ?side1 ?side2 A4.out).mono ?_); (case side1 => exact qa42); (case side2 => exact HC0_0.out); rintro e w20 ⟨rfl, hb⟩; have hx_ := qHX HB hb qa0; refine ⟨_, rfl, ?_⟩; replace BK101 := qO (qB BK101.out hx_ hb); replace HB := qO (below_step (below_step HB.out hx_) hb); clear hx_ hb) | ((with_reducible refine gate_callee (f := 67) rfl ?_); refine qGL 14 Try.func67 #[.int .i64 a1] ?_; (with_reducible refine (impl_isKey.calls a1 true _ A6.out).mono ?_); rintro e w' ⟨rfl, ⟨nd, rfl⟩⟩; refine ⟨_, rfl, ?_⟩; obtain ⟨hcz21_0, hcz21_1, hfz21_0, hfz21_1⟩ := qb2 BK101.out) | (go_at_call 57; (with_reducible refine (impl_Store_isHour.calls _ _ l0_0 a0_1 a2 false _ ?side1 ?side2 A8.out).mono ?_); (case side1 => exact qkC (Kd.C_below HR0_0.out (qH HB.out))); (case side2 => exact HC0_0.out); rintro e w22 ⟨rfl, hb⟩; have hx_ := qHX HB hb qa0; replace BK101 := qO (qB BK101.out hx_ hb); replace HB := qO (below_step (below_step HB.out hx_) hb); clear hx_ hb))
    go_ret2
    exact ⟨qa2, qH HB.out⟩
  ·replace c7 := Bool.eq_false_iff.mpr c7
   subst c7; rw [qfn] at H; simp only [Option.some.injEq, Prod.mk.injEq] at H; obtain ⟨rfl, rfl⟩ := H
   go_enter Try.func23, Try.ntmps23
   go_wp2_with (first | ((with_reducible refine gate_dst (N := 3) rfl ?_); refine qX 3 #[.slice A0_0 l0_0.length c0_0, .int .i64 a0_1] 28 ?_; intro gb101 hg w23 hbox hb; have hx_ := qHX HB hb qa0; have BK101 := qO (hbox); have GW101 := qO ((qa3 : w.heap.size ≤ gb101)); have GE101 := GW101; replace HB := qO (below_step (below_step HB.out hx_) hb); clear hx_ hb hbox hg; obtain ⟨hcz24_0, hcz24_1, hfz24_0, hfz24_1⟩ := qb2 BK101.out) | ((with_reducible refine gate_callee (f := 22) rfl ?_); refine qGL 10 Try.func22 #[.agg #[.slice A0_0 l0_0.length c0_0, .int .i64 a0_1]] ?_; (with_reducible refine (impl_StoreOK.calls k _ _ l0_0 a0_1 true _ ?side1 ?side2 A4.out).mono ?_); (case side1 => exact qa42); (case side2 => exact HC0_0.out); rintro e w25 ⟨rfl, hb⟩; have hx_ := qHX HB hb qa0; refine ⟨_, rfl, ?_⟩; replace BK101 := qO (qB BK101.out hx_ hb); replace HB := qO (below_step (below_step HB.out hx_) hb); clear hx_ hb) | ((with_reducible refine gate_callee (f := 67) rfl ?_); refine qGL 14 Try.func67 #[.int .i64 a1] ?_; (with_reducible refine (impl_isKey.calls a1 false _ A6.out).mono ?_); rintro e w' ⟨rfl, ⟨nd, rfl⟩⟩; refine ⟨_, rfl, ?_⟩))
   go_ret2
   exact ⟨qa2, qH HB.out⟩
 ·replace c5 := Bool.eq_false_iff.mpr c5
  subst c5; rw [qfn] at H; simp only [Option.some.injEq, Prod.mk.injEq] at H; obtain ⟨rfl, rfl⟩ := H
  go_enter Try.func23, Try.ntmps23
  go_wp2_with (first | ((with_reducible refine gate_dst (N := 3) rfl ?_); refine qX 3 #[.slice A0_0 l0_0.length c0_0, .int .i64 a0_1] 28 ?_; intro gb101 hg w26 hbox hb; have hx_ := qHX HB hb qa0; have BK101 := qO (hbox); have GW101 := qO ((qa3 : w.heap.size ≤ gb101)); have GE101 := GW101; replace HB := qO (below_step (below_step HB.out hx_) hb); clear hx_ hb hbox hg; obtain ⟨hcz27_0, hcz27_1, hfz27_0, hfz27_1⟩ := qb2 BK101.out) | ((with_reducible refine gate_callee (f := 22) rfl ?_); refine qGL 10 Try.func22 #[.agg #[.slice A0_0 l0_0.length c0_0, .int .i64 a0_1]] ?_; (with_reducible refine (impl_StoreOK.calls k _ _ l0_0 a0_1 false _ ?side1 ?side2 A4.out).mono ?_); (case side1 => exact qa42); (case side2 => exact HC0_0.out); rintro e w28 ⟨rfl, hb⟩; have hx_ := qHX HB hb qa0; refine ⟨_, rfl, ?_⟩; replace BK101 := qO (qB BK101.out hx_ hb); replace HB := qO (below_step (below_step HB.out hx_) hb); clear hx_ hb))
  go_ret2
  exact ⟨qa2, qH HB.out⟩

def spec_PutsOf.f (k : Nat) (l0 : List Int) : Option ((List (S58))) := (spec_l00Source.f l0).bind fun bt101 => ((spec_l00Src_puts.f k bt101.1 bt101.2.1 bt101.2.2).bind fun bt105 => (some bt105.1))
set_option maxHeartbeats 8000000 in
set_option maxRecDepth 100000 in
theorem spec_PutsOf.calls (k : Nat) (A0 : Option Addr) (c0 : Nat) (l0 : List Int) (r : List (S58)) (w : World) (hr0 : Kd.C (Kd.int .u8) w A0 l0.length l0) (hc0 : l0.length ≤ c0) (h : spec_PutsOf.f k l0 = some r) :
  Calls Try.prog 31 #[.slice A0 l0.length c0] w fun e w' => ∃ v0_ : Value, e = .returned (v0_) ∧ Kd.R k58 58 w' w.heap.size (fun _ => True) v0_ r ∧ Below w.heap.size w w' := by
 have HR0 := Aside0.mk hr0
 have HC0 := Aside0.mk hc0
 clear hr0 hc0
 have HB := Aside0.mk (Below.refl w.heap.size w)
 have H : ((spec_l00Source.f l0).bind fun bt101 => ((spec_l00Src_puts.f k bt101.1 bt101.2.1 bt101.2.2).bind fun bt105 => (some bt105.1))) = some r := h
 clear h
 replace H := Option.bind_eq_some_iff.mp H
 obtain ⟨⟨t101, t102, t103⟩, A20, H⟩ := H
 replace H : ((spec_l00Src_puts.f k t101 t102 t103).bind fun bt105 => (some bt105.1)) = some r := H
 have A2 := Aside0.mk A20
 clear A20
 replace H := Option.bind_eq_some_iff.mp H
 obtain ⟨⟨t105, t108, t109⟩, A30, H⟩ := H
 replace H : (some t105) = some r := H
 have A3 := Aside0.mk A30
 clear A30
 obtain rfl := Option.some.inj H
 go_enter Try.func31, Try.ntmps31
 go_wp2_with (first | ((with_reducible refine gate_callee (f := 62) rfl ?_); refine goesL_ (some 4) rfl rfl Try.func62 (by kernel_rfl) rfl #[.slice A0 l0.length c0] rfl (by (try simp only [List.map_toArray, List.map_cons, List.map_nil]); first | done | rfl | (simp only [List.length_drop, List.length_take]; rfl)) ?_; (with_reducible refine (spec_l00Source.calls _ _ l0 t101 t102 t103 w _ ?side1 ?side2 ?side3 A2.out).mono ?_); (case side1 => repeat (first | (with_reducible first | exact HB.out | apply below_alloc | apply pw_below_drewN | apply below_drew1) | exact HB.out)); (case side2 => exact HR0.out); (case side3 => exact HC0.out); rintro e w4 ⟨g104, rfl, hi, hb, hb2⟩; refine ⟨_, rfl, ?_⟩; have HI104 := Aside0.mk (hi); replace HB := Aside0.mk (hb); (try clear hb); (try clear hb2); (try clear hk); (try clear hi)) | ((with_reducible refine gate_callee (f := 78) rfl ?_); refine goesL_ (some 5) rfl rfl Try.func78 (by kernel_rfl) rfl #[.pointer (some ⟨g104, 0, none⟩)] rfl (by (try simp only [List.map_toArray, List.map_cons, List.map_nil]); first | done | rfl | (simp only [List.length_drop, List.length_take]; rfl)) ?_; (with_reducible refine (spec_l00Src_puts.calls k g104 t101 t102 t103 t105 t108 t109 w _ ?side1 ?side2 A3.out).mono ?_); (case side1 => repeat (first | (with_reducible first | exact HI104.out | apply IsS128.alloc | apply IsS128.drewN | apply IsS128.drew | apply IsS128.set_1 | apply IsS128.set_2) | exact HI104.out)); (case side2 => repeat (first | (with_reducible first | exact HB.out | apply below_alloc | apply pw_below_drewN | apply below_drew1 | refine below_set ?_ (IsS128.ge HI104.out)) | exact HB.out)); rintro e w5 ⟨v106, rfl, ho0, hi, hb, hk⟩; refine ⟨_, rfl, ?_⟩; have HO107 := Aside0.mk (Kd.R_lower ho0 (below_size (by repeat (first | (with_reducible first | exact HB.out | apply below_alloc | apply pw_below_drewN | apply below_drew1 | refine below_set ?_ (IsS128.ge HI104.out)) | exact HB.out)))); replace HB := Aside0.mk (hb); replace HI104 := Aside0.mk (hi); (try clear hb); (try clear hb2); (try clear hk); (try clear hi); (try clear ho0)))
 go_ret
 exact ⟨_, by first | rfl | (simp [errW_none, errW_some] <;> rfl) | (simp [*, errW_none, errW_some] <;> rfl), by (with_reducible repeat (first | apply Kd.R_alloc | apply Kd.R_drewN | apply Kd.R_drew)); exact HO107.out, by repeat (first | (with_reducible first | exact HB.out | apply below_alloc | apply pw_below_drewN | apply below_drew1 | refine below_set ?_ (IsS128.ge HI104.out)) | exact HB.out)⟩

set_option maxHeartbeats 8000000
set_option maxRecDepth 100000
def laws_sameInts.l0 : Nat → List Int → List Int → Int → Option (Bool)
 | 0, _, _, _ => none
 | k + 1, x0, x1, x5 => if x5 < (x0.length : Int) then (if 0 ≤ x5 then (if x5 < (x1.length : Int) then (if (rd x0 x5) = (rd x1 x5) then (laws_sameInts.l0 k x0 x1 (wrap64 (x5 + 1))) else (some false)) else (none)) else (none)) else (some true)
def laws_sameInts.f (k : Nat) (l0 : List Int) (l1 : List Int) : Option (Bool) := if (l0.length : Int) = (l1.length : Int) then (laws_sameInts.l0 k l0 l1 0) else (some false)
theorem laws_sameInts.calls (k : Nat) (A0 : Option Addr) (c0 : Nat) (l0 : List Int) (A1 : Option Addr) (c1 : Nat) (l1 : List Int) (r : Bool) (w : World) (hr0 : Kd.C (Kd.int .i64) w A0 l0.length l0) (hc0 : l0.length ≤ c0) (hr1 : Kd.C (Kd.int .i64) w A1 l1.length l1) (hc1 : l1.length ≤ c1) (h : laws_sameInts.f k l0 l1 = some r) :
  Calls Try.prog 35 #[.slice A0 l0.length c0, .slice A1 l1.length c1] w fun e w' => e = .returned (.bool r) ∧ Drawn0 w w' := by
 have HR0 := qO hr0; have HC0 := qO hc0; clear hr0 hc0; have HR1 := qO hr1; have HC1 := qO hc1; clear hr1 hc1; have H : (if (l0.length : Int) = (l1.length : Int) then (laws_sameInts.l0 k l0 l1 0) else (some false)) = some r := h; clear h
 by_cases c3 : (l0.length : Int) = (l1.length : Int)
 ·rw [if_pos c3] at H
  have c3b0 := beq_iff_eq.mpr c3; have c3b1 := bne_eq_false_iff_eq.mpr c3; have c3b2 : (l0.length == l1.length) = true := by first | simpa using c3 | (simp at c3 ⊢; omega)
  clear c3; have H' := qO H; clear H
  go_enter Try.func35, Try.ntmps35
  go_wp2
  repeat (go_quiet (fail); try go_wp2)
  go_loopg [5] k (fun kq v5 w' => ∃ (x5_1 : Int), v5 = .int .i64 x5_1 ∧ Aside0 (laws_sameInts.l0 kq l0 l1 x5_1 = some r) ∧ Aside0 (kq ≤ k) ∧ Drawn0 w w')
  case atStart => exact ⟨(0), qa6, H', ⟨Nat.le_refl _⟩, qa23⟩
  case round =>
   clear H'
   obtain ⟨x5_1, rfl, HA, HK1, ⟨m1, rfl⟩⟩ := hrel
   cases gk with
   | zero => exact absurd HA.out (by simp [laws_sameInts.l0])
   | succ k1 =>
    have H := HA.out; clear HA; simp only [laws_sameInts.l0] at H
    by_cases c4 : x5_1 < (l0.length : Int)
    ·rw [if_pos c4] at H
     have c4b0 := decide_eq_true c4; clear c4
     by_cases c5 : 0 ≤ x5_1
     ·rw [if_pos c5] at H
      have c5b0 := decide_eq_true c5; clear c5
      by_cases c6 : x5_1 < (l1.length : Int)
      ·rw [if_pos c6] at H
       have c6b0 := decide_eq_true c6; clear c6
       by_cases c7 : (rd l0 x5_1) = (rd l1 x5_1)
       ·rw [if_pos c7] at H
        have c7b0 := beq_iff_eq.mpr c7; have c7b1 := bne_eq_false_iff_eq.mpr c7; clear c7; have H' := qO H; clear H; have p101 : 0 ≤ (x5_1 : Int) := qT qa1; have q101 : x5_1 < (l0.length : Int) := qT qa1; obtain ⟨ad101, e101, hx101_0⟩ := Kd.at_int HR0.out x5_1 p101 q101
        cases e101
        replace p101 := eq_true p101; replace q101 := eq_true q101; have p102 : 0 ≤ (x5_1 : Int) := qT qa1; have q102 : x5_1 < (l1.length : Int) := qT qa1; obtain ⟨ad102, e102, hx102_0⟩ := Kd.at_int HR1.out x5_1 p102 q102
        cases e102
        replace p102 := eq_true p102; replace q102 := eq_true q102; go_wp2
        repeat (go_quiet (fail); try go_wp2)
        go_roundg k1
        case measure => have := HK1.out; omega
        case rel => exact ⟨(wrap64 (x5_1 + 1)), qa6, H', ⟨qa72⟩, qa23⟩
       ·rw [if_neg c7] at H
        have c7b0 := beq_eq_false_iff_ne.mpr c7; have c7b1 := bne_iff_ne.mpr c7; obtain rfl := Option.some.inj H; have p101 : 0 ≤ (x5_1 : Int) := qT qa1; have q101 : x5_1 < (l0.length : Int) := qT qa1; obtain ⟨ad101, e101, hx101_0⟩ := Kd.at_int HR0.out x5_1 p101 q101
        cases e101
        replace p101 := eq_true p101; replace q101 := eq_true q101; have p102 : 0 ≤ (x5_1 : Int) := qT qa1; have q102 : x5_1 < (l1.length : Int) := qT qa1; obtain ⟨ad102, e102, hx102_0⟩ := Kd.at_int HR1.out x5_1 p102 q102
        cases e102
        replace p102 := eq_true p102; replace q102 := eq_true q102; go_wp2
        repeat (go_quiet (fail); try go_wp2)
        go_ret
        exact ⟨qa6, qa23⟩
      ·rw [if_neg c6] at H
       exact absurd H qa51
     ·rw [if_neg c5] at H
      exact absurd H qa51
    ·rw [if_neg c4] at H
     have c4b0 := decide_eq_false c4; clear c4; obtain rfl := Option.some.inj H; go_wp2
     repeat (go_quiet (fail); try go_wp2)
     go_ret
     exact ⟨qa6, qa23⟩
 ·rw [if_neg c3] at H
  have c3b0 := beq_eq_false_iff_ne.mpr c3; have c3b1 := bne_iff_ne.mpr c3; have c3b2 : (l0.length == l1.length) = false := by first | simpa using c3 | (simp at c3 ⊢; omega)
  obtain rfl := Option.some.inj H
  go_enter Try.func35, Try.ntmps35
  go_wp2
  repeat (go_quiet (fail); try go_wp2)
  go_ret
  exact ⟨qa6, qa23⟩
set_option maxHeartbeats 8000000
set_option maxRecDepth 100000
def impl_Begin.f (k : Nat) (l0_0 : List (List (S43))) (a0_1 : Int) : Option (Int × List Int × (List (S58)) × Int) := (impl_StoreOK.f k l0_0 a0_1).bind fun t103 => (if t103 = true then (some (a0_1, ([] : List Int), ([] : List (S58)), 0)) else (some (0, ([] : List Int), ([] : List (S58)), 1)))
theorem impl_Begin.calls (k : Nat) (A0_0 : Option Addr) (c0_0 : Nat) (l0_0 : List (List (S43))) (a0_1 : Int) (r1 : Int) (r2 : List Int) (r3 : List (S58)) (r4 : Int) (w : World) (hr0_0 : Kd.C (Kd.slice 43 k43) w A0_0 l0_0.length l0_0) (hc0_0 : l0_0.length ≤ c0_0) (h : impl_Begin.f k l0_0 a0_1 = some (r1, r2, r3, r4)) :
  Calls Try.prog 36 #[.agg #[.slice A0_0 l0_0.length c0_0, .int .i64 a0_1]] w fun e w' => ∃ v1_ v2_ : Value, e = .returned (.tuple #[.agg #[.int .i64 r1, v1_, v2_], .int .i64 r4]) ∧ Kd.R (Kd.int .i64) 3 w' w.heap.size (fun _ => True) v1_ r2 ∧ Kd.R k58 58 w' w.heap.size (fun _ => True) v2_ r3 ∧ Below w.heap.size w w' := by
 have hu28 := Try.underlying28; have hu65 := Try.underlying65; have HR0_0 := qO hr0_0; have HC0_0 := qO hc0_0; clear hr0_0 hc0_0; have HB := qO (Below.refl w.heap.size w); have H : ((impl_StoreOK.f k l0_0 a0_1).bind fun t103 => (if t103 = true then (some (a0_1, ([] : List Int), ([] : List (S58)), 0)) else (some (0, ([] : List Int), ([] : List (S58)), 1)))) = some (r1, r2, r3, r4) := h; clear h; replace H := Option.bind_eq_some_iff.mp H; obtain ⟨t103, A20, H⟩ := H; have A2 := qO A20; clear A20
 by_cases c3 : t103 = true
 ·subst c3
  rw [if_pos rfl] at H; simp only [Option.some.injEq, Prod.mk.injEq] at H; obtain ⟨rfl, rfl, rfl, rfl⟩ := H
  go_enter Try.func36, Try.ntmps36
  go_wp2_with (first | ((with_reducible refine gate_dst (N := 1) rfl ?_); refine qX 1 #[.slice A0_0 l0_0.length c0_0, .int .i64 a0_1] 28 ?_; intro gb101 hg w4 hbox hb; have hx_ := qHX HB hb qa0; have BK101 := qO (hbox); have GW101 := qO ((qa3 : w.heap.size ≤ gb101)); have GE101 := GW101; replace HB := qO (below_step (below_step HB.out hx_) hb); clear hx_ hb hbox hg) | ((with_reducible refine gate_dst (N := 2) rfl ?_); refine qX 2 #[.int .i64 0, .slice none 0 0, .slice none 0 0] 65 ?_; intro gb102 hg w5 hbox hb; have hx_ := qHX HB hb qa0; have BK102 := qO (hbox); have GW102 := qO ((qa3 : w.heap.size ≤ gb102)); have GE102 := GW102; have NB101_102 := qO ((qLt hg (qk BK101.out))); have NB102_101 := qO (Ne.symm NB101_102.out); replace BK101 := qO (qB BK101.out hx_ hb); replace HB := qO (below_step (below_step HB.out hx_) hb); clear hx_ hb hbox hg; have hnb6 := NB101_102.out; have hnc6 := NB102_101.out; obtain ⟨hcz7_0, hcz7_1, hfz7_0, hfz7_1⟩ := qb2 BK101.out) | ((with_reducible refine gate_callee (f := 22) rfl ?_); refine qGL 5 Try.func22 #[.agg #[.slice A0_0 l0_0.length c0_0, .int .i64 a0_1]] ?_; (with_reducible refine (impl_StoreOK.calls k _ _ l0_0 a0_1 true _ ?side1 ?side2 A2.out).mono ?_); (case side1 => exact qa42); (case side2 => exact HC0_0.out); rintro e w8 ⟨rfl, hb⟩; have hx_ := qHX HB hb qa0; refine ⟨_, rfl, ?_⟩; replace BK101 := qO (qB BK101.out hx_ hb); replace BK102 := qO (qB BK102.out hx_ hb); replace HB := qO (below_step (below_step HB.out hx_) hb); clear hx_ hb; obtain ⟨hcz9_0, hcz9_1, hfz9_0, hfz9_1⟩ := qb2 BK101.out; obtain ⟨hcz10_0, hcz10_1, hcz10_2, hfz10_0, hfz10_1, hfz10_2⟩ := qb3 BK102.out))
  refine bodyPost_ret (results_ct rfl _ _ gb102 65 #[.int .i64 a0_1, .slice none 0 0, .slice none 0 0] (0, 0) _ rfl (qU (qU (qU BK102.out))) Try.underlying65 rfl qa18) rfl ?_
  exact ⟨_, _, qa2, qa31, qa31, qH HB.out⟩
 ·replace c3 := Bool.eq_false_iff.mpr c3
  subst c3; rw [qfn] at H; simp only [Option.some.injEq, Prod.mk.injEq] at H; obtain ⟨rfl, rfl, rfl, rfl⟩ := H
  go_enter Try.func36, Try.ntmps36
  go_wp2_with (first | ((with_reducible refine gate_dst (N := 1) rfl ?_); refine qX 1 #[.slice A0_0 l0_0.length c0_0, .int .i64 a0_1] 28 ?_; intro gb101 hg w11 hbox hb; have hx_ := qHX HB hb qa0; have BK101 := qO (hbox); have GW101 := qO ((qa3 : w.heap.size ≤ gb101)); have GE101 := GW101; replace HB := qO (below_step (below_step HB.out hx_) hb); clear hx_ hb hbox hg) | ((with_reducible refine gate_dst (N := 2) rfl ?_); refine qX 2 #[.int .i64 0, .slice none 0 0, .slice none 0 0] 65 ?_; intro gb102 hg w12 hbox hb; have hx_ := qHX HB hb qa0; have BK102 := qO (hbox); have GW102 := qO ((qa3 : w.heap.size ≤ gb102)); have GE102 := GW102; have NB101_102 := qO ((qLt hg (qk BK101.out))); have NB102_101 := qO (Ne.symm NB101_102.out); replace BK101 := qO (qB BK101.out hx_ hb); replace HB := qO (below_step (below_step HB.out hx_) hb); clear hx_ hb hbox hg; have hnb13 := NB101_102.out; have hnc13 := NB102_101.out; obtain ⟨hcz14_0, hcz14_1, hfz14_0, hfz14_1⟩ := qb2 BK101.out) | ((with_reducible refine gate_callee (f := 22) rfl ?_); refine qGL 5 Try.func22 #[.agg #[.slice A0_0 l0_0.length c0_0, .int .i64 a0_1]] ?_; (with_reducible refine (impl_StoreOK.calls k _ _ l0_0 a0_1 false _ ?side1 ?side2 A2.out).mono ?_); (case side1 => exact qa42); (case side2 => exact HC0_0.out); rintro e w15 ⟨rfl, hb⟩; have hx_ := qHX HB hb qa0; refine ⟨_, rfl, ?_⟩; replace BK101 := qO (qB BK101.out hx_ hb); replace BK102 := qO (qB BK102.out hx_ hb); replace HB := qO (below_step (below_step HB.out hx_) hb); clear hx_ hb; obtain ⟨hcz16_0, hcz16_1, hcz16_2, hfz16_0, hfz16_1, hfz16_2⟩ := qb3 BK102.out))
  refine bodyPost_ret (results_ct rfl _ _ gb102 65 #[.int .i64 0, .slice none 0 0, .slice none 0 0] (0, 0) _ rfl (qU (qU (qU BK102.out))) Try.underlying65 rfl qa18) rfl ?_
  exact ⟨_, _, qa2, qa31, qa31, qH HB.out⟩
set_option maxHeartbeats 8000000
set_option maxRecDepth 100000
def spec_l07In.l0 : Nat → List Int → Int → Int → Option (Bool)
 | 0, _, _, _ => none
 | k + 1, x0, x1, x5 => if x5 < (x0.length : Int) then (if 0 ≤ x5 then (if (rd x0 x5) = x1 then (some true) else (spec_l07In.l0 k x0 x1 (wrap64 (x5 + 1)))) else (none)) else (some false)
def spec_l07In.f (k : Nat) (l0 : List Int) (a1 : Int) : Option (Bool) := spec_l07In.l0 k l0 a1 0
theorem spec_l07In.calls (k : Nat) (A0 : Option Addr) (c0 : Nat) (l0 : List Int) (a1 : Int) (r : Bool) (w : World) (hr0 : Kd.C (Kd.int .i64) w A0 l0.length l0) (hc0 : l0.length ≤ c0) (h : spec_l07In.f k l0 a1 = some r) :
  Calls Try.prog 125 #[.slice A0 l0.length c0, .int .i64 a1] w fun e w' => e = .returned (.bool r) ∧ Drawn0 w w' := by
 have HR0 := qO hr0; have HC0 := qO hc0; clear hr0 hc0; have H : (spec_l07In.l0 k l0 a1 0) = some r := h; clear h; have H' := qO H; clear H
 go_enter Try.func125, Try.ntmps125
 go_wp2
 go_loopg [5] k (fun kq v5 w' => ∃ (x5_1 : Int), v5 = .int .i64 x5_1 ∧ Aside0 (spec_l07In.l0 kq l0 a1 x5_1 = some r) ∧ Aside0 (kq ≤ k) ∧ Drawn0 w w')
 case atStart => exact ⟨(0), qa6, H', ⟨Nat.le_refl _⟩, qa23⟩
 case round =>
  clear H'
  obtain ⟨x5_1, rfl, HA, HK1, ⟨m1, rfl⟩⟩ := hrel
  cases gk with
  | zero => exact absurd HA.out (by simp [spec_l07In.l0])
  | succ k1 =>
   have H := HA.out; clear HA; simp only [spec_l07In.l0] at H
   by_cases c3 : x5_1 < (l0.length : Int)
   ·rw [if_pos c3] at H
    have c3b0 := decide_eq_true c3; clear c3
    by_cases c4 : 0 ≤ x5_1
    ·rw [if_pos c4] at H
     have c4b0 := decide_eq_true c4; clear c4
     by_cases c5 : (rd l0 x5_1) = a1
     ·rw [if_pos c5] at H
      have c5b0 := beq_iff_eq.mpr c5; have c5b1 := bne_eq_false_iff_eq.mpr c5; clear c5; obtain rfl := Option.some.inj H; have p101 : 0 ≤ (x5_1 : Int) := qT qa1; have q101 : x5_1 < (l0.length : Int) := qT qa1; obtain ⟨ad101, e101, hx101_0⟩ := Kd.at_int HR0.out x5_1 p101 q101
      cases e101
      replace p101 := eq_true p101; replace q101 := eq_true q101; go_wp2
      go_ret
      exact ⟨qa6, qa23⟩
     ·rw [if_neg c5] at H
      have c5b0 := beq_eq_false_iff_ne.mpr c5; have c5b1 := bne_iff_ne.mpr c5; have H' := qO H; clear H; have p101 : 0 ≤ (x5_1 : Int) := qT qa1; have q101 : x5_1 < (l0.length : Int) := qT qa1; obtain ⟨ad101, e101, hx101_0⟩ := Kd.at_int HR0.out x5_1 p101 q101
      cases e101
      replace p101 := eq_true p101; replace q101 := eq_true q101; go_wp2
      go_roundg k1
      case measure => have := HK1.out; omega
      case rel => exact ⟨(wrap64 (x5_1 + 1)), qa6, H', ⟨qa72⟩, qa23⟩
    ·rw [if_neg c4] at H
     exact absurd H qa51
   ·rw [if_neg c3] at H
    have c3b0 := decide_eq_false c3; clear c3; obtain rfl := Option.some.inj H; go_wp2
    go_ret
    exact ⟨qa6, qa23⟩
set_option maxHeartbeats 8000000
set_option maxRecDepth 100000
def spec_l07Written.l0 : Nat → List (S58) → Int → Int → Option (Int × Bool)
 | 0, _, _, _ => none
 | k + 1, x0, x1, x6 => if x6 ≥ 0 then (if 0 ≤ x6 then (if x6 < (x0.length : Int) then (if ((rd_T58 x0 x6).f0) = x1 then (some ((rd_T58 x0 x6).f1, true)) else (spec_l07Written.l0 k x0 x1 (wrap64 (x6 - 1)))) else (none)) else (none)) else (some (0, false))
def spec_l07Written.f (k : Nat) (l0 : List (S58)) (a1 : Int) : Option (Int × Bool) := spec_l07Written.l0 k l0 a1 (wrap64 ((l0.length : Int) - 1))
theorem spec_l07Written.calls (k : Nat) (A0 : Option Addr) (c0 : Nat) (l0 : List (S58)) (a1 : Int) (r1 : Int) (r2 : Bool) (w : World) (hr0 : Kd.C k58 w A0 l0.length l0) (hc0 : l0.length ≤ c0) (h : spec_l07Written.f k l0 a1 = some (r1, r2)) :
  Calls Try.prog 124 #[.slice A0 l0.length c0, .int .i64 a1] w fun e w' => e = .returned (.tuple #[.int .i64 r1, .bool r2]) ∧ Drawn0 w w' := by
 have HR0 := qO hr0; have HC0 := qO hc0; clear hr0 hc0; have H : (spec_l07Written.l0 k l0 a1 (wrap64 ((l0.length : Int) - 1))) = some (r1, r2) := h; clear h; have H' := qO H; clear H
 go_enter Try.func124, Try.ntmps124
 go_wp2
 go_loopg [6] k (fun kq v6 w' => ∃ (x6_1 : Int), v6 = .int .i64 x6_1 ∧ Aside0 (spec_l07Written.l0 kq l0 a1 x6_1 = some (r1, r2)) ∧ Aside0 (kq ≤ k) ∧ Drawn0 w w')
 case atStart => exact ⟨(wrap64 ((l0.length : Int) - 1)), qa6, H', ⟨Nat.le_refl _⟩, qa23⟩
 case round =>
  clear H'
  obtain ⟨x6_1, rfl, HA, HK1, ⟨m1, rfl⟩⟩ := hrel
  cases gk with
  | zero => exact absurd HA.out (by simp [spec_l07Written.l0])
  | succ k1 =>
   have H := HA.out; clear HA; simp only [spec_l07Written.l0] at H
   by_cases c3 : x6_1 ≥ 0
   ·rw [if_pos c3] at H
    have c3b0 := qge c3; clear c3
    by_cases c4 : 0 ≤ x6_1
    ·rw [if_pos c4] at H
     have c4b0 := decide_eq_true c4; clear c4
     by_cases c5 : x6_1 < (l0.length : Int)
     ·rw [if_pos c5] at H
      have c5b0 := decide_eq_true c5; clear c5
      by_cases c6 : ((rd_T58 l0 x6_1).f0) = a1
      ·rw [if_pos c6] at H
       have c6b0 := beq_iff_eq.mpr c6; have c6b1 := bne_eq_false_iff_eq.mpr c6; clear c6; simp only [Option.some.injEq, Prod.mk.injEq] at H; obtain ⟨rfl, rfl⟩ := H; have p101 : 0 ≤ (x6_1 : Int) := qT qa1; have q101 : x6_1 < (l0.length : Int) := qT qa1; obtain ⟨ad101, e101, hx101_0, hx101_1⟩ := at_T58 HR0.out x6_1 p101 q101
       cases e101
       replace p101 := eq_true p101; replace q101 := eq_true q101; have p102 : 0 ≤ (x6_1 : Int) := qT qa1; have q102 : x6_1 < (l0.length : Int) := qT qa1; obtain ⟨ad102, e102, hx102_0, hx102_1⟩ := at_T58 HR0.out x6_1 p102 q102; obtain rfl : ad101 = ad102 := (by injection e102); replace p102 := eq_true p102; replace q102 := eq_true q102; go_wp2
       go_ret2
       exact ⟨qa6, qa23⟩
      ·rw [if_neg c6] at H
       have c6b0 := beq_eq_false_iff_ne.mpr c6; have c6b1 := bne_iff_ne.mpr c6; have H' := qO H; clear H; have p101 : 0 ≤ (x6_1 : Int) := qT qa1; have q101 : x6_1 < (l0.length : Int) := qT qa1; obtain ⟨ad101, e101, hx101_0, hx101_1⟩ := at_T58 HR0.out x6_1 p101 q101
       cases e101
       replace p101 := eq_true p101; replace q101 := eq_true q101; go_wp2
       go_roundg k1
       case measure => have := HK1.out; omega
       case rel => exact ⟨(wrap64 (x6_1 - 1)), qa6, H', ⟨qa72⟩, qa23⟩
     ·rw [if_neg c5] at H
      exact absurd H qa51
    ·rw [if_neg c4] at H
     exact absurd H qa51
   ·rw [if_neg c3] at H
    have c3b0 := qnge c3; clear c3; simp only [Option.some.injEq, Prod.mk.injEq] at H; obtain ⟨rfl, rfl⟩ := H; go_wp2
    go_ret2
    exact ⟨qa6, qa23⟩
set_option maxHeartbeats 8000000
set_option maxRecDepth 100000
def spec_l06Read.l0 : Nat → Int → Int → Int → Int → List (List (S43)) → Int → Option (Int)
 | 0, _, _, _, _, _, _ => none
 | k + 1, x1, x2, x7, x8, x102000, x102001 => if 0 ≤ x1 then (if x1 < (x102000.length : Int) then (if x8 < ((rd_L4 x102000 x1).length : Int) then (if 0 ≤ x8 then (if ((rd_T43 (rd_L4 x102000 x1) x8).f0) ≤ x2 then (spec_l06Read.l0 k x1 x2 ((rd_T43 (rd_L4 x102000 x1) x8).f1) (wrap64 (x8 + 1)) x102000 x102001) else (spec_l06Read.l0 k x1 x2 x7 (wrap64 (x8 + 1)) x102000 x102001)) else (none)) else (some x7)) else (none)) else (none)
def spec_l06Read.f (k : Nat) (l0_0 : List (List (S43))) (a0_1 : Int) (a1 : Int) (a2 : Int) : Option (Int) := spec_l06Read.l0 k a1 a2 0 0 l0_0 a0_1
theorem spec_l06Read.calls (k : Nat) (A0_0 : Option Addr) (c0_0 : Nat) (l0_0 : List (List (S43))) (a0_1 : Int) (a1 : Int) (a2 : Int) (r : Int) (w : World) (hr0_0 : Kd.C (Kd.slice 43 k43) w A0_0 l0_0.length l0_0) (hc0_0 : l0_0.length ≤ c0_0) (h : spec_l06Read.f k l0_0 a0_1 a1 a2 = some r) :
  Calls Try.prog 126 #[.agg #[.slice A0_0 l0_0.length c0_0, .int .i64 a0_1], .int .i64 a1, .int .i64 a2] w fun e w' => e = .returned (.int .i64 r) ∧ Below w.heap.size w w' := by
 have hu28 := Try.underlying28; have HR0_0 := qO hr0_0; have HC0_0 := qO hc0_0; clear hr0_0 hc0_0; have HB := qO (Below.refl w.heap.size w); have H : (spec_l06Read.l0 k a1 a2 0 0 l0_0 a0_1) = some r := h; clear h; have H' := qO H; clear H
 go_enter Try.func126, Try.ntmps126
 go_wp2_with (first | ((with_reducible refine gate_dst (N := 3) rfl ?_); refine qX 3 #[.slice A0_0 l0_0.length c0_0, .int .i64 a0_1] 28 ?_; intro gb101 hg w4 hbox hb; have hx_ := qHX HB hb qa0; have BK101 := qO (hbox); have GW101 := qO ((qa3 : w.heap.size ≤ gb101)); have GE101 := GW101; replace HB := qO (below_step (below_step HB.out hx_) hb); clear hx_ hb hbox hg))
 go_loopg [7, 8] k (fun kq v7 v8 w' => ∃ (x7_1 : Int) (x8_1 : Int), v7 = .int .i64 x7_1 ∧ v8 = .int .i64 x8_1 ∧ Aside0 (spec_l06Read.l0 kq a1 a2 x7_1 x8_1 l0_0 a0_1 = some r) ∧ Aside0 (kq ≤ k) ∧ Aside0 (w'.heap[gb101]? = some (.cells #[(.slice A0_0 l0_0.length c0_0), .int .i64 a0_1] 28 (0, 0))) ∧ Aside0 (Below w.heap.size w w'))
 case atStart => exact ⟨(0), (0), qa6, qa6, H', ⟨Nat.le_refl _⟩, ⟨qk BK101.out⟩, ⟨qH HB.out⟩⟩
 case round =>
  clear H'
  obtain ⟨x7_1, x8_1, rfl, rfl, HA, HK1, BK101, HB⟩ := hrel
  cases gk with
  | zero => exact absurd HA.out (by simp [spec_l06Read.l0])
  | succ k1 =>
   have H := HA.out; clear HA; simp only [spec_l06Read.l0] at H
   by_cases c5 : 0 ≤ a1
   ·rw [if_pos c5] at H
    have c5b0 := decide_eq_true c5; clear c5
    by_cases c6 : a1 < (l0_0.length : Int)
    ·rw [if_pos c6] at H
     have c6b0 := decide_eq_true c6; clear c6
     by_cases c7 : x8_1 < ((rd_L4 l0_0 a1).length : Int)
     ·rw [if_pos c7] at H
      have c7b0 := decide_eq_true c7; clear c7
      by_cases c8 : 0 ≤ x8_1
      ·rw [if_pos c8] at H
       have c8b0 := decide_eq_true c8; clear c8
       by_cases c9 : ((rd_T43 (rd_L4 l0_0 a1) x8_1).f0) ≤ a2
       ·rw [if_pos c9] at H
        have c9b0 := decide_eq_true c9; clear c9; have H' := qO H; clear H; obtain ⟨hcz10_0, hcz10_1, hfz10_0, hfz10_1⟩ := qb2 BK101.out; have p102 : 0 ≤ (a1 : Int) := qT qa1; have q102 : a1 < (l0_0.length : Int) := qT qa1; obtain ⟨ad102, A102_0, c102_0, e102, hx102_0, hl102_0, hi102_0⟩ := at_L4 HR0_0.out a1 p102 q102
        cases e102
        replace hx102_0 := (HB.out.cell (qL w _ hx102_0)).trans hx102_0; have HR102_0 := qO hi102_0; have HC102_0 := qO hl102_0; clear hi102_0 hl102_0; replace p102 := eq_true p102; replace q102 := eq_true q102; have p103 : 0 ≤ (a1 : Int) := qT qa1; have q103 : a1 < (l0_0.length : Int) := qT qa1; obtain ⟨ad103, A103_0, c103_0, e103, hx103_0, hl103_0, hi103_0⟩ := at_L4 HR0_0.out a1 p103 q103; obtain rfl : ad102 = ad103 := qa124; replace hx103_0 := (HB.out.cell (qL w _ hx103_0)).trans hx103_0; have HR103_0 := qO hi103_0; have HC103_0 := qO hl103_0; clear hi103_0 hl103_0; replace p103 := eq_true p103; replace q103 := eq_true q103; have ea_ := Option.some.inj (hx102_0.symm.trans hx103_0); injection ea_ with ea_ en_ ec_; subst ea_; subst ec_; clear en_; have p104 : 0 ≤ (x8_1 : Int) := qT qa1; have q104 : x8_1 < ((rd_L4 l0_0 a1).length : Int) := qT qa1; obtain ⟨ad104, e104, hx104_0, hx104_1⟩ := at_T43 HR103_0.out x8_1 p104 q104
        cases e104
        replace hx104_0 := (HB.out.cell (qL w _ hx104_0)).trans hx104_0; replace hx104_1 := (HB.out.cell (qL w _ hx104_1)).trans hx104_1; replace p104 := eq_true p104; replace q104 := eq_true q104; have p105 : 0 ≤ (a1 : Int) := qT qa1; have q105 : a1 < (l0_0.length : Int) := qT qa1; obtain ⟨ad105, A105_0, c105_0, e105, hx105_0, hl105_0, hi105_0⟩ := at_L4 HR0_0.out a1 p105 q105; obtain rfl : ad102 = ad105 := (by injection e105); replace hx105_0 := (HB.out.cell (qL w _ hx105_0)).trans hx105_0; have HR105_0 := qO hi105_0; have HC105_0 := qO hl105_0; clear hi105_0 hl105_0; replace p105 := eq_true p105; replace q105 := eq_true q105; have ea_ := Option.some.inj (hx102_0.symm.trans hx105_0); injection ea_ with ea_ en_ ec_; subst ea_; subst ec_; clear en_; have p106 : 0 ≤ (x8_1 : Int) := qT qa1; have q106 : x8_1 < ((rd_L4 l0_0 a1).length : Int) := qT qa1; obtain ⟨ad106, e106, hx106_0, hx106_1⟩ := at_T43 HR105_0.out x8_1 p106 q106
        cases e106
        replace hx106_0 := (HB.out.cell (qL w _ hx106_0)).trans hx106_0; replace hx106_1 := (HB.out.cell (qL w _ hx106_1)).trans hx106_1; replace p106 := eq_true p106; replace q106 := eq_true q106; go_wp2
        go_roundg k1
        case measure => have := HK1.out; omega
        case rel => exact ⟨((rd_T43 (rd_L4 l0_0 a1) x8_1).f1), (wrap64 (x8_1 + 1)), qa6, qa6, H', ⟨qa72⟩, ⟨qk BK101.out⟩, ⟨qH HB.out⟩⟩
       ·rw [if_neg c9] at H
        have c9b0 := decide_eq_false c9; clear c9; have H' := qO H; clear H; obtain ⟨hcz11_0, hcz11_1, hfz11_0, hfz11_1⟩ := qb2 BK101.out; have p102 : 0 ≤ (a1 : Int) := qT qa1; have q102 : a1 < (l0_0.length : Int) := qT qa1; obtain ⟨ad102, A102_0, c102_0, e102, hx102_0, hl102_0, hi102_0⟩ := at_L4 HR0_0.out a1 p102 q102
        cases e102
        replace hx102_0 := (HB.out.cell (qL w _ hx102_0)).trans hx102_0; have HR102_0 := qO hi102_0; have HC102_0 := qO hl102_0; clear hi102_0 hl102_0; replace p102 := eq_true p102; replace q102 := eq_true q102; have p103 : 0 ≤ (a1 : Int) := qT qa1; have q103 : a1 < (l0_0.length : Int) := qT qa1; obtain ⟨ad103, A103_0, c103_0, e103, hx103_0, hl103_0, hi103_0⟩ := at_L4 HR0_0.out a1 p103 q103; obtain rfl : ad102 = ad103 := qa124; replace hx103_0 := (HB.out.cell (qL w _ hx103_0)).trans hx103_0; have HR103_0 := qO hi103_0; have HC103_0 := qO hl103_0; clear hi103_0 hl103_0; replace p103 := eq_true p103; replace q103 := eq_true q103; have ea_ := Option.some.inj (hx102_0.symm.trans hx103_0); injection ea_ with ea_ en_ ec_; subst ea_; subst ec_; clear en_; have p104 : 0 ≤ (x8_1 : Int) := qT qa1; have q104 : x8_1 < ((rd_L4 l0_0 a1).length : Int) := qT qa1; obtain ⟨ad104, e104, hx104_0, hx104_1⟩ := at_T43 HR103_0.out x8_1 p104 q104
        cases e104
        replace hx104_0 := (HB.out.cell (qL w _ hx104_0)).trans hx104_0; replace hx104_1 := (HB.out.cell (qL w _ hx104_1)).trans hx104_1; replace p104 := eq_true p104; replace q104 := eq_true q104; go_wp2
        go_roundg k1
        case measure => have := HK1.out; omega
        case rel => exact ⟨(x7_1), (wrap64 (x8_1 + 1)), qa6, qa6, H', ⟨qa72⟩, ⟨qk BK101.out⟩, ⟨qH HB.out⟩⟩
      ·rw [if_neg c8] at H
       exact absurd H qa51
     ·rw [if_neg c7] at H
      have c7b0 := decide_eq_false c7; clear c7; obtain rfl := Option.some.inj H; obtain ⟨hcz12_0, hcz12_1, hfz12_0, hfz12_1⟩ := qb2 BK101.out; have p102 : 0 ≤ (a1 : Int) := qT qa1; have q102 : a1 < (l0_0.length : Int) := qT qa1; obtain ⟨ad102, A102_0, c102_0, e102, hx102_0, hl102_0, hi102_0⟩ := at_L4 HR0_0.out a1 p102 q102
      cases e102
      replace hx102_0 := (HB.out.cell (qL w _ hx102_0)).trans hx102_0; have HR102_0 := qO hi102_0; have HC102_0 := qO hl102_0; clear hi102_0 hl102_0; replace p102 := eq_true p102; replace q102 := eq_true q102; go_wp2
      go_ret
      exact ⟨qa2, qH HB.out⟩
    ·rw [if_neg c6] at H
     exact absurd H qa51
   ·rw [if_neg c5] at H
    exact absurd H qa51
set_option maxHeartbeats 8000000
set_option maxRecDepth 100000
def spec_l07Read.f (k : Nat) (l0_0 : List (List (S43))) (a0_1 : Int) (a1_0 : Int) (l1_1 : List Int) (l1_2 : List (S58)) (a2 : Int) : Option (Int × List Int × (List (S58)) × Int) := (spec_l07Written.f k l1_2 a2).bind fun bt104 => (if bt104.2 = true then (some (a1_0, l1_1, l1_2, bt104.1)) else ((spec_l07In.f k l1_1 a2).bind fun t106 => (if t106 = true then ((spec_l06Read.f k l0_0 a0_1 a2 a1_0).bind fun t107 => (some (a1_0, l1_1, l1_2, t107))) else ((some (([] : List Int) : List Int)).bind fun y108 => (if y108.length + l1_1.length < 17592186044416 then ((some (y108 ++ l1_1 : List Int)).bind fun y111 => (if y111.length < 17592186044416 then ((spec_l06Read.f k l0_0 a0_1 a2 a1_0).bind fun t117 => (some (a1_0, (y111 ++ [a2]), l1_2, t117))) else (none))) else (none))))))
def spec_l07Read.T6 : Bool × List (List Nat × List Nat) := (true, [([], []), ([], []), ([], []), ([], []), ([3], [3]), ([1, 2, 4], [1, 2, 4]), ([0, 5, 0], [0]), ([5, 6, 0, 1, 2, 3, 4, 5, 6], [5])])
def spec_l07Read.B6 : List Nat := [0, 0, 0, 0, 8, 30, 63, 127]
theorem spec_l07Read.tab6 : rtab .any (opsOf Try.f97 6) = spec_l07Read.T6 := by kernel_rfl
theorem spec_l07Read.bits6 : waitsOk spec_l07Read.T6.2 spec_l07Read.B6 = true := by kernel_rfl
def z97_0 := #[qf,qf,qf,qf,qf,qf,qf,qf]
def z97_1 := #[qf,qf,qt,qf,qf,qf,qf,qf]
def z97_2 := #[qf,qf,qt,qt,qf,qf,qf,qf]
def z97_3 := #[qt,qf,qt,qt,qf,qf,qf,qf]
def z97_4 := #[qt,qt,qt,qt,qf,qf,qf,qf]
def z97_5 := #[qt,qt,qt,qt,qt,qf,qf,qf]
def z97_6 := #[qt,qt,qt,qt,qt,qt,qf,qf]
def z97_7 := #[qt,qt,qt,qt,qt,qt,qt,qf]
def z97_8 := #[qt,qt,qt,qt,qt,qt,qt,qt]
theorem spec_l07Read.calls (k : Nat) (A0_0 : Option Addr) (c0_0 : Nat) (l0_0 : List (List (S43))) (a0_1 : Int) (a1_0 : Int) (P1_1_ : Nat → Prop) (u9000_ : Value) (l1_1 : List Int) (P1_2_ : Nat → Prop) (u9001_ : Value) (l1_2 : List (S58)) (a2 : Int) (r1 : Int) (r2 : List Int) (r3 : List (S58)) (r4 : Int) (w0 w : World) (hB : Below w0.heap.size w0 w) (hr0_0 : ∀ W_, Kept w W_ (fun k_ => P1_1_ k_ ∨ P1_2_ k_) → Kd.C (Kd.slice 43 k43) W_ A0_0 l0_0.length l0_0) (hc0_0 : l0_0.length ≤ c0_0) (ho1_1 : Kd.R (Kd.int .i64) 3 w w0.heap.size P1_1_ u9000_ l1_1) (ho1_2 : Kd.R k58 58 w w0.heap.size P1_2_ u9001_ l1_2) (h : spec_l07Read.f k l0_0 a0_1 a1_0 l1_1 l1_2 a2 = some (r1, r2, r3, r4)) :
  Calls Try.prog 97 #[.agg #[.slice A0_0 l0_0.length c0_0, .int .i64 a0_1], .agg #[.int .i64 a1_0, u9000_, u9001_], .int .i64 a2] w fun e w' => ∃ v1_ v2_ : Value, e = .returned (.tuple #[.agg #[.int .i64 r1, v1_, v2_], .int .i64 r4]) ∧ Kd.R (Kd.int .i64) 3 w' w0.heap.size (fun k_ => ((P1_1_ k_ ∨ P1_2_ k_) ∨ w.heap.size ≤ k_)) v1_ r2 ∧ Kd.R k58 58 w' w0.heap.size (fun k_ => ((P1_1_ k_ ∨ P1_2_ k_) ∨ w.heap.size ≤ k_)) v2_ r3 ∧ Below w0.heap.size w0 w' ∧ Kept w w' (fun k_ => P1_1_ k_ ∨ P1_2_ k_) := by
 have hu28 := Try.underlying28; have hu65 := Try.underlying65; have HR0_0 := qO hr0_0; have HC0_0 := qO hc0_0; clear hr0_0 hc0_0; have HO1_1 := qO (show Kd.R (Kd.int .i64) 3 w w0.heap.size (fun k_ => ((P1_1_ k_ ∨ P1_2_ k_) ∨ w.heap.size ≤ k_)) u9000_ l1_1 from Kd.R_mono ho1_1 (fun k_ hk => (.inl (.inl hk)))); have HO1_2 := qO (show Kd.R k58 58 w w0.heap.size (fun k_ => ((P1_1_ k_ ∨ P1_2_ k_) ∨ w.heap.size ≤ k_)) u9001_ l1_2 from Kd.R_mono ho1_2 (fun k_ hk => (.inl (.inr hk)))); have HK := qO (Kept.refl w (fun k_ => P1_1_ k_ ∨ P1_2_ k_)); have HW0 := qO hB.size; have HB := qO hB; clear hB; have H : ((spec_l07Written.f k l1_2 a2).bind fun bt104 => (if bt104.2 = true then (some (a1_0, l1_1, l1_2, bt104.1)) else ((spec_l07In.f k l1_1 a2).bind fun t106 => (if t106 = true then ((spec_l06Read.f k l0_0 a0_1 a2 a1_0).bind fun t107 => (some (a1_0, l1_1, l1_2, t107))) else ((some (([] : List Int) : List Int)).bind fun y108 => (if y108.length + l1_1.length < 17592186044416 then ((some (y108 ++ l1_1 : List Int)).bind fun y111 => (if y111.length < 17592186044416 then ((spec_l06Read.f k l0_0 a0_1 a2 a1_0).bind fun t117 => (some (a1_0, (y111 ++ [a2]), l1_2, t117))) else (none))) else (none))))))) = some (r1, r2, r3, r4) := h; clear h; replace H := Option.bind_eq_some_iff.mp H; obtain ⟨⟨t104, t105⟩, A40, H⟩ := H; replace H : (if t105 = true then (some (a1_0, l1_1, l1_2, t104)) else ((spec_l07In.f k l1_1 a2).bind fun t106 => (if t106 = true then ((spec_l06Read.f k l0_0 a0_1 a2 a1_0).bind fun t107 => (some (a1_0, l1_1, l1_2, t107))) else ((some (([] : List Int) : List Int)).bind fun y108 => (if y108.length + l1_1.length < 17592186044416 then ((some (y108 ++ l1_1 : List Int)).bind fun y111 => (if y111.length < 17592186044416 then ((spec_l06Read.f k l0_0 a0_1 a2 a1_0).bind fun t117 => (some (a1_0, (y111 ++ [a2]), l1_2, t117))) else (none))) else (none)))))) = some (r1, r2, r3, r4) := H; have A4 := qO A40; clear A40
 by_cases c5 : t105 = true
 ·subst c5
  rw [if_pos rfl] at H; simp only [Option.some.injEq, Prod.mk.injEq] at H; obtain ⟨rfl, rfl, rfl, rfl⟩ := H
  go_enter Try.func97, Try.ntmps97
  go_wp2_with (first | ((with_reducible refine gate_dst (N := 3) rfl ?_); refine qX 3 #[.slice A0_0 l0_0.length c0_0, .int .i64 a0_1] 28 ?_; intro gb101 hg w6 hbox hb; have hx_ := qHX HB hb qa0; have BK101 := qO (hbox); have GW101 := qO ((by rw [hg]; exact qa56 : w.heap.size ≤ gb101)); have GE101 := qO ((qa3 : w0.heap.size ≤ gb101)); replace HO1_1 := qO (Kd.R_below (qrR HO1_1.out) hb); replace HO1_2 := qO (Kd.R_below (qrR HO1_2.out) hb); replace HK := qO (Kept.below (w := w) (S := (fun k_ => P1_1_ k_ ∨ P1_2_ k_)) qa78 hb); replace HB := qO (below_step (below_step HB.out hx_) hb); clear hx_ hb hbox hg; obtain ⟨Ao7, co7, eo7⟩ := Kd.R_slice HO1_1.out; subst eo7; obtain ⟨Ao8, co8, eo8⟩ := Kd.R_slice HO1_2.out; subst eo8) | ((with_reducible refine gate_dst (N := 4) rfl ?_); refine qX 4 #[.int .i64 a1_0, .slice Ao7 l1_1.length co7, .slice Ao8 l1_2.length co8] 65 ?_; intro gb102 hg w9 hbox hb; have BK102 := qO (hbox); have GW102 := qO ((by rw [hg]; exact qa52 : w.heap.size ≤ gb102)); have GE102 := qO ((qa38 : w0.heap.size ≤ gb102)); have NB101_102 := qO ((qLt hg (qk BK101.out))); have NB102_101 := qO (Ne.symm NB101_102.out); replace HO1_1 := qO (Kd.R_below (qrR HO1_1.out) hb); replace HO1_2 := qO (Kd.R_below (qrR HO1_2.out) hb); replace BK101 := qO (blk_below (qk BK101.out) hb); replace HK := qO (Kept.below (w := w) (S := (fun k_ => P1_1_ k_ ∨ P1_2_ k_)) qa65 hb); replace HB := qO (below_step (qH HB.out) hb); clear hb hbox hg) | ((with_reducible refine gate_dst (N := 6) rfl ?_); refine qX 6 #[.int .i64 0, .slice none 0 0, .slice none 0 0] 65 ?_; intro gb103 hg w10 hbox hb; have BK103 := qO (hbox); have GW103 := qO ((by rw [hg]; exact qa48 : w.heap.size ≤ gb103)); have GE103 := qO ((qa38 : w0.heap.size ≤ gb103)); have NB101_103 := qO ((qLt hg (qk BK101.out))); have NB103_101 := qO (Ne.symm NB101_103.out); have NB102_103 := qO ((qLt hg (qk BK102.out))); have NB103_102 := qO (Ne.symm NB102_103.out); replace HO1_1 := qO (Kd.R_below (qrR HO1_1.out) hb); replace HO1_2 := qO (Kd.R_below (qrR HO1_2.out) hb); replace BK101 := qO (blk_below (qk BK101.out) hb); replace BK102 := qO (blk_below (qk BK102.out) hb); replace HK := qO (Kept.below (w := w) (S := (fun k_ => P1_1_ k_ ∨ P1_2_ k_)) qa57 hb); replace HB := qO (below_step (qH HB.out) hb); clear hb hbox hg; have hnb11 := NB102_101.out; have hnc11 := NB101_102.out; have hnb12 := NB102_103.out; have hnc12 := NB103_102.out; obtain ⟨hcz13_0, hcz13_1, hcz13_2, hfz13_0, hfz13_1, hfz13_2⟩ := qb3 BK102.out) | ((with_reducible refine gate_callee (f := 124) rfl ?_); refine qGL 14 Try.func124 #[.slice Ao8 l1_2.length co8, .int .i64 a2] ?_; (with_reducible refine (spec_l07Written.calls k _ _ l1_2 a2 t104 true _ ?side1 ?side2 A4.out).mono ?_); (case side1 => exact qkC ((Kd.R_reads' HO1_2.out).2.2)); (case side2 => exact (Kd.R_reads' HO1_2.out).2.1); rintro e w' ⟨rfl, ⟨nd, rfl⟩⟩; refine ⟨_, rfl, ?_⟩; (try (rw [drewN_self w10]; generalize hq_ : World.drewN w10 _ = w10; replace HO1_1 : Aside0 (Kd.R (Kd.int .i64) 3 w10 w0.heap.size (fun k_ => ((P1_1_ k_ ∨ P1_2_ k_) ∨ w.heap.size ≤ k_)) (.slice Ao7 l1_1.length co7) l1_1) := ⟨qa108⟩; replace HO1_2 : Aside0 (Kd.R k58 58 w10 w0.heap.size (fun k_ => ((P1_1_ k_ ∨ P1_2_ k_) ∨ w.heap.size ≤ k_)) (.slice Ao8 l1_2.length co8) l1_2) := ⟨qa109⟩; replace BK101 : Aside0 (w10.heap[gb101]? = some (.cells #[.slice A0_0 l0_0.length c0_0, .int .i64 a0_1] 28 (0, 0))) := ⟨qa76⟩; replace BK102 : Aside0 (w10.heap[gb102]? = some (.cells #[.int .i64 a1_0, .slice Ao7 l1_1.length co7, .slice Ao8 l1_2.length co8] 65 (0, 0))) := ⟨qa77⟩; replace BK103 : Aside0 (w10.heap[gb103]? = some (.cells #[.int .i64 0, .slice none 0 0, .slice none 0 0] 65 (0, 0))) := ⟨qa92⟩; replace HK : Aside0 (Kept w w10 (fun k_ => P1_1_ k_ ∨ P1_2_ k_)) := ⟨qa35⟩; replace HB : Aside0 (Below w0.heap.size w0 w10) := ⟨qa80⟩; clear hq_)); obtain ⟨hcz14_0, hcz14_1, hcz14_2, hfz14_0, hfz14_1, hfz14_2⟩ := qb3 BK102.out; have hnb15 := NB103_101.out; have hnc15 := NB101_103.out; obtain ⟨hcz16_0, hcz16_1, hcz16_2, hfz16_0, hfz16_1, hfz16_2⟩ := qb3 BK103.out))
  refine bodyPost_ret (results_ct rfl _ _ gb103 65 #[.int .i64 a1_0, .slice Ao7 l1_1.length co7, .slice Ao8 l1_2.length co8] (0, 0) _ rfl (qU (qU (qU BK103.out))) Try.underlying65 rfl qa18) rfl ?_
  exact ⟨_, _, qa2, qrR (qR3 HO1_1.out BK103.out), qrR (qR3 HO1_2.out BK103.out), qH HB.out, qa24⟩
 ·replace c5 := Bool.eq_false_iff.mpr c5
  subst c5; rw [qfn] at H; replace H := Option.bind_eq_some_iff.mp H; obtain ⟨t106, A170, H⟩ := H; have A17 := qO A170; clear A170
  by_cases c18 : t106 = true
  ·subst c18
   rw [if_pos rfl] at H; replace H := Option.bind_eq_some_iff.mp H; obtain ⟨t107, A190, H⟩ := H; have A19 := qO A190; clear A190; simp only [Option.some.injEq, Prod.mk.injEq] at H; obtain ⟨rfl, rfl, rfl, rfl⟩ := H
   go_enter Try.func97, Try.ntmps97
   try go_wp2_with (first | ((with_reducible refine gate_dst (N := 3) rfl ?_); refine qX 3 #[.slice A0_0 l0_0.length c0_0, .int .i64 a0_1] 28 ?_; intro gb101 hg w20 hbox hb; have hx_ := qHX HB hb qa0; have BK101 := qO (hbox); have GW101 := qO ((by rw [hg]; exact qa56 : w.heap.size ≤ gb101)); have GE101 := qO ((qa3 : w0.heap.size ≤ gb101)); replace HO1_1 := qO (Kd.R_below (qrR HO1_1.out) hb); replace HO1_2 := qO (Kd.R_below (qrR HO1_2.out) hb); replace HK := qO (Kept.below (w := w) (S := (fun k_ => P1_1_ k_ ∨ P1_2_ k_)) qa78 hb); replace HB := qO (below_step (below_step HB.out hx_) hb); clear hx_ hb hbox hg; obtain ⟨Ao21, co21, eo21⟩ := Kd.R_slice HO1_1.out; subst eo21; obtain ⟨Ao22, co22, eo22⟩ := Kd.R_slice HO1_2.out; subst eo22) | ((with_reducible refine gate_dst (N := 4) rfl ?_); refine qX 4 #[.int .i64 a1_0, .slice Ao21 l1_1.length co21, .slice Ao22 l1_2.length co22] 65 ?_; intro gb102 hg w23 hbox hb; have BK102 := qO (hbox); have GW102 := qO ((by rw [hg]; exact qa52 : w.heap.size ≤ gb102)); have GE102 := qO ((qa38 : w0.heap.size ≤ gb102)); have NB101_102 := qO ((qLt hg (qk BK101.out))); have NB102_101 := qO (Ne.symm NB101_102.out); replace HO1_1 := qO (Kd.R_below (qrR HO1_1.out) hb); replace HO1_2 := qO (Kd.R_below (qrR HO1_2.out) hb); replace BK101 := qO (blk_below (qk BK101.out) hb); replace HK := qO (Kept.below (w := w) (S := (fun k_ => P1_1_ k_ ∨ P1_2_ k_)) qa65 hb); replace HB := qO (below_step (qH HB.out) hb); clear hb hbox hg) | ((with_reducible refine gate_dst (N := 6) rfl ?_); refine qX 6 #[.int .i64 0, .slice none 0 0, .slice none 0 0] 65 ?_; intro gb103 hg w24 hbox hb; have BK103 := qO (hbox); have GW103 := qO ((by rw [hg]; exact qa48 : w.heap.size ≤ gb103)); have GE103 := qO ((qa38 : w0.heap.size ≤ gb103)); have NB101_103 := qO ((qLt hg (qk BK101.out))); have NB103_101 := qO (Ne.symm NB101_103.out); have NB102_103 := qO ((qLt hg (qk BK102.out))); have NB103_102 := qO (Ne.symm NB102_103.out); replace HO1_1 := qO (Kd.R_below (qrR HO1_1.out) hb); replace HO1_2 := qO (Kd.R_below (qrR HO1_2.out) hb); replace BK101 := qO (blk_below (qk BK101.out) hb); replace BK102 := qO (blk_below (qk BK102.out) hb); replace HK := qO (Kept.below (w := w) (S := (fun k_ => P1_1_ k_ ∨ P1_2_ k_)) qa57 hb); replace HB := qO (below_step (qH HB.out) hb); clear hb hbox hg; have hnb25 := NB102_101.out; have hnc25 := NB101_102.out; have hnb26 := NB102_103.out; have hnc26 := NB103_102.out; obtain ⟨hcz27_0, hcz27_1, hcz27_2, hfz27_0, hfz27_1, hfz27_2⟩ := qb3 BK102.out) | ((with_reducible refine gate_callee (f := 124) rfl ?_); refine qGL 14 Try.func124 #[.slice Ao22 l1_2.length co22, .int .i64 a2] ?_; (with_reducible refine (spec_l07Written.calls k _ _ l1_2 a2 t104 false _ ?side1 ?side2 A4.out).mono ?_); (case side1 => exact qkC ((Kd.R_reads' HO1_2.out).2.2)); (case side2 => exact (Kd.R_reads' HO1_2.out).2.1); rintro e w' ⟨rfl, ⟨nd, rfl⟩⟩; refine ⟨_, rfl, ?_⟩; (try (rw [drewN_self w24]; generalize hq_ : World.drewN w24 _ = w24; replace HO1_1 : Aside0 (Kd.R (Kd.int .i64) 3 w24 w0.heap.size (fun k_ => ((P1_1_ k_ ∨ P1_2_ k_) ∨ w.heap.size ≤ k_)) (.slice Ao21 l1_1.length co21) l1_1) := ⟨qa108⟩; replace HO1_2 : Aside0 (Kd.R k58 58 w24 w0.heap.size (fun k_ => ((P1_1_ k_ ∨ P1_2_ k_) ∨ w.heap.size ≤ k_)) (.slice Ao22 l1_2.length co22) l1_2) := ⟨qa109⟩; replace BK101 : Aside0 (w24.heap[gb101]? = some (.cells #[.slice A0_0 l0_0.length c0_0, .int .i64 a0_1] 28 (0, 0))) := ⟨qa76⟩; replace BK102 : Aside0 (w24.heap[gb102]? = some (.cells #[.int .i64 a1_0, .slice Ao21 l1_1.length co21, .slice Ao22 l1_2.length co22] 65 (0, 0))) := ⟨qa77⟩; replace BK103 : Aside0 (w24.heap[gb103]? = some (.cells #[.int .i64 0, .slice none 0 0, .slice none 0 0] 65 (0, 0))) := ⟨qa92⟩; replace HK : Aside0 (Kept w w24 (fun k_ => P1_1_ k_ ∨ P1_2_ k_)) := ⟨qa35⟩; replace HB : Aside0 (Below w0.heap.size w0 w24) := ⟨qa80⟩; clear hq_)); obtain ⟨hcz28_0, hcz28_1, hcz28_2, hfz28_0, hfz28_1, hfz28_2⟩ := qb3 BK102.out) | ((with_reducible refine gate_callee (f := 125) rfl ?_); refine qGL 23 Try.func125 #[.slice Ao21 l1_1.length co21, .int .i64 a2] ?_; (with_reducible refine (spec_l07In.calls k _ _ l1_1 a2 true _ ?side1 ?side2 A17.out).mono ?_); (case side1 => exact qkC ((Kd.R_reads' HO1_1.out).2.2)); (case side2 => exact (Kd.R_reads' HO1_1.out).2.1); rintro e w' ⟨rfl, ⟨nd, rfl⟩⟩; refine ⟨_, rfl, ?_⟩; (try (rw [drewN_self w24]; generalize hq_ : World.drewN w24 _ = w24; replace HO1_1 : Aside0 (Kd.R (Kd.int .i64) 3 w24 w0.heap.size (fun k_ => ((P1_1_ k_ ∨ P1_2_ k_) ∨ w.heap.size ≤ k_)) (.slice Ao21 l1_1.length co21) l1_1) := ⟨qa108⟩; replace HO1_2 : Aside0 (Kd.R k58 58 w24 w0.heap.size (fun k_ => ((P1_1_ k_ ∨ P1_2_ k_) ∨ w.heap.size ≤ k_)) (.slice Ao22 l1_2.length co22) l1_2) := ⟨qa109⟩; replace BK101 : Aside0 (w24.heap[gb101]? = some (.cells #[.slice A0_0 l0_0.length c0_0, .int .i64 a0_1] 28 (0, 0))) := ⟨qa76⟩; replace BK102 : Aside0 (w24.heap[gb102]? = some (.cells #[.int .i64 a1_0, .slice Ao21 l1_1.length co21, .slice Ao22 l1_2.length co22] 65 (0, 0))) := ⟨qa77⟩; replace BK103 : Aside0 (w24.heap[gb103]? = some (.cells #[.int .i64 0, .slice none 0 0, .slice none 0 0] 65 (0, 0))) := ⟨qa92⟩; replace HK : Aside0 (Kept w w24 (fun k_ => P1_1_ k_ ∨ P1_2_ k_)) := ⟨qa35⟩; replace HB : Aside0 (Below w0.heap.size w0 w24) := ⟨qa80⟩; clear hq_))))
   replace HO1_1 := qO (Kd.R_drew HO1_1.out); replace HO1_2 := qO (Kd.R_drew HO1_2.out); replace BK101 := qO (qkD BK101.out); replace BK102 := qO (qkD BK102.out); replace BK103 := qO (qkD BK103.out); replace HK := qO (Kept.drew HK.out); replace HB := qO (qbD HB.out); refine start_ (n := 8) (S := fun w' => w'.cell? ⟨gb102, 0, none⟩ = some (.int .i64 a1_0) ∧ w'.cell? ⟨gb102, 1, none⟩ = some (.slice Ao21 l1_1.length co21) ∧ w'.cell? ⟨gb102, 2, none⟩ = some (.slice Ao22 l1_2.length co22) ∧ w'.cell? ⟨gb101, 0, none⟩ = some (.slice A0_0 l0_0.length c0_0) ∧ w'.cell? ⟨gb101, 1, none⟩ = some (.int .i64 a0_1)) (ds := []) z97_0 qa18 rfl rfl ⟨qc0 BK102.out, qc1 BK102.out, qc2 BK102.out, qc0 BK101.out, qc1 BK101.out⟩ (fun hHeld => ?_); refine with_tabW spec_l07Read.tab6 spec_l07Read.bits6 (fun HT_ HW_ => ?_); generalize w24.drew = w29 at HO1_1 HO1_2 BK101 BK102 BK103 HK HB hHeld ⊢; refine qP 2 35 z97_1 ?_; refine qP 3 36 z97_2 ?_; refine qK5 0 33 z97_3 ?_; refine qK5 1 34 z97_4 ?_; refine qK5 4 37 z97_5 ?_; refine qOn 5 (some 38) z97_6 fun K hK => ?_; refine qGo Try.func126 #[.agg #[.slice A0_0 l0_0.length c0_0, .int .i64 a0_1], .int .i64 a2, .int .i64 a1_0] ?_; (with_reducible refine (spec_l06Read.calls k _ _ l0_0 a0_1 a2 a1_0 t107 _ ?side1 ?side2 A19.out).mono ?_); (case side1 => exact qa60); (case side2 => exact HC0_0.out); rintro e w30 ⟨rfl, hb⟩; refine ⟨_, rfl, ?_⟩; replace HO1_1 := qO (Kd.R_below (qrR HO1_1.out) hb); replace HO1_2 := qO (Kd.R_below (qrR HO1_2.out) hb); replace BK101 := qO (blk_below (qk BK101.out) hb); replace BK102 := qO (blk_below (qk BK102.out) hb); replace BK103 := qO (blk_below (qk BK103.out) hb); replace HK := qO (Kept.below (w := w) (S := (fun k_ => P1_1_ k_ ∨ P1_2_ k_)) qa24 hb); replace HB := qO (below_step (qH HB.out) hb); clear hb; refine hK.out _ _ ⟨qc0 BK102.out, qc1 BK102.out, qc2 BK102.out, qc0 BK101.out, qc1 BK101.out⟩ (fun hHeld => ?_); clear hK K; refine qNm ?_; refine qOn 6 none z97_7 fun K hK => ?_; have hs31 := qc0 BK103.out; have hfs31 := blk_frozen BK103.out 0; have hns31_0 := NB101_103.out; have hns31_1 := NB102_103.out; have hms31_0 := NB103_101.out; have hms31_1 := NB103_102.out; have hs32 := qc1 BK103.out; have hfs32 := blk_frozen BK103.out 1; have hns32_0 := NB101_103.out; have hns32_1 := NB102_103.out; have hms32_0 := NB103_101.out; have hms32_1 := NB103_102.out; have hs33 := qc2 BK103.out; have hfs33 := blk_frozen BK103.out 2; have hns33_0 := NB101_103.out; have hns33_1 := NB102_103.out; have hms33_0 := NB103_101.out; have hms33_1 := NB103_102.out; refine skip_ (w1 := ?_) (by rfl) rfl ?_ ?_; rotate_left
   ·go_simp
    rfl
   refine hK.out _ _ ⟨((cell_far (p := ⟨gb103, _, none⟩) NB102_103.out _).trans (((cell_far (p := ⟨gb103, _, none⟩) NB102_103.out _).trans (((cell_far (p := ⟨gb103, _, none⟩) NB102_103.out _).trans (hHeld.1)))))), ((cell_far (p := ⟨gb103, _, none⟩) NB102_103.out _).trans (((cell_far (p := ⟨gb103, _, none⟩) NB102_103.out _).trans (((cell_far (p := ⟨gb103, _, none⟩) NB102_103.out _).trans (hHeld.2.1)))))), ((cell_far (p := ⟨gb103, _, none⟩) NB102_103.out _).trans (((cell_far (p := ⟨gb103, _, none⟩) NB102_103.out _).trans (((cell_far (p := ⟨gb103, _, none⟩) NB102_103.out _).trans (hHeld.2.2.1)))))), ((cell_far (p := ⟨gb103, _, none⟩) NB101_103.out _).trans (((cell_far (p := ⟨gb103, _, none⟩) NB101_103.out _).trans (((cell_far (p := ⟨gb103, _, none⟩) NB101_103.out _).trans (hHeld.2.2.2.1)))))), ((cell_far (p := ⟨gb103, _, none⟩) NB101_103.out _).trans (((cell_far (p := ⟨gb103, _, none⟩) NB101_103.out _).trans (((cell_far (p := ⟨gb103, _, none⟩) NB101_103.out _).trans (hHeld.2.2.2.2))))))⟩ (fun hHeld => ?_); clear hK K; refine qP 7 7 z97_8 ?_; refine done_ (done_of HT_.out qa18) ?_
   try go_wp2
   refine bodyPost_ret (results_ct rfl _ _ gb103 65 #[.int .i64 a1_0, .slice Ao21 l1_1.length co21, .slice Ao22 l1_2.length co22] (0, 0) _ rfl (qU (qU (qU BK103.out))) Try.underlying65 rfl qa18) rfl ?_
   exact ⟨_, _, qa2, qrR (qR3 HO1_1.out BK103.out), qrR (qR3 HO1_2.out BK103.out), qH HB.out, qa24⟩
  ·replace c18 := Bool.eq_false_iff.mpr c18
   subst c18; rw [qfn] at H; obtain ⟨y108, hy108⟩ : ∃ y_ : List Int, y_ = (([] : List Int)) := ⟨_, rfl⟩; (first | replace H := qsb hy108 H | rw [← hy108] at H)
   have Ny108 := qO hy108; clear hy108
   by_cases c34 : y108.length + l1_1.length < 17592186044416
   ·rw [if_pos c34] at H
    have LMc34 := qO c34; clear c34; obtain ⟨y111, hy111⟩ : ∃ y_ : List Int, y_ = (y108 ++ l1_1) := ⟨_, rfl⟩; (first | replace H := qsb hy111 H | rw [← hy111] at H)
    have Ny111 := qO hy111; clear hy111
    by_cases c35 : y111.length < 17592186044416
    ·rw [if_pos c35] at H
     have LMc35 := qO c35; clear c35; obtain ⟨y114, hy114⟩ : ∃ y_ : List Int, y_ = (y111 ++ [a2]) := ⟨_, rfl⟩; (first | replace H := qsb hy114 H | rw [← hy114] at H)
     have Ny114 := qO hy114; clear hy114; replace H := Option.bind_eq_some_iff.mp H; obtain ⟨t117, A360, H⟩ := H; have A36 := qO A360; clear A360; simp only [Option.some.injEq, Prod.mk.injEq] at H; obtain ⟨rfl, rfl, rfl, rfl⟩ := H
     go_enter Try.func97, Try.ntmps97
     try go_wp2_with (first | ((with_reducible refine gate_dst (N := 3) rfl ?_); refine qX 3 #[.slice A0_0 l0_0.length c0_0, .int .i64 a0_1] 28 ?_; intro gb101 hg w37 hbox hb; have hx_ := qHX HB hb qa0; have BK101 := qO (hbox); have GW101 := qO ((by rw [hg]; exact qa56 : w.heap.size ≤ gb101)); have GE101 := qO ((qa3 : w0.heap.size ≤ gb101)); replace HO1_1 := qO (Kd.R_below (qrR HO1_1.out) hb); replace HO1_2 := qO (Kd.R_below (qrR HO1_2.out) hb); replace HK := qO (Kept.below (w := w) (S := (fun k_ => P1_1_ k_ ∨ P1_2_ k_)) qa78 hb); replace HB := qO (below_step (below_step HB.out hx_) hb); clear hx_ hb hbox hg; obtain ⟨Ao38, co38, eo38⟩ := Kd.R_slice HO1_1.out; subst eo38; obtain ⟨Ao39, co39, eo39⟩ := Kd.R_slice HO1_2.out; subst eo39) | ((with_reducible refine gate_dst (N := 4) rfl ?_); refine qX 4 #[.int .i64 a1_0, .slice Ao38 l1_1.length co38, .slice Ao39 l1_2.length co39] 65 ?_; intro gb102 hg w40 hbox hb; have BK102 := qO (hbox); have GW102 := qO ((by rw [hg]; exact qa52 : w.heap.size ≤ gb102)); have GE102 := qO ((qa38 : w0.heap.size ≤ gb102)); have NB101_102 := qO ((qLt hg (qk BK101.out))); have NB102_101 := qO (Ne.symm NB101_102.out); replace HO1_1 := qO (Kd.R_below (qrR HO1_1.out) hb); replace HO1_2 := qO (Kd.R_below (qrR HO1_2.out) hb); replace BK101 := qO (blk_below (qk BK101.out) hb); replace HK := qO (Kept.below (w := w) (S := (fun k_ => P1_1_ k_ ∨ P1_2_ k_)) qa65 hb); replace HB := qO (below_step (qH HB.out) hb); clear hb hbox hg) | ((with_reducible refine gate_dst (N := 6) rfl ?_); refine qX 6 #[.int .i64 0, .slice none 0 0, .slice none 0 0] 65 ?_; intro gb103 hg w41 hbox hb; have BK103 := qO (hbox); have GW103 := qO ((by rw [hg]; exact qa48 : w.heap.size ≤ gb103)); have GE103 := qO ((qa38 : w0.heap.size ≤ gb103)); have NB101_103 := qO ((qLt hg (qk BK101.out))); have NB103_101 := qO (Ne.symm NB101_103.out); have NB102_103 := qO ((qLt hg (qk BK102.out))); have NB103_102 := qO (Ne.symm NB102_103.out); replace HO1_1 := qO (Kd.R_below (qrR HO1_1.out) hb); replace HO1_2 := qO (Kd.R_below (qrR HO1_2.out) hb); replace BK101 := qO (blk_below (qk BK101.out) hb); replace BK102 := qO (blk_below (qk BK102.out) hb); replace HK := qO (Kept.below (w := w) (S := (fun k_ => P1_1_ k_ ∨ P1_2_ k_)) qa57 hb); replace HB := qO (below_step (qH HB.out) hb); clear hb hbox hg; have hnb42 := NB102_101.out; have hnc42 := NB101_102.out; have hnb43 := NB102_103.out; have hnc43 := NB103_102.out; obtain ⟨hcz44_0, hcz44_1, hcz44_2, hfz44_0, hfz44_1, hfz44_2⟩ := qb3 BK102.out) | ((with_reducible refine gate_callee (f := 124) rfl ?_); refine qGL 14 Try.func124 #[.slice Ao39 l1_2.length co39, .int .i64 a2] ?_; (with_reducible refine (spec_l07Written.calls k _ _ l1_2 a2 t104 false _ ?side1 ?side2 A4.out).mono ?_); (case side1 => exact qkC ((Kd.R_reads' HO1_2.out).2.2)); (case side2 => exact (Kd.R_reads' HO1_2.out).2.1); rintro e w' ⟨rfl, ⟨nd, rfl⟩⟩; refine ⟨_, rfl, ?_⟩; (try (rw [drewN_self w41]; generalize hq_ : World.drewN w41 _ = w41; replace HO1_1 : Aside0 (Kd.R (Kd.int .i64) 3 w41 w0.heap.size (fun k_ => ((P1_1_ k_ ∨ P1_2_ k_) ∨ w.heap.size ≤ k_)) (.slice Ao38 l1_1.length co38) l1_1) := ⟨qa108⟩; replace HO1_2 : Aside0 (Kd.R k58 58 w41 w0.heap.size (fun k_ => ((P1_1_ k_ ∨ P1_2_ k_) ∨ w.heap.size ≤ k_)) (.slice Ao39 l1_2.length co39) l1_2) := ⟨qa109⟩; replace BK101 : Aside0 (w41.heap[gb101]? = some (.cells #[.slice A0_0 l0_0.length c0_0, .int .i64 a0_1] 28 (0, 0))) := ⟨qa76⟩; replace BK102 : Aside0 (w41.heap[gb102]? = some (.cells #[.int .i64 a1_0, .slice Ao38 l1_1.length co38, .slice Ao39 l1_2.length co39] 65 (0, 0))) := ⟨qa77⟩; replace BK103 : Aside0 (w41.heap[gb103]? = some (.cells #[.int .i64 0, .slice none 0 0, .slice none 0 0] 65 (0, 0))) := ⟨qa92⟩; replace HK : Aside0 (Kept w w41 (fun k_ => P1_1_ k_ ∨ P1_2_ k_)) := ⟨qa35⟩; replace HB : Aside0 (Below w0.heap.size w0 w41) := ⟨qa80⟩; clear hq_)); obtain ⟨hcz45_0, hcz45_1, hcz45_2, hfz45_0, hfz45_1, hfz45_2⟩ := qb3 BK102.out) | ((with_reducible refine gate_callee (f := 125) rfl ?_); refine qGL 23 Try.func125 #[.slice Ao38 l1_1.length co38, .int .i64 a2] ?_; (with_reducible refine (spec_l07In.calls k _ _ l1_1 a2 false _ ?side1 ?side2 A17.out).mono ?_); (case side1 => exact qkC ((Kd.R_reads' HO1_1.out).2.2)); (case side2 => exact (Kd.R_reads' HO1_1.out).2.1); rintro e w' ⟨rfl, ⟨nd, rfl⟩⟩; refine ⟨_, rfl, ?_⟩; (try (rw [drewN_self w41]; generalize hq_ : World.drewN w41 _ = w41; replace HO1_1 : Aside0 (Kd.R (Kd.int .i64) 3 w41 w0.heap.size (fun k_ => ((P1_1_ k_ ∨ P1_2_ k_) ∨ w.heap.size ≤ k_)) (.slice Ao38 l1_1.length co38) l1_1) := ⟨qa108⟩; replace HO1_2 : Aside0 (Kd.R k58 58 w41 w0.heap.size (fun k_ => ((P1_1_ k_ ∨ P1_2_ k_) ∨ w.heap.size ≤ k_)) (.slice Ao39 l1_2.length co39) l1_2) := ⟨qa109⟩; replace BK101 : Aside0 (w41.heap[gb101]? = some (.cells #[.slice A0_0 l0_0.length c0_0, .int .i64 a0_1] 28 (0, 0))) := ⟨qa76⟩; replace BK102 : Aside0 (w41.heap[gb102]? = some (.cells #[.int .i64 a1_0, .slice Ao38 l1_1.length co38, .slice Ao39 l1_2.length co39] 65 (0, 0))) := ⟨qa77⟩; replace BK103 : Aside0 (w41.heap[gb103]? = some (.cells #[.int .i64 0, .slice none 0 0, .slice none 0 0] 65 (0, 0))) := ⟨qa92⟩; replace HK : Aside0 (Kept w w41 (fun k_ => P1_1_ k_ ∨ P1_2_ k_)) := ⟨qa35⟩; replace HB : Aside0 (Below w0.heap.size w0 w41) := ⟨qa80⟩; clear hq_))) | ((with_reducible refine gate_dst (N := 25) rfl ?_); refine Kd.R_lit (Kd.int .i64) _ 3 ?hg (N := 25) ?hd (xs := ([] : List Int)) (inner := []) (ok := fun _ => True) (okp := fun _ => True) ?hr ?hp (fun _ hk => hk) trivial (Below.refl _ _) (Nat.le_refl _) qa51 ?_; (case hd => rfl); (case hg => rfl); (case hr => exact qa40); (case hp => exact qa101); intro v109 w46 ho47 hb hg_ hnew_; clear hg_ hnew_; (first | rw [← Ny108.out] at ho47 | (simp only [Int.reduceToNat] at ho47; rw [← Ny108.out] at ho47)); have HO110 := qO (Kd.R_lower (Kd.R_new' (Kd.R_newM (M := fun k_ => ((P1_1_ k_ ∨ P1_2_ k_) ∨ w.heap.size ≤ k_)) ho47 (by first | exact HK.out.1 | exact (show Kept w _ (fun k_ => P1_1_ k_ ∨ P1_2_ k_) from by repeat (first | (with_reducible first | exact HK.out | apply Kept.alloc | apply Kept.drewN | apply Kept.drew | refine Kept.setCell ?_ (.inr GW101.out) _ | refine Kept.setCell ?_ (.inr GW102.out) _ | refine Kept.setCell ?_ (.inr GW103.out) _) | exact HK.out)).1) (fun k_ h_ => .inr h_)) (Kd.R_lt (qrR HO1_1.out))) (below_size (qH HB.out))); replace HO1_1 := qO (Kd.R_elder' (qrR HO1_1.out) (Kd.R_base ho47) hb); replace HO1_2 := qO (Kd.R_below (qrR HO1_2.out) hb); replace BK101 := qO (blk_below (qk BK101.out) hb); replace BK102 := qO (blk_below (qk BK102.out) hb); replace BK103 := qO (blk_below (qk BK103.out) hb); replace HK := qO (Kept.below (w := w) (S := (fun k_ => P1_1_ k_ ∨ P1_2_ k_)) qa24 hb); replace HB := qO (below_step (qH HB.out) hb); clear hb ho47; obtain ⟨hcz48_0, hcz48_1, hcz48_2, hfz48_0, hfz48_1, hfz48_2⟩ := qb3 BK102.out) | ((with_reducible refine gate_builtin (b := .append) (xs := #[.tmp 25, .tmp 27]) rfl ?_); at_builtin; refine Kd.R_append_rows (Kd.int .i64) (w0 := w0) w0.heap.size rfl (.tmp 25) (.tmp 27) 60 3 (.int .i64 0) 8 rfl Try.underlying60 info3 rfl qa30 qa13 v109 y108 l1_1 _ _ _ (fun k_ => ((P1_1_ k_ ∨ P1_2_ k_) ∨ w.heap.size ≤ k_) ∧ some k_ ≠ (.slice Ao38 l1_1.length co38 : Value).ownBlock) (fun _ => False) rfl rfl ?aO ?aR (fun _ _ h => h) (fun _ h => h.elim) ?aF ?aB ?aS ?aL ?_; (case aR => repeat (first | exact (Kd.R_reads' HO1_1.out).2.2 | with_reducible first | refine Kd.C_alloc ?_ _ | refine Kd.C_drewN ?_ _ | refine Kd.C_drew ?_)); (case aB => exact qa113); (case aF => exact qa50); (case aO => exact (qrR (Kd.R_mono HO110.out (fun _ hk => ⟨hk.1.1, hk.2⟩)))); (case aS => exact qa71); (case aL => have := LMc34.out; omega); intro v112 w49 ho hb hg hat; rw [← Ny111.out] at ho; have HO113 := qO (ho); replace HO1_1 := qO (Kd.R_after (ok := (fun k_ => ((P1_1_ k_ ∨ P1_2_ k_) ∨ w.heap.size ≤ k_))) (qrR HO1_1.out) hg hat); replace HO1_2 := qO (Kd.R_over' (qrR HO1_2.out) (Kd.R_typed (qrR HO110.out)) qa30 hg); replace BK101 := qO (blk_grown (qk BK101.out) hg (Kd.R_ne HO110.out BK101.out qa30)); replace BK102 := qO (blk_grown (qk BK102.out) hg (Kd.R_ne HO110.out BK102.out qa30)); replace BK103 := qO (blk_grown (qk BK103.out) hg (Kd.R_ne HO110.out BK103.out qa30)); replace HB := qO (hb); replace HK := qO (Kept.of_grown (S := (fun k_ => P1_1_ k_ ∨ P1_2_ k_)) hg qa24 (fun k_ e_ => (HO110.out.1 k_ e_).1.1)); clear HO110 ho hb hg hat) | ((with_reducible refine gate_builtin (b := .append) (xs := #[.tmp 28, .tmp 30]) rfl ?_); at_builtin; refine Kd.R_append (Kd.int .i64) (w0 := w0) w0.heap.size rfl (.tmp 28) (.tmp 30) 60 3 (.int .i64 0) 8 rfl Try.underlying60 info3 rfl qa30 qa13 v112 y111 a2 [.int .i64 a2] (fun k_ => ((P1_1_ k_ ∨ P1_2_ k_) ∨ w.heap.size ≤ k_) ∧ some k_ ≠ (.slice Ao38 l1_1.length co38 : Value).ownBlock) (fun _ => False) rfl rfl ?aP (fun _ hk => hk.elim) ?aF ?aO ?aB ?aS ?aL ?_; (case aP => exact rfl); (case aB => exact qa113); (case aF => exact qa50); (case aO => exact (qrR HO113.out)); (case aS => exact qa71); (case aL => have := LMc35.out; omega); intro v115 w50 ho hb hg hat; rw [← Ny114.out] at ho; have HO116 := qO (ho); replace HO1_1 := qO (Kd.R_after (ok := (fun k_ => ((P1_1_ k_ ∨ P1_2_ k_) ∨ w.heap.size ≤ k_))) (qrR HO1_1.out) hg hat); replace HO1_2 := qO (Kd.R_over' (qrR HO1_2.out) (Kd.R_typed (qrR HO113.out)) qa30 hg); replace BK101 := qO (blk_grown (qk BK101.out) hg (Kd.R_ne HO113.out BK101.out qa30)); replace BK102 := qO (blk_grown (qk BK102.out) hg (Kd.R_ne HO113.out BK102.out qa30)); replace BK103 := qO (blk_grown (qk BK103.out) hg (Kd.R_ne HO113.out BK103.out qa30)); replace HB := qO (hb); replace HK := qO (Kept.of_grown (S := (fun k_ => P1_1_ k_ ∨ P1_2_ k_)) hg qa24 (fun k_ e_ => (HO113.out.1 k_ e_).1)); clear HO113 ho hb hg hat; obtain ⟨Ao51, co51, eo51⟩ := Kd.R_slice HO116.out; subst eo51; obtain ⟨hcz52_0, hcz52_1, hcz52_2, hfz52_0, hfz52_1, hfz52_2⟩ := qb3 BK102.out))
     generalize hw_ : (w50.setCell ⟨gb102, 1, none⟩ (.slice Ao51 y114.length co51)) = w53; replace HO1_1 : Aside0 (Kd.R (Kd.int .i64) 3 w53 w0.heap.size (fun k_ => ((P1_1_ k_ ∨ P1_2_ k_) ∨ w.heap.size ≤ k_) ∧ some k_ ≠ (.slice Ao51 y114.length co51 : Value).ownBlock) (.slice Ao38 l1_1.length co38) l1_1) := ⟨by rw [← hw_]; exact qrR (Kd.R_mono (Kd.R_far (p := ⟨gb102, 1, none⟩) (Kd.R_types HO1_1.out BK102.out (by decide)) (fun _ hk => hk.2) (.slice Ao51 y114.length co51)) (fun _ hk => ⟨hk.1.1, hk.1.2⟩))⟩; replace HO1_2 : Aside0 (Kd.R k58 58 w53 w0.heap.size (fun k_ => ((P1_1_ k_ ∨ P1_2_ k_) ∨ w.heap.size ≤ k_)) (.slice Ao39 l1_2.length co39) l1_2) := ⟨by rw [← hw_]; exact qrR (qR1 HO1_2.out BK102.out)⟩; replace HO116 : Aside0 (Kd.R (Kd.int .i64) 3 w53 w0.heap.size (fun k_ => ((P1_1_ k_ ∨ P1_2_ k_) ∨ w.heap.size ≤ k_) ∧ some k_ ≠ (.slice Ao38 l1_1.length co38 : Value).ownBlock) (.slice Ao51 y114.length co51) y114) := ⟨by rw [← hw_]; exact qrR (Kd.R_mono (Kd.R_far (p := ⟨gb102, 1, none⟩) (Kd.R_types HO116.out BK102.out (by decide)) (fun _ hk => hk.2) (.slice Ao51 y114.length co51)) (fun _ hk => ⟨hk.1.1, hk.1.2⟩))⟩; replace BK101 : Aside0 (w53.heap[gb101]? = some (.cells #[.slice A0_0 l0_0.length c0_0, .int .i64 a0_1] 28 (0, 0))) := ⟨by rw [← hw_]; exact qF BK101.out NB101_102.out⟩; replace BK102 : Aside0 (w53.heap[gb102]? = some (.cells #[.int .i64 a1_0, .slice Ao51 y114.length co51, .slice Ao39 l1_2.length co39] 65 (0, 0))) := ⟨by rw [← hw_]; exact qU BK102.out⟩; replace BK103 : Aside0 (w53.heap[gb103]? = some (.cells #[.int .i64 0, .slice none 0 0, .slice none 0 0] 65 (0, 0))) := ⟨by rw [← hw_]; exact qF BK103.out NB103_102.out⟩; replace HK : Aside0 (Kept w w53 (fun k_ => P1_1_ k_ ∨ P1_2_ k_)) := ⟨by rw [← hw_]; repeat (first | (with_reducible first | exact HK.out | apply Kept.alloc | apply Kept.drewN | apply Kept.drew | refine Kept.setCell ?_ (.inr GW101.out) _ | refine Kept.setCell ?_ (.inr GW102.out) _ | refine Kept.setCell ?_ (.inr GW103.out) _) | exact HK.out)⟩; replace HB : Aside0 (Below w0.heap.size w0 w53) := ⟨qa95⟩; clear hw_; replace HO1_1 := qO (Kd.R_drew HO1_1.out); replace HO1_2 := qO (Kd.R_drew HO1_2.out); replace HO116 := qO (Kd.R_drew HO116.out); replace BK101 := qO (qkD BK101.out); replace BK102 := qO (qkD BK102.out); replace BK103 := qO (qkD BK103.out); replace HK := qO (Kept.drew HK.out); replace HB := qO (qbD HB.out); refine start_ (n := 8) (S := fun w' => w'.cell? ⟨gb102, 0, none⟩ = some (.int .i64 a1_0) ∧ w'.cell? ⟨gb102, 1, none⟩ = some (.slice Ao51 y114.length co51) ∧ w'.cell? ⟨gb102, 2, none⟩ = some (.slice Ao39 l1_2.length co39) ∧ w'.cell? ⟨gb101, 0, none⟩ = some (.slice A0_0 l0_0.length c0_0) ∧ w'.cell? ⟨gb101, 1, none⟩ = some (.int .i64 a0_1)) (ds := []) z97_0 qa18 rfl rfl ⟨qc0 BK102.out, qc1 BK102.out, qc2 BK102.out, qc0 BK101.out, qc1 BK101.out⟩ (fun hHeld => ?_); refine with_tabW spec_l07Read.tab6 spec_l07Read.bits6 (fun HT_ HW_ => ?_); generalize w53.drew = w54 at HO1_1 HO1_2 HO116 BK101 BK102 BK103 HK HB hHeld ⊢; refine qP 2 35 z97_1 ?_; refine qP 3 36 z97_2 ?_; refine qK5 0 33 z97_3 ?_; refine qK5 1 34 z97_4 ?_; refine qK5 4 37 z97_5 ?_; refine qOn 5 (some 38) z97_6 fun K hK => ?_; refine qGo Try.func126 #[.agg #[.slice A0_0 l0_0.length c0_0, .int .i64 a0_1], .int .i64 a2, .int .i64 a1_0] ?_; (with_reducible refine (spec_l06Read.calls k _ _ l0_0 a0_1 a2 a1_0 t117 _ ?side1 ?side2 A36.out).mono ?_); (case side1 => exact qa60); (case side2 => exact HC0_0.out); rintro e w55 ⟨rfl, hb⟩; refine ⟨_, rfl, ?_⟩; replace HO1_1 := qO (Kd.R_below (qrR HO1_1.out) hb); replace HO1_2 := qO (Kd.R_below (qrR HO1_2.out) hb); replace HO116 := qO (Kd.R_below (qrR HO116.out) hb); replace BK101 := qO (blk_below (qk BK101.out) hb); replace BK102 := qO (blk_below (qk BK102.out) hb); replace BK103 := qO (blk_below (qk BK103.out) hb); replace HK := qO (Kept.below (w := w) (S := (fun k_ => P1_1_ k_ ∨ P1_2_ k_)) qa24 hb); replace HB := qO (below_step (qH HB.out) hb); clear hb; refine hK.out _ _ ⟨qc0 BK102.out, qc1 BK102.out, qc2 BK102.out, qc0 BK101.out, qc1 BK101.out⟩ (fun hHeld => ?_); clear hK K; refine qNm ?_; refine qOn 6 none z97_7 fun K hK => ?_; have hs56 := qc0 BK103.out; have hfs56 := blk_frozen BK103.out 0; have hns56_0 := NB101_103.out; have hns56_1 := NB102_103.out; have hms56_0 := NB103_101.out; have hms56_1 := NB103_102.out; have hs57 := qc1 BK103.out; have hfs57 := blk_frozen BK103.out 1; have hns57_0 := NB101_103.out; have hns57_1 := NB102_103.out; have hms57_0 := NB103_101.out; have hms57_1 := NB103_102.out; have hs58 := qc2 BK103.out; have hfs58 := blk_frozen BK103.out 2; have hns58_0 := NB101_103.out; have hns58_1 := NB102_103.out; have hms58_0 := NB103_101.out; have hms58_1 := NB103_102.out; refine skip_ (w1 := ?_) (by rfl) rfl ?_ ?_; rotate_left
     ·go_simp
      rfl
     refine hK.out _ _ ⟨((cell_far (p := ⟨gb103, _, none⟩) NB102_103.out _).trans (((cell_far (p := ⟨gb103, _, none⟩) NB102_103.out _).trans (((cell_far (p := ⟨gb103, _, none⟩) NB102_103.out _).trans (hHeld.1)))))), ((cell_far (p := ⟨gb103, _, none⟩) NB102_103.out _).trans (((cell_far (p := ⟨gb103, _, none⟩) NB102_103.out _).trans (((cell_far (p := ⟨gb103, _, none⟩) NB102_103.out _).trans (hHeld.2.1)))))), ((cell_far (p := ⟨gb103, _, none⟩) NB102_103.out _).trans (((cell_far (p := ⟨gb103, _, none⟩) NB102_103.out _).trans (((cell_far (p := ⟨gb103, _, none⟩) NB102_103.out _).trans (hHeld.2.2.1)))))), ((cell_far (p := ⟨gb103, _, none⟩) NB101_103.out _).trans (((cell_far (p := ⟨gb103, _, none⟩) NB101_103.out _).trans (((cell_far (p := ⟨gb103, _, none⟩) NB101_103.out _).trans (hHeld.2.2.2.1)))))), ((cell_far (p := ⟨gb103, _, none⟩) NB101_103.out _).trans (((cell_far (p := ⟨gb103, _, none⟩) NB101_103.out _).trans (((cell_far (p := ⟨gb103, _, none⟩) NB101_103.out _).trans (hHeld.2.2.2.2))))))⟩ (fun hHeld => ?_); clear hK K; refine qP 7 7 z97_8 ?_; refine done_ (done_of HT_.out qa18) ?_
     try go_wp2
     refine bodyPost_ret (results_ct rfl _ _ gb103 65 #[.int .i64 a1_0, .slice Ao51 y114.length co51, .slice Ao39 l1_2.length co39] (0, 0) _ rfl (qU (qU (qU BK103.out))) Try.underlying65 rfl qa18) rfl ?_
     exact ⟨_, _, qa2, qrR (Kd.R_mono (Kd.R_far (p := ⟨gb103, 2, none⟩) (Kd.R_far (p := ⟨gb103, 1, none⟩) (Kd.R_far (p := ⟨gb103, 0, none⟩) (Kd.R_types HO116.out BK103.out qa30) (fun _ hk => hk.2) (.int .i64 a1_0)) (fun _ hk => hk.2) (.slice Ao51 y114.length co51)) (fun _ hk => hk.2) (.slice Ao39 l1_2.length co39)) (fun _ hk => hk.1.1)), qrR (qR3 HO1_2.out BK103.out), qH HB.out, qa24⟩
    ·rw [if_neg c35] at H
     exact absurd H qa51
   ·rw [if_neg c34] at H
    exact absurd H qa51
set_option maxHeartbeats 8000000
set_option maxRecDepth 100000
def spec_l00Src_txn.l0 : Nat → Int → List Int → Int → Int → List (List (S43)) → Int → Int → List Int → List (S58) → Option (Int × List Int × (List (S58)) × Int × Int)
 | 0, _, _, _, _, _, _, _, _, _ => none
 | k + 1, x6, x1000, x1001, x1002, x102000, x102001, x113000, x113001, x113002 => if x6 > 0 then ((spec_l00Src_chance.f x1000 x1001 x1002 2).bind fun bt116 => (if bt116.1 = true then ((spec_l00Src_next.f x1000 bt116.2.1 bt116.2.2 16).bind fun bt119 => ((spec_l07Read.f k x102000 x102001 x113000 x113001 x113002 bt119.1).bind fun bt122 => (spec_l00Src_txn.l0 k (wrap64 (x6 - 1)) x1000 bt119.2.1 bt119.2.2 x102000 x102001 bt122.1 bt122.2.1 bt122.2.2.1))) else ((spec_l00Src_put.f x1000 bt116.2.1 bt116.2.2).bind fun bt131 => (if x113002.length < 8796093022208 then (spec_l00Src_txn.l0 k (wrap64 (x6 - 1)) x1000 bt131.2.2.1 bt131.2.2.2 x102000 x102001 x113000 x113001 (x113002 ++ [(⟨bt131.1, bt131.2.1⟩ : S58)])) else (none))))) else (some (x113000, x113001, x113002, x1001, x1002))
def spec_l00Src_txn.f (k : Nat) (s0_0 : List Int) (s0_1 : Int) (s0_2 : Int) (l1_0 : List (List (S43))) (a1_1 : Int) : Option (Int × List Int × (List (S58)) × Int × Int) := (spec_l00Src_next.f s0_0 s0_1 s0_2 (wrap64 (a1_1 + 1))).bind fun bt103 => ((spec_l00Src_next.f s0_0 bt103.2.1 bt103.2.2 6).bind fun bt113 => (spec_l00Src_txn.l0 k bt113.1 s0_0 bt113.2.1 bt113.2.2 l1_0 a1_1 bt103.1 (([] : List Int)) (([] : List (S58)))))
def spec_l00Src_txn.T6 : Bool × List (List Nat × List Nat) := (true, [([], []), ([], []), ([], []), ([2], [2]), ([0, 1, 3, 3], [0, 1, 3]), ([4], [4]), ([5], [5]), ([5], [5]), ([], []), ([8, 6, 4, 0, 1, 2, 3, 4, 5, 6, 8], [6, 8]), ([7, 9, 0, 1, 2, 3, 4, 5, 6, 7, 8, 9], [7])])
def spec_l00Src_txn.B6 : List Nat := [0, 0, 0, 4, 15, 31, 63, 63, 0, 383, 1023]
theorem spec_l00Src_txn.tab6 : rtab .any (opsOf Try.f85 6) = spec_l00Src_txn.T6 := by kernel_rfl
theorem spec_l00Src_txn.bits6 : waitsOk spec_l00Src_txn.T6.2 spec_l00Src_txn.B6 = true := by kernel_rfl
def spec_l00Src_txn.T8 : Bool × List (List Nat × List Nat) := (true, [([], []), ([0], [0]), ([], []), ([2], [2]), ([3], [3]), ([1, 4, 3], [1, 4]), ([0, 1, 2, 3, 4, 5], []), ([6, 5, 5, 0, 1, 2, 3, 4, 5], [5, 6])])
def spec_l00Src_txn.B8 : List Nat := [0, 1, 0, 4, 12, 31, 63, 127]
theorem spec_l00Src_txn.tab8 : rtab .any (opsOf Try.f85 8) = spec_l00Src_txn.T8 := by kernel_rfl
theorem spec_l00Src_txn.bits8 : waitsOk spec_l00Src_txn.T8.2 spec_l00Src_txn.B8 = true := by kernel_rfl
def z85_0 := #[qf,qf,qf,qf,qf,qf,qf,qf,qf,qf,qf]
def z85_1 := #[qf,qf,qt,qf,qf,qf,qf,qf,qf,qf,qf]
def z85_2 := #[qt,qf,qt,qf,qf,qf,qf,qf,qf,qf,qf]
def z85_3 := #[qt,qt,qt,qf,qf,qf,qf,qf,qf,qf,qf]
def z85_4 := #[qt,qt,qt,qt,qt,qt,qt,qt,qt,qf,qf]
def z85_5 := #[qt,qt,qt,qt,qf,qf,qf,qf,qf,qf,qf]
def z85_6 := #[qt,qt,qt,qf,qf,qf,qf,qf,qt,qf,qf]
def z85_7 := #[qt,qt,qt,qt,qt,qf,qf,qf,qf,qf,qf]
def z85_8 := #[qt,qt,qt,qt,qf,qf,qf,qf,qt,qf,qf]
def z85_9 := #[qt,qt,qt,qt,qt,qt,qf,qf,qf,qf,qf]
def z85_10 := #[qt,qt,qt,qt,qt,qt,qt,qf,qf,qf,qf]
def z85_11 := #[qt,qt,qt,qt,qt,qt,qt,qt,qf,qf,qf]
def z85_12 := #[qt,qt,qt,qt,qt,qf,qf,qf,qt,qf,qf]
def z85_13 := #[qt,qt,qt,qt,qt,qt,qf,qf,qt,qf,qf]
def z85_14 := #[qt,qt,qt,qt,qt,qt,qt,qf,qt,qf,qf]
def z85_15 := #[qt,qt,qt,qt,qt,qt,qt,qt,qt,qt,qf]
def z85_16 := #[qt,qt,qt,qt,qt,qt,qt,qt,qt,qt,qt]
def z85_17 := #[qf,qf,qf,qf,qf,qf,qf,qf]
def z85_18 := #[qt,qf,qf,qf,qf,qf,qf,qf]
def z85_19 := #[qt,qf,qt,qf,qf,qf,qf,qf]
def z85_20 := #[qt,qt,qt,qf,qf,qf,qf,qf]
def z85_21 := #[qt,qt,qt,qt,qf,qf,qf,qf]
def z85_22 := #[qt,qt,qt,qt,qt,qf,qf,qf]
def z85_23 := #[qt,qt,qt,qt,qt,qt,qf,qf]
def z85_24 := #[qt,qt,qt,qt,qt,qt,qt,qf]
def z85_25 := #[qt,qt,qt,qt,qt,qt,qt,qt]
theorem spec_l00Src_txn.calls (k : Nat) (g : Nat) (s0_0 : List Int) (s0_1 : Int) (s0_2 : Int) (A1_0 : Option Addr) (c1_0 : Nat) (l1_0 : List (List (S43))) (a1_1 : Int) (r1 : Int) (r2 : List Int) (r3 : List (S58)) (r4 : Int) (r5 : Int) (w0 w : World) (hI : IsS128 w0 w g s0_0 s0_1 s0_2) (hB : Below w0.heap.size w0 w) (hr1_0 : ∀ W_, KeepBut w W_ g none → Kd.C (Kd.slice 43 k43) W_ A1_0 l1_0.length l1_0) (hc1_0 : l1_0.length ≤ c1_0) (h : spec_l00Src_txn.f k s0_0 s0_1 s0_2 l1_0 a1_1 = some (r1, r2, r3, r4, r5)) :
  Calls Try.prog 85 #[.pointer (some ⟨g, 0, none⟩), .agg #[.slice A1_0 l1_0.length c1_0, .int .i64 a1_1]] w fun e w' => ∃ v1_ v2_ : Value, e = .returned (.agg #[.int .i64 r1, v1_, v2_]) ∧ Kd.R (Kd.int .i64) 3 w' w.heap.size (fun _ => True) v1_ r2 ∧ Kd.R k58 58 w' w.heap.size (fun _ => True) v2_ r3 ∧ IsS128 w0 w' g s0_0 r4 r5 ∧ Below w0.heap.size w0 w' ∧ KeepBut w w' g none := by
 have hu28 := Try.underlying28; have hu65 := Try.underlying65; have HR1_0 := qO hr1_0; have HC1_0 := qO hc1_0; clear hr1_0 hc1_0; have HI0 := qO hI; have HK := qO (KeepBut.refl w g none); have HL := qO hB.size; clear hI; have HW0 := qO hB.size; have HB := qO hB; clear hB; have H : ((spec_l00Src_next.f s0_0 s0_1 s0_2 (wrap64 (a1_1 + 1))).bind fun bt103 => ((spec_l00Src_next.f s0_0 bt103.2.1 bt103.2.2 6).bind fun bt113 => (spec_l00Src_txn.l0 k bt113.1 s0_0 bt113.2.1 bt113.2.2 l1_0 a1_1 bt103.1 (([] : List Int)) (([] : List (S58)))))) = some (r1, r2, r3, r4, r5) := h; clear h; replace H := Option.bind_eq_some_iff.mp H; obtain ⟨⟨t103, t104, t105⟩, A30, H⟩ := H; replace H : ((spec_l00Src_next.f s0_0 t104 t105 6).bind fun bt113 => (spec_l00Src_txn.l0 k bt113.1 s0_0 bt113.2.1 bt113.2.2 l1_0 a1_1 t103 (([] : List Int)) (([] : List (S58))))) = some (r1, r2, r3, r4, r5) := H; have A3 := qO A30; clear A30; obtain ⟨y106, hy106⟩ : ∃ y_ : List Int, y_ = (([] : List Int)) := ⟨_, rfl⟩; (first | replace H := qsb hy106 H | rw [← hy106] at H)
 have Ny106 := qO hy106; clear hy106; obtain ⟨y109, hy109⟩ : ∃ y_ : List (S58), y_ = (([] : List (S58))) := ⟨_, rfl⟩; (first | replace H := qsb hy109 H | rw [← hy109] at H)
 have Ny109 := qO hy109; clear hy109; replace H := Option.bind_eq_some_iff.mp H; obtain ⟨⟨t113, t114, t115⟩, A40, H⟩ := H; replace H : (spec_l00Src_txn.l0 k t113 s0_0 t114 t115 l1_0 a1_1 t103 y106 y109) = some (r1, r2, r3, r4, r5) := H; have A4 := qO A40; clear A40; have H' := qO H; clear H
 go_enter Try.func85, Try.ntmps85
 go_wp2_with (first | ((with_reducible refine gate_dst (N := 3) rfl ?_); refine qX 3 #[.slice A1_0 l1_0.length c1_0, .int .i64 a1_1] 28 ?_; intro gb101 hg w5 hbox hb; have BK101 := qO (hbox); have GW101 := qO ((qa29 : w.heap.size ≤ gb101)); have GE101 := qO ((Nat.le_trans HW0.out (qa29 : w.heap.size ≤ gb101) : w0.heap.size ≤ gb101)); have NB0_101 := qO ((by rw [hg]; exact Nat.ne_of_lt (IsS128.lt (show IsS128 w0 _ g s0_0 s0_1 s0_2 from by repeat (first | (with_reducible first | exact HI0.out | apply IsS128.alloc | apply IsS128.drewN | apply IsS128.drew | apply IsS128.set_1 | apply IsS128.set_2) | exact HI0.out))) : g ≠ gb101)); have NB101_0 := qO ((by rw [hg]; exact Nat.ne_of_gt (IsS128.lt (show IsS128 w0 _ g s0_0 s0_1 s0_2 from by repeat (first | (with_reducible first | exact HI0.out | apply IsS128.alloc | apply IsS128.drewN | apply IsS128.drew | apply IsS128.set_1 | apply IsS128.set_2) | exact HI0.out))) : gb101 ≠ g)); replace HK := qO (KeepBut.trans qa8 (KeepBut.of_below hb g none) (.inl rfl)); replace HB := qO (below_step qa11 hb); replace HI0 := qO (IsS128.below qa7 hb); clear hb hbox hg) | ((with_reducible refine gate_dst (N := 4) rfl ?_); refine qX 4 #[.int .i64 0, .slice none 0 0, .slice none 0 0] 65 ?_; intro gb102 hg w6 hbox hb; have BK102 := qO (hbox); have GW102 := qO ((qa45 : w.heap.size ≤ gb102)); have GE102 := qO ((Nat.le_trans HW0.out (qa45 : w.heap.size ≤ gb102) : w0.heap.size ≤ gb102)); have NB101_102 := qO ((qLt hg (qk BK101.out))); have NB102_101 := qO (Ne.symm NB101_102.out); have NB0_102 := qO ((by rw [hg]; exact Nat.ne_of_lt (IsS128.lt (show IsS128 w0 _ g s0_0 s0_1 s0_2 from by repeat (first | (with_reducible first | exact HI0.out | apply IsS128.alloc | apply IsS128.drewN | apply IsS128.drew | apply IsS128.set_1 | apply IsS128.set_2 | refine IsS128.far ?_ NB0_101.out _) | exact HI0.out))) : g ≠ gb102)); have NB102_0 := qO ((by rw [hg]; exact Nat.ne_of_gt (IsS128.lt (show IsS128 w0 _ g s0_0 s0_1 s0_2 from by repeat (first | (with_reducible first | exact HI0.out | apply IsS128.alloc | apply IsS128.drewN | apply IsS128.drew | apply IsS128.set_1 | apply IsS128.set_2 | refine IsS128.far ?_ NB0_101.out _) | exact HI0.out))) : gb102 ≠ g)); replace BK101 := qO (blk_below (qk BK101.out) hb); replace HK := qO (KeepBut.trans qa16 (KeepBut.of_below hb g none) (.inl rfl)); replace HB := qO (below_step qa28 hb); replace HI0 := qO (IsS128.below qa17 hb); clear hb hbox hg; have hnb7 := NB101_102.out; have hnc7 := NB102_101.out; have hnb8 := NB101_0.out; have hnc8 := NB0_101.out; obtain ⟨hcz9_0, hcz9_1, hfz9_0, hfz9_1⟩ := qb2 BK101.out) | ((with_reducible refine gate_callee (f := 108) rfl ?_); refine qGL 13 Try.func108 #[.pointer (some ⟨g, 0, none⟩), .int .i64 (wrap64 (a1_1 + 1))] ?_; (with_reducible refine (spec_l00Src_next.calls g s0_0 s0_1 s0_2 (wrap64 (a1_1 + 1)) t103 t104 t105 w0 _ ?side1 ?side2 A3.out).mono ?_); (case side1 => exact qa44); (case side2 => exact qa53); rintro e w10 ⟨rfl, hi, hb, hk⟩; refine ⟨_, rfl, ?_⟩; replace BK101 := qO (KeepBut.blk hk (qk BK101.out) NB101_0.out qa51); replace BK102 := qO (KeepBut.blk hk (qk BK102.out) NB102_0.out qa51); replace HK := qO (KeepBut.trans qa37 hk (.inl rfl)); replace HB := qO (hb); replace HI0 := qO (hi); clear hb hk hi) | ((with_reducible refine gate_dst (N := 14) rfl ?_); refine Kd.R_lit (Kd.int .i64) _ 3 ?hg (N := 14) ?hd (xs := ([] : List Int)) (inner := []) (ok := fun _ => True) (okp := fun _ => True) ?hr ?hp (fun _ hk => hk) trivial (Below.refl _ _) (Nat.le_refl _) qa51 ?_; (case hd => rfl); (case hg => rfl); (case hr => exact qa40); (case hp => exact qa101); intro v107 w11 ho12 hb hg_ hnew_; clear hg_ hnew_; (first | rw [← Ny106.out] at ho12 | (simp only [Int.reduceToNat] at ho12; rw [← Ny106.out] at ho12)); have HO108 := qO (Kd.R_lower ho12 (keep_size (w := w) (g := g) (row := none) qa37)); replace BK101 := qO (blk_below (qk BK101.out) hb); replace BK102 := qO (blk_below (qk BK102.out) hb); replace HK := qO (KeepBut.trans qa37 (KeepBut.of_below hb g none) (.inl rfl)); replace HB := qO (below_step qa53 hb); replace HI0 := qO (IsS128.below qa44 hb); clear hb ho12) | ((with_reducible refine gate_dst (N := 15) rfl ?_); refine Kd.R_lit k58 _ 58 ?hg (N := 15) ?hd (xs := ([] : List (S58))) (inner := []) (ok := fun _ => True) (okp := fun _ => True) ?hr ?hp (fun _ hk => hk) trivial (Below.refl _ _) (Nat.le_refl _) qa51 ?_; (case hd => rfl); (case hg => rfl); (case hr => exact qa40); (case hp => exact qa101); intro v110 w13 ho14 hb hg_ hnew_; clear hg_ hnew_; (first | rw [← Ny109.out] at ho14 | (simp only [Int.reduceToNat] at ho14; rw [← Ny109.out] at ho14)); have HO111 := qO (Kd.R_lower ho14 (keep_size (w := w) (g := g) (row := none) qa37)); replace HO108 := qO (Kd.R_below (qrR HO108.out) hb); replace BK101 := qO (blk_below (qk BK101.out) hb); replace BK102 := qO (blk_below (qk BK102.out) hb); replace HK := qO (KeepBut.trans qa37 (KeepBut.of_below hb g none) (.inl rfl)); replace HB := qO (below_step qa53 hb); replace HI0 := qO (IsS128.below qa44 hb); clear hb ho14; obtain ⟨Ao15, co15, eo15⟩ := Kd.R_slice HO111.out; subst eo15; obtain ⟨Ao16, co16, eo16⟩ := Kd.R_slice HO108.out; subst eo16) | ((with_reducible refine gate_dst (N := 5) rfl ?_); refine qX 5 #[.int .i64 0, .slice none 0 0, .slice none 0 0] 65 ?_; intro gb112 hg w17 hbox hb; have BK112 := qO (hbox); have GW112 := qO ((qa63 : w.heap.size ≤ gb112)); have GE112 := qO ((Nat.le_trans HW0.out (qa63 : w.heap.size ≤ gb112) : w0.heap.size ≤ gb112)); have NB101_112 := qO ((qLt hg (qk BK101.out))); have NB112_101 := qO (Ne.symm NB101_112.out); have NB102_112 := qO ((qLt hg (qk BK102.out))); have NB112_102 := qO (Ne.symm NB102_112.out); have NB0_112 := qO ((by rw [hg]; exact Nat.ne_of_lt (IsS128.lt (show IsS128 w0 _ g s0_0 t104 t105 from by repeat (first | (with_reducible first | exact HI0.out | apply IsS128.alloc | apply IsS128.drewN | apply IsS128.drew | apply IsS128.set_1 | apply IsS128.set_2 | refine IsS128.far ?_ NB0_101.out _ | refine IsS128.far ?_ NB0_102.out _) | exact HI0.out))) : g ≠ gb112)); have NB112_0 := qO ((by rw [hg]; exact Nat.ne_of_gt (IsS128.lt (show IsS128 w0 _ g s0_0 t104 t105 from by repeat (first | (with_reducible first | exact HI0.out | apply IsS128.alloc | apply IsS128.drewN | apply IsS128.drew | apply IsS128.set_1 | apply IsS128.set_2 | refine IsS128.far ?_ NB0_101.out _ | refine IsS128.far ?_ NB0_102.out _) | exact HI0.out))) : gb112 ≠ g)); replace HO108 := qO (Kd.R_below (qrR HO108.out) hb); replace HO111 := qO (Kd.R_below (qrR HO111.out) hb); replace BK101 := qO (blk_below (qk BK101.out) hb); replace BK102 := qO (blk_below (qk BK102.out) hb); replace HK := qO (KeepBut.trans qa37 (KeepBut.of_below hb g none) (.inl rfl)); replace HB := qO (below_step qa53 hb); replace HI0 := qO (IsS128.below qa44 hb); clear hb hbox hg; have hnb18 := NB112_101.out; have hnc18 := NB101_112.out; have hnb19 := NB112_102.out; have hnc19 := NB102_112.out; have hnb20 := NB112_0.out; have hnc20 := NB0_112.out; obtain ⟨hcz21_0, hcz21_1, hcz21_2, hfz21_0, hfz21_1, hfz21_2⟩ := qb3 BK112.out) | ((with_reducible refine gate_callee (f := 108) rfl ?_); refine qGL 18 Try.func108 #[.pointer (some ⟨g, 0, none⟩), .int .i64 6] ?_; (with_reducible refine (spec_l00Src_next.calls g s0_0 t104 t105 6 t113 t114 t115 w0 _ ?side1 ?side2 A4.out).mono ?_); (case side1 => exact qa10); (case side2 => exact qa14); rintro e w22 ⟨rfl, hi, hb, hk⟩; refine ⟨_, rfl, ?_⟩; replace BK101 := qO (KeepBut.blk hk (g' := gb101) (o := .cells #[.slice A1_0 l1_0.length c1_0, .int .i64 a1_1] 28 (0, 0)) (qF (qF (qF BK101.out NB101_112.out) NB101_112.out) NB101_112.out) NB101_0.out qa51); replace BK102 := qO (KeepBut.blk hk (g' := gb102) (o := .cells #[.int .i64 0, .slice none 0 0, .slice none 0 0] 65 (0, 0)) (qF (qF (qF BK102.out NB102_112.out) NB102_112.out) NB102_112.out) NB102_0.out qa51); replace HO108 := qO (Kd.R_mono (Kd.R_keep (IsS128.apart (show IsS128 w0 _ g s0_0 t104 t105 from by repeat (first | (with_reducible first | exact HI0.out | apply IsS128.alloc | apply IsS128.drewN | apply IsS128.drew | apply IsS128.set_1 | apply IsS128.set_2 | refine IsS128.far ?_ NB0_101.out _ | refine IsS128.far ?_ NB0_102.out _ | refine IsS128.far ?_ NB0_112.out _) | exact HI0.out)) (qrR (qR3 HO108.out BK112.out)) qa30) hk (fun _ h => h.2)) (fun _ h => h.1)); replace HO111 := qO (Kd.R_mono (Kd.R_keep (IsS128.apart (show IsS128 w0 _ g s0_0 t104 t105 from by repeat (first | (with_reducible first | exact HI0.out | apply IsS128.alloc | apply IsS128.drewN | apply IsS128.drew | apply IsS128.set_1 | apply IsS128.set_2 | refine IsS128.far ?_ NB0_101.out _ | refine IsS128.far ?_ NB0_102.out _ | refine IsS128.far ?_ NB0_112.out _) | exact HI0.out)) (qrR (qR3 HO111.out BK112.out)) qa30) hk (fun _ h => h.2)) (fun _ h => h.1)); replace BK112 := qO (KeepBut.blk hk (g' := gb112) (o := .cells #[.int .i64 t103, .slice Ao16 y106.length co16, .slice Ao15 y109.length co15] 65 (0, 0)) (qU (qU (qU BK112.out))) NB112_0.out qa51); replace HK := qO (KeepBut.trans qa9 hk (.inl rfl)); replace HB := qO (hb); replace HI0 := qO (hi); clear hb hk hi))
 go_loopg [6] k (fun kq v6 w' => ∃ (x6_1 : Int) (x1001_1 : Int) (x1002_1 : Int) (x113000_1 : Int) (x113001_1 : List Int) (x113002_1 : List (S58)) (u113001 : Value) (u113002 : Value), v6 = .int .i64 x6_1 ∧ Aside0 (spec_l00Src_txn.l0 kq x6_1 s0_0 x1001_1 x1002_1 l1_0 a1_1 x113000_1 x113001_1 x113002_1 = some (r1, r2, r3, r4, r5)) ∧ Aside0 (kq ≤ k) ∧ Aside0 (Kd.R (Kd.int .i64) 3 w' w.heap.size (fun _ => True) u113001 x113001_1) ∧ Aside0 (Kd.R k58 58 w' w.heap.size (fun _ => True) u113002 x113002_1) ∧ Aside0 (w'.heap[gb101]? = some (.cells #[(.slice A1_0 l1_0.length c1_0), .int .i64 a1_1] 28 (0, 0))) ∧ Aside0 (w'.heap[gb102]? = some (.cells #[.int .i64 0, (.slice none 0 0), (.slice none 0 0)] 65 (0, 0))) ∧ Aside0 (w'.heap[gb112]? = some (.cells #[.int .i64 x113000_1, u113001, u113002] 65 (0, 0))) ∧ Aside0 (IsS128 w0 w' g s0_0 x1001_1 x1002_1) ∧ Aside0 (KeepBut w w' g none) ∧ Aside0 (Below w0.heap.size w0 w'))
 case atStart => exact ⟨(t113), (t114), (t115), (t103), (y106), (y109), (.slice Ao16 y106.length co16), (.slice Ao15 y109.length co15), qa6, H', ⟨Nat.le_refl _⟩, ⟨qrR HO108.out⟩, ⟨qrR HO111.out⟩, ⟨qk BK101.out⟩, ⟨qk BK102.out⟩, ⟨qk BK112.out⟩, ⟨qa10⟩, ⟨qa9⟩, ⟨qa14⟩⟩
 case round =>
  clear H'
  obtain ⟨x6_1, x1001_1, x1002_1, x113000_1, x113001_1, x113002_1, u113001, u113002, rfl, HA, HK1, HO_113001, HO_113002, BK101, BK102, BK112, HI0, HK, HB⟩ := hrel
  cases gk with
  | zero => exact absurd HA.out (by simp [spec_l00Src_txn.l0])
  | succ k1 =>
   have H := HA.out; clear HA; simp only [spec_l00Src_txn.l0] at H
   by_cases c23 : x6_1 > 0
   ·rw [if_pos c23] at H
    have c23b0 := qgt c23; clear c23; replace H := Option.bind_eq_some_iff.mp H; obtain ⟨⟨t116, t117, t118⟩, A240, H⟩ := H; replace H : (if t116 = true then ((spec_l00Src_next.f s0_0 t117 t118 16).bind fun bt119 => ((spec_l07Read.f k1 l1_0 a1_1 x113000_1 x113001_1 x113002_1 bt119.1).bind fun bt122 => (spec_l00Src_txn.l0 k1 (wrap64 (x6_1 - 1)) s0_0 bt119.2.1 bt119.2.2 l1_0 a1_1 bt122.1 bt122.2.1 bt122.2.2.1))) else ((spec_l00Src_put.f s0_0 t117 t118).bind fun bt131 => (if x113002_1.length < 8796093022208 then (spec_l00Src_txn.l0 k1 (wrap64 (x6_1 - 1)) s0_0 bt131.2.2.1 bt131.2.2.2 l1_0 a1_1 x113000_1 x113001_1 (x113002_1 ++ [(⟨bt131.1, bt131.2.1⟩ : S58)])) else (none)))) = some (r1, r2, r3, r4, r5) := H; have A24 := qO A240; clear A240
    by_cases c25 : t116 = true
    ·subst c25
     rw [if_pos rfl] at H; replace H := Option.bind_eq_some_iff.mp H; obtain ⟨⟨t119, t120, t121⟩, A260, H⟩ := H; replace H : ((spec_l07Read.f k1 l1_0 a1_1 x113000_1 x113001_1 x113002_1 t119).bind fun bt122 => (spec_l00Src_txn.l0 k1 (wrap64 (x6_1 - 1)) s0_0 t120 t121 l1_0 a1_1 bt122.1 bt122.2.1 bt122.2.2.1)) = some (r1, r2, r3, r4, r5) := H; have A26 := qO A260; clear A260; replace H := Option.bind_eq_some_iff.mp H; obtain ⟨⟨t122, t123, t126, t129⟩, A270, H⟩ := H; replace H : (spec_l00Src_txn.l0 k1 (wrap64 (x6_1 - 1)) s0_0 t120 t121 l1_0 a1_1 t122 t123 t126) = some (r1, r2, r3, r4, r5) := H; have A27 := qO A270; clear A270; have H' := qO H; clear H
     try go_wp2_with (first | ((with_reducible refine gate_callee (f := 110) rfl ?_); refine qGL 24 Try.func110 #[.pointer (some ⟨g, 0, none⟩), .int .i64 2] ?_; (with_reducible refine (spec_l00Src_chance.calls g s0_0 x1001_1 x1002_1 2 true t117 t118 w0 _ ?side1 ?side2 A24.out).mono ?_); (case side1 => exact qa10); (case side2 => exact qa14); rintro e w28 ⟨rfl, hi, hb, hk⟩; refine ⟨_, rfl, ?_⟩; replace HO_113001 := qO (Kd.R_mono (Kd.R_keep (IsS128.apart (show IsS128 w0 _ g s0_0 x1001_1 x1002_1 from by repeat (first | (with_reducible first | exact HI0.out | apply IsS128.alloc | apply IsS128.drewN | apply IsS128.drew | apply IsS128.set_1 | apply IsS128.set_2 | refine IsS128.far ?_ NB0_101.out _ | refine IsS128.far ?_ NB0_102.out _ | refine IsS128.far ?_ NB0_112.out _) | exact HI0.out)) (qrR HO_113001.out) qa30) hk (fun _ h => h.2)) (fun _ h => h.1)); replace HO_113002 := qO (Kd.R_mono (Kd.R_keep (IsS128.apart (show IsS128 w0 _ g s0_0 x1001_1 x1002_1 from by repeat (first | (with_reducible first | exact HI0.out | apply IsS128.alloc | apply IsS128.drewN | apply IsS128.drew | apply IsS128.set_1 | apply IsS128.set_2 | refine IsS128.far ?_ NB0_101.out _ | refine IsS128.far ?_ NB0_102.out _ | refine IsS128.far ?_ NB0_112.out _) | exact HI0.out)) (qrR HO_113002.out) qa30) hk (fun _ h => h.2)) (fun _ h => h.1)); replace BK101 := qO (KeepBut.blk hk (qk BK101.out) NB101_0.out qa51); replace BK102 := qO (KeepBut.blk hk (qk BK102.out) NB102_0.out qa51); replace BK112 := qO (KeepBut.blk hk (qk BK112.out) NB112_0.out qa51); replace HK := qO (KeepBut.trans qa9 hk (.inl rfl)); replace HB := qO (hb); replace HI0 := qO (hi); clear hb hk hi; obtain ⟨Ao29, co29, eo29⟩ := Kd.R_slice HO_113001.out; subst eo29; obtain ⟨Ao30, co30, eo30⟩ := Kd.R_slice HO_113002.out; subst eo30))
     replace HO_113001 := qO (Kd.R_drew HO_113001.out); replace HO_113002 := qO (Kd.R_drew HO_113002.out); replace BK101 := qO (qkD BK101.out); replace BK102 := qO (qkD BK102.out); replace BK112 := qO (qkD BK112.out); replace HI0 := qO (IsS128.drew HI0.out); replace HK := qO (keep_drew HK.out); replace HB := qO (qbD HB.out); refine start_ (n := 11) (S := fun w' => w'.cell? ⟨gb101, 0, none⟩ = some (.slice A1_0 l1_0.length c1_0) ∧ w'.cell? ⟨gb101, 1, none⟩ = some (.int .i64 a1_1) ∧ w'.cell? ⟨gb112, 0, none⟩ = some (.int .i64 x113000_1) ∧ w'.cell? ⟨gb112, 1, none⟩ = some (.slice Ao29 x113001_1.length co29) ∧ w'.cell? ⟨gb112, 2, none⟩ = some (.slice Ao30 x113002_1.length co30)) (ds := []) z85_0 qa18 rfl rfl ⟨qc0 BK101.out, qc1 BK101.out, qc0 BK112.out, qc1 BK112.out, qc2 BK112.out⟩ (fun hHeld => ?_); refine with_tabW spec_l00Src_txn.tab6 spec_l00Src_txn.bits6 (fun HT_ HW_ => ?_); generalize w28.drew = w31 at HO_113001 HO_113002 BK101 BK102 BK112 HI0 HK HB hHeld ⊢; refine qP 2 28 z85_1 ?_; refine qK5 0 26 z85_2 ?_; refine qK5 1 27 z85_3 ?_; refine join_ (σ := Value × Value × Nat) 2 z85_4 (fun s_ => [(29, .int .i64 t119), (30, .tuple #[.agg #[.int .i64 t122, s_.1, s_.2.1], .int .i64 t129]), (7, .pointer (some ⟨s_.2.2, 0, none⟩)), (25, .tuple #[.agg #[.int .i64 t122, s_.1, s_.2.1], .int .i64 t129]), (31, .agg #[.int .i64 t122, s_.1, s_.2.1]), (32, .int .i64 t129)]) (fun s_ w' => (w'.cell? ⟨gb101, 0, none⟩ = some (.slice A1_0 l1_0.length c1_0) ∧ w'.cell? ⟨gb101, 1, none⟩ = some (.int .i64 a1_1) ∧ w'.cell? ⟨gb112, 0, none⟩ = some (.int .i64 x113000_1) ∧ w'.cell? ⟨gb112, 1, none⟩ = some (.slice Ao29 x113001_1.length co29) ∧ w'.cell? ⟨gb112, 2, none⟩ = some (.slice Ao30 x113002_1.length co30)) ∧ (Kd.R (Kd.int .i64) 3 w' w.heap.size (fun _ => True) s_.1 t123) ∧ (Kd.R k58 58 w' w.heap.size (fun _ => True) s_.2.1 t126) ∧ (w'.heap[gb101]? = some (.cells #[.slice A1_0 l1_0.length c1_0, .int .i64 a1_1] 28 (0, 0))) ∧ (w'.heap[gb102]? = some (.cells #[.int .i64 0, .slice none 0 0, .slice none 0 0] 65 (0, 0))) ∧ (w'.heap[gb112]? = some (.cells #[.int .i64 x113000_1, .slice Ao29 x113001_1.length co29, .slice Ao30 x113002_1.length co30] 65 (0, 0))) ∧ (w'.heap[s_.2.2]? = some (.cells #[.int .i64 0, .slice none 0 0, .slice none 0 0] 65 (0, 0))) ∧ (w.heap.size ≤ s_.2.2) ∧ (w0.heap.size ≤ s_.2.2) ∧ (g ≠ s_.2.2) ∧ (s_.2.2 ≠ g) ∧ (gb101 ≠ s_.2.2) ∧ (s_.2.2 ≠ gb101) ∧ (gb102 ≠ s_.2.2) ∧ (s_.2.2 ≠ gb102) ∧ (gb112 ≠ s_.2.2) ∧ (s_.2.2 ≠ gb112) ∧ (IsS128 w0 w' g s0_0 t120 t121) ∧ (KeepBut w w' g none) ∧ (Below w0.heap.size w0 w')) ?_ ?_; rotate_left
     ·intro hCont
      refine two_ (i := 3) (j := 8) (Ni := some 29) (Nj := some 7) z85_5 z85_6 rfl rfl rfl rfl (two_of HT_.out qa18) qa30 qa30 (fun K hK => ?_) (fun K hK => ?_)
      ·skip
       refine qGo Try.func108 #[.pointer (some ⟨g, 0, none⟩), .int .i64 16] ?_; (with_reducible refine (spec_l00Src_next.calls g s0_0 t117 t118 16 t119 t120 t121 w0 _ ?side1 ?side2 A26.out).mono ?_); (case side1 => exact qa10); (case side2 => exact qa14); rintro e w32 ⟨rfl, hi, hb, hk⟩; refine ⟨_, rfl, ?_⟩; replace HO_113001 := qO (Kd.R_mono (Kd.R_keep (IsS128.apart (show IsS128 w0 _ g s0_0 t117 t118 from by repeat (first | (with_reducible first | exact HI0.out | apply IsS128.alloc | apply IsS128.drewN | apply IsS128.drew | apply IsS128.set_1 | apply IsS128.set_2 | refine IsS128.far ?_ NB0_101.out _ | refine IsS128.far ?_ NB0_102.out _ | refine IsS128.far ?_ NB0_112.out _) | exact HI0.out)) (qrR HO_113001.out) qa30) hk (fun _ h => h.2)) (fun _ h => h.1)); replace HO_113002 := qO (Kd.R_mono (Kd.R_keep (IsS128.apart (show IsS128 w0 _ g s0_0 t117 t118 from by repeat (first | (with_reducible first | exact HI0.out | apply IsS128.alloc | apply IsS128.drewN | apply IsS128.drew | apply IsS128.set_1 | apply IsS128.set_2 | refine IsS128.far ?_ NB0_101.out _ | refine IsS128.far ?_ NB0_102.out _ | refine IsS128.far ?_ NB0_112.out _) | exact HI0.out)) (qrR HO_113002.out) qa30) hk (fun _ h => h.2)) (fun _ h => h.1)); replace BK101 := qO (KeepBut.blk hk (qk BK101.out) NB101_0.out qa51); replace BK102 := qO (KeepBut.blk hk (qk BK102.out) NB102_0.out qa51); replace BK112 := qO (KeepBut.blk hk (qk BK112.out) NB112_0.out qa51); replace HK := qO (KeepBut.trans qa9 hk (.inl rfl)); replace HB := qO (hb); replace HI0 := qO (hi); clear hb hk hi; refine hK.out _ _ ⟨qc0 BK101.out, qc1 BK101.out, qc0 BK112.out, qc1 BK112.out, qc2 BK112.out⟩ (fun hHeld => ?_); clear hK K; refine qNm ?_
       refine two_ (i := 4) (j := 8) (Ni := some 30) (Nj := some 7) z85_7 z85_8 rfl rfl rfl rfl (two_of HT_.out qa18) qa30 qa30 (fun K hK => ?_) (fun K hK => ?_)
       ·skip
        refine qGo Try.func97 #[.agg #[.slice A1_0 l1_0.length c1_0, .int .i64 a1_1], .agg #[.int .i64 x113000_1, .slice Ao29 x113001_1.length co29, .slice Ao30 x113002_1.length co30], .int .i64 t119] ?_; (with_reducible refine (spec_l07Read.calls k1 _ _ l1_0 a1_1 x113000_1 (fun k_ => some k_ = (.slice Ao29 x113001_1.length co29 : Value).ownBlock) (.slice Ao29 x113001_1.length co29) x113001_1 (fun k_ => some k_ = (.slice Ao30 x113002_1.length co30 : Value).ownBlock) (.slice Ao30 x113002_1.length co30) x113002_1 t119 t122 t123 t126 t129 w0 _ ?side1 ?side2 ?side3 ?side4 ?side5 A27.out).mono ?_); (case side1 => exact qa14); (case side2 => exact fun W_ hk_ => HR1_0.out W_ (Kept.keep (by repeat (first | (with_reducible first | exact HK.out | apply KeepBut.set_ | apply keep_drewN | apply keep_drew | apply keep_alloc | refine keep_far ?_ GW101.out _ | refine keep_far ?_ GW102.out _ | refine keep_far ?_ GW112.out _) | exact HK.out)) hk_ (fun k_ hs_ => Or.elim hs_ (fun e_ => (fun e_ => Kd.R_base HO_113001.out k_ e_.symm) e_) (fun e_ => (fun e_ => Kd.R_base HO_113002.out k_ e_.symm) e_)))); (case side3 => exact HC1_0.out); (case side4 => exact qa115); (case side5 => exact qa116); rintro e w33 ⟨v124, v127, rfl, ho0, ho1, hb, hkp⟩; refine ⟨_, rfl, ?_⟩; have HO125 := qO (Kd.R_mono (ok' := fun k_ => True) (Kd.R_raise (d := (Kd.int .i64)) (b := w0.heap.size) (b' := w.heap.size) (fun _ _ _ _ h_ => h_) ho0 (fun k_ e_ => Or.elim (ho0.1 k_ e_) (fun hs_ => Or.elim hs_ (fun e_ => (fun e_ => Kd.R_base HO_113001.out k_ e_.symm) e_) (fun e_ => (fun e_ => Kd.R_base HO_113002.out k_ e_.symm) e_)) (fun hn_ => Nat.le_trans (keep_size (w := w) (g := g) (row := none) qa9) hn_))) (fun k_ hk_ => trivial)); have HO128 := qO (Kd.R_mono (ok' := fun k_ => True) (Kd.R_raise (d := k58) (b := w0.heap.size) (b' := w.heap.size) (fun _ _ _ _ h_ => h_) ho1 (fun k_ e_ => Or.elim (ho1.1 k_ e_) (fun hs_ => Or.elim hs_ (fun e_ => (fun e_ => Kd.R_base HO_113001.out k_ e_.symm) e_) (fun e_ => (fun e_ => Kd.R_base HO_113002.out k_ e_.symm) e_)) (fun hn_ => Nat.le_trans (keep_size (w := w) (g := g) (row := none) qa9) hn_))) (fun k_ hk_ => trivial)); replace BK101 := qO (blk_kept (qk BK101.out) hkp (fun hs_ => Or.elim hs_ (fun e_ => (fun e_ => (Kd.R_ne HO_113001.out BK101.out qa30) e_) e_) (fun e_ => (fun e_ => (Kd.R_ne HO_113002.out BK101.out qa30) e_) e_))); replace BK102 := qO (blk_kept (qk BK102.out) hkp (fun hs_ => Or.elim hs_ (fun e_ => (fun e_ => (Kd.R_ne HO_113001.out BK102.out qa30) e_) e_) (fun e_ => (fun e_ => (Kd.R_ne HO_113002.out BK102.out qa30) e_) e_))); replace BK112 := qO (blk_kept (qk BK112.out) hkp (fun hs_ => Or.elim hs_ (fun e_ => (fun e_ => (Kd.R_ne HO_113001.out BK112.out qa30) e_) e_) (fun e_ => (fun e_ => (Kd.R_ne HO_113002.out BK112.out qa30) e_) e_))); replace HI0 := qO (IsS128.kept qa10 hkp (fun hs_ => Or.elim hs_ (fun e_ => (fun e_ => (IsS128.own_ne HI0.out HO_113001.out qa30) e_) e_) (fun e_ => (fun e_ => (IsS128.own_ne HI0.out HO_113002.out qa30) e_) e_))); replace HK := qO (Kept.keepG qa9 hkp (fun k_ hs_ => Or.elim hs_ (fun e_ => (fun e_ => .inr (Kd.R_base HO_113001.out k_ e_.symm)) e_) (fun e_ => (fun e_ => .inr (Kd.R_base HO_113002.out k_ e_.symm)) e_))); replace HB := qO (hb); clear HO_113001 HO_113002; (try clear hb); (try clear hkp); clear ho0 ho1; refine hK.out _ _ ⟨qc0 BK101.out, qc1 BK101.out, qc0 BK112.out, qc1 BK112.out, qc2 BK112.out⟩ (fun hHeld => ?_); clear hK K; refine qNm ?_; refine qP 5 25 z85_9 ?_; refine qP 6 31 z85_10 ?_; refine qP 7 32 z85_11 ?_; refine qOn 8 (some 7) z85_4 fun K hK => ?_; refine qX2 7 #[.int .i64 0, .slice none 0 0, .slice none 0 0] 65 ?_; intro gb130 hg w34 hbox hb; have BK130 := qO (hbox); have GW130 := qO ((qa25 : w.heap.size ≤ gb130)); have GE130 := qO ((Nat.le_trans HW0.out (qa25 : w.heap.size ≤ gb130) : w0.heap.size ≤ gb130)); have NB101_130 := qO ((qLt hg (qk BK101.out))); have NB130_101 := qO (Ne.symm NB101_130.out); have NB102_130 := qO ((qLt hg (qk BK102.out))); have NB130_102 := qO (Ne.symm NB102_130.out); have NB112_130 := qO ((qLt hg (qk BK112.out))); have NB130_112 := qO (Ne.symm NB112_130.out); have NB0_130 := qO ((by rw [hg]; exact Nat.ne_of_lt (IsS128.lt (show IsS128 w0 _ g s0_0 t120 t121 from by repeat (first | (with_reducible first | exact HI0.out | apply IsS128.alloc | apply IsS128.drewN | apply IsS128.drew | apply IsS128.set_1 | apply IsS128.set_2 | refine IsS128.far ?_ NB0_101.out _ | refine IsS128.far ?_ NB0_102.out _ | refine IsS128.far ?_ NB0_112.out _) | exact HI0.out))) : g ≠ gb130)); have NB130_0 := qO ((by rw [hg]; exact Nat.ne_of_gt (IsS128.lt (show IsS128 w0 _ g s0_0 t120 t121 from by repeat (first | (with_reducible first | exact HI0.out | apply IsS128.alloc | apply IsS128.drewN | apply IsS128.drew | apply IsS128.set_1 | apply IsS128.set_2 | refine IsS128.far ?_ NB0_101.out _ | refine IsS128.far ?_ NB0_102.out _ | refine IsS128.far ?_ NB0_112.out _) | exact HI0.out))) : gb130 ≠ g)); replace HO125 := qO (Kd.R_below (qrR HO125.out) hb); replace HO128 := qO (Kd.R_below (qrR HO128.out) hb); replace BK101 := qO (blk_below (qk BK101.out) hb); replace BK102 := qO (blk_below (qk BK102.out) hb); replace BK112 := qO (blk_below (qk BK112.out) hb); replace HK := qO (KeepBut.trans qa9 (KeepBut.of_below hb g none) (.inl rfl)); replace HB := qO (below_step qa14 hb); replace HI0 := qO (IsS128.below qa10 hb); clear hb hbox hg; refine hK.out _ _ ⟨qc0 BK101.out, qc1 BK101.out, qc0 BK112.out, qc1 BK112.out, qc2 BK112.out⟩ (fun hHeld => ?_); clear hK K; refine qNm ?_
        exact norm_ (by simp only [putAll, Act.put, qzA, qzB, qzC]) (hCont (v124, v127, gb130) _ ⟨hHeld, (qrR HO125.out), (qrR HO128.out), (qk BK101.out), (qk BK102.out), (qk BK112.out), (qk BK130.out), GW130.out, GE130.out, NB0_130.out, NB130_0.out, NB101_130.out, NB130_101.out, NB102_130.out, NB130_102.out, NB112_130.out, NB130_112.out, (by repeat (first | (with_reducible first | exact HI0.out | apply IsS128.alloc | apply IsS128.drewN | apply IsS128.drew | apply IsS128.set_1 | apply IsS128.set_2 | refine IsS128.far ?_ NB0_101.out _ | refine IsS128.far ?_ NB0_102.out _ | refine IsS128.far ?_ NB0_112.out _ | refine IsS128.far ?_ NB0_130.out _) | exact HI0.out)), (by repeat (first | (with_reducible first | exact HK.out | apply KeepBut.set_ | apply keep_drewN | apply keep_drew | apply keep_alloc | refine keep_far ?_ GW101.out _ | refine keep_far ?_ GW102.out _ | refine keep_far ?_ GW112.out _ | refine keep_far ?_ GW130.out _) | exact HK.out)), (by repeat (first | (with_reducible first | exact HB.out | apply qbA | apply qbN | apply qbD | refine qbS ?_ (IsS128.ge HI0.out) | refine qbS ?_ GE101.out | refine qbS ?_ GE102.out | refine qbS ?_ GE112.out | refine qbS ?_ GE130.out) | exact HB.out))⟩)
       ·skip
        refine qX2 7 #[.int .i64 0, .slice none 0 0, .slice none 0 0] 65 ?_; intro gb130 hg w33 hbox hb; have BK130 := qO (hbox); have GW130 := qO ((qa25 : w.heap.size ≤ gb130)); have GE130 := qO ((Nat.le_trans HW0.out (qa25 : w.heap.size ≤ gb130) : w0.heap.size ≤ gb130)); have NB101_130 := qO ((qLt hg (qk BK101.out))); have NB130_101 := qO (Ne.symm NB101_130.out); have NB102_130 := qO ((qLt hg (qk BK102.out))); have NB130_102 := qO (Ne.symm NB102_130.out); have NB112_130 := qO ((qLt hg (qk BK112.out))); have NB130_112 := qO (Ne.symm NB112_130.out); have NB0_130 := qO ((by rw [hg]; exact Nat.ne_of_lt (IsS128.lt (show IsS128 w0 _ g s0_0 t120 t121 from by repeat (first | (with_reducible first | exact HI0.out | apply IsS128.alloc | apply IsS128.drewN | apply IsS128.drew | apply IsS128.set_1 | apply IsS128.set_2 | refine IsS128.far ?_ NB0_101.out _ | refine IsS128.far ?_ NB0_102.out _ | refine IsS128.far ?_ NB0_112.out _) | exact HI0.out))) : g ≠ gb130)); have NB130_0 := qO ((by rw [hg]; exact Nat.ne_of_gt (IsS128.lt (show IsS128 w0 _ g s0_0 t120 t121 from by repeat (first | (with_reducible first | exact HI0.out | apply IsS128.alloc | apply IsS128.drewN | apply IsS128.drew | apply IsS128.set_1 | apply IsS128.set_2 | refine IsS128.far ?_ NB0_101.out _ | refine IsS128.far ?_ NB0_102.out _ | refine IsS128.far ?_ NB0_112.out _) | exact HI0.out))) : gb130 ≠ g)); replace HO_113001 := qO (Kd.R_below (qrR HO_113001.out) hb); replace HO_113002 := qO (Kd.R_below (qrR HO_113002.out) hb); replace BK101 := qO (blk_below (qk BK101.out) hb); replace BK102 := qO (blk_below (qk BK102.out) hb); replace BK112 := qO (blk_below (qk BK112.out) hb); replace HK := qO (KeepBut.trans qa9 (KeepBut.of_below hb g none) (.inl rfl)); replace HB := qO (below_step qa14 hb); replace HI0 := qO (IsS128.below qa10 hb); clear hb hbox hg; refine hK.out _ _ ⟨qc0 BK101.out, qc1 BK101.out, qc0 BK112.out, qc1 BK112.out, qc2 BK112.out⟩ (fun hHeld => ?_); clear hK K; refine qNm ?_; refine qOn 4 (some 30) z85_12 fun K hK => ?_; refine qGo Try.func97 #[.agg #[.slice A1_0 l1_0.length c1_0, .int .i64 a1_1], .agg #[.int .i64 x113000_1, .slice Ao29 x113001_1.length co29, .slice Ao30 x113002_1.length co30], .int .i64 t119] ?_; (with_reducible refine (spec_l07Read.calls k1 _ _ l1_0 a1_1 x113000_1 (fun k_ => some k_ = (.slice Ao29 x113001_1.length co29 : Value).ownBlock) (.slice Ao29 x113001_1.length co29) x113001_1 (fun k_ => some k_ = (.slice Ao30 x113002_1.length co30 : Value).ownBlock) (.slice Ao30 x113002_1.length co30) x113002_1 t119 t122 t123 t126 t129 w0 _ ?side1 ?side2 ?side3 ?side4 ?side5 A27.out).mono ?_); (case side1 => exact qa47); (case side2 => exact qa46); (case side3 => exact HC1_0.out); (case side4 => exact qa115); (case side5 => exact qa116); rintro e w34 ⟨v124, v127, rfl, ho0, ho1, hb, hkp⟩; refine ⟨_, rfl, ?_⟩; have HO125 := qO (Kd.R_mono (ok' := fun k_ => True) (Kd.R_raise (d := (Kd.int .i64)) (b := w0.heap.size) (b' := w.heap.size) (fun _ _ _ _ h_ => h_) ho0 (fun k_ e_ => Or.elim (ho0.1 k_ e_) (fun hs_ => Or.elim hs_ (fun e_ => (fun e_ => Kd.R_base HO_113001.out k_ e_.symm) e_) (fun e_ => (fun e_ => Kd.R_base HO_113002.out k_ e_.symm) e_)) (fun hn_ => Nat.le_trans (keep_size (w := w) (g := g) (row := none) qa19) hn_))) (fun k_ hk_ => trivial)); have HO128 := qO (Kd.R_mono (ok' := fun k_ => True) (Kd.R_raise (d := k58) (b := w0.heap.size) (b' := w.heap.size) (fun _ _ _ _ h_ => h_) ho1 (fun k_ e_ => Or.elim (ho1.1 k_ e_) (fun hs_ => Or.elim hs_ (fun e_ => (fun e_ => Kd.R_base HO_113001.out k_ e_.symm) e_) (fun e_ => (fun e_ => Kd.R_base HO_113002.out k_ e_.symm) e_)) (fun hn_ => Nat.le_trans (keep_size (w := w) (g := g) (row := none) qa19) hn_))) (fun k_ hk_ => trivial)); replace BK101 := qO (blk_kept (qk BK101.out) hkp (fun hs_ => Or.elim hs_ (fun e_ => (fun e_ => (Kd.R_ne HO_113001.out BK101.out qa30) e_) e_) (fun e_ => (fun e_ => (Kd.R_ne HO_113002.out BK101.out qa30) e_) e_))); replace BK102 := qO (blk_kept (qk BK102.out) hkp (fun hs_ => Or.elim hs_ (fun e_ => (fun e_ => (Kd.R_ne HO_113001.out BK102.out qa30) e_) e_) (fun e_ => (fun e_ => (Kd.R_ne HO_113002.out BK102.out qa30) e_) e_))); replace BK112 := qO (blk_kept (qk BK112.out) hkp (fun hs_ => Or.elim hs_ (fun e_ => (fun e_ => (Kd.R_ne HO_113001.out BK112.out qa30) e_) e_) (fun e_ => (fun e_ => (Kd.R_ne HO_113002.out BK112.out qa30) e_) e_))); replace HI0 := qO (IsS128.kept qa36 hkp (fun hs_ => Or.elim hs_ (fun e_ => (fun e_ => (IsS128.own_ne HI0.out HO_113001.out qa30) e_) e_) (fun e_ => (fun e_ => (IsS128.own_ne HI0.out HO_113002.out qa30) e_) e_))); replace BK130 := qO (blk_kept (qk BK130.out) hkp (fun hs_ => Or.elim hs_ (fun e_ => (fun e_ => (Kd.R_ne HO_113001.out BK130.out qa30) e_) e_) (fun e_ => (fun e_ => (Kd.R_ne HO_113002.out BK130.out qa30) e_) e_))); replace HK := qO (Kept.keepG qa19 hkp (fun k_ hs_ => Or.elim hs_ (fun e_ => (fun e_ => .inr (Kd.R_base HO_113001.out k_ e_.symm)) e_) (fun e_ => (fun e_ => .inr (Kd.R_base HO_113002.out k_ e_.symm)) e_))); replace HB := qO (hb); clear HO_113001 HO_113002; (try clear hb); (try clear hkp); clear ho0 ho1; refine hK.out _ _ ⟨qc0 BK101.out, qc1 BK101.out, qc0 BK112.out, qc1 BK112.out, qc2 BK112.out⟩ (fun hHeld => ?_); clear hK K; refine qNm ?_; refine qP 5 25 z85_13 ?_; refine qP 6 31 z85_14 ?_; refine qP 7 32 z85_4 ?_
        exact norm_ (by simp only [putAll, Act.put, qzA, qzB, qzC]) (hCont (v124, v127, gb130) _ ⟨hHeld, (qrR HO125.out), (qrR HO128.out), (qk BK101.out), (qk BK102.out), (qk BK112.out), (qk BK130.out), GW130.out, GE130.out, NB0_130.out, NB130_0.out, NB101_130.out, NB130_101.out, NB102_130.out, NB130_102.out, NB112_130.out, NB130_112.out, (by repeat (first | (with_reducible first | exact HI0.out | apply IsS128.alloc | apply IsS128.drewN | apply IsS128.drew | apply IsS128.set_1 | apply IsS128.set_2 | refine IsS128.far ?_ NB0_101.out _ | refine IsS128.far ?_ NB0_102.out _ | refine IsS128.far ?_ NB0_112.out _ | refine IsS128.far ?_ NB0_130.out _) | exact HI0.out)), (by repeat (first | (with_reducible first | exact HK.out | apply KeepBut.set_ | apply keep_drewN | apply keep_drew | apply keep_alloc | refine keep_far ?_ GW101.out _ | refine keep_far ?_ GW102.out _ | refine keep_far ?_ GW112.out _ | refine keep_far ?_ GW130.out _) | exact HK.out)), (by repeat (first | (with_reducible first | exact HB.out | apply qbA | apply qbN | apply qbD | refine qbS ?_ (IsS128.ge HI0.out) | refine qbS ?_ GE101.out | refine qbS ?_ GE102.out | refine qbS ?_ GE112.out | refine qbS ?_ GE130.out) | exact HB.out))⟩)
      ·skip
       refine qX2 7 #[.int .i64 0, .slice none 0 0, .slice none 0 0] 65 ?_; intro gb130 hg w32 hbox hb; have BK130 := qO (hbox); have GW130 := qO ((qa25 : w.heap.size ≤ gb130)); have GE130 := qO ((Nat.le_trans HW0.out (qa25 : w.heap.size ≤ gb130) : w0.heap.size ≤ gb130)); have NB101_130 := qO ((qLt hg (qk BK101.out))); have NB130_101 := qO (Ne.symm NB101_130.out); have NB102_130 := qO ((qLt hg (qk BK102.out))); have NB130_102 := qO (Ne.symm NB102_130.out); have NB112_130 := qO ((qLt hg (qk BK112.out))); have NB130_112 := qO (Ne.symm NB112_130.out); have NB0_130 := qO ((by rw [hg]; exact Nat.ne_of_lt (IsS128.lt (show IsS128 w0 _ g s0_0 t117 t118 from by repeat (first | (with_reducible first | exact HI0.out | apply IsS128.alloc | apply IsS128.drewN | apply IsS128.drew | apply IsS128.set_1 | apply IsS128.set_2 | refine IsS128.far ?_ NB0_101.out _ | refine IsS128.far ?_ NB0_102.out _ | refine IsS128.far ?_ NB0_112.out _) | exact HI0.out))) : g ≠ gb130)); have NB130_0 := qO ((by rw [hg]; exact Nat.ne_of_gt (IsS128.lt (show IsS128 w0 _ g s0_0 t117 t118 from by repeat (first | (with_reducible first | exact HI0.out | apply IsS128.alloc | apply IsS128.drewN | apply IsS128.drew | apply IsS128.set_1 | apply IsS128.set_2 | refine IsS128.far ?_ NB0_101.out _ | refine IsS128.far ?_ NB0_102.out _ | refine IsS128.far ?_ NB0_112.out _) | exact HI0.out))) : gb130 ≠ g)); replace HO_113001 := qO (Kd.R_below (qrR HO_113001.out) hb); replace HO_113002 := qO (Kd.R_below (qrR HO_113002.out) hb); replace BK101 := qO (blk_below (qk BK101.out) hb); replace BK102 := qO (blk_below (qk BK102.out) hb); replace BK112 := qO (blk_below (qk BK112.out) hb); replace HK := qO (KeepBut.trans qa9 (KeepBut.of_below hb g none) (.inl rfl)); replace HB := qO (below_step qa14 hb); replace HI0 := qO (IsS128.below qa10 hb); clear hb hbox hg; refine hK.out _ _ ⟨qc0 BK101.out, qc1 BK101.out, qc0 BK112.out, qc1 BK112.out, qc2 BK112.out⟩ (fun hHeld => ?_); clear hK K; refine qNm ?_; refine qOn 3 (some 29) z85_8 fun K hK => ?_; refine qGo Try.func108 #[.pointer (some ⟨g, 0, none⟩), .int .i64 16] ?_; (with_reducible refine (spec_l00Src_next.calls g s0_0 t117 t118 16 t119 t120 t121 w0 _ ?side1 ?side2 A26.out).mono ?_); (case side1 => exact qa36); (case side2 => exact qa47); rintro e w33 ⟨rfl, hi, hb, hk⟩; refine ⟨_, rfl, ?_⟩; replace HO_113001 := qO (Kd.R_mono (Kd.R_keep (IsS128.apart (show IsS128 w0 _ g s0_0 t117 t118 from by repeat (first | (with_reducible first | exact HI0.out | apply IsS128.alloc | apply IsS128.drewN | apply IsS128.drew | apply IsS128.set_1 | apply IsS128.set_2 | refine IsS128.far ?_ NB0_101.out _ | refine IsS128.far ?_ NB0_102.out _ | refine IsS128.far ?_ NB0_112.out _ | refine IsS128.far ?_ NB0_130.out _) | exact HI0.out)) (qrR HO_113001.out) qa30) hk (fun _ h => h.2)) (fun _ h => h.1)); replace HO_113002 := qO (Kd.R_mono (Kd.R_keep (IsS128.apart (show IsS128 w0 _ g s0_0 t117 t118 from by repeat (first | (with_reducible first | exact HI0.out | apply IsS128.alloc | apply IsS128.drewN | apply IsS128.drew | apply IsS128.set_1 | apply IsS128.set_2 | refine IsS128.far ?_ NB0_101.out _ | refine IsS128.far ?_ NB0_102.out _ | refine IsS128.far ?_ NB0_112.out _ | refine IsS128.far ?_ NB0_130.out _) | exact HI0.out)) (qrR HO_113002.out) qa30) hk (fun _ h => h.2)) (fun _ h => h.1)); replace BK101 := qO (KeepBut.blk hk (qk BK101.out) NB101_0.out qa51); replace BK102 := qO (KeepBut.blk hk (qk BK102.out) NB102_0.out qa51); replace BK112 := qO (KeepBut.blk hk (qk BK112.out) NB112_0.out qa51); replace BK130 := qO (KeepBut.blk hk (qk BK130.out) NB130_0.out qa51); replace HK := qO (KeepBut.trans qa19 hk (.inl rfl)); replace HB := qO (hb); replace HI0 := qO (hi); clear hb hk hi; refine hK.out _ _ ⟨qc0 BK101.out, qc1 BK101.out, qc0 BK112.out, qc1 BK112.out, qc2 BK112.out⟩ (fun hHeld => ?_); clear hK K; refine qNm ?_; refine qOn 4 (some 30) z85_12 fun K hK => ?_; refine qGo Try.func97 #[.agg #[.slice A1_0 l1_0.length c1_0, .int .i64 a1_1], .agg #[.int .i64 x113000_1, .slice Ao29 x113001_1.length co29, .slice Ao30 x113002_1.length co30], .int .i64 t119] ?_; (with_reducible refine (spec_l07Read.calls k1 _ _ l1_0 a1_1 x113000_1 (fun k_ => some k_ = (.slice Ao29 x113001_1.length co29 : Value).ownBlock) (.slice Ao29 x113001_1.length co29) x113001_1 (fun k_ => some k_ = (.slice Ao30 x113002_1.length co30 : Value).ownBlock) (.slice Ao30 x113002_1.length co30) x113002_1 t119 t122 t123 t126 t129 w0 _ ?side1 ?side2 ?side3 ?side4 ?side5 A27.out).mono ?_); (case side1 => exact qa47); (case side2 => exact qa46); (case side3 => exact HC1_0.out); (case side4 => exact qa115); (case side5 => exact qa116); rintro e w34 ⟨v124, v127, rfl, ho0, ho1, hb, hkp⟩; refine ⟨_, rfl, ?_⟩; have HO125 := qO (Kd.R_mono (ok' := fun k_ => True) (Kd.R_raise (d := (Kd.int .i64)) (b := w0.heap.size) (b' := w.heap.size) (fun _ _ _ _ h_ => h_) ho0 (fun k_ e_ => Or.elim (ho0.1 k_ e_) (fun hs_ => Or.elim hs_ (fun e_ => (fun e_ => Kd.R_base HO_113001.out k_ e_.symm) e_) (fun e_ => (fun e_ => Kd.R_base HO_113002.out k_ e_.symm) e_)) (fun hn_ => Nat.le_trans (keep_size (w := w) (g := g) (row := none) qa19) hn_))) (fun k_ hk_ => trivial)); have HO128 := qO (Kd.R_mono (ok' := fun k_ => True) (Kd.R_raise (d := k58) (b := w0.heap.size) (b' := w.heap.size) (fun _ _ _ _ h_ => h_) ho1 (fun k_ e_ => Or.elim (ho1.1 k_ e_) (fun hs_ => Or.elim hs_ (fun e_ => (fun e_ => Kd.R_base HO_113001.out k_ e_.symm) e_) (fun e_ => (fun e_ => Kd.R_base HO_113002.out k_ e_.symm) e_)) (fun hn_ => Nat.le_trans (keep_size (w := w) (g := g) (row := none) qa19) hn_))) (fun k_ hk_ => trivial)); replace BK101 := qO (blk_kept (qk BK101.out) hkp (fun hs_ => Or.elim hs_ (fun e_ => (fun e_ => (Kd.R_ne HO_113001.out BK101.out qa30) e_) e_) (fun e_ => (fun e_ => (Kd.R_ne HO_113002.out BK101.out qa30) e_) e_))); replace BK102 := qO (blk_kept (qk BK102.out) hkp (fun hs_ => Or.elim hs_ (fun e_ => (fun e_ => (Kd.R_ne HO_113001.out BK102.out qa30) e_) e_) (fun e_ => (fun e_ => (Kd.R_ne HO_113002.out BK102.out qa30) e_) e_))); replace BK112 := qO (blk_kept (qk BK112.out) hkp (fun hs_ => Or.elim hs_ (fun e_ => (fun e_ => (Kd.R_ne HO_113001.out BK112.out qa30) e_) e_) (fun e_ => (fun e_ => (Kd.R_ne HO_113002.out BK112.out qa30) e_) e_))); replace HI0 := qO (IsS128.kept qa36 hkp (fun hs_ => Or.elim hs_ (fun e_ => (fun e_ => (IsS128.own_ne HI0.out HO_113001.out qa30) e_) e_) (fun e_ => (fun e_ => (IsS128.own_ne HI0.out HO_113002.out qa30) e_) e_))); replace BK130 := qO (blk_kept (qk BK130.out) hkp (fun hs_ => Or.elim hs_ (fun e_ => (fun e_ => (Kd.R_ne HO_113001.out BK130.out qa30) e_) e_) (fun e_ => (fun e_ => (Kd.R_ne HO_113002.out BK130.out qa30) e_) e_))); replace HK := qO (Kept.keepG qa19 hkp (fun k_ hs_ => Or.elim hs_ (fun e_ => (fun e_ => .inr (Kd.R_base HO_113001.out k_ e_.symm)) e_) (fun e_ => (fun e_ => .inr (Kd.R_base HO_113002.out k_ e_.symm)) e_))); replace HB := qO (hb); clear HO_113001 HO_113002; (try clear hb); (try clear hkp); clear ho0 ho1; refine hK.out _ _ ⟨qc0 BK101.out, qc1 BK101.out, qc0 BK112.out, qc1 BK112.out, qc2 BK112.out⟩ (fun hHeld => ?_); clear hK K; refine qNm ?_; refine qP 5 25 z85_13 ?_; refine qP 6 31 z85_14 ?_; refine qP 7 32 z85_4 ?_
       exact norm_ (by simp only [putAll, Act.put, qzA, qzB, qzC]) (hCont (v124, v127, gb130) _ ⟨hHeld, (qrR HO125.out), (qrR HO128.out), (qk BK101.out), (qk BK102.out), (qk BK112.out), (qk BK130.out), GW130.out, GE130.out, NB0_130.out, NB130_0.out, NB101_130.out, NB130_101.out, NB102_130.out, NB130_102.out, NB112_130.out, NB130_112.out, (by repeat (first | (with_reducible first | exact HI0.out | apply IsS128.alloc | apply IsS128.drewN | apply IsS128.drew | apply IsS128.set_1 | apply IsS128.set_2 | refine IsS128.far ?_ NB0_101.out _ | refine IsS128.far ?_ NB0_102.out _ | refine IsS128.far ?_ NB0_112.out _ | refine IsS128.far ?_ NB0_130.out _) | exact HI0.out)), (by repeat (first | (with_reducible first | exact HK.out | apply KeepBut.set_ | apply keep_drewN | apply keep_drew | apply keep_alloc | refine keep_far ?_ GW101.out _ | refine keep_far ?_ GW102.out _ | refine keep_far ?_ GW112.out _ | refine keep_far ?_ GW130.out _) | exact HK.out)), (by repeat (first | (with_reducible first | exact HB.out | apply qbA | apply qbN | apply qbD | refine qbS ?_ (IsS128.ge HI0.out) | refine qbS ?_ GE101.out | refine qbS ?_ GE102.out | refine qbS ?_ GE112.out | refine qbS ?_ GE130.out) | exact HB.out))⟩)
     rintro ⟨v124, v127, gb130⟩ w35 ⟨hS_, h0_, h1_, h2_, h3_, h4_, h5_, h6_, h7_, h8_, h9_, h10_, h11_, h12_, h13_, h14_, h15_, h16_, h17_, h18_⟩; have HO125 : Aside0 (Kd.R (Kd.int .i64) 3 w35 w.heap.size (fun _ => True) v124 t123) := qO h0_; have HO128 : Aside0 (Kd.R k58 58 w35 w.heap.size (fun _ => True) v127 t126) := qO h1_; have BK130 : Aside0 (w35.heap[gb130]? = some (.cells #[.int .i64 0, .slice none 0 0, .slice none 0 0] 65 (0, 0))) := qO h5_; have GW130 : Aside0 (w.heap.size ≤ gb130) := qO h6_; have GE130 : Aside0 (w0.heap.size ≤ gb130) := qO h7_; have NB0_130 : Aside0 (g ≠ gb130) := qO h8_; have NB130_0 : Aside0 (gb130 ≠ g) := qO h9_; have NB101_130 : Aside0 (gb101 ≠ gb130) := qO h10_; have NB130_101 : Aside0 (gb130 ≠ gb101) := qO h11_; have NB102_130 : Aside0 (gb102 ≠ gb130) := qO h12_; have NB130_102 : Aside0 (gb130 ≠ gb102) := qO h13_; have NB112_130 : Aside0 (gb112 ≠ gb130) := qO h14_; have NB130_112 : Aside0 (gb130 ≠ gb112) := qO h15_; replace BK101 := qO h2_; replace BK102 := qO h3_; replace BK112 := qO h4_; replace HI0 := qO h16_; replace HK := qO h17_; replace HB := qO h18_; clear HO_113001 HO_113002 h0_ h1_ h2_ h3_ h4_ h5_ h6_ h7_ h8_ h9_ h10_ h11_ h12_ h13_ h14_ h15_ h16_ h17_ h18_; have hHeld : w35.cell? ⟨gb101, 0, none⟩ = some (.slice A1_0 l1_0.length c1_0) ∧ w35.cell? ⟨gb101, 1, none⟩ = some (.int .i64 a1_1) ∧ w35.cell? ⟨gb112, 0, none⟩ = some (.int .i64 x113000_1) ∧ w35.cell? ⟨gb112, 1, none⟩ = some (.slice Ao29 x113001_1.length co29) ∧ w35.cell? ⟨gb112, 2, none⟩ = some (.slice Ao30 x113002_1.length co30) := hS_; obtain ⟨Ao37, co37, eo37⟩ := Kd.R_slice HO125.out; (first | subst eo37 | (injection eo37 with f1_ f2_ f3_; have f4_ := f1_.symm; have f5_ := f3_.symm; clear f1_ f2_ f3_; subst f4_; subst f5_)); obtain ⟨Ao39, co39, eo39⟩ := Kd.R_slice HO128.out; (first | subst eo39 | (injection eo39 with f1_ f2_ f3_; have f4_ := f1_.symm; have f5_ := f3_.symm; clear f1_ f2_ f3_; subst f4_; subst f5_)); refine qNp ?_; refine qOn 9 none z85_15 fun K hK => ?_; have hs36 := qc0 BK130.out; have hfs36 := blk_frozen BK130.out 0; have hns36_0 := NB101_130.out; have hns36_1 := NB102_130.out; have hns36_2 := NB112_130.out; have hms36_0 := NB130_101.out; have hms36_1 := NB130_102.out; have hms36_2 := NB130_112.out; have hs38 := qc1 BK130.out; have hfs38 := blk_frozen BK130.out 1; have hns38_0 := NB101_130.out; have hns38_1 := NB102_130.out; have hns38_2 := NB112_130.out; have hms38_0 := NB130_101.out; have hms38_1 := NB130_102.out; have hms38_2 := NB130_112.out; have hs40 := qc2 BK130.out; have hfs40 := blk_frozen BK130.out 2; have hns40_0 := NB101_130.out; have hns40_1 := NB102_130.out; have hns40_2 := NB112_130.out; have hms40_0 := NB130_101.out; have hms40_1 := NB130_102.out; have hms40_2 := NB130_112.out; refine skip_ (w1 := ?_) (by rfl) rfl ?_ ?_; rotate_left
     ·go_simp
      rfl
     refine hK.out _ _ ⟨((cell_far (p := ⟨gb130, _, none⟩) NB101_130.out _).trans (((cell_far (p := ⟨gb130, _, none⟩) NB101_130.out _).trans (((cell_far (p := ⟨gb130, _, none⟩) NB101_130.out _).trans (hHeld.1)))))), ((cell_far (p := ⟨gb130, _, none⟩) NB101_130.out _).trans (((cell_far (p := ⟨gb130, _, none⟩) NB101_130.out _).trans (((cell_far (p := ⟨gb130, _, none⟩) NB101_130.out _).trans (hHeld.2.1)))))), ((cell_far (p := ⟨gb130, _, none⟩) NB112_130.out _).trans (((cell_far (p := ⟨gb130, _, none⟩) NB112_130.out _).trans (((cell_far (p := ⟨gb130, _, none⟩) NB112_130.out _).trans (hHeld.2.2.1)))))), ((cell_far (p := ⟨gb130, _, none⟩) NB112_130.out _).trans (((cell_far (p := ⟨gb130, _, none⟩) NB112_130.out _).trans (((cell_far (p := ⟨gb130, _, none⟩) NB112_130.out _).trans (hHeld.2.2.2.1)))))), ((cell_far (p := ⟨gb130, _, none⟩) NB112_130.out _).trans (((cell_far (p := ⟨gb130, _, none⟩) NB112_130.out _).trans (((cell_far (p := ⟨gb130, _, none⟩) NB112_130.out _).trans (hHeld.2.2.2.2))))))⟩ (fun hHeld => ?_); clear hK K; refine qP 10 8 z85_16 ?_; refine done_ (done_of HT_.out qa18) ?_; have hnb41 := NB130_101.out; have hnc41 := NB101_130.out; have hnb42 := NB130_102.out; have hnc42 := NB102_130.out; have hnb43 := NB130_112.out; have hnc43 := NB112_130.out; have hnb44 := NB130_0.out; have hnc44 := NB0_130.out; obtain ⟨hcz45_0, hcz45_1, hcz45_2, hfz45_0, hfz45_1, hfz45_2⟩ := qb3 BK130.out; have hnb46 := NB112_101.out; have hnc46 := NB101_112.out; have hnb47 := NB112_102.out; have hnc47 := NB102_112.out; have hnb48 := NB112_0.out; have hnc48 := NB0_112.out; obtain ⟨hcz49_0, hcz49_1, hcz49_2, hfz49_0, hfz49_1, hfz49_2⟩ := qb3 BK112.out
     try go_wp2
     go_roundg k1
     case measure => have := HK1.out; omega
     case rel => exact ⟨(wrap64 (x6_1 - 1)), (t120), (t121), (t122), (t123), (t126), (.slice Ao37 t123.length co37), (.slice Ao39 t126.length co39), qa6, H', ⟨qa72⟩, ⟨qrR (Kd.R_mono (Kd.R_far (p := ⟨gb112, 2, none⟩) (Kd.R_far (p := ⟨gb112, 1, none⟩) (Kd.R_far (p := ⟨gb112, 0, none⟩) (Kd.R_far (p := ⟨gb130, 2, none⟩) (Kd.R_far (p := ⟨gb130, 1, none⟩) (Kd.R_far (p := ⟨gb130, 0, none⟩) (Kd.R_types (Kd.R_types HO125.out BK130.out qa30) BK112.out qa30) (fun _ hk => hk.1.2) (.int .i64 t122)) (fun _ hk => hk.1.2) (.slice Ao37 t123.length co37)) (fun _ hk => hk.1.2) (.slice Ao39 t126.length co39)) (fun _ hk => hk.2) (.int .i64 t122)) (fun _ hk => hk.2) (.slice Ao37 t123.length co37)) (fun _ hk => hk.2) (.slice Ao39 t126.length co39)) (fun _ hk => trivial))⟩, ⟨qrR (Kd.R_mono (Kd.R_far (p := ⟨gb112, 2, none⟩) (Kd.R_far (p := ⟨gb112, 1, none⟩) (Kd.R_far (p := ⟨gb112, 0, none⟩) (Kd.R_far (p := ⟨gb130, 2, none⟩) (Kd.R_far (p := ⟨gb130, 1, none⟩) (Kd.R_far (p := ⟨gb130, 0, none⟩) (Kd.R_types (Kd.R_types HO128.out BK130.out qa30) BK112.out qa30) (fun _ hk => hk.1.2) (.int .i64 t122)) (fun _ hk => hk.1.2) (.slice Ao37 t123.length co37)) (fun _ hk => hk.1.2) (.slice Ao39 t126.length co39)) (fun _ hk => hk.2) (.int .i64 t122)) (fun _ hk => hk.2) (.slice Ao37 t123.length co37)) (fun _ hk => hk.2) (.slice Ao39 t126.length co39)) (fun _ hk => trivial))⟩, ⟨qF (qF (qF (qF (qF (qF BK101.out NB101_130.out) NB101_130.out) NB101_130.out) NB101_112.out) NB101_112.out) NB101_112.out⟩, ⟨qF (qF (qF (qF (qF (qF BK102.out NB102_130.out) NB102_130.out) NB102_130.out) NB102_112.out) NB102_112.out) NB102_112.out⟩, ⟨qU (qU (qU (qF (qF (qF BK112.out NB112_130.out) NB112_130.out) NB112_130.out)))⟩, ⟨qa36⟩, ⟨qa19⟩, ⟨qa47⟩⟩
    ·replace c25 := Bool.eq_false_iff.mpr c25
     subst c25; rw [qfn] at H; replace H := Option.bind_eq_some_iff.mp H; obtain ⟨⟨t131, t132, t133, t134⟩, A500, H⟩ := H; replace H : (if x113002_1.length < 8796093022208 then (spec_l00Src_txn.l0 k1 (wrap64 (x6_1 - 1)) s0_0 t133 t134 l1_0 a1_1 x113000_1 x113001_1 (x113002_1 ++ [(⟨t131, t132⟩ : S58)])) else (none)) = some (r1, r2, r3, r4, r5) := H; have A50 := qO A500; clear A500
     by_cases c51 : x113002_1.length < 8796093022208
     ·rw [if_pos c51] at H
      have LMc51 := qO c51; clear c51; obtain ⟨y135, hy135⟩ : ∃ y_ : List (S58), y_ = (x113002_1 ++ [(⟨t131, t132⟩ : S58)]) := ⟨_, rfl⟩; (first | replace H := qsb hy135 H | rw [← hy135] at H)
      have Ny135 := qO hy135; clear hy135; have H' := qO H; clear H
      try go_wp2_with (first | ((with_reducible refine gate_callee (f := 110) rfl ?_); refine qGL 24 Try.func110 #[.pointer (some ⟨g, 0, none⟩), .int .i64 2] ?_; (with_reducible refine (spec_l00Src_chance.calls g s0_0 x1001_1 x1002_1 2 false t117 t118 w0 _ ?side1 ?side2 A24.out).mono ?_); (case side1 => exact qa10); (case side2 => exact qa14); rintro e w52 ⟨rfl, hi, hb, hk⟩; refine ⟨_, rfl, ?_⟩; replace HO_113001 := qO (Kd.R_mono (Kd.R_keep (IsS128.apart (show IsS128 w0 _ g s0_0 x1001_1 x1002_1 from by repeat (first | (with_reducible first | exact HI0.out | apply IsS128.alloc | apply IsS128.drewN | apply IsS128.drew | apply IsS128.set_1 | apply IsS128.set_2 | refine IsS128.far ?_ NB0_101.out _ | refine IsS128.far ?_ NB0_102.out _ | refine IsS128.far ?_ NB0_112.out _) | exact HI0.out)) (qrR HO_113001.out) qa30) hk (fun _ h => h.2)) (fun _ h => h.1)); replace HO_113002 := qO (Kd.R_mono (Kd.R_keep (IsS128.apart (show IsS128 w0 _ g s0_0 x1001_1 x1002_1 from by repeat (first | (with_reducible first | exact HI0.out | apply IsS128.alloc | apply IsS128.drewN | apply IsS128.drew | apply IsS128.set_1 | apply IsS128.set_2 | refine IsS128.far ?_ NB0_101.out _ | refine IsS128.far ?_ NB0_102.out _ | refine IsS128.far ?_ NB0_112.out _) | exact HI0.out)) (qrR HO_113002.out) qa30) hk (fun _ h => h.2)) (fun _ h => h.1)); replace BK101 := qO (KeepBut.blk hk (qk BK101.out) NB101_0.out qa51); replace BK102 := qO (KeepBut.blk hk (qk BK102.out) NB102_0.out qa51); replace BK112 := qO (KeepBut.blk hk (qk BK112.out) NB112_0.out qa51); replace HK := qO (KeepBut.trans qa9 hk (.inl rfl)); replace HB := qO (hb); replace HI0 := qO (hi); clear hb hk hi))
      replace HO_113001 := qO (Kd.R_drew HO_113001.out); replace HO_113002 := qO (Kd.R_drew HO_113002.out); replace BK101 := qO (qkD BK101.out); replace BK102 := qO (qkD BK102.out); replace BK112 := qO (qkD BK112.out); replace HI0 := qO (IsS128.drew HI0.out); replace HK := qO (keep_drew HK.out); replace HB := qO (qbD HB.out); refine start_ (n := 8) (S := fun w' => w'.cell? ⟨gb112, 0, none⟩ = some (.int .i64 x113000_1) ∧ w'.cell? ⟨gb112, 1, none⟩ = some (u113001) ∧ w'.cell? ⟨gb112, 2, none⟩ = some (u113002)) (ds := [7]) z85_17 qa18 rfl rfl ⟨qc0 BK112.out, qc1 BK112.out, qc2 BK112.out⟩ (fun hHeld => ?_); refine with_tabW spec_l00Src_txn.tab8 spec_l00Src_txn.bits8 (fun HT_ HW_ => ?_); generalize w52.drew = w53 at HO_113001 HO_113002 BK101 BK102 BK112 HI0 HK HB hHeld ⊢; refine qP 0 34 z85_18 ?_; refine qP 2 36 z85_19 ?_; refine qK3 1 35 z85_20 ?_; refine qOn 3 (some 37) z85_21 fun K hK => ?_; refine qGo Try.func116 #[.pointer (some ⟨g, 0, none⟩)] ?_; (with_reducible refine (spec_l00Src_put.calls g s0_0 t117 t118 t131 t132 t133 t134 w0 _ ?side1 ?side2 A50.out).mono ?_); (case side1 => exact qa10); (case side2 => exact qa14); rintro e w54 ⟨rfl, hi, hb, hk⟩; refine ⟨_, rfl, ?_⟩; replace HO_113001 := qO (Kd.R_mono (Kd.R_keep (IsS128.apart (show IsS128 w0 _ g s0_0 t117 t118 from by repeat (first | (with_reducible first | exact HI0.out | apply IsS128.alloc | apply IsS128.drewN | apply IsS128.drew | apply IsS128.set_1 | apply IsS128.set_2 | refine IsS128.far ?_ NB0_101.out _ | refine IsS128.far ?_ NB0_102.out _ | refine IsS128.far ?_ NB0_112.out _) | exact HI0.out)) (qrR HO_113001.out) qa30) hk (fun _ h => h.2)) (fun _ h => h.1)); replace HO_113002 := qO (Kd.R_mono (Kd.R_keep (IsS128.apart (show IsS128 w0 _ g s0_0 t117 t118 from by repeat (first | (with_reducible first | exact HI0.out | apply IsS128.alloc | apply IsS128.drewN | apply IsS128.drew | apply IsS128.set_1 | apply IsS128.set_2 | refine IsS128.far ?_ NB0_101.out _ | refine IsS128.far ?_ NB0_102.out _ | refine IsS128.far ?_ NB0_112.out _) | exact HI0.out)) (qrR HO_113002.out) qa30) hk (fun _ h => h.2)) (fun _ h => h.1)); replace BK101 := qO (KeepBut.blk hk (qk BK101.out) NB101_0.out qa51); replace BK102 := qO (KeepBut.blk hk (qk BK102.out) NB102_0.out qa51); replace BK112 := qO (KeepBut.blk hk (qk BK112.out) NB112_0.out qa51); replace HK := qO (KeepBut.trans qa9 hk (.inl rfl)); replace HB := qO (hb); replace HI0 := qO (hi); clear hb hk hi; refine hK.out _ _ ⟨qc0 BK112.out, qc1 BK112.out, qc2 BK112.out⟩ (fun hHeld => ?_); clear hK K; refine qNm ?_; refine qOn 4 (some 38) z85_22 fun K hK => ?_; refine value_ (w1 := ?_) (v := ?_) (by rfl) rfl ?_ ?_; rotate_left 2
      ·go_simp
       constructor
       ·rfl
       ·rfl
      refine hK.out _ _ ⟨(blk_cell (qkA BK112.out _) 0).trans rfl, (blk_cell (qkA BK112.out _) 1).trans rfl, (blk_cell (qkA BK112.out _) 2).trans rfl⟩ (fun hHeld => ?_); clear hK K; refine qNm ?_; refine qOn 5 (some 39) z85_23 fun K hK => ?_; refine Kd.R_append_step k58 w.heap.size (by rfl) (.tmp 35) (.tmp 38) 51 58 (.agg #[(.int .i64 0), (.int .i64 0)]) 16 rfl Try.underlying51 info58 rfl qa30 qa13 u113002 x113002_1 (⟨t131, t132⟩ : S58) [.int .i64 t131, .int .i64 t132] (fun _ => True) (fun _ => False) rfl rfl ?aP (fun _ hk => hk.elim) ?aF ?aO (Below.refl _ _) ?aS ?aL ?_; (case aP => exact k58_mkM _ _ _ (⟨t131, t132⟩ : S58)); (case aF => exact qa102); (case aO => exact (qrR HO_113002.out)); (case aS => exact (keep_size (w := w) (g := g) (row := none) (by repeat (first | (with_reducible first | exact HK.out | apply KeepBut.set_ | apply keep_drewN | apply keep_drew | apply keep_alloc | refine keep_far ?_ GW101.out _ | refine keep_far ?_ GW102.out _ | refine keep_far ?_ GW112.out _) | exact HK.out)))); (case aL => have := LMc51.out; omega); intro v136 w55 ho hb hg hat; rw [← Ny135.out] at ho; have HO137 := qO (ho); replace HO_113001 := qO (Kd.R_over' (qrR HO_113001.out) (Kd.R_typed (qrR HO_113002.out)) qa30 hg); replace BK101 := qO (blk_grown (qk BK101.out) hg (Kd.R_ne HO_113002.out BK101.out qa30)); replace BK102 := qO (blk_grown (qk BK102.out) hg (Kd.R_ne HO_113002.out BK102.out qa30)); replace BK112 := qO (blk_grown (qk BK112.out) hg (Kd.R_ne HO_113002.out BK112.out qa30)); replace HB := qO (below_weaken qa14 HL.out hb); replace HI0 := qO (IsS128.grown qa10 hg (IsS128.own_ne HI0.out HO_113002.out qa30)); replace HK := qO (KeepBut.trans qa9 (KeepBut.of_grown hg g) (Kd.R_base2 HO_113002.out)); clear HO_113002 ho hb hg hat; obtain ⟨Ao56, co56, eo56⟩ := Kd.R_slice HO137.out; (first | subst eo56 | (injection eo56 with f1_ f2_ f3_; have f4_ := f1_.symm; have f5_ := f3_.symm; clear f1_ f2_ f3_; subst f4_; subst f5_)); refine hK.out _ _ ⟨qc0 BK112.out, qc1 BK112.out, qc2 BK112.out⟩ (fun hHeld => ?_); clear hK K; refine qNm ?_; refine qP 6 40 z85_24 ?_; refine last_ (i := 7) (N := none) z85_25 rfl rfl (one_of HT_.out qa18) qa30 (fun K hK => ?_); have hs57 := qc2 BK112.out; have hfs57 := blk_frozen BK112.out 2; have hns57_0 := NB101_112.out; have hns57_1 := NB102_112.out; have hms57_0 := NB112_101.out; have hms57_1 := NB112_102.out; refine skip_ (w1 := ?_) (by rfl) rfl ?_ ?_; rotate_left
      ·go_simp
       rfl
      refine hK.out _ _ ?_; clear hK K; refine done_ (done_of HT_.out qa18) ?_
      try go_wp2
      go_roundg k1
      case measure => have := HK1.out; omega
      case rel => exact ⟨(wrap64 (x6_1 - 1)), (t133), (t134), (x113000_1), (x113001_1), (y135), (u113001), (.slice Ao56 y135.length co56), qa6, H', ⟨qa72⟩, ⟨qrR (qR1 HO_113001.out BK112.out)⟩, ⟨qrR (qR1 HO137.out BK112.out)⟩, ⟨qF BK101.out NB101_112.out⟩, ⟨qF BK102.out NB102_112.out⟩, ⟨qU BK112.out⟩, ⟨qa10⟩, ⟨qa9⟩, ⟨qa14⟩⟩
     ·rw [if_neg c51] at H
      exact absurd H qa51
   ·rw [if_neg c23] at H
    have c23b0 := qngt c23; clear c23; simp only [Option.some.injEq, Prod.mk.injEq] at H; obtain ⟨rfl, rfl, rfl, rfl, rfl⟩ := H; have hnb58 := NB112_101.out; have hnc58 := NB101_112.out; have hnb59 := NB112_102.out; have hnc59 := NB102_112.out; have hnb60 := NB112_0.out; have hnc60 := NB0_112.out; obtain ⟨hcz61_0, hcz61_1, hcz61_2, hfz61_0, hfz61_1, hfz61_2⟩ := qb3 BK112.out; have hnb62 := NB102_101.out; have hnc62 := NB101_102.out; have hnb63 := NB102_0.out; have hnc63 := NB0_102.out; obtain ⟨hcz64_0, hcz64_1, hcz64_2, hfz64_0, hfz64_1, hfz64_2⟩ := qb3 BK102.out; obtain ⟨Ao65, co65, eo65⟩ := Kd.R_slice HO_113001.out; subst eo65; obtain ⟨Ao66, co66, eo66⟩ := Kd.R_slice HO_113002.out; subst eo66; go_wp2; refine bodyPost_ret (results_cell_row rfl _ _ gb102 65 #[.int .i64 x113000_1, .slice Ao65 x113001_1.length co65, .slice Ao66 x113002_1.length co66] (0, 0) _ rfl (qU (qU (qU BK102.out))) Try.underlying65 rfl qa18) rfl ?_
    exact ⟨_, _, qa2, qrR (qR3 HO_113001.out BK102.out), qrR (qR3 HO_113002.out BK102.out), qa10, qa14, qa9⟩

def spec_TxnOf.f (k : Nat) (l0 : List Int) (l1_0 : List (List (S43))) (a1_1 : Int) : Option (Int × List Int × (List (S58))) := (spec_l00Source.f l0).bind fun bt103 => ((spec_l00Src_txn.f k bt103.1 bt103.2.1 bt103.2.2 l1_0 a1_1).bind fun bt107 => (some (bt107.1, bt107.2.1, bt107.2.2.1)))
set_option maxHeartbeats 8000000 in
set_option maxRecDepth 100000 in
theorem spec_TxnOf.calls (k : Nat) (A0 : Option Addr) (c0 : Nat) (l0 : List Int) (A1_0 : Option Addr) (c1_0 : Nat) (l1_0 : List (List (S43))) (a1_1 : Int) (r1 : Int) (r2 : List Int) (r3 : List (S58)) (w : World) (hr0 : Kd.C (Kd.int .u8) w A0 l0.length l0) (hc0 : l0.length ≤ c0) (hr1_0 : Kd.C (Kd.slice 43 k43) w A1_0 l1_0.length l1_0) (hc1_0 : l1_0.length ≤ c1_0) (h : spec_TxnOf.f k l0 l1_0 a1_1 = some (r1, r2, r3)) :
  Calls Try.prog 39 #[.slice A0 l0.length c0, .agg #[.slice A1_0 l1_0.length c1_0, .int .i64 a1_1]] w fun e w' => ∃ v1_ v2_ : Value, e = .returned (.agg #[.int .i64 r1, v1_, v2_]) ∧ Kd.R (Kd.int .i64) 3 w' w.heap.size (fun _ => True) v1_ r2 ∧ Kd.R k58 58 w' w.heap.size (fun _ => True) v2_ r3 ∧ Below w.heap.size w w' := by
 have hu28 := Try.underlying28
 have hu65 := Try.underlying65
 have HR0 := Aside0.mk hr0
 have HC0 := Aside0.mk hc0
 clear hr0 hc0
 have HR1_0 := Aside0.mk hr1_0
 have HC1_0 := Aside0.mk hc1_0
 clear hr1_0 hc1_0
 have HB := Aside0.mk (Below.refl w.heap.size w)
 have H : ((spec_l00Source.f l0).bind fun bt103 => ((spec_l00Src_txn.f k bt103.1 bt103.2.1 bt103.2.2 l1_0 a1_1).bind fun bt107 => (some (bt107.1, bt107.2.1, bt107.2.2.1)))) = some (r1, r2, r3) := h
 clear h
 replace H := Option.bind_eq_some_iff.mp H
 obtain ⟨⟨t103, t104, t105⟩, A30, H⟩ := H
 replace H : ((spec_l00Src_txn.f k t103 t104 t105 l1_0 a1_1).bind fun bt107 => (some (bt107.1, bt107.2.1, bt107.2.2.1))) = some (r1, r2, r3) := H
 have A3 := Aside0.mk A30
 clear A30
 replace H := Option.bind_eq_some_iff.mp H
 obtain ⟨⟨t107, t108, t111, t114, t115⟩, A40, H⟩ := H
 replace H : (some (t107, t108, t111)) = some (r1, r2, r3) := H
 have A4 := Aside0.mk A40
 clear A40
 simp only [Option.some.injEq, Prod.mk.injEq] at H
 obtain ⟨rfl, rfl, rfl⟩ := H
 go_enter Try.func39, Try.ntmps39
 try go_wp2_with (first | ((with_reducible refine gate_dst (N := 3) rfl ?_); refine box_event ?hg (N := 3) ?hd (cs := #[.slice A1_0 l1_0.length c1_0, .int .i64 a1_1]) (t := 28) ?hr ?_; (case hd => rfl); (case hg => rfl); (case hr => first | (go_simp; done) | (go_simp; rfl)); intro gb101 hg w5 hbox hb; have BK101 := Aside0.mk (hbox); have GW101 := Aside0.mk ((by rw [hg]; exact (below_size (by repeat (first | (with_reducible first | exact HB.out | apply below_alloc | apply pw_below_drewN | apply below_drew1) | exact HB.out))) : w.heap.size ≤ gb101)); have GE101 := Aside0.mk ((by rw [hg]; exact (below_size (by repeat (first | (with_reducible first | exact HB.out | apply below_alloc | apply pw_below_drewN | apply below_drew1) | exact HB.out))) : w.heap.size ≤ gb101)); replace HB := Aside0.mk (below_step (by repeat (first | (with_reducible first | exact HB.out | apply below_alloc | apply pw_below_drewN | apply below_drew1) | exact HB.out)) hb); clear hb hbox hg) | ((with_reducible refine gate_dst (N := 4) rfl ?_); refine box_event ?hg (N := 4) ?hd (cs := #[.int .i64 0, .slice none 0 0, .slice none 0 0]) (t := 65) ?hr ?_; (case hd => rfl); (case hg => rfl); (case hr => first | (go_simp; done) | (go_simp; rfl)); intro gb102 hg w6 hbox hb; have BK102 := Aside0.mk (hbox); have GW102 := Aside0.mk ((by rw [hg]; exact (below_size (by repeat (first | (with_reducible first | exact HB.out | apply below_alloc | apply pw_below_drewN | apply below_drew1 | refine below_set ?_ GE101.out) | exact HB.out))) : w.heap.size ≤ gb102)); have GE102 := Aside0.mk ((by rw [hg]; exact (below_size (by repeat (first | (with_reducible first | exact HB.out | apply below_alloc | apply pw_below_drewN | apply below_drew1 | refine below_set ?_ GE101.out) | exact HB.out))) : w.heap.size ≤ gb102)); have NB101_102 := Aside0.mk ((by rw [hg]; exact Nat.ne_of_lt (blk_lt (g := gb101) (o := .cells #[.slice A1_0 l1_0.length c1_0, .int .i64 a1_1] 28 (0, 0)) (by (with_reducible repeat (first | refine blk_drewN ?_ _ | refine blk_drew ?_ | refine blk_alloc ?_ _)); exact BK101.out)) : gb101 ≠ gb102)); have NB102_101 := Aside0.mk ((by rw [hg]; exact Nat.ne_of_gt (blk_lt (g := gb101) (o := .cells #[.slice A1_0 l1_0.length c1_0, .int .i64 a1_1] 28 (0, 0)) (by (with_reducible repeat (first | refine blk_drewN ?_ _ | refine blk_drew ?_ | refine blk_alloc ?_ _)); exact BK101.out)) : gb102 ≠ gb101)); replace BK101 := Aside0.mk (blk_below (g := gb101) (o := .cells #[.slice A1_0 l1_0.length c1_0, .int .i64 a1_1] 28 (0, 0)) (by (with_reducible repeat (first | refine blk_drewN ?_ _ | refine blk_drew ?_ | refine blk_alloc ?_ _)); exact BK101.out) hb); replace HB := Aside0.mk (below_step (by repeat (first | (with_reducible first | exact HB.out | apply below_alloc | apply pw_below_drewN | apply below_drew1 | refine below_set ?_ GE101.out) | exact HB.out)) hb); clear hb hbox hg))
 have n0_ := Aside0.mk (blk_drew BK101.out)
 have n1_ := Aside0.mk (blk_drew BK102.out)
 have n2_ := Aside0.mk (below_drew1 HB.out)
 clear BK101
 clear BK102
 clear HB
 have BK101 := n0_
 have BK102 := n1_
 have HB := n2_
 clear n0_ n1_ n2_
 refine start_ (n := 5) (S := fun w' => w'.cell? ⟨gb101, 0, none⟩ = some (.slice A1_0 l1_0.length c1_0) ∧ w'.cell? ⟨gb101, 1, none⟩ = some (.int .i64 a1_1)) (ds := []) #[qf,qf,qf,qf,qf] (by kernel_rfl) rfl rfl ⟨qc0 BK101.out, qc1 BK101.out⟩ (fun hHeld => ?_)
 generalize w6.drew = w7 at BK101 BK102 HB hHeld ⊢
 refine pure_ (i := 0) (N := some 5) (v := ?_) (a' := ?_) #[qt,qf,qf,qf,qf] rfl rfl (by kernel_rfl) (fun _ _ _ h => h) (Or.inl ⟨by rfl, ?_⟩) ?_ ?_
 rotate_left
 ·intro w'
  go_simp
  with_reducible rfl
 rotate_left
 ·simp only [Act.put, List.setIfInBounds_toArray, List.set_cons_zero, List.set_cons_succ, i64_w, i32_w]
  rfl
 refine take_ (i := 2) (N := some 7) (v := ?_) (a' := ?_) #[qt,qf,qt,qf,qf] rfl rfl (by kernel_rfl) (fun _ _ _ h => h) (Or.inl ⟨by rfl, ?_⟩) hHeld ?_ ?_
 rotate_left
 ·rintro w' ⟨s0, s1⟩
  go_simp
  with_reducible rfl
 rotate_left
 ·simp only [Act.put, List.setIfInBounds_toArray, List.set_cons_zero, List.set_cons_succ, i64_w, i32_w]
  rfl
 refine one_ (i := 1) (N := some 6) #[qt,qt,qt,qf,qf] rfl rfl (by kernel_rfl) (by decide) (fun K hK => ?_)
 refine goes_ Try.func62 (by kernel_rfl) rfl #[.slice A0 l0.length c0] (by rfl) rfl rfl (by (try simp only [List.map_toArray, List.map_cons, List.map_nil]); first | done | rfl | (simp only [List.length_drop, List.length_take]; rfl)) ?_
 with_reducible refine (spec_l00Source.calls _ _ l0 t103 t104 t105 w _ ?side1 ?side2 ?side3 A3.out).mono ?_
 (case side1 => repeat (first | (with_reducible first | exact HB.out | apply below_alloc | apply pw_below_drewN | apply below_drew1 | refine below_set ?_ GE101.out | refine below_set ?_ GE102.out) | exact HB.out))
 (case side2 => exact HR0.out)
 (case side3 => exact HC0.out)
 rintro e w8 ⟨g106, rfl, hi, hb, hb2⟩
 refine ⟨_, rfl, ?_⟩
 have n0_ := Aside0.mk (blk_below (g := gb101) (o := .cells #[.slice A1_0 l1_0.length c1_0, .int .i64 a1_1] 28 (0, 0)) (by (with_reducible repeat (first | refine blk_drewN ?_ _ | refine blk_drew ?_ | refine blk_alloc ?_ _)); exact BK101.out) hb2)
 have n1_ := Aside0.mk (blk_below (g := gb102) (o := .cells #[.int .i64 0, .slice none 0 0, .slice none 0 0] 65 (0, 0)) (by (with_reducible repeat (first | refine blk_drewN ?_ _ | refine blk_drew ?_ | refine blk_alloc ?_ _)); exact BK102.out) hb2)
 have n2_ := Aside0.mk (hb)
 have n3_ := Aside0.mk (hi)
 have n4_ := Aside0.mk (IsS128.ne_blk hi (blk_below (g := gb101) (o := .cells #[.slice A1_0 l1_0.length c1_0, .int .i64 a1_1] 28 (0, 0)) (by (with_reducible repeat (first | refine blk_drewN ?_ _ | refine blk_drew ?_ | refine blk_alloc ?_ _)); exact BK101.out) hb2) (by decide))
 have n5_ := Aside0.mk (Ne.symm (IsS128.ne_blk hi (blk_below (g := gb101) (o := .cells #[.slice A1_0 l1_0.length c1_0, .int .i64 a1_1] 28 (0, 0)) (by (with_reducible repeat (first | refine blk_drewN ?_ _ | refine blk_drew ?_ | refine blk_alloc ?_ _)); exact BK101.out) hb2) (by decide)))
 have n6_ := Aside0.mk (IsS128.ne_blk hi (blk_below (g := gb102) (o := .cells #[.int .i64 0, .slice none 0 0, .slice none 0 0] 65 (0, 0)) (by (with_reducible repeat (first | refine blk_drewN ?_ _ | refine blk_drew ?_ | refine blk_alloc ?_ _)); exact BK102.out) hb2) (by decide))
 have n7_ := Aside0.mk (Ne.symm (IsS128.ne_blk hi (blk_below (g := gb102) (o := .cells #[.int .i64 0, .slice none 0 0, .slice none 0 0] 65 (0, 0)) (by (with_reducible repeat (first | refine blk_drewN ?_ _ | refine blk_drew ?_ | refine blk_alloc ?_ _)); exact BK102.out) hb2) (by decide)))
 clear BK101
 clear BK102
 clear HB
 have BK101 := n0_
 have BK102 := n1_
 have HB := n2_
 have HI106 := n3_
 have NB106_101 := n4_
 have NB101_106 := n5_
 have NB106_102 := n6_
 have NB102_106 := n7_
 clear n0_ n1_ n2_ n3_ n4_ n5_ n6_ n7_
 (try clear hb)
 (try clear hb2)
 (try clear hk)
 (try clear hi)
 refine hK.out _ _ ⟨qc0 BK101.out, qc1 BK101.out⟩ (fun hHeld => ?_)
 clear hK K
 refine norm_ (a' := ?_) ?_ ?_
 rotate_left
 ·show Act.put _ (some 6) _ = _
  simp only [Act.put, List.setIfInBounds_toArray, List.set_cons_zero, List.set_cons_succ, i64_w, i32_w]
  rfl
 refine one_ (i := 3) (N := some 8) #[qt,qt,qt,qt,qf] rfl rfl (by kernel_rfl) (by decide) (fun K hK => ?_)
 refine goes_ Try.func85 (by kernel_rfl) rfl #[.pointer (some ⟨g106, 0, none⟩), .agg #[.slice A1_0 l1_0.length c1_0, .int .i64 a1_1]] (by rfl) rfl rfl (by (try simp only [List.map_toArray, List.map_cons, List.map_nil]); first | done | rfl | (simp only [List.length_drop, List.length_take]; rfl)) ?_
 with_reducible refine (spec_l00Src_txn.calls k g106 t103 t104 t105 _ _ l1_0 a1_1 t107 t108 t111 t114 t115 w _ ?side1 ?side2 ?side3 ?side4 A4.out).mono ?_
 (case side1 => repeat (first | (with_reducible first | exact HI106.out | apply IsS128.alloc | apply IsS128.drewN | apply IsS128.drew | apply IsS128.set_1 | apply IsS128.set_2 | refine IsS128.far ?_ NB106_101.out _ | refine IsS128.far ?_ NB106_102.out _) | exact HI106.out))
 (case side2 => repeat (first | (with_reducible first | exact HB.out | apply below_alloc | apply pw_below_drewN | apply below_drew1 | refine below_set ?_ (IsS128.ge HI106.out) | refine below_set ?_ GE101.out | refine below_set ?_ GE102.out) | exact HB.out))
 (case side3 => exact Kd.C_foot_came (Kd.heap_slice 43 k43_heap) HR1_0.out (by repeat (first | (with_reducible first | exact HB.out | apply below_alloc | apply pw_below_drewN | apply below_drew1 | refine below_set ?_ (IsS128.ge HI106.out) | refine below_set ?_ GE101.out | refine below_set ?_ GE102.out) | exact HB.out)) (IsS128.ge HI106.out))
 (case side4 => exact HC1_0.out)
 rintro e w9 ⟨v109, v112, rfl, ho0, ho1, hi, hb, hk⟩
 refine ⟨_, rfl, ?_⟩
 have n0_ := Aside0.mk (KeepBut.blk hk (g' := gb101) (o := .cells #[.slice A1_0 l1_0.length c1_0, .int .i64 a1_1] 28 (0, 0)) (by (with_reducible repeat (first | refine blk_drewN ?_ _ | refine blk_drew ?_ | refine blk_alloc ?_ _)); exact BK101.out) NB101_106.out (by simp))
 have n1_ := Aside0.mk (KeepBut.blk hk (g' := gb102) (o := .cells #[.int .i64 0, .slice none 0 0, .slice none 0 0] 65 (0, 0)) (by (with_reducible repeat (first | refine blk_drewN ?_ _ | refine blk_drew ?_ | refine blk_alloc ?_ _)); exact BK102.out) NB102_106.out (by simp))
 have n2_ := Aside0.mk (Kd.R_lower ho0 (below_size (by repeat (first | (with_reducible first | exact HB.out | apply below_alloc | apply pw_below_drewN | apply below_drew1 | refine below_set ?_ (IsS128.ge HI106.out) | refine below_set ?_ GE101.out | refine below_set ?_ GE102.out) | exact HB.out))))
 have n3_ := Aside0.mk (Kd.R_lower ho1 (below_size (by repeat (first | (with_reducible first | exact HB.out | apply below_alloc | apply pw_below_drewN | apply below_drew1 | refine below_set ?_ (IsS128.ge HI106.out) | refine below_set ?_ GE101.out | refine below_set ?_ GE102.out) | exact HB.out))))
 have n4_ := Aside0.mk (hb)
 have n5_ := Aside0.mk (hi)
 clear BK101
 clear BK102
 clear HB
 clear HI106
 have BK101 := n0_
 have BK102 := n1_
 have HO110 := n2_
 have HO113 := n3_
 have HB := n4_
 have HI106 := n5_
 clear n0_ n1_ n2_ n3_ n4_ n5_
 (try clear hb)
 (try clear hb2)
 (try clear hk)
 (try clear hi)
 (try clear ho0)
 (try clear ho1)
 obtain ⟨Ao11, co11, eo11⟩ := Kd.R_slice HO110.out
 (first | subst eo11 | (injection eo11 with f1_ f2_ f3_; have f4_ := f1_.symm; have f5_ := f3_.symm; clear f1_ f2_ f3_; subst f4_; subst f5_))
 obtain ⟨Ao13, co13, eo13⟩ := Kd.R_slice HO113.out
 (first | subst eo13 | (injection eo13 with f1_ f2_ f3_; have f4_ := f1_.symm; have f5_ := f3_.symm; clear f1_ f2_ f3_; subst f4_; subst f5_))
 refine hK.out _ _ ⟨qc0 BK101.out, qc1 BK101.out⟩ (fun hHeld => ?_)
 clear hK K
 refine norm_ (a' := ?_) ?_ ?_
 rotate_left
 ·show Act.put _ (some 8) _ = _
  simp only [Act.put, List.setIfInBounds_toArray, List.set_cons_zero, List.set_cons_succ, i64_w, i32_w]
  rfl
 refine one_ (i := 4) (N := none) #[qt,qt,qt,qt,qt] rfl rfl (by kernel_rfl) (by decide) (fun K hK => ?_)
 have hs10 := qc0 BK102.out
 have hfs10 := blk_frozen BK102.out 0
 have hns10_0 := NB101_102.out
 have hms10_0 := NB102_101.out
 have hs12 := qc1 BK102.out
 have hfs12 := blk_frozen BK102.out 1
 have hns12_0 := NB101_102.out
 have hms12_0 := NB102_101.out
 have hs14 := qc2 BK102.out
 have hfs14 := blk_frozen BK102.out 2
 have hns14_0 := NB101_102.out
 have hms14_0 := NB102_101.out
 refine skip_ (w1 := ?_) (by rfl) rfl ?_ ?_
 rotate_left
 ·go_simp
  rfl
 refine hK.out _ _ ⟨((cell_far (p := ⟨gb102, _, none⟩) NB101_102.out _).trans (((cell_far (p := ⟨gb102, _, none⟩) NB101_102.out _).trans (((cell_far (p := ⟨gb102, _, none⟩) NB101_102.out _).trans (hHeld.1)))))), ((cell_far (p := ⟨gb102, _, none⟩) NB101_102.out _).trans (((cell_far (p := ⟨gb102, _, none⟩) NB101_102.out _).trans (((cell_far (p := ⟨gb102, _, none⟩) NB101_102.out _).trans (hHeld.2))))))⟩ (fun hHeld => ?_)
 clear hK K
 refine done_ (by kernel_rfl) ?_
 try go_wp2
 refine bodyPost_ret (results_cell_row rfl _ _ gb102 65 #[.int .i64 t107, .slice Ao11 t108.length co11, .slice Ao13 t111.length co13] (0, 0) _ rfl (by (with_reducible repeat (first | refine blk_drewN ?_ _ | refine blk_drew ?_ | refine blk_alloc ?_ _)); refine blk_put (cs := #[.int .i64 t107, .slice Ao11 t108.length co11, .slice none 0 0]) ?_ 2 _ rfl; (with_reducible repeat (first | refine blk_drewN ?_ _ | refine blk_drew ?_ | refine blk_alloc ?_ _)); refine blk_put (cs := #[.int .i64 t107, .slice none 0 0, .slice none 0 0]) ?_ 1 _ rfl; (with_reducible repeat (first | refine blk_drewN ?_ _ | refine blk_drew ?_ | refine blk_alloc ?_ _)); refine blk_put (cs := #[.int .i64 0, .slice none 0 0, .slice none 0 0]) ?_ 0 _ rfl; (with_reducible repeat (first | refine blk_drewN ?_ _ | refine blk_drew ?_ | refine blk_alloc ?_ _)); exact BK102.out) Try.underlying65 rfl (by kernel_rfl)) rfl ?_
 exact ⟨_, _, by first | rfl | (simp [errW_none, errW_some] <;> rfl) | (simp [*, errW_none, errW_some] <;> rfl), by (with_reducible repeat (first | apply Kd.R_alloc | apply Kd.R_drewN | apply Kd.R_drew)); exact Kd.R_mono (Kd.R_far (p := ⟨gb102, 2, none⟩) (Kd.R_far (p := ⟨gb102, 1, none⟩) (Kd.R_far (p := ⟨gb102, 0, none⟩) (Kd.R_types HO110.out BK102.out (by decide)) (fun _ hk => hk.2) (.int .i64 t107)) (fun _ hk => hk.2) (.slice Ao11 t108.length co11)) (fun _ hk => hk.2) (.slice Ao13 t111.length co13)) (fun _ hk => trivial), by (with_reducible repeat (first | apply Kd.R_alloc | apply Kd.R_drewN | apply Kd.R_drew)); exact Kd.R_mono (Kd.R_far (p := ⟨gb102, 2, none⟩) (Kd.R_far (p := ⟨gb102, 1, none⟩) (Kd.R_far (p := ⟨gb102, 0, none⟩) (Kd.R_types HO113.out BK102.out (by decide)) (fun _ hk => hk.2) (.int .i64 t107)) (fun _ hk => hk.2) (.slice Ao11 t108.length co11)) (fun _ hk => hk.2) (.slice Ao13 t111.length co13)) (fun _ hk => trivial), by repeat (first | (with_reducible first | exact HB.out | apply below_alloc | apply pw_below_drewN | apply below_drew1 | refine below_set ?_ (IsS128.ge HI106.out) | refine below_set ?_ GE101.out | refine below_set ?_ GE102.out) | exact HB.out)⟩

set_option maxHeartbeats 8000000
set_option maxRecDepth 100000
/-- The first place at which p holds, or -1. -/
def slices_IndexFunc_int_int.fp (p : Int → Bool) (l0 : List Int) : Int := match l0.findIdx? p with | some i => (i : Int) | none => -1
theorem slices_IndexFunc_int_int.hit (p : Int → Bool) (l0 : List Int) (kk : Nat) (x : Int) (hx : l0[kk]? = some x) (hp : p x = true) (hno : ∀ j, j < kk → ∀ x, l0[j]? = some x → p x = false) : slices_IndexFunc_int_int.fp p l0 = kk := by
 unfold slices_IndexFunc_int_int.fp
 have h : l0.findIdx? p = some kk := by
  rw [List.findIdx?_eq_some_iff_getElem]; obtain ⟨hl, he⟩ := List.getElem?_eq_some_iff.1 hx
  exact ⟨hl, by rw [he]; exact hp, fun j hj => by rw [hno j hj _ (List.getElem?_eq_getElem (Nat.lt_trans hj hl))]; simp⟩
 rw [h]
theorem slices_IndexFunc_int_int.miss (p : Int → Bool) (l0 : List Int) (hno : ∀ j, j < l0.length → ∀ x, l0[j]? = some x → p x = false) : slices_IndexFunc_int_int.fp p l0 = -1 := by
 unfold slices_IndexFunc_int_int.fp
 have h : l0.findIdx? p = none := by
  rw [List.findIdx?_eq_none_iff]; intro x hx; obtain ⟨j, hj⟩ := List.getElem?_of_mem hx
  exact hno j (List.getElem?_eq_some_iff.1 hj).1 x hj
 rw [h]
theorem slices_IndexFunc_int_int.callsP (A0 : Option Addr) (c0 : Nat) (l0 : List Int) (g : Nat) (cb : Array Value) (p : Int → Bool) (w : World) (eg : ∀ args w, (callFunc g args).run Try.prog w = .ok (.enter g args) w) (hr0 : Kd.C (Kd.int .i64) w A0 l0.length l0)
  (hp : ∀ (W : World) (x : Int), x ∈ l0 → Below w.heap.size w W → Calls Try.prog g (#[.int .i64 x] ++ cb) W fun e w' => e = .returned (.bool (p x)) ∧ Below w.heap.size w w') :
  Calls Try.prog 133 #[.slice A0 l0.length c0, .func (.func g) #[] cb] w fun e w' => e = .returned (.int .i64 (slices_IndexFunc_int_int.fp p l0)) ∧ Below w.heap.size w w' := by
 have hlen := hr0.2.1; have HR := qO hr0; have HP := qO hp; clear hr0 hp; have isagg := Try.isAgg3
 go_enter Try.func133, Try.ntmps133
 go_wp2
 go_loopg [5, 8] l0.length (fun gg _ s8 wr => ∃ kk : Nat, kk ≤ l0.length ∧ l0.length - kk ≤ gg ∧ s8 = .int .i64 kk ∧ Aside0 (Below w.heap.size w wr) ∧ Aside0 (∀ j, j < kk → ∀ x, l0[j]? = some x → p x = false))
 case atStart => exact ⟨0, Nat.zero_le _, qa13, rfl, ⟨Below.refl _ w⟩, ⟨fun j hj => absurd hj (Nat.not_lt_zero _)⟩⟩
 case round =>
  obtain ⟨kk, hkk, hg, rfl, BW, No⟩ := hrel
  by_cases hlt : kk < l0.length
  ·have hltz : (kk : Int) < (l0.length : Int) := by omega
   obtain ⟨ad, e, hx0⟩ := Kd.at_int HR.out (kk : Int) qa13 hltz
   cases e
   replace hx0 := (BW.out.cell (qL w _ hx0)).trans hx0; simp only [Int.toNat_natCast] at hx0
   have hx : l0[kk]? = some (rd l0 (kk : Int)) := by
    rw [List.getElem?_eq_getElem hlt]
    show some l0[kk] = some (l0.getD (kk : Int).toNat _)
    rw [Int.toNat_natCast, List.getD_eq_getElem?_getD, List.getElem?_eq_getElem hlt]
    rfl
   skip
   have hcall := HP.out wr (rd l0 (kk : Int)) (List.mem_of_getElem? hx) BW.out; have HX := qO hx; clear hx; generalize rd l0 (kk : Int) = x at hcall HX hx0
   cases hq : p x with
   | true =>
    have HQ := qO hq; rw [hq] at hcall; clear hq
    go_wp2_with (go_at_fn g; refine hcall.mono ?_; rintro e w' ⟨rfl, hb'⟩)
    go_ret
    exact ⟨by rw [slices_IndexFunc_int_int.hit p l0 kk x HX.out HQ.out No.out]; rfl, hb'⟩
   | false =>
    have HQ := qO hq; rw [hq] at hcall; clear hq
    go_wp2_with (go_at_fn g; refine hcall.mono ?_; rintro e w' ⟨rfl, hb'⟩)
    go_roundg (l0.length - (kk + 1))
    case measure => omega
    case rel =>
     refine ⟨kk + 1, qa13, qa13, by go_num, ⟨hb'⟩, ⟨fun j hj x' hx' => ?_⟩⟩
     by_cases e : j = kk
     ·subst e
      rw [HX.out] at hx'; obtain rfl := Option.some.inj hx'
      exact HQ.out
     ·exact No.out j qa13 x' hx'
  ·have hltz : ¬ (kk : Int) < (l0.length : Int) := by omega
   have hk : kk = l0.length := by omega
   have HK := qO hk; clear hk; go_wp2
   go_ret
   exact ⟨by rw [slices_IndexFunc_int_int.miss p l0 (fun j hj => No.out j (by rw [HK.out]; exact hj))]; rfl, BW.out⟩
set_option maxHeartbeats 8000000
set_option maxRecDepth 100000
theorem slices_ContainsFunc_int_int.callsP (A0 : Option Addr) (c0 : Nat) (l0 : List Int) (g : Nat) (cb : Array Value) (p : Int → Bool) (w : World) (eg : ∀ args w, (callFunc g args).run Try.prog w = .ok (.enter g args) w) (hr0 : Kd.C (Kd.int .i64) w A0 l0.length l0)
  (hp : ∀ (W : World) (x : Int), x ∈ l0 → Below w.heap.size w W → Calls Try.prog g (#[.int .i64 x] ++ cb) W fun e w' => e = .returned (.bool (p x)) ∧ Below w.heap.size w w') :
  Calls Try.prog 121 #[.slice A0 l0.length c0, .func (.func g) #[] cb] w fun e w' => e = .returned (.bool (l0.any p)) ∧ Below w.heap.size w w' := by
 have hc := slices_IndexFunc_int_int.callsP A0 c0 l0 g cb p w eg hr0 hp
 have hany : decide (0 ≤ slices_IndexFunc_int_int.fp p l0) = l0.any p := by
  unfold slices_IndexFunc_int_int.fp
  cases hf : l0.findIdx? p with
  | none =>
   have h := List.findIdx?_eq_none_iff.1 hf
   have h2 : l0.any p = false := by
    rw [List.any_eq_false]; intro x hx; rw [h x hx]
    simp
   rw [h2]
   rfl
  | some i =>
   obtain ⟨hl, hi, _⟩ := List.findIdx?_eq_some_iff_getElem.1 hf; have h2 : l0.any p = true := List.any_eq_true.2 ⟨l0[i], List.getElem_mem hl, hi⟩; rw [h2]
   simp
 have HA := qO hany; clear hany hp; generalize slices_IndexFunc_int_int.fp p l0 = q at hc HA
 go_enter Try.func121, Try.ntmps121
 go_wp2_with (go_at_call 133; refine hc.mono ?_; rintro e w' ⟨rfl, hb'⟩)
 go_ret
 exact ⟨by rw [← HA.out]; rfl, hb'⟩
set_option maxHeartbeats 8000000
set_option maxRecDepth 100000
def impl_Store_changedSince.f (l0_0 : List (List (S43))) (a0_1 : Int) (a1 : Int) (a2 : Int) : Option (Bool) := if 0 ≤ a1 then (if a1 < (l0_0.length : Int) then (if ((rd_L4 l0_0 a1).length : Int) > 0 then (if 0 ≤ (wrap64 (((rd_L4 l0_0 a1).length : Int) - 1)) then (if (wrap64 (((rd_L4 l0_0 a1).length : Int) - 1)) < ((rd_L4 l0_0 a1).length : Int) then (some (decide (((rd_T43 (rd_L4 l0_0 a1) (wrap64 (((rd_L4 l0_0 a1).length : Int) - 1))).f0) > a2))) else (none)) else (none)) else (some false)) else (none)) else (none)
theorem impl_Store_changedSince.calls (A0_0 : Option Addr) (c0_0 : Nat) (l0_0 : List (List (S43))) (a0_1 : Int) (a1 : Int) (a2 : Int) (r : Bool) (w : World) (hr0_0 : Kd.C (Kd.slice 43 k43) w A0_0 l0_0.length l0_0) (hc0_0 : l0_0.length ≤ c0_0) (h : impl_Store_changedSince.f l0_0 a0_1 a1 a2 = some r) :
  Calls Try.prog 79 #[.agg #[.slice A0_0 l0_0.length c0_0, .int .i64 a0_1], .int .i64 a1, .int .i64 a2] w fun e w' => e = .returned (.bool r) ∧ Below w.heap.size w w' := by
 have hu28 := Try.underlying28; have HR0_0 := qO hr0_0; have HC0_0 := qO hc0_0; clear hr0_0 hc0_0; have HB := qO (Below.refl w.heap.size w); have H : (if 0 ≤ a1 then (if a1 < (l0_0.length : Int) then (if ((rd_L4 l0_0 a1).length : Int) > 0 then (if 0 ≤ (wrap64 (((rd_L4 l0_0 a1).length : Int) - 1)) then (if (wrap64 (((rd_L4 l0_0 a1).length : Int) - 1)) < ((rd_L4 l0_0 a1).length : Int) then (some (decide (((rd_T43 (rd_L4 l0_0 a1) (wrap64 (((rd_L4 l0_0 a1).length : Int) - 1))).f0) > a2))) else (none)) else (none)) else (some false)) else (none)) else (none)) = some r := h; clear h
 by_cases c4 : 0 ≤ a1
 ·rw [if_pos c4] at H
  have c4b0 := decide_eq_true c4; clear c4
  by_cases c5 : a1 < (l0_0.length : Int)
  ·rw [if_pos c5] at H
   have c5b0 := decide_eq_true c5; clear c5
   by_cases c6 : ((rd_L4 l0_0 a1).length : Int) > 0
   ·rw [if_pos c6] at H
    have c6b0 := qgt c6; have c6b1 : decide (0 < (rd_L4 l0_0 a1).length) = true := decide_eq_true qa13; clear c6; obtain ⟨ji7, hji7⟩ : ∃ j_ : Int, (wrap64 (((rd_L4 l0_0 a1).length : Int) - 1)) = j_ := ⟨_, rfl⟩; (first | rw [hji7] at H | simp only [hji7] at H)
    have hji7w : (IntKind.i64.wrap (((rd_L4 l0_0 a1).length : Int) - 1)) = ji7 := (i64_w _).trans hji7
    by_cases c8 : 0 ≤ (ji7)
    ·rw [if_pos c8] at H
     have c8b0 := decide_eq_true c8; clear c8
     by_cases c9 : (ji7) < ((rd_L4 l0_0 a1).length : Int)
     ·rw [if_pos c9] at H
      have c9b0 := decide_eq_true c9; clear c9; obtain rfl := Option.some.inj H
      go_enter Try.func79, Try.ntmps79
      go_wp2_with (first | ((with_reducible refine gate_dst (N := 3) rfl ?_); (try (refine gate_guard (by rfl) ?_; dsimp only)); refine qX 3 #[.slice A0_0 l0_0.length c0_0, .int .i64 a0_1] 28 ?_; intro gb101 hg w10 hbox hb; have hx_ := qHX HB hb qa0; have BK101 := qO (hbox); have GW101 := qO ((qa3 : w.heap.size ≤ gb101)); have GE101 := GW101; replace HB := qO (below_step (below_step HB.out hx_) hb); clear hx_ hb hbox hg; obtain ⟨hcz11_0, hcz11_1, hfz11_0, hfz11_1⟩ := qb2 BK101.out; have p102 : 0 ≤ (a1 : Int) := qT qa1; have q102 : a1 < (l0_0.length : Int) := qT qa1; obtain ⟨ad102, A102_0, c102_0, e102, hx102_0, hl102_0, hi102_0⟩ := at_L4 HR0_0.out a1 p102 q102; cases e102; replace hx102_0 := (HB.out.cell (qL w _ hx102_0)).trans hx102_0; have HR102_0 := qO hi102_0; have HC102_0 := qO hl102_0; clear hi102_0 hl102_0; replace p102 := eq_true p102; replace q102 := eq_true q102; have p103 : 0 ≤ ((ji7) : Int) := qT qa1; have q103 : (ji7) < ((rd_L4 l0_0 a1).length : Int) := qT qa1; obtain ⟨ad103, e103, hx103_0, hx103_1⟩ := at_T43 HR102_0.out (ji7) p103 q103; cases e103; replace hx103_0 := (HB.out.cell (qL w _ hx103_0)).trans hx103_0; replace hx103_1 := (HB.out.cell (qL w _ hx103_1)).trans hx103_1; replace p103 := eq_true p103; replace q103 := eq_true q103))
      go_ret
      exact ⟨qa82, qH HB.out⟩
     ·rw [if_neg c9] at H
      exact absurd H qa51
    ·rw [if_neg c8] at H
     exact absurd H qa51
   ·rw [if_neg c6] at H
    have c6b0 := qngt c6; have c6b1 : decide (0 < (rd_L4 l0_0 a1).length) = false := decide_eq_false qa13; clear c6; obtain rfl := Option.some.inj H
    go_enter Try.func79, Try.ntmps79
    go_wp2_with (first | ((with_reducible refine gate_dst (N := 3) rfl ?_); (try (refine gate_guard (by rfl) ?_; dsimp only)); refine qX 3 #[.slice A0_0 l0_0.length c0_0, .int .i64 a0_1] 28 ?_; intro gb101 hg w12 hbox hb; have hx_ := qHX HB hb qa0; have BK101 := qO (hbox); have GW101 := qO ((qa3 : w.heap.size ≤ gb101)); have GE101 := GW101; replace HB := qO (below_step (below_step HB.out hx_) hb); clear hx_ hb hbox hg; obtain ⟨hcz13_0, hcz13_1, hfz13_0, hfz13_1⟩ := qb2 BK101.out; have p102 : 0 ≤ (a1 : Int) := qT qa1; have q102 : a1 < (l0_0.length : Int) := qT qa1; obtain ⟨ad102, A102_0, c102_0, e102, hx102_0, hl102_0, hi102_0⟩ := at_L4 HR0_0.out a1 p102 q102; cases e102; replace hx102_0 := (HB.out.cell (qL w _ hx102_0)).trans hx102_0; have HR102_0 := qO hi102_0; have HC102_0 := qO hl102_0; clear hi102_0 hl102_0; replace p102 := eq_true p102; replace q102 := eq_true q102))
    go_ret
    exact ⟨qa2, qH HB.out⟩
  ·rw [if_neg c5] at H
   exact absurd H qa51
 ·rw [if_neg c4] at H
  exact absurd H qa51
set_option maxHeartbeats 8000000
set_option maxRecDepth 100000
theorem impl_Store_conflicts_1.callsQ (A0_0 : Option Addr) (c0_0 : Nat) (l0_0 : List (List (S43))) (a0_1 : Int) (a1_0 : Int) (A1_1 : Option Addr) (c1_1 : Nat) (l1_1 : List Int) (A1_2 : Option Addr) (c1_2 : Nat) (l1_2 : List (S58)) (x : Int) (gs gt : Nat) (b : Bool) (w : World) (hr0_0 : Kd.C (Kd.slice 43 k43) w A0_0 l0_0.length l0_0) (hc0_0 : l0_0.length ≤ c0_0)
  (hs : w.heap[gs]? = some (.cells #[.slice A0_0 l0_0.length c0_0, .int .i64 a0_1] 28 (0, 0))) (ht : w.heap[gt]? = some (.cells #[.int .i64 a1_0, .slice A1_1 l1_1.length c1_1, .slice A1_2 l1_2.length c1_2] 65 (0, 0)))
  (h : impl_Store_changedSince.f l0_0 a0_1 x a1_0 = some b) :
  Calls Try.prog 122 #[.int .i64 x, .pointer (some ⟨gs, 0, none⟩), .pointer (some ⟨gt, 0, none⟩)] w fun e w' => e = .returned (.bool b) ∧ Below w.heap.size w w' := by
 have hu1 := Try.underlying28; have hu2 := Try.underlying65; have hcs0 : w.cell? ⟨gs, 0, none⟩ = some (.slice A0_0 l0_0.length c0_0) := (blk_cell hs 0).trans rfl; have hcs1 : w.cell? ⟨gs, 1, none⟩ = some (.int .i64 a0_1) := (blk_cell hs 1).trans rfl; have hct0 : w.cell? ⟨gt, 0, none⟩ = some (.int .i64 a1_0) := (blk_cell ht 0).trans rfl; have hc := qO (impl_Store_changedSince.calls A0_0 c0_0 l0_0 a0_1 x a1_0 b w hr0_0 hc0_0 h); clear h hr0_0 hc0_0 hs ht
 go_enter Try.func122, Try.ntmps122
 go_wp2_with (go_at_call 79; refine hc.out.mono ?_; rintro e w' ⟨rfl, hb⟩)
 go_ret
 exact ⟨rfl, hb⟩
set_option maxHeartbeats 8000000
set_option maxRecDepth 100000
def impl_Store_conflicts.p (l0_0 : List (List (S43))) (a0_1 : Int) (a1_0 : Int) (x : Int) : Bool := match impl_Store_changedSince.f l0_0 a0_1 x a1_0 with | some b => b | none => false
def impl_Store_conflicts.f (l0_0 : List (List (S43))) (a0_1 : Int) (a1_0 : Int) (l1_1 : List Int) (l1_2 : List (S58)) : Option Bool :=
 if (l1_2.length : Int) > 0 then (if (l1_1.all fun x => (impl_Store_changedSince.f l0_0 a0_1 x a1_0).isSome) = true then some (l1_1.any (impl_Store_conflicts.p l0_0 a0_1 a1_0)) else none) else some false
theorem impl_Store_conflicts.pe {l0_0 : List (List (S43))} {a0_1 a1_0 : Int} {l1_1 : List Int} (h : (l1_1.all fun x => (impl_Store_changedSince.f l0_0 a0_1 x a1_0).isSome) = true) (x : Int) (hx : x ∈ l1_1) : impl_Store_changedSince.f l0_0 a0_1 x a1_0 = some (impl_Store_conflicts.p l0_0 a0_1 a1_0 x) := by
 obtain ⟨b, hb⟩ := Option.isSome_iff_exists.1 (List.all_eq_true.1 h x hx)
 unfold impl_Store_conflicts.p
 rw [hb]
theorem impl_Store_conflicts.calls (A0_0 : Option Addr) (c0_0 : Nat) (l0_0 : List (List (S43))) (a0_1 : Int) (a1_0 : Int) (A1_1 : Option Addr) (c1_1 : Nat) (l1_1 : List Int) (A1_2 : Option Addr) (c1_2 : Nat) (l1_2 : List (S58)) (r : Bool) (w : World) (hr0_0 : Kd.C (Kd.slice 43 k43) w A0_0 l0_0.length l0_0) (hc0_0 : l0_0.length ≤ c0_0) (hr1_1 : Kd.C (Kd.int .i64) w A1_1 l1_1.length l1_1) (hc1_1 : l1_1.length ≤ c1_1) (hr1_2 : Kd.C k58 w A1_2 l1_2.length l1_2) (hc1_2 : l1_2.length ≤ c1_2) (h : impl_Store_conflicts.f l0_0 a0_1 a1_0 l1_1 l1_2 = some r) :
  Calls Try.prog 86 #[.agg #[.slice A0_0 l0_0.length c0_0, .int .i64 a0_1], .agg #[.int .i64 a1_0, .slice A1_1 l1_1.length c1_1, .slice A1_2 l1_2.length c1_2]] w fun e w' => e = .returned (.bool r) ∧ Below w.heap.size w w' := by
 have hu1 := Try.underlying28; have hu2 := Try.underlying65; have eg : ∀ args w, (callFunc 122 args).run Try.prog w = .ok (.enter 122 args) w := enters_of Try.func122 qa18 rfl
 unfold impl_Store_conflicts.f at h
 have HR0 := qO hr0_0; have HR1 := qO hr1_1; clear hr0_0 hr1_1 hr1_2 hc1_1 hc1_2
 by_cases hp : (l1_2.length : Int) > 0
 ·rw [if_pos hp] at h
  have hd : decide (0 < (l1_2.length : Int)) = true := decide_eq_true hp; have hd2 : decide (0 < l1_2.length) = true := decide_eq_true qa13; clear hp
  by_cases ha : (l1_1.all fun x => (impl_Store_changedSince.f l0_0 a0_1 x a1_0).isSome) = true
  ·rw [if_pos ha] at h
   obtain rfl := Option.some.inj h; have HA := qO ha; clear ha h; have EG := qO eg; clear eg; have HC0 := qO hc0_0; clear hc0_0; have HP := qO (rfl : l1_1.any (impl_Store_conflicts.p l0_0 a0_1 a1_0) = l1_1.any (impl_Store_conflicts.p l0_0 a0_1 a1_0))
   go_enter Try.func86, Try.ntmps86
   go_wp2_with (first
    | ((with_reducible refine gate_dst (N := 2) rfl ?_); refine qX 2 #[.slice A0_0 l0_0.length c0_0, .int .i64 a0_1] 28 ?_; intro gs hg w1 hbox hb; have B1 := qO hb; have K1 := qO hbox; clear hg hb hbox)
    | ((with_reducible refine gate_dst (N := 3) rfl ?_); refine qX 3 #[.int .i64 a1_0, .slice A1_1 l1_1.length c1_1, .slice A1_2 l1_2.length c1_2] 65 ?_; intro gt hg w2 hbox hb; have B2 := qO (below_step B1.out hb); have K2 := qO hbox; have K1' := qO (blk_below K1.out hb); have hct1 : w2.cell? ⟨gt, 1, none⟩ = some (.slice A1_1 l1_1.length c1_1) := (blk_cell hbox 1).trans rfl; have hct2 : w2.cell? ⟨gt, 2, none⟩ = some (.slice A1_2 l1_2.length c1_2) := (blk_cell hbox 2).trans rfl; clear hg hb hbox)
    | (go_at_call 121; refine (slices_ContainsFunc_int_int.callsP A1_1 c1_1 l1_1 122 #[.pointer (some ⟨gs, 0, none⟩), .pointer (some ⟨gt, 0, none⟩)] (impl_Store_conflicts.p l0_0 a0_1 a1_0) w2 EG.out (Kd.C_below HR1.out B2.out) (fun W x hx hb => (impl_Store_conflicts_1.callsQ A0_0 c0_0 l0_0 a0_1 a1_0 A1_1 c1_1 l1_1 A1_2 c1_2 l1_2 x gs gt _ W (Kd.C_below HR0.out (below_step B2.out hb)) HC0.out (blk_below K1'.out hb) (blk_below K2.out hb) (impl_Store_conflicts.pe HA.out x hx)).mono (by rintro e w' ⟨rfl, h2⟩; exact ⟨rfl, below_step hb h2⟩))).mono ?_; rintro e w3 ⟨rfl, hb3⟩))
   go_ret
   exact ⟨rfl, below_step B2.out hb3⟩
  ·rw [if_neg ha] at h
   cases h
 ·rw [if_neg hp] at h
  have hd : decide (0 < (l1_2.length : Int)) = false := decide_eq_false hp; have hd2 : decide (0 < l1_2.length) = false := decide_eq_false qa13; clear hp; obtain rfl := Option.some.inj h; clear h eg
  go_enter Try.func86, Try.ntmps86
  go_wp2_with (first
    | ((with_reducible refine gate_dst (N := 2) rfl ?_); refine qX 2 #[.slice A0_0 l0_0.length c0_0, .int .i64 a0_1] 28 ?_; intro gs hg w1 hbox hb; have B1 := qO hb; clear hg hb hbox)
    | ((with_reducible refine gate_dst (N := 3) rfl ?_); refine qX 3 #[.int .i64 a1_0, .slice A1_1 l1_1.length c1_1, .slice A1_2 l1_2.length c1_2] 65 ?_; intro gt hg w2 hbox hb; have B2 := qO (below_step B1.out hb); have hct2 : w2.cell? ⟨gt, 2, none⟩ = some (.slice A1_2 l1_2.length c1_2) := (blk_cell hbox 2).trans rfl; clear hg hb hbox))
  go_ret
  exact ⟨rfl, B2.out⟩
set_option maxHeartbeats 8000000
set_option maxRecDepth 100000
def impl_Conflicts.f (k : Nat) (l0_0 : List (List (S43))) (a0_1 : Int) (a1_0 : Int) (l1_1 : List Int) (l1_2 : List (S58)) : Option (Bool × Int) := (impl_TxnOK.f k l0_0 a0_1 a1_0 l1_1 l1_2).bind fun t103 => (if t103 = true then ((impl_Store_conflicts.f l0_0 a0_1 a1_0 l1_1 l1_2).bind fun t104 => (some (t104, 0))) else (some (false, 1)))
theorem impl_Conflicts.calls (k : Nat) (A0_0 : Option Addr) (c0_0 : Nat) (l0_0 : List (List (S43))) (a0_1 : Int) (a1_0 : Int) (A1_1 : Option Addr) (c1_1 : Nat) (l1_1 : List Int) (A1_2 : Option Addr) (c1_2 : Nat) (l1_2 : List (S58)) (r1 : Bool) (r2 : Int) (w : World) (hr0_0 : Kd.C (Kd.slice 43 k43) w A0_0 l0_0.length l0_0) (hc0_0 : l0_0.length ≤ c0_0) (hr1_1 : Kd.C (Kd.int .i64) w A1_1 l1_1.length l1_1) (hc1_1 : l1_1.length ≤ c1_1) (hr1_2 : Kd.C k58 w A1_2 l1_2.length l1_2) (hc1_2 : l1_2.length ≤ c1_2) (h : impl_Conflicts.f k l0_0 a0_1 a1_0 l1_1 l1_2 = some (r1, r2)) :
  Calls Try.prog 40 #[.agg #[.slice A0_0 l0_0.length c0_0, .int .i64 a0_1], .agg #[.int .i64 a1_0, .slice A1_1 l1_1.length c1_1, .slice A1_2 l1_2.length c1_2]] w fun e w' => e = .returned (.tuple #[.bool r1, .int .i64 r2]) ∧ Below w.heap.size w w' := by
 have hu28 := Try.underlying28; have hu65 := Try.underlying65; have HR0_0 := qO hr0_0; have HC0_0 := qO hc0_0; clear hr0_0 hc0_0; have HR1_1 := qO hr1_1; have HC1_1 := qO hc1_1; clear hr1_1 hc1_1; have HR1_2 := qO hr1_2; have HC1_2 := qO hc1_2; clear hr1_2 hc1_2; have HB := qO (Below.refl w.heap.size w); have H : ((impl_TxnOK.f k l0_0 a0_1 a1_0 l1_1 l1_2).bind fun t103 => (if t103 = true then ((impl_Store_conflicts.f l0_0 a0_1 a1_0 l1_1 l1_2).bind fun t104 => (some (t104, 0))) else (some (false, 1)))) = some (r1, r2) := h; clear h; replace H := Option.bind_eq_some_iff.mp H; obtain ⟨t103, A30, H⟩ := H; have A3 := qO A30; clear A30
 by_cases c4 : t103 = true
 ·subst c4
  rw [if_pos rfl] at H; replace H := Option.bind_eq_some_iff.mp H; obtain ⟨t104, A50, H⟩ := H; have A5 := qO A50; clear A50; simp only [Option.some.injEq, Prod.mk.injEq] at H; obtain ⟨rfl, rfl⟩ := H
  go_enter Try.func40, Try.ntmps40
  go_wp2_with (first | ((with_reducible refine gate_dst (N := 2) rfl ?_); refine qX 2 #[.slice A0_0 l0_0.length c0_0, .int .i64 a0_1] 28 ?_; intro gb101 hg w6 hbox hb; have hx_ := qHX HB hb qa0; have BK101 := qO (hbox); have GW101 := qO ((qa3 : w.heap.size ≤ gb101)); have GE101 := GW101; replace HB := qO (below_step (below_step HB.out hx_) hb); clear hx_ hb hbox hg) | ((with_reducible refine gate_dst (N := 3) rfl ?_); refine qX 3 #[.int .i64 a1_0, .slice A1_1 l1_1.length c1_1, .slice A1_2 l1_2.length c1_2] 65 ?_; intro gb102 hg w7 hbox hb; have hx_ := qHX HB hb qa0; have BK102 := qO (hbox); have GW102 := qO ((qa3 : w.heap.size ≤ gb102)); have GE102 := GW102; have NB101_102 := qO ((qLt hg (qk BK101.out))); have NB102_101 := qO (Ne.symm NB101_102.out); replace BK101 := qO (qB BK101.out hx_ hb); replace HB := qO (below_step (below_step HB.out hx_) hb); clear hx_ hb hbox hg; have hnb8 := NB101_102.out; have hnc8 := NB102_101.out; obtain ⟨hcz9_0, hcz9_1, hfz9_0, hfz9_1⟩ := qb2 BK101.out; obtain ⟨hcz10_0, hcz10_1, hcz10_2, hfz10_0, hfz10_1, hfz10_2⟩ := qb3 BK102.out) | ((with_reducible refine gate_callee (f := 42) rfl ?_); refine qGL 8 Try.func42 #[.agg #[.slice A0_0 l0_0.length c0_0, .int .i64 a0_1], .agg #[.int .i64 a1_0, .slice A1_1 l1_1.length c1_1, .slice A1_2 l1_2.length c1_2]] ?_; (with_reducible refine (impl_TxnOK.calls k _ _ l0_0 a0_1 a1_0 _ _ l1_1 _ _ l1_2 true _ ?side1 ?side2 ?side3 ?side4 ?side5 ?side6 A3.out).mono ?_); (case side1 => exact qa42); (case side2 => exact HC0_0.out); (case side3 => exact qa68); (case side4 => exact HC1_1.out); (case side5 => exact qa66); (case side6 => exact HC1_2.out); rintro e w11 ⟨rfl, hb⟩; have hx_ := qHX HB hb qa0; refine ⟨_, rfl, ?_⟩; replace BK101 := qO (qB BK101.out hx_ hb); replace BK102 := qO (qB BK102.out hx_ hb); replace HB := qO (below_step (below_step HB.out hx_) hb); clear hx_ hb; obtain ⟨hcz12_0, hcz12_1, hfz12_0, hfz12_1⟩ := qb2 BK101.out; obtain ⟨hcz13_0, hcz13_1, hcz13_2, hfz13_0, hfz13_1, hfz13_2⟩ := qb3 BK102.out) | ((with_reducible refine gate_callee (f := 86) rfl ?_); refine qGL 12 Try.func86 #[.agg #[.slice A0_0 l0_0.length c0_0, .int .i64 a0_1], .agg #[.int .i64 a1_0, .slice A1_1 l1_1.length c1_1, .slice A1_2 l1_2.length c1_2]] ?_; (with_reducible refine (impl_Store_conflicts.calls _ _ l0_0 a0_1 a1_0 _ _ l1_1 _ _ l1_2 t104 _ ?side1 ?side2 ?side3 ?side4 ?side5 ?side6 A5.out).mono ?_); (case side1 => exact qa42); (case side2 => exact HC0_0.out); (case side3 => exact qa68); (case side4 => exact HC1_1.out); (case side5 => exact qa66); (case side6 => exact HC1_2.out); rintro e w14 ⟨rfl, hb⟩; have hx_ := qHX HB hb qa0; refine ⟨_, rfl, ?_⟩; replace BK101 := qO (qB BK101.out hx_ hb); replace BK102 := qO (qB BK102.out hx_ hb); replace HB := qO (below_step (below_step HB.out hx_) hb); clear hx_ hb))
  go_ret2
  exact ⟨qa2, qH HB.out⟩
 ·replace c4 := Bool.eq_false_iff.mpr c4
  subst c4; rw [qfn] at H; simp only [Option.some.injEq, Prod.mk.injEq] at H; obtain ⟨rfl, rfl⟩ := H
  go_enter Try.func40, Try.ntmps40
  go_wp2_with (first | ((with_reducible refine gate_dst (N := 2) rfl ?_); refine qX 2 #[.slice A0_0 l0_0.length c0_0, .int .i64 a0_1] 28 ?_; intro gb101 hg w15 hbox hb; have hx_ := qHX HB hb qa0; have BK101 := qO (hbox); have GW101 := qO ((qa3 : w.heap.size ≤ gb101)); have GE101 := GW101; replace HB := qO (below_step (below_step HB.out hx_) hb); clear hx_ hb hbox hg) | ((with_reducible refine gate_dst (N := 3) rfl ?_); refine qX 3 #[.int .i64 a1_0, .slice A1_1 l1_1.length c1_1, .slice A1_2 l1_2.length c1_2] 65 ?_; intro gb102 hg w16 hbox hb; have hx_ := qHX HB hb qa0; have BK102 := qO (hbox); have GW102 := qO ((qa3 : w.heap.size ≤ gb102)); have GE102 := GW102; have NB101_102 := qO ((qLt hg (qk BK101.out))); have NB102_101 := qO (Ne.symm NB101_102.out); replace BK101 := qO (qB BK101.out hx_ hb); replace HB := qO (below_step (below_step HB.out hx_) hb); clear hx_ hb hbox hg; have hnb17 := NB101_102.out; have hnc17 := NB102_101.out; obtain ⟨hcz18_0, hcz18_1, hfz18_0, hfz18_1⟩ := qb2 BK101.out; obtain ⟨hcz19_0, hcz19_1, hcz19_2, hfz19_0, hfz19_1, hfz19_2⟩ := qb3 BK102.out) | ((with_reducible refine gate_callee (f := 42) rfl ?_); refine qGL 8 Try.func42 #[.agg #[.slice A0_0 l0_0.length c0_0, .int .i64 a0_1], .agg #[.int .i64 a1_0, .slice A1_1 l1_1.length c1_1, .slice A1_2 l1_2.length c1_2]] ?_; (with_reducible refine (impl_TxnOK.calls k _ _ l0_0 a0_1 a1_0 _ _ l1_1 _ _ l1_2 false _ ?side1 ?side2 ?side3 ?side4 ?side5 ?side6 A3.out).mono ?_); (case side1 => exact qa42); (case side2 => exact HC0_0.out); (case side3 => exact qa68); (case side4 => exact HC1_1.out); (case side5 => exact qa66); (case side6 => exact HC1_2.out); rintro e w20 ⟨rfl, hb⟩; have hx_ := qHX HB hb qa0; refine ⟨_, rfl, ?_⟩; replace BK101 := qO (qB BK101.out hx_ hb); replace BK102 := qO (qB BK102.out hx_ hb); replace HB := qO (below_step (below_step HB.out hx_) hb); clear hx_ hb))
  go_ret2
  exact ⟨qa2, qH HB.out⟩
set_option maxHeartbeats 8000000
set_option maxRecDepth 100000
def spec_l01In.f (a0 : Int) (a1 : Int) (a2 : Int) : Option (Bool) := if a1 ≤ a0 then (some (decide (a0 ≤ a2))) else (some false)
theorem spec_l01In.calls (a0 : Int) (a1 : Int) (a2 : Int) (r : Bool) (w : World) (h : spec_l01In.f a0 a1 a2 = some r) :
  Calls Try.prog 96 #[.int .i64 a0, .int .i64 a1, .int .i64 a2] w fun e w' => e = .returned (.bool r) ∧ Drawn0 w w' := by
 have H : (if a1 ≤ a0 then (some (decide (a0 ≤ a2))) else (some false)) = some r := h; clear h
 by_cases c4 : a1 ≤ a0
 ·rw [if_pos c4] at H
  have c4b0 := decide_eq_true c4; clear c4; obtain rfl := Option.some.inj H
  go_enter Try.func96, Try.ntmps96
  go_wp2
  go_ret
  exact ⟨qa6, qa23⟩
 ·rw [if_neg c4] at H
  have c4b0 := decide_eq_false c4; clear c4; obtain rfl := Option.some.inj H
  go_enter Try.func96, Try.ntmps96
  go_wp2
  go_ret
  exact ⟨qa6, qa23⟩
set_option maxHeartbeats 8000000
set_option maxRecDepth 100000
def spec_IsInt.f (a0 : Int) : Option (Bool) := (spec_l01In.f a0 (-2147483648) 2147483647).bind fun t101 => (some t101)
theorem spec_IsInt.calls (a0 : Int) (r : Bool) (w : World) (h : spec_IsInt.f a0 = some r) :
  Calls Try.prog 131 #[.int .i64 a0] w fun e w' => e = .returned (.bool r) ∧ Drawn0 w w' := by
 have H : ((spec_l01In.f a0 (-2147483648) 2147483647).bind fun t101 => (some t101)) = some r := h; clear h; replace H := Option.bind_eq_some_iff.mp H; obtain ⟨t101, A20, H⟩ := H; have A2 := qO A20; clear A20; obtain rfl := Option.some.inj H
 go_enter Try.func131, Try.ntmps131
 go_wp2_with (first | ((with_reducible refine gate_callee (f := 96) rfl ?_); refine qGL 4 Try.func96 #[.int .i64 a0, .int .i64 (-2147483648), .int .i64 2147483647] ?_; (with_reducible refine (spec_l01In.calls a0 (-2147483648) 2147483647 t101 _ A2.out).mono ?_); rintro e w' ⟨rfl, ⟨nd, rfl⟩⟩; refine ⟨_, rfl, ?_⟩))
 go_ret
 exact ⟨qa6, qa23⟩
set_option maxHeartbeats 8000000
set_option maxRecDepth 100000
def spec_l06Value.f (a0 : Int) (a1 : Int) : Option (Bool) := if (Int.tmod a0 2) = 1 then ((spec_l01In.f a1 0 8).bind fun t101 => (some t101)) else ((spec_IsInt.f a1).bind fun t102 => (some t102))
theorem spec_l06Value.calls (a0 : Int) (a1 : Int) (r : Bool) (w : World) (h : spec_l06Value.f a0 a1 = some r) :
  Calls Try.prog 113 #[.int .i64 a0, .int .i64 a1] w fun e w' => e = .returned (.bool r) ∧ Drawn0 w w' := by
 have H : (if (Int.tmod a0 2) = 1 then ((spec_l01In.f a1 0 8).bind fun t101 => (some t101)) else ((spec_IsInt.f a1).bind fun t102 => (some t102))) = some r := h; clear h
 by_cases c3 : (Int.tmod a0 2) = 1
 ·rw [if_pos c3] at H
  have c3b0 := beq_iff_eq.mpr c3; have c3b1 := bne_eq_false_iff_eq.mpr c3; clear c3; replace H := Option.bind_eq_some_iff.mp H; obtain ⟨t101, A40, H⟩ := H; have A4 := qO A40; clear A40; obtain rfl := Option.some.inj H
  go_enter Try.func113, Try.ntmps113
  go_wp2_with (first | ((with_reducible refine gate_callee (f := 96) rfl ?_); refine qGL 9 Try.func96 #[.int .i64 a1, .int .i64 0, .int .i64 8] ?_; (with_reducible refine (spec_l01In.calls a1 0 8 t101 _ A4.out).mono ?_); rintro e w' ⟨rfl, ⟨nd, rfl⟩⟩; refine ⟨_, rfl, ?_⟩))
  go_ret
  exact ⟨qa6, qa23⟩
 ·rw [if_neg c3] at H
  have c3b0 := beq_eq_false_iff_ne.mpr c3; have c3b1 := bne_iff_ne.mpr c3; replace H := Option.bind_eq_some_iff.mp H; obtain ⟨t102, A50, H⟩ := H; have A5 := qO A50; clear A50; obtain rfl := Option.some.inj H
  go_enter Try.func113, Try.ntmps113
  go_wp2_with (first | ((with_reducible refine gate_callee (f := 131) rfl ?_); refine qGL 11 Try.func131 #[.int .i64 a1] ?_; (with_reducible refine (spec_IsInt.calls a1 t102 _ A5.out).mono ?_); rintro e w' ⟨rfl, ⟨nd, rfl⟩⟩; refine ⟨_, rfl, ?_⟩))
  go_ret
  exact ⟨qa6, qa23⟩
set_option maxHeartbeats 8000000
set_option maxRecDepth 100000
mutual
def spec_StoreOK.j0 : Nat → Bool → List (List (S43)) → Int → Option (Bool)
 | 0, _, _, _ => none
 | k + 1, x15, x102000, x102001 => if x15 = true then (some false) else (spec_StoreOK.l0 k 0 x102000 x102001)
def spec_StoreOK.l0 : Nat → Int → List (List (S43)) → Int → Option (Bool)
 | 0, _, _, _ => none
 | k + 1, x3, x102000, x102001 => if x3 < 16 then (spec_StoreOK.l1 k x3 0 x102000 x102001) else (some true)
def spec_StoreOK.l1 : Nat → Int → Int → List (List (S43)) → Int → Option (Bool)
 | 0, _, _, _, _ => none
 | k + 1, x3, x4, x102000, x102001 => if 0 ≤ x3 then (if x3 < (x102000.length : Int) then (if x4 < ((rd_L4 x102000 x3).length : Int) then (if 0 ≤ x4 then ((spec_l01In.f ((rd_T43 (rd_L4 x102000 x3) x4).f0) 1 x102001).bind fun t107 => (if t107 = true then ((spec_l06Value.f x3 ((rd_T43 (rd_L4 x102000 x3) x4).f1)).bind fun t108 => (if t108 = true then (if x4 > 0 then (if 0 ≤ (wrap64 (x4 - 1)) then (if (wrap64 (x4 - 1)) < ((rd_L4 x102000 x3).length : Int) then (if ((rd_T43 (rd_L4 x102000 x3) (wrap64 (x4 - 1))).f0) ≥ ((rd_T43 (rd_L4 x102000 x3) x4).f0) then (some false) else (spec_StoreOK.l1 k x3 (wrap64 (x4 + 1)) x102000 x102001)) else (none)) else (none)) else (spec_StoreOK.l1 k x3 (wrap64 (x4 + 1)) x102000 x102001)) else (some false))) else (some false))) else (none)) else (spec_StoreOK.l0 k (wrap64 (x3 + 1)) x102000 x102001)) else (none)) else (none)
end
def spec_StoreOK.f (k : Nat) (l0_0 : List (List (S43))) (a0_1 : Int) : Option (Bool) := if (l0_0.length : Int) = 16 then ((spec_l01In.f a0_1 0 100000).bind fun t102 => (spec_StoreOK.j0 k (!t102) l0_0 a0_1)) else (spec_StoreOK.j0 k true l0_0 a0_1)
def spec_StoreOK.T10 : Bool × List (List Nat × List Nat) := (true, [([], []), ([0], [0]), ([], []), ([2], [2]), ([1, 3], [1, 3]), ([4], [4]), ([5, 4], [5]), ([6], [6]), ([6], [6]), ([8, 6], [6, 8]), ([7, 9, 6, 6], [6, 7, 9]), ([10, 6], [6, 10]), ([6, 11], [6, 11]), ([12, 10], [12]), ([13], [13]), ([14, 13], [13, 14]), ([15, 13, 13], [13, 15]), ([16], [16]), ([17, 16], [16, 17]), ([16], [16]), ([18, 19, 16], [16, 18, 19]), ([20, 16], [16, 20]), ([16], [16]), ([22, 16], [16, 22]), ([21, 23, 16], [16, 21, 23]), ([24, 16], [16, 24]), ([25, 16], [16, 25]), ([16], [16]), ([27, 16], [16, 27]), ([26, 28, 16], [16, 26, 28]), ([16, 29, 13], [13, 16, 29]), ([13, 30], [13, 30])])
def spec_StoreOK.B10 : List Nat := [0, 1, 0, 4, 15, 31, 63, 127, 127, 383, 1023, 2047, 4095, 8191, 16383, 32767, 65535, 131071, 262143, 131071, 1048575, 2097151, 131071, 4325375, 16777215, 33554431, 67108863, 131071, 134348799, 536870911, 1073741823, 2147483647]
theorem spec_StoreOK.tab10 : rtab .any (opsOf Try.f70 10) = spec_StoreOK.T10 := by kernel_rfl
theorem spec_StoreOK.bits10 : waitsOk spec_StoreOK.T10.2 spec_StoreOK.B10 = true := by kernel_rfl
def z70_0 := #[qf,qf,qf,qf,qf,qf,qf,qf,qf,qf,qf,qf,qf,qf,qf,qf,qf,qf,qf,qf,qf,qf,qf,qf,qf,qf,qf,qf,qf,qf,qf,qf]
def z70_1 := #[qt,qf,qf,qf,qf,qf,qf,qf,qf,qf,qf,qf,qf,qf,qf,qf,qf,qf,qf,qf,qf,qf,qf,qf,qf,qf,qf,qf,qf,qf,qf,qf]
def z70_2 := #[qt,qf,qt,qf,qf,qf,qf,qf,qf,qf,qf,qf,qf,qf,qf,qf,qf,qf,qf,qf,qf,qf,qf,qf,qf,qf,qf,qf,qf,qf,qf,qf]
def z70_3 := #[qt,qt,qt,qf,qf,qf,qf,qf,qf,qf,qf,qf,qf,qf,qf,qf,qf,qf,qf,qf,qf,qf,qf,qf,qf,qf,qf,qf,qf,qf,qf,qf]
def z70_4 := #[qt,qt,qt,qt,qf,qf,qf,qf,qf,qf,qf,qf,qf,qf,qf,qf,qf,qf,qf,qf,qf,qf,qf,qf,qf,qf,qf,qf,qf,qf,qf,qf]
def z70_5 := #[qt,qt,qt,qt,qt,qf,qf,qf,qf,qf,qf,qf,qf,qf,qf,qf,qf,qf,qf,qf,qf,qf,qf,qf,qf,qf,qf,qf,qf,qf,qf,qf]
def z70_6 := #[qt,qt,qt,qt,qt,qt,qf,qf,qf,qf,qf,qf,qf,qf,qf,qf,qf,qf,qf,qf,qf,qf,qf,qf,qf,qf,qf,qf,qf,qf,qf,qf]
def z70_7 := #[qt,qt,qt,qt,qt,qt,qt,qf,qf,qf,qf,qf,qf,qf,qf,qf,qf,qf,qf,qf,qf,qf,qf,qf,qf,qf,qf,qf,qf,qf,qf,qf]
def z70_8 := #[qt,qt,qt,qt,qt,qt,qt,qt,qf,qf,qf,qf,qf,qf,qf,qf,qf,qf,qf,qf,qf,qf,qf,qf,qf,qf,qf,qf,qf,qf,qf,qf]
def z70_9 := #[qt,qt,qt,qt,qt,qt,qt,qt,qt,qf,qf,qf,qf,qf,qf,qf,qf,qf,qf,qf,qf,qf,qf,qf,qf,qf,qf,qf,qf,qf,qf,qf]
def z70_10 := #[qt,qt,qt,qt,qt,qt,qt,qt,qt,qt,qf,qf,qf,qf,qf,qf,qf,qf,qf,qf,qf,qf,qf,qf,qf,qf,qf,qf,qf,qf,qf,qf]
def z70_11 := #[qt,qt,qt,qt,qt,qt,qt,qt,qt,qt,qt,qf,qf,qf,qf,qf,qf,qf,qf,qf,qf,qf,qf,qf,qf,qf,qf,qf,qf,qf,qf,qf]
def z70_12 := #[qt,qt,qt,qt,qt,qt,qt,qt,qt,qt,qt,qt,qf,qf,qf,qf,qf,qf,qf,qf,qf,qf,qf,qf,qf,qf,qf,qf,qf,qf,qf,qf]
def z70_13 := #[qt,qt,qt,qt,qt,qt,qt,qt,qt,qt,qt,qt,qt,qf,qf,qf,qf,qf,qf,qf,qf,qf,qf,qf,qf,qf,qf,qf,qf,qf,qf,qf]
def z70_14 := #[qt,qt,qt,qt,qt,qt,qt,qt,qt,qt,qt,qt,qt,qt,qf,qf,qf,qf,qf,qf,qf,qf,qf,qf,qf,qf,qf,qf,qf,qf,qf,qf]
def z70_15 := #[qt,qt,qt,qt,qt,qt,qt,qt,qt,qt,qt,qt,qt,qt,qt,qf,qf,qf,qf,qf,qf,qf,qf,qf,qf,qf,qf,qf,qf,qf,qf,qf]
def z70_16 := #[qt,qt,qt,qt,qt,qt,qt,qt,qt,qt,qt,qt,qt,qt,qt,qt,qf,qf,qf,qf,qf,qf,qf,qf,qf,qf,qf,qf,qf,qf,qf,qf]
def z70_17 := #[qt,qt,qt,qt,qt,qt,qt,qt,qt,qt,qt,qt,qt,qt,qt,qt,qt,qf,qf,qf,qf,qf,qf,qf,qf,qf,qf,qf,qf,qf,qf,qf]
def z70_18 := #[qt,qt,qt,qt,qt,qt,qt,qt,qt,qt,qt,qt,qt,qt,qt,qt,qt,qt,qf,qf,qf,qf,qf,qf,qf,qf,qf,qf,qf,qf,qf,qf]
def z70_19 := #[qt,qt,qt,qt,qt,qt,qt,qt,qt,qt,qt,qt,qt,qt,qt,qt,qt,qt,qf,qt,qf,qf,qf,qf,qf,qf,qf,qf,qf,qf,qf,qf]
def z70_20 := #[qt,qt,qt,qt,qt,qt,qt,qt,qt,qt,qt,qt,qt,qt,qt,qt,qt,qt,qf,qt,qf,qf,qt,qf,qf,qf,qf,qf,qf,qf,qf,qf]
def z70_21 := #[qt,qt,qt,qt,qt,qt,qt,qt,qt,qt,qt,qt,qt,qt,qt,qt,qt,qt,qf,qt,qf,qf,qt,qt,qf,qf,qf,qf,qf,qf,qf,qf]
def z70_22 := #[qt,qt,qt,qt,qt,qt,qt,qt,qt,qt,qt,qt,qt,qt,qt,qt,qt,qt,qf,qt,qf,qf,qt,qt,qf,qf,qf,qt,qf,qf,qf,qf]
def z70_23 := #[qt,qt,qt,qt,qt,qt,qt,qt,qt,qt,qt,qt,qt,qt,qt,qt,qt,qt,qt,qt,qf,qf,qt,qt,qf,qf,qf,qt,qf,qf,qf,qf]
def z70_24 := #[qt,qt,qt,qt,qt,qt,qt,qt,qt,qt,qt,qt,qt,qt,qt,qt,qt,qt,qt,qt,qt,qf,qt,qt,qf,qf,qf,qt,qf,qf,qf,qf]
def z70_25 := #[qt,qt,qt,qt,qt,qt,qt,qt,qt,qt,qt,qt,qt,qt,qt,qt,qt,qt,qt,qt,qt,qt,qt,qt,qf,qf,qf,qt,qf,qf,qf,qf]
def z70_26 := #[qt,qt,qt,qt,qt,qt,qt,qt,qt,qt,qt,qt,qt,qt,qt,qt,qt,qt,qt,qt,qt,qt,qt,qt,qt,qf,qf,qt,qf,qf,qf,qf]
def z70_27 := #[qt,qt,qt,qt,qt,qt,qt,qt,qt,qt,qt,qt,qt,qt,qt,qt,qt,qt,qt,qt,qt,qt,qt,qt,qt,qt,qf,qt,qf,qf,qf,qf]
def z70_28 := #[qt,qt,qt,qt,qt,qt,qt,qt,qt,qt,qt,qt,qt,qt,qt,qt,qt,qt,qt,qt,qt,qt,qt,qt,qt,qt,qt,qt,qf,qf,qf,qf]
def z70_29 := #[qt,qt,qt,qt,qt,qt,qt,qt,qt,qt,qt,qt,qt,qt,qt,qt,qt,qt,qt,qt,qt,qt,qt,qt,qt,qt,qt,qt,qt,qf,qf,qf]
def z70_30 := #[qt,qt,qt,qt,qt,qt,qt,qt,qt,qt,qt,qt,qt,qt,qt,qt,qt,qt,qt,qt,qt,qt,qt,qt,qt,qt,qt,qt,qt,qt,qf,qf]
def z70_31 := #[qt,qt,qt,qt,qt,qt,qt,qt,qt,qt,qt,qt,qt,qt,qt,qt,qt,qt,qt,qt,qt,qt,qt,qt,qt,qt,qt,qt,qt,qt,qt,qf]
def z70_32 := #[qt,qt,qt,qt,qt,qt,qt,qt,qt,qt,qt,qt,qt,qt,qt,qt,qt,qt,qt,qt,qt,qt,qt,qt,qt,qt,qt,qt,qt,qt,qt,qt]
def z70_33 := #[qt,qt,qt,qt,qt,qt,qt,qt,qt,qt,qt,qt,qt,qt,qt,qt,qt,qt,qt,qf,qf,qf,qf,qf,qf,qf,qf,qf,qf,qf,qf,qf]
def z70_34 := #[qt,qt,qt,qt,qt,qt,qt,qt,qt,qt,qt,qt,qt,qt,qt,qt,qt,qt,qt,qt,qf,qf,qf,qf,qf,qf,qf,qf,qf,qf,qf,qf]
def z70_35 := #[qt,qt,qt,qt,qt,qt,qt,qt,qt,qt,qt,qt,qt,qt,qt,qt,qt,qt,qt,qt,qt,qf,qf,qf,qf,qf,qf,qf,qf,qf,qf,qf]
def z70_36 := #[qt,qt,qt,qt,qt,qt,qt,qt,qt,qt,qt,qt,qt,qt,qt,qt,qt,qt,qt,qt,qt,qt,qf,qf,qf,qf,qf,qf,qf,qf,qf,qf]
def z70_37 := #[qt,qt,qt,qt,qt,qt,qt,qt,qt,qt,qt,qt,qt,qt,qt,qt,qt,qt,qt,qt,qt,qt,qt,qf,qf,qf,qf,qf,qf,qf,qf,qf]
def z70_38 := #[qt,qt,qt,qt,qt,qt,qt,qt,qt,qt,qt,qt,qt,qt,qt,qt,qt,qt,qt,qt,qt,qt,qt,qt,qf,qf,qf,qf,qf,qf,qf,qf]
def z70_39 := #[qt,qt,qt,qt,qt,qt,qt,qt,qt,qt,qt,qt,qt,qt,qt,qt,qt,qt,qt,qt,qt,qt,qt,qt,qt,qf,qf,qf,qf,qf,qf,qf]
def z70_40 := #[qt,qt,qt,qt,qt,qt,qt,qt,qt,qt,qt,qt,qt,qt,qt,qt,qt,qt,qt,qt,qt,qt,qt,qt,qt,qt,qf,qf,qf,qf,qf,qf]
def z70_41 := #[qt,qt,qt,qt,qt,qt,qt,qt,qt,qt,qt,qt,qt,qt,qt,qt,qt,qt,qt,qt,qt,qt,qt,qt,qt,qt,qt,qf,qf,qf,qf,qf]
theorem spec_StoreOK.calls (k : Nat) (A0_0 : Option Addr) (c0_0 : Nat) (l0_0 : List (List (S43))) (a0_1 : Int) (r : Bool) (w : World) (hr0_0 : Kd.C (Kd.slice 43 k43) w A0_0 l0_0.length l0_0) (hc0_0 : l0_0.length ≤ c0_0) (h : spec_StoreOK.f k l0_0 a0_1 = some r) :
  Calls Try.prog 70 #[.agg #[.slice A0_0 l0_0.length c0_0, .int .i64 a0_1]] w fun e w' => e = .returned (.bool r) ∧ Below w.heap.size w w' := by
 have hu28 := Try.underlying28; have hu43 := Try.underlying43; have HR0_0 := qO hr0_0; have HC0_0 := qO hc0_0; clear hr0_0 hc0_0; have HB := qO (Below.refl w.heap.size w); have H : (if (l0_0.length : Int) = 16 then ((spec_l01In.f a0_1 0 100000).bind fun t102 => (spec_StoreOK.j0 k (!t102) l0_0 a0_1)) else (spec_StoreOK.j0 k true l0_0 a0_1)) = some r := h; clear h; have HC2 := qO H; clear H
 go_enter Try.func70, Try.ntmps70
 go_upto_region 1 with (first | ((with_reducible refine gate_dst (N := 1) rfl ?_); refine qX 1 #[.slice A0_0 l0_0.length c0_0, .int .i64 a0_1] 28 ?_; intro gb101 hg w3 hbox hb; have BK101 := qO (hbox); have GW101 := qO ((qa38 : w.heap.size ≤ gb101)); have GE101 := qO ((qa38 : w.heap.size ≤ gb101)); replace HB := qO (below_step (qH HB.out) hb); clear hb hbox hg))
 (try simp only [Act.put, qzA, qzB, qzC])
 go_cut [15] (fun v15 wc => ∃ (kq : Nat) (x15_1 : Bool), v15 = .bool x15_1 ∧ Aside0 (spec_StoreOK.j0 kq x15_1 l0_0 a0_1 = some r) ∧ Aside0 (kq ≤ k) ∧ Aside0 (wc.heap[gb101]? = some (.cells #[(.slice A0_0 l0_0.length c0_0), .int .i64 a0_1] 28 (0, 0))) ∧ Aside0 (Below w.heap.size w wc))
 case first =>
  have H := HC2.out; clear HC2
  by_cases c4 : (l0_0.length : Int) = 16
  ·rw [if_pos c4] at H
   have c4b0 := beq_iff_eq.mpr c4; have c4b1 := bne_eq_false_iff_eq.mpr c4; clear c4; (first | rw [c4b0] | (simp only [i64_w, i32_w]; rw [c4b0]) | skip); replace H := Option.bind_eq_some_iff.mp H; obtain ⟨t102, A50, H⟩ := H; have A5 := qO A50; clear A50; have H' := qO H; clear H; obtain ⟨hcz6_0, hcz6_1, hfz6_0, hfz6_1⟩ := qb2 BK101.out
   go_wp2_with (first | (go_at_call 96; (with_reducible refine (spec_l01In.calls a0_1 0 100000 t102 _ A5.out).mono ?_); rintro e w' ⟨rfl, ⟨nd, rfl⟩⟩))
   go_meet
   case rel => exact ⟨_, (!t102), qa6, H', ⟨qa79⟩, ⟨qk BK101.out⟩, ⟨qH HB.out⟩⟩
  ·rw [if_neg c4] at H
   have c4b0 := beq_eq_false_iff_ne.mpr c4; have c4b1 := bne_iff_ne.mpr c4; (first | rw [c4b0] | (simp only [i64_w, i32_w]; rw [c4b0]) | skip); have H' := qO H; clear H; obtain ⟨hcz7_0, hcz7_1, hfz7_0, hfz7_1⟩ := qb2 BK101.out; go_wp2
   go_meet
   case rel => exact ⟨_, (true), qa6, H', ⟨qa79⟩, ⟨qk BK101.out⟩, ⟨qH HB.out⟩⟩
 case rest =>
  clear HC2
  obtain ⟨kq, x15_1, rfl, HA, HJ1, BK101, HB⟩ := hcut
  cases kq with
  | zero => exact absurd HA.out (by simp [spec_StoreOK.j0])
  | succ kj1 =>
   have H := HA.out; clear HA; simp only [spec_StoreOK.j0] at H
   by_cases c8 : x15_1 = true
   ·subst c8
    rw [if_pos rfl] at H; obtain rfl := Option.some.inj H; go_wp2
    go_ret
    exact ⟨qa2, qH HB.out⟩
   ·replace c8 := Bool.eq_false_iff.mpr c8
    subst c8; rw [qfn] at H; have H' := qO H; clear H; go_wp2
    go_loopg [3] kj1 (fun kq v3 w' => ∃ (x3_2 : Int), v3 = .int .i64 x3_2 ∧ Aside0 (spec_StoreOK.l0 kq x3_2 l0_0 a0_1 = some r) ∧ Aside0 (kq ≤ kj1) ∧ Aside0 (w'.heap[gb101]? = some (.cells #[(.slice A0_0 l0_0.length c0_0), .int .i64 a0_1] 28 (0, 0))) ∧ Aside0 (Below w.heap.size w w'))
    case atStart => exact ⟨(0), qa6, H', ⟨Nat.le_refl _⟩, ⟨qk BK101.out⟩, ⟨qH HB.out⟩⟩
    case round =>
     clear H'
     obtain ⟨x3_2, rfl, HA, HK2, BK101, HB⟩ := hrel
     cases gk with
     | zero => exact absurd HA.out (by simp [spec_StoreOK.l0])
     | succ k2 =>
      have H := HA.out; clear HA; simp only [spec_StoreOK.l0] at H
      by_cases c9 : x3_2 < 16
      ·rw [if_pos c9] at H
       have c9b0 := decide_eq_true c9; clear c9; have H' := qO H; clear H; go_wp2
       go_loopg [4] k2 (fun kq v4 w' => ∃ (x4_3 : Int), v4 = .int .i64 x4_3 ∧ Aside0 (spec_StoreOK.l1 kq x3_2 x4_3 l0_0 a0_1 = some r) ∧ Aside0 (kq ≤ k2) ∧ Aside0 (w'.heap[gb101]? = some (.cells #[(.slice A0_0 l0_0.length c0_0), .int .i64 a0_1] 28 (0, 0))) ∧ Aside0 (Below w.heap.size w w'))
       case atStart => exact ⟨(0), qa6, H', ⟨Nat.le_refl _⟩, ⟨qk BK101.out⟩, ⟨qH HB.out⟩⟩
       case round =>
        clear H'
        obtain ⟨x4_3, rfl, HA, HK3, BK101, HB⟩ := hrel
        cases gk with
        | zero => exact absurd HA.out (by simp [spec_StoreOK.l1])
        | succ k3 =>
         have H := HA.out; clear HA; simp only [spec_StoreOK.l1] at H
         by_cases c10 : 0 ≤ x3_2
         ·rw [if_pos c10] at H
          have c10b0 := decide_eq_true c10; clear c10
          by_cases c11 : x3_2 < (l0_0.length : Int)
          ·rw [if_pos c11] at H
           have c11b0 := decide_eq_true c11; clear c11
           by_cases c12 : x4_3 < ((rd_L4 l0_0 x3_2).length : Int)
           ·rw [if_pos c12] at H
            have c12b0 := decide_eq_true c12; clear c12
            by_cases c13 : 0 ≤ x4_3
            ·rw [if_pos c13] at H
             have c13b0 := decide_eq_true c13; clear c13; replace H := Option.bind_eq_some_iff.mp H; obtain ⟨t107, A140, H⟩ := H; have A14 := qO A140; clear A140
             by_cases c15 : t107 = true
             ·subst c15
              rw [if_pos rfl] at H; replace H := Option.bind_eq_some_iff.mp H; obtain ⟨t108, A160, H⟩ := H; have A16 := qO A160; clear A160
              by_cases c17 : t108 = true
              ·subst c17
               rw [if_pos rfl] at H
               by_cases c18 : x4_3 > 0
               ·rw [if_pos c18] at H
                have c18b0 := qgt c18; clear c18; obtain ⟨ji19, hji19⟩ : ∃ j_ : Int, (wrap64 (x4_3 - 1)) = j_ := ⟨_, rfl⟩; (first | rw [hji19] at H | simp only [hji19] at H)
                (try rw [hji19] at A14); (try rw [hji19] at A16); have hji19w : (IntKind.i64.wrap (x4_3 - 1)) = ji19 := (i64_w _).trans hji19
                by_cases c20 : 0 ≤ (ji19)
                ·rw [if_pos c20] at H
                 have c20b0 := decide_eq_true c20; clear c20
                 by_cases c21 : (ji19) < ((rd_L4 l0_0 x3_2).length : Int)
                 ·rw [if_pos c21] at H
                  have c21b0 := decide_eq_true c21; clear c21
                  by_cases c22 : ((rd_T43 (rd_L4 l0_0 x3_2) (ji19)).f0) ≥ ((rd_T43 (rd_L4 l0_0 x3_2) x4_3).f0)
                  ·rw [if_pos c22] at H
                   have c22b0 := qge c22; clear c22; obtain rfl := Option.some.inj H; obtain ⟨hcz23_0, hcz23_1, hfz23_0, hfz23_1⟩ := qb2 BK101.out; have p103 : 0 ≤ (x3_2 : Int) := qT qa1; have q103 : x3_2 < (l0_0.length : Int) := qT qa1; obtain ⟨ad103, A103_0, c103_0, e103, hx103_0, hl103_0, hi103_0⟩ := at_L4 HR0_0.out x3_2 p103 q103
                   cases e103
                   replace hx103_0 := (HB.out.cell (qL w _ hx103_0)).trans hx103_0; have HR103_0 := qO hi103_0; have HC103_0 := qO hl103_0; clear hi103_0 hl103_0; replace p103 := eq_true p103; replace q103 := eq_true q103; have p104 : 0 ≤ (x3_2 : Int) := qT qa1; have q104 : x3_2 < (l0_0.length : Int) := qT qa1; obtain ⟨ad104, A104_0, c104_0, e104, hx104_0, hl104_0, hi104_0⟩ := at_L4 HR0_0.out x3_2 p104 q104; obtain rfl : ad103 = ad104 := qa110; replace hx104_0 := (HB.out.cell (qL w _ hx104_0)).trans hx104_0; have HR104_0 := qO hi104_0; have HC104_0 := qO hl104_0; clear hi104_0 hl104_0; replace p104 := eq_true p104; replace q104 := eq_true q104; have ea_ := Option.some.inj (hx103_0.symm.trans hx104_0); injection ea_ with ea_ en_ ec_; subst ea_; subst ec_; clear en_; have p105 : 0 ≤ (x4_3 : Int) := qT qa1; have q105 : x4_3 < ((rd_L4 l0_0 x3_2).length : Int) := qT qa1; obtain ⟨ad105, e105, hx105_0, hx105_1⟩ := at_T43 HR104_0.out x4_3 p105 q105
                   cases e105
                   replace hx105_0 := (HB.out.cell (qL w _ hx105_0)).trans hx105_0; replace hx105_1 := (HB.out.cell (qL w _ hx105_1)).trans hx105_1; replace p105 := eq_true p105; replace q105 := eq_true q105
                   try go_wp2_with (first | ((with_reducible refine gate_dst (N := 5) rfl ?_); refine qX 5 #[.int .i64 0, .int .i64 0] 43 ?_; intro gb106 hg w24 hbox hb; have hx_ := qHX HB hb qa0; have BK106 := qO (hbox); have GW106 := qO ((qa3 : w.heap.size ≤ gb106)); have GE106 := GW106; have NB101_106 := qO ((qLt hg (qk BK101.out))); have NB106_101 := qO (Ne.symm NB101_106.out); replace BK101 := qO (qB BK101.out hx_ hb); replace HB := qO (below_step (below_step HB.out hx_) hb); clear hx_ hb hbox hg; have hnb25 := NB106_101.out; have hnc25 := NB101_106.out; obtain ⟨hcz26_0, hcz26_1, hfz26_0, hfz26_1⟩ := qb2 BK106.out))
                   generalize hw_ : ((w24.setCell ⟨gb106, 0, none⟩ (.int .i64 ((rd_T43 (rd_L4 l0_0 x3_2) x4_3).f0))).setCell ⟨gb106, 1, none⟩ (.int .i64 ((rd_T43 (rd_L4 l0_0 x3_2) x4_3).f1))) = w27; replace BK101 : Aside0 (w27.heap[gb101]? = some (.cells #[.slice (some ad103) l0_0.length c0_0, .int .i64 a0_1] 28 (0, 0))) := ⟨qa84⟩; replace BK106 : Aside0 (w27.heap[gb106]? = some (.cells #[.int .i64 ((rd_T43 (rd_L4 l0_0 x3_2) x4_3).f0), .int .i64 ((rd_T43 (rd_L4 l0_0 x3_2) x4_3).f1)] 43 (0, 0))) := ⟨qa105⟩; replace HB : Aside0 (Below w.heap.size w w27) := ⟨qa95⟩; clear hw_; replace BK101 := qO (qkD BK101.out); replace BK106 := qO (qkD BK106.out); replace HB := qO (qbD HB.out); have p109 : 0 ≤ (x3_2 : Int) := qT qa1; have q109 : x3_2 < (l0_0.length : Int) := qT qa1; obtain ⟨ad109, A109_0, c109_0, e109, hx109_0, hl109_0, hi109_0⟩ := at_L4 HR0_0.out x3_2 p109 q109; have hw109_0 := hx109_0; obtain rfl : ad103 = ad109 := (by injection e109); replace hx109_0 := (HB.out.cell (qL w _ hx109_0)).trans hx109_0; have HR109_0 := qO hi109_0; have HC109_0 := qO hl109_0; clear hi109_0 hl109_0; replace p109 := eq_true p109; replace q109 := eq_true q109; have p110 : 0 ≤ ((ji19) : Int) := qT qa1; have q110 : (ji19) < ((rd_L4 l0_0 x3_2).length : Int) := qT qa1; obtain ⟨ad110, e110, hx110_0, hx110_1⟩ := at_T43 HR109_0.out (ji19) p110 q110; have hw110_1 := hx110_1; have hw110_0 := hx110_0
                   cases e110
                   replace hx110_0 := (HB.out.cell (qL w _ hx110_0)).trans hx110_0; replace hx110_1 := (HB.out.cell (qL w _ hx110_1)).trans hx110_1; replace p110 := eq_true p110; replace q110 := eq_true q110; refine start_ (n := 32) (S := fun w' => w'.cell? ⟨gb106, 0, none⟩ = some (.int .i64 ((rd_T43 (rd_L4 l0_0 x3_2) x4_3).f0)) ∧ w'.cell? ⟨gb106, 1, none⟩ = some (.int .i64 ((rd_T43 (rd_L4 l0_0 x3_2) x4_3).f1)) ∧ w'.cell? ⟨gb101, 0, none⟩ = some (.slice (some ad103) l0_0.length c0_0) ∧ w'.cell? ⟨gb101, 1, none⟩ = some (.int .i64 a0_1) ∧ w'.cell? (ad103.add (x3_2).toNat) = some (.slice (some ad110) (rd_L4 l0_0 x3_2).length c109_0) ∧ w'.cell? (ad110.add (((ji19)).toNat * 2)) = some (.int .i64 ((rd_T43 (rd_L4 l0_0 x3_2) (ji19)).f0)) ∧ w'.cell? ⟨(ad110.add (((ji19)).toNat * 2)).block, (ad110.add (((ji19)).toNat * 2)).off + 1, none⟩ = some (.int .i64 ((rd_T43 (rd_L4 l0_0 x3_2) (ji19)).f1))) (ds := []) z70_0 qa18 rfl rfl ⟨qc0 BK106.out, qc1 BK106.out, qc0 BK101.out, qc1 BK101.out, ((HB.out.cell (qL w _ hw109_0)).trans hw109_0), ((HB.out.cell (qL w _ hw110_0)).trans hw110_0), ((HB.out.cell (qL w _ hw110_1)).trans hw110_1)⟩ (fun hHeld => ?_); refine with_tabW spec_StoreOK.tab10 spec_StoreOK.bits10 (fun HT_ HW_ => ?_); generalize w27.drew = w28 at BK101 BK106 HB HR109_0 hx109_0 hx110_0 hx110_1 hHeld ⊢; refine qP 0 38 z70_1 ?_; refine qP 2 40 z70_2 ?_; refine qK7 1 39 z70_3 ?_; refine qK7 3 41 z70_4 ?_; refine qOn 4 (some 42) z70_5 fun K hK => ?_; refine qGo Try.func96 #[.int .i64 ((rd_T43 (rd_L4 l0_0 x3_2) x4_3).f0), .int .i64 1, .int .i64 a0_1] ?_; (with_reducible refine (spec_l01In.calls ((rd_T43 (rd_L4 l0_0 x3_2) x4_3).f0) 1 a0_1 true _ A14.out).mono ?_); rintro e w' ⟨rfl, ⟨nd, rfl⟩⟩; refine ⟨_, rfl, ?_⟩; refine hK.out _ _ ⟨qc0 BK106.out, qc1 BK106.out, qc0 BK101.out, qc1 BK101.out, ((HB.out.cell (qL w _ hw109_0)).trans hw109_0), ((HB.out.cell (qL w _ hw110_0)).trans hw110_0), ((HB.out.cell (qL w _ hw110_1)).trans hw110_1)⟩ (fun hHeld => ?_); clear hK K; refine qNm ?_; refine qP 5 43 z70_6 ?_; refine qP 6 44 z70_7 ?_; refine qP 7 45 z70_8 ?_; refine qP 8 46 z70_9 ?_; refine qK7 9 47 z70_10 ?_; refine qOn 10 (some 48) z70_11 fun K hK => ?_; refine qGo Try.func113 #[.int .i64 x3_2, .int .i64 ((rd_T43 (rd_L4 l0_0 x3_2) x4_3).f1)] ?_; (with_reducible refine (spec_l06Value.calls x3_2 ((rd_T43 (rd_L4 l0_0 x3_2) x4_3).f1) true _ A16.out).mono ?_); rintro e w' ⟨rfl, ⟨nd, rfl⟩⟩; refine ⟨_, rfl, ?_⟩; refine hK.out _ _ ⟨qc0 BK106.out, qc1 BK106.out, qc0 BK101.out, qc1 BK101.out, ((HB.out.cell (qL w _ hw109_0)).trans hw109_0), ((HB.out.cell (qL w _ hw110_0)).trans hw110_0), ((HB.out.cell (qL w _ hw110_1)).trans hw110_1)⟩ (fun hHeld => ?_); clear hK K; refine qNm ?_; refine qP 11 49 z70_12 ?_; refine qP 12 50 z70_13 ?_; refine qP 13 51 z70_14 ?_; refine qP 14 52 z70_15 ?_; refine qP 15 53 z70_16 ?_; refine qP 16 54 z70_17 ?_; refine qP 17 55 z70_18 ?_; refine qP 19 57 z70_19 ?_; refine qP 22 60 z70_20 ?_; refine qP 23 61 z70_21 ?_; refine qP 27 65 z70_22 ?_; refine qK7 18 56 z70_23 ?_; refine qP 20 58 z70_24 ?_; refine qK7 21 59 z70_25 ?_; refine qP 24 62 z70_26 ?_; refine qP 25 63 z70_27 ?_; refine qK7 26 64 z70_28 ?_; refine qK7 28 66 z70_29 ?_; refine qP 29 67 z70_30 ?_; refine qP 30 68 z70_31 ?_; refine qP 31 69 z70_32 ?_; refine done_ (done_of HT_.out qa18) ?_
                   try go_wp2
                   go_ret
                   exact ⟨qa64, qH HB.out⟩
                  ·rw [if_neg c22] at H
                   have c22b0 := qnge c22; clear c22; have H' := qO H; clear H; obtain ⟨hcz29_0, hcz29_1, hfz29_0, hfz29_1⟩ := qb2 BK101.out; have p103 : 0 ≤ (x3_2 : Int) := qT qa1; have q103 : x3_2 < (l0_0.length : Int) := qT qa1; obtain ⟨ad103, A103_0, c103_0, e103, hx103_0, hl103_0, hi103_0⟩ := at_L4 HR0_0.out x3_2 p103 q103
                   cases e103
                   replace hx103_0 := (HB.out.cell (qL w _ hx103_0)).trans hx103_0; have HR103_0 := qO hi103_0; have HC103_0 := qO hl103_0; clear hi103_0 hl103_0; replace p103 := eq_true p103; replace q103 := eq_true q103; have p104 : 0 ≤ (x3_2 : Int) := qT qa1; have q104 : x3_2 < (l0_0.length : Int) := qT qa1; obtain ⟨ad104, A104_0, c104_0, e104, hx104_0, hl104_0, hi104_0⟩ := at_L4 HR0_0.out x3_2 p104 q104; obtain rfl : ad103 = ad104 := qa110; replace hx104_0 := (HB.out.cell (qL w _ hx104_0)).trans hx104_0; have HR104_0 := qO hi104_0; have HC104_0 := qO hl104_0; clear hi104_0 hl104_0; replace p104 := eq_true p104; replace q104 := eq_true q104; have ea_ := Option.some.inj (hx103_0.symm.trans hx104_0); injection ea_ with ea_ en_ ec_; subst ea_; subst ec_; clear en_; have p105 : 0 ≤ (x4_3 : Int) := qT qa1; have q105 : x4_3 < ((rd_L4 l0_0 x3_2).length : Int) := qT qa1; obtain ⟨ad105, e105, hx105_0, hx105_1⟩ := at_T43 HR104_0.out x4_3 p105 q105
                   cases e105
                   replace hx105_0 := (HB.out.cell (qL w _ hx105_0)).trans hx105_0; replace hx105_1 := (HB.out.cell (qL w _ hx105_1)).trans hx105_1; replace p105 := eq_true p105; replace q105 := eq_true q105
                   try go_wp2_with (first | ((with_reducible refine gate_dst (N := 5) rfl ?_); refine qX 5 #[.int .i64 0, .int .i64 0] 43 ?_; intro gb106 hg w30 hbox hb; have hx_ := qHX HB hb qa0; have BK106 := qO (hbox); have GW106 := qO ((qa3 : w.heap.size ≤ gb106)); have GE106 := GW106; have NB101_106 := qO ((qLt hg (qk BK101.out))); have NB106_101 := qO (Ne.symm NB101_106.out); replace BK101 := qO (qB BK101.out hx_ hb); replace HB := qO (below_step (below_step HB.out hx_) hb); clear hx_ hb hbox hg; have hnb31 := NB106_101.out; have hnc31 := NB101_106.out; obtain ⟨hcz32_0, hcz32_1, hfz32_0, hfz32_1⟩ := qb2 BK106.out))
                   generalize hw_ : ((w30.setCell ⟨gb106, 0, none⟩ (.int .i64 ((rd_T43 (rd_L4 l0_0 x3_2) x4_3).f0))).setCell ⟨gb106, 1, none⟩ (.int .i64 ((rd_T43 (rd_L4 l0_0 x3_2) x4_3).f1))) = w33; replace BK101 : Aside0 (w33.heap[gb101]? = some (.cells #[.slice (some ad103) l0_0.length c0_0, .int .i64 a0_1] 28 (0, 0))) := ⟨qa84⟩; replace BK106 : Aside0 (w33.heap[gb106]? = some (.cells #[.int .i64 ((rd_T43 (rd_L4 l0_0 x3_2) x4_3).f0), .int .i64 ((rd_T43 (rd_L4 l0_0 x3_2) x4_3).f1)] 43 (0, 0))) := ⟨qa105⟩; replace HB : Aside0 (Below w.heap.size w w33) := ⟨qa95⟩; clear hw_; replace BK101 := qO (qkD BK101.out); replace BK106 := qO (qkD BK106.out); replace HB := qO (qbD HB.out); have p109 : 0 ≤ (x3_2 : Int) := qT qa1; have q109 : x3_2 < (l0_0.length : Int) := qT qa1; obtain ⟨ad109, A109_0, c109_0, e109, hx109_0, hl109_0, hi109_0⟩ := at_L4 HR0_0.out x3_2 p109 q109; have hw109_0 := hx109_0; obtain rfl : ad103 = ad109 := (by injection e109); replace hx109_0 := (HB.out.cell (qL w _ hx109_0)).trans hx109_0; have HR109_0 := qO hi109_0; have HC109_0 := qO hl109_0; clear hi109_0 hl109_0; replace p109 := eq_true p109; replace q109 := eq_true q109; have p110 : 0 ≤ ((ji19) : Int) := qT qa1; have q110 : (ji19) < ((rd_L4 l0_0 x3_2).length : Int) := qT qa1; obtain ⟨ad110, e110, hx110_0, hx110_1⟩ := at_T43 HR109_0.out (ji19) p110 q110; have hw110_1 := hx110_1; have hw110_0 := hx110_0
                   cases e110
                   replace hx110_0 := (HB.out.cell (qL w _ hx110_0)).trans hx110_0; replace hx110_1 := (HB.out.cell (qL w _ hx110_1)).trans hx110_1; replace p110 := eq_true p110; replace q110 := eq_true q110; refine start_ (n := 32) (S := fun w' => w'.cell? ⟨gb106, 0, none⟩ = some (.int .i64 ((rd_T43 (rd_L4 l0_0 x3_2) x4_3).f0)) ∧ w'.cell? ⟨gb106, 1, none⟩ = some (.int .i64 ((rd_T43 (rd_L4 l0_0 x3_2) x4_3).f1)) ∧ w'.cell? ⟨gb101, 0, none⟩ = some (.slice (some ad103) l0_0.length c0_0) ∧ w'.cell? ⟨gb101, 1, none⟩ = some (.int .i64 a0_1) ∧ w'.cell? (ad103.add (x3_2).toNat) = some (.slice (some ad110) (rd_L4 l0_0 x3_2).length c109_0) ∧ w'.cell? (ad110.add (((ji19)).toNat * 2)) = some (.int .i64 ((rd_T43 (rd_L4 l0_0 x3_2) (ji19)).f0)) ∧ w'.cell? ⟨(ad110.add (((ji19)).toNat * 2)).block, (ad110.add (((ji19)).toNat * 2)).off + 1, none⟩ = some (.int .i64 ((rd_T43 (rd_L4 l0_0 x3_2) (ji19)).f1))) (ds := []) z70_0 qa18 rfl rfl ⟨qc0 BK106.out, qc1 BK106.out, qc0 BK101.out, qc1 BK101.out, ((HB.out.cell (qL w _ hw109_0)).trans hw109_0), ((HB.out.cell (qL w _ hw110_0)).trans hw110_0), ((HB.out.cell (qL w _ hw110_1)).trans hw110_1)⟩ (fun hHeld => ?_); refine with_tabW spec_StoreOK.tab10 spec_StoreOK.bits10 (fun HT_ HW_ => ?_); generalize w33.drew = w34 at BK101 BK106 HB HR109_0 hx109_0 hx110_0 hx110_1 hHeld ⊢; refine qP 0 38 z70_1 ?_; refine qP 2 40 z70_2 ?_; refine qK7 1 39 z70_3 ?_; refine qK7 3 41 z70_4 ?_; refine qOn 4 (some 42) z70_5 fun K hK => ?_; refine qGo Try.func96 #[.int .i64 ((rd_T43 (rd_L4 l0_0 x3_2) x4_3).f0), .int .i64 1, .int .i64 a0_1] ?_; (with_reducible refine (spec_l01In.calls ((rd_T43 (rd_L4 l0_0 x3_2) x4_3).f0) 1 a0_1 true _ A14.out).mono ?_); rintro e w' ⟨rfl, ⟨nd, rfl⟩⟩; refine ⟨_, rfl, ?_⟩; refine hK.out _ _ ⟨qc0 BK106.out, qc1 BK106.out, qc0 BK101.out, qc1 BK101.out, ((HB.out.cell (qL w _ hw109_0)).trans hw109_0), ((HB.out.cell (qL w _ hw110_0)).trans hw110_0), ((HB.out.cell (qL w _ hw110_1)).trans hw110_1)⟩ (fun hHeld => ?_); clear hK K; refine qNm ?_; refine qP 5 43 z70_6 ?_; refine qP 6 44 z70_7 ?_; refine qP 7 45 z70_8 ?_; refine qP 8 46 z70_9 ?_; refine qK7 9 47 z70_10 ?_; refine qOn 10 (some 48) z70_11 fun K hK => ?_; refine qGo Try.func113 #[.int .i64 x3_2, .int .i64 ((rd_T43 (rd_L4 l0_0 x3_2) x4_3).f1)] ?_; (with_reducible refine (spec_l06Value.calls x3_2 ((rd_T43 (rd_L4 l0_0 x3_2) x4_3).f1) true _ A16.out).mono ?_); rintro e w' ⟨rfl, ⟨nd, rfl⟩⟩; refine ⟨_, rfl, ?_⟩; refine hK.out _ _ ⟨qc0 BK106.out, qc1 BK106.out, qc0 BK101.out, qc1 BK101.out, ((HB.out.cell (qL w _ hw109_0)).trans hw109_0), ((HB.out.cell (qL w _ hw110_0)).trans hw110_0), ((HB.out.cell (qL w _ hw110_1)).trans hw110_1)⟩ (fun hHeld => ?_); clear hK K; refine qNm ?_; refine qP 11 49 z70_12 ?_; refine qP 12 50 z70_13 ?_; refine qP 13 51 z70_14 ?_; refine qP 14 52 z70_15 ?_; refine qP 15 53 z70_16 ?_; refine qP 16 54 z70_17 ?_; refine qP 17 55 z70_18 ?_; refine qP 19 57 z70_19 ?_; refine qP 22 60 z70_20 ?_; refine qP 23 61 z70_21 ?_; refine qP 27 65 z70_22 ?_; refine qK7 18 56 z70_23 ?_; refine qP 20 58 z70_24 ?_; refine qK7 21 59 z70_25 ?_; refine qP 24 62 z70_26 ?_; refine qP 25 63 z70_27 ?_; refine qK7 26 64 z70_28 ?_; refine qK7 28 66 z70_29 ?_; refine qP 29 67 z70_30 ?_; refine qP 30 68 z70_31 ?_; refine qP 31 69 z70_32 ?_; refine done_ (done_of HT_.out qa18) ?_
                   try go_wp2
                   go_roundg k3
                   case measure => have := HJ1.out; have := HK2.out; have := HK3.out; omega
                   case rel => exact ⟨(wrap64 (x4_3 + 1)), qa6, H', ⟨qa83⟩, ⟨qk BK101.out⟩, ⟨qH HB.out⟩⟩
                 ·rw [if_neg c21] at H
                  exact absurd H qa51
                ·rw [if_neg c20] at H
                 exact absurd H qa51
               ·rw [if_neg c18] at H
                have c18b0 := qngt c18; clear c18; have H' := qO H; clear H; obtain ⟨hcz35_0, hcz35_1, hfz35_0, hfz35_1⟩ := qb2 BK101.out; have p103 : 0 ≤ (x3_2 : Int) := qT qa1; have q103 : x3_2 < (l0_0.length : Int) := qT qa1; obtain ⟨ad103, A103_0, c103_0, e103, hx103_0, hl103_0, hi103_0⟩ := at_L4 HR0_0.out x3_2 p103 q103
                cases e103
                replace hx103_0 := (HB.out.cell (qL w _ hx103_0)).trans hx103_0; have HR103_0 := qO hi103_0; have HC103_0 := qO hl103_0; clear hi103_0 hl103_0; replace p103 := eq_true p103; replace q103 := eq_true q103; have p104 : 0 ≤ (x3_2 : Int) := qT qa1; have q104 : x3_2 < (l0_0.length : Int) := qT qa1; obtain ⟨ad104, A104_0, c104_0, e104, hx104_0, hl104_0, hi104_0⟩ := at_L4 HR0_0.out x3_2 p104 q104; obtain rfl : ad103 = ad104 := qa110; replace hx104_0 := (HB.out.cell (qL w _ hx104_0)).trans hx104_0; have HR104_0 := qO hi104_0; have HC104_0 := qO hl104_0; clear hi104_0 hl104_0; replace p104 := eq_true p104; replace q104 := eq_true q104; have ea_ := Option.some.inj (hx103_0.symm.trans hx104_0); injection ea_ with ea_ en_ ec_; subst ea_; subst ec_; clear en_; have p105 : 0 ≤ (x4_3 : Int) := qT qa1; have q105 : x4_3 < ((rd_L4 l0_0 x3_2).length : Int) := qT qa1; obtain ⟨ad105, e105, hx105_0, hx105_1⟩ := at_T43 HR104_0.out x4_3 p105 q105
                cases e105
                replace hx105_0 := (HB.out.cell (qL w _ hx105_0)).trans hx105_0; replace hx105_1 := (HB.out.cell (qL w _ hx105_1)).trans hx105_1; replace p105 := eq_true p105; replace q105 := eq_true q105
                try go_wp2_with (first | ((with_reducible refine gate_dst (N := 5) rfl ?_); refine qX 5 #[.int .i64 0, .int .i64 0] 43 ?_; intro gb106 hg w36 hbox hb; have hx_ := qHX HB hb qa0; have BK106 := qO (hbox); have GW106 := qO ((qa3 : w.heap.size ≤ gb106)); have GE106 := GW106; have NB101_106 := qO ((qLt hg (qk BK101.out))); have NB106_101 := qO (Ne.symm NB101_106.out); replace BK101 := qO (qB BK101.out hx_ hb); replace HB := qO (below_step (below_step HB.out hx_) hb); clear hx_ hb hbox hg; have hnb37 := NB106_101.out; have hnc37 := NB101_106.out; obtain ⟨hcz38_0, hcz38_1, hfz38_0, hfz38_1⟩ := qb2 BK106.out))
                generalize hw_ : ((w36.setCell ⟨gb106, 0, none⟩ (.int .i64 ((rd_T43 (rd_L4 l0_0 x3_2) x4_3).f0))).setCell ⟨gb106, 1, none⟩ (.int .i64 ((rd_T43 (rd_L4 l0_0 x3_2) x4_3).f1))) = w39; replace BK101 : Aside0 (w39.heap[gb101]? = some (.cells #[.slice (some ad103) l0_0.length c0_0, .int .i64 a0_1] 28 (0, 0))) := ⟨qa84⟩; replace BK106 : Aside0 (w39.heap[gb106]? = some (.cells #[.int .i64 ((rd_T43 (rd_L4 l0_0 x3_2) x4_3).f0), .int .i64 ((rd_T43 (rd_L4 l0_0 x3_2) x4_3).f1)] 43 (0, 0))) := ⟨qa105⟩; replace HB : Aside0 (Below w.heap.size w w39) := ⟨qa95⟩; clear hw_; replace BK101 := qO (qkD BK101.out); replace BK106 := qO (qkD BK106.out); replace HB := qO (qbD HB.out); refine start_ (n := 32) (S := fun w' => w'.cell? ⟨gb106, 0, none⟩ = some (.int .i64 ((rd_T43 (rd_L4 l0_0 x3_2) x4_3).f0)) ∧ w'.cell? ⟨gb106, 1, none⟩ = some (.int .i64 ((rd_T43 (rd_L4 l0_0 x3_2) x4_3).f1)) ∧ w'.cell? ⟨gb101, 0, none⟩ = some (.slice (some ad103) l0_0.length c0_0) ∧ w'.cell? ⟨gb101, 1, none⟩ = some (.int .i64 a0_1)) (ds := []) z70_0 qa18 rfl rfl ⟨qc0 BK106.out, qc1 BK106.out, qc0 BK101.out, qc1 BK101.out⟩ (fun hHeld => ?_); refine with_tabW spec_StoreOK.tab10 spec_StoreOK.bits10 (fun HT_ HW_ => ?_); generalize w39.drew = w40 at BK101 BK106 HB hHeld ⊢; refine qP 0 38 z70_1 ?_; refine qP 2 40 z70_2 ?_; refine qK4 1 39 z70_3 ?_; refine qK4 3 41 z70_4 ?_; refine qOn 4 (some 42) z70_5 fun K hK => ?_; refine qGo Try.func96 #[.int .i64 ((rd_T43 (rd_L4 l0_0 x3_2) x4_3).f0), .int .i64 1, .int .i64 a0_1] ?_; (with_reducible refine (spec_l01In.calls ((rd_T43 (rd_L4 l0_0 x3_2) x4_3).f0) 1 a0_1 true _ A14.out).mono ?_); rintro e w' ⟨rfl, ⟨nd, rfl⟩⟩; refine ⟨_, rfl, ?_⟩; refine hK.out _ _ ⟨qc0 BK106.out, qc1 BK106.out, qc0 BK101.out, qc1 BK101.out⟩ (fun hHeld => ?_); clear hK K; refine qNm ?_; refine qP 5 43 z70_6 ?_; refine qP 6 44 z70_7 ?_; refine qP 7 45 z70_8 ?_; refine qP 8 46 z70_9 ?_; refine qK4 9 47 z70_10 ?_; refine qOn 10 (some 48) z70_11 fun K hK => ?_; refine qGo Try.func113 #[.int .i64 x3_2, .int .i64 ((rd_T43 (rd_L4 l0_0 x3_2) x4_3).f1)] ?_; (with_reducible refine (spec_l06Value.calls x3_2 ((rd_T43 (rd_L4 l0_0 x3_2) x4_3).f1) true _ A16.out).mono ?_); rintro e w' ⟨rfl, ⟨nd, rfl⟩⟩; refine ⟨_, rfl, ?_⟩; refine hK.out _ _ ⟨qc0 BK106.out, qc1 BK106.out, qc0 BK101.out, qc1 BK101.out⟩ (fun hHeld => ?_); clear hK K; refine qNm ?_; refine qP 11 49 z70_12 ?_; refine qP 12 50 z70_13 ?_; refine qP 13 51 z70_14 ?_; refine qP 14 52 z70_15 ?_; refine qP 15 53 z70_16 ?_; refine qP 16 54 z70_17 ?_; refine qD 17 55 z70_18 ?_; refine qD 18 56 z70_33 ?_; refine qD 19 57 z70_34 ?_; refine qD 20 58 z70_35 ?_; refine qD 21 59 z70_36 ?_; refine qD 22 60 z70_37 ?_; refine qD 23 61 z70_38 ?_; refine qD 24 62 z70_39 ?_; refine qD 25 63 z70_40 ?_; refine qD 26 64 z70_41 ?_; refine qD 27 65 z70_28 ?_; refine qD 28 66 z70_29 ?_; refine qD 29 67 z70_30 ?_; refine qP 30 68 z70_31 ?_; refine qP 31 69 z70_32 ?_; refine done_ (done_of HT_.out qa18) ?_
                try go_wp2
                go_roundg k3
                case measure => have := HJ1.out; have := HK2.out; have := HK3.out; omega
                case rel => exact ⟨(wrap64 (x4_3 + 1)), qa6, H', ⟨qa83⟩, ⟨qk BK101.out⟩, ⟨qH HB.out⟩⟩
              ·replace c17 := Bool.eq_false_iff.mpr c17
               subst c17; rw [qfn] at H; obtain rfl := Option.some.inj H; obtain ⟨hcz41_0, hcz41_1, hfz41_0, hfz41_1⟩ := qb2 BK101.out; have p103 : 0 ≤ (x3_2 : Int) := qT qa1; have q103 : x3_2 < (l0_0.length : Int) := qT qa1; obtain ⟨ad103, A103_0, c103_0, e103, hx103_0, hl103_0, hi103_0⟩ := at_L4 HR0_0.out x3_2 p103 q103
               cases e103
               replace hx103_0 := (HB.out.cell (qL w _ hx103_0)).trans hx103_0; have HR103_0 := qO hi103_0; have HC103_0 := qO hl103_0; clear hi103_0 hl103_0; replace p103 := eq_true p103; replace q103 := eq_true q103; have p104 : 0 ≤ (x3_2 : Int) := qT qa1; have q104 : x3_2 < (l0_0.length : Int) := qT qa1; obtain ⟨ad104, A104_0, c104_0, e104, hx104_0, hl104_0, hi104_0⟩ := at_L4 HR0_0.out x3_2 p104 q104; obtain rfl : ad103 = ad104 := qa110; replace hx104_0 := (HB.out.cell (qL w _ hx104_0)).trans hx104_0; have HR104_0 := qO hi104_0; have HC104_0 := qO hl104_0; clear hi104_0 hl104_0; replace p104 := eq_true p104; replace q104 := eq_true q104; have ea_ := Option.some.inj (hx103_0.symm.trans hx104_0); injection ea_ with ea_ en_ ec_; subst ea_; subst ec_; clear en_; have p105 : 0 ≤ (x4_3 : Int) := qT qa1; have q105 : x4_3 < ((rd_L4 l0_0 x3_2).length : Int) := qT qa1; obtain ⟨ad105, e105, hx105_0, hx105_1⟩ := at_T43 HR104_0.out x4_3 p105 q105
               cases e105
               replace hx105_0 := (HB.out.cell (qL w _ hx105_0)).trans hx105_0; replace hx105_1 := (HB.out.cell (qL w _ hx105_1)).trans hx105_1; replace p105 := eq_true p105; replace q105 := eq_true q105
               try go_wp2_with (first | ((with_reducible refine gate_dst (N := 5) rfl ?_); refine qX 5 #[.int .i64 0, .int .i64 0] 43 ?_; intro gb106 hg w42 hbox hb; have hx_ := qHX HB hb qa0; have BK106 := qO (hbox); have GW106 := qO ((qa3 : w.heap.size ≤ gb106)); have GE106 := GW106; have NB101_106 := qO ((qLt hg (qk BK101.out))); have NB106_101 := qO (Ne.symm NB101_106.out); replace BK101 := qO (qB BK101.out hx_ hb); replace HB := qO (below_step (below_step HB.out hx_) hb); clear hx_ hb hbox hg; have hnb43 := NB106_101.out; have hnc43 := NB101_106.out; obtain ⟨hcz44_0, hcz44_1, hfz44_0, hfz44_1⟩ := qb2 BK106.out))
               generalize hw_ : ((w42.setCell ⟨gb106, 0, none⟩ (.int .i64 ((rd_T43 (rd_L4 l0_0 x3_2) x4_3).f0))).setCell ⟨gb106, 1, none⟩ (.int .i64 ((rd_T43 (rd_L4 l0_0 x3_2) x4_3).f1))) = w45; replace BK101 : Aside0 (w45.heap[gb101]? = some (.cells #[.slice (some ad103) l0_0.length c0_0, .int .i64 a0_1] 28 (0, 0))) := ⟨qa84⟩; replace BK106 : Aside0 (w45.heap[gb106]? = some (.cells #[.int .i64 ((rd_T43 (rd_L4 l0_0 x3_2) x4_3).f0), .int .i64 ((rd_T43 (rd_L4 l0_0 x3_2) x4_3).f1)] 43 (0, 0))) := ⟨qa105⟩; replace HB : Aside0 (Below w.heap.size w w45) := ⟨qa95⟩; clear hw_; replace BK101 := qO (qkD BK101.out); replace BK106 := qO (qkD BK106.out); replace HB := qO (qbD HB.out); refine start_ (n := 32) (S := fun w' => w'.cell? ⟨gb106, 0, none⟩ = some (.int .i64 ((rd_T43 (rd_L4 l0_0 x3_2) x4_3).f0)) ∧ w'.cell? ⟨gb106, 1, none⟩ = some (.int .i64 ((rd_T43 (rd_L4 l0_0 x3_2) x4_3).f1)) ∧ w'.cell? ⟨gb101, 0, none⟩ = some (.slice (some ad103) l0_0.length c0_0) ∧ w'.cell? ⟨gb101, 1, none⟩ = some (.int .i64 a0_1)) (ds := []) z70_0 qa18 rfl rfl ⟨qc0 BK106.out, qc1 BK106.out, qc0 BK101.out, qc1 BK101.out⟩ (fun hHeld => ?_); refine with_tabW spec_StoreOK.tab10 spec_StoreOK.bits10 (fun HT_ HW_ => ?_); generalize w45.drew = w46 at BK101 BK106 HB hHeld ⊢; refine qP 0 38 z70_1 ?_; refine qP 2 40 z70_2 ?_; refine qK4 1 39 z70_3 ?_; refine qK4 3 41 z70_4 ?_; refine qOn 4 (some 42) z70_5 fun K hK => ?_; refine qGo Try.func96 #[.int .i64 ((rd_T43 (rd_L4 l0_0 x3_2) x4_3).f0), .int .i64 1, .int .i64 a0_1] ?_; (with_reducible refine (spec_l01In.calls ((rd_T43 (rd_L4 l0_0 x3_2) x4_3).f0) 1 a0_1 true _ A14.out).mono ?_); rintro e w' ⟨rfl, ⟨nd, rfl⟩⟩; refine ⟨_, rfl, ?_⟩; refine hK.out _ _ ⟨qc0 BK106.out, qc1 BK106.out, qc0 BK101.out, qc1 BK101.out⟩ (fun hHeld => ?_); clear hK K; refine qNm ?_; refine qP 5 43 z70_6 ?_; refine qP 6 44 z70_7 ?_; refine qP 7 45 z70_8 ?_; refine qP 8 46 z70_9 ?_; refine qK4 9 47 z70_10 ?_; refine qOn 10 (some 48) z70_11 fun K hK => ?_; refine qGo Try.func113 #[.int .i64 x3_2, .int .i64 ((rd_T43 (rd_L4 l0_0 x3_2) x4_3).f1)] ?_; (with_reducible refine (spec_l06Value.calls x3_2 ((rd_T43 (rd_L4 l0_0 x3_2) x4_3).f1) false _ A16.out).mono ?_); rintro e w' ⟨rfl, ⟨nd, rfl⟩⟩; refine ⟨_, rfl, ?_⟩; refine hK.out _ _ ⟨qc0 BK106.out, qc1 BK106.out, qc0 BK101.out, qc1 BK101.out⟩ (fun hHeld => ?_); clear hK K; refine qNm ?_; refine qP 11 49 z70_12 ?_; refine qP 12 50 z70_13 ?_; refine qP 13 51 z70_14 ?_; refine qD 14 52 z70_15 ?_; refine qD 15 53 z70_16 ?_; refine qD 16 54 z70_17 ?_; refine qD 17 55 z70_18 ?_; refine qD 18 56 z70_33 ?_; refine qD 19 57 z70_34 ?_; refine qD 20 58 z70_35 ?_; refine qD 21 59 z70_36 ?_; refine qD 22 60 z70_37 ?_; refine qD 23 61 z70_38 ?_; refine qD 24 62 z70_39 ?_; refine qD 25 63 z70_40 ?_; refine qD 26 64 z70_41 ?_; refine qD 27 65 z70_28 ?_; refine qD 28 66 z70_29 ?_; refine qD 29 67 z70_30 ?_; refine qD 30 68 z70_31 ?_; refine qP 31 69 z70_32 ?_; refine done_ (done_of HT_.out qa18) ?_
               try go_wp2
               go_ret
               exact ⟨qa2, qH HB.out⟩
             ·replace c15 := Bool.eq_false_iff.mpr c15
              subst c15; rw [qfn] at H; obtain rfl := Option.some.inj H; obtain ⟨hcz47_0, hcz47_1, hfz47_0, hfz47_1⟩ := qb2 BK101.out; have p103 : 0 ≤ (x3_2 : Int) := qT qa1; have q103 : x3_2 < (l0_0.length : Int) := qT qa1; obtain ⟨ad103, A103_0, c103_0, e103, hx103_0, hl103_0, hi103_0⟩ := at_L4 HR0_0.out x3_2 p103 q103
              cases e103
              replace hx103_0 := (HB.out.cell (qL w _ hx103_0)).trans hx103_0; have HR103_0 := qO hi103_0; have HC103_0 := qO hl103_0; clear hi103_0 hl103_0; replace p103 := eq_true p103; replace q103 := eq_true q103; have p104 : 0 ≤ (x3_2 : Int) := qT qa1; have q104 : x3_2 < (l0_0.length : Int) := qT qa1; obtain ⟨ad104, A104_0, c104_0, e104, hx104_0, hl104_0, hi104_0⟩ := at_L4 HR0_0.out x3_2 p104 q104; obtain rfl : ad103 = ad104 := qa110; replace hx104_0 := (HB.out.cell (qL w _ hx104_0)).trans hx104_0; have HR104_0 := qO hi104_0; have HC104_0 := qO hl104_0; clear hi104_0 hl104_0; replace p104 := eq_true p104; replace q104 := eq_true q104; have ea_ := Option.some.inj (hx103_0.symm.trans hx104_0); injection ea_ with ea_ en_ ec_; subst ea_; subst ec_; clear en_; have p105 : 0 ≤ (x4_3 : Int) := qT qa1; have q105 : x4_3 < ((rd_L4 l0_0 x3_2).length : Int) := qT qa1; obtain ⟨ad105, e105, hx105_0, hx105_1⟩ := at_T43 HR104_0.out x4_3 p105 q105
              cases e105
              replace hx105_0 := (HB.out.cell (qL w _ hx105_0)).trans hx105_0; replace hx105_1 := (HB.out.cell (qL w _ hx105_1)).trans hx105_1; replace p105 := eq_true p105; replace q105 := eq_true q105
              try go_wp2_with (first | ((with_reducible refine gate_dst (N := 5) rfl ?_); refine qX 5 #[.int .i64 0, .int .i64 0] 43 ?_; intro gb106 hg w48 hbox hb; have hx_ := qHX HB hb qa0; have BK106 := qO (hbox); have GW106 := qO ((qa3 : w.heap.size ≤ gb106)); have GE106 := GW106; have NB101_106 := qO ((qLt hg (qk BK101.out))); have NB106_101 := qO (Ne.symm NB101_106.out); replace BK101 := qO (qB BK101.out hx_ hb); replace HB := qO (below_step (below_step HB.out hx_) hb); clear hx_ hb hbox hg; have hnb49 := NB106_101.out; have hnc49 := NB101_106.out; obtain ⟨hcz50_0, hcz50_1, hfz50_0, hfz50_1⟩ := qb2 BK106.out))
              generalize hw_ : ((w48.setCell ⟨gb106, 0, none⟩ (.int .i64 ((rd_T43 (rd_L4 l0_0 x3_2) x4_3).f0))).setCell ⟨gb106, 1, none⟩ (.int .i64 ((rd_T43 (rd_L4 l0_0 x3_2) x4_3).f1))) = w51; replace BK101 : Aside0 (w51.heap[gb101]? = some (.cells #[.slice (some ad103) l0_0.length c0_0, .int .i64 a0_1] 28 (0, 0))) := ⟨qa84⟩; replace BK106 : Aside0 (w51.heap[gb106]? = some (.cells #[.int .i64 ((rd_T43 (rd_L4 l0_0 x3_2) x4_3).f0), .int .i64 ((rd_T43 (rd_L4 l0_0 x3_2) x4_3).f1)] 43 (0, 0))) := ⟨qa105⟩; replace HB : Aside0 (Below w.heap.size w w51) := ⟨qa95⟩; clear hw_; replace BK101 := qO (qkD BK101.out); replace BK106 := qO (qkD BK106.out); replace HB := qO (qbD HB.out); refine start_ (n := 32) (S := fun w' => w'.cell? ⟨gb106, 0, none⟩ = some (.int .i64 ((rd_T43 (rd_L4 l0_0 x3_2) x4_3).f0)) ∧ w'.cell? ⟨gb106, 1, none⟩ = some (.int .i64 ((rd_T43 (rd_L4 l0_0 x3_2) x4_3).f1)) ∧ w'.cell? ⟨gb101, 0, none⟩ = some (.slice (some ad103) l0_0.length c0_0) ∧ w'.cell? ⟨gb101, 1, none⟩ = some (.int .i64 a0_1)) (ds := []) z70_0 qa18 rfl rfl ⟨qc0 BK106.out, qc1 BK106.out, qc0 BK101.out, qc1 BK101.out⟩ (fun hHeld => ?_); refine with_tabW spec_StoreOK.tab10 spec_StoreOK.bits10 (fun HT_ HW_ => ?_); generalize w51.drew = w52 at BK101 BK106 HB hHeld ⊢; refine qP 0 38 z70_1 ?_; refine qP 2 40 z70_2 ?_; refine qK4 1 39 z70_3 ?_; refine qK4 3 41 z70_4 ?_; refine qOn 4 (some 42) z70_5 fun K hK => ?_; refine qGo Try.func96 #[.int .i64 ((rd_T43 (rd_L4 l0_0 x3_2) x4_3).f0), .int .i64 1, .int .i64 a0_1] ?_; (with_reducible refine (spec_l01In.calls ((rd_T43 (rd_L4 l0_0 x3_2) x4_3).f0) 1 a0_1 false _ A14.out).mono ?_); rintro e w' ⟨rfl, ⟨nd, rfl⟩⟩; refine ⟨_, rfl, ?_⟩; refine hK.out _ _ ⟨qc0 BK106.out, qc1 BK106.out, qc0 BK101.out, qc1 BK101.out⟩ (fun hHeld => ?_); clear hK K; refine qNm ?_; refine qP 5 43 z70_6 ?_; refine qP 6 44 z70_7 ?_; refine qD 7 45 z70_8 ?_; refine qD 8 46 z70_9 ?_; refine qD 9 47 z70_10 ?_; refine qD 10 48 z70_11 ?_; refine qD 11 49 z70_12 ?_; refine qP 12 50 z70_13 ?_; refine qP 13 51 z70_14 ?_; refine qD 14 52 z70_15 ?_; refine qD 15 53 z70_16 ?_; refine qD 16 54 z70_17 ?_; refine qD 17 55 z70_18 ?_; refine qD 18 56 z70_33 ?_; refine qD 19 57 z70_34 ?_; refine qD 20 58 z70_35 ?_; refine qD 21 59 z70_36 ?_; refine qD 22 60 z70_37 ?_; refine qD 23 61 z70_38 ?_; refine qD 24 62 z70_39 ?_; refine qD 25 63 z70_40 ?_; refine qD 26 64 z70_41 ?_; refine qD 27 65 z70_28 ?_; refine qD 28 66 z70_29 ?_; refine qD 29 67 z70_30 ?_; refine qD 30 68 z70_31 ?_; refine qP 31 69 z70_32 ?_; refine done_ (done_of HT_.out qa18) ?_
              try go_wp2
              go_ret
              exact ⟨qa2, qH HB.out⟩
            ·rw [if_neg c13] at H
             exact absurd H qa51
           ·rw [if_neg c12] at H
            have c12b0 := decide_eq_false c12; clear c12; have H' := qO H; clear H; obtain ⟨hcz53_0, hcz53_1, hfz53_0, hfz53_1⟩ := qb2 BK101.out; have p103 : 0 ≤ (x3_2 : Int) := qT qa1; have q103 : x3_2 < (l0_0.length : Int) := qT qa1; obtain ⟨ad103, A103_0, c103_0, e103, hx103_0, hl103_0, hi103_0⟩ := at_L4 HR0_0.out x3_2 p103 q103
            cases e103
            replace hx103_0 := (HB.out.cell (qL w _ hx103_0)).trans hx103_0; have HR103_0 := qO hi103_0; have HC103_0 := qO hl103_0; clear hi103_0 hl103_0; replace p103 := eq_true p103; replace q103 := eq_true q103; go_wp2
            go_roundg k3
            case measure => have := HJ1.out; have := HK2.out; have := HK3.out; omega
            case rel => exact ⟨(wrap64 (x3_2 + 1)), qa6, H', ⟨qa83⟩, ⟨qk BK101.out⟩, ⟨qH HB.out⟩⟩
          ·rw [if_neg c11] at H
           exact absurd H qa51
         ·rw [if_neg c10] at H
          exact absurd H qa51
      ·rw [if_neg c9] at H
       have c9b0 := decide_eq_false c9; clear c9; obtain rfl := Option.some.inj H; go_wp2
       go_ret
       exact ⟨qa2, qH HB.out⟩
set_option maxHeartbeats 8000000
set_option maxRecDepth 100000
def spec_l06Puts.l0 : Nat → List (S58) → Int → Option (Bool)
 | 0, _, _ => none
 | k + 1, x0, x3 => if x3 < (x0.length : Int) then (if 0 ≤ x3 then ((spec_l01In.f ((rd_T58 x0 x3).f0) 0 15).bind fun t102 => (if t102 = true then ((spec_l06Value.f ((rd_T58 x0 x3).f0) ((rd_T58 x0 x3).f1)).bind fun t105 => (if t105 = true then (spec_l06Puts.l0 k x0 (wrap64 (x3 + 1))) else (some false))) else (some false))) else (none)) else (some (decide ((x0.length : Int) ≤ 400)))
def spec_l06Puts.f (k : Nat) (l0 : List (S58)) : Option (Bool) := spec_l06Puts.l0 k l0 0
theorem spec_l06Puts.calls (k : Nat) (A0 : Option Addr) (c0 : Nat) (l0 : List (S58)) (r : Bool) (w : World) (hr0 : Kd.C k58 w A0 l0.length l0) (hc0 : l0.length ≤ c0) (h : spec_l06Puts.f k l0 = some r) :
  Calls Try.prog 71 #[.slice A0 l0.length c0] w fun e w' => e = .returned (.bool r) ∧ Drawn0 w w' := by
 have HR0 := qO hr0; have HC0 := qO hc0; clear hr0 hc0; have H : (spec_l06Puts.l0 k l0 0) = some r := h; clear h; have H' := qO H; clear H
 go_enter Try.func71, Try.ntmps71
 go_wp2
 repeat (go_quiet (fail); try go_wp2)
 go_loopg [3] k (fun kq v3 w' => ∃ (x3_1 : Int), v3 = .int .i64 x3_1 ∧ Aside0 (spec_l06Puts.l0 kq l0 x3_1 = some r) ∧ Aside0 (kq ≤ k) ∧ Drawn0 w w')
 case atStart => exact ⟨(0), qa6, H', ⟨Nat.le_refl _⟩, qa23⟩
 case round =>
  clear H'; obtain ⟨x3_1, rfl, HA, HK1, ⟨m1, rfl⟩⟩ := hrel
  cases gk with
  | zero => exact absurd HA.out (by simp [spec_l06Puts.l0])
  | succ k1 =>
   have H := HA.out; clear HA; simp only [spec_l06Puts.l0] at H
   by_cases c2 : x3_1 < (l0.length : Int)
   ·rw [if_pos c2] at H
    have c2b0 := decide_eq_true c2; clear c2
    by_cases c3 : 0 ≤ x3_1
    ·rw [if_pos c3] at H
     have c3b0 := decide_eq_true c3; clear c3; replace H := Option.bind_eq_some_iff.mp H; obtain ⟨t102, A40, H⟩ := H; have A4 := qO A40; clear A40
     by_cases c5 : t102 = true
     ·subst c5
      rw [if_pos rfl] at H; replace H := Option.bind_eq_some_iff.mp H; obtain ⟨t105, A60, H⟩ := H; have A6 := qO A60; clear A60
      by_cases c7 : t105 = true
      ·subst c7
       rw [if_pos rfl] at H; have H' := qO H; clear H; have p101 : 0 ≤ (x3_1 : Int) := qT qa1; have q101 : x3_1 < (l0.length : Int) := qT qa1; obtain ⟨ad101, e101, hx101_0, hx101_1⟩ := at_T58 HR0.out x3_1 p101 q101
       cases e101
       replace p101 := eq_true p101; replace q101 := eq_true q101
       go_wp2_with (first | (go_at_call 96; (with_reducible refine (spec_l01In.calls ((rd_T58 l0 x3_1).f0) 0 15 true _ A4.out).mono ?_); rintro e w' ⟨rfl, ⟨nd, rfl⟩⟩; (try first | exact ⟨rfl, _, World.drewN_drewN _ _ _⟩ | exact ⟨rfl, _, Eq.trans (World.drewN_drewN _ _ _) (congrArg (World.drewN _) (Nat.add_assoc _ _ _))⟩); have p103 : 0 ≤ (x3_1 : Int) := qT qa1; have q103 : x3_1 < (l0.length : Int) := qT qa1; obtain ⟨ad103, e103, hx103_0, hx103_1⟩ := at_T58 HR0.out x3_1 p103 q103; obtain rfl : ad101 = ad103 := qa124; replace p103 := eq_true p103; replace q103 := eq_true q103; have p104 : 0 ≤ (x3_1 : Int) := qT qa1; have q104 : x3_1 < (l0.length : Int) := qT qa1; obtain ⟨ad104, e104, hx104_0, hx104_1⟩ := at_T58 HR0.out x3_1 p104 q104; obtain rfl : ad101 = ad104 := qa110; replace p104 := eq_true p104; replace q104 := eq_true q104) | (go_at_call 113; (with_reducible refine (spec_l06Value.calls ((rd_T58 l0 x3_1).f0) ((rd_T58 l0 x3_1).f1) true _ A6.out).mono ?_); rintro e w' ⟨rfl, ⟨nd, rfl⟩⟩; (try first | exact ⟨rfl, _, World.drewN_drewN _ _ _⟩ | exact ⟨rfl, _, Eq.trans (World.drewN_drewN _ _ _) (congrArg (World.drewN _) (Nat.add_assoc _ _ _))⟩)))
       repeat (go_quiet (first | (go_at_call 96; (with_reducible refine (spec_l01In.calls ((rd_T58 l0 x3_1).f0) 0 15 true _ A4.out).mono ?_); rintro e w' ⟨rfl, ⟨nd, rfl⟩⟩; (try first | exact ⟨rfl, _, World.drewN_drewN _ _ _⟩ | exact ⟨rfl, _, Eq.trans (World.drewN_drewN _ _ _) (congrArg (World.drewN _) (Nat.add_assoc _ _ _))⟩); have p103 : 0 ≤ (x3_1 : Int) := qT qa1; have q103 : x3_1 < (l0.length : Int) := qT qa1; obtain ⟨ad103, e103, hx103_0, hx103_1⟩ := at_T58 HR0.out x3_1 p103 q103; obtain rfl : ad101 = ad103 := qa124; replace p103 := eq_true p103; replace q103 := eq_true q103; have p104 : 0 ≤ (x3_1 : Int) := qT qa1; have q104 : x3_1 < (l0.length : Int) := qT qa1; obtain ⟨ad104, e104, hx104_0, hx104_1⟩ := at_T58 HR0.out x3_1 p104 q104; obtain rfl : ad101 = ad104 := qa110; replace p104 := eq_true p104; replace q104 := eq_true q104) | (go_at_call 113; (with_reducible refine (spec_l06Value.calls ((rd_T58 l0 x3_1).f0) ((rd_T58 l0 x3_1).f1) true _ A6.out).mono ?_); rintro e w' ⟨rfl, ⟨nd, rfl⟩⟩; (try first | exact ⟨rfl, _, World.drewN_drewN _ _ _⟩ | exact ⟨rfl, _, Eq.trans (World.drewN_drewN _ _ _) (congrArg (World.drewN _) (Nat.add_assoc _ _ _))⟩))); try go_wp2_with (first | (go_at_call 96; (with_reducible refine (spec_l01In.calls ((rd_T58 l0 x3_1).f0) 0 15 true _ A4.out).mono ?_); rintro e w' ⟨rfl, ⟨nd, rfl⟩⟩; (try first | exact ⟨rfl, _, World.drewN_drewN _ _ _⟩ | exact ⟨rfl, _, Eq.trans (World.drewN_drewN _ _ _) (congrArg (World.drewN _) (Nat.add_assoc _ _ _))⟩); have p103 : 0 ≤ (x3_1 : Int) := qT qa1; have q103 : x3_1 < (l0.length : Int) := qT qa1; obtain ⟨ad103, e103, hx103_0, hx103_1⟩ := at_T58 HR0.out x3_1 p103 q103; obtain rfl : ad101 = ad103 := qa124; replace p103 := eq_true p103; replace q103 := eq_true q103; have p104 : 0 ≤ (x3_1 : Int) := qT qa1; have q104 : x3_1 < (l0.length : Int) := qT qa1; obtain ⟨ad104, e104, hx104_0, hx104_1⟩ := at_T58 HR0.out x3_1 p104 q104; obtain rfl : ad101 = ad104 := qa110; replace p104 := eq_true p104; replace q104 := eq_true q104) | (go_at_call 113; (with_reducible refine (spec_l06Value.calls ((rd_T58 l0 x3_1).f0) ((rd_T58 l0 x3_1).f1) true _ A6.out).mono ?_); rintro e w' ⟨rfl, ⟨nd, rfl⟩⟩; (try first | exact ⟨rfl, _, World.drewN_drewN _ _ _⟩ | exact ⟨rfl, _, Eq.trans (World.drewN_drewN _ _ _) (congrArg (World.drewN _) (Nat.add_assoc _ _ _))⟩))))
       go_roundg k1
       case measure => have := HK1.out; omega
       case rel => exact ⟨(wrap64 (x3_1 + 1)), qa6, H', ⟨qa72⟩, qa23⟩
      ·replace c7 := Bool.eq_false_iff.mpr c7
       subst c7; rw [qfn] at H; obtain rfl := Option.some.inj H; have p101 : 0 ≤ (x3_1 : Int) := qT qa1; have q101 : x3_1 < (l0.length : Int) := qT qa1; obtain ⟨ad101, e101, hx101_0, hx101_1⟩ := at_T58 HR0.out x3_1 p101 q101
       cases e101
       replace p101 := eq_true p101; replace q101 := eq_true q101
       go_wp2_with (first | (go_at_call 96; (with_reducible refine (spec_l01In.calls ((rd_T58 l0 x3_1).f0) 0 15 true _ A4.out).mono ?_); rintro e w' ⟨rfl, ⟨nd, rfl⟩⟩; (try first | exact ⟨rfl, _, World.drewN_drewN _ _ _⟩ | exact ⟨rfl, _, Eq.trans (World.drewN_drewN _ _ _) (congrArg (World.drewN _) (Nat.add_assoc _ _ _))⟩); have p103 : 0 ≤ (x3_1 : Int) := qT qa1; have q103 : x3_1 < (l0.length : Int) := qT qa1; obtain ⟨ad103, e103, hx103_0, hx103_1⟩ := at_T58 HR0.out x3_1 p103 q103; obtain rfl : ad101 = ad103 := qa124; replace p103 := eq_true p103; replace q103 := eq_true q103; have p104 : 0 ≤ (x3_1 : Int) := qT qa1; have q104 : x3_1 < (l0.length : Int) := qT qa1; obtain ⟨ad104, e104, hx104_0, hx104_1⟩ := at_T58 HR0.out x3_1 p104 q104; obtain rfl : ad101 = ad104 := qa110; replace p104 := eq_true p104; replace q104 := eq_true q104) | (go_at_call 113; (with_reducible refine (spec_l06Value.calls ((rd_T58 l0 x3_1).f0) ((rd_T58 l0 x3_1).f1) false _ A6.out).mono ?_); rintro e w' ⟨rfl, ⟨nd, rfl⟩⟩; (try first | exact ⟨rfl, _, World.drewN_drewN _ _ _⟩ | exact ⟨rfl, _, Eq.trans (World.drewN_drewN _ _ _) (congrArg (World.drewN _) (Nat.add_assoc _ _ _))⟩)))
       repeat (go_quiet (first | (go_at_call 96; (with_reducible refine (spec_l01In.calls ((rd_T58 l0 x3_1).f0) 0 15 true _ A4.out).mono ?_); rintro e w' ⟨rfl, ⟨nd, rfl⟩⟩; (try first | exact ⟨rfl, _, World.drewN_drewN _ _ _⟩ | exact ⟨rfl, _, Eq.trans (World.drewN_drewN _ _ _) (congrArg (World.drewN _) (Nat.add_assoc _ _ _))⟩); have p103 : 0 ≤ (x3_1 : Int) := qT qa1; have q103 : x3_1 < (l0.length : Int) := qT qa1; obtain ⟨ad103, e103, hx103_0, hx103_1⟩ := at_T58 HR0.out x3_1 p103 q103; obtain rfl : ad101 = ad103 := qa124; replace p103 := eq_true p103; replace q103 := eq_true q103; have p104 : 0 ≤ (x3_1 : Int) := qT qa1; have q104 : x3_1 < (l0.length : Int) := qT qa1; obtain ⟨ad104, e104, hx104_0, hx104_1⟩ := at_T58 HR0.out x3_1 p104 q104; obtain rfl : ad101 = ad104 := qa110; replace p104 := eq_true p104; replace q104 := eq_true q104) | (go_at_call 113; (with_reducible refine (spec_l06Value.calls ((rd_T58 l0 x3_1).f0) ((rd_T58 l0 x3_1).f1) false _ A6.out).mono ?_); rintro e w' ⟨rfl, ⟨nd, rfl⟩⟩; (try first | exact ⟨rfl, _, World.drewN_drewN _ _ _⟩ | exact ⟨rfl, _, Eq.trans (World.drewN_drewN _ _ _) (congrArg (World.drewN _) (Nat.add_assoc _ _ _))⟩))); try go_wp2_with (first | (go_at_call 96; (with_reducible refine (spec_l01In.calls ((rd_T58 l0 x3_1).f0) 0 15 true _ A4.out).mono ?_); rintro e w' ⟨rfl, ⟨nd, rfl⟩⟩; (try first | exact ⟨rfl, _, World.drewN_drewN _ _ _⟩ | exact ⟨rfl, _, Eq.trans (World.drewN_drewN _ _ _) (congrArg (World.drewN _) (Nat.add_assoc _ _ _))⟩); have p103 : 0 ≤ (x3_1 : Int) := qT qa1; have q103 : x3_1 < (l0.length : Int) := qT qa1; obtain ⟨ad103, e103, hx103_0, hx103_1⟩ := at_T58 HR0.out x3_1 p103 q103; obtain rfl : ad101 = ad103 := qa124; replace p103 := eq_true p103; replace q103 := eq_true q103; have p104 : 0 ≤ (x3_1 : Int) := qT qa1; have q104 : x3_1 < (l0.length : Int) := qT qa1; obtain ⟨ad104, e104, hx104_0, hx104_1⟩ := at_T58 HR0.out x3_1 p104 q104; obtain rfl : ad101 = ad104 := qa110; replace p104 := eq_true p104; replace q104 := eq_true q104) | (go_at_call 113; (with_reducible refine (spec_l06Value.calls ((rd_T58 l0 x3_1).f0) ((rd_T58 l0 x3_1).f1) false _ A6.out).mono ?_); rintro e w' ⟨rfl, ⟨nd, rfl⟩⟩; (try first | exact ⟨rfl, _, World.drewN_drewN _ _ _⟩ | exact ⟨rfl, _, Eq.trans (World.drewN_drewN _ _ _) (congrArg (World.drewN _) (Nat.add_assoc _ _ _))⟩))))
       go_ret
       exact ⟨qa6, qa23⟩
     ·replace c5 := Bool.eq_false_iff.mpr c5
      subst c5; rw [qfn] at H; obtain rfl := Option.some.inj H; have p101 : 0 ≤ (x3_1 : Int) := qT qa1; have q101 : x3_1 < (l0.length : Int) := qT qa1; obtain ⟨ad101, e101, hx101_0, hx101_1⟩ := at_T58 HR0.out x3_1 p101 q101
      cases e101
      replace p101 := eq_true p101; replace q101 := eq_true q101
      go_wp2_with (first | (go_at_call 96; (with_reducible refine (spec_l01In.calls ((rd_T58 l0 x3_1).f0) 0 15 false _ A4.out).mono ?_); rintro e w' ⟨rfl, ⟨nd, rfl⟩⟩; (try first | exact ⟨rfl, _, World.drewN_drewN _ _ _⟩ | exact ⟨rfl, _, Eq.trans (World.drewN_drewN _ _ _) (congrArg (World.drewN _) (Nat.add_assoc _ _ _))⟩)))
      repeat (go_quiet (first | (go_at_call 96; (with_reducible refine (spec_l01In.calls ((rd_T58 l0 x3_1).f0) 0 15 false _ A4.out).mono ?_); rintro e w' ⟨rfl, ⟨nd, rfl⟩⟩; (try first | exact ⟨rfl, _, World.drewN_drewN _ _ _⟩ | exact ⟨rfl, _, Eq.trans (World.drewN_drewN _ _ _) (congrArg (World.drewN _) (Nat.add_assoc _ _ _))⟩))); try go_wp2_with (first | (go_at_call 96; (with_reducible refine (spec_l01In.calls ((rd_T58 l0 x3_1).f0) 0 15 false _ A4.out).mono ?_); rintro e w' ⟨rfl, ⟨nd, rfl⟩⟩; (try first | exact ⟨rfl, _, World.drewN_drewN _ _ _⟩ | exact ⟨rfl, _, Eq.trans (World.drewN_drewN _ _ _) (congrArg (World.drewN _) (Nat.add_assoc _ _ _))⟩))))
      go_ret
      exact ⟨qa6, qa23⟩
    ·rw [if_neg c3] at H
     exact absurd H qa51
   ·rw [if_neg c2] at H
    have c2b0 := decide_eq_false c2; clear c2; obtain rfl := Option.some.inj H; go_wp2
    repeat (go_quiet (fail); try go_wp2)
    go_ret
    exact ⟨qa6, qa23⟩
set_option maxHeartbeats 8000000
set_option maxRecDepth 100000
mutual
def spec_l07OK.j0 : Nat → Bool → Int → List Int → List (S58) → Option (Bool)
 | 0, _, _, _, _ => none
 | k + 1, x17, x103000, x103001, x103002 => if x17 = true then (some false) else (spec_l07OK.l0 k 0 x103000 x103001 x103002)
def spec_l07OK.l0 : Nat → Int → Int → List Int → List (S58) → Option (Bool)
 | 0, _, _, _, _ => none
 | k + 1, x5, x103000, x103001, x103002 => if x5 < (x103001.length : Int) then (if 0 ≤ x5 then ((spec_l01In.f (rd x103001 x5) 0 15).bind fun t106 => (if t106 = true then (if x5 ≤ (x103001.length : Int) then ((spec_l07In.f k (x103001.take (x5 : Int).toNat) (rd x103001 x5)).bind fun t109 => (if t109 = true then (some false) else (spec_l07OK.l0 k (wrap64 (x5 + 1)) x103000 x103001 x103002))) else (none)) else (some false))) else (none)) else (some true)
end
def spec_l07OK.f (k : Nat) (l0_0 : List (List (S43))) (a0_1 : Int) (a1_0 : Int) (l1_1 : List Int) (l1_2 : List (S58)) : Option (Bool) := (spec_l01In.f a1_0 0 a0_1).bind fun t103 => (if t103 = true then ((spec_l06Puts.f k l1_2).bind fun t104 => (spec_l07OK.j0 k (!t104) a1_0 l1_1 l1_2)) else (spec_l07OK.j0 k true a1_0 l1_1 l1_2))
def spec_l07OK.T6 : Bool × List (List Nat × List Nat) := (true, [([], []), ([0], [0]), ([], []), ([1, 2], [1, 2]), ([3], [3]), ([4], [4]), ([5], [5]), ([6, 5], [6]), ([7], [7]), ([8, 7], [7, 8]), ([7], [7]), ([9, 10, 7], [7, 9, 10]), ([7], [7]), ([12, 7], [7, 12]), ([7], [7]), ([13, 14, 7], [7, 13, 14]), ([15, 7], [7, 15]), ([11, 16, 7, 7], [7, 11, 16]), ([7, 17], [7, 17])])
def spec_l07OK.B6 : List Nat := [0, 1, 0, 7, 15, 31, 63, 127, 255, 511, 255, 2047, 255, 4351, 255, 28927, 61695, 131071, 262143]
theorem spec_l07OK.tab6 : rtab .any (opsOf Try.f123 6) = spec_l07OK.T6 := by kernel_rfl
theorem spec_l07OK.bits6 : waitsOk spec_l07OK.T6.2 spec_l07OK.B6 = true := by kernel_rfl
def z123_0 := #[qf,qf,qf,qf,qf,qf,qf,qf,qf,qf,qf,qf,qf,qf,qf,qf,qf,qf,qf]
def z123_1 := #[qt,qf,qf,qf,qf,qf,qf,qf,qf,qf,qf,qf,qf,qf,qf,qf,qf,qf,qf]
def z123_2 := #[qt,qf,qt,qf,qf,qf,qf,qf,qf,qf,qf,qf,qf,qf,qf,qf,qf,qf,qf]
def z123_3 := #[qt,qt,qt,qf,qf,qf,qf,qf,qf,qf,qf,qf,qf,qf,qf,qf,qf,qf,qf]
def z123_4 := #[qt,qt,qt,qt,qf,qf,qf,qf,qf,qf,qf,qf,qf,qf,qf,qf,qf,qf,qf]
def z123_5 := #[qt,qt,qt,qt,qt,qf,qf,qf,qf,qf,qf,qf,qf,qf,qf,qf,qf,qf,qf]
def z123_6 := #[qt,qt,qt,qt,qt,qt,qf,qf,qf,qf,qf,qf,qf,qf,qf,qf,qf,qf,qf]
def z123_7 := #[qt,qt,qt,qt,qt,qt,qt,qf,qf,qf,qf,qf,qf,qf,qf,qf,qf,qf,qf]
def z123_8 := #[qt,qt,qt,qt,qt,qt,qt,qt,qf,qf,qf,qf,qf,qf,qf,qf,qf,qf,qf]
def z123_9 := #[qt,qt,qt,qt,qt,qt,qt,qt,qt,qf,qf,qf,qf,qf,qf,qf,qf,qf,qf]
def z123_10 := #[qt,qt,qt,qt,qt,qt,qt,qt,qt,qf,qt,qf,qf,qf,qf,qf,qf,qf,qf]
def z123_11 := #[qt,qt,qt,qt,qt,qt,qt,qt,qt,qf,qt,qf,qt,qf,qf,qf,qf,qf,qf]
def z123_12 := #[qt,qt,qt,qt,qt,qt,qt,qt,qt,qf,qt,qf,qt,qf,qt,qf,qf,qf,qf]
def z123_13 := #[qt,qt,qt,qt,qt,qt,qt,qt,qt,qt,qt,qf,qt,qf,qt,qf,qf,qf,qf]
def z123_14 := #[qt,qt,qt,qt,qt,qt,qt,qt,qt,qt,qt,qt,qt,qf,qt,qf,qf,qf,qf]
def z123_15 := #[qt,qt,qt,qt,qt,qt,qt,qt,qt,qt,qt,qt,qt,qt,qt,qf,qf,qf,qf]
def z123_16 := #[qt,qt,qt,qt,qt,qt,qt,qt,qt,qt,qt,qt,qt,qt,qt,qt,qf,qf,qf]
def z123_17 := #[qt,qt,qt,qt,qt,qt,qt,qt,qt,qt,qt,qt,qt,qt,qt,qt,qt,qf,qf]
def z123_18 := #[qt,qt,qt,qt,qt,qt,qt,qt,qt,qt,qt,qt,qt,qt,qt,qt,qt,qt,qf]
def z123_19 := #[qt,qt,qt,qt,qt,qt,qt,qt,qt,qt,qt,qt,qt,qt,qt,qt,qt,qt,qt]
def z123_20 := #[qt,qt,qt,qt,qt,qt,qt,qt,qt,qt,qf,qf,qf,qf,qf,qf,qf,qf,qf]
def z123_21 := #[qt,qt,qt,qt,qt,qt,qt,qt,qt,qt,qt,qf,qf,qf,qf,qf,qf,qf,qf]
def z123_22 := #[qt,qt,qt,qt,qt,qt,qt,qt,qt,qt,qt,qt,qf,qf,qf,qf,qf,qf,qf]
def z123_23 := #[qt,qt,qt,qt,qt,qt,qt,qt,qt,qt,qt,qt,qt,qf,qf,qf,qf,qf,qf]
def z123_24 := #[qt,qt,qt,qt,qt,qt,qt,qt,qt,qt,qt,qt,qt,qt,qf,qf,qf,qf,qf]
theorem spec_l07OK.calls (k : Nat) (A0_0 : Option Addr) (c0_0 : Nat) (l0_0 : List (List (S43))) (a0_1 : Int) (a1_0 : Int) (A1_1 : Option Addr) (c1_1 : Nat) (l1_1 : List Int) (A1_2 : Option Addr) (c1_2 : Nat) (l1_2 : List (S58)) (r : Bool) (w : World) (hr0_0 : Kd.C (Kd.slice 43 k43) w A0_0 l0_0.length l0_0) (hc0_0 : l0_0.length ≤ c0_0) (hr1_1 : Kd.C (Kd.int .i64) w A1_1 l1_1.length l1_1) (hc1_1 : l1_1.length ≤ c1_1) (hr1_2 : Kd.C k58 w A1_2 l1_2.length l1_2) (hc1_2 : l1_2.length ≤ c1_2) (h : spec_l07OK.f k l0_0 a0_1 a1_0 l1_1 l1_2 = some r) :
  Calls Try.prog 123 #[.agg #[.slice A0_0 l0_0.length c0_0, .int .i64 a0_1], .agg #[.int .i64 a1_0, .slice A1_1 l1_1.length c1_1, .slice A1_2 l1_2.length c1_2]] w fun e w' => e = .returned (.bool r) ∧ Below w.heap.size w w' := by
 have hu28 := Try.underlying28; have hu65 := Try.underlying65; have HR0_0 := qO hr0_0; have HC0_0 := qO hc0_0; clear hr0_0 hc0_0; have HR1_1 := qO hr1_1; have HC1_1 := qO hc1_1; clear hr1_1 hc1_1; have HR1_2 := qO hr1_2; have HC1_2 := qO hc1_2; clear hr1_2 hc1_2; have HB := qO (Below.refl w.heap.size w); have H : ((spec_l01In.f a1_0 0 a0_1).bind fun t103 => (if t103 = true then ((spec_l06Puts.f k l1_2).bind fun t104 => (spec_l07OK.j0 k (!t104) a1_0 l1_1 l1_2)) else (spec_l07OK.j0 k true a1_0 l1_1 l1_2))) = some r := h; clear h; have HC3 := qO H; clear H
 go_enter Try.func123, Try.ntmps123
 go_upto_region 1 with (first | ((with_reducible refine gate_dst (N := 2) rfl ?_); refine qX 2 #[.slice A0_0 l0_0.length c0_0, .int .i64 a0_1] 28 ?_; intro gb101 hg w4 hbox hb; have BK101 := qO (hbox); have GW101 := qO ((qa38 : w.heap.size ≤ gb101)); have GE101 := qO ((qa38 : w.heap.size ≤ gb101)); replace HB := qO (below_step (qH HB.out) hb); clear hb hbox hg) | ((with_reducible refine gate_dst (N := 3) rfl ?_); refine qX 3 #[.int .i64 a1_0, .slice A1_1 l1_1.length c1_1, .slice A1_2 l1_2.length c1_2] 65 ?_; intro gb102 hg w5 hbox hb; have BK102 := qO (hbox); have GW102 := qO ((qa38 : w.heap.size ≤ gb102)); have GE102 := qO ((qa38 : w.heap.size ≤ gb102)); have NB101_102 := qO ((qLt hg (qk BK101.out))); have NB102_101 := qO ((qGt hg (qk BK101.out))); replace BK101 := qO (blk_below (qk BK101.out) hb); replace HB := qO (below_step (qH HB.out) hb); clear hb hbox hg))
 (try simp only [Act.put, qzA, qzB, qzC])
 go_cut [17] (fun v17 wc => ∃ (kq : Nat) (x17_2 : Bool), v17 = .bool x17_2 ∧ Aside0 (spec_l07OK.j0 kq x17_2 a1_0 l1_1 l1_2 = some r) ∧ Aside0 (kq ≤ k) ∧ Aside0 (wc.heap[gb101]? = some (.cells #[(.slice A0_0 l0_0.length c0_0), .int .i64 a0_1] 28 (0, 0))) ∧ Aside0 (wc.heap[gb102]? = some (.cells #[.int .i64 a1_0, (.slice A1_1 l1_1.length c1_1), (.slice A1_2 l1_2.length c1_2)] 65 (0, 0))) ∧ Aside0 (Below w.heap.size w wc))
 case first =>
  have H := HC3.out; clear HC3; replace H := Option.bind_eq_some_iff.mp H; obtain ⟨t103, A60, H⟩ := H; have A6 := qO A60; clear A60
  by_cases c7 : t103 = true
  ·subst c7
   rw [if_pos rfl] at H; replace H := Option.bind_eq_some_iff.mp H; obtain ⟨t104, A80, H⟩ := H; have A8 := qO A80; clear A80; have H' := qO H; clear H; have hnb9 := NB102_101.out; have hnc9 := NB101_102.out; obtain ⟨hcz10_0, hcz10_1, hcz10_2, hfz10_0, hfz10_1, hfz10_2⟩ := qb3 BK102.out; obtain ⟨hcz11_0, hcz11_1, hfz11_0, hfz11_1⟩ := qb2 BK101.out
   go_wp2_with (first | ((with_reducible refine gate_callee (f := 96) rfl ?_); refine qGL 10 Try.func96 #[.int .i64 a1_0, .int .i64 0, .int .i64 a0_1] ?_; (with_reducible refine (spec_l01In.calls a1_0 0 a0_1 true _ A6.out).mono ?_); rintro e w' ⟨rfl, ⟨nd, rfl⟩⟩; refine ⟨_, rfl, ?_⟩) | (go_at_call 71; (with_reducible refine (spec_l06Puts.calls k _ _ l1_2 t104 _ ?side1 ?side2 A8.out).mono ?_); (case side1 => exact qkC (Kd.C_below HR1_2.out (qH HB.out))); (case side2 => exact HC1_2.out); rintro e w' ⟨rfl, ⟨nd, rfl⟩⟩))
   go_meet
   case rel => exact ⟨_, (!t104), qa6, H', ⟨qa79⟩, ⟨qk BK101.out⟩, ⟨qk BK102.out⟩, ⟨qH HB.out⟩⟩
  ·replace c7 := Bool.eq_false_iff.mpr c7
   subst c7; rw [qfn] at H; have H' := qO H; clear H; have hnb12 := NB102_101.out; have hnc12 := NB101_102.out; obtain ⟨hcz13_0, hcz13_1, hcz13_2, hfz13_0, hfz13_1, hfz13_2⟩ := qb3 BK102.out; obtain ⟨hcz14_0, hcz14_1, hfz14_0, hfz14_1⟩ := qb2 BK101.out
   go_wp2_with (first | ((with_reducible refine gate_callee (f := 96) rfl ?_); refine qGL 10 Try.func96 #[.int .i64 a1_0, .int .i64 0, .int .i64 a0_1] ?_; (with_reducible refine (spec_l01In.calls a1_0 0 a0_1 false _ A6.out).mono ?_); rintro e w' ⟨rfl, ⟨nd, rfl⟩⟩; refine ⟨_, rfl, ?_⟩))
   go_meet
   case rel => exact ⟨_, (true), qa6, H', ⟨qa79⟩, ⟨qk BK101.out⟩, ⟨qk BK102.out⟩, ⟨qH HB.out⟩⟩
 case rest =>
  clear HC3
  obtain ⟨kq, x17_2, rfl, HA, HJ2, BK101, BK102, HB⟩ := hcut
  cases kq with
  | zero => exact absurd HA.out (by simp [spec_l07OK.j0])
  | succ kj2 =>
   have H := HA.out; clear HA; simp only [spec_l07OK.j0] at H
   by_cases c15 : x17_2 = true
   ·subst c15
    rw [if_pos rfl] at H; obtain rfl := Option.some.inj H; go_wp2
    go_ret
    exact ⟨qa2, qH HB.out⟩
   ·replace c15 := Bool.eq_false_iff.mpr c15
    subst c15; rw [qfn] at H; have H' := qO H; clear H; go_wp2
    go_loopg [5] kj2 (fun kq v5 w' => ∃ (x5_2 : Int), v5 = .int .i64 x5_2 ∧ Aside0 (spec_l07OK.l0 kq x5_2 a1_0 l1_1 l1_2 = some r) ∧ Aside0 (kq ≤ kj2) ∧ Aside0 (w'.heap[gb101]? = some (.cells #[(.slice A0_0 l0_0.length c0_0), .int .i64 a0_1] 28 (0, 0))) ∧ Aside0 (w'.heap[gb102]? = some (.cells #[.int .i64 a1_0, (.slice A1_1 l1_1.length c1_1), (.slice A1_2 l1_2.length c1_2)] 65 (0, 0))) ∧ Aside0 (Below w.heap.size w w'))
    case atStart => exact ⟨(0), qa6, H', ⟨Nat.le_refl _⟩, ⟨qk BK101.out⟩, ⟨qk BK102.out⟩, ⟨qH HB.out⟩⟩
    case round =>
     clear H'
     obtain ⟨x5_2, rfl, HA, HK2, BK101, BK102, HB⟩ := hrel
     cases gk with
     | zero => exact absurd HA.out (by simp [spec_l07OK.l0])
     | succ k2 =>
      have H := HA.out; clear HA; simp only [spec_l07OK.l0] at H
      by_cases c16 : x5_2 < (l1_1.length : Int)
      ·rw [if_pos c16] at H
       have c16b0 := decide_eq_true c16; clear c16
       by_cases c17 : 0 ≤ x5_2
       ·rw [if_pos c17] at H
        have c17b0 := decide_eq_true c17; clear c17; replace H := Option.bind_eq_some_iff.mp H; obtain ⟨t106, A180, H⟩ := H; have A18 := qO A180; clear A180
        by_cases c19 : t106 = true
        ·subst c19
         rw [if_pos rfl] at H; have c20b0 := eq_true (qT qa1 : 0 ≤ x5_2)
         by_cases c21 : x5_2 ≤ (l1_1.length : Int)
         ·rw [if_pos c21] at H
          have c21b0 := eq_true c21; have c21b1 := decide_eq_true c21; clear c21; replace H := Option.bind_eq_some_iff.mp H; obtain ⟨t109, A220, H⟩ := H; have A22 := qO A220; clear A220
          by_cases c23 : t109 = true
          ·subst c23
           rw [if_pos rfl] at H; obtain rfl := Option.some.inj H; have hnb24 := NB102_101.out; have hnc24 := NB101_102.out; obtain ⟨hcz25_0, hcz25_1, hcz25_2, hfz25_0, hfz25_1, hfz25_2⟩ := qb3 BK102.out
           try go_wp2
           replace BK101 := qO (qkD BK101.out); replace BK102 := qO (qkD BK102.out); replace HB := qO (qbD HB.out); have p105 : 0 ≤ (x5_2 : Int) := qT qa1; have q105 : x5_2 < (l1_1.length : Int) := qT qa1; obtain ⟨ad105, e105, hx105_0⟩ := Kd.at_int HR1_1.out x5_2 p105 q105; have hw105_0 := hx105_0
           cases e105
           replace hx105_0 := (HB.out.cell (qL w _ hx105_0)).trans hx105_0; replace p105 := eq_true p105; replace q105 := eq_true q105; have p108 : 0 ≤ (x5_2 : Int) := qT qa1; have q108 : x5_2 < (l1_1.length : Int) := qT qa1; obtain ⟨ad108, e108, hx108_0⟩ := Kd.at_int HR1_1.out x5_2 p108 q108; have hw108_0 := hx108_0; obtain rfl : ad105 = ad108 := (by injection e108); replace hx108_0 := (HB.out.cell (qL w _ hx108_0)).trans hx108_0; replace p108 := eq_true p108; replace q108 := eq_true q108; refine start_ (n := 19) (S := fun w' => w'.cell? ⟨gb102, 0, none⟩ = some (.int .i64 a1_0) ∧ w'.cell? ⟨gb102, 1, none⟩ = some (.slice (some ad105) l1_1.length c1_1) ∧ w'.cell? ⟨gb102, 2, none⟩ = some (.slice A1_2 l1_2.length c1_2) ∧ w'.cell? (ad105.add (x5_2).toNat) = some (.int .i64 (rd l1_1 x5_2)) ∧ w'.cell? (ad105.add (x5_2).toNat) = some (.int .i64 (rd l1_1 x5_2))) (ds := []) z123_0 qa18 rfl rfl ⟨qc0 BK102.out, qc1 BK102.out, qc2 BK102.out, ((HB.out.cell (qL w _ hw105_0)).trans hw105_0), ((HB.out.cell (qL w _ hw108_0)).trans hw108_0)⟩ (fun hHeld => ?_); refine with_tabW spec_l07OK.tab6 spec_l07OK.bits6 (fun HT_ HW_ => ?_); generalize wr.drew = w26 at BK101 BK102 HB hx105_0 hx108_0 hHeld ⊢; refine qP 0 25 z123_1 ?_; refine qP 2 27 z123_2 ?_; refine qK5 1 26 z123_3 ?_; refine qP 3 28 z123_4 ?_; refine qK5 4 29 z123_5 ?_; refine qOn 5 (some 30) z123_6 fun K hK => ?_; refine qGo Try.func96 #[.int .i64 (rd l1_1 x5_2), .int .i64 0, .int .i64 15] ?_; (with_reducible refine (spec_l01In.calls (rd l1_1 x5_2) 0 15 true _ A18.out).mono ?_); rintro e w' ⟨rfl, ⟨nd, rfl⟩⟩; refine ⟨_, rfl, ?_⟩; obtain ⟨i027, hi027, _, hsz27, _⟩ := info_parts info3; obtain ⟨hcut27, hA27, hC27⟩ := print_take_of (P := Try.prog) (Value.int .i64) 0 60 3 .i64 Try.underlying60 hi027 hsz27 (some ad105) c1_1 l1_1 x5_2 (qT qa1) (qT qa1) HC1_1.out; have HR107 := qO (Kd.C_of_reads (h1 := fun _ => rfl) (hA27 _ (Kd.reads_of_C HR1_1.out))); have HC107 := qO hC27; clear hA27 hC27 hi027 hsz27; refine hK.out _ _ ⟨qc0 BK102.out, qc1 BK102.out, qc2 BK102.out, ((HB.out.cell (qL w _ hw105_0)).trans hw105_0), ((HB.out.cell (qL w _ hw108_0)).trans hw108_0)⟩ (fun hHeld => ?_); clear hK K; refine qNm ?_; refine qP 6 31 z123_7 ?_; refine qP 7 32 z123_8 ?_; refine qP 8 33 z123_9 ?_; refine qP 10 35 z123_10 ?_; refine qP 12 37 z123_11 ?_; refine qP 14 39 z123_12 ?_; refine qK5 9 34 z123_13 ?_; refine qP 11 36 z123_14 ?_; refine qK5 13 38 z123_15 ?_; refine qP 15 40 z123_16 ?_; refine qK5 16 41 z123_17 ?_; refine qOn 17 (some 42) z123_18 fun K hK => ?_; refine goes_ Try.func125 qa18 rfl #[.slice (some ad105) (l1_1.take (x5_2 : Int).toNat).length c1_1, .int .i64 (rd l1_1 x5_2)] (by rfl) rfl rfl qa54 ?_; (with_reducible refine (spec_l07In.calls k2 _ _ (l1_1.take (x5_2 : Int).toNat) (rd l1_1 x5_2) true _ ?side1 ?side2 A22.out).mono ?_); (case side1 => exact qkC (Kd.C_below HR107.out (qH HB.out))); (case side2 => exact HC107.out); rintro e w' ⟨rfl, ⟨nd, rfl⟩⟩; refine ⟨_, rfl, ?_⟩; refine hK.out _ _ ⟨qc0 BK102.out, qc1 BK102.out, qc2 BK102.out, ((HB.out.cell (qL w _ hw105_0)).trans hw105_0), ((HB.out.cell (qL w _ hw108_0)).trans hw108_0)⟩ (fun hHeld => ?_); clear hK K; refine qNm ?_; refine qP 18 43 z123_19 ?_; refine done_ (done_of HT_.out qa18) ?_
           try go_wp2
           go_ret
           exact ⟨qa2, qH HB.out⟩
          ·replace c23 := Bool.eq_false_iff.mpr c23
           subst c23; rw [qfn] at H; have H' := qO H; clear H; have hnb28 := NB102_101.out; have hnc28 := NB101_102.out; obtain ⟨hcz29_0, hcz29_1, hcz29_2, hfz29_0, hfz29_1, hfz29_2⟩ := qb3 BK102.out
           try go_wp2
           replace BK101 := qO (qkD BK101.out); replace BK102 := qO (qkD BK102.out); replace HB := qO (qbD HB.out); have p105 : 0 ≤ (x5_2 : Int) := qT qa1; have q105 : x5_2 < (l1_1.length : Int) := qT qa1; obtain ⟨ad105, e105, hx105_0⟩ := Kd.at_int HR1_1.out x5_2 p105 q105; have hw105_0 := hx105_0
           cases e105
           replace hx105_0 := (HB.out.cell (qL w _ hx105_0)).trans hx105_0; replace p105 := eq_true p105; replace q105 := eq_true q105; have p108 : 0 ≤ (x5_2 : Int) := qT qa1; have q108 : x5_2 < (l1_1.length : Int) := qT qa1; obtain ⟨ad108, e108, hx108_0⟩ := Kd.at_int HR1_1.out x5_2 p108 q108; have hw108_0 := hx108_0; obtain rfl : ad105 = ad108 := (by injection e108); replace hx108_0 := (HB.out.cell (qL w _ hx108_0)).trans hx108_0; replace p108 := eq_true p108; replace q108 := eq_true q108; refine start_ (n := 19) (S := fun w' => w'.cell? ⟨gb102, 0, none⟩ = some (.int .i64 a1_0) ∧ w'.cell? ⟨gb102, 1, none⟩ = some (.slice (some ad105) l1_1.length c1_1) ∧ w'.cell? ⟨gb102, 2, none⟩ = some (.slice A1_2 l1_2.length c1_2) ∧ w'.cell? (ad105.add (x5_2).toNat) = some (.int .i64 (rd l1_1 x5_2)) ∧ w'.cell? (ad105.add (x5_2).toNat) = some (.int .i64 (rd l1_1 x5_2))) (ds := []) z123_0 qa18 rfl rfl ⟨qc0 BK102.out, qc1 BK102.out, qc2 BK102.out, ((HB.out.cell (qL w _ hw105_0)).trans hw105_0), ((HB.out.cell (qL w _ hw108_0)).trans hw108_0)⟩ (fun hHeld => ?_); refine with_tabW spec_l07OK.tab6 spec_l07OK.bits6 (fun HT_ HW_ => ?_); generalize wr.drew = w30 at BK101 BK102 HB hx105_0 hx108_0 hHeld ⊢; refine qP 0 25 z123_1 ?_; refine qP 2 27 z123_2 ?_; refine qK5 1 26 z123_3 ?_; refine qP 3 28 z123_4 ?_; refine qK5 4 29 z123_5 ?_; refine qOn 5 (some 30) z123_6 fun K hK => ?_; refine qGo Try.func96 #[.int .i64 (rd l1_1 x5_2), .int .i64 0, .int .i64 15] ?_; (with_reducible refine (spec_l01In.calls (rd l1_1 x5_2) 0 15 true _ A18.out).mono ?_); rintro e w' ⟨rfl, ⟨nd, rfl⟩⟩; refine ⟨_, rfl, ?_⟩; obtain ⟨i031, hi031, _, hsz31, _⟩ := info_parts info3; obtain ⟨hcut31, hA31, hC31⟩ := print_take_of (P := Try.prog) (Value.int .i64) 0 60 3 .i64 Try.underlying60 hi031 hsz31 (some ad105) c1_1 l1_1 x5_2 (qT qa1) (qT qa1) HC1_1.out; have HR107 := qO (Kd.C_of_reads (h1 := fun _ => rfl) (hA31 _ (Kd.reads_of_C HR1_1.out))); have HC107 := qO hC31; clear hA31 hC31 hi031 hsz31; refine hK.out _ _ ⟨qc0 BK102.out, qc1 BK102.out, qc2 BK102.out, ((HB.out.cell (qL w _ hw105_0)).trans hw105_0), ((HB.out.cell (qL w _ hw108_0)).trans hw108_0)⟩ (fun hHeld => ?_); clear hK K; refine qNm ?_; refine qP 6 31 z123_7 ?_; refine qP 7 32 z123_8 ?_; refine qP 8 33 z123_9 ?_; refine qP 10 35 z123_10 ?_; refine qP 12 37 z123_11 ?_; refine qP 14 39 z123_12 ?_; refine qK5 9 34 z123_13 ?_; refine qP 11 36 z123_14 ?_; refine qK5 13 38 z123_15 ?_; refine qP 15 40 z123_16 ?_; refine qK5 16 41 z123_17 ?_; refine qOn 17 (some 42) z123_18 fun K hK => ?_; refine goes_ Try.func125 qa18 rfl #[.slice (some ad105) (l1_1.take (x5_2 : Int).toNat).length c1_1, .int .i64 (rd l1_1 x5_2)] (by rfl) rfl rfl qa54 ?_; (with_reducible refine (spec_l07In.calls k2 _ _ (l1_1.take (x5_2 : Int).toNat) (rd l1_1 x5_2) false _ ?side1 ?side2 A22.out).mono ?_); (case side1 => exact qkC (Kd.C_below HR107.out (qH HB.out))); (case side2 => exact HC107.out); rintro e w' ⟨rfl, ⟨nd, rfl⟩⟩; refine ⟨_, rfl, ?_⟩; refine hK.out _ _ ⟨qc0 BK102.out, qc1 BK102.out, qc2 BK102.out, ((HB.out.cell (qL w _ hw105_0)).trans hw105_0), ((HB.out.cell (qL w _ hw108_0)).trans hw108_0)⟩ (fun hHeld => ?_); clear hK K; refine qNm ?_; refine qP 18 43 z123_19 ?_; refine done_ (done_of HT_.out qa18) ?_
           try go_wp2
           go_roundg k2
           case measure => have := HJ2.out; have := HK2.out; omega
           case rel => exact ⟨(wrap64 (x5_2 + 1)), qa6, H', ⟨by have := HJ2.out; have := HK2.out; omega⟩, ⟨qk BK101.out⟩, ⟨qk BK102.out⟩, ⟨qH HB.out⟩⟩
         ·rw [if_neg c21] at H
          exact absurd H qa51
        ·replace c19 := Bool.eq_false_iff.mpr c19
         subst c19; rw [qfn] at H; obtain rfl := Option.some.inj H; have hnb32 := NB102_101.out; have hnc32 := NB101_102.out; obtain ⟨hcz33_0, hcz33_1, hcz33_2, hfz33_0, hfz33_1, hfz33_2⟩ := qb3 BK102.out
         try go_wp2
         replace BK101 := qO (qkD BK101.out); replace BK102 := qO (qkD BK102.out); replace HB := qO (qbD HB.out); have p105 : 0 ≤ (x5_2 : Int) := qT qa1; have q105 : x5_2 < (l1_1.length : Int) := qT qa1; obtain ⟨ad105, e105, hx105_0⟩ := Kd.at_int HR1_1.out x5_2 p105 q105; have hw105_0 := hx105_0
         cases e105
         replace hx105_0 := (HB.out.cell (qL w _ hx105_0)).trans hx105_0; replace p105 := eq_true p105; replace q105 := eq_true q105; refine start_ (n := 19) (S := fun w' => w'.cell? ⟨gb102, 0, none⟩ = some (.int .i64 a1_0) ∧ w'.cell? ⟨gb102, 1, none⟩ = some (.slice (some ad105) l1_1.length c1_1) ∧ w'.cell? ⟨gb102, 2, none⟩ = some (.slice A1_2 l1_2.length c1_2) ∧ w'.cell? (ad105.add (x5_2).toNat) = some (.int .i64 (rd l1_1 x5_2))) (ds := []) z123_0 qa18 rfl rfl ⟨qc0 BK102.out, qc1 BK102.out, qc2 BK102.out, ((HB.out.cell (qL w _ hw105_0)).trans hw105_0)⟩ (fun hHeld => ?_); refine with_tabW spec_l07OK.tab6 spec_l07OK.bits6 (fun HT_ HW_ => ?_); generalize wr.drew = w34 at BK101 BK102 HB hx105_0 hHeld ⊢; refine qP 0 25 z123_1 ?_; refine qP 2 27 z123_2 ?_; refine qK4 1 26 z123_3 ?_; refine qP 3 28 z123_4 ?_; refine qK4 4 29 z123_5 ?_; refine qOn 5 (some 30) z123_6 fun K hK => ?_; refine qGo Try.func96 #[.int .i64 (rd l1_1 x5_2), .int .i64 0, .int .i64 15] ?_; (with_reducible refine (spec_l01In.calls (rd l1_1 x5_2) 0 15 false _ A18.out).mono ?_); rintro e w' ⟨rfl, ⟨nd, rfl⟩⟩; refine ⟨_, rfl, ?_⟩; refine hK.out _ _ ⟨qc0 BK102.out, qc1 BK102.out, qc2 BK102.out, ((HB.out.cell (qL w _ hw105_0)).trans hw105_0)⟩ (fun hHeld => ?_); clear hK K; refine qNm ?_; refine qP 6 31 z123_7 ?_; refine qP 7 32 z123_8 ?_; refine qD 8 33 z123_9 ?_; refine qD 9 34 z123_20 ?_; refine qD 10 35 z123_21 ?_; refine qD 11 36 z123_22 ?_; refine qD 12 37 z123_23 ?_; refine qD 13 38 z123_24 ?_; refine qD 14 39 z123_15 ?_; refine qD 15 40 z123_16 ?_; refine qD 16 41 z123_17 ?_; refine qD 17 42 z123_18 ?_; refine qP 18 43 z123_19 ?_; refine done_ (done_of HT_.out qa18) ?_
         try go_wp2
         go_ret
         exact ⟨qa2, qH HB.out⟩
       ·rw [if_neg c17] at H
        exact absurd H qa51
      ·rw [if_neg c16] at H
       have c16b0 := decide_eq_false c16; clear c16; obtain rfl := Option.some.inj H; have hnb35 := NB102_101.out; have hnc35 := NB101_102.out; obtain ⟨hcz36_0, hcz36_1, hcz36_2, hfz36_0, hfz36_1, hfz36_2⟩ := qb3 BK102.out; go_wp2
       go_ret
       exact ⟨qa2, qH HB.out⟩
set_option maxHeartbeats 8000000
set_option maxRecDepth 100000
def spec_TxnOK.f (k : Nat) (l0_0 : List (List (S43))) (a0_1 : Int) (a1_0 : Int) (l1_1 : List Int) (l1_2 : List (S58)) : Option (Bool) := (spec_StoreOK.f k l0_0 a0_1).bind fun t103 => (if t103 = true then ((spec_l07OK.f k l0_0 a0_1 a1_0 l1_1 l1_2).bind fun t104 => (some t104)) else (some false))
theorem spec_TxnOK.calls (k : Nat) (A0_0 : Option Addr) (c0_0 : Nat) (l0_0 : List (List (S43))) (a0_1 : Int) (a1_0 : Int) (A1_1 : Option Addr) (c1_1 : Nat) (l1_1 : List Int) (A1_2 : Option Addr) (c1_2 : Nat) (l1_2 : List (S58)) (r : Bool) (w : World) (hr0_0 : Kd.C (Kd.slice 43 k43) w A0_0 l0_0.length l0_0) (hc0_0 : l0_0.length ≤ c0_0) (hr1_1 : Kd.C (Kd.int .i64) w A1_1 l1_1.length l1_1) (hc1_1 : l1_1.length ≤ c1_1) (hr1_2 : Kd.C k58 w A1_2 l1_2.length l1_2) (hc1_2 : l1_2.length ≤ c1_2) (h : spec_TxnOK.f k l0_0 a0_1 a1_0 l1_1 l1_2 = some r) :
  Calls Try.prog 87 #[.agg #[.slice A0_0 l0_0.length c0_0, .int .i64 a0_1], .agg #[.int .i64 a1_0, .slice A1_1 l1_1.length c1_1, .slice A1_2 l1_2.length c1_2]] w fun e w' => e = .returned (.bool r) ∧ Below w.heap.size w w' := by
 have hu28 := Try.underlying28; have hu65 := Try.underlying65; have HR0_0 := qO hr0_0; have HC0_0 := qO hc0_0; clear hr0_0 hc0_0; have HR1_1 := qO hr1_1; have HC1_1 := qO hc1_1; clear hr1_1 hc1_1; have HR1_2 := qO hr1_2; have HC1_2 := qO hc1_2; clear hr1_2 hc1_2; have HB := qO (Below.refl w.heap.size w); have H : ((spec_StoreOK.f k l0_0 a0_1).bind fun t103 => (if t103 = true then ((spec_l07OK.f k l0_0 a0_1 a1_0 l1_1 l1_2).bind fun t104 => (some t104)) else (some false))) = some r := h; clear h; replace H := Option.bind_eq_some_iff.mp H; obtain ⟨t103, A30, H⟩ := H; have A3 := qO A30; clear A30
 by_cases c4 : t103 = true
 ·subst c4
  rw [if_pos rfl] at H; replace H := Option.bind_eq_some_iff.mp H; obtain ⟨t104, A50, H⟩ := H; have A5 := qO A50; clear A50; obtain rfl := Option.some.inj H
  go_enter Try.func87, Try.ntmps87
  go_wp2_with (first | ((with_reducible refine gate_dst (N := 2) rfl ?_); refine qX 2 #[.slice A0_0 l0_0.length c0_0, .int .i64 a0_1] 28 ?_; intro gb101 hg w6 hbox hb; have hx_ := qHX HB hb qa0; have BK101 := qO (hbox); have GW101 := qO ((qa3 : w.heap.size ≤ gb101)); have GE101 := GW101; replace HB := qO (below_step (below_step HB.out hx_) hb); clear hx_ hb hbox hg) | ((with_reducible refine gate_dst (N := 3) rfl ?_); refine qX 3 #[.int .i64 a1_0, .slice A1_1 l1_1.length c1_1, .slice A1_2 l1_2.length c1_2] 65 ?_; intro gb102 hg w7 hbox hb; have hx_ := qHX HB hb qa0; have BK102 := qO (hbox); have GW102 := qO ((qa3 : w.heap.size ≤ gb102)); have GE102 := GW102; have NB101_102 := qO ((qLt hg (qk BK101.out))); have NB102_101 := qO (Ne.symm NB101_102.out); replace BK101 := qO (qB BK101.out hx_ hb); replace HB := qO (below_step (below_step HB.out hx_) hb); clear hx_ hb hbox hg; have hnb8 := NB101_102.out; have hnc8 := NB102_101.out; obtain ⟨hcz9_0, hcz9_1, hfz9_0, hfz9_1⟩ := qb2 BK101.out) | ((with_reducible refine gate_callee (f := 70) rfl ?_); refine qGL 6 Try.func70 #[.agg #[.slice A0_0 l0_0.length c0_0, .int .i64 a0_1]] ?_; (with_reducible refine (spec_StoreOK.calls k _ _ l0_0 a0_1 true _ ?side1 ?side2 A3.out).mono ?_); (case side1 => exact qa42); (case side2 => exact HC0_0.out); rintro e w10 ⟨rfl, hb⟩; have hx_ := qHX HB hb qa0; refine ⟨_, rfl, ?_⟩; replace BK101 := qO (qB BK101.out hx_ hb); replace BK102 := qO (qB BK102.out hx_ hb); replace HB := qO (below_step (below_step HB.out hx_) hb); clear hx_ hb; obtain ⟨hcz11_0, hcz11_1, hfz11_0, hfz11_1⟩ := qb2 BK101.out; obtain ⟨hcz12_0, hcz12_1, hcz12_2, hfz12_0, hfz12_1, hfz12_2⟩ := qb3 BK102.out) | (go_at_call 123; (with_reducible refine (spec_l07OK.calls k _ _ l0_0 a0_1 a1_0 _ _ l1_1 _ _ l1_2 t104 _ ?side1 ?side2 ?side3 ?side4 ?side5 ?side6 A5.out).mono ?_); (case side1 => exact qa42); (case side2 => exact HC0_0.out); (case side3 => exact qa68); (case side4 => exact HC1_1.out); (case side5 => exact qa66); (case side6 => exact HC1_2.out); rintro e w13 ⟨rfl, hb⟩; have hx_ := qHX HB hb qa0; replace BK101 := qO (qB BK101.out hx_ hb); replace BK102 := qO (qB BK102.out hx_ hb); replace HB := qO (below_step (below_step HB.out hx_) hb); clear hx_ hb))
  go_ret
  exact ⟨qa2, qH HB.out⟩
 ·replace c4 := Bool.eq_false_iff.mpr c4
  subst c4; rw [qfn] at H; obtain rfl := Option.some.inj H
  go_enter Try.func87, Try.ntmps87
  go_wp2_with (first | ((with_reducible refine gate_dst (N := 2) rfl ?_); refine qX 2 #[.slice A0_0 l0_0.length c0_0, .int .i64 a0_1] 28 ?_; intro gb101 hg w14 hbox hb; have hx_ := qHX HB hb qa0; have BK101 := qO (hbox); have GW101 := qO ((qa3 : w.heap.size ≤ gb101)); have GE101 := GW101; replace HB := qO (below_step (below_step HB.out hx_) hb); clear hx_ hb hbox hg) | ((with_reducible refine gate_dst (N := 3) rfl ?_); refine qX 3 #[.int .i64 a1_0, .slice A1_1 l1_1.length c1_1, .slice A1_2 l1_2.length c1_2] 65 ?_; intro gb102 hg w15 hbox hb; have hx_ := qHX HB hb qa0; have BK102 := qO (hbox); have GW102 := qO ((qa3 : w.heap.size ≤ gb102)); have GE102 := GW102; have NB101_102 := qO ((qLt hg (qk BK101.out))); have NB102_101 := qO (Ne.symm NB101_102.out); replace BK101 := qO (qB BK101.out hx_ hb); replace HB := qO (below_step (below_step HB.out hx_) hb); clear hx_ hb hbox hg; have hnb16 := NB101_102.out; have hnc16 := NB102_101.out; obtain ⟨hcz17_0, hcz17_1, hfz17_0, hfz17_1⟩ := qb2 BK101.out) | ((with_reducible refine gate_callee (f := 70) rfl ?_); refine qGL 6 Try.func70 #[.agg #[.slice A0_0 l0_0.length c0_0, .int .i64 a0_1]] ?_; (with_reducible refine (spec_StoreOK.calls k _ _ l0_0 a0_1 false _ ?side1 ?side2 A3.out).mono ?_); (case side1 => exact qa42); (case side2 => exact HC0_0.out); rintro e w18 ⟨rfl, hb⟩; have hx_ := qHX HB hb qa0; refine ⟨_, rfl, ?_⟩; replace BK101 := qO (qB BK101.out hx_ hb); replace BK102 := qO (qB BK102.out hx_ hb); replace HB := qO (below_step (below_step HB.out hx_) hb); clear hx_ hb))
  go_ret
  exact ⟨qa2, qH HB.out⟩
end Go.Proofs.Ytfiboooflebdpaa.Q
