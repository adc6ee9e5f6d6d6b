/- Texts of the claim on FnExactConflicts, gathered by a program of this session: what the program's functions compute (proved by walks), and the plain part. -/
import Derived.Test.YtjgaenojojfidaaKFnExactConflictsc
import Derived.Test.YtjgaenojojfidaaKFnExactConflictsOpens
import Derived.KernelRfl
namespace Go.Proofs.Ytjgaenojojfidaa.Q
open Go.RowKit Go.Proofs.YtjgaenojojfidaaW.PrintWords Go.Proofs.YtjgaenojojfidaaW.PrintLast Go.Proofs.YtjgaenojojfidaaW.PrintMore
attribute [local go_sem] max2_int min2_int max_two min_two max_three min_three max_four min_four   -- for this text's walks alone
set_option linter.unusedVariables false
set_option linter.unusedSimpArgs false

/-! ### impl_arePuts_1: function 78 -/
def impl_arePuts_1.f (a0_0 : Int) (a0_1 : Int) : Option (Bool) := (impl_isPut.f a0_0 a0_1).bind fun t102 => (some (!t102))
set_option maxHeartbeats 8000000 in
set_option maxRecDepth 100000 in
theorem impl_arePuts_1.calls (a0_0 : Int) (a0_1 : Int) (r : Bool) (w : World) (h : impl_arePuts_1.f a0_0 a0_1 = some r) :
  Calls Try.prog 78 #[.agg #[.int .i64 a0_0, .int .i64 a0_1]] w fun e w' => e = .returned (.bool r) ∧ Below w.heap.size w w' := by
 have hu49 := Try.underlying49
 have HB := Aside0.mk (Below.refl w.heap.size w)
 have H : ((impl_isPut.f a0_0 a0_1).bind fun t102 => (some (!t102))) = some r := h
 clear h
 replace H := Option.bind_eq_some_iff.mp H
 obtain ⟨t102, A20, H⟩ := H
 replace H : (some (!t102)) = some r := H
 have A2 := Aside0.mk A20
 clear A20
 obtain rfl := Option.some.inj H
 go_enter Try.func78, Try.ntmps78
 go_wp2_with (first | ((with_reducible refine gate_dst (N := 1) rfl ?_); refine box_event ?hg (N := 1) ?hd (cs := #[.int .i64 a0_0, .int .i64 a0_1]) (t := 49) ?hr ?_; (case hd => rfl); (case hg => rfl); (case hr => first | (go_simp; done) | (go_simp; rfl)); intro gb101 hg w3 hbox hb; have n0_ := Aside0.mk (below_step (by repeat (first | (with_reducible first | exact HB.out | apply below_alloc | apply pw_below_drewN | apply below_drew1) | exact HB.out)) hb); have n1_ := Aside0.mk (hbox); have n2_ := Aside0.mk ((by rw [hg]; exact (below_size (by repeat (first | (with_reducible first | exact HB.out | apply below_alloc | apply pw_below_drewN | apply below_drew1) | exact HB.out))) : w.heap.size ≤ gb101)); have n3_ := Aside0.mk ((by rw [hg]; exact (below_size (by repeat (first | (with_reducible first | exact HB.out | apply below_alloc | apply pw_below_drewN | apply below_drew1) | exact HB.out))) : w.heap.size ≤ gb101)); clear HB; have HB := n0_; have BK101 := n1_; have GW101 := n2_; have GE101 := n3_; clear n0_ n1_ n2_ n3_; clear hb hbox hg; have hcz4_0 : w3.cell? ⟨gb101, 0, none⟩ = some (.int .i64 a0_0) := (blk_cell BK101.out 0).trans rfl; have hcz4_1 : w3.cell? ⟨gb101, 1, none⟩ = some (.int .i64 a0_1) := (blk_cell BK101.out 1).trans rfl; have hfz4_0 := blk_frozen BK101.out 0; have hfz4_1 := blk_frozen BK101.out 1) | ((with_reducible refine gate_callee (f := 53) rfl ?_); refine goesL_ (some 4) rfl rfl Try.func53 (by kernel_rfl) rfl #[.agg #[.int .i64 a0_0, .int .i64 a0_1]] rfl (by (try simp only [List.map_toArray, List.map_cons, List.map_nil]); first | done | rfl | (simp only [List.length_drop, List.length_take]; rfl)) ?_; (with_reducible refine (impl_isPut.calls a0_0 a0_1 t102 _ A2.out).mono ?_); rintro e w5 ⟨rfl, hb⟩; refine ⟨_, rfl, ?_⟩; have n0_ := Aside0.mk (blk_below (g := gb101) (o := .cells #[.int .i64 a0_0, .int .i64 a0_1] 49 (0, 0)) (by (with_reducible repeat (first | refine blk_drewN ?_ _ | refine blk_drew ?_ | refine blk_alloc ?_ _)); exact BK101.out) hb); have n1_ := Aside0.mk (below_step (by repeat (first | (with_reducible first | exact HB.out | apply below_alloc | apply pw_below_drewN | apply below_drew1 | refine below_set ?_ GE101.out) | exact HB.out)) hb); clear BK101; clear HB; have BK101 := n0_; have HB := n1_; clear n0_ n1_; (try clear hb); (try clear hb2); (try clear hk); (try clear hi)))
 go_ret
 exact ⟨by first | rfl | (simp [errW_none, errW_some] <;> rfl) | (simp [*, errW_none, errW_some] <;> rfl), by repeat (first | (with_reducible first | exact HB.out | apply below_alloc | apply pw_below_drewN | apply below_drew1 | refine below_set ?_ GE101.out) | exact HB.out)⟩

end Go.Proofs.Ytjgaenojojfidaa.Q
namespace Go.Proofs.Ytjgaenojojfidaa.Q
open Go.RowKit Go.Proofs.YtjgaenojojfidaaW.PrintWords Go.Proofs.YtjgaenojojfidaaW.PrintLast Go.Proofs.YtjgaenojojfidaaW.PrintMore
attribute [local go_sem] max2_int min2_int max_two min_two max_three min_three max_four min_four   -- for this text's walks alone
set_option linter.unusedVariables false
set_option linter.unusedSimpArgs false

/-! ### impl_arePuts: function 44 -/
def impl_arePuts.p (x : S49) : Bool := match impl_arePuts_1.f x.f0 x.f1 with | some b => b | none => false
theorem impl_arePuts.pe (x : S49) : impl_arePuts_1.f x.f0 x.f1 = some (impl_arePuts.p x) := by
 have h1 : ∀ a b c, ∃ r, impl_within.f a b c = some r := by
  intro a b c
  unfold impl_within.f
  split <;> exact ⟨_, rfl⟩
 have h2 : ∀ a, ∃ r, impl_isKey.f a = some r := by
  intro a
  obtain ⟨r, h⟩ := h1 a 0 15
  exact ⟨r, by unfold impl_isKey.f; rw [h]; rfl⟩
 have h3 : ∀ a b, ∃ r, impl_fits.f a b = some r := by
  intro a b
  unfold impl_fits.f impl_IsInt.f
  split
  ·obtain ⟨r, h⟩ := h1 b 0 8
   exact ⟨r, by rw [h]; rfl⟩
  ·obtain ⟨r, h⟩ := h1 b (-2147483648) 2147483647
   exact ⟨r, by rw [h]; rfl⟩
 have h4 : ∃ r, impl_arePuts_1.f x.f0 x.f1 = some r := by
  obtain ⟨a, ha⟩ := h2 x.f0
  obtain ⟨b, hb⟩ := h3 x.f0 x.f1
  unfold impl_arePuts_1.f impl_isPut.f
  rw [ha]
  cases a
  ·exact ⟨_, rfl⟩
  ·simp only [Option.bind_some, if_true]
   rw [hb]
   exact ⟨_, rfl⟩
 obtain ⟨r, h⟩ := h4
 unfold impl_arePuts.p
 rw [h]
def impl_arePuts.f (l0 : List (S49)) : Option Bool := if (l0.length : Int) ≤ 400 then some (!(l0.any impl_arePuts.p)) else some false
set_option maxHeartbeats 4000000 in
set_option maxRecDepth 100000 in
theorem impl_arePuts.calls (A0 : Option Addr) (c0 : Nat) (l0 : List (S49)) (r : Bool) (w : World) (hr0 : Kd.C k49 w A0 l0.length l0) (hc0 : l0.length ≤ c0) (h : impl_arePuts.f l0 = some r) :
  Calls Try.prog 44 #[.slice A0 l0.length c0] w fun e w' => e = .returned (.bool r) ∧ Below w.heap.size w w' := by
 unfold impl_arePuts.f at h
 have eg : ∀ args w, (callFunc 78 args).run Try.prog w = .ok (.enter 78 args) w := enters_of Try.func78 (by kernel_rfl) rfl
 have hcon := impl_Put_77.callsP A0 c0 l0 78 #[] impl_arePuts.p w eg hr0 (fun W x _ hb => (impl_arePuts_1.calls x.f0 x.f1 (impl_arePuts.p x) W (impl_arePuts.pe x)).mono (by rintro e w' ⟨rfl, h2⟩; exact ⟨rfl, below_step hb h2⟩))
 clear hr0 hc0 eg
 generalize l0.any impl_arePuts.p = q at h hcon
 by_cases hle : (l0.length : Int) ≤ 400
 ·rw [if_pos hle] at h
  obtain rfl := Option.some.inj h
  have hd : decide ((l0.length : Int) ≤ 400) = true := decide_eq_true hle
  have hd2 : decide (l0.length ≤ 400) = true := decide_eq_true (by omega)
  clear hle h
  go_enter Try.func44, Try.ntmps44
  go_wp2_with (go_at_call 77; refine hcon.mono ?_; rintro e w' ⟨rfl, hb'⟩)
  go_ret
  exact ⟨rfl, hb'⟩
 ·rw [if_neg hle] at h
  obtain rfl := Option.some.inj h
  have hd : decide ((l0.length : Int) ≤ 400) = false := decide_eq_false hle
  have hd2 : decide (l0.length ≤ 400) = false := decide_eq_false (by omega)
  clear hle h hcon
  go_enter Try.func44, Try.ntmps44
  go_wp2
  go_ret
  exact ⟨rfl, Below.refl _ _⟩

end Go.Proofs.Ytjgaenojojfidaa.Q
namespace Go.Proofs.Ytjgaenojojfidaa.Q
open Go.RowKit Go.Proofs.YtjgaenojojfidaaW.PrintWords Go.Proofs.YtjgaenojojfidaaW.PrintLast Go.Proofs.YtjgaenojojfidaaW.PrintMore
attribute [local go_sem] max2_int min2_int max_two min_two max_three min_three max_four min_four   -- for this text's walks alone
set_option linter.unusedVariables false
set_option linter.unusedSimpArgs false

/-! ### slices_Index_int_int: function 79 -/
def slices_Index_int_int.l0 : Nat → List Int → Int → Int → Int → Option (Int)
 | 0, _, _, _, _ => none
 | k + 1, x0, x1, x7, x8 => if x8 < x7 then (if 0 ≤ x8 then (if x8 < (x0.length : Int) then (if x1 = (rd x0 x8) then (some x8) else (slices_Index_int_int.l0 k x0 x1 x7 (wrap64 (x8 + 1)))) else (none)) else (none)) else (some (-1))
def slices_Index_int_int.f (k : Nat) (l0 : List Int) (a1 : Int) : Option (Int) := slices_Index_int_int.l0 k l0 a1 (l0.length : Int) 0
set_option maxHeartbeats 8000000 in
set_option maxRecDepth 100000 in
theorem slices_Index_int_int.calls (k : Nat) (A0 : Option Addr) (c0 : Nat) (l0 : List Int) (a1 : Int) (r : Int) (w : World) (hr0 : Kd.C (Kd.int .i64) w A0 l0.length l0) (hc0 : l0.length ≤ c0) (h : slices_Index_int_int.f k l0 a1 = some r) :
  Calls Try.prog 79 #[.slice A0 l0.length c0, .int .i64 a1] w fun e w' => e = .returned (.int .i64 r) ∧ Drawn0 w w' := by
 have HR0 := Aside0.mk hr0
 have HC0 := Aside0.mk hc0
 clear hr0 hc0
 have H : (slices_Index_int_int.l0 k l0 a1 (l0.length : Int) 0) = some r := h
 clear h
 have H' := Aside0.mk H
 clear H
 go_enter Try.func79, Try.ntmps79
 go_wp2
 go_loopg [8] k (fun kq v8 w' => ∃ (x8_1 : Int), v8 = .int .i64 x8_1 ∧ Aside0 (slices_Index_int_int.l0 kq l0 a1 (l0.length : Int) x8_1 = some r) ∧ Aside0 (kq ≤ k) ∧ Drawn0 w w')
 case atStart => exact ⟨(0), (by first | rfl | (simp; done) | (simp [*]; done)), H', ⟨Nat.le_refl _⟩, by repeat (first | exact Drawn0.refl _ | apply Drawn0.step)⟩
 case round =>
  clear H'
  try clear p2
  obtain ⟨x8_1, rfl, HA, HK1, ⟨m1, rfl⟩⟩ := hrel
  cases gk with
  | zero => exact absurd HA.out (by simp [slices_Index_int_int.l0])
  | succ k1 =>
   have H := HA.out
   clear HA
   simp only [slices_Index_int_int.l0] at H
   by_cases c3 : x8_1 < (l0.length : Int)
   ·rw [if_pos c3] at H
    have c3b0 : decide (x8_1 < (l0.length : Int)) = true := decide_eq_true c3
    clear c3
    by_cases c4 : 0 ≤ x8_1
    ·rw [if_pos c4] at H
     have c4b0 : decide (0 ≤ x8_1) = true := decide_eq_true c4
     clear c4
     by_cases c5 : x8_1 < (l0.length : Int)
     ·rw [if_pos c5] at H
      have c5b0 : decide (x8_1 < (l0.length : Int)) = true := decide_eq_true c5
      clear c5
      by_cases c6 : a1 = (rd l0 x8_1)
      ·rw [if_pos c6] at H
       have c6b0 : (a1 == (rd l0 x8_1)) = true := beq_iff_eq.mpr c6
       have c6b1 : (a1 != (rd l0 x8_1)) = false := bne_eq_false_iff_eq.mpr c6
       clear c6
       obtain rfl := Option.some.inj H
       have p101 : 0 ≤ (x8_1 : Int) := of_decide_eq_true (by first | (with_reducible assumption) | assumption)
       have q101 : x8_1 < (l0.length : Int) := of_decide_eq_true (by first | (with_reducible assumption) | assumption)
       obtain ⟨ad101, e101, hx101_0⟩ := Kd.at_int HR0.out x8_1 p101 q101
       cases e101
       replace p101 := eq_true p101
       replace q101 := eq_true q101
       go_wp2
       go_ret
       exact ⟨by first | rfl | (simp; done) | (simp [*]; done), by repeat (first | exact Drawn0.refl _ | apply Drawn0.step)⟩
      ·rw [if_neg c6] at H
       have c6b0 : (a1 == (rd l0 x8_1)) = false := beq_eq_false_iff_ne.mpr c6
       have c6b1 : (a1 != (rd l0 x8_1)) = true := bne_iff_ne.mpr c6
       have H' := Aside0.mk H
       clear H
       have p101 : 0 ≤ (x8_1 : Int) := of_decide_eq_true (by first | (with_reducible assumption) | assumption)
       have q101 : x8_1 < (l0.length : Int) := of_decide_eq_true (by first | (with_reducible assumption) | assumption)
       obtain ⟨ad101, e101, hx101_0⟩ := Kd.at_int HR0.out x8_1 p101 q101
       cases e101
       replace p101 := eq_true p101
       replace q101 := eq_true q101
       go_wp2
       go_roundg k1
       case measure => have := HK1.out; omega
       case rel => exact ⟨(wrap64 (x8_1 + 1)), (by first | rfl | (simp; done) | (simp [*]; done)), H', ⟨by have := HK1.out; omega⟩, by repeat (first | exact Drawn0.refl _ | apply Drawn0.step)⟩
     ·rw [if_neg c5] at H
      exact absurd H (by simp)
    ·rw [if_neg c4] at H
     exact absurd H (by simp)
   ·rw [if_neg c3] at H
    have c3b0 : decide (x8_1 < (l0.length : Int)) = false := decide_eq_false c3
    clear c3
    obtain rfl := Option.some.inj H
    go_wp2
    go_ret
    exact ⟨by first | rfl | (simp; done) | (simp [*]; done), by repeat (first | exact Drawn0.refl _ | apply Drawn0.step)⟩

end Go.Proofs.Ytjgaenojojfidaa.Q
namespace Go.Proofs.Ytjgaenojojfidaa.Q
open Go.RowKit Go.Proofs.YtjgaenojojfidaaW.PrintWords Go.Proofs.YtjgaenojojfidaaW.PrintLast Go.Proofs.YtjgaenojojfidaaW.PrintMore
attribute [local go_sem] max2_int min2_int max_two min_two max_three min_three max_four min_four   -- for this text's walks alone
set_option linter.unusedVariables false
set_option linter.unusedSimpArgs false

/-! ### slices_Contains_int_int: function 46 -/
def slices_Contains_int_int.f (k : Nat) (l0 : List Int) (a1 : Int) : Option (Bool) := (slices_Index_int_int.f k l0 a1).bind fun t101 => (some (decide (t101 ≥ 0)))
set_option maxHeartbeats 8000000 in
set_option maxRecDepth 100000 in
theorem slices_Contains_int_int.calls (k : Nat) (A0 : Option Addr) (c0 : Nat) (l0 : List Int) (a1 : Int) (r : Bool) (w : World) (hr0 : Kd.C (Kd.int .i64) w A0 l0.length l0) (hc0 : l0.length ≤ c0) (h : slices_Contains_int_int.f k l0 a1 = some r) :
  Calls Try.prog 46 #[.slice A0 l0.length c0, .int .i64 a1] w fun e w' => e = .returned (.bool r) ∧ Drawn0 w w' := by
 have HR0 := Aside0.mk hr0
 have HC0 := Aside0.mk hc0
 clear hr0 hc0
 have H : ((slices_Index_int_int.f k l0 a1).bind fun t101 => (some (decide (t101 ≥ 0)))) = some r := h
 clear h
 replace H := Option.bind_eq_some_iff.mp H
 obtain ⟨t101, A30, H⟩ := H
 replace H : (some (decide (t101 ≥ 0))) = some r := H
 have A3 := Aside0.mk A30
 clear A30
 obtain rfl := Option.some.inj H
 go_enter Try.func46, Try.ntmps46
 go_wp2_with (first | ((with_reducible refine gate_callee (f := 79) rfl ?_); refine goesL_ (some 7) rfl rfl Try.func79 (by kernel_rfl) rfl #[.slice A0 l0.length c0, .int .i64 a1] rfl (by (try simp only [List.map_toArray, List.map_cons, List.map_nil]); first | done | rfl | (simp only [List.length_drop, List.length_take]; rfl)) ?_; (with_reducible refine (slices_Index_int_int.calls k _ _ l0 a1 t101 _ ?side1 ?side2 A3.out).mono ?_); (case side1 => repeat (first | exact HR0.out | (with_reducible refine Kd.C_alloc ?_ _) | (with_reducible refine Kd.C_drewN ?_ _) | (with_reducible refine Kd.C_drew ?_))); (case side2 => exact HC0.out); rintro e w' ⟨rfl, ⟨nd, rfl⟩⟩; refine ⟨_, rfl, ?_⟩))
 go_ret
 exact ⟨by first | rfl | (simp; done) | (simp [*]; done), by repeat (first | exact Drawn0.refl _ | apply Drawn0.step)⟩

end Go.Proofs.Ytjgaenojojfidaa.Q
namespace Go.Proofs.Ytjgaenojojfidaa.Q
open Go.RowKit Go.Proofs.YtjgaenojojfidaaW.PrintWords Go.Proofs.YtjgaenojojfidaaW.PrintLast Go.Proofs.YtjgaenojojfidaaW.PrintMore
attribute [local go_sem] max2_int min2_int max_two min_two max_three min_three max_four min_four   -- for this text's walks alone
set_option linter.unusedVariables false
set_option linter.unusedSimpArgs false

/-! ### impl_TxnOK: function 14 -/
mutual
def impl_TxnOK.j0 : Nat → Bool → Int → List Int → List (S49) → Option (Bool)
 | 0, _, _, _, _ => none
 | k + 1, x22, x103000, x103001, x103002 => if x22 = true then (some false) else (impl_TxnOK.l0 k x103001 (x103001.length : Int) 0 x103000 x103001 x103002)
def impl_TxnOK.l0 : Nat → List Int → Int → Int → Int → List Int → List (S49) → Option (Bool)
 | 0, _, _, _, _, _, _ => none
 | k + 1, x24, x25, x26, x103000, x103001, x103002 => if x26 < x25 then (if 0 ≤ x26 then (if x26 < (x24.length : Int) then ((impl_isKey.f (rd x24 x26)).bind fun t107 => (if t107 = true then (if x26 ≤ (x103001.length : Int) then ((slices_Contains_int_int.f k (x103001.take (x26 : Int).toNat) (rd x24 x26)).bind fun t109 => (if t109 = true then (some false) else (impl_TxnOK.l0 k x24 x25 (wrap64 (x26 + 1)) x103000 x103001 x103002))) else (none)) else (some false))) else (none)) else (none)) else (some true)
end
def impl_TxnOK.f (k : Nat) (l0_0 : List (List (S94))) (a0_1 : Int) (a1_0 : Int) (l1_1 : List Int) (l1_2 : List (S49)) : Option (Bool) := (impl_StoreOK.f k l0_0 a0_1).bind fun t103 => (if t103 = true then ((impl_Store_isHour.f l0_0 a0_1 a1_0).bind fun t104 => (if t104 = true then ((impl_arePuts.f l1_2).bind fun t105 => (impl_TxnOK.j0 k (!t105) a1_0 l1_1 l1_2)) else (impl_TxnOK.j0 k true a1_0 l1_1 l1_2))) else (impl_TxnOK.j0 k true a1_0 l1_1 l1_2))
set_option maxHeartbeats 8000000 in
set_option maxRecDepth 100000 in
theorem impl_TxnOK.calls (k : Nat) (A0_0 : Option Addr) (c0_0 : Nat) (l0_0 : List (List (S94))) (a0_1 : Int) (a1_0 : Int) (A1_1 : Option Addr) (c1_1 : Nat) (l1_1 : List Int) (A1_2 : Option Addr) (c1_2 : Nat) (l1_2 : List (S49)) (r : Bool) (w : World) (hr0_0 : Kd.C (Kd.slice 94 k94) w A0_0 l0_0.length l0_0) (hc0_0 : l0_0.length ≤ c0_0) (hr1_1 : Kd.C (Kd.int .i64) w A1_1 l1_1.length l1_1) (hc1_1 : l1_1.length ≤ c1_1) (hr1_2 : Kd.C k49 w A1_2 l1_2.length l1_2) (hc1_2 : l1_2.length ≤ c1_2) (h : impl_TxnOK.f k l0_0 a0_1 a1_0 l1_1 l1_2 = some r) :
  Calls Try.prog 14 #[.agg #[.slice A0_0 l0_0.length c0_0, .int .i64 a0_1], .agg #[.int .i64 a1_0, .slice A1_1 l1_1.length c1_1, .slice A1_2 l1_2.length c1_2]] w fun e w' => e = .returned (.bool r) ∧ Below w.heap.size w w' := by
 have hu34 := Try.underlying34
 have hu38 := Try.underlying38
 have HR0_0 := Aside0.mk hr0_0
 have HC0_0 := Aside0.mk hc0_0
 clear hr0_0 hc0_0
 have HR1_1 := Aside0.mk hr1_1
 have HC1_1 := Aside0.mk hc1_1
 clear hr1_1 hc1_1
 have HR1_2 := Aside0.mk hr1_2
 have HC1_2 := Aside0.mk hc1_2
 clear hr1_2 hc1_2
 have HB := Aside0.mk (Below.refl w.heap.size w)
 have H : ((impl_StoreOK.f k l0_0 a0_1).bind fun t103 => (if t103 = true then ((impl_Store_isHour.f l0_0 a0_1 a1_0).bind fun t104 => (if t104 = true then ((impl_arePuts.f l1_2).bind fun t105 => (impl_TxnOK.j0 k (!t105) a1_0 l1_1 l1_2)) else (impl_TxnOK.j0 k true a1_0 l1_1 l1_2))) else (impl_TxnOK.j0 k true a1_0 l1_1 l1_2))) = some r := h
 clear h
 have HC3 := Aside0.mk H
 clear H
 go_enter Try.func14, Try.ntmps14
 go_upto_region 1 with (first | ((with_reducible refine gate_dst (N := 2) rfl ?_); refine box_event ?hg (N := 2) ?hd (cs := #[.slice A0_0 l0_0.length c0_0, .int .i64 a0_1]) (t := 34) ?hr ?_; (case hd => rfl); (case hg => rfl); (case hr => first | (go_simp; done) | (go_simp; rfl)); intro gb101 hg w4 hbox hb; have n0_ := Aside0.mk (below_step (by repeat (first | (with_reducible first | exact HB.out | apply below_alloc | apply pw_below_drewN | apply below_drew1) | exact HB.out)) hb); have n1_ := Aside0.mk (hbox); have n2_ := Aside0.mk ((by rw [hg]; exact (below_size (by repeat (first | (with_reducible first | exact HB.out | apply below_alloc | apply pw_below_drewN | apply below_drew1) | exact HB.out))) : w.heap.size ≤ gb101)); have n3_ := Aside0.mk ((by rw [hg]; exact (below_size (by repeat (first | (with_reducible first | exact HB.out | apply below_alloc | apply pw_below_drewN | apply below_drew1) | exact HB.out))) : w.heap.size ≤ gb101)); clear HB; have HB := n0_; have BK101 := n1_; have GW101 := n2_; have GE101 := n3_; clear n0_ n1_ n2_ n3_; clear hb hbox hg) | ((with_reducible refine gate_dst (N := 3) rfl ?_); refine box_event ?hg (N := 3) ?hd (cs := #[.int .i64 a1_0, .slice A1_1 l1_1.length c1_1, .slice A1_2 l1_2.length c1_2]) (t := 38) ?hr ?_; (case hd => rfl); (case hg => rfl); (case hr => first | (go_simp; done) | (go_simp; rfl)); intro gb102 hg w5 hbox hb; have n0_ := Aside0.mk (blk_below (g := gb101) (o := .cells #[.slice A0_0 l0_0.length c0_0, .int .i64 a0_1] 34 (0, 0)) (by (with_reducible repeat (first | refine blk_drewN ?_ _ | refine blk_drew ?_ | refine blk_alloc ?_ _)); exact BK101.out) hb); have n1_ := Aside0.mk (below_step (by repeat (first | (with_reducible first | exact HB.out | apply below_alloc | apply pw_below_drewN | apply below_drew1 | refine below_set ?_ GE101.out) | exact HB.out)) hb); have n2_ := Aside0.mk (hbox); have n3_ := Aside0.mk ((by rw [hg]; exact (below_size (by repeat (first | (with_reducible first | exact HB.out | apply below_alloc | apply pw_below_drewN | apply below_drew1 | refine below_set ?_ GE101.out) | exact HB.out))) : w.heap.size ≤ gb102)); have n4_ := Aside0.mk ((by rw [hg]; exact (below_size (by repeat (first | (with_reducible first | exact HB.out | apply below_alloc | apply pw_below_drewN | apply below_drew1 | refine below_set ?_ GE101.out) | exact HB.out))) : w.heap.size ≤ gb102)); have n5_ := Aside0.mk ((by rw [hg]; exact Nat.ne_of_lt (blk_lt (g := gb101) (o := .cells #[.slice A0_0 l0_0.length c0_0, .int .i64 a0_1] 34 (0, 0)) (by (with_reducible repeat (first | refine blk_drewN ?_ _ | refine blk_drew ?_ | refine blk_alloc ?_ _)); exact BK101.out)) : gb101 ≠ gb102)); have n6_ := Aside0.mk ((by rw [hg]; exact Nat.ne_of_gt (blk_lt (g := gb101) (o := .cells #[.slice A0_0 l0_0.length c0_0, .int .i64 a0_1] 34 (0, 0)) (by (with_reducible repeat (first | refine blk_drewN ?_ _ | refine blk_drew ?_ | refine blk_alloc ?_ _)); exact BK101.out)) : gb102 ≠ gb101)); clear BK101; clear HB; have BK101 := n0_; have HB := n1_; have BK102 := n2_; have GW102 := n3_; have GE102 := n4_; have NB101_102 := n5_; have NB102_101 := n6_; clear n0_ n1_ n2_ n3_ n4_ n5_ n6_; clear hb hbox hg))
 (try simp only [Act.put, List.setIfInBounds_toArray, List.set_cons_zero, List.set_cons_succ])
 go_cut [22] (fun v22 wc => ∃ (kq : Nat) (x22_2 : Bool), v22 = .bool x22_2 ∧ Aside0 (impl_TxnOK.j0 kq x22_2 a1_0 l1_1 l1_2 = some r) ∧ Aside0 (kq ≤ k) ∧ Aside0 (wc.heap[gb101]? = some (.cells #[(.slice A0_0 l0_0.length c0_0), .int .i64 a0_1] 34 (0, 0))) ∧ Aside0 (wc.heap[gb102]? = some (.cells #[.int .i64 a1_0, (.slice A1_1 l1_1.length c1_1), (.slice A1_2 l1_2.length c1_2)] 38 (0, 0))) ∧ Aside0 (Below w.heap.size w wc))
 case first =>
  have H := HC3.out
  clear HC3
  replace H := Option.bind_eq_some_iff.mp H
  obtain ⟨t103, A60, H⟩ := H
  replace H : (if t103 = true then ((impl_Store_isHour.f l0_0 a0_1 a1_0).bind fun t104 => (if t104 = true then ((impl_arePuts.f l1_2).bind fun t105 => (impl_TxnOK.j0 k (!t105) a1_0 l1_1 l1_2)) else (impl_TxnOK.j0 k true a1_0 l1_1 l1_2))) else (impl_TxnOK.j0 k true a1_0 l1_1 l1_2)) = some r := H
  have A6 := Aside0.mk A60
  clear A60
  by_cases c7 : t103 = true
  ·subst c7
   have H1 : ((impl_Store_isHour.f l0_0 a0_1 a1_0).bind fun t104 => (if t104 = true then ((impl_arePuts.f l1_2).bind fun t105 => (impl_TxnOK.j0 k (!t105) a1_0 l1_1 l1_2)) else (impl_TxnOK.j0 k true a1_0 l1_1 l1_2))) = some r := by rw [if_pos rfl] at H; exact H
   clear H
   have H := H1
   clear H1
   replace H := Option.bind_eq_some_iff.mp H
   obtain ⟨t104, A80, H⟩ := H
   replace H : (if t104 = true then ((impl_arePuts.f l1_2).bind fun t105 => (impl_TxnOK.j0 k (!t105) a1_0 l1_1 l1_2)) else (impl_TxnOK.j0 k true a1_0 l1_1 l1_2)) = some r := H
   have A8 := Aside0.mk A80
   clear A80
   by_cases c9 : t104 = true
   ·subst c9
    have H1 : ((impl_arePuts.f l1_2).bind fun t105 => (impl_TxnOK.j0 k (!t105) a1_0 l1_1 l1_2)) = some r := by rw [if_pos rfl] at H; exact H
    clear H
    have H := H1
    clear H1
    replace H := Option.bind_eq_some_iff.mp H
    obtain ⟨t105, A100, H⟩ := H
    replace H : (impl_TxnOK.j0 k (!t105) a1_0 l1_1 l1_2) = some r := H
    have A10 := Aside0.mk A100
    clear A100
    have H' := Aside0.mk H
    clear H
    have hnb11 := NB101_102.out
    have hnc11 := NB102_101.out
    have hcz12_0 : w5.cell? ⟨gb101, 0, none⟩ = some (.slice A0_0 l0_0.length c0_0) := (blk_cell BK101.out 0).trans rfl
    have hcz12_1 : w5.cell? ⟨gb101, 1, none⟩ = some (.int .i64 a0_1) := (blk_cell BK101.out 1).trans rfl
    have hfz12_0 := blk_frozen BK101.out 0
    have hfz12_1 := blk_frozen BK101.out 1
    go_wp2_with (first | ((with_reducible refine gate_callee (f := 42) rfl ?_); refine goesL_ (some 8) rfl rfl Try.func42 (by kernel_rfl) rfl #[.agg #[.slice A0_0 l0_0.length c0_0, .int .i64 a0_1]] rfl (by (try simp only [List.map_toArray, List.map_cons, List.map_nil]); first | done | rfl | (simp only [List.length_drop, List.length_take]; rfl)) ?_; (with_reducible refine (impl_StoreOK.calls k _ _ l0_0 a0_1 true _ ?side1 ?side2 A6.out).mono ?_); (case side1 => repeat (first | exact (Kd.C_below HR0_0.out HB.out) | (with_reducible refine Kd.C_alloc ?_ _) | (with_reducible refine Kd.C_drewN ?_ _) | (with_reducible refine Kd.C_drew ?_))); (case side2 => exact HC0_0.out); rintro e w13 ⟨rfl, hb⟩; refine ⟨_, rfl, ?_⟩; have n0_ := Aside0.mk (blk_below (g := gb101) (o := .cells #[.slice A0_0 l0_0.length c0_0, .int .i64 a0_1] 34 (0, 0)) (by (with_reducible repeat (first | refine blk_drewN ?_ _ | refine blk_drew ?_ | refine blk_alloc ?_ _)); exact BK101.out) hb); have n1_ := Aside0.mk (blk_below (g := gb102) (o := .cells #[.int .i64 a1_0, .slice A1_1 l1_1.length c1_1, .slice A1_2 l1_2.length c1_2] 38 (0, 0)) (by (with_reducible repeat (first | refine blk_drewN ?_ _ | refine blk_drew ?_ | refine blk_alloc ?_ _)); exact BK102.out) hb); have n2_ := Aside0.mk (below_step (by repeat (first | (with_reducible first | exact HB.out | apply below_alloc | apply pw_below_drewN | apply below_drew1 | refine below_set ?_ GE101.out | refine below_set ?_ GE102.out) | exact HB.out)) hb); clear BK101; clear BK102; clear HB; have BK101 := n0_; have BK102 := n1_; have HB := n2_; clear n0_ n1_ n2_; (try clear hb); (try clear hb2); (try clear hk); (try clear hi); have hcz14_0 : w13.cell? ⟨gb101, 0, none⟩ = some (.slice A0_0 l0_0.length c0_0) := (blk_cell BK101.out 0).trans rfl; have hcz14_1 : w13.cell? ⟨gb101, 1, none⟩ = some (.int .i64 a0_1) := (blk_cell BK101.out 1).trans rfl; have hfz14_0 := blk_frozen BK101.out 0; have hfz14_1 := blk_frozen BK101.out 1; have hcz15_0 : w13.cell? ⟨gb102, 0, none⟩ = some (.int .i64 a1_0) := (blk_cell BK102.out 0).trans rfl; have hcz15_1 : w13.cell? ⟨gb102, 1, none⟩ = some (.slice A1_1 l1_1.length c1_1) := (blk_cell BK102.out 1).trans rfl; have hcz15_2 : w13.cell? ⟨gb102, 2, none⟩ = some (.slice A1_2 l1_2.length c1_2) := (blk_cell BK102.out 2).trans rfl; have hfz15_0 := blk_frozen BK102.out 0; have hfz15_1 := blk_frozen BK102.out 1; have hfz15_2 := blk_frozen BK102.out 2) | (go_at_call 43; (with_reducible refine (impl_Store_isHour.calls _ _ l0_0 a0_1 a1_0 true _ ?side1 ?side2 A8.out).mono ?_); (case side1 => repeat (first | exact (Kd.C_below HR0_0.out HB.out) | (with_reducible refine Kd.C_alloc ?_ _) | (with_reducible refine Kd.C_drewN ?_ _) | (with_reducible refine Kd.C_drew ?_))); (case side2 => exact HC0_0.out); rintro e w16 ⟨rfl, hb⟩; have n0_ := Aside0.mk (blk_below (g := gb101) (o := .cells #[.slice A0_0 l0_0.length c0_0, .int .i64 a0_1] 34 (0, 0)) (by (with_reducible repeat (first | refine blk_drewN ?_ _ | refine blk_drew ?_ | refine blk_alloc ?_ _)); exact BK101.out) hb); have n1_ := Aside0.mk (blk_below (g := gb102) (o := .cells #[.int .i64 a1_0, .slice A1_1 l1_1.length c1_1, .slice A1_2 l1_2.length c1_2] 38 (0, 0)) (by (with_reducible repeat (first | refine blk_drewN ?_ _ | refine blk_drew ?_ | refine blk_alloc ?_ _)); exact BK102.out) hb); have n2_ := Aside0.mk (below_step (by repeat (first | (with_reducible first | exact HB.out | apply below_alloc | apply pw_below_drewN | apply below_drew1 | refine below_set ?_ GE101.out | refine below_set ?_ GE102.out) | exact HB.out)) hb); clear BK101; clear BK102; clear HB; have BK101 := n0_; have BK102 := n1_; have HB := n2_; clear n0_ n1_ n2_; (try clear hb); (try clear hb2); (try clear hk); (try clear hi); have hcz17_0 : w16.cell? ⟨gb102, 0, none⟩ = some (.int .i64 a1_0) := (blk_cell BK102.out 0).trans rfl; have hcz17_1 : w16.cell? ⟨gb102, 1, none⟩ = some (.slice A1_1 l1_1.length c1_1) := (blk_cell BK102.out 1).trans rfl; have hcz17_2 : w16.cell? ⟨gb102, 2, none⟩ = some (.slice A1_2 l1_2.length c1_2) := (blk_cell BK102.out 2).trans rfl; have hfz17_0 := blk_frozen BK102.out 0; have hfz17_1 := blk_frozen BK102.out 1; have hfz17_2 := blk_frozen BK102.out 2) | (go_at_call 44; (with_reducible refine (impl_arePuts.calls _ _ l1_2 t105 _ ?side1 ?side2 A10.out).mono ?_); (case side1 => repeat (first | exact (Kd.C_below HR1_2.out HB.out) | (with_reducible refine Kd.C_alloc ?_ _) | (with_reducible refine Kd.C_drewN ?_ _) | (with_reducible refine Kd.C_drew ?_))); (case side2 => exact HC1_2.out); rintro e w18 ⟨rfl, hb⟩; have n0_ := Aside0.mk (blk_below (g := gb101) (o := .cells #[.slice A0_0 l0_0.length c0_0, .int .i64 a0_1] 34 (0, 0)) (by (with_reducible repeat (first | refine blk_drewN ?_ _ | refine blk_drew ?_ | refine blk_alloc ?_ _)); exact BK101.out) hb); have n1_ := Aside0.mk (blk_below (g := gb102) (o := .cells #[.int .i64 a1_0, .slice A1_1 l1_1.length c1_1, .slice A1_2 l1_2.length c1_2] 38 (0, 0)) (by (with_reducible repeat (first | refine blk_drewN ?_ _ | refine blk_drew ?_ | refine blk_alloc ?_ _)); exact BK102.out) hb); have n2_ := Aside0.mk (below_step (by repeat (first | (with_reducible first | exact HB.out | apply below_alloc | apply pw_below_drewN | apply below_drew1 | refine below_set ?_ GE101.out | refine below_set ?_ GE102.out) | exact HB.out)) hb); clear BK101; clear BK102; clear HB; have BK101 := n0_; have BK102 := n1_; have HB := n2_; clear n0_ n1_ n2_; (try clear hb); (try clear hb2); (try clear hk); (try clear hi)))
    go_meet
    case rel => exact ⟨_, (!t105), (by first | rfl | (simp; done) | (simp [*]; done)), H', ⟨by first | omega | exact Nat.le_refl _⟩, ⟨by (with_reducible repeat (first | refine blk_drewN ?_ _ | refine blk_drew ?_ | refine blk_alloc ?_ _)); exact BK101.out⟩, ⟨by (with_reducible repeat (first | refine blk_drewN ?_ _ | refine blk_drew ?_ | refine blk_alloc ?_ _)); exact BK102.out⟩, ⟨by repeat (first | (with_reducible first | exact HB.out | apply below_alloc | apply pw_below_drewN | apply below_drew1 | refine below_set ?_ GE101.out | refine below_set ?_ GE102.out) | exact HB.out)⟩⟩
   ·replace c9 := Bool.eq_false_iff.mpr c9
    subst c9
    have H1 : (impl_TxnOK.j0 k true a1_0 l1_1 l1_2) = some r := by rw [if_neg (show ¬ (false = true) by decide)] at H; exact H
    clear H
    have H := H1
    clear H1
    have H' := Aside0.mk H
    clear H
    have hnb19 := NB101_102.out
    have hnc19 := NB102_101.out
    have hcz20_0 : w5.cell? ⟨gb101, 0, none⟩ = some (.slice A0_0 l0_0.length c0_0) := (blk_cell BK101.out 0).trans rfl
    have hcz20_1 : w5.cell? ⟨gb101, 1, none⟩ = some (.int .i64 a0_1) := (blk_cell BK101.out 1).trans rfl
    have hfz20_0 := blk_frozen BK101.out 0
    have hfz20_1 := blk_frozen BK101.out 1
    go_wp2_with (first | ((with_reducible refine gate_callee (f := 42) rfl ?_); refine goesL_ (some 8) rfl rfl Try.func42 (by kernel_rfl) rfl #[.agg #[.slice A0_0 l0_0.length c0_0, .int .i64 a0_1]] rfl (by (try simp only [List.map_toArray, List.map_cons, List.map_nil]); first | done | rfl | (simp only [List.length_drop, List.length_take]; rfl)) ?_; (with_reducible refine (impl_StoreOK.calls k _ _ l0_0 a0_1 true _ ?side1 ?side2 A6.out).mono ?_); (case side1 => repeat (first | exact (Kd.C_below HR0_0.out HB.out) | (with_reducible refine Kd.C_alloc ?_ _) | (with_reducible refine Kd.C_drewN ?_ _) | (with_reducible refine Kd.C_drew ?_))); (case side2 => exact HC0_0.out); rintro e w21 ⟨rfl, hb⟩; refine ⟨_, rfl, ?_⟩; have n0_ := Aside0.mk (blk_below (g := gb101) (o := .cells #[.slice A0_0 l0_0.length c0_0, .int .i64 a0_1] 34 (0, 0)) (by (with_reducible repeat (first | refine blk_drewN ?_ _ | refine blk_drew ?_ | refine blk_alloc ?_ _)); exact BK101.out) hb); have n1_ := Aside0.mk (blk_below (g := gb102) (o := .cells #[.int .i64 a1_0, .slice A1_1 l1_1.length c1_1, .slice A1_2 l1_2.length c1_2] 38 (0, 0)) (by (with_reducible repeat (first | refine blk_drewN ?_ _ | refine blk_drew ?_ | refine blk_alloc ?_ _)); exact BK102.out) hb); have n2_ := Aside0.mk (below_step (by repeat (first | (with_reducible first | exact HB.out | apply below_alloc | apply pw_below_drewN | apply below_drew1 | refine below_set ?_ GE101.out | refine below_set ?_ GE102.out) | exact HB.out)) hb); clear BK101; clear BK102; clear HB; have BK101 := n0_; have BK102 := n1_; have HB := n2_; clear n0_ n1_ n2_; (try clear hb); (try clear hb2); (try clear hk); (try clear hi); have hcz22_0 : w21.cell? ⟨gb101, 0, none⟩ = some (.slice A0_0 l0_0.length c0_0) := (blk_cell BK101.out 0).trans rfl; have hcz22_1 : w21.cell? ⟨gb101, 1, none⟩ = some (.int .i64 a0_1) := (blk_cell BK101.out 1).trans rfl; have hfz22_0 := blk_frozen BK101.out 0; have hfz22_1 := blk_frozen BK101.out 1; have hcz23_0 : w21.cell? ⟨gb102, 0, none⟩ = some (.int .i64 a1_0) := (blk_cell BK102.out 0).trans rfl; have hcz23_1 : w21.cell? ⟨gb102, 1, none⟩ = some (.slice A1_1 l1_1.length c1_1) := (blk_cell BK102.out 1).trans rfl; have hcz23_2 : w21.cell? ⟨gb102, 2, none⟩ = some (.slice A1_2 l1_2.length c1_2) := (blk_cell BK102.out 2).trans rfl; have hfz23_0 := blk_frozen BK102.out 0; have hfz23_1 := blk_frozen BK102.out 1; have hfz23_2 := blk_frozen BK102.out 2) | (go_at_call 43; (with_reducible refine (impl_Store_isHour.calls _ _ l0_0 a0_1 a1_0 false _ ?side1 ?side2 A8.out).mono ?_); (case side1 => repeat (first | exact (Kd.C_below HR0_0.out HB.out) | (with_reducible refine Kd.C_alloc ?_ _) | (with_reducible refine Kd.C_drewN ?_ _) | (with_reducible refine Kd.C_drew ?_))); (case side2 => exact HC0_0.out); rintro e w24 ⟨rfl, hb⟩; have n0_ := Aside0.mk (blk_below (g := gb101) (o := .cells #[.slice A0_0 l0_0.length c0_0, .int .i64 a0_1] 34 (0, 0)) (by (with_reducible repeat (first | refine blk_drewN ?_ _ | refine blk_drew ?_ | refine blk_alloc ?_ _)); exact BK101.out) hb); have n1_ := Aside0.mk (blk_below (g := gb102) (o := .cells #[.int .i64 a1_0, .slice A1_1 l1_1.length c1_1, .slice A1_2 l1_2.length c1_2] 38 (0, 0)) (by (with_reducible repeat (first | refine blk_drewN ?_ _ | refine blk_drew ?_ | refine blk_alloc ?_ _)); exact BK102.out) hb); have n2_ := Aside0.mk (below_step (by repeat (first | (with_reducible first | exact HB.out | apply below_alloc | apply pw_below_drewN | apply below_drew1 | refine below_set ?_ GE101.out | refine below_set ?_ GE102.out) | exact HB.out)) hb); clear BK101; clear BK102; clear HB; have BK101 := n0_; have BK102 := n1_; have HB := n2_; clear n0_ n1_ n2_; (try clear hb); (try clear hb2); (try clear hk); (try clear hi)))
    go_meet
    case rel => exact ⟨_, (true), (by first | rfl | (simp; done) | (simp [*]; done)), H', ⟨by first | omega | exact Nat.le_refl _⟩, ⟨by (with_reducible repeat (first | refine blk_drewN ?_ _ | refine blk_drew ?_ | refine blk_alloc ?_ _)); exact BK101.out⟩, ⟨by (with_reducible repeat (first | refine blk_drewN ?_ _ | refine blk_drew ?_ | refine blk_alloc ?_ _)); exact BK102.out⟩, ⟨by repeat (first | (with_reducible first | exact HB.out | apply below_alloc | apply pw_below_drewN | apply below_drew1 | refine below_set ?_ GE101.out | refine below_set ?_ GE102.out) | exact HB.out)⟩⟩
  ·replace c7 := Bool.eq_false_iff.mpr c7
   subst c7
   have H1 : (impl_TxnOK.j0 k true a1_0 l1_1 l1_2) = some r := by rw [if_neg (show ¬ (false = true) by decide)] at H; exact H
   clear H
   have H := H1
   clear H1
   have H' := Aside0.mk H
   clear H
   have hnb25 := NB101_102.out
   have hnc25 := NB102_101.out
   have hcz26_0 : w5.cell? ⟨gb101, 0, none⟩ = some (.slice A0_0 l0_0.length c0_0) := (blk_cell BK101.out 0).trans rfl
   have hcz26_1 : w5.cell? ⟨gb101, 1, none⟩ = some (.int .i64 a0_1) := (blk_cell BK101.out 1).trans rfl
   have hfz26_0 := blk_frozen BK101.out 0
   have hfz26_1 := blk_frozen BK101.out 1
   go_wp2_with (first | ((with_reducible refine gate_callee (f := 42) rfl ?_); refine goesL_ (some 8) rfl rfl Try.func42 (by kernel_rfl) rfl #[.agg #[.slice A0_0 l0_0.length c0_0, .int .i64 a0_1]] rfl (by (try simp only [List.map_toArray, List.map_cons, List.map_nil]); first | done | rfl | (simp only [List.length_drop, List.length_take]; rfl)) ?_; (with_reducible refine (impl_StoreOK.calls k _ _ l0_0 a0_1 false _ ?side1 ?side2 A6.out).mono ?_); (case side1 => repeat (first | exact (Kd.C_below HR0_0.out HB.out) | (with_reducible refine Kd.C_alloc ?_ _) | (with_reducible refine Kd.C_drewN ?_ _) | (with_reducible refine Kd.C_drew ?_))); (case side2 => exact HC0_0.out); rintro e w27 ⟨rfl, hb⟩; refine ⟨_, rfl, ?_⟩; have n0_ := Aside0.mk (blk_below (g := gb101) (o := .cells #[.slice A0_0 l0_0.length c0_0, .int .i64 a0_1] 34 (0, 0)) (by (with_reducible repeat (first | refine blk_drewN ?_ _ | refine blk_drew ?_ | refine blk_alloc ?_ _)); exact BK101.out) hb); have n1_ := Aside0.mk (blk_below (g := gb102) (o := .cells #[.int .i64 a1_0, .slice A1_1 l1_1.length c1_1, .slice A1_2 l1_2.length c1_2] 38 (0, 0)) (by (with_reducible repeat (first | refine blk_drewN ?_ _ | refine blk_drew ?_ | refine blk_alloc ?_ _)); exact BK102.out) hb); have n2_ := Aside0.mk (below_step (by repeat (first | (with_reducible first | exact HB.out | apply below_alloc | apply pw_below_drewN | apply below_drew1 | refine below_set ?_ GE101.out | refine below_set ?_ GE102.out) | exact HB.out)) hb); clear BK101; clear BK102; clear HB; have BK101 := n0_; have BK102 := n1_; have HB := n2_; clear n0_ n1_ n2_; (try clear hb); (try clear hb2); (try clear hk); (try clear hi)))
   go_meet
   case rel => exact ⟨_, (true), (by first | rfl | (simp; done) | (simp [*]; done)), H', ⟨by first | omega | exact Nat.le_refl _⟩, ⟨by (with_reducible repeat (first | refine blk_drewN ?_ _ | refine blk_drew ?_ | refine blk_alloc ?_ _)); exact BK101.out⟩, ⟨by (with_reducible repeat (first | refine blk_drewN ?_ _ | refine blk_drew ?_ | refine blk_alloc ?_ _)); exact BK102.out⟩, ⟨by repeat (first | (with_reducible first | exact HB.out | apply below_alloc | apply pw_below_drewN | apply below_drew1 | refine below_set ?_ GE101.out | refine below_set ?_ GE102.out) | exact HB.out)⟩⟩
 case rest =>
  clear HC3
  try clear c1
  try clear c2
  try clear p2
  try clear c4
  try clear c7
  try clear c9
  try clear c11
  try clear c14
  try clear c19
  try clear c25
  try clear hcz12_0
  try clear hcz12_1
  try clear hcz14_0
  try clear hcz14_1
  try clear hcz15_0
  try clear hcz15_1
  try clear hcz15_2
  try clear hcz17_0
  try clear hcz17_1
  try clear hcz17_2
  try clear hcz20_0
  try clear hcz20_1
  try clear hcz22_0
  try clear hcz22_1
  try clear hcz23_0
  try clear hcz23_1
  try clear hcz23_2
  try clear hcz26_0
  try clear hcz26_1
  try clear hfz12_0
  try clear hfz12_1
  try clear hfz14_0
  try clear hfz14_1
  try clear hfz15_0
  try clear hfz15_1
  try clear hfz15_2
  try clear hfz17_0
  try clear hfz17_1
  try clear hfz17_2
  try clear hfz20_0
  try clear hfz20_1
  try clear hfz22_0
  try clear hfz22_1
  try clear hfz23_0
  try clear hfz23_1
  try clear hfz23_2
  try clear hfz26_0
  try clear hfz26_1
  obtain ⟨kq, x22_2, rfl, HA, HJ2, BK101, BK102, HB⟩ := hcut
  cases kq with
  | zero => exact absurd HA.out (by simp [impl_TxnOK.j0])
  | succ kj2 =>
   have H := HA.out
   clear HA
   simp only [impl_TxnOK.j0] at H
   by_cases c28 : x22_2 = true
   ·subst c28
    have H1 : (some false) = some r := by rw [if_pos rfl] at H; exact H
    clear H
    have H := H1
    clear H1
    obtain rfl := Option.some.inj H
    go_wp2
    go_ret
    exact ⟨by first | rfl | (simp [errW_none, errW_some] <;> rfl) | (simp [*, errW_none, errW_some] <;> rfl), by repeat (first | (with_reducible first | exact HB.out | apply below_alloc | apply pw_below_drewN | apply below_drew1 | refine below_set ?_ GE101.out | refine below_set ?_ GE102.out) | exact HB.out)⟩
   ·replace c28 := Bool.eq_false_iff.mpr c28
    subst c28
    have H1 : (impl_TxnOK.l0 kj2 l1_1 (l1_1.length : Int) 0 a1_0 l1_1 l1_2) = some r := by rw [if_neg (show ¬ (false = true) by decide)] at H; exact H
    clear H
    have H := H1
    clear H1
    have H' := Aside0.mk H
    clear H
    have hnb29 := NB102_101.out
    have hnc29 := NB101_102.out
    have hcz30_0 : wc.cell? ⟨gb102, 0, none⟩ = some (.int .i64 a1_0) := (blk_cell BK102.out 0).trans rfl
    have hcz30_1 : wc.cell? ⟨gb102, 1, none⟩ = some (.slice A1_1 l1_1.length c1_1) := (blk_cell BK102.out 1).trans rfl
    have hcz30_2 : wc.cell? ⟨gb102, 2, none⟩ = some (.slice A1_2 l1_2.length c1_2) := (blk_cell BK102.out 2).trans rfl
    have hfz30_0 := blk_frozen BK102.out 0
    have hfz30_1 := blk_frozen BK102.out 1
    have hfz30_2 := blk_frozen BK102.out 2
    go_wp2
    go_loopg [26] kj2 (fun kq v26 w' => ∃ (x26_2 : Int), v26 = .int .i64 x26_2 ∧ Aside0 (impl_TxnOK.l0 kq l1_1 (l1_1.length : Int) x26_2 a1_0 l1_1 l1_2 = some r) ∧ Aside0 (kq ≤ kj2) ∧ Aside0 (w'.heap[gb101]? = some (.cells #[(.slice A0_0 l0_0.length c0_0), .int .i64 a0_1] 34 (0, 0))) ∧ Aside0 (w'.heap[gb102]? = some (.cells #[.int .i64 a1_0, (.slice A1_1 l1_1.length c1_1), (.slice A1_2 l1_2.length c1_2)] 38 (0, 0))) ∧ Aside0 (Below w.heap.size w w'))
    case atStart => exact ⟨(0), (by first | rfl | (simp; done) | (simp [*]; done)), H', ⟨Nat.le_refl _⟩, ⟨by (with_reducible repeat (first | refine blk_drewN ?_ _ | refine blk_drew ?_ | refine blk_alloc ?_ _)); exact BK101.out⟩, ⟨by (with_reducible repeat (first | refine blk_drewN ?_ _ | refine blk_drew ?_ | refine blk_alloc ?_ _)); exact BK102.out⟩, ⟨by repeat (first | (with_reducible first | exact HB.out | apply below_alloc | apply pw_below_drewN | apply below_drew1 | refine below_set ?_ GE101.out | refine below_set ?_ GE102.out) | exact HB.out)⟩⟩
    case round =>
     clear H'
     try clear c1
     try clear c2
     try clear p2
     try clear c4
     try clear c7
     try clear c9
     try clear c11
     try clear c14
     try clear c19
     try clear c25
     try clear c28
     try clear c29
     try clear hcz12_0
     try clear hcz12_1
     try clear hcz14_0
     try clear hcz14_1
     try clear hcz15_0
     try clear hcz15_1
     try clear hcz15_2
     try clear hcz17_0
     try clear hcz17_1
     try clear hcz17_2
     try clear hcz20_0
     try clear hcz20_1
     try clear hcz22_0
     try clear hcz22_1
     try clear hcz23_0
     try clear hcz23_1
     try clear hcz23_2
     try clear hcz26_0
     try clear hcz26_1
     try clear hcz30_0
     try clear hcz30_1
     try clear hcz30_2
     try clear hfz12_0
     try clear hfz12_1
     try clear hfz14_0
     try clear hfz14_1
     try clear hfz15_0
     try clear hfz15_1
     try clear hfz15_2
     try clear hfz17_0
     try clear hfz17_1
     try clear hfz17_2
     try clear hfz20_0
     try clear hfz20_1
     try clear hfz22_0
     try clear hfz22_1
     try clear hfz23_0
     try clear hfz23_1
     try clear hfz23_2
     try clear hfz26_0
     try clear hfz26_1
     try clear hfz30_0
     try clear hfz30_1
     try clear hfz30_2
     try clear p2
     obtain ⟨x26_2, rfl, HA, HK2, BK101, BK102, HB⟩ := hrel
     cases gk with
     | zero => exact absurd HA.out (by simp [impl_TxnOK.l0])
     | succ k2 =>
      have H := HA.out
      clear HA
      simp only [impl_TxnOK.l0] at H
      by_cases c31 : x26_2 < (l1_1.length : Int)
      ·rw [if_pos c31] at H
       have c31b0 : decide (x26_2 < (l1_1.length : Int)) = true := decide_eq_true c31
       clear c31
       by_cases c32 : 0 ≤ x26_2
       ·rw [if_pos c32] at H
        have c32b0 : decide (0 ≤ x26_2) = true := decide_eq_true c32
        clear c32
        by_cases c33 : x26_2 < (l1_1.length : Int)
        ·rw [if_pos c33] at H
         have c33b0 : decide (x26_2 < (l1_1.length : Int)) = true := decide_eq_true c33
         clear c33
         replace H := Option.bind_eq_some_iff.mp H
         obtain ⟨t107, A340, H⟩ := H
         replace H : (if t107 = true then (if x26_2 ≤ (l1_1.length : Int) then ((slices_Contains_int_int.f k2 (l1_1.take (x26_2 : Int).toNat) (rd l1_1 x26_2)).bind fun t109 => (if t109 = true then (some false) else (impl_TxnOK.l0 k2 l1_1 (l1_1.length : Int) (wrap64 (x26_2 + 1)) a1_0 l1_1 l1_2))) else (none)) else (some false)) = some r := H
         have A34 := Aside0.mk A340
         clear A340
         by_cases c35 : t107 = true
         ·subst c35
          have H1 : (if x26_2 ≤ (l1_1.length : Int) then ((slices_Contains_int_int.f k2 (l1_1.take (x26_2 : Int).toNat) (rd l1_1 x26_2)).bind fun t109 => (if t109 = true then (some false) else (impl_TxnOK.l0 k2 l1_1 (l1_1.length : Int) (wrap64 (x26_2 + 1)) a1_0 l1_1 l1_2))) else (none)) = some r := by rw [if_pos rfl] at H; exact H
          clear H
          have H := H1
          clear H1
          have c36b0 := eq_true (of_decide_eq_true (by first | (with_reducible assumption) | assumption) : 0 ≤ x26_2)
          by_cases c37 : x26_2 ≤ (l1_1.length : Int)
          ·rw [if_pos c37] at H
           have c37b0 := eq_true c37
           have c37b1 : decide (x26_2 ≤ (l1_1.length : Int)) = true := decide_eq_true c37
           clear c37
           replace H := Option.bind_eq_some_iff.mp H
           obtain ⟨t109, A380, H⟩ := H
           replace H : (if t109 = true then (some false) else (impl_TxnOK.l0 k2 l1_1 (l1_1.length : Int) (wrap64 (x26_2 + 1)) a1_0 l1_1 l1_2)) = some r := H
           have A38 := Aside0.mk A380
           clear A380
           by_cases c39 : t109 = true
           ·subst c39
            have H1 : (some false) = some r := by rw [if_pos rfl] at H; exact H
            clear H
            have H := H1
            clear H1
            obtain rfl := Option.some.inj H
            have p106 : 0 ≤ (x26_2 : Int) := of_decide_eq_true (by first | (with_reducible assumption) | assumption)
            have q106 : x26_2 < (l1_1.length : Int) := of_decide_eq_true (by first | (with_reducible assumption) | assumption)
            obtain ⟨ad106, e106, hx106_0⟩ := Kd.at_int HR1_1.out x26_2 p106 q106
            cases e106
            replace hx106_0 := (HB.out.cell (World.block_lt_of_cell? w _ hx106_0)).trans hx106_0
            replace p106 := eq_true p106
            replace q106 := eq_true q106
            go_wp2_with (first | ((with_reducible refine gate_callee (f := 45) rfl ?_); refine goesL_ (some 32) rfl rfl Try.func45 (by kernel_rfl) rfl #[.int .i64 (rd l1_1 x26_2)] rfl (by (try simp only [List.map_toArray, List.map_cons, List.map_nil]); first | done | rfl | (simp only [List.length_drop, List.length_take]; rfl)) ?_; (with_reducible refine (impl_isKey.calls (rd l1_1 x26_2) true _ A34.out).mono ?_); rintro e w' ⟨rfl, ⟨nd, rfl⟩⟩; refine ⟨_, rfl, ?_⟩; have hnb40 := NB102_101.out; have hnc40 := NB101_102.out; have hcz41_0 : wr.cell? ⟨gb102, 0, none⟩ = some (.int .i64 a1_0) := (blk_cell BK102.out 0).trans rfl; have hcz41_1 : wr.cell? ⟨gb102, 1, none⟩ = some (.slice (some ad106) l1_1.length c1_1) := (blk_cell BK102.out 1).trans rfl; have hcz41_2 : wr.cell? ⟨gb102, 2, none⟩ = some (.slice A1_2 l1_2.length c1_2) := (blk_cell BK102.out 2).trans rfl; have hfz41_0 := blk_frozen BK102.out 0; have hfz41_1 := blk_frozen BK102.out 1; have hfz41_2 := blk_frozen BK102.out 2; obtain ⟨i042, hi042, _, hsz42, _⟩ := info_parts info3; obtain ⟨hcut42, hA42, hC42⟩ := print_take_of (P := Try.prog) (Value.int .i64) 0 25 3 .i64 Try.underlying25 hi042 hsz42 (some ad106) c1_1 l1_1 x26_2 (of_decide_eq_true (by first | (with_reducible assumption) | assumption)) (of_decide_eq_true (by first | (with_reducible assumption) | assumption)) HC1_1.out; have HR108 := Aside0.mk (Kd.C_of_reads (h1 := fun _ => rfl) (hA42 _ (Kd.reads_of_C HR1_1.out))); have HC108 := Aside0.mk hC42; clear hA42 hC42 hi042 hsz42) | (go_at_call 46; (try rw [show (x26_2 : Int).toNat = (l1_1.take (x26_2 : Int).toNat).length from (by have h_ : (x26_2 : Int) ≤ (l1_1.length : Int) := of_decide_eq_true (by first | (with_reducible assumption) | assumption); rw [List.length_take]; omega)]); (with_reducible refine (slices_Contains_int_int.calls k2 _ _ (l1_1.take (x26_2 : Int).toNat) (rd l1_1 x26_2) true _ ?side1 ?side2 A38.out).mono ?_); (case side1 => repeat (first | exact (Kd.C_below HR108.out (by repeat (first | (with_reducible first | exact HB.out | apply below_alloc | apply pw_below_drewN | apply below_drew1 | refine below_set ?_ GE101.out | refine below_set ?_ GE102.out) | exact HB.out))) | (with_reducible refine Kd.C_alloc ?_ _) | (with_reducible refine Kd.C_drewN ?_ _) | (with_reducible refine Kd.C_drew ?_))); (case side2 => exact HC108.out); rintro e w' ⟨rfl, ⟨nd, rfl⟩⟩))
            go_ret
            exact ⟨by first | rfl | (simp [errW_none, errW_some] <;> rfl) | (simp [*, errW_none, errW_some] <;> rfl), by repeat (first | (with_reducible first | exact HB.out | apply below_alloc | apply pw_below_drewN | apply below_drew1 | refine below_set ?_ GE101.out | refine below_set ?_ GE102.out) | exact HB.out)⟩
           ·replace c39 := Bool.eq_false_iff.mpr c39
            subst c39
            have H1 : (impl_TxnOK.l0 k2 l1_1 (l1_1.length : Int) (wrap64 (x26_2 + 1)) a1_0 l1_1 l1_2) = some r := by rw [if_neg (show ¬ (false = true) by decide)] at H; exact H
            clear H
            have H := H1
            clear H1
            have H' := Aside0.mk H
            clear H
            have p106 : 0 ≤ (x26_2 : Int) := of_decide_eq_true (by first | (with_reducible assumption) | assumption)
            have q106 : x26_2 < (l1_1.length : Int) := of_decide_eq_true (by first | (with_reducible assumption) | assumption)
            obtain ⟨ad106, e106, hx106_0⟩ := Kd.at_int HR1_1.out x26_2 p106 q106
            cases e106
            replace hx106_0 := (HB.out.cell (World.block_lt_of_cell? w _ hx106_0)).trans hx106_0
            replace p106 := eq_true p106
            replace q106 := eq_true q106
            go_wp2_with (first | ((with_reducible refine gate_callee (f := 45) rfl ?_); refine goesL_ (some 32) rfl rfl Try.func45 (by kernel_rfl) rfl #[.int .i64 (rd l1_1 x26_2)] rfl (by (try simp only [List.map_toArray, List.map_cons, List.map_nil]); first | done | rfl | (simp only [List.length_drop, List.length_take]; rfl)) ?_; (with_reducible refine (impl_isKey.calls (rd l1_1 x26_2) true _ A34.out).mono ?_); rintro e w' ⟨rfl, ⟨nd, rfl⟩⟩; refine ⟨_, rfl, ?_⟩; have hnb43 := NB102_101.out; have hnc43 := NB101_102.out; have hcz44_0 : wr.cell? ⟨gb102, 0, none⟩ = some (.int .i64 a1_0) := (blk_cell BK102.out 0).trans rfl; have hcz44_1 : wr.cell? ⟨gb102, 1, none⟩ = some (.slice (some ad106) l1_1.length c1_1) := (blk_cell BK102.out 1).trans rfl; have hcz44_2 : wr.cell? ⟨gb102, 2, none⟩ = some (.slice A1_2 l1_2.length c1_2) := (blk_cell BK102.out 2).trans rfl; have hfz44_0 := blk_frozen BK102.out 0; have hfz44_1 := blk_frozen BK102.out 1; have hfz44_2 := blk_frozen BK102.out 2; obtain ⟨i045, hi045, _, hsz45, _⟩ := info_parts info3; obtain ⟨hcut45, hA45, hC45⟩ := print_take_of (P := Try.prog) (Value.int .i64) 0 25 3 .i64 Try.underlying25 hi045 hsz45 (some ad106) c1_1 l1_1 x26_2 (of_decide_eq_true (by first | (with_reducible assumption) | assumption)) (of_decide_eq_true (by first | (with_reducible assumption) | assumption)) HC1_1.out; have HR108 := Aside0.mk (Kd.C_of_reads (h1 := fun _ => rfl) (hA45 _ (Kd.reads_of_C HR1_1.out))); have HC108 := Aside0.mk hC45; clear hA45 hC45 hi045 hsz45) | (go_at_call 46; (try rw [show (x26_2 : Int).toNat = (l1_1.take (x26_2 : Int).toNat).length from (by have h_ : (x26_2 : Int) ≤ (l1_1.length : Int) := of_decide_eq_true (by first | (with_reducible assumption) | assumption); rw [List.length_take]; omega)]); (with_reducible refine (slices_Contains_int_int.calls k2 _ _ (l1_1.take (x26_2 : Int).toNat) (rd l1_1 x26_2) false _ ?side1 ?side2 A38.out).mono ?_); (case side1 => repeat (first | exact (Kd.C_below HR108.out (by repeat (first | (with_reducible first | exact HB.out | apply below_alloc | apply pw_below_drewN | apply below_drew1 | refine below_set ?_ GE101.out | refine below_set ?_ GE102.out) | exact HB.out))) | (with_reducible refine Kd.C_alloc ?_ _) | (with_reducible refine Kd.C_drewN ?_ _) | (with_reducible refine Kd.C_drew ?_))); (case side2 => exact HC108.out); rintro e w' ⟨rfl, ⟨nd, rfl⟩⟩))
            go_roundg k2
            case measure => have := HJ2.out; have := HK2.out; omega
            case rel => exact ⟨(wrap64 (x26_2 + 1)), (by first | rfl | (simp; done) | (simp [*]; done)), H', ⟨by have := HJ2.out; have := HK2.out; omega⟩, ⟨by (with_reducible repeat (first | refine blk_drewN ?_ _ | refine blk_drew ?_ | refine blk_alloc ?_ _)); exact BK101.out⟩, ⟨by (with_reducible repeat (first | refine blk_drewN ?_ _ | refine blk_drew ?_ | refine blk_alloc ?_ _)); exact BK102.out⟩, ⟨by repeat (first | (with_reducible first | exact HB.out | apply below_alloc | apply pw_below_drewN | apply below_drew1 | refine below_set ?_ GE101.out | refine below_set ?_ GE102.out) | exact HB.out)⟩⟩
          ·rw [if_neg c37] at H
           exact absurd H (by simp)
         ·replace c35 := Bool.eq_false_iff.mpr c35
          subst c35
          have H1 : (some false) = some r := by rw [if_neg (show ¬ (false = true) by decide)] at H; exact H
          clear H
          have H := H1
          clear H1
          obtain rfl := Option.some.inj H
          have p106 : 0 ≤ (x26_2 : Int) := of_decide_eq_true (by first | (with_reducible assumption) | assumption)
          have q106 : x26_2 < (l1_1.length : Int) := of_decide_eq_true (by first | (with_reducible assumption) | assumption)
          obtain ⟨ad106, e106, hx106_0⟩ := Kd.at_int HR1_1.out x26_2 p106 q106
          cases e106
          replace hx106_0 := (HB.out.cell (World.block_lt_of_cell? w _ hx106_0)).trans hx106_0
          replace p106 := eq_true p106
          replace q106 := eq_true q106
          go_wp2_with (first | ((with_reducible refine gate_callee (f := 45) rfl ?_); refine goesL_ (some 32) rfl rfl Try.func45 (by kernel_rfl) rfl #[.int .i64 (rd l1_1 x26_2)] rfl (by (try simp only [List.map_toArray, List.map_cons, List.map_nil]); first | done | rfl | (simp only [List.length_drop, List.length_take]; rfl)) ?_; (with_reducible refine (impl_isKey.calls (rd l1_1 x26_2) false _ A34.out).mono ?_); rintro e w' ⟨rfl, ⟨nd, rfl⟩⟩; refine ⟨_, rfl, ?_⟩))
          go_ret
          exact ⟨by first | rfl | (simp [errW_none, errW_some] <;> rfl) | (simp [*, errW_none, errW_some] <;> rfl), by repeat (first | (with_reducible first | exact HB.out | apply below_alloc | apply pw_below_drewN | apply below_drew1 | refine below_set ?_ GE101.out | refine below_set ?_ GE102.out) | exact HB.out)⟩
        ·rw [if_neg c33] at H
         exact absurd H (by simp)
       ·rw [if_neg c32] at H
        exact absurd H (by simp)
      ·rw [if_neg c31] at H
       have c31b0 : decide (x26_2 < (l1_1.length : Int)) = false := decide_eq_false c31
       clear c31
       obtain rfl := Option.some.inj H
       go_wp2
       go_ret
       exact ⟨by first | rfl | (simp [errW_none, errW_some] <;> rfl) | (simp [*, errW_none, errW_some] <;> rfl), by repeat (first | (with_reducible first | exact HB.out | apply below_alloc | apply pw_below_drewN | apply below_drew1 | refine below_set ?_ GE101.out | refine below_set ?_ GE102.out) | exact HB.out)⟩

end Go.Proofs.Ytjgaenojojfidaa.Q
namespace Go.Proofs.Ytjgaenojojfidaa.Q
open Go.RowKit Go.Proofs.YtjgaenojojfidaaW.PrintWords Go.Proofs.YtjgaenojojfidaaW.PrintLast Go.Proofs.YtjgaenojojfidaaW.PrintMore
attribute [local go_sem] max2_int min2_int max_two min_two max_three min_three max_four min_four   -- for this text's walks alone
set_option linter.unusedVariables false
set_option linter.unusedSimpArgs false

/-! ### slices_IndexFunc_int_int: function 99 -/
/-- The first place at which p holds, or -1. -/
def slices_IndexFunc_int_int.fp (p : Int → Bool) (l0 : List Int) : Int := match l0.findIdx? p with | some i => (i : Int) | none => -1
theorem slices_IndexFunc_int_int.hit (p : Int → Bool) (l0 : List Int) (kk : Nat) (x : Int) (hx : l0[kk]? = some x) (hp : p x = true) (hno : ∀ j, j < kk → ∀ x, l0[j]? = some x → p x = false) : slices_IndexFunc_int_int.fp p l0 = kk := by
 unfold slices_IndexFunc_int_int.fp
 have h : l0.findIdx? p = some kk := by
  rw [List.findIdx?_eq_some_iff_getElem]
  obtain ⟨hl, he⟩ := List.getElem?_eq_some_iff.1 hx
  exact ⟨hl, by rw [he]; exact hp, fun j hj => by rw [hno j hj _ (List.getElem?_eq_getElem (Nat.lt_trans hj hl))]; simp⟩
 rw [h]
theorem slices_IndexFunc_int_int.miss (p : Int → Bool) (l0 : List Int) (hno : ∀ j, j < l0.length → ∀ x, l0[j]? = some x → p x = false) : slices_IndexFunc_int_int.fp p l0 = -1 := by
 unfold slices_IndexFunc_int_int.fp
 have h : l0.findIdx? p = none := by
  rw [List.findIdx?_eq_none_iff]
  intro x hx
  obtain ⟨j, hj⟩ := List.getElem?_of_mem hx
  exact hno j (List.getElem?_eq_some_iff.1 hj).1 x hj
 rw [h]
set_option maxHeartbeats 4000000 in
set_option maxRecDepth 100000 in
theorem slices_IndexFunc_int_int.callsP (A0 : Option Addr) (c0 : Nat) (l0 : List Int) (g : Nat) (cb : Array Value) (p : Int → Bool) (w : World) (eg : ∀ args w, (callFunc g args).run Try.prog w = .ok (.enter g args) w) (hr0 : Kd.C (Kd.int .i64) w A0 l0.length l0)
  (hp : ∀ (W : World) (x : Int), x ∈ l0 → Below w.heap.size w W → Calls Try.prog g (#[.int .i64 x] ++ cb) W fun e w' => e = .returned (.bool (p x)) ∧ Below w.heap.size w w') :
  Calls Try.prog 99 #[.slice A0 l0.length c0, .func (.func g) #[] cb] w fun e w' => e = .returned (.int .i64 (slices_IndexFunc_int_int.fp p l0)) ∧ Below w.heap.size w w' := by
 have hlen := hr0.2.1
 have HR := Aside0.mk hr0
 have HP := Aside0.mk hp
 clear hr0 hp
 have isagg := Try.isAgg3
 go_enter Try.func99, Try.ntmps99
 go_wp2
 go_loopg [5, 8] l0.length (fun gg _ s8 wr => ∃ kk : Nat, kk ≤ l0.length ∧ l0.length - kk ≤ gg ∧ s8 = .int .i64 kk ∧ Aside0 (Below w.heap.size w wr) ∧ Aside0 (∀ j, j < kk → ∀ x, l0[j]? = some x → p x = false))
 case atStart => exact ⟨0, Nat.zero_le _, by omega, rfl, ⟨Below.refl _ w⟩, ⟨fun j hj => absurd hj (Nat.not_lt_zero _)⟩⟩
 case round =>
  obtain ⟨kk, hkk, hg, rfl, BW, No⟩ := hrel
  by_cases hlt : kk < l0.length
  ·have hltz : (kk : Int) < (l0.length : Int) := by omega
   obtain ⟨ad, e, hx0⟩ := Kd.at_int HR.out (kk : Int) (by omega) hltz
   cases e
   replace hx0 := (BW.out.cell (World.block_lt_of_cell? w _ hx0)).trans hx0
   simp only [Int.toNat_natCast] at hx0
   have hx : l0[kk]? = some (rd l0 (kk : Int)) := by
    rw [List.getElem?_eq_getElem hlt]
    show some l0[kk] = some (l0.getD (kk : Int).toNat _)
    rw [Int.toNat_natCast, List.getD_eq_getElem?_getD, List.getElem?_eq_getElem hlt]
    rfl
   have hcall := HP.out wr (rd l0 (kk : Int)) (List.mem_of_getElem? hx) BW.out
   have HX := Aside0.mk hx
   clear hx
   generalize rd l0 (kk : Int) = x at hcall HX hx0
   cases hq : p x with
   | true =>
    have HQ := Aside0.mk hq
    rw [hq] at hcall
    clear hq
    go_wp2_with (go_at_fn g; refine hcall.mono ?_; rintro e w' ⟨rfl, hb'⟩)
    go_ret
    exact ⟨by rw [slices_IndexFunc_int_int.hit p l0 kk x HX.out HQ.out No.out]; rfl, hb'⟩
   | false =>
    have HQ := Aside0.mk hq
    rw [hq] at hcall
    clear hq
    go_wp2_with (go_at_fn g; refine hcall.mono ?_; rintro e w' ⟨rfl, hb'⟩)
    go_roundg (l0.length - (kk + 1))
    case measure => omega
    case rel =>
     refine ⟨kk + 1, by omega, by omega, by go_num, ⟨hb'⟩, ⟨fun j hj x' hx' => ?_⟩⟩
     by_cases e : j = kk
     ·subst e
      rw [HX.out] at hx'
      obtain rfl := Option.some.inj hx'
      exact HQ.out
     ·exact No.out j (by omega) x' hx'
  ·have hltz : ¬ (kk : Int) < (l0.length : Int) := by omega
   have hk : kk = l0.length := by omega
   have HK := Aside0.mk hk
   clear hk
   go_wp2
   go_ret
   exact ⟨by rw [slices_IndexFunc_int_int.miss p l0 (fun j hj => No.out j (by rw [HK.out]; exact hj))]; rfl, BW.out⟩

end Go.Proofs.Ytjgaenojojfidaa.Q
namespace Go.Proofs.Ytjgaenojojfidaa.Q
open Go.RowKit Go.Proofs.YtjgaenojojfidaaW.PrintWords Go.Proofs.YtjgaenojojfidaaW.PrintLast Go.Proofs.YtjgaenojojfidaaW.PrintMore
attribute [local go_sem] max2_int min2_int max_two min_two max_three min_three max_four min_four   -- for this text's walks alone
set_option linter.unusedVariables false
set_option linter.unusedSimpArgs false

/-! ### slices_ContainsFunc_int_int: function 82 -/
set_option maxHeartbeats 4000000 in
set_option maxRecDepth 100000 in
theorem slices_ContainsFunc_int_int.callsP (A0 : Option Addr) (c0 : Nat) (l0 : List Int) (g : Nat) (cb : Array Value) (p : Int → Bool) (w : World) (eg : ∀ args w, (callFunc g args).run Try.prog w = .ok (.enter g args) w) (hr0 : Kd.C (Kd.int .i64) w A0 l0.length l0)
  (hp : ∀ (W : World) (x : Int), x ∈ l0 → Below w.heap.size w W → Calls Try.prog g (#[.int .i64 x] ++ cb) W fun e w' => e = .returned (.bool (p x)) ∧ Below w.heap.size w w') :
  Calls Try.prog 82 #[.slice A0 l0.length c0, .func (.func g) #[] cb] w fun e w' => e = .returned (.bool (l0.any p)) ∧ Below w.heap.size w w' := by
 have hc := slices_IndexFunc_int_int.callsP A0 c0 l0 g cb p w eg hr0 hp
 have hany : decide (0 ≤ slices_IndexFunc_int_int.fp p l0) = l0.any p := by
  unfold slices_IndexFunc_int_int.fp
  cases hf : l0.findIdx? p with
  | none =>
   have h := List.findIdx?_eq_none_iff.1 hf
   have h2 : l0.any p = false := by
    rw [List.any_eq_false]
    intro x hx
    rw [h x hx]
    simp
   rw [h2]
   rfl
  | some i =>
   obtain ⟨hl, hi, _⟩ := List.findIdx?_eq_some_iff_getElem.1 hf
   have h2 : l0.any p = true := List.any_eq_true.2 ⟨l0[i], List.getElem_mem hl, hi⟩
   rw [h2]
   simp
 have HA := Aside0.mk hany
 clear hany hp
 generalize slices_IndexFunc_int_int.fp p l0 = q at hc HA
 go_enter Try.func82, Try.ntmps82
 go_wp2_with (go_at_call 99; refine hc.mono ?_; rintro e w' ⟨rfl, hb'⟩)
 go_ret
 exact ⟨by rw [← HA.out]; rfl, hb'⟩

end Go.Proofs.Ytjgaenojojfidaa.Q
namespace Go.Proofs.Ytjgaenojojfidaa.Q
open Go.RowKit Go.Proofs.YtjgaenojojfidaaW.PrintWords Go.Proofs.YtjgaenojojfidaaW.PrintLast Go.Proofs.YtjgaenojojfidaaW.PrintMore
attribute [local go_sem] max2_int min2_int max_two min_two max_three min_three max_four min_four   -- for this text's walks alone
set_option linter.unusedVariables false
set_option linter.unusedSimpArgs false

/-! ### impl_Store_changedSince: function 84 -/
def impl_Store_changedSince.f (l0_0 : List (List (S94))) (a0_1 : Int) (a1 : Int) (a2 : Int) : Option (Bool) := if 0 ≤ a1 then (if a1 < (l0_0.length : Int) then (if ((rd_L5 l0_0 a1).length : Int) > 0 then (if 0 ≤ (wrap64 (((rd_L5 l0_0 a1).length : Int) - 1)) then (if (wrap64 (((rd_L5 l0_0 a1).length : Int) - 1)) < ((rd_L5 l0_0 a1).length : Int) then (some (decide (((rd_T94 (rd_L5 l0_0 a1) (wrap64 (((rd_L5 l0_0 a1).length : Int) - 1))).f0) > a2))) else (none)) else (none)) else (some false)) else (none)) else (none)
set_option maxHeartbeats 8000000 in
set_option maxRecDepth 100000 in
theorem impl_Store_changedSince.calls (A0_0 : Option Addr) (c0_0 : Nat) (l0_0 : List (List (S94))) (a0_1 : Int) (a1 : Int) (a2 : Int) (r : Bool) (w : World) (hr0_0 : Kd.C (Kd.slice 94 k94) w A0_0 l0_0.length l0_0) (hc0_0 : l0_0.length ≤ c0_0) (h : impl_Store_changedSince.f l0_0 a0_1 a1 a2 = some r) :
  Calls Try.prog 84 #[.agg #[.slice A0_0 l0_0.length c0_0, .int .i64 a0_1], .int .i64 a1, .int .i64 a2] w fun e w' => e = .returned (.bool r) ∧ Below w.heap.size w w' := by
 have hu34 := Try.underlying34
 have HR0_0 := Aside0.mk hr0_0
 have HC0_0 := Aside0.mk hc0_0
 clear hr0_0 hc0_0
 have HB := Aside0.mk (Below.refl w.heap.size w)
 have H : (if 0 ≤ a1 then (if a1 < (l0_0.length : Int) then (if ((rd_L5 l0_0 a1).length : Int) > 0 then (if 0 ≤ (wrap64 (((rd_L5 l0_0 a1).length : Int) - 1)) then (if (wrap64 (((rd_L5 l0_0 a1).length : Int) - 1)) < ((rd_L5 l0_0 a1).length : Int) then (some (decide (((rd_T94 (rd_L5 l0_0 a1) (wrap64 (((rd_L5 l0_0 a1).length : Int) - 1))).f0) > a2))) else (none)) else (none)) else (some false)) else (none)) else (none)) = some r := h
 clear h
 by_cases c4 : 0 ≤ a1
 ·rw [if_pos c4] at H
  have c4b0 : decide (0 ≤ a1) = true := decide_eq_true c4
  clear c4
  by_cases c5 : a1 < (l0_0.length : Int)
  ·rw [if_pos c5] at H
   have c5b0 : decide (a1 < (l0_0.length : Int)) = true := decide_eq_true c5
   clear c5
   by_cases c6 : ((rd_L5 l0_0 a1).length : Int) > 0
   ·rw [if_pos c6] at H
    have c6b0 : decide (0 < ((rd_L5 l0_0 a1).length : Int)) = true := decide_eq_true c6
    have c6b1 : decide (0 < (rd_L5 l0_0 a1).length) = true := decide_eq_true (by omega)
    clear c6
    obtain ⟨ji7, hji7⟩ : ∃ j_ : Int, (wrap64 (((rd_L5 l0_0 a1).length : Int) - 1)) = j_ := ⟨_, rfl⟩
    replace H : (if 0 ≤ (ji7) then (if (ji7) < ((rd_L5 l0_0 a1).length : Int) then (some (decide (((rd_T94 (rd_L5 l0_0 a1) (ji7)).f0) > a2))) else (none)) else (none)) = some r := by first | (rw [hji7] at H; exact H) | (simp only [hji7] at H ⊢; exact H)
    have hji7w : (IntKind.i64.wrap (((rd_L5 l0_0 a1).length : Int) - 1)) = ji7 := (i64_w _).trans hji7
    by_cases c8 : 0 ≤ (ji7)
    ·rw [if_pos c8] at H
     have c8b0 : decide (0 ≤ (ji7)) = true := decide_eq_true c8
     clear c8
     by_cases c9 : (ji7) < ((rd_L5 l0_0 a1).length : Int)
     ·rw [if_pos c9] at H
      have c9b0 : decide ((ji7) < ((rd_L5 l0_0 a1).length : Int)) = true := decide_eq_true c9
      clear c9
      obtain rfl := Option.some.inj H
      go_enter Try.func84, Try.ntmps84
      go_wp2_with (first | ((with_reducible refine gate_dst (N := 3) rfl ?_); (try (refine gate_guard (by rfl) ?_; dsimp only)); refine box_event ?hg (N := 3) ?hd (cs := #[.slice A0_0 l0_0.length c0_0, .int .i64 a0_1]) (t := 34) ?hr ?_; (case hd => rfl); (case hg => rfl); (case hr => first | (go_simp; done) | (go_simp; rfl)); intro gb101 hg w10 hbox hb; have n0_ := Aside0.mk (below_step (by repeat (first | (with_reducible first | exact HB.out | apply below_alloc | apply pw_below_drewN | apply below_drew1) | exact HB.out)) hb); have n1_ := Aside0.mk (hbox); have n2_ := Aside0.mk ((by rw [hg]; exact (below_size (by repeat (first | (with_reducible first | exact HB.out | apply below_alloc | apply pw_below_drewN | apply below_drew1) | exact HB.out))) : w.heap.size ≤ gb101)); have n3_ := Aside0.mk ((by rw [hg]; exact (below_size (by repeat (first | (with_reducible first | exact HB.out | apply below_alloc | apply pw_below_drewN | apply below_drew1) | exact HB.out))) : w.heap.size ≤ gb101)); clear HB; have HB := n0_; have BK101 := n1_; have GW101 := n2_; have GE101 := n3_; clear n0_ n1_ n2_ n3_; clear hb hbox hg; have hcz11_0 : w10.cell? ⟨gb101, 0, none⟩ = some (.slice A0_0 l0_0.length c0_0) := (blk_cell BK101.out 0).trans rfl; have hcz11_1 : w10.cell? ⟨gb101, 1, none⟩ = some (.int .i64 a0_1) := (blk_cell BK101.out 1).trans rfl; have hfz11_0 := blk_frozen BK101.out 0; have hfz11_1 := blk_frozen BK101.out 1; have p102 : 0 ≤ (a1 : Int) := of_decide_eq_true (by first | (with_reducible assumption) | assumption); have q102 : a1 < (l0_0.length : Int) := of_decide_eq_true (by first | (with_reducible assumption) | assumption); obtain ⟨ad102, A102_0, c102_0, e102, hx102_0, hl102_0, hi102_0⟩ := at_L5 HR0_0.out a1 p102 q102; cases e102; replace hx102_0 := (HB.out.cell (World.block_lt_of_cell? w _ hx102_0)).trans hx102_0; have HR102_0 := Aside0.mk hi102_0; have HC102_0 := Aside0.mk hl102_0; clear hi102_0 hl102_0; replace p102 := eq_true p102; replace q102 := eq_true q102; have p103 : 0 ≤ ((ji7) : Int) := of_decide_eq_true (by first | (with_reducible assumption) | assumption); have q103 : (ji7) < ((rd_L5 l0_0 a1).length : Int) := of_decide_eq_true (by first | (with_reducible assumption) | assumption); obtain ⟨ad103, e103, hx103_0, hx103_1⟩ := at_T94 HR102_0.out (ji7) p103 q103; cases e103; replace hx103_0 := (HB.out.cell (World.block_lt_of_cell? w _ hx103_0)).trans hx103_0; replace hx103_1 := (HB.out.cell (World.block_lt_of_cell? w _ hx103_1)).trans hx103_1; replace p103 := eq_true p103; replace q103 := eq_true q103))
      go_ret
      exact ⟨by first | rfl | (simp [errW_none, errW_some] <;> rfl) | (simp only [← hji7]; first | rfl | (simp [errW_none, errW_some] <;> rfl)) | (simp [*, errW_none, errW_some] <;> rfl), by repeat (first | (with_reducible first | exact HB.out | apply below_alloc | apply pw_below_drewN | apply below_drew1 | refine below_set ?_ GE101.out) | exact HB.out)⟩
     ·rw [if_neg c9] at H
      exact absurd H (by simp)
    ·rw [if_neg c8] at H
     exact absurd H (by simp)
   ·rw [if_neg c6] at H
    have c6b0 : decide (0 < ((rd_L5 l0_0 a1).length : Int)) = false := decide_eq_false c6
    have c6b1 : decide (0 < (rd_L5 l0_0 a1).length) = false := decide_eq_false (by omega)
    clear c6
    obtain rfl := Option.some.inj H
    go_enter Try.func84, Try.ntmps84
    go_wp2_with (first | ((with_reducible refine gate_dst (N := 3) rfl ?_); (try (refine gate_guard (by rfl) ?_; dsimp only)); refine box_event ?hg (N := 3) ?hd (cs := #[.slice A0_0 l0_0.length c0_0, .int .i64 a0_1]) (t := 34) ?hr ?_; (case hd => rfl); (case hg => rfl); (case hr => first | (go_simp; done) | (go_simp; rfl)); intro gb101 hg w12 hbox hb; have n0_ := Aside0.mk (below_step (by repeat (first | (with_reducible first | exact HB.out | apply below_alloc | apply pw_below_drewN | apply below_drew1) | exact HB.out)) hb); have n1_ := Aside0.mk (hbox); have n2_ := Aside0.mk ((by rw [hg]; exact (below_size (by repeat (first | (with_reducible first | exact HB.out | apply below_alloc | apply pw_below_drewN | apply below_drew1) | exact HB.out))) : w.heap.size ≤ gb101)); have n3_ := Aside0.mk ((by rw [hg]; exact (below_size (by repeat (first | (with_reducible first | exact HB.out | apply below_alloc | apply pw_below_drewN | apply below_drew1) | exact HB.out))) : w.heap.size ≤ gb101)); clear HB; have HB := n0_; have BK101 := n1_; have GW101 := n2_; have GE101 := n3_; clear n0_ n1_ n2_ n3_; clear hb hbox hg; have hcz13_0 : w12.cell? ⟨gb101, 0, none⟩ = some (.slice A0_0 l0_0.length c0_0) := (blk_cell BK101.out 0).trans rfl; have hcz13_1 : w12.cell? ⟨gb101, 1, none⟩ = some (.int .i64 a0_1) := (blk_cell BK101.out 1).trans rfl; have hfz13_0 := blk_frozen BK101.out 0; have hfz13_1 := blk_frozen BK101.out 1; have p102 : 0 ≤ (a1 : Int) := of_decide_eq_true (by first | (with_reducible assumption) | assumption); have q102 : a1 < (l0_0.length : Int) := of_decide_eq_true (by first | (with_reducible assumption) | assumption); obtain ⟨ad102, A102_0, c102_0, e102, hx102_0, hl102_0, hi102_0⟩ := at_L5 HR0_0.out a1 p102 q102; cases e102; replace hx102_0 := (HB.out.cell (World.block_lt_of_cell? w _ hx102_0)).trans hx102_0; have HR102_0 := Aside0.mk hi102_0; have HC102_0 := Aside0.mk hl102_0; clear hi102_0 hl102_0; replace p102 := eq_true p102; replace q102 := eq_true q102))
    go_ret
    exact ⟨by first | rfl | (simp [errW_none, errW_some] <;> rfl) | (simp [*, errW_none, errW_some] <;> rfl), by repeat (first | (with_reducible first | exact HB.out | apply below_alloc | apply pw_below_drewN | apply below_drew1 | refine below_set ?_ GE101.out) | exact HB.out)⟩
  ·rw [if_neg c5] at H
   exact absurd H (by simp)
 ·rw [if_neg c4] at H
  exact absurd H (by simp)

end Go.Proofs.Ytjgaenojojfidaa.Q
namespace Go.Proofs.Ytjgaenojojfidaa.Q
open Go.RowKit Go.Proofs.YtjgaenojojfidaaW.PrintWords Go.Proofs.YtjgaenojojfidaaW.PrintLast Go.Proofs.YtjgaenojojfidaaW.PrintMore
attribute [local go_sem] max2_int min2_int max_two min_two max_three min_three max_four min_four   -- for this text's walks alone
set_option linter.unusedVariables false
set_option linter.unusedSimpArgs false

/-! ### impl_Store_conflicts_1: function 83 -/
set_option maxHeartbeats 4000000 in
set_option maxRecDepth 100000 in
theorem impl_Store_conflicts_1.callsQ (A0_0 : Option Addr) (c0_0 : Nat) (l0_0 : List (List (S94))) (a0_1 : Int) (a1_0 : Int) (A1_1 : Option Addr) (c1_1 : Nat) (l1_1 : List Int) (A1_2 : Option Addr) (c1_2 : Nat) (l1_2 : List (S49)) (x : Int) (gs gt : Nat) (b : Bool) (w : World) (hr0_0 : Kd.C (Kd.slice 94 k94) w A0_0 l0_0.length l0_0) (hc0_0 : l0_0.length ≤ c0_0)
  (hs : w.heap[gs]? = some (.cells #[.slice A0_0 l0_0.length c0_0, .int .i64 a0_1] 34 (0, 0))) (ht : w.heap[gt]? = some (.cells #[.int .i64 a1_0, .slice A1_1 l1_1.length c1_1, .slice A1_2 l1_2.length c1_2] 38 (0, 0)))
  (h : impl_Store_changedSince.f l0_0 a0_1 x a1_0 = some b) :
  Calls Try.prog 83 #[.int .i64 x, .pointer (some ⟨gs, 0, none⟩), .pointer (some ⟨gt, 0, none⟩)] w fun e w' => e = .returned (.bool b) ∧ Below w.heap.size w w' := by
 have hu1 := Try.underlying34
 have hu2 := Try.underlying38
 have hcs0 : w.cell? ⟨gs, 0, none⟩ = some (.slice A0_0 l0_0.length c0_0) := (blk_cell hs 0).trans rfl
 have hcs1 : w.cell? ⟨gs, 1, none⟩ = some (.int .i64 a0_1) := (blk_cell hs 1).trans rfl
 have hct0 : w.cell? ⟨gt, 0, none⟩ = some (.int .i64 a1_0) := (blk_cell ht 0).trans rfl
 have hc := Aside0.mk (impl_Store_changedSince.calls A0_0 c0_0 l0_0 a0_1 x a1_0 b w hr0_0 hc0_0 h)
 clear h hr0_0 hc0_0 hs ht
 go_enter Try.func83, Try.ntmps83
 go_wp2_with (go_at_call 84; refine hc.out.mono ?_; rintro e w' ⟨rfl, hb⟩)
 go_ret
 exact ⟨rfl, hb⟩

end Go.Proofs.Ytjgaenojojfidaa.Q
namespace Go.Proofs.Ytjgaenojojfidaa.Q
open Go.RowKit Go.Proofs.YtjgaenojojfidaaW.PrintWords Go.Proofs.YtjgaenojojfidaaW.PrintLast Go.Proofs.YtjgaenojojfidaaW.PrintMore
attribute [local go_sem] max2_int min2_int max_two min_two max_three min_three max_four min_four   -- for this text's walks alone
set_option linter.unusedVariables false
set_option linter.unusedSimpArgs false

/-! ### impl_Store_conflicts: function 50 -/
def impl_Store_conflicts.p (l0_0 : List (List (S94))) (a0_1 : Int) (a1_0 : Int) (x : Int) : Bool := match impl_Store_changedSince.f l0_0 a0_1 x a1_0 with | some b => b | none => false
def impl_Store_conflicts.f (l0_0 : List (List (S94))) (a0_1 : Int) (a1_0 : Int) (l1_1 : List Int) (l1_2 : List (S49)) : Option Bool :=
 if (l1_2.length : Int) > 0 then (if (l1_1.all fun x => (impl_Store_changedSince.f l0_0 a0_1 x a1_0).isSome) = true then some (l1_1.any (impl_Store_conflicts.p l0_0 a0_1 a1_0)) else none) else some false
theorem impl_Store_conflicts.pe {l0_0 : List (List (S94))} {a0_1 a1_0 : Int} {l1_1 : List Int} (h : (l1_1.all fun x => (impl_Store_changedSince.f l0_0 a0_1 x a1_0).isSome) = true) (x : Int) (hx : x ∈ l1_1) : impl_Store_changedSince.f l0_0 a0_1 x a1_0 = some (impl_Store_conflicts.p l0_0 a0_1 a1_0 x) := by
 obtain ⟨b, hb⟩ := Option.isSome_iff_exists.1 (List.all_eq_true.1 h x hx)
 unfold impl_Store_conflicts.p
 rw [hb]
set_option maxHeartbeats 4000000 in
set_option maxRecDepth 100000 in
theorem impl_Store_conflicts.calls (A0_0 : Option Addr) (c0_0 : Nat) (l0_0 : List (List (S94))) (a0_1 : Int) (a1_0 : Int) (A1_1 : Option Addr) (c1_1 : Nat) (l1_1 : List Int) (A1_2 : Option Addr) (c1_2 : Nat) (l1_2 : List (S49)) (r : Bool) (w : World) (hr0_0 : Kd.C (Kd.slice 94 k94) w A0_0 l0_0.length l0_0) (hc0_0 : l0_0.length ≤ c0_0) (hr1_1 : Kd.C (Kd.int .i64) w A1_1 l1_1.length l1_1) (hc1_1 : l1_1.length ≤ c1_1) (hr1_2 : Kd.C k49 w A1_2 l1_2.length l1_2) (hc1_2 : l1_2.length ≤ c1_2) (h : impl_Store_conflicts.f l0_0 a0_1 a1_0 l1_1 l1_2 = some r) :
  Calls Try.prog 50 #[.agg #[.slice A0_0 l0_0.length c0_0, .int .i64 a0_1], .agg #[.int .i64 a1_0, .slice A1_1 l1_1.length c1_1, .slice A1_2 l1_2.length c1_2]] w fun e w' => e = .returned (.bool r) ∧ Below w.heap.size w w' := by
 have hu1 := Try.underlying34
 have hu2 := Try.underlying38
 have eg : ∀ args w, (callFunc 83 args).run Try.prog w = .ok (.enter 83 args) w := enters_of Try.func83 (by kernel_rfl) rfl
 unfold impl_Store_conflicts.f at h
 have HR0 := Aside0.mk hr0_0
 have HR1 := Aside0.mk hr1_1
 clear hr0_0 hr1_1 hr1_2 hc1_1 hc1_2
 by_cases hp : (l1_2.length : Int) > 0
 ·rw [if_pos hp] at h
  have hd : decide (0 < (l1_2.length : Int)) = true := decide_eq_true hp
  have hd2 : decide (0 < l1_2.length) = true := decide_eq_true (by omega)
  clear hp
  by_cases ha : (l1_1.all fun x => (impl_Store_changedSince.f l0_0 a0_1 x a1_0).isSome) = true
  ·rw [if_pos ha] at h
   obtain rfl := Option.some.inj h
   have HA := Aside0.mk ha
   clear ha h
   have EG := Aside0.mk eg
   clear eg
   have HC0 := Aside0.mk hc0_0
   clear hc0_0
   have HP := Aside0.mk (rfl : l1_1.any (impl_Store_conflicts.p l0_0 a0_1 a1_0) = l1_1.any (impl_Store_conflicts.p l0_0 a0_1 a1_0))
   go_enter Try.func50, Try.ntmps50
   go_wp2_with (first
    | ((with_reducible refine gate_dst (N := 2) rfl ?_); refine box_event ?hg (N := 2) ?hd (cs := #[.slice A0_0 l0_0.length c0_0, .int .i64 a0_1]) (t := 34) ?hr ?_; (case hd => rfl); (case hg => rfl); (case hr => first | (go_simp; done) | (go_simp; rfl)); intro gs hg w1 hbox hb; have B1 := Aside0.mk hb; have K1 := Aside0.mk hbox; clear hg hb hbox)
    | ((with_reducible refine gate_dst (N := 3) rfl ?_); refine box_event ?hg (N := 3) ?hd (cs := #[.int .i64 a1_0, .slice A1_1 l1_1.length c1_1, .slice A1_2 l1_2.length c1_2]) (t := 38) ?hr ?_; (case hd => rfl); (case hg => rfl); (case hr => first | (go_simp; done) | (go_simp; rfl)); intro gt hg w2 hbox hb; have B2 := Aside0.mk (below_step B1.out hb); have K2 := Aside0.mk hbox; have K1' := Aside0.mk (blk_below K1.out hb); have hct1 : w2.cell? ⟨gt, 1, none⟩ = some (.slice A1_1 l1_1.length c1_1) := (blk_cell hbox 1).trans rfl; have hct2 : w2.cell? ⟨gt, 2, none⟩ = some (.slice A1_2 l1_2.length c1_2) := (blk_cell hbox 2).trans rfl; clear hg hb hbox)
    | (go_at_call 82; refine (slices_ContainsFunc_int_int.callsP A1_1 c1_1 l1_1 83 #[.pointer (some ⟨gs, 0, none⟩), .pointer (some ⟨gt, 0, none⟩)] (impl_Store_conflicts.p l0_0 a0_1 a1_0) w2 EG.out (Kd.C_below HR1.out B2.out) (fun W x hx hb => (impl_Store_conflicts_1.callsQ A0_0 c0_0 l0_0 a0_1 a1_0 A1_1 c1_1 l1_1 A1_2 c1_2 l1_2 x gs gt _ W (Kd.C_below HR0.out (below_step B2.out hb)) HC0.out (blk_below K1'.out hb) (blk_below K2.out hb) (impl_Store_conflicts.pe HA.out x hx)).mono (by rintro e w' ⟨rfl, h2⟩; exact ⟨rfl, below_step hb h2⟩))).mono ?_; rintro e w3 ⟨rfl, hb3⟩))
   go_ret
   exact ⟨rfl, below_step B2.out hb3⟩
  ·rw [if_neg ha] at h
   cases h
 ·rw [if_neg hp] at h
  have hd : decide (0 < (l1_2.length : Int)) = false := decide_eq_false hp
  have hd2 : decide (0 < l1_2.length) = false := decide_eq_false (by omega)
  clear hp
  obtain rfl := Option.some.inj h
  clear h eg
  go_enter Try.func50, Try.ntmps50
  go_wp2_with (first
    | ((with_reducible refine gate_dst (N := 2) rfl ?_); refine box_event ?hg (N := 2) ?hd (cs := #[.slice A0_0 l0_0.length c0_0, .int .i64 a0_1]) (t := 34) ?hr ?_; (case hd => rfl); (case hg => rfl); (case hr => first | (go_simp; done) | (go_simp; rfl)); intro gs hg w1 hbox hb; have B1 := Aside0.mk hb; clear hg hb hbox)
    | ((with_reducible refine gate_dst (N := 3) rfl ?_); refine box_event ?hg (N := 3) ?hd (cs := #[.int .i64 a1_0, .slice A1_1 l1_1.length c1_1, .slice A1_2 l1_2.length c1_2]) (t := 38) ?hr ?_; (case hd => rfl); (case hg => rfl); (case hr => first | (go_simp; done) | (go_simp; rfl)); intro gt hg w2 hbox hb; have B2 := Aside0.mk (below_step B1.out hb); have hct2 : w2.cell? ⟨gt, 2, none⟩ = some (.slice A1_2 l1_2.length c1_2) := (blk_cell hbox 2).trans rfl; clear hg hb hbox))
  go_ret
  exact ⟨rfl, B2.out⟩

end Go.Proofs.Ytjgaenojojfidaa.Q
namespace Go.Proofs.Ytjgaenojojfidaa.Q
open Go.RowKit Go.Proofs.YtjgaenojojfidaaW.PrintWords Go.Proofs.YtjgaenojojfidaaW.PrintLast Go.Proofs.YtjgaenojojfidaaW.PrintMore
attribute [local go_sem] max2_int min2_int max_two min_two max_three min_three max_four min_four   -- for this text's walks alone
set_option linter.unusedVariables false
set_option linter.unusedSimpArgs false

/-! ### impl_Conflicts: function 18 -/
def impl_Conflicts.f (k : Nat) (l0_0 : List (List (S94))) (a0_1 : Int) (a1_0 : Int) (l1_1 : List Int) (l1_2 : List (S49)) : Option (Bool × Int) := (impl_TxnOK.f k l0_0 a0_1 a1_0 l1_1 l1_2).bind fun t103 => (if t103 = true then ((impl_Store_conflicts.f l0_0 a0_1 a1_0 l1_1 l1_2).bind fun t104 => (some (t104, 0))) else (some (false, 1)))
set_option maxHeartbeats 8000000 in
set_option maxRecDepth 100000 in
theorem impl_Conflicts.calls (k : Nat) (A0_0 : Option Addr) (c0_0 : Nat) (l0_0 : List (List (S94))) (a0_1 : Int) (a1_0 : Int) (A1_1 : Option Addr) (c1_1 : Nat) (l1_1 : List Int) (A1_2 : Option Addr) (c1_2 : Nat) (l1_2 : List (S49)) (r1 : Bool) (r2 : Int) (w : World) (hr0_0 : Kd.C (Kd.slice 94 k94) w A0_0 l0_0.length l0_0) (hc0_0 : l0_0.length ≤ c0_0) (hr1_1 : Kd.C (Kd.int .i64) w A1_1 l1_1.length l1_1) (hc1_1 : l1_1.length ≤ c1_1) (hr1_2 : Kd.C k49 w A1_2 l1_2.length l1_2) (hc1_2 : l1_2.length ≤ c1_2) (h : impl_Conflicts.f k l0_0 a0_1 a1_0 l1_1 l1_2 = some (r1, r2)) :
  Calls Try.prog 18 #[.agg #[.slice A0_0 l0_0.length c0_0, .int .i64 a0_1], .agg #[.int .i64 a1_0, .slice A1_1 l1_1.length c1_1, .slice A1_2 l1_2.length c1_2]] w fun e w' => e = .returned (.tuple #[.bool r1, .int .i64 r2]) ∧ Below w.heap.size w w' := by
 have hu34 := Try.underlying34
 have hu38 := Try.underlying38
 have HR0_0 := Aside0.mk hr0_0
 have HC0_0 := Aside0.mk hc0_0
 clear hr0_0 hc0_0
 have HR1_1 := Aside0.mk hr1_1
 have HC1_1 := Aside0.mk hc1_1
 clear hr1_1 hc1_1
 have HR1_2 := Aside0.mk hr1_2
 have HC1_2 := Aside0.mk hc1_2
 clear hr1_2 hc1_2
 have HB := Aside0.mk (Below.refl w.heap.size w)
 have H : ((impl_TxnOK.f k l0_0 a0_1 a1_0 l1_1 l1_2).bind fun t103 => (if t103 = true then ((impl_Store_conflicts.f l0_0 a0_1 a1_0 l1_1 l1_2).bind fun t104 => (some (t104, 0))) else (some (false, 1)))) = some (r1, r2) := h
 clear h
 replace H := Option.bind_eq_some_iff.mp H
 obtain ⟨t103, A30, H⟩ := H
 replace H : (if t103 = true then ((impl_Store_conflicts.f l0_0 a0_1 a1_0 l1_1 l1_2).bind fun t104 => (some (t104, 0))) else (some (false, 1))) = some (r1, r2) := H
 have A3 := Aside0.mk A30
 clear A30
 by_cases c4 : t103 = true
 ·subst c4
  have H1 : ((impl_Store_conflicts.f l0_0 a0_1 a1_0 l1_1 l1_2).bind fun t104 => (some (t104, 0))) = some (r1, r2) := by rw [if_pos rfl] at H; exact H
  clear H
  have H := H1
  clear H1
  replace H := Option.bind_eq_some_iff.mp H
  obtain ⟨t104, A50, H⟩ := H
  replace H : (some (t104, 0)) = some (r1, r2) := H
  have A5 := Aside0.mk A50
  clear A50
  simp only [Option.some.injEq, Prod.mk.injEq] at H
  obtain ⟨rfl, rfl⟩ := H
  go_enter Try.func18, Try.ntmps18
  go_wp2_with (first | ((with_reducible refine gate_dst (N := 2) rfl ?_); refine box_event ?hg (N := 2) ?hd (cs := #[.slice A0_0 l0_0.length c0_0, .int .i64 a0_1]) (t := 34) ?hr ?_; (case hd => rfl); (case hg => rfl); (case hr => first | (go_simp; done) | (go_simp; rfl)); intro gb101 hg w6 hbox hb; have n0_ := Aside0.mk (below_step (by repeat (first | (with_reducible first | exact HB.out | apply below_alloc | apply pw_below_drewN | apply below_drew1) | exact HB.out)) hb); have n1_ := Aside0.mk (hbox); have n2_ := Aside0.mk ((by rw [hg]; exact (below_size (by repeat (first | (with_reducible first | exact HB.out | apply below_alloc | apply pw_below_drewN | apply below_drew1) | exact HB.out))) : w.heap.size ≤ gb101)); have n3_ := Aside0.mk ((by rw [hg]; exact (below_size (by repeat (first | (with_reducible first | exact HB.out | apply below_alloc | apply pw_below_drewN | apply below_drew1) | exact HB.out))) : w.heap.size ≤ gb101)); clear HB; have HB := n0_; have BK101 := n1_; have GW101 := n2_; have GE101 := n3_; clear n0_ n1_ n2_ n3_; clear hb hbox hg) | ((with_reducible refine gate_dst (N := 3) rfl ?_); refine box_event ?hg (N := 3) ?hd (cs := #[.int .i64 a1_0, .slice A1_1 l1_1.length c1_1, .slice A1_2 l1_2.length c1_2]) (t := 38) ?hr ?_; (case hd => rfl); (case hg => rfl); (case hr => first | (go_simp; done) | (go_simp; rfl)); intro gb102 hg w7 hbox hb; have n0_ := Aside0.mk (blk_below (g := gb101) (o := .cells #[.slice A0_0 l0_0.length c0_0, .int .i64 a0_1] 34 (0, 0)) (by (with_reducible repeat (first | refine blk_drewN ?_ _ | refine blk_drew ?_ | refine blk_alloc ?_ _)); exact BK101.out) hb); have n1_ := Aside0.mk (below_step (by repeat (first | (with_reducible first | exact HB.out | apply below_alloc | apply pw_below_drewN | apply below_drew1 | refine below_set ?_ GE101.out) | exact HB.out)) hb); have n2_ := Aside0.mk (hbox); have n3_ := Aside0.mk ((by rw [hg]; exact (below_size (by repeat (first | (with_reducible first | exact HB.out | apply below_alloc | apply pw_below_drewN | apply below_drew1 | refine below_set ?_ GE101.out) | exact HB.out))) : w.heap.size ≤ gb102)); have n4_ := Aside0.mk ((by rw [hg]; exact (below_size (by repeat (first | (with_reducible first | exact HB.out | apply below_alloc | apply pw_below_drewN | apply below_drew1 | refine below_set ?_ GE101.out) | exact HB.out))) : w.heap.size ≤ gb102)); have n5_ := Aside0.mk ((by rw [hg]; exact Nat.ne_of_lt (blk_lt (g := gb101) (o := .cells #[.slice A0_0 l0_0.length c0_0, .int .i64 a0_1] 34 (0, 0)) (by (with_reducible repeat (first | refine blk_drewN ?_ _ | refine blk_drew ?_ | refine blk_alloc ?_ _)); exact BK101.out)) : gb101 ≠ gb102)); have n6_ := Aside0.mk ((by rw [hg]; exact Nat.ne_of_gt (blk_lt (g := gb101) (o := .cells #[.slice A0_0 l0_0.length c0_0, .int .i64 a0_1] 34 (0, 0)) (by (with_reducible repeat (first | refine blk_drewN ?_ _ | refine blk_drew ?_ | refine blk_alloc ?_ _)); exact BK101.out)) : gb102 ≠ gb101)); clear BK101; clear HB; have BK101 := n0_; have HB := n1_; have BK102 := n2_; have GW102 := n3_; have GE102 := n4_; have NB101_102 := n5_; have NB102_101 := n6_; clear n0_ n1_ n2_ n3_ n4_ n5_ n6_; clear hb hbox hg; have hnb8 := NB101_102.out; have hnc8 := NB102_101.out; have hcz9_0 : w7.cell? ⟨gb101, 0, none⟩ = some (.slice A0_0 l0_0.length c0_0) := (blk_cell BK101.out 0).trans rfl; have hcz9_1 : w7.cell? ⟨gb101, 1, none⟩ = some (.int .i64 a0_1) := (blk_cell BK101.out 1).trans rfl; have hfz9_0 := blk_frozen BK101.out 0; have hfz9_1 := blk_frozen BK101.out 1; have hcz10_0 : w7.cell? ⟨gb102, 0, none⟩ = some (.int .i64 a1_0) := (blk_cell BK102.out 0).trans rfl; have hcz10_1 : w7.cell? ⟨gb102, 1, none⟩ = some (.slice A1_1 l1_1.length c1_1) := (blk_cell BK102.out 1).trans rfl; have hcz10_2 : w7.cell? ⟨gb102, 2, none⟩ = some (.slice A1_2 l1_2.length c1_2) := (blk_cell BK102.out 2).trans rfl; have hfz10_0 := blk_frozen BK102.out 0; have hfz10_1 := blk_frozen BK102.out 1; have hfz10_2 := blk_frozen BK102.out 2) | ((with_reducible refine gate_callee (f := 14) rfl ?_); refine goesL_ (some 8) rfl rfl Try.func14 (by kernel_rfl) rfl #[.agg #[.slice A0_0 l0_0.length c0_0, .int .i64 a0_1], .agg #[.int .i64 a1_0, .slice A1_1 l1_1.length c1_1, .slice A1_2 l1_2.length c1_2]] rfl (by (try simp only [List.map_toArray, List.map_cons, List.map_nil]); first | done | rfl | (simp only [List.length_drop, List.length_take]; rfl)) ?_; (with_reducible refine (impl_TxnOK.calls k _ _ l0_0 a0_1 a1_0 _ _ l1_1 _ _ l1_2 true _ ?side1 ?side2 ?side3 ?side4 ?side5 ?side6 A3.out).mono ?_); (case side1 => repeat (first | exact (Kd.C_below HR0_0.out HB.out) | (with_reducible refine Kd.C_alloc ?_ _) | (with_reducible refine Kd.C_drewN ?_ _) | (with_reducible refine Kd.C_drew ?_))); (case side2 => exact HC0_0.out); (case side3 => repeat (first | exact (Kd.C_below HR1_1.out HB.out) | (with_reducible refine Kd.C_alloc ?_ _) | (with_reducible refine Kd.C_drewN ?_ _) | (with_reducible refine Kd.C_drew ?_))); (case side4 => exact HC1_1.out); (case side5 => repeat (first | exact (Kd.C_below HR1_2.out HB.out) | (with_reducible refine Kd.C_alloc ?_ _) | (with_reducible refine Kd.C_drewN ?_ _) | (with_reducible refine Kd.C_drew ?_))); (case side6 => exact HC1_2.out); rintro e w11 ⟨rfl, hb⟩; refine ⟨_, rfl, ?_⟩; have n0_ := Aside0.mk (blk_below (g := gb101) (o := .cells #[.slice A0_0 l0_0.length c0_0, .int .i64 a0_1] 34 (0, 0)) (by (with_reducible repeat (first | refine blk_drewN ?_ _ | refine blk_drew ?_ | refine blk_alloc ?_ _)); exact BK101.out) hb); have n1_ := Aside0.mk (blk_below (g := gb102) (o := .cells #[.int .i64 a1_0, .slice A1_1 l1_1.length c1_1, .slice A1_2 l1_2.length c1_2] 38 (0, 0)) (by (with_reducible repeat (first | refine blk_drewN ?_ _ | refine blk_drew ?_ | refine blk_alloc ?_ _)); exact BK102.out) hb); have n2_ := Aside0.mk (below_step (by repeat (first | (with_reducible first | exact HB.out | apply below_alloc | apply pw_below_drewN | apply below_drew1 | refine below_set ?_ GE101.out | refine below_set ?_ GE102.out) | exact HB.out)) hb); clear BK101; clear BK102; clear HB; have BK101 := n0_; have BK102 := n1_; have HB := n2_; clear n0_ n1_ n2_; (try clear hb); (try clear hb2); (try clear hk); (try clear hi); have hcz12_0 : w11.cell? ⟨gb101, 0, none⟩ = some (.slice A0_0 l0_0.length c0_0) := (blk_cell BK101.out 0).trans rfl; have hcz12_1 : w11.cell? ⟨gb101, 1, none⟩ = some (.int .i64 a0_1) := (blk_cell BK101.out 1).trans rfl; have hfz12_0 := blk_frozen BK101.out 0; have hfz12_1 := blk_frozen BK101.out 1; have hcz13_0 : w11.cell? ⟨gb102, 0, none⟩ = some (.int .i64 a1_0) := (blk_cell BK102.out 0).trans rfl; have hcz13_1 : w11.cell? ⟨gb102, 1, none⟩ = some (.slice A1_1 l1_1.length c1_1) := (blk_cell BK102.out 1).trans rfl; have hcz13_2 : w11.cell? ⟨gb102, 2, none⟩ = some (.slice A1_2 l1_2.length c1_2) := (blk_cell BK102.out 2).trans rfl; have hfz13_0 := blk_frozen BK102.out 0; have hfz13_1 := blk_frozen BK102.out 1; have hfz13_2 := blk_frozen BK102.out 2) | ((with_reducible refine gate_callee (f := 50) rfl ?_); refine goesL_ (some 12) rfl rfl Try.func50 (by kernel_rfl) rfl #[.agg #[.slice A0_0 l0_0.length c0_0, .int .i64 a0_1], .agg #[.int .i64 a1_0, .slice A1_1 l1_1.length c1_1, .slice A1_2 l1_2.length c1_2]] rfl (by (try simp only [List.map_toArray, List.map_cons, List.map_nil]); first | done | rfl | (simp only [List.length_drop, List.length_take]; rfl)) ?_; (with_reducible refine (impl_Store_conflicts.calls _ _ l0_0 a0_1 a1_0 _ _ l1_1 _ _ l1_2 t104 _ ?side1 ?side2 ?side3 ?side4 ?side5 ?side6 A5.out).mono ?_); (case side1 => repeat (first | exact (Kd.C_below HR0_0.out HB.out) | (with_reducible refine Kd.C_alloc ?_ _) | (with_reducible refine Kd.C_drewN ?_ _) | (with_reducible refine Kd.C_drew ?_))); (case side2 => exact HC0_0.out); (case side3 => repeat (first | exact (Kd.C_below HR1_1.out HB.out) | (with_reducible refine Kd.C_alloc ?_ _) | (with_reducible refine Kd.C_drewN ?_ _) | (with_reducible refine Kd.C_drew ?_))); (case side4 => exact HC1_1.out); (case side5 => repeat (first | exact (Kd.C_below HR1_2.out HB.out) | (with_reducible refine Kd.C_alloc ?_ _) | (with_reducible refine Kd.C_drewN ?_ _) | (with_reducible refine Kd.C_drew ?_))); (case side6 => exact HC1_2.out); rintro e w14 ⟨rfl, hb⟩; refine ⟨_, rfl, ?_⟩; have n0_ := Aside0.mk (blk_below (g := gb101) (o := .cells #[.slice A0_0 l0_0.length c0_0, .int .i64 a0_1] 34 (0, 0)) (by (with_reducible repeat (first | refine blk_drewN ?_ _ | refine blk_drew ?_ | refine blk_alloc ?_ _)); exact BK101.out) hb); have n1_ := Aside0.mk (blk_below (g := gb102) (o := .cells #[.int .i64 a1_0, .slice A1_1 l1_1.length c1_1, .slice A1_2 l1_2.length c1_2] 38 (0, 0)) (by (with_reducible repeat (first | refine blk_drewN ?_ _ | refine blk_drew ?_ | refine blk_alloc ?_ _)); exact BK102.out) hb); have n2_ := Aside0.mk (below_step (by repeat (first | (with_reducible first | exact HB.out | apply below_alloc | apply pw_below_drewN | apply below_drew1 | refine below_set ?_ GE101.out | refine below_set ?_ GE102.out) | exact HB.out)) hb); clear BK101; clear BK102; clear HB; have BK101 := n0_; have BK102 := n1_; have HB := n2_; clear n0_ n1_ n2_; (try clear hb); (try clear hb2); (try clear hk); (try clear hi)))
  go_ret2
  exact ⟨by first | rfl | (simp [errW_none, errW_some] <;> rfl) | (simp [*, errW_none, errW_some] <;> rfl), by repeat (first | (with_reducible first | exact HB.out | apply below_alloc | apply pw_below_drewN | apply below_drew1 | refine below_set ?_ GE101.out | refine below_set ?_ GE102.out) | exact HB.out)⟩
 ·replace c4 := Bool.eq_false_iff.mpr c4
  subst c4
  have H1 : (some (false, 1)) = some (r1, r2) := by rw [if_neg (show ¬ (false = true) by decide)] at H; exact H
  clear H
  have H := H1
  clear H1
  simp only [Option.some.injEq, Prod.mk.injEq] at H
  obtain ⟨rfl, rfl⟩ := H
  go_enter Try.func18, Try.ntmps18
  go_wp2_with (first | ((with_reducible refine gate_dst (N := 2) rfl ?_); refine box_event ?hg (N := 2) ?hd (cs := #[.slice A0_0 l0_0.length c0_0, .int .i64 a0_1]) (t := 34) ?hr ?_; (case hd => rfl); (case hg => rfl); (case hr => first | (go_simp; done) | (go_simp; rfl)); intro gb101 hg w15 hbox hb; have n0_ := Aside0.mk (below_step (by repeat (first | (with_reducible first | exact HB.out | apply below_alloc | apply pw_below_drewN | apply below_drew1) | exact HB.out)) hb); have n1_ := Aside0.mk (hbox); have n2_ := Aside0.mk ((by rw [hg]; exact (below_size (by repeat (first | (with_reducible first | exact HB.out | apply below_alloc | apply pw_below_drewN | apply below_drew1) | exact HB.out))) : w.heap.size ≤ gb101)); have n3_ := Aside0.mk ((by rw [hg]; exact (below_size (by repeat (first | (with_reducible first | exact HB.out | apply below_alloc | apply pw_below_drewN | apply below_drew1) | exact HB.out))) : w.heap.size ≤ gb101)); clear HB; have HB := n0_; have BK101 := n1_; have GW101 := n2_; have GE101 := n3_; clear n0_ n1_ n2_ n3_; clear hb hbox hg) | ((with_reducible refine gate_dst (N := 3) rfl ?_); refine box_event ?hg (N := 3) ?hd (cs := #[.int .i64 a1_0, .slice A1_1 l1_1.length c1_1, .slice A1_2 l1_2.length c1_2]) (t := 38) ?hr ?_; (case hd => rfl); (case hg => rfl); (case hr => first | (go_simp; done) | (go_simp; rfl)); intro gb102 hg w16 hbox hb; have n0_ := Aside0.mk (blk_below (g := gb101) (o := .cells #[.slice A0_0 l0_0.length c0_0, .int .i64 a0_1] 34 (0, 0)) (by (with_reducible repeat (first | refine blk_drewN ?_ _ | refine blk_drew ?_ | refine blk_alloc ?_ _)); exact BK101.out) hb); have n1_ := Aside0.mk (below_step (by repeat (first | (with_reducible first | exact HB.out | apply below_alloc | apply pw_below_drewN | apply below_drew1 | refine below_set ?_ GE101.out) | exact HB.out)) hb); have n2_ := Aside0.mk (hbox); have n3_ := Aside0.mk ((by rw [hg]; exact (below_size (by repeat (first | (with_reducible first | exact HB.out | apply below_alloc | apply pw_below_drewN | apply below_drew1 | refine below_set ?_ GE101.out) | exact HB.out))) : w.heap.size ≤ gb102)); have n4_ := Aside0.mk ((by rw [hg]; exact (below_size (by repeat (first | (with_reducible first | exact HB.out | apply below_alloc | apply pw_below_drewN | apply below_drew1 | refine below_set ?_ GE101.out) | exact HB.out))) : w.heap.size ≤ gb102)); have n5_ := Aside0.mk ((by rw [hg]; exact Nat.ne_of_lt (blk_lt (g := gb101) (o := .cells #[.slice A0_0 l0_0.length c0_0, .int .i64 a0_1] 34 (0, 0)) (by (with_reducible repeat (first | refine blk_drewN ?_ _ | refine blk_drew ?_ | refine blk_alloc ?_ _)); exact BK101.out)) : gb101 ≠ gb102)); have n6_ := Aside0.mk ((by rw [hg]; exact Nat.ne_of_gt (blk_lt (g := gb101) (o := .cells #[.slice A0_0 l0_0.length c0_0, .int .i64 a0_1] 34 (0, 0)) (by (with_reducible repeat (first | refine blk_drewN ?_ _ | refine blk_drew ?_ | refine blk_alloc ?_ _)); exact BK101.out)) : gb102 ≠ gb101)); clear BK101; clear HB; have BK101 := n0_; have HB := n1_; have BK102 := n2_; have GW102 := n3_; have GE102 := n4_; have NB101_102 := n5_; have NB102_101 := n6_; clear n0_ n1_ n2_ n3_ n4_ n5_ n6_; clear hb hbox hg; have hnb17 := NB101_102.out; have hnc17 := NB102_101.out; have hcz18_0 : w16.cell? ⟨gb101, 0, none⟩ = some (.slice A0_0 l0_0.length c0_0) := (blk_cell BK101.out 0).trans rfl; have hcz18_1 : w16.cell? ⟨gb101, 1, none⟩ = some (.int .i64 a0_1) := (blk_cell BK101.out 1).trans rfl; have hfz18_0 := blk_frozen BK101.out 0; have hfz18_1 := blk_frozen BK101.out 1; have hcz19_0 : w16.cell? ⟨gb102, 0, none⟩ = some (.int .i64 a1_0) := (blk_cell BK102.out 0).trans rfl; have hcz19_1 : w16.cell? ⟨gb102, 1, none⟩ = some (.slice A1_1 l1_1.length c1_1) := (blk_cell BK102.out 1).trans rfl; have hcz19_2 : w16.cell? ⟨gb102, 2, none⟩ = some (.slice A1_2 l1_2.length c1_2) := (blk_cell BK102.out 2).trans rfl; have hfz19_0 := blk_frozen BK102.out 0; have hfz19_1 := blk_frozen BK102.out 1; have hfz19_2 := blk_frozen BK102.out 2) | ((with_reducible refine gate_callee (f := 14) rfl ?_); refine goesL_ (some 8) rfl rfl Try.func14 (by kernel_rfl) rfl #[.agg #[.slice A0_0 l0_0.length c0_0, .int .i64 a0_1], .agg #[.int .i64 a1_0, .slice A1_1 l1_1.length c1_1, .slice A1_2 l1_2.length c1_2]] rfl (by (try simp only [List.map_toArray, List.map_cons, List.map_nil]); first | done | rfl | (simp only [List.length_drop, List.length_take]; rfl)) ?_; (with_reducible refine (impl_TxnOK.calls k _ _ l0_0 a0_1 a1_0 _ _ l1_1 _ _ l1_2 false _ ?side1 ?side2 ?side3 ?side4 ?side5 ?side6 A3.out).mono ?_); (case side1 => repeat (first | exact (Kd.C_below HR0_0.out HB.out) | (with_reducible refine Kd.C_alloc ?_ _) | (with_reducible refine Kd.C_drewN ?_ _) | (with_reducible refine Kd.C_drew ?_))); (case side2 => exact HC0_0.out); (case side3 => repeat (first | exact (Kd.C_below HR1_1.out HB.out) | (with_reducible refine Kd.C_alloc ?_ _) | (with_reducible refine Kd.C_drewN ?_ _) | (with_reducible refine Kd.C_drew ?_))); (case side4 => exact HC1_1.out); (case side5 => repeat (first | exact (Kd.C_below HR1_2.out HB.out) | (with_reducible refine Kd.C_alloc ?_ _) | (with_reducible refine Kd.C_drewN ?_ _) | (with_reducible refine Kd.C_drew ?_))); (case side6 => exact HC1_2.out); rintro e w20 ⟨rfl, hb⟩; refine ⟨_, rfl, ?_⟩; have n0_ := Aside0.mk (blk_below (g := gb101) (o := .cells #[.slice A0_0 l0_0.length c0_0, .int .i64 a0_1] 34 (0, 0)) (by (with_reducible repeat (first | refine blk_drewN ?_ _ | refine blk_drew ?_ | refine blk_alloc ?_ _)); exact BK101.out) hb); have n1_ := Aside0.mk (blk_below (g := gb102) (o := .cells #[.int .i64 a1_0, .slice A1_1 l1_1.length c1_1, .slice A1_2 l1_2.length c1_2] 38 (0, 0)) (by (with_reducible repeat (first | refine blk_drewN ?_ _ | refine blk_drew ?_ | refine blk_alloc ?_ _)); exact BK102.out) hb); have n2_ := Aside0.mk (below_step (by repeat (first | (with_reducible first | exact HB.out | apply below_alloc | apply pw_below_drewN | apply below_drew1 | refine below_set ?_ GE101.out | refine below_set ?_ GE102.out) | exact HB.out)) hb); clear BK101; clear BK102; clear HB; have BK101 := n0_; have BK102 := n1_; have HB := n2_; clear n0_ n1_ n2_; (try clear hb); (try clear hb2); (try clear hk); (try clear hi)))
  go_ret2
  exact ⟨by first | rfl | (simp [errW_none, errW_some] <;> rfl) | (simp [*, errW_none, errW_some] <;> rfl), by repeat (first | (with_reducible first | exact HB.out | apply below_alloc | apply pw_below_drewN | apply below_drew1 | refine below_set ?_ GE101.out | refine below_set ?_ GE102.out) | exact HB.out)⟩

end Go.Proofs.Ytjgaenojojfidaa.Q
namespace Go.Proofs.Ytjgaenojojfidaa.Q
open Go.RowKit Go.Proofs.YtjgaenojojfidaaW.PrintWords Go.Proofs.YtjgaenojojfidaaW.PrintLast Go.Proofs.YtjgaenojojfidaaW.PrintMore
attribute [local go_sem] max2_int min2_int max_two min_two max_three min_three max_four min_four   -- for this text's walks alone
set_option linter.unusedVariables false
set_option linter.unusedSimpArgs false

/-! ### laws_FnExactConflicts: function 4 -/
def laws_FnExactConflicts.j0 : Nat → Bool → List (List (S111)) → Int → Int → List Int → List (S46) → List (List (S94)) → Int → Int → List Int → List (S49) → Option (Bool)
 | 0, _, _, _, _, _, _, _, _, _, _, _ => none
 | k + 1, x47, x102000, x102001, x103000, x103001, x103002, x123000, x123001, x131000, x131001, x131002 => if x47 = true then (none) else ((laws_toStore.f k x102000 x102001).bind fun bt133 => ((laws_eqStore.f k x123000 x123001 bt133.1 bt133.2).bind fun t137 => (if t137 = true then ((laws_toTxn.f k x103000 x103001 x103002).bind fun bt138 => ((laws_eqTxn.f k x131000 x131001 x131002 bt138.1 bt138.2.1 bt138.2.2).bind fun t145 => (if t145 = true then (some true) else (none)))) else (none))))
def laws_FnExactConflicts.f (k : Nat) (l0_0 : List (List (S111))) (a0_1 : Int) (a1_0 : Int) (l1_1 : List Int) (l1_2 : List (S46)) : Option (Bool) := (laws_szStore.f k l0_0 a0_1 1048576).bind fun t103 => (if t103 < 0 then (some true) else ((laws_szTxn.f a1_0 l1_1 l1_2 t103).bind fun t104 => (if t104 < 0 then (some true) else ((laws_toStore.f k l0_0 a0_1).bind fun bt105 => ((laws_toTxn.f k a1_0 l1_1 l1_2).bind fun bt109 => ((spec_Conflicts.f k bt105.1 bt105.2 bt109.1 bt109.2.1 bt109.2.2).bind fun bt116 => ((laws_toStore.f k l0_0 a0_1).bind fun bt118 => ((laws_toTxn.f k a1_0 l1_1 l1_2).bind fun bt123 => ((impl_Conflicts.f k bt118.1 bt118.2 bt123.1 bt123.2.1 bt123.2.2).bind fun bt131 => (if (bt131.1 != bt116.1) = true then (laws_FnExactConflicts.j0 k true l0_0 a0_1 a1_0 l1_1 l1_2 bt118.1 bt118.2 bt123.1 bt123.2.1 bt123.2.2) else (laws_FnExactConflicts.j0 k (bt131.2 != bt116.2) l0_0 a0_1 a1_0 l1_1 l1_2 bt118.1 bt118.2 bt123.1 bt123.2.1 bt123.2.2)))))))))))
def laws_FnExactConflicts.T8 : Bool × List (List Nat × List Nat) := (true, [([], []), ([0], [0]), ([], []), ([2, 1], [2]), ([1, 3, 3], [1, 3]), ([4], [4]), ([5], [5]), ([5], [5]), ([6, 4, 0, 1, 2, 3, 4, 5, 6], [6]), ([7, 8, 0, 1, 2, 3, 4, 5, 6, 7, 8], [7])])
def laws_FnExactConflicts.B8 : List Nat := [0, 1, 0, 7, 15, 31, 63, 63, 127, 511]
theorem laws_FnExactConflicts.tab8 : rtab .any (opsOf Try.f4 8) = laws_FnExactConflicts.T8 := by kernel_rfl
theorem laws_FnExactConflicts.bits8 : waitsOk laws_FnExactConflicts.T8.2 laws_FnExactConflicts.B8 = true := by kernel_rfl
def laws_FnExactConflicts.y0 : Array Bool := #[false, false, false, false, false, false, false, false, false, false]
def laws_FnExactConflicts.y1 : Array Bool := #[true, false, false, false, false, false, false, false, false, false]
def laws_FnExactConflicts.y2 : Array Bool := #[true, false, true, false, false, false, false, false, false, false]
def laws_FnExactConflicts.y3 : Array Bool := #[true, true, true, false, false, false, false, false, false, false]
def laws_FnExactConflicts.y4 : Array Bool := #[true, true, true, true, false, false, false, false, false, false]
def laws_FnExactConflicts.y5 : Array Bool := #[true, true, true, true, true, false, false, false, false, false]
def laws_FnExactConflicts.y6 : Array Bool := #[true, true, true, true, true, true, false, false, false, false]
def laws_FnExactConflicts.y7 : Array Bool := #[true, true, true, true, true, true, true, false, false, false]
def laws_FnExactConflicts.y8 : Array Bool := #[true, true, true, true, true, true, true, true, false, false]
def laws_FnExactConflicts.y9 : Array Bool := #[true, true, true, true, true, true, true, true, true, false]
def laws_FnExactConflicts.y10 : Array Bool := #[true, true, true, true, true, true, true, true, true, true]
set_option maxHeartbeats 8000000 in
set_option maxRecDepth 100000 in
theorem laws_FnExactConflicts.calls (k : Nat) (A0_0 : Option Addr) (c0_0 : Nat) (l0_0 : List (List (S111))) (a0_1 : Int) (a1_0 : Int) (A1_1 : Option Addr) (c1_1 : Nat) (l1_1 : List Int) (A1_2 : Option Addr) (c1_2 : Nat) (l1_2 : List (S46)) (r : Bool) (w : World) (hr0_0 : Kd.C (Kd.slice 111 k111) w A0_0 l0_0.length l0_0) (hc0_0 : l0_0.length ≤ c0_0) (hr1_1 : Kd.C (Kd.int .i64) w A1_1 l1_1.length l1_1) (hc1_1 : l1_1.length ≤ c1_1) (hr1_2 : Kd.C k46 w A1_2 l1_2.length l1_2) (hc1_2 : l1_2.length ≤ c1_2) (h : laws_FnExactConflicts.f k l0_0 a0_1 a1_0 l1_1 l1_2 = some r) :
  Calls Try.prog 4 #[.agg #[.slice A0_0 l0_0.length c0_0, .int .i64 a0_1], .agg #[.int .i64 a1_0, .slice A1_1 l1_1.length c1_1, .slice A1_2 l1_2.length c1_2]] w fun e w' => e = .returned (.bool r) ∧ Below w.heap.size w w' := by
 have hu24 := Try.underlying24
 have hu28 := Try.underlying28
 have hu34 := Try.underlying34
 have hu38 := Try.underlying38
 have HR0_0 := Aside0.mk hr0_0
 have HC0_0 := Aside0.mk hc0_0
 clear hr0_0 hc0_0
 have HR1_1 := Aside0.mk hr1_1
 have HC1_1 := Aside0.mk hc1_1
 clear hr1_1 hc1_1
 have HR1_2 := Aside0.mk hr1_2
 have HC1_2 := Aside0.mk hc1_2
 clear hr1_2 hc1_2
 have HB := Aside0.mk (Below.refl w.heap.size w)
 have H : ((laws_szStore.f k l0_0 a0_1 1048576).bind fun t103 => (if t103 < 0 then (some true) else ((laws_szTxn.f a1_0 l1_1 l1_2 t103).bind fun t104 => (if t104 < 0 then (some true) else ((laws_toStore.f k l0_0 a0_1).bind fun bt105 => ((laws_toTxn.f k a1_0 l1_1 l1_2).bind fun bt109 => ((spec_Conflicts.f k bt105.1 bt105.2 bt109.1 bt109.2.1 bt109.2.2).bind fun bt116 => ((laws_toStore.f k l0_0 a0_1).bind fun bt118 => ((laws_toTxn.f k a1_0 l1_1 l1_2).bind fun bt123 => ((impl_Conflicts.f k bt118.1 bt118.2 bt123.1 bt123.2.1 bt123.2.2).bind fun bt131 => (if (bt131.1 != bt116.1) = true then (laws_FnExactConflicts.j0 k true l0_0 a0_1 a1_0 l1_1 l1_2 bt118.1 bt118.2 bt123.1 bt123.2.1 bt123.2.2) else (laws_FnExactConflicts.j0 k (bt131.2 != bt116.2) l0_0 a0_1 a1_0 l1_1 l1_2 bt118.1 bt118.2 bt123.1 bt123.2.1 bt123.2.2)))))))))))) = some r := h
 clear h
 replace H := Option.bind_eq_some_iff.mp H
 obtain ⟨t103, A30, H⟩ := H
 replace H : (if t103 < 0 then (some true) else ((laws_szTxn.f a1_0 l1_1 l1_2 t103).bind fun t104 => (if t104 < 0 then (some true) else ((laws_toStore.f k l0_0 a0_1).bind fun bt105 => ((laws_toTxn.f k a1_0 l1_1 l1_2).bind fun bt109 => ((spec_Conflicts.f k bt105.1 bt105.2 bt109.1 bt109.2.1 bt109.2.2).bind fun bt116 => ((laws_toStore.f k l0_0 a0_1).bind fun bt118 => ((laws_toTxn.f k a1_0 l1_1 l1_2).bind fun bt123 => ((impl_Conflicts.f k bt118.1 bt118.2 bt123.1 bt123.2.1 bt123.2.2).bind fun bt131 => (if (bt131.1 != bt116.1) = true then (laws_FnExactConflicts.j0 k true l0_0 a0_1 a1_0 l1_1 l1_2 bt118.1 bt118.2 bt123.1 bt123.2.1 bt123.2.2) else (laws_FnExactConflicts.j0 k (bt131.2 != bt116.2) l0_0 a0_1 a1_0 l1_1 l1_2 bt118.1 bt118.2 bt123.1 bt123.2.1 bt123.2.2))))))))))) = some r := H
 have A3 := Aside0.mk A30
 clear A30
 by_cases c4 : t103 < 0
 ·rw [if_pos c4] at H
  have c4b0 : decide (t103 < 0) = true := decide_eq_true c4
  clear c4
  obtain rfl := Option.some.inj H
  go_enter Try.func4, Try.ntmps4
  go_wp2_with (first | ((with_reducible refine gate_dst (N := 2) rfl ?_); refine box_event ?hg (N := 2) ?hd (cs := #[.slice A0_0 l0_0.length c0_0, .int .i64 a0_1]) (t := 24) ?hr ?_; (case hd => rfl); (case hg => rfl); (case hr => first | (go_simp; done) | (go_simp; rfl)); intro gb101 hg w5 hbox hb; have n0_ := Aside0.mk (below_step (by repeat (first | (with_reducible first | exact HB.out | apply below_alloc | apply pw_below_drewN | apply below_drew1) | exact HB.out)) hb); have n1_ := Aside0.mk (hbox); have n2_ := Aside0.mk ((by rw [hg]; exact (below_size (by repeat (first | (with_reducible first | exact HB.out | apply below_alloc | apply pw_below_drewN | apply below_drew1) | exact HB.out))) : w.heap.size ≤ gb101)); have n3_ := Aside0.mk ((by rw [hg]; exact (below_size (by repeat (first | (with_reducible first | exact HB.out | apply below_alloc | apply pw_below_drewN | apply below_drew1) | exact HB.out))) : w.heap.size ≤ gb101)); clear HB; have HB := n0_; have BK101 := n1_; have GW101 := n2_; have GE101 := n3_; clear n0_ n1_ n2_ n3_; clear hb hbox hg) | ((with_reducible refine gate_dst (N := 3) rfl ?_); refine box_event ?hg (N := 3) ?hd (cs := #[.int .i64 a1_0, .slice A1_1 l1_1.length c1_1, .slice A1_2 l1_2.length c1_2]) (t := 28) ?hr ?_; (case hd => rfl); (case hg => rfl); (case hr => first | (go_simp; done) | (go_simp; rfl)); intro gb102 hg w6 hbox hb; have n0_ := Aside0.mk (blk_below (g := gb101) (o := .cells #[.slice A0_0 l0_0.length c0_0, .int .i64 a0_1] 24 (0, 0)) (by (with_reducible repeat (first | refine blk_drewN ?_ _ | refine blk_drew ?_ | refine blk_alloc ?_ _)); exact BK101.out) hb); have n1_ := Aside0.mk (below_step (by repeat (first | (with_reducible first | exact HB.out | apply below_alloc | apply pw_below_drewN | apply below_drew1 | refine below_set ?_ GE101.out) | exact HB.out)) hb); have n2_ := Aside0.mk (hbox); have n3_ := Aside0.mk ((by rw [hg]; exact (below_size (by repeat (first | (with_reducible first | exact HB.out | apply below_alloc | apply pw_below_drewN | apply below_drew1 | refine below_set ?_ GE101.out) | exact HB.out))) : w.heap.size ≤ gb102)); have n4_ := Aside0.mk ((by rw [hg]; exact (below_size (by repeat (first | (with_reducible first | exact HB.out | apply below_alloc | apply pw_below_drewN | apply below_drew1 | refine below_set ?_ GE101.out) | exact HB.out))) : w.heap.size ≤ gb102)); have n5_ := Aside0.mk ((by rw [hg]; exact Nat.ne_of_lt (blk_lt (g := gb101) (o := .cells #[.slice A0_0 l0_0.length c0_0, .int .i64 a0_1] 24 (0, 0)) (by (with_reducible repeat (first | refine blk_drewN ?_ _ | refine blk_drew ?_ | refine blk_alloc ?_ _)); exact BK101.out)) : gb101 ≠ gb102)); have n6_ := Aside0.mk ((by rw [hg]; exact Nat.ne_of_gt (blk_lt (g := gb101) (o := .cells #[.slice A0_0 l0_0.length c0_0, .int .i64 a0_1] 24 (0, 0)) (by (with_reducible repeat (first | refine blk_drewN ?_ _ | refine blk_drew ?_ | refine blk_alloc ?_ _)); exact BK101.out)) : gb102 ≠ gb101)); clear BK101; clear HB; have BK101 := n0_; have HB := n1_; have BK102 := n2_; have GW102 := n3_; have GE102 := n4_; have NB101_102 := n5_; have NB102_101 := n6_; clear n0_ n1_ n2_ n3_ n4_ n5_ n6_; clear hb hbox hg; have hnb7 := NB101_102.out; have hnc7 := NB102_101.out; have hcz8_0 : w6.cell? ⟨gb101, 0, none⟩ = some (.slice A0_0 l0_0.length c0_0) := (blk_cell BK101.out 0).trans rfl; have hcz8_1 : w6.cell? ⟨gb101, 1, none⟩ = some (.int .i64 a0_1) := (blk_cell BK101.out 1).trans rfl; have hfz8_0 := blk_frozen BK101.out 0; have hfz8_1 := blk_frozen BK101.out 1) | ((with_reducible refine gate_callee (f := 9) rfl ?_); refine goesL_ (some 14) rfl rfl Try.func9 (by kernel_rfl) rfl #[.agg #[.slice A0_0 l0_0.length c0_0, .int .i64 a0_1], .int .i64 1048576] rfl (by (try simp only [List.map_toArray, List.map_cons, List.map_nil]); first | done | rfl | (simp only [List.length_drop, List.length_take]; rfl)) ?_; (with_reducible refine (laws_szStore.calls k _ _ l0_0 a0_1 1048576 t103 _ ?side1 ?side2 A3.out).mono ?_); (case side1 => repeat (first | exact (Kd.C_below HR0_0.out HB.out) | (with_reducible refine Kd.C_alloc ?_ _) | (with_reducible refine Kd.C_drewN ?_ _) | (with_reducible refine Kd.C_drew ?_))); (case side2 => exact HC0_0.out); rintro e w9 ⟨rfl, hb⟩; refine ⟨_, rfl, ?_⟩; have n0_ := Aside0.mk (blk_below (g := gb101) (o := .cells #[.slice A0_0 l0_0.length c0_0, .int .i64 a0_1] 24 (0, 0)) (by (with_reducible repeat (first | refine blk_drewN ?_ _ | refine blk_drew ?_ | refine blk_alloc ?_ _)); exact BK101.out) hb); have n1_ := Aside0.mk (blk_below (g := gb102) (o := .cells #[.int .i64 a1_0, .slice A1_1 l1_1.length c1_1, .slice A1_2 l1_2.length c1_2] 28 (0, 0)) (by (with_reducible repeat (first | refine blk_drewN ?_ _ | refine blk_drew ?_ | refine blk_alloc ?_ _)); exact BK102.out) hb); have n2_ := Aside0.mk (below_step (by repeat (first | (with_reducible first | exact HB.out | apply below_alloc | apply pw_below_drewN | apply below_drew1 | refine below_set ?_ GE101.out | refine below_set ?_ GE102.out) | exact HB.out)) hb); clear BK101; clear BK102; clear HB; have BK101 := n0_; have BK102 := n1_; have HB := n2_; clear n0_ n1_ n2_; (try clear hb); (try clear hb2); (try clear hk); (try clear hi)))
  go_ret
  exact ⟨by first | rfl | (simp [errW_none, errW_some] <;> rfl) | (simp [*, errW_none, errW_some] <;> rfl), by repeat (first | (with_reducible first | exact HB.out | apply below_alloc | apply pw_below_drewN | apply below_drew1 | refine below_set ?_ GE101.out | refine below_set ?_ GE102.out) | exact HB.out)⟩
 ·rw [if_neg c4] at H
  have c4b0 : decide (t103 < 0) = false := decide_eq_false c4
  clear c4
  replace H := Option.bind_eq_some_iff.mp H
  obtain ⟨t104, A100, H⟩ := H
  replace H : (if t104 < 0 then (some true) else ((laws_toStore.f k l0_0 a0_1).bind fun bt105 => ((laws_toTxn.f k a1_0 l1_1 l1_2).bind fun bt109 => ((spec_Conflicts.f k bt105.1 bt105.2 bt109.1 bt109.2.1 bt109.2.2).bind fun bt116 => ((laws_toStore.f k l0_0 a0_1).bind fun bt118 => ((laws_toTxn.f k a1_0 l1_1 l1_2).bind fun bt123 => ((impl_Conflicts.f k bt118.1 bt118.2 bt123.1 bt123.2.1 bt123.2.2).bind fun bt131 => (if (bt131.1 != bt116.1) = true then (laws_FnExactConflicts.j0 k true l0_0 a0_1 a1_0 l1_1 l1_2 bt118.1 bt118.2 bt123.1 bt123.2.1 bt123.2.2) else (laws_FnExactConflicts.j0 k (bt131.2 != bt116.2) l0_0 a0_1 a1_0 l1_1 l1_2 bt118.1 bt118.2 bt123.1 bt123.2.1 bt123.2.2))))))))) = some r := H
  have A10 := Aside0.mk A100
  clear A100
  by_cases c11 : t104 < 0
  ·rw [if_pos c11] at H
   have c11b0 : decide (t104 < 0) = true := decide_eq_true c11
   clear c11
   obtain rfl := Option.some.inj H
   go_enter Try.func4, Try.ntmps4
   go_wp2_with (first | ((with_reducible refine gate_dst (N := 2) rfl ?_); refine box_event ?hg (N := 2) ?hd (cs := #[.slice A0_0 l0_0.length c0_0, .int .i64 a0_1]) (t := 24) ?hr ?_; (case hd => rfl); (case hg => rfl); (case hr => first | (go_simp; done) | (go_simp; rfl)); intro gb101 hg w12 hbox hb; have n0_ := Aside0.mk (below_step (by repeat (first | (with_reducible first | exact HB.out | apply below_alloc | apply pw_below_drewN | apply below_drew1) | exact HB.out)) hb); have n1_ := Aside0.mk (hbox); have n2_ := Aside0.mk ((by rw [hg]; exact (below_size (by repeat (first | (with_reducible first | exact HB.out | apply below_alloc | apply pw_below_drewN | apply below_drew1) | exact HB.out))) : w.heap.size ≤ gb101)); have n3_ := Aside0.mk ((by rw [hg]; exact (below_size (by repeat (first | (with_reducible first | exact HB.out | apply below_alloc | apply pw_below_drewN | apply below_drew1) | exact HB.out))) : w.heap.size ≤ gb101)); clear HB; have HB := n0_; have BK101 := n1_; have GW101 := n2_; have GE101 := n3_; clear n0_ n1_ n2_ n3_; clear hb hbox hg) | ((with_reducible refine gate_dst (N := 3) rfl ?_); refine box_event ?hg (N := 3) ?hd (cs := #[.int .i64 a1_0, .slice A1_1 l1_1.length c1_1, .slice A1_2 l1_2.length c1_2]) (t := 28) ?hr ?_; (case hd => rfl); (case hg => rfl); (case hr => first | (go_simp; done) | (go_simp; rfl)); intro gb102 hg w13 hbox hb; have n0_ := Aside0.mk (blk_below (g := gb101) (o := .cells #[.slice A0_0 l0_0.length c0_0, .int .i64 a0_1] 24 (0, 0)) (by (with_reducible repeat (first | refine blk_drewN ?_ _ | refine blk_drew ?_ | refine blk_alloc ?_ _)); exact BK101.out) hb); have n1_ := Aside0.mk (below_step (by repeat (first | (with_reducible first | exact HB.out | apply below_alloc | apply pw_below_drewN | apply below_drew1 | refine below_set ?_ GE101.out) | exact HB.out)) hb); have n2_ := Aside0.mk (hbox); have n3_ := Aside0.mk ((by rw [hg]; exact (below_size (by repeat (first | (with_reducible first | exact HB.out | apply below_alloc | apply pw_below_drewN | apply below_drew1 | refine below_set ?_ GE101.out) | exact HB.out))) : w.heap.size ≤ gb102)); have n4_ := Aside0.mk ((by rw [hg]; exact (below_size (by repeat (first | (with_reducible first | exact HB.out | apply below_alloc | apply pw_below_drewN | apply below_drew1 | refine below_set ?_ GE101.out) | exact HB.out))) : w.heap.size ≤ gb102)); have n5_ := Aside0.mk ((by rw [hg]; exact Nat.ne_of_lt (blk_lt (g := gb101) (o := .cells #[.slice A0_0 l0_0.length c0_0, .int .i64 a0_1] 24 (0, 0)) (by (with_reducible repeat (first | refine blk_drewN ?_ _ | refine blk_drew ?_ | refine blk_alloc ?_ _)); exact BK101.out)) : gb101 ≠ gb102)); have n6_ := Aside0.mk ((by rw [hg]; exact Nat.ne_of_gt (blk_lt (g := gb101) (o := .cells #[.slice A0_0 l0_0.length c0_0, .int .i64 a0_1] 24 (0, 0)) (by (with_reducible repeat (first | refine blk_drewN ?_ _ | refine blk_drew ?_ | refine blk_alloc ?_ _)); exact BK101.out)) : gb102 ≠ gb101)); clear BK101; clear HB; have BK101 := n0_; have HB := n1_; have BK102 := n2_; have GW102 := n3_; have GE102 := n4_; have NB101_102 := n5_; have NB102_101 := n6_; clear n0_ n1_ n2_ n3_ n4_ n5_ n6_; clear hb hbox hg; have hnb14 := NB101_102.out; have hnc14 := NB102_101.out; have hcz15_0 : w13.cell? ⟨gb101, 0, none⟩ = some (.slice A0_0 l0_0.length c0_0) := (blk_cell BK101.out 0).trans rfl; have hcz15_1 : w13.cell? ⟨gb101, 1, none⟩ = some (.int .i64 a0_1) := (blk_cell BK101.out 1).trans rfl; have hfz15_0 := blk_frozen BK101.out 0; have hfz15_1 := blk_frozen BK101.out 1) | ((with_reducible refine gate_callee (f := 9) rfl ?_); refine goesL_ (some 14) rfl rfl Try.func9 (by kernel_rfl) rfl #[.agg #[.slice A0_0 l0_0.length c0_0, .int .i64 a0_1], .int .i64 1048576] rfl (by (try simp only [List.map_toArray, List.map_cons, List.map_nil]); first | done | rfl | (simp only [List.length_drop, List.length_take]; rfl)) ?_; (with_reducible refine (laws_szStore.calls k _ _ l0_0 a0_1 1048576 t103 _ ?side1 ?side2 A3.out).mono ?_); (case side1 => repeat (first | exact (Kd.C_below HR0_0.out HB.out) | (with_reducible refine Kd.C_alloc ?_ _) | (with_reducible refine Kd.C_drewN ?_ _) | (with_reducible refine Kd.C_drew ?_))); (case side2 => exact HC0_0.out); rintro e w16 ⟨rfl, hb⟩; refine ⟨_, rfl, ?_⟩; have n0_ := Aside0.mk (blk_below (g := gb101) (o := .cells #[.slice A0_0 l0_0.length c0_0, .int .i64 a0_1] 24 (0, 0)) (by (with_reducible repeat (first | refine blk_drewN ?_ _ | refine blk_drew ?_ | refine blk_alloc ?_ _)); exact BK101.out) hb); have n1_ := Aside0.mk (blk_below (g := gb102) (o := .cells #[.int .i64 a1_0, .slice A1_1 l1_1.length c1_1, .slice A1_2 l1_2.length c1_2] 28 (0, 0)) (by (with_reducible repeat (first | refine blk_drewN ?_ _ | refine blk_drew ?_ | refine blk_alloc ?_ _)); exact BK102.out) hb); have n2_ := Aside0.mk (below_step (by repeat (first | (with_reducible first | exact HB.out | apply below_alloc | apply pw_below_drewN | apply below_drew1 | refine below_set ?_ GE101.out | refine below_set ?_ GE102.out) | exact HB.out)) hb); clear BK101; clear BK102; clear HB; have BK101 := n0_; have BK102 := n1_; have HB := n2_; clear n0_ n1_ n2_; (try clear hb); (try clear hb2); (try clear hk); (try clear hi); have hcz17_0 : w16.cell? ⟨gb102, 0, none⟩ = some (.int .i64 a1_0) := (blk_cell BK102.out 0).trans rfl; have hcz17_1 : w16.cell? ⟨gb102, 1, none⟩ = some (.slice A1_1 l1_1.length c1_1) := (blk_cell BK102.out 1).trans rfl; have hcz17_2 : w16.cell? ⟨gb102, 2, none⟩ = some (.slice A1_2 l1_2.length c1_2) := (blk_cell BK102.out 2).trans rfl; have hfz17_0 := blk_frozen BK102.out 0; have hfz17_1 := blk_frozen BK102.out 1; have hfz17_2 := blk_frozen BK102.out 2) | ((with_reducible refine gate_callee (f := 10) rfl ?_); refine goesL_ (some 19) rfl rfl Try.func10 (by kernel_rfl) rfl #[.agg #[.int .i64 a1_0, .slice A1_1 l1_1.length c1_1, .slice A1_2 l1_2.length c1_2], .int .i64 t103] rfl (by (try simp only [List.map_toArray, List.map_cons, List.map_nil]); first | done | rfl | (simp only [List.length_drop, List.length_take]; rfl)) ?_; (with_reducible refine (laws_szTxn.calls a1_0 _ _ l1_1 _ _ l1_2 t103 t104 _ ?side1 ?side2 ?side3 ?side4 A10.out).mono ?_); (case side1 => repeat (first | exact (Kd.C_below HR1_1.out HB.out) | (with_reducible refine Kd.C_alloc ?_ _) | (with_reducible refine Kd.C_drewN ?_ _) | (with_reducible refine Kd.C_drew ?_))); (case side2 => exact HC1_1.out); (case side3 => repeat (first | exact (Kd.C_below HR1_2.out HB.out) | (with_reducible refine Kd.C_alloc ?_ _) | (with_reducible refine Kd.C_drewN ?_ _) | (with_reducible refine Kd.C_drew ?_))); (case side4 => exact HC1_2.out); rintro e w18 ⟨rfl, hb⟩; refine ⟨_, rfl, ?_⟩; have n0_ := Aside0.mk (blk_below (g := gb101) (o := .cells #[.slice A0_0 l0_0.length c0_0, .int .i64 a0_1] 24 (0, 0)) (by (with_reducible repeat (first | refine blk_drewN ?_ _ | refine blk_drew ?_ | refine blk_alloc ?_ _)); exact BK101.out) hb); have n1_ := Aside0.mk (blk_below (g := gb102) (o := .cells #[.int .i64 a1_0, .slice A1_1 l1_1.length c1_1, .slice A1_2 l1_2.length c1_2] 28 (0, 0)) (by (with_reducible repeat (first | refine blk_drewN ?_ _ | refine blk_drew ?_ | refine blk_alloc ?_ _)); exact BK102.out) hb); have n2_ := Aside0.mk (below_step (by repeat (first | (with_reducible first | exact HB.out | apply below_alloc | apply pw_below_drewN | apply below_drew1 | refine below_set ?_ GE101.out | refine below_set ?_ GE102.out) | exact HB.out)) hb); clear BK101; clear BK102; clear HB; have BK101 := n0_; have BK102 := n1_; have HB := n2_; clear n0_ n1_ n2_; (try clear hb); (try clear hb2); (try clear hk); (try clear hi)))
   go_ret
   exact ⟨by first | rfl | (simp [errW_none, errW_some] <;> rfl) | (simp [*, errW_none, errW_some] <;> rfl), by repeat (first | (with_reducible first | exact HB.out | apply below_alloc | apply pw_below_drewN | apply below_drew1 | refine below_set ?_ GE101.out | refine below_set ?_ GE102.out) | exact HB.out)⟩
  ·rw [if_neg c11] at H
   have c11b0 : decide (t104 < 0) = false := decide_eq_false c11
   clear c11
   replace H := Option.bind_eq_some_iff.mp H
   obtain ⟨⟨t105, t108⟩, A190, H⟩ := H
   replace H : ((laws_toTxn.f k a1_0 l1_1 l1_2).bind fun bt109 => ((spec_Conflicts.f k t105 t108 bt109.1 bt109.2.1 bt109.2.2).bind fun bt116 => ((laws_toStore.f k l0_0 a0_1).bind fun bt118 => ((laws_toTxn.f k a1_0 l1_1 l1_2).bind fun bt123 => ((impl_Conflicts.f k bt118.1 bt118.2 bt123.1 bt123.2.1 bt123.2.2).bind fun bt131 => (if (bt131.1 != bt116.1) = true then (laws_FnExactConflicts.j0 k true l0_0 a0_1 a1_0 l1_1 l1_2 bt118.1 bt118.2 bt123.1 bt123.2.1 bt123.2.2) else (laws_FnExactConflicts.j0 k (bt131.2 != bt116.2) l0_0 a0_1 a1_0 l1_1 l1_2 bt118.1 bt118.2 bt123.1 bt123.2.1 bt123.2.2))))))) = some r := H
   have A19 := Aside0.mk A190
   clear A190
   replace H := Option.bind_eq_some_iff.mp H
   obtain ⟨⟨t109, t110, t113⟩, A200, H⟩ := H
   replace H : ((spec_Conflicts.f k t105 t108 t109 t110 t113).bind fun bt116 => ((laws_toStore.f k l0_0 a0_1).bind fun bt118 => ((laws_toTxn.f k a1_0 l1_1 l1_2).bind fun bt123 => ((impl_Conflicts.f k bt118.1 bt118.2 bt123.1 bt123.2.1 bt123.2.2).bind fun bt131 => (if (bt131.1 != bt116.1) = true then (laws_FnExactConflicts.j0 k true l0_0 a0_1 a1_0 l1_1 l1_2 bt118.1 bt118.2 bt123.1 bt123.2.1 bt123.2.2) else (laws_FnExactConflicts.j0 k (bt131.2 != bt116.2) l0_0 a0_1 a1_0 l1_1 l1_2 bt118.1 bt118.2 bt123.1 bt123.2.1 bt123.2.2)))))) = some r := H
   have A20 := Aside0.mk A200
   clear A200
   replace H := Option.bind_eq_some_iff.mp H
   obtain ⟨⟨t116, t117⟩, A210, H⟩ := H
   replace H : ((laws_toStore.f k l0_0 a0_1).bind fun bt118 => ((laws_toTxn.f k a1_0 l1_1 l1_2).bind fun bt123 => ((impl_Conflicts.f k bt118.1 bt118.2 bt123.1 bt123.2.1 bt123.2.2).bind fun bt131 => (if (bt131.1 != t116) = true then (laws_FnExactConflicts.j0 k true l0_0 a0_1 a1_0 l1_1 l1_2 bt118.1 bt118.2 bt123.1 bt123.2.1 bt123.2.2) else (laws_FnExactConflicts.j0 k (bt131.2 != t117) l0_0 a0_1 a1_0 l1_1 l1_2 bt118.1 bt118.2 bt123.1 bt123.2.1 bt123.2.2))))) = some r := H
   have A21 := Aside0.mk A210
   clear A210
   replace H := Option.bind_eq_some_iff.mp H
   obtain ⟨⟨t118, t121⟩, A220, H⟩ := H
   replace H : ((laws_toTxn.f k a1_0 l1_1 l1_2).bind fun bt123 => ((impl_Conflicts.f k t118 t121 bt123.1 bt123.2.1 bt123.2.2).bind fun bt131 => (if (bt131.1 != t116) = true then (laws_FnExactConflicts.j0 k true l0_0 a0_1 a1_0 l1_1 l1_2 t118 t121 bt123.1 bt123.2.1 bt123.2.2) else (laws_FnExactConflicts.j0 k (bt131.2 != t117) l0_0 a0_1 a1_0 l1_1 l1_2 t118 t121 bt123.1 bt123.2.1 bt123.2.2)))) = some r := H
   have A22 := Aside0.mk A220
   clear A220
   replace H := Option.bind_eq_some_iff.mp H
   obtain ⟨⟨t123, t124, t127⟩, A230, H⟩ := H
   replace H : ((impl_Conflicts.f k t118 t121 t123 t124 t127).bind fun bt131 => (if (bt131.1 != t116) = true then (laws_FnExactConflicts.j0 k true l0_0 a0_1 a1_0 l1_1 l1_2 t118 t121 t123 t124 t127) else (laws_FnExactConflicts.j0 k (bt131.2 != t117) l0_0 a0_1 a1_0 l1_1 l1_2 t118 t121 t123 t124 t127))) = some r := H
   have A23 := Aside0.mk A230
   clear A230
   replace H := Option.bind_eq_some_iff.mp H
   obtain ⟨⟨t131, t132⟩, A240, H⟩ := H
   replace H : (if (t131 != t116) = true then (laws_FnExactConflicts.j0 k true l0_0 a0_1 a1_0 l1_1 l1_2 t118 t121 t123 t124 t127) else (laws_FnExactConflicts.j0 k (t132 != t117) l0_0 a0_1 a1_0 l1_1 l1_2 t118 t121 t123 t124 t127)) = some r := H
   have A24 := Aside0.mk A240
   clear A240
   have HC25 := Aside0.mk H
   clear H
   go_enter Try.func4, Try.ntmps4
   try go_wp2_with (first | ((with_reducible refine gate_dst (N := 2) rfl ?_); refine box_event ?hg (N := 2) ?hd (cs := #[.slice A0_0 l0_0.length c0_0, .int .i64 a0_1]) (t := 24) ?hr ?_; (case hd => rfl); (case hg => rfl); (case hr => first | (go_simp; done) | (go_simp; rfl)); intro gb101 hg w26 hbox hb; have n0_ := Aside0.mk (below_step (by repeat (first | (with_reducible first | exact HB.out | apply below_alloc | apply pw_below_drewN | apply below_drew1) | exact HB.out)) hb); have n1_ := Aside0.mk (hbox); have n2_ := Aside0.mk ((by rw [hg]; exact (below_size (by repeat (first | (with_reducible first | exact HB.out | apply below_alloc | apply pw_below_drewN | apply below_drew1) | exact HB.out))) : w.heap.size ≤ gb101)); have n3_ := Aside0.mk ((by rw [hg]; exact (below_size (by repeat (first | (with_reducible first | exact HB.out | apply below_alloc | apply pw_below_drewN | apply below_drew1) | exact HB.out))) : w.heap.size ≤ gb101)); clear HB; have HB := n0_; have BK101 := n1_; have GW101 := n2_; have GE101 := n3_; clear n0_ n1_ n2_ n3_; clear hb hbox hg) | ((with_reducible refine gate_dst (N := 3) rfl ?_); refine box_event ?hg (N := 3) ?hd (cs := #[.int .i64 a1_0, .slice A1_1 l1_1.length c1_1, .slice A1_2 l1_2.length c1_2]) (t := 28) ?hr ?_; (case hd => rfl); (case hg => rfl); (case hr => first | (go_simp; done) | (go_simp; rfl)); intro gb102 hg w27 hbox hb; have n0_ := Aside0.mk (blk_below (g := gb101) (o := .cells #[.slice A0_0 l0_0.length c0_0, .int .i64 a0_1] 24 (0, 0)) (by (with_reducible repeat (first | refine blk_drewN ?_ _ | refine blk_drew ?_ | refine blk_alloc ?_ _)); exact BK101.out) hb); have n1_ := Aside0.mk (below_step (by repeat (first | (with_reducible first | exact HB.out | apply below_alloc | apply pw_below_drewN | apply below_drew1 | refine below_set ?_ GE101.out) | exact HB.out)) hb); have n2_ := Aside0.mk (hbox); have n3_ := Aside0.mk ((by rw [hg]; exact (below_size (by repeat (first | (with_reducible first | exact HB.out | apply below_alloc | apply pw_below_drewN | apply below_drew1 | refine below_set ?_ GE101.out) | exact HB.out))) : w.heap.size ≤ gb102)); have n4_ := Aside0.mk ((by rw [hg]; exact (below_size (by repeat (first | (with_reducible first | exact HB.out | apply below_alloc | apply pw_below_drewN | apply below_drew1 | refine below_set ?_ GE101.out) | exact HB.out))) : w.heap.size ≤ gb102)); have n5_ := Aside0.mk ((by rw [hg]; exact Nat.ne_of_lt (blk_lt (g := gb101) (o := .cells #[.slice A0_0 l0_0.length c0_0, .int .i64 a0_1] 24 (0, 0)) (by (with_reducible repeat (first | refine blk_drewN ?_ _ | refine blk_drew ?_ | refine blk_alloc ?_ _)); exact BK101.out)) : gb101 ≠ gb102)); have n6_ := Aside0.mk ((by rw [hg]; exact Nat.ne_of_gt (blk_lt (g := gb101) (o := .cells #[.slice A0_0 l0_0.length c0_0, .int .i64 a0_1] 24 (0, 0)) (by (with_reducible repeat (first | refine blk_drewN ?_ _ | refine blk_drew ?_ | refine blk_alloc ?_ _)); exact BK101.out)) : gb102 ≠ gb101)); clear BK101; clear HB; have BK101 := n0_; have HB := n1_; have BK102 := n2_; have GW102 := n3_; have GE102 := n4_; have NB101_102 := n5_; have NB102_101 := n6_; clear n0_ n1_ n2_ n3_ n4_ n5_ n6_; clear hb hbox hg; have hnb28 := NB101_102.out; have hnc28 := NB102_101.out; have hcz29_0 : w27.cell? ⟨gb101, 0, none⟩ = some (.slice A0_0 l0_0.length c0_0) := (blk_cell BK101.out 0).trans rfl; have hcz29_1 : w27.cell? ⟨gb101, 1, none⟩ = some (.int .i64 a0_1) := (blk_cell BK101.out 1).trans rfl; have hfz29_0 := blk_frozen BK101.out 0; have hfz29_1 := blk_frozen BK101.out 1) | ((with_reducible refine gate_callee (f := 9) rfl ?_); refine goesL_ (some 14) rfl rfl Try.func9 (by kernel_rfl) rfl #[.agg #[.slice A0_0 l0_0.length c0_0, .int .i64 a0_1], .int .i64 1048576] rfl (by (try simp only [List.map_toArray, List.map_cons, List.map_nil]); first | done | rfl | (simp only [List.length_drop, List.length_take]; rfl)) ?_; (with_reducible refine (laws_szStore.calls k _ _ l0_0 a0_1 1048576 t103 _ ?side1 ?side2 A3.out).mono ?_); (case side1 => repeat (first | exact (Kd.C_below HR0_0.out HB.out) | (with_reducible refine Kd.C_alloc ?_ _) | (with_reducible refine Kd.C_drewN ?_ _) | (with_reducible refine Kd.C_drew ?_))); (case side2 => exact HC0_0.out); rintro e w30 ⟨rfl, hb⟩; refine ⟨_, rfl, ?_⟩; have n0_ := Aside0.mk (blk_below (g := gb101) (o := .cells #[.slice A0_0 l0_0.length c0_0, .int .i64 a0_1] 24 (0, 0)) (by (with_reducible repeat (first | refine blk_drewN ?_ _ | refine blk_drew ?_ | refine blk_alloc ?_ _)); exact BK101.out) hb); have n1_ := Aside0.mk (blk_below (g := gb102) (o := .cells #[.int .i64 a1_0, .slice A1_1 l1_1.length c1_1, .slice A1_2 l1_2.length c1_2] 28 (0, 0)) (by (with_reducible repeat (first | refine blk_drewN ?_ _ | refine blk_drew ?_ | refine blk_alloc ?_ _)); exact BK102.out) hb); have n2_ := Aside0.mk (below_step (by repeat (first | (with_reducible first | exact HB.out | apply below_alloc | apply pw_below_drewN | apply below_drew1 | refine below_set ?_ GE101.out | refine below_set ?_ GE102.out) | exact HB.out)) hb); clear BK101; clear BK102; clear HB; have BK101 := n0_; have BK102 := n1_; have HB := n2_; clear n0_ n1_ n2_; (try clear hb); (try clear hb2); (try clear hk); (try clear hi); have hcz31_0 : w30.cell? ⟨gb102, 0, none⟩ = some (.int .i64 a1_0) := (blk_cell BK102.out 0).trans rfl; have hcz31_1 : w30.cell? ⟨gb102, 1, none⟩ = some (.slice A1_1 l1_1.length c1_1) := (blk_cell BK102.out 1).trans rfl; have hcz31_2 : w30.cell? ⟨gb102, 2, none⟩ = some (.slice A1_2 l1_2.length c1_2) := (blk_cell BK102.out 2).trans rfl; have hfz31_0 := blk_frozen BK102.out 0; have hfz31_1 := blk_frozen BK102.out 1; have hfz31_2 := blk_frozen BK102.out 2) | ((with_reducible refine gate_callee (f := 10) rfl ?_); refine goesL_ (some 19) rfl rfl Try.func10 (by kernel_rfl) rfl #[.agg #[.int .i64 a1_0, .slice A1_1 l1_1.length c1_1, .slice A1_2 l1_2.length c1_2], .int .i64 t103] rfl (by (try simp only [List.map_toArray, List.map_cons, List.map_nil]); first | done | rfl | (simp only [List.length_drop, List.length_take]; rfl)) ?_; (with_reducible refine (laws_szTxn.calls a1_0 _ _ l1_1 _ _ l1_2 t103 t104 _ ?side1 ?side2 ?side3 ?side4 A10.out).mono ?_); (case side1 => repeat (first | exact (Kd.C_below HR1_1.out HB.out) | (with_reducible refine Kd.C_alloc ?_ _) | (with_reducible refine Kd.C_drewN ?_ _) | (with_reducible refine Kd.C_drew ?_))); (case side2 => exact HC1_1.out); (case side3 => repeat (first | exact (Kd.C_below HR1_2.out HB.out) | (with_reducible refine Kd.C_alloc ?_ _) | (with_reducible refine Kd.C_drewN ?_ _) | (with_reducible refine Kd.C_drew ?_))); (case side4 => exact HC1_2.out); rintro e w32 ⟨rfl, hb⟩; refine ⟨_, rfl, ?_⟩; have n0_ := Aside0.mk (blk_below (g := gb101) (o := .cells #[.slice A0_0 l0_0.length c0_0, .int .i64 a0_1] 24 (0, 0)) (by (with_reducible repeat (first | refine blk_drewN ?_ _ | refine blk_drew ?_ | refine blk_alloc ?_ _)); exact BK101.out) hb); have n1_ := Aside0.mk (blk_below (g := gb102) (o := .cells #[.int .i64 a1_0, .slice A1_1 l1_1.length c1_1, .slice A1_2 l1_2.length c1_2] 28 (0, 0)) (by (with_reducible repeat (first | refine blk_drewN ?_ _ | refine blk_drew ?_ | refine blk_alloc ?_ _)); exact BK102.out) hb); have n2_ := Aside0.mk (below_step (by repeat (first | (with_reducible first | exact HB.out | apply below_alloc | apply pw_below_drewN | apply below_drew1 | refine below_set ?_ GE101.out | refine below_set ?_ GE102.out) | exact HB.out)) hb); clear BK101; clear BK102; clear HB; have BK101 := n0_; have BK102 := n1_; have HB := n2_; clear n0_ n1_ n2_; (try clear hb); (try clear hb2); (try clear hk); (try clear hi)))
   have n0_ := Aside0.mk (blk_drew BK101.out)
   have n1_ := Aside0.mk (blk_drew BK102.out)
   have n2_ := Aside0.mk (below_drew1 HB.out)
   clear BK101
   clear BK102
   clear HB
   have BK101 := n0_
   have BK102 := n1_
   have HB := n2_
   clear n0_ n1_ n2_
   refine start_ (n := 10) (S := fun w' => w'.cell? ⟨gb101, 0, none⟩ = some (.slice A0_0 l0_0.length c0_0) ∧ w'.cell? ⟨gb101, 1, none⟩ = some (.int .i64 a0_1) ∧ w'.cell? ⟨gb102, 0, none⟩ = some (.int .i64 a1_0) ∧ w'.cell? ⟨gb102, 1, none⟩ = some (.slice A1_1 l1_1.length c1_1) ∧ w'.cell? ⟨gb102, 2, none⟩ = some (.slice A1_2 l1_2.length c1_2)) (ds := []) laws_FnExactConflicts.y0 (by kernel_rfl) rfl rfl ⟨(blk_cell BK101.out 0).trans rfl, (blk_cell BK101.out 1).trans rfl, (blk_cell BK102.out 0).trans rfl, (blk_cell BK102.out 1).trans rfl, (blk_cell BK102.out 2).trans rfl⟩ (fun hHeld => ?_); refine with_tabW laws_FnExactConflicts.tab8 laws_FnExactConflicts.bits8 (fun HT_ HW_ => ?_)
   generalize w32.drew = w33 at BK101 BK102 HB hHeld ⊢
   refine take_ (i := 0) (N := some 23) (v := ?_) (a' := ?_) laws_FnExactConflicts.y1 rfl rfl (take_ofW HT_.out HW_.out (by kernel_rfl)) (fun _ _ _ h => h) (Or.inl ⟨by rfl, ?_⟩) hHeld ?_ ?_
   rotate_left
   ·rintro w' ⟨s0, s1, s2, s3, s4⟩
    go_simp
    with_reducible rfl
   rotate_left
   ·simp only [Act.put, List.setIfInBounds_toArray, List.set_cons_zero, List.set_cons_succ, i64_w, i32_w]
    rfl
   refine take_ (i := 2) (N := some 25) (v := ?_) (a' := ?_) laws_FnExactConflicts.y2 rfl rfl (take_ofW HT_.out HW_.out (by kernel_rfl)) (fun _ _ _ h => h) (Or.inl ⟨by rfl, ?_⟩) hHeld ?_ ?_
   rotate_left
   ·rintro w' ⟨s0, s1, s2, s3, s4⟩
    go_simp
    with_reducible rfl
   rotate_left
   ·simp only [Act.put, List.setIfInBounds_toArray, List.set_cons_zero, List.set_cons_succ, i64_w, i32_w]
    rfl
   refine one_ (i := 1) (N := some 24) laws_FnExactConflicts.y3 rfl rfl (one_of HT_.out (by kernel_rfl)) (by decide) (fun K hK => ?_)
   refine goes_ Try.func12 (by kernel_rfl) rfl #[.agg #[.slice A0_0 l0_0.length c0_0, .int .i64 a0_1]] (by rfl) rfl rfl (by (try simp only [List.map_toArray, List.map_cons, List.map_nil]); first | done | rfl | (simp only [List.length_drop, List.length_take]; rfl)) ?_
   with_reducible refine (laws_toStore.calls k _ _ l0_0 a0_1 t105 t108 _ ?side1 ?side2 A19.out).mono ?_
   (case side1 => repeat (first | exact (Kd.C_below HR0_0.out HB.out) | (with_reducible refine Kd.C_alloc ?_ _) | (with_reducible refine Kd.C_drewN ?_ _) | (with_reducible refine Kd.C_drew ?_)))
   (case side2 => exact HC0_0.out)
   rintro e w34 ⟨v106, rfl, ho0, hb⟩
   refine ⟨_, rfl, ?_⟩
   have n0_ := Aside0.mk (Kd.S_lower ho0 (below_size (by repeat (first | (with_reducible first | exact HB.out | apply below_alloc | apply pw_below_drewN | apply below_drew1 | refine below_set ?_ GE101.out | refine below_set ?_ GE102.out) | exact HB.out))))
   have n1_ := Aside0.mk (blk_below (g := gb101) (o := .cells #[.slice A0_0 l0_0.length c0_0, .int .i64 a0_1] 24 (0, 0)) (by (with_reducible repeat (first | refine blk_drewN ?_ _ | refine blk_drew ?_ | refine blk_alloc ?_ _)); exact BK101.out) hb)
   have n2_ := Aside0.mk (blk_below (g := gb102) (o := .cells #[.int .i64 a1_0, .slice A1_1 l1_1.length c1_1, .slice A1_2 l1_2.length c1_2] 28 (0, 0)) (by (with_reducible repeat (first | refine blk_drewN ?_ _ | refine blk_drew ?_ | refine blk_alloc ?_ _)); exact BK102.out) hb)
   have n3_ := Aside0.mk (below_step (by repeat (first | (with_reducible first | exact HB.out | apply below_alloc | apply pw_below_drewN | apply below_drew1 | refine below_set ?_ GE101.out | refine below_set ?_ GE102.out) | exact HB.out)) hb)
   clear BK101
   clear BK102
   clear HB
   have HO107 := n0_
   have BK101 := n1_
   have BK102 := n2_
   have HB := n3_
   clear n0_ n1_ n2_ n3_
   (try clear hb)
   (try clear hb2)
   (try clear hk)
   (try clear hi)
   (try clear ho0)
   refine hK.out _ _ ⟨(blk_cell BK101.out 0).trans rfl, (blk_cell BK101.out 1).trans rfl, (blk_cell BK102.out 0).trans rfl, (blk_cell BK102.out 1).trans rfl, (blk_cell BK102.out 2).trans rfl⟩ (fun hHeld => ?_)
   clear hK K
   refine norm_ (a' := ?_) ?_ ?_
   rotate_left
   ·show Act.put _ (some 24) _ = _
    simp only [Act.put, List.setIfInBounds_toArray, List.set_cons_zero, List.set_cons_succ, i64_w, i32_w]
    rfl
   refine one_ (i := 3) (N := some 26) laws_FnExactConflicts.y4 rfl rfl (one_of HT_.out (by kernel_rfl)) (by decide) (fun K hK => ?_)
   refine goes_ Try.func13 (by kernel_rfl) rfl #[.agg #[.int .i64 a1_0, .slice A1_1 l1_1.length c1_1, .slice A1_2 l1_2.length c1_2]] (by rfl) rfl rfl (by (try simp only [List.map_toArray, List.map_cons, List.map_nil]); first | done | rfl | (simp only [List.length_drop, List.length_take]; rfl)) ?_
   with_reducible refine (laws_toTxn.calls k a1_0 _ _ l1_1 _ _ l1_2 t109 t110 t113 _ ?side1 ?side2 ?side3 ?side4 A20.out).mono ?_
   (case side1 => repeat (first | exact (Kd.C_below HR1_1.out HB.out) | (with_reducible refine Kd.C_alloc ?_ _) | (with_reducible refine Kd.C_drewN ?_ _) | (with_reducible refine Kd.C_drew ?_)))
   (case side2 => exact HC1_1.out)
   (case side3 => repeat (first | exact (Kd.C_below HR1_2.out HB.out) | (with_reducible refine Kd.C_alloc ?_ _) | (with_reducible refine Kd.C_drewN ?_ _) | (with_reducible refine Kd.C_drew ?_)))
   (case side4 => exact HC1_2.out)
   rintro e w35 ⟨v111, v114, rfl, ho0, ho1, hb⟩
   refine ⟨_, rfl, ?_⟩
   have n0_ := Aside0.mk (Kd.S_below (by (with_reducible repeat (first | apply Kd.S_alloc | apply Kd.S_drewN | apply Kd.S_drew)); exact HO107.out) hb)
   have n1_ := Aside0.mk (Kd.R_lower ho0 (below_size (by repeat (first | (with_reducible first | exact HB.out | apply below_alloc | apply pw_below_drewN | apply below_drew1 | refine below_set ?_ GE101.out | refine below_set ?_ GE102.out) | exact HB.out))))
   have n2_ := Aside0.mk (Kd.R_lower ho1 (below_size (by repeat (first | (with_reducible first | exact HB.out | apply below_alloc | apply pw_below_drewN | apply below_drew1 | refine below_set ?_ GE101.out | refine below_set ?_ GE102.out) | exact HB.out))))
   have n3_ := Aside0.mk (blk_below (g := gb101) (o := .cells #[.slice A0_0 l0_0.length c0_0, .int .i64 a0_1] 24 (0, 0)) (by (with_reducible repeat (first | refine blk_drewN ?_ _ | refine blk_drew ?_ | refine blk_alloc ?_ _)); exact BK101.out) hb)
   have n4_ := Aside0.mk (blk_below (g := gb102) (o := .cells #[.int .i64 a1_0, .slice A1_1 l1_1.length c1_1, .slice A1_2 l1_2.length c1_2] 28 (0, 0)) (by (with_reducible repeat (first | refine blk_drewN ?_ _ | refine blk_drew ?_ | refine blk_alloc ?_ _)); exact BK102.out) hb)
   have n5_ := Aside0.mk (below_step (by repeat (first | (with_reducible first | exact HB.out | apply below_alloc | apply pw_below_drewN | apply below_drew1 | refine below_set ?_ GE101.out | refine below_set ?_ GE102.out) | exact HB.out)) hb)
   clear HO107
   clear BK101
   clear BK102
   clear HB
   have HO107 := n0_
   have HO112 := n1_
   have HO115 := n2_
   have BK101 := n3_
   have BK102 := n4_
   have HB := n5_
   clear n0_ n1_ n2_ n3_ n4_ n5_
   (try clear hb)
   (try clear hb2)
   (try clear hk)
   (try clear hi)
   (try clear ho0)
   (try clear ho1)
   obtain ⟨Ao36, co36, eo36⟩ := Kd.S_slice HO107.out
   (first | subst eo36 | (injection eo36 with f1_ f2_ f3_; have f4_ := f1_.symm; have f5_ := f3_.symm; clear f1_ f2_ f3_; subst f4_; subst f5_))
   obtain ⟨Ao37, co37, eo37⟩ := Kd.R_slice HO112.out
   (first | subst eo37 | (injection eo37 with f1_ f2_ f3_; have f4_ := f1_.symm; have f5_ := f3_.symm; clear f1_ f2_ f3_; subst f4_; subst f5_))
   obtain ⟨Ao38, co38, eo38⟩ := Kd.R_slice HO115.out
   (first | subst eo38 | (injection eo38 with f1_ f2_ f3_; have f4_ := f1_.symm; have f5_ := f3_.symm; clear f1_ f2_ f3_; subst f4_; subst f5_))
   refine hK.out _ _ ⟨(blk_cell BK101.out 0).trans rfl, (blk_cell BK101.out 1).trans rfl, (blk_cell BK102.out 0).trans rfl, (blk_cell BK102.out 1).trans rfl, (blk_cell BK102.out 2).trans rfl⟩ (fun hHeld => ?_)
   clear hK K
   refine norm_ (a' := ?_) ?_ ?_
   rotate_left
   ·show Act.put _ (some 26) _ = _
    simp only [Act.put, List.setIfInBounds_toArray, List.set_cons_zero, List.set_cons_succ, i64_w, i32_w]
    rfl
   refine one_ (i := 4) (N := some 27) laws_FnExactConflicts.y5 rfl rfl (one_of HT_.out (by kernel_rfl)) (by decide) (fun K hK => ?_)
   refine goes_ Try.func17 (by kernel_rfl) rfl #[.agg #[.slice Ao36 t105.length co36, .int .i64 t108], .agg #[.int .i64 t109, .slice Ao37 t110.length co37, .slice Ao38 t113.length co38]] (by rfl) rfl rfl (by (try simp only [List.map_toArray, List.map_cons, List.map_nil]); first | done | rfl | (simp only [List.length_drop, List.length_take]; rfl)) ?_
   with_reducible refine (spec_Conflicts.calls k _ _ t105 t108 t109 _ _ t110 _ _ t113 t116 t117 _ ?side1 ?side2 ?side3 ?side4 ?side5 ?side6 A21.out).mono ?_
   (case side1 => repeat (first | exact (Kd.S_reads' HO107.out).2.2 | (with_reducible refine Kd.C_alloc ?_ _) | (with_reducible refine Kd.C_drewN ?_ _) | (with_reducible refine Kd.C_drew ?_)))
   (case side2 => exact (Kd.S_reads' HO107.out).2.1)
   (case side3 => repeat (first | exact (Kd.R_reads' HO112.out).2.2 | (with_reducible refine Kd.C_alloc ?_ _) | (with_reducible refine Kd.C_drewN ?_ _) | (with_reducible refine Kd.C_drew ?_)))
   (case side4 => exact (Kd.R_reads' HO112.out).2.1)
   (case side5 => repeat (first | exact (Kd.R_reads' HO115.out).2.2 | (with_reducible refine Kd.C_alloc ?_ _) | (with_reducible refine Kd.C_drewN ?_ _) | (with_reducible refine Kd.C_drew ?_)))
   (case side6 => exact (Kd.R_reads' HO115.out).2.1)
   rintro e w39 ⟨rfl, hb⟩
   refine ⟨_, rfl, ?_⟩
   have n0_ := Aside0.mk (Kd.S_below (by (with_reducible repeat (first | apply Kd.S_alloc | apply Kd.S_drewN | apply Kd.S_drew)); exact HO107.out) hb)
   have n1_ := Aside0.mk (Kd.R_below (by (with_reducible repeat (first | apply Kd.R_alloc | apply Kd.R_drewN | apply Kd.R_drew)); exact HO112.out) hb)
   have n2_ := Aside0.mk (Kd.R_below (by (with_reducible repeat (first | apply Kd.R_alloc | apply Kd.R_drewN | apply Kd.R_drew)); exact HO115.out) hb)
   have n3_ := Aside0.mk (blk_below (g := gb101) (o := .cells #[.slice A0_0 l0_0.length c0_0, .int .i64 a0_1] 24 (0, 0)) (by (with_reducible repeat (first | refine blk_drewN ?_ _ | refine blk_drew ?_ | refine blk_alloc ?_ _)); exact BK101.out) hb)
   have n4_ := Aside0.mk (blk_below (g := gb102) (o := .cells #[.int .i64 a1_0, .slice A1_1 l1_1.length c1_1, .slice A1_2 l1_2.length c1_2] 28 (0, 0)) (by (with_reducible repeat (first | refine blk_drewN ?_ _ | refine blk_drew ?_ | refine blk_alloc ?_ _)); exact BK102.out) hb)
   have n5_ := Aside0.mk (below_step (by repeat (first | (with_reducible first | exact HB.out | apply below_alloc | apply pw_below_drewN | apply below_drew1 | refine below_set ?_ GE101.out | refine below_set ?_ GE102.out) | exact HB.out)) hb)
   clear HO107
   clear HO112
   clear HO115
   clear BK101
   clear BK102
   clear HB
   have HO107 := n0_
   have HO112 := n1_
   have HO115 := n2_
   have BK101 := n3_
   have BK102 := n4_
   have HB := n5_
   clear n0_ n1_ n2_ n3_ n4_ n5_
   (try clear hb)
   (try clear hb2)
   (try clear hk)
   (try clear hi)
   refine hK.out _ _ ⟨(blk_cell BK101.out 0).trans rfl, (blk_cell BK101.out 1).trans rfl, (blk_cell BK102.out 0).trans rfl, (blk_cell BK102.out 1).trans rfl, (blk_cell BK102.out 2).trans rfl⟩ (fun hHeld => ?_)
   clear hK K
   refine norm_ (a' := ?_) ?_ ?_
   rotate_left
   ·show Act.put _ (some 27) _ = _
    simp only [Act.put, List.setIfInBounds_toArray, List.set_cons_zero, List.set_cons_succ, i64_w, i32_w]
    rfl
   refine pure_ (i := 5) (N := some 22) (v := ?_) (a' := ?_) laws_FnExactConflicts.y6 rfl rfl (any_of HT_.out (by kernel_rfl)) (fun _ _ _ h => h) (Or.inl ⟨by rfl, ?_⟩) ?_ ?_
   rotate_left
   ·intro w'
    go_simp
    with_reducible rfl
   rotate_left
   ·simp only [Act.put, List.setIfInBounds_toArray, List.set_cons_zero, List.set_cons_succ, i64_w, i32_w]
    rfl
   refine pure_ (i := 6) (N := some 28) (v := ?_) (a' := ?_) laws_FnExactConflicts.y7 rfl rfl (any_of HT_.out (by kernel_rfl)) (fun _ _ _ h => h) (Or.inl ⟨by rfl, ?_⟩) ?_ ?_
   rotate_left
   ·intro w'
    go_simp
    with_reducible rfl
   rotate_left
   ·simp only [Act.put, List.setIfInBounds_toArray, List.set_cons_zero, List.set_cons_succ, i64_w, i32_w]
    rfl
   refine pure_ (i := 7) (N := some 29) (v := ?_) (a' := ?_) laws_FnExactConflicts.y8 rfl rfl (any_of HT_.out (by kernel_rfl)) (fun _ _ _ h => h) (Or.inl ⟨by rfl, ?_⟩) ?_ ?_
   rotate_left
   ·intro w'
    go_simp
    with_reducible rfl
   rotate_left
   ·simp only [Act.put, List.setIfInBounds_toArray, List.set_cons_zero, List.set_cons_succ, i64_w, i32_w]
    rfl
   refine pure_ (i := 8) (N := some 6) (v := ?_) (a' := ?_) laws_FnExactConflicts.y9 rfl rfl (any_of HT_.out (by kernel_rfl)) (fun _ _ _ h => h) (Or.inl ⟨by rfl, ?_⟩) ?_ ?_
   rotate_left
   ·intro w'
    go_simp
    with_reducible rfl
   rotate_left
   ·simp only [Act.put, List.setIfInBounds_toArray, List.set_cons_zero, List.set_cons_succ, i64_w, i32_w]
    rfl
   refine pure_ (i := 9) (N := some 7) (v := ?_) (a' := ?_) laws_FnExactConflicts.y10 rfl rfl (any_of HT_.out (by kernel_rfl)) (fun _ _ _ h => h) (Or.inl ⟨by rfl, ?_⟩) ?_ ?_
   rotate_left
   ·intro w'
    go_simp
    with_reducible rfl
   rotate_left
   ·simp only [Act.put, List.setIfInBounds_toArray, List.set_cons_zero, List.set_cons_succ, i64_w, i32_w]
    rfl
   refine done_ (done_of HT_.out (by kernel_rfl)) ?_
   have hcz40_0 : w39.cell? ⟨gb101, 0, none⟩ = some (.slice A0_0 l0_0.length c0_0) := (blk_cell BK101.out 0).trans rfl
   have hcz40_1 : w39.cell? ⟨gb101, 1, none⟩ = some (.int .i64 a0_1) := (blk_cell BK101.out 1).trans rfl
   have hfz40_0 := blk_frozen BK101.out 0
   have hfz40_1 := blk_frozen BK101.out 1
   go_upto_region 12 with (first | ((with_reducible refine gate_callee (f := 12) rfl ?_); refine goesL_ (some 31) rfl rfl Try.func12 (by kernel_rfl) rfl #[.agg #[.slice A0_0 l0_0.length c0_0, .int .i64 a0_1]] rfl (by (try simp only [List.map_toArray, List.map_cons, List.map_nil]); first | done | rfl | (simp only [List.length_drop, List.length_take]; rfl)) ?_; (with_reducible refine (laws_toStore.calls k _ _ l0_0 a0_1 t118 t121 _ ?side1 ?side2 A22.out).mono ?_); (case side1 => repeat (first | exact (Kd.C_below HR0_0.out HB.out) | (with_reducible refine Kd.C_alloc ?_ _) | (with_reducible refine Kd.C_drewN ?_ _) | (with_reducible refine Kd.C_drew ?_))); (case side2 => exact HC0_0.out); rintro e w41 ⟨v119, rfl, ho0, hb⟩; refine ⟨_, rfl, ?_⟩; have n0_ := Aside0.mk (Kd.S_elder' (by (with_reducible repeat (first | apply Kd.S_alloc | apply Kd.S_drewN | apply Kd.S_drew)); exact HO107.out) (Kd.S_base ho0) hb); have n1_ := Aside0.mk (Kd.R_below (by (with_reducible repeat (first | apply Kd.R_alloc | apply Kd.R_drewN | apply Kd.R_drew)); exact HO112.out) hb); have n2_ := Aside0.mk (Kd.R_below (by (with_reducible repeat (first | apply Kd.R_alloc | apply Kd.R_drewN | apply Kd.R_drew)); exact HO115.out) hb); have n3_ := Aside0.mk (Kd.S_lower (Kd.S_new' ho0 (Kd.S_lt (by (with_reducible repeat (first | apply Kd.S_alloc | apply Kd.S_drewN | apply Kd.S_drew)); exact HO107.out))) (below_size (by repeat (first | (with_reducible first | exact HB.out | apply below_alloc | apply pw_below_drewN | apply below_drew1 | refine below_set ?_ GE101.out | refine below_set ?_ GE102.out) | exact HB.out)))); have n4_ := Aside0.mk (blk_below (g := gb101) (o := .cells #[.slice A0_0 l0_0.length c0_0, .int .i64 a0_1] 24 (0, 0)) (by (with_reducible repeat (first | refine blk_drewN ?_ _ | refine blk_drew ?_ | refine blk_alloc ?_ _)); exact BK101.out) hb); have n5_ := Aside0.mk (blk_below (g := gb102) (o := .cells #[.int .i64 a1_0, .slice A1_1 l1_1.length c1_1, .slice A1_2 l1_2.length c1_2] 28 (0, 0)) (by (with_reducible repeat (first | refine blk_drewN ?_ _ | refine blk_drew ?_ | refine blk_alloc ?_ _)); exact BK102.out) hb); have n6_ := Aside0.mk (below_step (by repeat (first | (with_reducible first | exact HB.out | apply below_alloc | apply pw_below_drewN | apply below_drew1 | refine below_set ?_ GE101.out | refine below_set ?_ GE102.out) | exact HB.out)) hb); clear HO107; clear HO112; clear HO115; clear BK101; clear BK102; clear HB; have HO107 := n0_; have HO112 := n1_; have HO115 := n2_; have HO120 := n3_; have BK101 := n4_; have BK102 := n5_; have HB := n6_; clear n0_ n1_ n2_ n3_ n4_ n5_ n6_; (try clear hb); (try clear hb2); (try clear hk); (try clear hi); (try clear ho0)) | ((with_reducible refine gate_dst (N := 8) rfl ?_); refine box_event ?hg (N := 8) ?hd (cs := #[.slice none 0 0, .int .i64 0]) (t := 34) ?hr ?_; (case hd => rfl); (case hg => rfl); (case hr => first | (go_simp; done) | (go_simp; rfl)); intro gb122 hg w42 hbox hb; have n0_ := Aside0.mk (Kd.S_below (by (with_reducible repeat (first | apply Kd.S_alloc | apply Kd.S_drewN | apply Kd.S_drew)); exact HO107.out) hb); have n1_ := Aside0.mk (Kd.R_below (by (with_reducible repeat (first | apply Kd.R_alloc | apply Kd.R_drewN | apply Kd.R_drew)); exact HO112.out) hb); have n2_ := Aside0.mk (Kd.R_below (by (with_reducible repeat (first | apply Kd.R_alloc | apply Kd.R_drewN | apply Kd.R_drew)); exact HO115.out) hb); have n3_ := Aside0.mk (Kd.S_below (by (with_reducible repeat (first | apply Kd.S_alloc | apply Kd.S_drewN | apply Kd.S_drew)); exact HO120.out) hb); have n4_ := Aside0.mk (blk_below (g := gb101) (o := .cells #[.slice A0_0 l0_0.length c0_0, .int .i64 a0_1] 24 (0, 0)) (by (with_reducible repeat (first | refine blk_drewN ?_ _ | refine blk_drew ?_ | refine blk_alloc ?_ _)); exact BK101.out) hb); have n5_ := Aside0.mk (blk_below (g := gb102) (o := .cells #[.int .i64 a1_0, .slice A1_1 l1_1.length c1_1, .slice A1_2 l1_2.length c1_2] 28 (0, 0)) (by (with_reducible repeat (first | refine blk_drewN ?_ _ | refine blk_drew ?_ | refine blk_alloc ?_ _)); exact BK102.out) hb); have n6_ := Aside0.mk (below_step (by repeat (first | (with_reducible first | exact HB.out | apply below_alloc | apply pw_below_drewN | apply below_drew1 | refine below_set ?_ GE101.out | refine below_set ?_ GE102.out) | exact HB.out)) hb); have n7_ := Aside0.mk (hbox); have n8_ := Aside0.mk ((by rw [hg]; exact (below_size (by repeat (first | (with_reducible first | exact HB.out | apply below_alloc | apply pw_below_drewN | apply below_drew1 | refine below_set ?_ GE101.out | refine below_set ?_ GE102.out) | exact HB.out))) : w.heap.size ≤ gb122)); have n9_ := Aside0.mk ((by rw [hg]; exact (below_size (by repeat (first | (with_reducible first | exact HB.out | apply below_alloc | apply pw_below_drewN | apply below_drew1 | refine below_set ?_ GE101.out | refine below_set ?_ GE102.out) | exact HB.out))) : w.heap.size ≤ gb122)); have n10_ := Aside0.mk ((by rw [hg]; exact Nat.ne_of_lt (blk_lt (g := gb101) (o := .cells #[.slice A0_0 l0_0.length c0_0, .int .i64 a0_1] 24 (0, 0)) (by (with_reducible repeat (first | refine blk_drewN ?_ _ | refine blk_drew ?_ | refine blk_alloc ?_ _)); exact BK101.out)) : gb101 ≠ gb122)); have n11_ := Aside0.mk ((by rw [hg]; exact Nat.ne_of_gt (blk_lt (g := gb101) (o := .cells #[.slice A0_0 l0_0.length c0_0, .int .i64 a0_1] 24 (0, 0)) (by (with_reducible repeat (first | refine blk_drewN ?_ _ | refine blk_drew ?_ | refine blk_alloc ?_ _)); exact BK101.out)) : gb122 ≠ gb101)); have n12_ := Aside0.mk ((by rw [hg]; exact Nat.ne_of_lt (blk_lt (g := gb102) (o := .cells #[.int .i64 a1_0, .slice A1_1 l1_1.length c1_1, .slice A1_2 l1_2.length c1_2] 28 (0, 0)) (by (with_reducible repeat (first | refine blk_drewN ?_ _ | refine blk_drew ?_ | refine blk_alloc ?_ _)); exact BK102.out)) : gb102 ≠ gb122)); have n13_ := Aside0.mk ((by rw [hg]; exact Nat.ne_of_gt (blk_lt (g := gb102) (o := .cells #[.int .i64 a1_0, .slice A1_1 l1_1.length c1_1, .slice A1_2 l1_2.length c1_2] 28 (0, 0)) (by (with_reducible repeat (first | refine blk_drewN ?_ _ | refine blk_drew ?_ | refine blk_alloc ?_ _)); exact BK102.out)) : gb122 ≠ gb102)); clear HO107; clear HO112; clear HO115; clear HO120; clear BK101; clear BK102; clear HB; have HO107 := n0_; have HO112 := n1_; have HO115 := n2_; have HO120 := n3_; have BK101 := n4_; have BK102 := n5_; have HB := n6_; have BK122 := n7_; have GW122 := n8_; have GE122 := n9_; have NB101_122 := n10_; have NB122_101 := n11_; have NB102_122 := n12_; have NB122_102 := n13_; clear n0_ n1_ n2_ n3_ n4_ n5_ n6_ n7_ n8_ n9_ n10_ n11_ n12_ n13_; clear hb hbox hg; obtain ⟨Ao43, co43, eo43⟩ := Kd.S_slice HO120.out; subst eo43; have hnb44 := NB122_101.out; have hnc44 := NB101_122.out; have hnb45 := NB122_102.out; have hnc45 := NB102_122.out; have hcz46_0 : w42.cell? ⟨gb122, 0, none⟩ = some (.slice none 0 0) := (blk_cell BK122.out 0).trans rfl; have hcz46_1 : w42.cell? ⟨gb122, 1, none⟩ = some (.int .i64 0) := (blk_cell BK122.out 1).trans rfl; have hfz46_0 := blk_frozen BK122.out 0; have hfz46_1 := blk_frozen BK122.out 1; have hcz47_0 : w42.cell? ⟨gb102, 0, none⟩ = some (.int .i64 a1_0) := (blk_cell BK102.out 0).trans rfl; have hcz47_1 : w42.cell? ⟨gb102, 1, none⟩ = some (.slice A1_1 l1_1.length c1_1) := (blk_cell BK102.out 1).trans rfl; have hcz47_2 : w42.cell? ⟨gb102, 2, none⟩ = some (.slice A1_2 l1_2.length c1_2) := (blk_cell BK102.out 2).trans rfl; have hfz47_0 := blk_frozen BK102.out 0; have hfz47_1 := blk_frozen BK102.out 1; have hfz47_2 := blk_frozen BK102.out 2) | ((with_reducible refine gate_callee (f := 13) rfl ?_); refine goesL_ (some 33) rfl rfl Try.func13 (by kernel_rfl) rfl #[.agg #[.int .i64 a1_0, .slice A1_1 l1_1.length c1_1, .slice A1_2 l1_2.length c1_2]] rfl (by (try simp only [List.map_toArray, List.map_cons, List.map_nil]); first | done | rfl | (simp only [List.length_drop, List.length_take]; rfl)) ?_; (with_reducible refine (laws_toTxn.calls k a1_0 _ _ l1_1 _ _ l1_2 t123 t124 t127 _ ?side1 ?side2 ?side3 ?side4 A23.out).mono ?_); (case side1 => exact Kd.C_below HR1_1.out (by repeat (first | (with_reducible first | exact HB.out | apply below_alloc | apply pw_below_drewN | apply below_drew1 | refine below_set ?_ GE101.out | refine below_set ?_ GE102.out | refine below_set ?_ GE122.out) | exact HB.out))); (case side2 => exact HC1_1.out); (case side3 => exact Kd.C_below HR1_2.out (by repeat (first | (with_reducible first | exact HB.out | apply below_alloc | apply pw_below_drewN | apply below_drew1 | refine below_set ?_ GE101.out | refine below_set ?_ GE102.out | refine below_set ?_ GE122.out) | exact HB.out))); (case side4 => exact HC1_2.out); rintro e w48 ⟨v125, v128, rfl, ho0, ho1, hb⟩; refine ⟨_, rfl, ?_⟩; have n0_ := Aside0.mk (Kd.S_below (by (with_reducible repeat (first | apply Kd.S_alloc | apply Kd.S_drewN | apply Kd.S_drew)); exact (Kd.S_mono (Kd.S_far (p := ⟨gb122, 1, none⟩) (Kd.S_far (p := ⟨gb122, 0, none⟩) (Kd.S_types HO107.out BK122.out (by decide)) (fun _ hk => hk.2) (.slice Ao43 t118.length co43)) (fun _ hk => hk.2) (.int .i64 t121)) (fun _ h_ => h_.1))) hb); have n1_ := Aside0.mk (Kd.R_elder' (by (with_reducible repeat (first | apply Kd.R_alloc | apply Kd.R_drewN | apply Kd.R_drew)); exact (Kd.R_mono (Kd.R_far (p := ⟨gb122, 1, none⟩) (Kd.R_far (p := ⟨gb122, 0, none⟩) (Kd.R_types HO112.out BK122.out (by decide)) (fun _ hk => hk.2) (.slice Ao43 t118.length co43)) (fun _ hk => hk.2) (.int .i64 t121)) (fun _ h_ => h_.1))) (Kd.R_base ho0) hb); have n2_ := Aside0.mk (Kd.R_elder' (by (with_reducible repeat (first | apply Kd.R_alloc | apply Kd.R_drewN | apply Kd.R_drew)); exact (Kd.R_mono (Kd.R_far (p := ⟨gb122, 1, none⟩) (Kd.R_far (p := ⟨gb122, 0, none⟩) (Kd.R_types HO115.out BK122.out (by decide)) (fun _ hk => hk.2) (.slice Ao43 t118.length co43)) (fun _ hk => hk.2) (.int .i64 t121)) (fun _ h_ => h_.1))) (Kd.R_base ho1) hb); have n3_ := Aside0.mk (Kd.S_below (by (with_reducible repeat (first | apply Kd.S_alloc | apply Kd.S_drewN | apply Kd.S_drew)); exact (Kd.S_mono (Kd.S_far (p := ⟨gb122, 1, none⟩) (Kd.S_far (p := ⟨gb122, 0, none⟩) (Kd.S_types HO120.out BK122.out (by decide)) (fun _ hk => hk.2) (.slice Ao43 t118.length co43)) (fun _ hk => hk.2) (.int .i64 t121)) (fun _ h_ => h_.1))) hb); have n4_ := Aside0.mk (Kd.R_lower (Kd.R_new' ho0 (Kd.R_lt (by (with_reducible repeat (first | apply Kd.R_alloc | apply Kd.R_drewN | apply Kd.R_drew)); exact (Kd.R_mono (Kd.R_far (p := ⟨gb122, 1, none⟩) (Kd.R_far (p := ⟨gb122, 0, none⟩) (Kd.R_types HO112.out BK122.out (by decide)) (fun _ hk => hk.2) (.slice Ao43 t118.length co43)) (fun _ hk => hk.2) (.int .i64 t121)) (fun _ h_ => h_.1))))) (below_size (by repeat (first | (with_reducible first | exact HB.out | apply below_alloc | apply pw_below_drewN | apply below_drew1 | refine below_set ?_ GE101.out | refine below_set ?_ GE102.out | refine below_set ?_ GE122.out) | exact HB.out)))); have n5_ := Aside0.mk (Kd.R_lower (Kd.R_new' ho1 (Kd.R_lt (by (with_reducible repeat (first | apply Kd.R_alloc | apply Kd.R_drewN | apply Kd.R_drew)); exact (Kd.R_mono (Kd.R_far (p := ⟨gb122, 1, none⟩) (Kd.R_far (p := ⟨gb122, 0, none⟩) (Kd.R_types HO115.out BK122.out (by decide)) (fun _ hk => hk.2) (.slice Ao43 t118.length co43)) (fun _ hk => hk.2) (.int .i64 t121)) (fun _ h_ => h_.1))))) (below_size (by repeat (first | (with_reducible first | exact HB.out | apply below_alloc | apply pw_below_drewN | apply below_drew1 | refine below_set ?_ GE101.out | refine below_set ?_ GE102.out | refine below_set ?_ GE122.out) | exact HB.out)))); have n6_ := Aside0.mk (blk_below (g := gb101) (o := .cells #[.slice A0_0 l0_0.length c0_0, .int .i64 a0_1] 24 (0, 0)) (by (with_reducible repeat (first | refine blk_drewN ?_ _ | refine blk_drew ?_ | refine blk_alloc ?_ _)); refine blk_far ?_ NB101_122.out _; (with_reducible repeat (first | refine blk_drewN ?_ _ | refine blk_drew ?_ | refine blk_alloc ?_ _)); refine blk_far ?_ NB101_122.out _; (with_reducible repeat (first | refine blk_drewN ?_ _ | refine blk_drew ?_ | refine blk_alloc ?_ _)); exact BK101.out) hb); have n7_ := Aside0.mk (blk_below (g := gb102) (o := .cells #[.int .i64 a1_0, .slice A1_1 l1_1.length c1_1, .slice A1_2 l1_2.length c1_2] 28 (0, 0)) (by (with_reducible repeat (first | refine blk_drewN ?_ _ | refine blk_drew ?_ | refine blk_alloc ?_ _)); refine blk_far ?_ NB102_122.out _; (with_reducible repeat (first | refine blk_drewN ?_ _ | refine blk_drew ?_ | refine blk_alloc ?_ _)); refine blk_far ?_ NB102_122.out _; (with_reducible repeat (first | refine blk_drewN ?_ _ | refine blk_drew ?_ | refine blk_alloc ?_ _)); exact BK102.out) hb); have n8_ := Aside0.mk (blk_below (g := gb122) (o := .cells #[.slice Ao43 t118.length co43, .int .i64 t121] 34 (0, 0)) (by (with_reducible repeat (first | refine blk_drewN ?_ _ | refine blk_drew ?_ | refine blk_alloc ?_ _)); refine blk_put (cs := #[.slice Ao43 t118.length co43, .int .i64 0]) ?_ 1 _ rfl; (with_reducible repeat (first | refine blk_drewN ?_ _ | refine blk_drew ?_ | refine blk_alloc ?_ _)); refine blk_put (cs := #[.slice none 0 0, .int .i64 0]) ?_ 0 _ rfl; (with_reducible repeat (first | refine blk_drewN ?_ _ | refine blk_drew ?_ | refine blk_alloc ?_ _)); exact BK122.out) hb); have n9_ := Aside0.mk (below_step (by repeat (first | (with_reducible first | exact HB.out | apply below_alloc | apply pw_below_drewN | apply below_drew1 | refine below_set ?_ GE101.out | refine below_set ?_ GE102.out | refine below_set ?_ GE122.out) | exact HB.out)) hb); clear HO107; clear HO112; clear HO115; clear HO120; clear BK101; clear BK102; clear BK122; clear HB; have HO107 := n0_; have HO112 := n1_; have HO115 := n2_; have HO120 := n3_; have HO126 := n4_; have HO129 := n5_; have BK101 := n6_; have BK102 := n7_; have BK122 := n8_; have HB := n9_; clear n0_ n1_ n2_ n3_ n4_ n5_ n6_ n7_ n8_ n9_; (try clear hb); (try clear hb2); (try clear hk); (try clear hi); (try clear ho0); (try clear ho1)) | ((with_reducible refine gate_dst (N := 9) rfl ?_); refine box_event ?hg (N := 9) ?hd (cs := #[.int .i64 0, .slice none 0 0, .slice none 0 0]) (t := 38) ?hr ?_; (case hd => rfl); (case hg => rfl); (case hr => first | (go_simp; done) | (go_simp; rfl)); intro gb130 hg w49 hbox hb; have n0_ := Aside0.mk (Kd.S_below (by (with_reducible repeat (first | apply Kd.S_alloc | apply Kd.S_drewN | apply Kd.S_drew)); exact HO107.out) hb); have n1_ := Aside0.mk (Kd.R_below (by (with_reducible repeat (first | apply Kd.R_alloc | apply Kd.R_drewN | apply Kd.R_drew)); exact HO112.out) hb); have n2_ := Aside0.mk (Kd.R_below (by (with_reducible repeat (first | apply Kd.R_alloc | apply Kd.R_drewN | apply Kd.R_drew)); exact HO115.out) hb); have n3_ := Aside0.mk (Kd.S_below (by (with_reducible repeat (first | apply Kd.S_alloc | apply Kd.S_drewN | apply Kd.S_drew)); exact HO120.out) hb); have n4_ := Aside0.mk (Kd.R_below (by (with_reducible repeat (first | apply Kd.R_alloc | apply Kd.R_drewN | apply Kd.R_drew)); exact HO126.out) hb); have n5_ := Aside0.mk (Kd.R_below (by (with_reducible repeat (first | apply Kd.R_alloc | apply Kd.R_drewN | apply Kd.R_drew)); exact HO129.out) hb); have n6_ := Aside0.mk (blk_below (g := gb101) (o := .cells #[.slice A0_0 l0_0.length c0_0, .int .i64 a0_1] 24 (0, 0)) (by (with_reducible repeat (first | refine blk_drewN ?_ _ | refine blk_drew ?_ | refine blk_alloc ?_ _)); exact BK101.out) hb); have n7_ := Aside0.mk (blk_below (g := gb102) (o := .cells #[.int .i64 a1_0, .slice A1_1 l1_1.length c1_1, .slice A1_2 l1_2.length c1_2] 28 (0, 0)) (by (with_reducible repeat (first | refine blk_drewN ?_ _ | refine blk_drew ?_ | refine blk_alloc ?_ _)); exact BK102.out) hb); have n8_ := Aside0.mk (blk_below (g := gb122) (o := .cells #[.slice Ao43 t118.length co43, .int .i64 t121] 34 (0, 0)) (by (with_reducible repeat (first | refine blk_drewN ?_ _ | refine blk_drew ?_ | refine blk_alloc ?_ _)); exact BK122.out) hb); have n9_ := Aside0.mk (below_step (by repeat (first | (with_reducible first | exact HB.out | apply below_alloc | apply pw_below_drewN | apply below_drew1 | refine below_set ?_ GE101.out | refine below_set ?_ GE102.out | refine below_set ?_ GE122.out) | exact HB.out)) hb); have n10_ := Aside0.mk (hbox); have n11_ := Aside0.mk ((by rw [hg]; exact (below_size (by repeat (first | (with_reducible first | exact HB.out | apply below_alloc | apply pw_below_drewN | apply below_drew1 | refine below_set ?_ GE101.out | refine below_set ?_ GE102.out | refine below_set ?_ GE122.out) | exact HB.out))) : w.heap.size ≤ gb130)); have n12_ := Aside0.mk ((by rw [hg]; exact (below_size (by repeat (first | (with_reducible first | exact HB.out | apply below_alloc | apply pw_below_drewN | apply below_drew1 | refine below_set ?_ GE101.out | refine below_set ?_ GE102.out | refine below_set ?_ GE122.out) | exact HB.out))) : w.heap.size ≤ gb130)); have n13_ := Aside0.mk ((by rw [hg]; exact Nat.ne_of_lt (blk_lt (g := gb101) (o := .cells #[.slice A0_0 l0_0.length c0_0, .int .i64 a0_1] 24 (0, 0)) (by (with_reducible repeat (first | refine blk_drewN ?_ _ | refine blk_drew ?_ | refine blk_alloc ?_ _)); exact BK101.out)) : gb101 ≠ gb130)); have n14_ := Aside0.mk ((by rw [hg]; exact Nat.ne_of_gt (blk_lt (g := gb101) (o := .cells #[.slice A0_0 l0_0.length c0_0, .int .i64 a0_1] 24 (0, 0)) (by (with_reducible repeat (first | refine blk_drewN ?_ _ | refine blk_drew ?_ | refine blk_alloc ?_ _)); exact BK101.out)) : gb130 ≠ gb101)); have n15_ := Aside0.mk ((by rw [hg]; exact Nat.ne_of_lt (blk_lt (g := gb102) (o := .cells #[.int .i64 a1_0, .slice A1_1 l1_1.length c1_1, .slice A1_2 l1_2.length c1_2] 28 (0, 0)) (by (with_reducible repeat (first | refine blk_drewN ?_ _ | refine blk_drew ?_ | refine blk_alloc ?_ _)); exact BK102.out)) : gb102 ≠ gb130)); have n16_ := Aside0.mk ((by rw [hg]; exact Nat.ne_of_gt (blk_lt (g := gb102) (o := .cells #[.int .i64 a1_0, .slice A1_1 l1_1.length c1_1, .slice A1_2 l1_2.length c1_2] 28 (0, 0)) (by (with_reducible repeat (first | refine blk_drewN ?_ _ | refine blk_drew ?_ | refine blk_alloc ?_ _)); exact BK102.out)) : gb130 ≠ gb102)); have n17_ := Aside0.mk ((by rw [hg]; exact Nat.ne_of_lt (blk_lt (g := gb122) (o := .cells #[.slice Ao43 t118.length co43, .int .i64 t121] 34 (0, 0)) (by (with_reducible repeat (first | refine blk_drewN ?_ _ | refine blk_drew ?_ | refine blk_alloc ?_ _)); exact BK122.out)) : gb122 ≠ gb130)); have n18_ := Aside0.mk ((by rw [hg]; exact Nat.ne_of_gt (blk_lt (g := gb122) (o := .cells #[.slice Ao43 t118.length co43, .int .i64 t121] 34 (0, 0)) (by (with_reducible repeat (first | refine blk_drewN ?_ _ | refine blk_drew ?_ | refine blk_alloc ?_ _)); exact BK122.out)) : gb130 ≠ gb122)); clear HO107; clear HO112; clear HO115; clear HO120; clear HO126; clear HO129; clear BK101; clear BK102; clear BK122; clear HB; have HO107 := n0_; have HO112 := n1_; have HO115 := n2_; have HO120 := n3_; have HO126 := n4_; have HO129 := n5_; have BK101 := n6_; have BK102 := n7_; have BK122 := n8_; have HB := n9_; have BK130 := n10_; have GW130 := n11_; have GE130 := n12_; have NB101_130 := n13_; have NB130_101 := n14_; have NB102_130 := n15_; have NB130_102 := n16_; have NB122_130 := n17_; have NB130_122 := n18_; clear n0_ n1_ n2_ n3_ n4_ n5_ n6_ n7_ n8_ n9_ n10_ n11_ n12_ n13_ n14_ n15_ n16_ n17_ n18_; clear hb hbox hg; have hnb50 := NB130_101.out; have hnc50 := NB101_130.out; have hnb51 := NB130_102.out; have hnc51 := NB102_130.out; have hnb52 := NB130_122.out; have hnc52 := NB122_130.out; have hcz53_0 : w49.cell? ⟨gb130, 0, none⟩ = some (.int .i64 0) := (blk_cell BK130.out 0).trans rfl; have hcz53_1 : w49.cell? ⟨gb130, 1, none⟩ = some (.slice none 0 0) := (blk_cell BK130.out 1).trans rfl; have hcz53_2 : w49.cell? ⟨gb130, 2, none⟩ = some (.slice none 0 0) := (blk_cell BK130.out 2).trans rfl; have hfz53_0 := blk_frozen BK130.out 0; have hfz53_1 := blk_frozen BK130.out 1; have hfz53_2 := blk_frozen BK130.out 2; obtain ⟨Ao54, co54, eo54⟩ := Kd.R_slice HO126.out; subst eo54; obtain ⟨Ao55, co55, eo55⟩ := Kd.R_slice HO129.out; subst eo55; have hcz56_0 : w49.cell? ⟨gb122, 0, none⟩ = some (.slice Ao43 t118.length co43) := (blk_cell BK122.out 0).trans rfl; have hcz56_1 : w49.cell? ⟨gb122, 1, none⟩ = some (.int .i64 t121) := (blk_cell BK122.out 1).trans rfl; have hfz56_0 := blk_frozen BK122.out 0; have hfz56_1 := blk_frozen BK122.out 1) | ((with_reducible refine gate_callee (f := 18) rfl ?_); refine goesL_ (some 37) rfl rfl Try.func18 (by kernel_rfl) rfl #[.agg #[.slice Ao43 t118.length co43, .int .i64 t121], .agg #[.int .i64 t123, .slice Ao54 t124.length co54, .slice Ao55 t127.length co55]] rfl (by (try simp only [List.map_toArray, List.map_cons, List.map_nil]); first | done | rfl | (simp only [List.length_drop, List.length_take]; rfl)) ?_; (with_reducible refine (impl_Conflicts.calls k _ _ t118 t121 t123 _ _ t124 _ _ t127 t131 t132 _ ?side1 ?side2 ?side3 ?side4 ?side5 ?side6 A24.out).mono ?_); (case side1 => refine (Kd.S_reads' (e := 92) (base := w.heap.size) (ok := fun k_ => (True ∧ some k_ ≠ (.slice Ao36 t105.length co36 : Value).ownBlock)) (n := t118.length) (c := co43) ?_).2.2; exact (by (with_reducible repeat (first | apply Kd.S_alloc | apply Kd.S_drewN | apply Kd.S_drew)); exact (Kd.S_mono (Kd.S_far (p := ⟨gb130, 2, none⟩) (Kd.S_far (p := ⟨gb130, 1, none⟩) (Kd.S_far (p := ⟨gb130, 0, none⟩) (Kd.S_types HO120.out BK130.out (by decide)) (fun _ hk => hk.2) (.int .i64 t123)) (fun _ hk => hk.2) (.slice Ao54 t124.length co54)) (fun _ hk => hk.2) (.slice Ao55 t127.length co55)) (fun _ h_ => h_.1)))); (case side2 => exact (Kd.S_reads' HO120.out).2.1); (case side3 => refine (Kd.R_reads' (e := 3) (base := w.heap.size) (ok := fun k_ => (True ∧ some k_ ≠ (.slice Ao37 t110.length co37 : Value).ownBlock)) (n := t124.length) (c := co54) ?_).2.2; exact (by (with_reducible repeat (first | apply Kd.R_alloc | apply Kd.R_drewN | apply Kd.R_drew)); exact (Kd.R_mono (Kd.R_far (p := ⟨gb130, 2, none⟩) (Kd.R_far (p := ⟨gb130, 1, none⟩) (Kd.R_far (p := ⟨gb130, 0, none⟩) (Kd.R_types HO126.out BK130.out (by decide)) (fun _ hk => hk.2) (.int .i64 t123)) (fun _ hk => hk.2) (.slice Ao54 t124.length co54)) (fun _ hk => hk.2) (.slice Ao55 t127.length co55)) (fun _ h_ => h_.1)))); (case side4 => exact (Kd.R_reads' HO126.out).2.1); (case side5 => refine (Kd.R_reads' (e := 49) (base := w.heap.size) (ok := fun k_ => (True ∧ some k_ ≠ (.slice Ao38 t113.length co38 : Value).ownBlock)) (n := t127.length) (c := co55) ?_).2.2; exact (by (with_reducible repeat (first | apply Kd.R_alloc | apply Kd.R_drewN | apply Kd.R_drew)); exact (Kd.R_mono (Kd.R_far (p := ⟨gb130, 2, none⟩) (Kd.R_far (p := ⟨gb130, 1, none⟩) (Kd.R_far (p := ⟨gb130, 0, none⟩) (Kd.R_types HO129.out BK130.out (by decide)) (fun _ hk => hk.2) (.int .i64 t123)) (fun _ hk => hk.2) (.slice Ao54 t124.length co54)) (fun _ hk => hk.2) (.slice Ao55 t127.length co55)) (fun _ h_ => h_.1)))); (case side6 => exact (Kd.R_reads' HO129.out).2.1); rintro e w57 ⟨rfl, hb⟩; refine ⟨_, rfl, ?_⟩; have n0_ := Aside0.mk (Kd.S_below (by (with_reducible repeat (first | apply Kd.S_alloc | apply Kd.S_drewN | apply Kd.S_drew)); exact (Kd.S_mono (Kd.S_far (p := ⟨gb130, 2, none⟩) (Kd.S_far (p := ⟨gb130, 1, none⟩) (Kd.S_far (p := ⟨gb130, 0, none⟩) (Kd.S_types HO107.out BK130.out (by decide)) (fun _ hk => hk.2) (.int .i64 t123)) (fun _ hk => hk.2) (.slice Ao54 t124.length co54)) (fun _ hk => hk.2) (.slice Ao55 t127.length co55)) (fun _ h_ => h_.1))) hb); have n1_ := Aside0.mk (Kd.R_below (by (with_reducible repeat (first | apply Kd.R_alloc | apply Kd.R_drewN | apply Kd.R_drew)); exact (Kd.R_mono (Kd.R_far (p := ⟨gb130, 2, none⟩) (Kd.R_far (p := ⟨gb130, 1, none⟩) (Kd.R_far (p := ⟨gb130, 0, none⟩) (Kd.R_types HO112.out BK130.out (by decide)) (fun _ hk => hk.2) (.int .i64 t123)) (fun _ hk => hk.2) (.slice Ao54 t124.length co54)) (fun _ hk => hk.2) (.slice Ao55 t127.length co55)) (fun _ h_ => h_.1))) hb); have n2_ := Aside0.mk (Kd.R_below (by (with_reducible repeat (first | apply Kd.R_alloc | apply Kd.R_drewN | apply Kd.R_drew)); exact (Kd.R_mono (Kd.R_far (p := ⟨gb130, 2, none⟩) (Kd.R_far (p := ⟨gb130, 1, none⟩) (Kd.R_far (p := ⟨gb130, 0, none⟩) (Kd.R_types HO115.out BK130.out (by decide)) (fun _ hk => hk.2) (.int .i64 t123)) (fun _ hk => hk.2) (.slice Ao54 t124.length co54)) (fun _ hk => hk.2) (.slice Ao55 t127.length co55)) (fun _ h_ => h_.1))) hb); have n3_ := Aside0.mk (Kd.S_below (by (with_reducible repeat (first | apply Kd.S_alloc | apply Kd.S_drewN | apply Kd.S_drew)); exact (Kd.S_mono (Kd.S_far (p := ⟨gb130, 2, none⟩) (Kd.S_far (p := ⟨gb130, 1, none⟩) (Kd.S_far (p := ⟨gb130, 0, none⟩) (Kd.S_types HO120.out BK130.out (by decide)) (fun _ hk => hk.2) (.int .i64 t123)) (fun _ hk => hk.2) (.slice Ao54 t124.length co54)) (fun _ hk => hk.2) (.slice Ao55 t127.length co55)) (fun _ h_ => h_.1))) hb); have n4_ := Aside0.mk (Kd.R_below (by (with_reducible repeat (first | apply Kd.R_alloc | apply Kd.R_drewN | apply Kd.R_drew)); exact (Kd.R_mono (Kd.R_far (p := ⟨gb130, 2, none⟩) (Kd.R_far (p := ⟨gb130, 1, none⟩) (Kd.R_far (p := ⟨gb130, 0, none⟩) (Kd.R_types HO126.out BK130.out (by decide)) (fun _ hk => hk.2) (.int .i64 t123)) (fun _ hk => hk.2) (.slice Ao54 t124.length co54)) (fun _ hk => hk.2) (.slice Ao55 t127.length co55)) (fun _ h_ => h_.1))) hb); have n5_ := Aside0.mk (Kd.R_below (by (with_reducible repeat (first | apply Kd.R_alloc | apply Kd.R_drewN | apply Kd.R_drew)); exact (Kd.R_mono (Kd.R_far (p := ⟨gb130, 2, none⟩) (Kd.R_far (p := ⟨gb130, 1, none⟩) (Kd.R_far (p := ⟨gb130, 0, none⟩) (Kd.R_types HO129.out BK130.out (by decide)) (fun _ hk => hk.2) (.int .i64 t123)) (fun _ hk => hk.2) (.slice Ao54 t124.length co54)) (fun _ hk => hk.2) (.slice Ao55 t127.length co55)) (fun _ h_ => h_.1))) hb); have n6_ := Aside0.mk (blk_below (g := gb101) (o := .cells #[.slice A0_0 l0_0.length c0_0, .int .i64 a0_1] 24 (0, 0)) (by (with_reducible repeat (first | refine blk_drewN ?_ _ | refine blk_drew ?_ | refine blk_alloc ?_ _)); refine blk_far ?_ NB101_130.out _; (with_reducible repeat (first | refine blk_drewN ?_ _ | refine blk_drew ?_ | refine blk_alloc ?_ _)); refine blk_far ?_ NB101_130.out _; (with_reducible repeat (first | refine blk_drewN ?_ _ | refine blk_drew ?_ | refine blk_alloc ?_ _)); refine blk_far ?_ NB101_130.out _; (with_reducible repeat (first | refine blk_drewN ?_ _ | refine blk_drew ?_ | refine blk_alloc ?_ _)); exact BK101.out) hb); have n7_ := Aside0.mk (blk_below (g := gb102) (o := .cells #[.int .i64 a1_0, .slice A1_1 l1_1.length c1_1, .slice A1_2 l1_2.length c1_2] 28 (0, 0)) (by (with_reducible repeat (first | refine blk_drewN ?_ _ | refine blk_drew ?_ | refine blk_alloc ?_ _)); refine blk_far ?_ NB102_130.out _; (with_reducible repeat (first | refine blk_drewN ?_ _ | refine blk_drew ?_ | refine blk_alloc ?_ _)); refine blk_far ?_ NB102_130.out _; (with_reducible repeat (first | refine blk_drewN ?_ _ | refine blk_drew ?_ | refine blk_alloc ?_ _)); refine blk_far ?_ NB102_130.out _; (with_reducible repeat (first | refine blk_drewN ?_ _ | refine blk_drew ?_ | refine blk_alloc ?_ _)); exact BK102.out) hb); have n8_ := Aside0.mk (blk_below (g := gb122) (o := .cells #[.slice Ao43 t118.length co43, .int .i64 t121] 34 (0, 0)) (by (with_reducible repeat (first | refine blk_drewN ?_ _ | refine blk_drew ?_ | refine blk_alloc ?_ _)); refine blk_far ?_ NB122_130.out _; (with_reducible repeat (first | refine blk_drewN ?_ _ | refine blk_drew ?_ | refine blk_alloc ?_ _)); refine blk_far ?_ NB122_130.out _; (with_reducible repeat (first | refine blk_drewN ?_ _ | refine blk_drew ?_ | refine blk_alloc ?_ _)); refine blk_far ?_ NB122_130.out _; (with_reducible repeat (first | refine blk_drewN ?_ _ | refine blk_drew ?_ | refine blk_alloc ?_ _)); exact BK122.out) hb); have n9_ := Aside0.mk (blk_below (g := gb130) (o := .cells #[.int .i64 t123, .slice Ao54 t124.length co54, .slice Ao55 t127.length co55] 38 (0, 0)) (by (with_reducible repeat (first | refine blk_drewN ?_ _ | refine blk_drew ?_ | refine blk_alloc ?_ _)); refine blk_put (cs := #[.int .i64 t123, .slice Ao54 t124.length co54, .slice none 0 0]) ?_ 2 _ rfl; (with_reducible repeat (first | refine blk_drewN ?_ _ | refine blk_drew ?_ | refine blk_alloc ?_ _)); refine blk_put (cs := #[.int .i64 t123, .slice none 0 0, .slice none 0 0]) ?_ 1 _ rfl; (with_reducible repeat (first | refine blk_drewN ?_ _ | refine blk_drew ?_ | refine blk_alloc ?_ _)); refine blk_put (cs := #[.int .i64 0, .slice none 0 0, .slice none 0 0]) ?_ 0 _ rfl; (with_reducible repeat (first | refine blk_drewN ?_ _ | refine blk_drew ?_ | refine blk_alloc ?_ _)); exact BK130.out) hb); have n10_ := Aside0.mk (below_step (by repeat (first | (with_reducible first | exact HB.out | apply below_alloc | apply pw_below_drewN | apply below_drew1 | refine below_set ?_ GE101.out | refine below_set ?_ GE102.out | refine below_set ?_ GE122.out | refine below_set ?_ GE130.out) | exact HB.out)) hb); clear HO107; clear HO112; clear HO115; clear HO120; clear HO126; clear HO129; clear BK101; clear BK102; clear BK122; clear BK130; clear HB; have HO107 := n0_; have HO112 := n1_; have HO115 := n2_; have HO120 := n3_; have HO126 := n4_; have HO129 := n5_; have BK101 := n6_; have BK102 := n7_; have BK122 := n8_; have BK130 := n9_; have HB := n10_; clear n0_ n1_ n2_ n3_ n4_ n5_ n6_ n7_ n8_ n9_ n10_; (try clear hb); (try clear hb2); (try clear hk); (try clear hi)))
   (try simp only [Act.put, List.setIfInBounds_toArray, List.set_cons_zero, List.set_cons_succ])
   go_cut [47] (fun v47 wc => ∃ (kq : Nat) (x47_24 : Bool), v47 = .bool x47_24 ∧ Aside0 (laws_FnExactConflicts.j0 kq x47_24 l0_0 a0_1 a1_0 l1_1 l1_2 t118 t121 t123 t124 t127 = some r) ∧ Aside0 (kq ≤ k) ∧ Aside0 (Kd.S (Kd.slice 94 k94) 92 wc w.heap.size (fun _ => True) (.slice Ao43 t118.length co43) t118) ∧ Aside0 (Kd.R (Kd.int .i64) 3 wc w.heap.size (fun _ => True) (.slice Ao54 t124.length co54) t124) ∧ Aside0 (Kd.R k49 49 wc w.heap.size (fun _ => True) (.slice Ao55 t127.length co55) t127) ∧ Aside0 (wc.heap[gb101]? = some (.cells #[(.slice A0_0 l0_0.length c0_0), .int .i64 a0_1] 24 (0, 0))) ∧ Aside0 (wc.heap[gb102]? = some (.cells #[.int .i64 a1_0, (.slice A1_1 l1_1.length c1_1), (.slice A1_2 l1_2.length c1_2)] 28 (0, 0))) ∧ Aside0 (wc.heap[gb122]? = some (.cells #[(.slice Ao43 t118.length co43), .int .i64 t121] 34 (0, 0))) ∧ Aside0 (wc.heap[gb130]? = some (.cells #[.int .i64 t123, (.slice Ao54 t124.length co54), (.slice Ao55 t127.length co55)] 38 (0, 0))) ∧ Aside0 (Below w.heap.size w wc))
   case first =>
    have H := HC25.out
    clear HC25
    by_cases c58 : (t131 != t116) = true
    ·rw [if_pos c58] at H
     have c58b0 : (t131 != t116) = true := c58
     (try (have c58b1 : decide (t131 = t116) = false := by simpa using c58))
     (try (have c58b2 : (t131 == t116) = false := by simpa using c58))
     (try (have c58b3 : ¬ (t131 = t116) := by simpa using c58))
     clear c58
     (first | rw [c58b0] | (simp only [i64_w, i32_w]; rw [c58b0]) | skip)
     have H' := Aside0.mk H
     clear H
     go_wp2
     go_meet
     case rel => exact ⟨_, (true), (by first | rfl | (simp; done) | (simp [*]; done)), H', ⟨by first | omega | exact Nat.le_refl _⟩, ⟨by (with_reducible repeat (first | apply Kd.S_alloc | apply Kd.S_drewN | apply Kd.S_drew)); exact Kd.S_mono HO120.out (fun _ hk => trivial)⟩, ⟨by (with_reducible repeat (first | apply Kd.R_alloc | apply Kd.R_drewN | apply Kd.R_drew)); exact Kd.R_mono HO126.out (fun _ hk => trivial)⟩, ⟨by (with_reducible repeat (first | apply Kd.R_alloc | apply Kd.R_drewN | apply Kd.R_drew)); exact Kd.R_mono HO129.out (fun _ hk => trivial)⟩, ⟨by (with_reducible repeat (first | refine blk_drewN ?_ _ | refine blk_drew ?_ | refine blk_alloc ?_ _)); exact BK101.out⟩, ⟨by (with_reducible repeat (first | refine blk_drewN ?_ _ | refine blk_drew ?_ | refine blk_alloc ?_ _)); exact BK102.out⟩, ⟨by (with_reducible repeat (first | refine blk_drewN ?_ _ | refine blk_drew ?_ | refine blk_alloc ?_ _)); exact BK122.out⟩, ⟨by (with_reducible repeat (first | refine blk_drewN ?_ _ | refine blk_drew ?_ | refine blk_alloc ?_ _)); exact BK130.out⟩, ⟨by repeat (first | (with_reducible first | exact HB.out | apply below_alloc | apply pw_below_drewN | apply below_drew1 | refine below_set ?_ GE101.out | refine below_set ?_ GE102.out | refine below_set ?_ GE122.out | refine below_set ?_ GE130.out) | exact HB.out)⟩⟩
    ·rw [if_neg c58] at H
     have c58b0 : (t131 != t116) = false := by simpa using c58
     (try (have c58b1 : decide (t131 = t116) = true := by simpa using c58))
     (try (have c58b2 : (t131 == t116) = true := by simpa using c58))
     clear c58
     (first | rw [c58b0] | (simp only [i64_w, i32_w]; rw [c58b0]) | skip)
     have H' := Aside0.mk H
     clear H
     go_wp2
     go_meet
     case rel => exact ⟨_, ((t132 != t117)), (by first | rfl | (simp; done) | (simp [*]; done)), H', ⟨by first | omega | exact Nat.le_refl _⟩, ⟨by (with_reducible repeat (first | apply Kd.S_alloc | apply Kd.S_drewN | apply Kd.S_drew)); exact Kd.S_mono HO120.out (fun _ hk => trivial)⟩, ⟨by (with_reducible repeat (first | apply Kd.R_alloc | apply Kd.R_drewN | apply Kd.R_drew)); exact Kd.R_mono HO126.out (fun _ hk => trivial)⟩, ⟨by (with_reducible repeat (first | apply Kd.R_alloc | apply Kd.R_drewN | apply Kd.R_drew)); exact Kd.R_mono HO129.out (fun _ hk => trivial)⟩, ⟨by (with_reducible repeat (first | refine blk_drewN ?_ _ | refine blk_drew ?_ | refine blk_alloc ?_ _)); exact BK101.out⟩, ⟨by (with_reducible repeat (first | refine blk_drewN ?_ _ | refine blk_drew ?_ | refine blk_alloc ?_ _)); exact BK102.out⟩, ⟨by (with_reducible repeat (first | refine blk_drewN ?_ _ | refine blk_drew ?_ | refine blk_alloc ?_ _)); exact BK122.out⟩, ⟨by (with_reducible repeat (first | refine blk_drewN ?_ _ | refine blk_drew ?_ | refine blk_alloc ?_ _)); exact BK130.out⟩, ⟨by repeat (first | (with_reducible first | exact HB.out | apply below_alloc | apply pw_below_drewN | apply below_drew1 | refine below_set ?_ GE101.out | refine below_set ?_ GE102.out | refine below_set ?_ GE122.out | refine below_set ?_ GE130.out) | exact HB.out)⟩⟩
   case rest =>
    clear HC25
    try clear c1
    try clear c2
    try clear p2
    try clear c4
    try clear c4b0
    try clear c5
    try clear c7
    try clear c9
    try clear c10
    try clear c11
    try clear c11b0
    try clear c12
    try clear c13
    try clear c14
    try clear c17
    try clear c18
    try clear c28
    try clear c44
    try clear c45
    try clear c50
    try clear c51
    try clear c52
    try clear c58
    try clear c58b0
    try clear c58b1
    try clear c58b2
    try clear hcz15_0
    try clear hcz15_1
    try clear hcz17_0
    try clear hcz17_1
    try clear hcz17_2
    try clear hcz29_0
    try clear hcz29_1
    try clear hcz31_0
    try clear hcz31_1
    try clear hcz31_2
    try clear hcz40_0
    try clear hcz40_1
    try clear hcz46_0
    try clear hcz46_1
    try clear hcz47_0
    try clear hcz47_1
    try clear hcz47_2
    try clear hcz53_0
    try clear hcz53_1
    try clear hcz53_2
    try clear hcz56_0
    try clear hcz56_1
    try clear hcz8_0
    try clear hcz8_1
    try clear hfz15_0
    try clear hfz15_1
    try clear hfz17_0
    try clear hfz17_1
    try clear hfz17_2
    try clear hfz29_0
    try clear hfz29_1
    try clear hfz31_0
    try clear hfz31_1
    try clear hfz31_2
    try clear hfz40_0
    try clear hfz40_1
    try clear hfz46_0
    try clear hfz46_1
    try clear hfz47_0
    try clear hfz47_1
    try clear hfz47_2
    try clear hfz53_0
    try clear hfz53_1
    try clear hfz53_2
    try clear hfz56_0
    try clear hfz56_1
    try clear hfz8_0
    try clear hfz8_1
    obtain ⟨kq, x47_24, rfl, HA, HJ24, HO_123000, HO_131001, HO_131002, BK101, BK102, BK122, BK130, HB⟩ := hcut
    cases kq with
    | zero => exact absurd HA.out (by simp [laws_FnExactConflicts.j0])
    | succ kj24 =>
     have H := HA.out
     clear HA
     simp only [laws_FnExactConflicts.j0] at H
     by_cases c59 : x47_24 = true
     ·subst c59
      have H1 : (none) = some r := by rw [if_pos rfl] at H; exact H
      clear H
      have H := H1
      clear H1
      exact absurd H (by simp)
     ·replace c59 := Bool.eq_false_iff.mpr c59
      subst c59
      have H1 : ((laws_toStore.f kj24 l0_0 a0_1).bind fun bt133 => ((laws_eqStore.f kj24 t118 t121 bt133.1 bt133.2).bind fun t137 => (if t137 = true then ((laws_toTxn.f kj24 a1_0 l1_1 l1_2).bind fun bt138 => ((laws_eqTxn.f kj24 t123 t124 t127 bt138.1 bt138.2.1 bt138.2.2).bind fun t145 => (if t145 = true then (some true) else (none)))) else (none)))) = some r := by rw [if_neg (show ¬ (false = true) by decide)] at H; exact H
      clear H
      have H := H1
      clear H1
      replace H := Option.bind_eq_some_iff.mp H
      obtain ⟨⟨t133, t136⟩, A600, H⟩ := H
      replace H : ((laws_eqStore.f kj24 t118 t121 t133 t136).bind fun t137 => (if t137 = true then ((laws_toTxn.f kj24 a1_0 l1_1 l1_2).bind fun bt138 => ((laws_eqTxn.f kj24 t123 t124 t127 bt138.1 bt138.2.1 bt138.2.2).bind fun t145 => (if t145 = true then (some true) else (none)))) else (none))) = some r := H
      have A60 := Aside0.mk A600
      clear A600
      replace H := Option.bind_eq_some_iff.mp H
      obtain ⟨t137, A610, H⟩ := H
      replace H : (if t137 = true then ((laws_toTxn.f kj24 a1_0 l1_1 l1_2).bind fun bt138 => ((laws_eqTxn.f kj24 t123 t124 t127 bt138.1 bt138.2.1 bt138.2.2).bind fun t145 => (if t145 = true then (some true) else (none)))) else (none)) = some r := H
      have A61 := Aside0.mk A610
      clear A610
      by_cases c62 : t137 = true
      ·subst c62
       have H1 : ((laws_toTxn.f kj24 a1_0 l1_1 l1_2).bind fun bt138 => ((laws_eqTxn.f kj24 t123 t124 t127 bt138.1 bt138.2.1 bt138.2.2).bind fun t145 => (if t145 = true then (some true) else (none)))) = some r := by rw [if_pos rfl] at H; exact H
       clear H
       have H := H1
       clear H1
       replace H := Option.bind_eq_some_iff.mp H
       obtain ⟨⟨t138, t139, t142⟩, A630, H⟩ := H
       replace H : ((laws_eqTxn.f kj24 t123 t124 t127 t138 t139 t142).bind fun t145 => (if t145 = true then (some true) else (none))) = some r := H
       have A63 := Aside0.mk A630
       clear A630
       replace H := Option.bind_eq_some_iff.mp H
       obtain ⟨t145, A640, H⟩ := H
       replace H : (if t145 = true then (some true) else (none)) = some r := H
       have A64 := Aside0.mk A640
       clear A640
       by_cases c65 : t145 = true
       ·subst c65
        have H1 : (some true) = some r := by rw [if_pos rfl] at H; exact H
        clear H
        have H := H1
        clear H1
        obtain rfl := Option.some.inj H
        try go_wp2
        have n0_ := Aside0.mk (Kd.S_drew HO_123000.out)
        have n1_ := Aside0.mk (Kd.R_drew HO_131001.out)
        have n2_ := Aside0.mk (Kd.R_drew HO_131002.out)
        have n3_ := Aside0.mk (blk_drew BK101.out)
        have n4_ := Aside0.mk (blk_drew BK102.out)
        have n5_ := Aside0.mk (blk_drew BK122.out)
        have n6_ := Aside0.mk (blk_drew BK130.out)
        have n7_ := Aside0.mk (below_drew1 HB.out)
        clear HO_123000
        clear HO_131001
        clear HO_131002
        clear BK101
        clear BK102
        clear BK122
        clear BK130
        clear HB
        have HO_123000 := n0_
        have HO_131001 := n1_
        have HO_131002 := n2_
        have BK101 := n3_
        have BK102 := n4_
        have BK122 := n5_
        have BK130 := n6_
        have HB := n7_
        clear n0_ n1_ n2_ n3_ n4_ n5_ n6_ n7_
        refine start_ (n := 5) (S := fun w' => w'.cell? ⟨gb122, 0, none⟩ = some (.slice Ao43 t118.length co43) ∧ w'.cell? ⟨gb122, 1, none⟩ = some (.int .i64 t121) ∧ w'.cell? ⟨gb101, 0, none⟩ = some (.slice A0_0 l0_0.length c0_0) ∧ w'.cell? ⟨gb101, 1, none⟩ = some (.int .i64 a0_1)) (ds := []) #[false, false, false, false, false] (by kernel_rfl) rfl rfl ⟨(blk_cell BK122.out 0).trans rfl, (blk_cell BK122.out 1).trans rfl, (blk_cell BK101.out 0).trans rfl, (blk_cell BK101.out 1).trans rfl⟩ (fun hHeld => ?_)
        generalize wc.drew = w66 at HO_123000 HO_131001 HO_131002 BK101 BK102 BK122 BK130 HB hHeld ⊢
        refine take_ (i := 0) (N := some 48) (v := ?_) (a' := ?_) #[true, false, false, false, false] rfl rfl (by kernel_rfl) (fun _ _ _ h => h) (Or.inl ⟨by rfl, ?_⟩) hHeld ?_ ?_
        rotate_left
        ·rintro w' ⟨s0, s1, s2, s3⟩
         go_simp
         with_reducible rfl
        rotate_left
        ·simp only [Act.put, List.setIfInBounds_toArray, List.set_cons_zero, List.set_cons_succ, i64_w, i32_w]
         rfl
        refine take_ (i := 1) (N := some 49) (v := ?_) (a' := ?_) #[true, true, false, false, false] rfl rfl (by kernel_rfl) (fun _ _ _ h => h) (Or.inl ⟨by rfl, ?_⟩) hHeld ?_ ?_
        rotate_left
        ·rintro w' ⟨s0, s1, s2, s3⟩
         go_simp
         with_reducible rfl
        rotate_left
        ·simp only [Act.put, List.setIfInBounds_toArray, List.set_cons_zero, List.set_cons_succ, i64_w, i32_w]
         rfl
        refine one_ (i := 2) (N := some 50) #[true, true, true, false, false] rfl rfl (by kernel_rfl) (by decide) (fun K hK => ?_)
        refine goes_ Try.func12 (by kernel_rfl) rfl #[.agg #[.slice A0_0 l0_0.length c0_0, .int .i64 a0_1]] (by rfl) rfl rfl (by (try simp only [List.map_toArray, List.map_cons, List.map_nil]); first | done | rfl | (simp only [List.length_drop, List.length_take]; rfl)) ?_
        with_reducible refine (laws_toStore.calls kj24 _ _ l0_0 a0_1 t133 t136 _ ?side1 ?side2 A60.out).mono ?_
        (case side1 => repeat (first | exact (Kd.C_below HR0_0.out HB.out) | (with_reducible refine Kd.C_alloc ?_ _) | (with_reducible refine Kd.C_drewN ?_ _) | (with_reducible refine Kd.C_drew ?_)))
        (case side2 => exact HC0_0.out)
        rintro e w67 ⟨v134, rfl, ho0, hb⟩
        refine ⟨_, rfl, ?_⟩
        have n0_ := Aside0.mk (Kd.S_elder' (by (with_reducible repeat (first | apply Kd.S_alloc | apply Kd.S_drewN | apply Kd.S_drew)); exact HO_123000.out) (Kd.S_base ho0) hb)
        have n1_ := Aside0.mk (Kd.R_below (by (with_reducible repeat (first | apply Kd.R_alloc | apply Kd.R_drewN | apply Kd.R_drew)); exact HO_131001.out) hb)
        have n2_ := Aside0.mk (Kd.R_below (by (with_reducible repeat (first | apply Kd.R_alloc | apply Kd.R_drewN | apply Kd.R_drew)); exact HO_131002.out) hb)
        have n3_ := Aside0.mk (Kd.S_lower (Kd.S_new' ho0 (Kd.S_lt (by (with_reducible repeat (first | apply Kd.S_alloc | apply Kd.S_drewN | apply Kd.S_drew)); exact HO_123000.out))) (below_size (by repeat (first | (with_reducible first | exact HB.out | apply below_alloc | apply pw_below_drewN | apply below_drew1 | refine below_set ?_ GE101.out | refine below_set ?_ GE102.out | refine below_set ?_ GE122.out | refine below_set ?_ GE130.out) | exact HB.out))))
        have n4_ := Aside0.mk (blk_below (g := gb101) (o := .cells #[.slice A0_0 l0_0.length c0_0, .int .i64 a0_1] 24 (0, 0)) (by (with_reducible repeat (first | refine blk_drewN ?_ _ | refine blk_drew ?_ | refine blk_alloc ?_ _)); exact BK101.out) hb)
        have n5_ := Aside0.mk (blk_below (g := gb102) (o := .cells #[.int .i64 a1_0, .slice A1_1 l1_1.length c1_1, .slice A1_2 l1_2.length c1_2] 28 (0, 0)) (by (with_reducible repeat (first | refine blk_drewN ?_ _ | refine blk_drew ?_ | refine blk_alloc ?_ _)); exact BK102.out) hb)
        have n6_ := Aside0.mk (blk_below (g := gb122) (o := .cells #[.slice Ao43 t118.length co43, .int .i64 t121] 34 (0, 0)) (by (with_reducible repeat (first | refine blk_drewN ?_ _ | refine blk_drew ?_ | refine blk_alloc ?_ _)); exact BK122.out) hb)
        have n7_ := Aside0.mk (blk_below (g := gb130) (o := .cells #[.int .i64 t123, .slice Ao54 t124.length co54, .slice Ao55 t127.length co55] 38 (0, 0)) (by (with_reducible repeat (first | refine blk_drewN ?_ _ | refine blk_drew ?_ | refine blk_alloc ?_ _)); exact BK130.out) hb)
        have n8_ := Aside0.mk (below_step (by repeat (first | (with_reducible first | exact HB.out | apply below_alloc | apply pw_below_drewN | apply below_drew1 | refine below_set ?_ GE101.out | refine below_set ?_ GE102.out | refine below_set ?_ GE122.out | refine below_set ?_ GE130.out) | exact HB.out)) hb)
        clear HO_123000
        clear HO_131001
        clear HO_131002
        clear BK101
        clear BK102
        clear BK122
        clear BK130
        clear HB
        have HO_123000 := n0_
        have HO_131001 := n1_
        have HO_131002 := n2_
        have HO135 := n3_
        have BK101 := n4_
        have BK102 := n5_
        have BK122 := n6_
        have BK130 := n7_
        have HB := n8_
        clear n0_ n1_ n2_ n3_ n4_ n5_ n6_ n7_ n8_
        (try clear hb)
        (try clear hb2)
        (try clear hk)
        (try clear hi)
        (try clear ho0)
        obtain ⟨Ao68, co68, eo68⟩ := Kd.S_slice HO135.out
        (first | subst eo68 | (injection eo68 with f1_ f2_ f3_; have f4_ := f1_.symm; have f5_ := f3_.symm; clear f1_ f2_ f3_; subst f4_; subst f5_))
        refine hK.out _ _ ⟨(blk_cell BK122.out 0).trans rfl, (blk_cell BK122.out 1).trans rfl, (blk_cell BK101.out 0).trans rfl, (blk_cell BK101.out 1).trans rfl⟩ (fun hHeld => ?_)
        clear hK K
        refine norm_ (a' := ?_) ?_ ?_
        rotate_left
        ·show Act.put _ (some 50) _ = _
         simp only [Act.put, List.setIfInBounds_toArray, List.set_cons_zero, List.set_cons_succ, i64_w, i32_w]
         rfl
        refine one_ (i := 3) (N := some 51) #[true, true, true, true, false] rfl rfl (by kernel_rfl) (by decide) (fun K hK => ?_)
        refine goes_ Try.func15 (by kernel_rfl) rfl #[.agg #[.slice Ao43 t118.length co43, .int .i64 t121], .agg #[.slice Ao68 t133.length co68, .int .i64 t136]] (by rfl) rfl rfl (by (try simp only [List.map_toArray, List.map_cons, List.map_nil]); first | done | rfl | (simp only [List.length_drop, List.length_take]; rfl)) ?_
        with_reducible refine (laws_eqStore.calls kj24 _ _ t118 t121 _ _ t133 t136 true _ ?side1 ?side2 ?side3 ?side4 A61.out).mono ?_
        (case side1 => repeat (first | exact (Kd.S_reads' HO_123000.out).2.2 | (with_reducible refine Kd.C_alloc ?_ _) | (with_reducible refine Kd.C_drewN ?_ _) | (with_reducible refine Kd.C_drew ?_)))
        (case side2 => exact (Kd.S_reads' HO_123000.out).2.1)
        (case side3 => repeat (first | exact (Kd.S_reads' HO135.out).2.2 | (with_reducible refine Kd.C_alloc ?_ _) | (with_reducible refine Kd.C_drewN ?_ _) | (with_reducible refine Kd.C_drew ?_)))
        (case side4 => exact (Kd.S_reads' HO135.out).2.1)
        rintro e w69 ⟨rfl, hb⟩
        refine ⟨_, rfl, ?_⟩
        have n0_ := Aside0.mk (Kd.S_below (by (with_reducible repeat (first | apply Kd.S_alloc | apply Kd.S_drewN | apply Kd.S_drew)); exact HO_123000.out) hb)
        have n1_ := Aside0.mk (Kd.R_below (by (with_reducible repeat (first | apply Kd.R_alloc | apply Kd.R_drewN | apply Kd.R_drew)); exact HO_131001.out) hb)
        have n2_ := Aside0.mk (Kd.R_below (by (with_reducible repeat (first | apply Kd.R_alloc | apply Kd.R_drewN | apply Kd.R_drew)); exact HO_131002.out) hb)
        have n3_ := Aside0.mk (Kd.S_below (by (with_reducible repeat (first | apply Kd.S_alloc | apply Kd.S_drewN | apply Kd.S_drew)); exact HO135.out) hb)
        have n4_ := Aside0.mk (blk_below (g := gb101) (o := .cells #[.slice A0_0 l0_0.length c0_0, .int .i64 a0_1] 24 (0, 0)) (by (with_reducible repeat (first | refine blk_drewN ?_ _ | refine blk_drew ?_ | refine blk_alloc ?_ _)); exact BK101.out) hb)
        have n5_ := Aside0.mk (blk_below (g := gb102) (o := .cells #[.int .i64 a1_0, .slice A1_1 l1_1.length c1_1, .slice A1_2 l1_2.length c1_2] 28 (0, 0)) (by (with_reducible repeat (first | refine blk_drewN ?_ _ | refine blk_drew ?_ | refine blk_alloc ?_ _)); exact BK102.out) hb)
        have n6_ := Aside0.mk (blk_below (g := gb122) (o := .cells #[.slice Ao43 t118.length co43, .int .i64 t121] 34 (0, 0)) (by (with_reducible repeat (first | refine blk_drewN ?_ _ | refine blk_drew ?_ | refine blk_alloc ?_ _)); exact BK122.out) hb)
        have n7_ := Aside0.mk (blk_below (g := gb130) (o := .cells #[.int .i64 t123, .slice Ao54 t124.length co54, .slice Ao55 t127.length co55] 38 (0, 0)) (by (with_reducible repeat (first | refine blk_drewN ?_ _ | refine blk_drew ?_ | refine blk_alloc ?_ _)); exact BK130.out) hb)
        have n8_ := Aside0.mk (below_step (by repeat (first | (with_reducible first | exact HB.out | apply below_alloc | apply pw_below_drewN | apply below_drew1 | refine below_set ?_ GE101.out | refine below_set ?_ GE102.out | refine below_set ?_ GE122.out | refine below_set ?_ GE130.out) | exact HB.out)) hb)
        clear HO_123000
        clear HO_131001
        clear HO_131002
        clear HO135
        clear BK101
        clear BK102
        clear BK122
        clear BK130
        clear HB
        have HO_123000 := n0_
        have HO_131001 := n1_
        have HO_131002 := n2_
        have HO135 := n3_
        have BK101 := n4_
        have BK102 := n5_
        have BK122 := n6_
        have BK130 := n7_
        have HB := n8_
        clear n0_ n1_ n2_ n3_ n4_ n5_ n6_ n7_ n8_
        (try clear hb)
        (try clear hb2)
        (try clear hk)
        (try clear hi)
        refine hK.out _ _ ⟨(blk_cell BK122.out 0).trans rfl, (blk_cell BK122.out 1).trans rfl, (blk_cell BK101.out 0).trans rfl, (blk_cell BK101.out 1).trans rfl⟩ (fun hHeld => ?_)
        clear hK K
        refine norm_ (a' := ?_) ?_ ?_
        rotate_left
        ·show Act.put _ (some 51) _ = _
         simp only [Act.put, List.setIfInBounds_toArray, List.set_cons_zero, List.set_cons_succ, i64_w, i32_w]
         rfl
        refine pure_ (i := 4) (N := some 52) (v := ?_) (a' := ?_) #[true, true, true, true, true] rfl rfl (by kernel_rfl) (fun _ _ _ h => h) (Or.inl ⟨by rfl, ?_⟩) ?_ ?_
        rotate_left
        ·intro w'
         go_simp
         with_reducible rfl
        rotate_left
        ·simp only [Act.put, List.setIfInBounds_toArray, List.set_cons_zero, List.set_cons_succ, i64_w, i32_w]
         rfl
        refine done_ (by kernel_rfl) ?_
        try go_wp2
        have n0_ := Aside0.mk (Kd.S_drew HO_123000.out)
        have n1_ := Aside0.mk (Kd.R_drew HO_131001.out)
        have n2_ := Aside0.mk (Kd.R_drew HO_131002.out)
        have n3_ := Aside0.mk (Kd.S_drew HO135.out)
        have n4_ := Aside0.mk (blk_drew BK101.out)
        have n5_ := Aside0.mk (blk_drew BK102.out)
        have n6_ := Aside0.mk (blk_drew BK122.out)
        have n7_ := Aside0.mk (blk_drew BK130.out)
        have n8_ := Aside0.mk (below_drew1 HB.out)
        clear HO_123000
        clear HO_131001
        clear HO_131002
        clear HO135
        clear BK101
        clear BK102
        clear BK122
        clear BK130
        clear HB
        have HO_123000 := n0_
        have HO_131001 := n1_
        have HO_131002 := n2_
        have HO135 := n3_
        have BK101 := n4_
        have BK102 := n5_
        have BK122 := n6_
        have BK130 := n7_
        have HB := n8_
        clear n0_ n1_ n2_ n3_ n4_ n5_ n6_ n7_ n8_
        refine start_ (n := 5) (S := fun w' => w'.cell? ⟨gb130, 0, none⟩ = some (.int .i64 t123) ∧ w'.cell? ⟨gb130, 1, none⟩ = some (.slice Ao54 t124.length co54) ∧ w'.cell? ⟨gb130, 2, none⟩ = some (.slice Ao55 t127.length co55) ∧ w'.cell? ⟨gb102, 0, none⟩ = some (.int .i64 a1_0) ∧ w'.cell? ⟨gb102, 1, none⟩ = some (.slice A1_1 l1_1.length c1_1) ∧ w'.cell? ⟨gb102, 2, none⟩ = some (.slice A1_2 l1_2.length c1_2)) (ds := []) #[false, false, false, false, false] (by kernel_rfl) rfl rfl ⟨(blk_cell BK130.out 0).trans rfl, (blk_cell BK130.out 1).trans rfl, (blk_cell BK130.out 2).trans rfl, (blk_cell BK102.out 0).trans rfl, (blk_cell BK102.out 1).trans rfl, (blk_cell BK102.out 2).trans rfl⟩ (fun hHeld => ?_)
        generalize w69.drew = w70 at HO_123000 HO_131001 HO_131002 HO135 BK101 BK102 BK122 BK130 HB hHeld ⊢
        refine take_ (i := 0) (N := some 53) (v := ?_) (a' := ?_) #[true, false, false, false, false] rfl rfl (by kernel_rfl) (fun _ _ _ h => h) (Or.inl ⟨by rfl, ?_⟩) hHeld ?_ ?_
        rotate_left
        ·rintro w' ⟨s0, s1, s2, s3, s4, s5⟩
         go_simp
         with_reducible rfl
        rotate_left
        ·simp only [Act.put, List.setIfInBounds_toArray, List.set_cons_zero, List.set_cons_succ, i64_w, i32_w]
         rfl
        refine take_ (i := 1) (N := some 54) (v := ?_) (a' := ?_) #[true, true, false, false, false] rfl rfl (by kernel_rfl) (fun _ _ _ h => h) (Or.inl ⟨by rfl, ?_⟩) hHeld ?_ ?_
        rotate_left
        ·rintro w' ⟨s0, s1, s2, s3, s4, s5⟩
         go_simp
         with_reducible rfl
        rotate_left
        ·simp only [Act.put, List.setIfInBounds_toArray, List.set_cons_zero, List.set_cons_succ, i64_w, i32_w]
         rfl
        refine one_ (i := 2) (N := some 55) #[true, true, true, false, false] rfl rfl (by kernel_rfl) (by decide) (fun K hK => ?_)
        refine goes_ Try.func13 (by kernel_rfl) rfl #[.agg #[.int .i64 a1_0, .slice A1_1 l1_1.length c1_1, .slice A1_2 l1_2.length c1_2]] (by rfl) rfl rfl (by (try simp only [List.map_toArray, List.map_cons, List.map_nil]); first | done | rfl | (simp only [List.length_drop, List.length_take]; rfl)) ?_
        with_reducible refine (laws_toTxn.calls kj24 a1_0 _ _ l1_1 _ _ l1_2 t138 t139 t142 _ ?side1 ?side2 ?side3 ?side4 A63.out).mono ?_
        (case side1 => repeat (first | exact (Kd.C_below HR1_1.out HB.out) | (with_reducible refine Kd.C_alloc ?_ _) | (with_reducible refine Kd.C_drewN ?_ _) | (with_reducible refine Kd.C_drew ?_)))
        (case side2 => exact HC1_1.out)
        (case side3 => repeat (first | exact (Kd.C_below HR1_2.out HB.out) | (with_reducible refine Kd.C_alloc ?_ _) | (with_reducible refine Kd.C_drewN ?_ _) | (with_reducible refine Kd.C_drew ?_)))
        (case side4 => exact HC1_2.out)
        rintro e w71 ⟨v140, v143, rfl, ho0, ho1, hb⟩
        refine ⟨_, rfl, ?_⟩
        have n0_ := Aside0.mk (Kd.S_below (by (with_reducible repeat (first | apply Kd.S_alloc | apply Kd.S_drewN | apply Kd.S_drew)); exact HO_123000.out) hb)
        have n1_ := Aside0.mk (Kd.R_elder' (by (with_reducible repeat (first | apply Kd.R_alloc | apply Kd.R_drewN | apply Kd.R_drew)); exact HO_131001.out) (Kd.R_base ho0) hb)
        have n2_ := Aside0.mk (Kd.R_elder' (by (with_reducible repeat (first | apply Kd.R_alloc | apply Kd.R_drewN | apply Kd.R_drew)); exact HO_131002.out) (Kd.R_base ho1) hb)
        have n3_ := Aside0.mk (Kd.S_below (by (with_reducible repeat (first | apply Kd.S_alloc | apply Kd.S_drewN | apply Kd.S_drew)); exact HO135.out) hb)
        have n4_ := Aside0.mk (Kd.R_lower (Kd.R_new' ho0 (Kd.R_lt (by (with_reducible repeat (first | apply Kd.R_alloc | apply Kd.R_drewN | apply Kd.R_drew)); exact HO_131001.out))) (below_size (by repeat (first | (with_reducible first | exact HB.out | apply below_alloc | apply pw_below_drewN | apply below_drew1 | refine below_set ?_ GE101.out | refine below_set ?_ GE102.out | refine below_set ?_ GE122.out | refine below_set ?_ GE130.out) | exact HB.out))))
        have n5_ := Aside0.mk (Kd.R_lower (Kd.R_new' ho1 (Kd.R_lt (by (with_reducible repeat (first | apply Kd.R_alloc | apply Kd.R_drewN | apply Kd.R_drew)); exact HO_131002.out))) (below_size (by repeat (first | (with_reducible first | exact HB.out | apply below_alloc | apply pw_below_drewN | apply below_drew1 | refine below_set ?_ GE101.out | refine below_set ?_ GE102.out | refine below_set ?_ GE122.out | refine below_set ?_ GE130.out) | exact HB.out))))
        have n6_ := Aside0.mk (blk_below (g := gb101) (o := .cells #[.slice A0_0 l0_0.length c0_0, .int .i64 a0_1] 24 (0, 0)) (by (with_reducible repeat (first | refine blk_drewN ?_ _ | refine blk_drew ?_ | refine blk_alloc ?_ _)); exact BK101.out) hb)
        have n7_ := Aside0.mk (blk_below (g := gb102) (o := .cells #[.int .i64 a1_0, .slice A1_1 l1_1.length c1_1, .slice A1_2 l1_2.length c1_2] 28 (0, 0)) (by (with_reducible repeat (first | refine blk_drewN ?_ _ | refine blk_drew ?_ | refine blk_alloc ?_ _)); exact BK102.out) hb)
        have n8_ := Aside0.mk (blk_below (g := gb122) (o := .cells #[.slice Ao43 t118.length co43, .int .i64 t121] 34 (0, 0)) (by (with_reducible repeat (first | refine blk_drewN ?_ _ | refine blk_drew ?_ | refine blk_alloc ?_ _)); exact BK122.out) hb)
        have n9_ := Aside0.mk (blk_below (g := gb130) (o := .cells #[.int .i64 t123, .slice Ao54 t124.length co54, .slice Ao55 t127.length co55] 38 (0, 0)) (by (with_reducible repeat (first | refine blk_drewN ?_ _ | refine blk_drew ?_ | refine blk_alloc ?_ _)); exact BK130.out) hb)
        have n10_ := Aside0.mk (below_step (by repeat (first | (with_reducible first | exact HB.out | apply below_alloc | apply pw_below_drewN | apply below_drew1 | refine below_set ?_ GE101.out | refine below_set ?_ GE102.out | refine below_set ?_ GE122.out | refine below_set ?_ GE130.out) | exact HB.out)) hb)
        clear HO_123000
        clear HO_131001
        clear HO_131002
        clear HO135
        clear BK101
        clear BK102
        clear BK122
        clear BK130
        clear HB
        have HO_123000 := n0_
        have HO_131001 := n1_
        have HO_131002 := n2_
        have HO135 := n3_
        have HO141 := n4_
        have HO144 := n5_
        have BK101 := n6_
        have BK102 := n7_
        have BK122 := n8_
        have BK130 := n9_
        have HB := n10_
        clear n0_ n1_ n2_ n3_ n4_ n5_ n6_ n7_ n8_ n9_ n10_
        (try clear hb)
        (try clear hb2)
        (try clear hk)
        (try clear hi)
        (try clear ho0)
        (try clear ho1)
        obtain ⟨Ao72, co72, eo72⟩ := Kd.R_slice HO141.out
        (first | subst eo72 | (injection eo72 with f1_ f2_ f3_; have f4_ := f1_.symm; have f5_ := f3_.symm; clear f1_ f2_ f3_; subst f4_; subst f5_))
        obtain ⟨Ao73, co73, eo73⟩ := Kd.R_slice HO144.out
        (first | subst eo73 | (injection eo73 with f1_ f2_ f3_; have f4_ := f1_.symm; have f5_ := f3_.symm; clear f1_ f2_ f3_; subst f4_; subst f5_))
        refine hK.out _ _ ⟨(blk_cell BK130.out 0).trans rfl, (blk_cell BK130.out 1).trans rfl, (blk_cell BK130.out 2).trans rfl, (blk_cell BK102.out 0).trans rfl, (blk_cell BK102.out 1).trans rfl, (blk_cell BK102.out 2).trans rfl⟩ (fun hHeld => ?_)
        clear hK K
        refine norm_ (a' := ?_) ?_ ?_
        rotate_left
        ·show Act.put _ (some 55) _ = _
         simp only [Act.put, List.setIfInBounds_toArray, List.set_cons_zero, List.set_cons_succ, i64_w, i32_w]
         rfl
        refine one_ (i := 3) (N := some 56) #[true, true, true, true, false] rfl rfl (by kernel_rfl) (by decide) (fun K hK => ?_)
        refine goes_ Try.func16 (by kernel_rfl) rfl #[.agg #[.int .i64 t123, .slice Ao54 t124.length co54, .slice Ao55 t127.length co55], .agg #[.int .i64 t138, .slice Ao72 t139.length co72, .slice Ao73 t142.length co73]] (by rfl) rfl rfl (by (try simp only [List.map_toArray, List.map_cons, List.map_nil]); first | done | rfl | (simp only [List.length_drop, List.length_take]; rfl)) ?_
        with_reducible refine (laws_eqTxn.calls kj24 t123 _ _ t124 _ _ t127 t138 _ _ t139 _ _ t142 true _ ?side1 ?side2 ?side3 ?side4 ?side5 ?side6 ?side7 ?side8 A64.out).mono ?_
        (case side1 => repeat (first | exact (Kd.R_reads' HO_131001.out).2.2 | (with_reducible refine Kd.C_alloc ?_ _) | (with_reducible refine Kd.C_drewN ?_ _) | (with_reducible refine Kd.C_drew ?_)))
        (case side2 => exact (Kd.R_reads' HO_131001.out).2.1)
        (case side3 => repeat (first | exact (Kd.R_reads' HO_131002.out).2.2 | (with_reducible refine Kd.C_alloc ?_ _) | (with_reducible refine Kd.C_drewN ?_ _) | (with_reducible refine Kd.C_drew ?_)))
        (case side4 => exact (Kd.R_reads' HO_131002.out).2.1)
        (case side5 => repeat (first | exact (Kd.R_reads' HO141.out).2.2 | (with_reducible refine Kd.C_alloc ?_ _) | (with_reducible refine Kd.C_drewN ?_ _) | (with_reducible refine Kd.C_drew ?_)))
        (case side6 => exact (Kd.R_reads' HO141.out).2.1)
        (case side7 => repeat (first | exact (Kd.R_reads' HO144.out).2.2 | (with_reducible refine Kd.C_alloc ?_ _) | (with_reducible refine Kd.C_drewN ?_ _) | (with_reducible refine Kd.C_drew ?_)))
        (case side8 => exact (Kd.R_reads' HO144.out).2.1)
        rintro e w74 ⟨rfl, hb⟩
        refine ⟨_, rfl, ?_⟩
        have n0_ := Aside0.mk (Kd.S_below (by (with_reducible repeat (first | apply Kd.S_alloc | apply Kd.S_drewN | apply Kd.S_drew)); exact HO_123000.out) hb)
        have n1_ := Aside0.mk (Kd.R_below (by (with_reducible repeat (first | apply Kd.R_alloc | apply Kd.R_drewN | apply Kd.R_drew)); exact HO_131001.out) hb)
        have n2_ := Aside0.mk (Kd.R_below (by (with_reducible repeat (first | apply Kd.R_alloc | apply Kd.R_drewN | apply Kd.R_drew)); exact HO_131002.out) hb)
        have n3_ := Aside0.mk (Kd.S_below (by (with_reducible repeat (first | apply Kd.S_alloc | apply Kd.S_drewN | apply Kd.S_drew)); exact HO135.out) hb)
        have n4_ := Aside0.mk (Kd.R_below (by (with_reducible repeat (first | apply Kd.R_alloc | apply Kd.R_drewN | apply Kd.R_drew)); exact HO141.out) hb)
        have n5_ := Aside0.mk (Kd.R_below (by (with_reducible repeat (first | apply Kd.R_alloc | apply Kd.R_drewN | apply Kd.R_drew)); exact HO144.out) hb)
        have n6_ := Aside0.mk (blk_below (g := gb101) (o := .cells #[.slice A0_0 l0_0.length c0_0, .int .i64 a0_1] 24 (0, 0)) (by (with_reducible repeat (first | refine blk_drewN ?_ _ | refine blk_drew ?_ | refine blk_alloc ?_ _)); exact BK101.out) hb)
        have n7_ := Aside0.mk (blk_below (g := gb102) (o := .cells #[.int .i64 a1_0, .slice A1_1 l1_1.length c1_1, .slice A1_2 l1_2.length c1_2] 28 (0, 0)) (by (with_reducible repeat (first | refine blk_drewN ?_ _ | refine blk_drew ?_ | refine blk_alloc ?_ _)); exact BK102.out) hb)
        have n8_ := Aside0.mk (blk_below (g := gb122) (o := .cells #[.slice Ao43 t118.length co43, .int .i64 t121] 34 (0, 0)) (by (with_reducible repeat (first | refine blk_drewN ?_ _ | refine blk_drew ?_ | refine blk_alloc ?_ _)); exact BK122.out) hb)
        have n9_ := Aside0.mk (blk_below (g := gb130) (o := .cells #[.int .i64 t123, .slice Ao54 t124.length co54, .slice Ao55 t127.length co55] 38 (0, 0)) (by (with_reducible repeat (first | refine blk_drewN ?_ _ | refine blk_drew ?_ | refine blk_alloc ?_ _)); exact BK130.out) hb)
        have n10_ := Aside0.mk (below_step (by repeat (first | (with_reducible first | exact HB.out | apply below_alloc | apply pw_below_drewN | apply below_drew1 | refine below_set ?_ GE101.out | refine below_set ?_ GE102.out | refine below_set ?_ GE122.out | refine below_set ?_ GE130.out) | exact HB.out)) hb)
        clear HO_123000
        clear HO_131001
        clear HO_131002
        clear HO135
        clear HO141
        clear HO144
        clear BK101
        clear BK102
        clear BK122
        clear BK130
        clear HB
        have HO_123000 := n0_
        have HO_131001 := n1_
        have HO_131002 := n2_
        have HO135 := n3_
        have HO141 := n4_
        have HO144 := n5_
        have BK101 := n6_
        have BK102 := n7_
        have BK122 := n8_
        have BK130 := n9_
        have HB := n10_
        clear n0_ n1_ n2_ n3_ n4_ n5_ n6_ n7_ n8_ n9_ n10_
        (try clear hb)
        (try clear hb2)
        (try clear hk)
        (try clear hi)
        refine hK.out _ _ ⟨(blk_cell BK130.out 0).trans rfl, (blk_cell BK130.out 1).trans rfl, (blk_cell BK130.out 2).trans rfl, (blk_cell BK102.out 0).trans rfl, (blk_cell BK102.out 1).trans rfl, (blk_cell BK102.out 2).trans rfl⟩ (fun hHeld => ?_)
        clear hK K
        refine norm_ (a' := ?_) ?_ ?_
        rotate_left
        ·show Act.put _ (some 56) _ = _
         simp only [Act.put, List.setIfInBounds_toArray, List.set_cons_zero, List.set_cons_succ, i64_w, i32_w]
         rfl
        refine pure_ (i := 4) (N := some 57) (v := ?_) (a' := ?_) #[true, true, true, true, true] rfl rfl (by kernel_rfl) (fun _ _ _ h => h) (Or.inl ⟨by rfl, ?_⟩) ?_ ?_
        rotate_left
        ·intro w'
         go_simp
         with_reducible rfl
        rotate_left
        ·simp only [Act.put, List.setIfInBounds_toArray, List.set_cons_zero, List.set_cons_succ, i64_w, i32_w]
         rfl
        refine done_ (by kernel_rfl) ?_
        try go_wp2
        go_ret
        exact ⟨by first | rfl | (simp [errW_none, errW_some] <;> rfl) | (simp [*, errW_none, errW_some] <;> rfl), by repeat (first | (with_reducible first | exact HB.out | apply below_alloc | apply pw_below_drewN | apply below_drew1 | refine below_set ?_ GE101.out | refine below_set ?_ GE102.out | refine below_set ?_ GE122.out | refine below_set ?_ GE130.out) | exact HB.out)⟩
       ·replace c65 := Bool.eq_false_iff.mpr c65
        subst c65
        have H1 : (none) = some r := by rw [if_neg (show ¬ (false = true) by decide)] at H; exact H
        clear H
        have H := H1
        clear H1
        exact absurd H (by simp)
      ·replace c62 := Bool.eq_false_iff.mpr c62
       subst c62
       have H1 : (none) = some r := by rw [if_neg (show ¬ (false = true) by decide)] at H; exact H
       clear H
       have H := H1
       clear H1
       exact absurd H (by simp)

end Go.Proofs.Ytjgaenojojfidaa.Q
namespace Go.Proofs.Ytjgaenojojfidaa.Q
open Go.RowKit Go.Proofs.YtjgaenojojfidaaW.PrintWords Go.Proofs.Ytjgaenojojfidaa.Opens
set_option linter.unusedVariables false
def i111 (x : S111) : Prop := (Lit.int .i64 x.f0).wf = true ∧ (Lit.int .i64 x.f1).wf = true
theorem o111 : Opens Try.prog 111 k111 i111 := opens_struct (N := 2) Try.underlying111 (by kernel_rfl) (opensF_cons rfl (by kernel_rfl) (opens_int Try.underlying3) (opensF_one rfl rfl (by kernel_rfl) (opens_int Try.underlying3))) (fun y => ⟨y.1, y.2⟩) (fun _ => rfl)
def i24 (x : S24) : Prop := (x.f0.length ≤ 9223372036854775807 ∧ ∀ y1_ ∈ x.f0, (y1_.length ≤ 9223372036854775807 ∧ ∀ y2_ ∈ y1_, i111 y2_)) ∧ (Lit.int .i64 x.f1).wf = true
theorem o24 : Opens Try.prog 24 k24 i24 := opens_struct (N := 2) Try.underlying24 (by kernel_rfl) (opensF_cons rfl (by kernel_rfl) (opens_slice Try.underlying22 (by kernel_rfl) (opens_slice Try.underlying91 (by kernel_rfl) o111)) (opensF_one rfl rfl (by kernel_rfl) (opens_int Try.underlying3))) (fun y => ⟨y.1, y.2⟩) (fun _ => rfl)
def i46 (x : S46) : Prop := (Lit.int .i64 x.f0).wf = true ∧ (Lit.int .i64 x.f1).wf = true
theorem o46 : Opens Try.prog 46 k46 i46 := opens_struct (N := 2) Try.underlying46 (by kernel_rfl) (opensF_cons rfl (by kernel_rfl) (opens_int Try.underlying3) (opensF_one rfl rfl (by kernel_rfl) (opens_int Try.underlying3))) (fun y => ⟨y.1, y.2⟩) (fun _ => rfl)
def i28 (x : S28) : Prop := (Lit.int .i64 x.f0).wf = true ∧ (x.f1.length ≤ 9223372036854775807 ∧ ∀ y1_ ∈ x.f1, (Lit.int .i64 y1_).wf = true) ∧ (x.f2.length ≤ 9223372036854775807 ∧ ∀ y1_ ∈ x.f2, i46 y1_)
theorem o28 : Opens Try.prog 28 k28 i28 := opens_struct (N := 3) Try.underlying28 (by kernel_rfl) (opensF_cons rfl (by kernel_rfl) (opens_int Try.underlying3) (opensF_cons rfl (by kernel_rfl) (opens_slice Try.underlying25 (by kernel_rfl) (opens_int Try.underlying3)) (opensF_one rfl rfl (by kernel_rfl) (opens_slice Try.underlying26 (by kernel_rfl) o46)))) (fun y => ⟨y.1, y.2.1, y.2.2⟩) (fun _ => rfl)
end Go.Proofs.Ytjgaenojojfidaa.Q
namespace Go.Proofs.Ytjgaenojojfidaa.Q
open Go.RowKit Go.Proofs.YtjgaenojojfidaaW.PrintWords Go.Proofs.Ytjgaenojojfidaa.Opens
set_option linter.unusedVariables false
def laws_FnExactConflicts.Pure2 : Prop := ∀ (y0 : S24), ∀ (y1 : S28), i24 y0 → i28 y1 → ∃ k, laws_FnExactConflicts.f k y0.f0 y0.f1 y1.f0 y1.f1 y1.f2 = some true
end Go.Proofs.Ytjgaenojojfidaa.Q
namespace Go.Proofs.Ytjgaenojojfidaa.Pure2
open Go.RowKit Go.Proofs.Ytjgaenojojfidaa.Q Go.Proofs.YtjgaenojojfidaaW.PrintWords Go.Proofs.YtjgaenojojfidaaW.PrintLast
set_option linter.unusedVariables false
set_option linter.unusedSimpArgs false
/-! small words -/
theorem wsucc {j n : Nat} (h : j < n) (hn : n ≤ 4611686018427387904) : wrap64 ((j : Int) + 1) = ((j + 1 : Nat) : Int) := by unfold wrap64; omega
theorem ev_step {α : Type} {g f : Nat → Option α} {r : α} (h : ∃ K, ∀ k, K ≤ k → g (k + 1) = f k) (k : Ev f r) : Ev g r := by
  obtain ⟨K, h⟩ := h
  obtain ⟨K', k⟩ := k
  refine ⟨max K K' + 1, fun n hn => ?_⟩
  obtain ⟨m, rfl⟩ : ∃ m, n = m + 1 := ⟨n - 1, by omega⟩
  rw [h m (by omega), k m (by omega)]
theorem ev_now {α : Type} {g : Nat → Option α} {r : α} (h : ∃ K, ∀ k, K ≤ k → g (k + 1) = some r) : Ev g r := ev_step (f := fun _ => some r) h (Ev.now r)
theorem ev_same {α : Type} {g f : Nat → Option α} {r : α} (h : ∃ K, ∀ k, K ≤ k → g k = f k) (k : Ev f r) : Ev g r := by
  obtain ⟨K, h⟩ := h
  obtain ⟨K', k⟩ := k
  exact ⟨max K K', fun n hn => by rw [h n (by omega), k n (by omega)]⟩
theorem ev_two {α β : Type} {g : Nat → Option α} {f : Nat → Option β} {r : α} {q : β} (h : Ev g r) (k : Ev f q) : ∃ K, ∀ n, K ≤ n → g n = some r ∧ f n = some q := by
  obtain ⟨K, h⟩ := h
  obtain ⟨K', k⟩ := k
  exact ⟨max K K', fun n hn => ⟨h n (by omega), k n (by omega)⟩⟩
theorem ev_mk {α : Type} {g : Nat → Option α} {r : α} (K : Nat) (h : ∀ k, K ≤ k → g k = some r) : Ev g r := ⟨K, h⟩
theorem ev_at {α : Type} {g : Nat → Option α} {r : α} (h : Ev g r) : ∃ K, ∀ k, K ≤ k → g k = some r := h
/-- A loop that counts up to n: from the end back. -/
theorem count_loop {ρ : Type} (n : Nat) (L : Nat → Int → Option ρ) (Post : Nat → ρ → Prop) (hend : ∃ r, Post n r ∧ Ev (fun k => L k (n : Int)) r)
    (hstep : ∀ j, j < n → ∀ r, Post (j + 1) r → Ev (fun k => L k ((j + 1 : Nat) : Int)) r → ∃ r', Post j r' ∧ Ev (fun k => L k (j : Int)) r') :
    ∀ j, j ≤ n → ∃ r, Post j r ∧ Ev (fun k => L k (j : Int)) r := by
  have key : ∀ d j, j ≤ n → n - j = d → ∃ r, Post j r ∧ Ev (fun k => L k (j : Int)) r := by
    intro d
    induction d with
    | zero => intro j hj hd; obtain rfl : j = n := by omega
              exact hend
    | succ d ih =>
      intro j hj hd
      obtain ⟨r, hp, he⟩ := ih (j + 1) (by omega) (by omega)
      exact hstep j (by omega) r hp he
  intro j hj
  exact key _ j hj rfl
/-- A loop that carries a state up to n. -/
theorem state_loop {σ ρ : Type} (n : Nat) (L : Nat → σ → Int → Option ρ) (Inv : Nat → σ → Prop) (Post : Nat → σ → ρ → Prop) (hend : ∀ s, Inv n s → ∃ r, Post n s r ∧ Ev (fun k => L k s (n : Int)) r)
    (hstep : ∀ j s, j < n → Inv j s → (∃ r, Post j s r ∧ Ev (fun k => L k s (j : Int)) r) ∨ ∃ s', Inv (j + 1) s' ∧ (∀ r, Post (j + 1) s' r → Post j s r) ∧ ∃ K, ∀ k, K ≤ k → L (k + 1) s (j : Int) = L k s' ((j + 1 : Nat) : Int)) :
    ∀ j s, j ≤ n → Inv j s → ∃ r, Post j s r ∧ Ev (fun k => L k s (j : Int)) r := by
  have key : ∀ d j s, j ≤ n → n - j = d → Inv j s → ∃ r, Post j s r ∧ Ev (fun k => L k s (j : Int)) r := by
    intro d
    induction d with
    | zero => intro j s hj hd hi; obtain rfl : j = n := by omega
              exact hend s hi
    | succ d ih =>
      intro j s hj hd hi
      rcases hstep j s (by omega) hi with h | ⟨s', hi', hp, hk⟩
      · exact h
      · obtain ⟨r, hr, he⟩ := ih (j + 1) s' (by omega) (by omega) hi'
        exact ⟨r, hp r hr, ev_step hk he⟩
  intro j s hj hi
  exact key _ j s hj rfl hi
/-- A loop that fills a row of its own. -/
theorem fill_loop {α β : Type} (xs : List α) (z : α) (g : α → β) (L : Nat → List β → Int → Option (List β)) (hend : ∀ y : List β, y.length = xs.length → ∃ K, ∀ k, K ≤ k → L (k + 1) y (xs.length : Int) = some y)
    (hstep : ∀ (j : Nat) (y : List β), j < xs.length → y.length = xs.length → ∃ K, ∀ k, K ≤ k → L (k + 1) y (j : Int) = L k (y.set j (g (xs.getD j z))) ((j + 1 : Nat) : Int)) (y : List β) (hy : y.length = xs.length) :
    Ev (fun k => L k y 0) (xs.map g) := by
  obtain ⟨r, hr, he⟩ := state_loop xs.length L (fun j y => y.length = xs.length ∧ ∀ i, i < j → y[i]? = (xs.map g)[i]?) (fun _ _ r => r = xs.map g) (fun y hi => ⟨y, List.ext_getElem? fun i => by
      by_cases hi' : i < xs.length
      · exact hi.2 i hi'
      · rw [List.getElem?_eq_none (by omega), List.getElem?_eq_none (by simp; omega)], ev_now (hend y hi.1)⟩) (fun j y hj hi => .inr ⟨_, ⟨by simp [hi.1], fun i hij => by
      by_cases he : i = j
      · subst he
        rw [List.getElem?_set_self (by omega)]
        simp [List.getD_eq_getElem?_getD, List.getElem?_eq_getElem hj]
      · rw [List.getElem?_set_ne (by omega)]
        exact hi.2 i (by omega)⟩, fun r h => h, hstep j y hj hi.1⟩) 0 y (by omega) ⟨hy, fun i hi => by omega⟩
  subst hr
  exact he
/-- The measure of a store that came in. -/
theorem sz_row (l : List S111) (a : Int) (h0 : 0 ≤ a) (h1 : a ≤ 1048576) (hl : l.length ≤ 9223372036854775807) : ∃ r, laws_szVersionS.f l a = some r ∧ (r < 0 ∨ 0 ≤ r ∧ r ≤ a ∧ l.length ≤ 1048576) := by
  have hw : wrap64 (a - (l.length : Int)) = a - (l.length : Int) := by unfold wrap64; omega
  unfold laws_szVersionS.f
  rw [hw]
  by_cases h : a - (l.length : Int) < 0
  · rw [if_pos h]; exact ⟨_, rfl, .inl (by omega)⟩
  · rw [if_neg h]; exact ⟨_, rfl, .inr ⟨by omega, by omega, by omega⟩⟩
theorem sz_rows (l : List (List S111)) (a : Int) (h0 : 0 ≤ a) (h1 : a ≤ 1048576) (hl : l.length ≤ 9223372036854775807) (hx : ∀ x ∈ l, x.length ≤ 9223372036854775807) :
    ∃ r, Ev (fun k => laws_szVersionSS.f k l a) r ∧ (r < 0 ∨ 0 ≤ r ∧ r ≤ a ∧ l.length ≤ 1048576 ∧ ∀ x ∈ l, x.length ≤ 1048576) := by
  have hw : wrap64 (a - (l.length : Int)) = a - (l.length : Int) := by unfold wrap64; omega
  by_cases h : a - (l.length : Int) < 0
  · exact ⟨-1, ev_mk 0 (fun k _ => by unfold laws_szVersionSS.f; rw [hw, if_pos h]), .inl (by omega)⟩
  · obtain ⟨r, hr, he⟩ := state_loop l.length (fun k s i => laws_szVersionSS.l0 k l s i) (fun j s => 0 ≤ s ∧ s ≤ a ∧ ∀ i, i < j → (l.getD i []).length ≤ 1048576) (fun _ _ r => r < 0 ∨ 0 ≤ r ∧ r ≤ a ∧ ∀ i, i < l.length → (l.getD i []).length ≤ 1048576)
      (fun s hi => ⟨s, .inr hi, ev_now ⟨0, fun k _ => by simp only [laws_szVersionSS.l0]; rw [if_neg (by omega)]⟩⟩)
      (fun j s hj hi => by
        have hm : (l.getD j []) ∈ l := by rw [List.getD_eq_getElem?_getD, List.getElem?_eq_getElem hj]; exact List.getElem_mem hj
        obtain ⟨t, e, ht⟩ := sz_row (l.getD j []) s hi.1 (by omega) (hx _ hm)
        have e' : laws_szVersionS.f (rd_L2 l (j : Int)) s = some t := e
        rcases ht with ht | ⟨t0, t1, t2⟩
        · exact .inl ⟨-1, .inl (by omega), ev_now ⟨0, fun k _ => by simp only [laws_szVersionSS.l0]; rw [if_pos (by omega), if_pos (by omega), e']; simp only [Option.bind_some]; rw [if_pos ht]⟩⟩
        · refine .inr ⟨t, ⟨t0, by omega, fun i hij => ?_⟩, fun r h => h, 0, fun k _ => by simp only [laws_szVersionSS.l0]; rw [if_pos (by omega), if_pos (by omega), e']; simp only [Option.bind_some]; rw [if_neg (by omega), wsucc hj (by omega)]⟩
          rcases Nat.lt_or_eq_of_le (Nat.le_of_lt_succ hij) with h' | rfl
          · exact hi.2.2 i h'
          · exact t2) 0 (a - l.length) (by omega) ⟨by omega, by omega, fun i hi => by omega⟩
    refine ⟨r, ev_same ⟨0, fun k _ => by unfold laws_szVersionSS.f; rw [hw, if_neg h]; rfl⟩ he, ?_⟩
    rcases hr with hr | ⟨h2, h3, h4⟩
    · exact .inl hr
    · refine .inr ⟨h2, h3, by omega, fun x hx' => ?_⟩
      obtain ⟨i, hi, rfl⟩ := List.getElem_of_mem hx'
      have := h4 i hi
      rw [List.getD_eq_getElem?_getD, List.getElem?_eq_getElem hi] at this
      exact this
def Small (l : List (List S111)) : Prop := l.length ≤ 1048576 ∧ ∀ x ∈ l, x.length ≤ 1048576
theorem sz_store (y : S24) (a : Int) (h0 : 0 ≤ a) (h1 : a ≤ 1048576) (hi : i24 y) : ∃ r, Ev (fun k => laws_szStore.f k y.f0 y.f1 a) r ∧ (r < 0 ∨ 0 ≤ r ∧ r ≤ a ∧ Small y.f0) := by
  obtain ⟨r, he, hr⟩ := sz_rows y.f0 a h0 h1 hi.1.1 (fun x hx => (hi.1.2 x hx).1)
  obtain ⟨K, he⟩ := ev_at he
  rcases hr with hr | ⟨h2, h3, h4⟩
  · exact ⟨-1, ev_mk K (fun k hk => by unfold laws_szStore.f; rw [he k hk]; simp only [Option.bind_some]; rw [if_pos hr]), .inl (by omega)⟩
  · exact ⟨r, ev_mk K (fun k hk => by unfold laws_szStore.f; rw [he k hk]; simp only [Option.bind_some]; rw [if_neg (by omega)]), .inr ⟨h2, h3, h4⟩⟩
def cvV (x : S111) : S94 := ⟨x.f0, x.f1⟩
def cvS (l : List (List S111)) : List (List S94) := l.map (List.map cvV)
theorem to_row (l : List S111) (hl : l.length ≤ 1048576) : Ev (fun k => laws_toVersionS.f k l) (l.map cvV) := by
  have h := fill_loop l z111 cvV (fun k y i => laws_toVersionS.l0 k l y i) (fun y hy => ⟨0, fun k _ => by simp only [laws_toVersionS.l0]; rw [if_neg (by omega)]⟩)
    (fun j y hj hy => ⟨0, fun k _ => by
      simp only [laws_toVersionS.l0, laws_toVersion.f]; rw [if_pos (by omega), if_pos (by omega)]; simp only [Option.bind_some]; rw [if_pos (by omega), wsucc hj (by omega)]; rfl⟩) (List.replicate l.length z94) (by simp)
  refine ev_same ⟨0, fun k _ => ?_⟩ h
  unfold laws_toVersionS.f
  rw [if_pos (by omega), if_pos (by simp; omega), Int.toNat_natCast]
theorem to_rows (l : List (List S111)) (hl : Small l) : Ev (fun k => laws_toVersionSS.f k l) (cvS l) := by
  have h := fill_loop l [] (List.map cvV) (fun k y i => laws_toVersionSS.l0 k l y i) (fun y hy => ⟨0, fun k _ => by simp only [laws_toVersionSS.l0]; rw [if_neg (by omega)]⟩)
    (fun j y hj hy => by
      have hm : (l.getD j []) ∈ l := by rw [List.getD_eq_getElem?_getD, List.getElem?_eq_getElem hj]; exact List.getElem_mem hj
      obtain ⟨K, hk⟩ := to_row (l.getD j []) (hl.2 _ hm)
      refine ⟨K, fun k hK => ?_⟩
      have e' : laws_toVersionS.f k (rd_L2 l (j : Int)) = some ((l.getD j []).map cvV) := hk k hK
      have hl' := hl.1
      simp only [laws_toVersionSS.l0]; rw [if_pos (by omega), if_pos (by omega), e']; simp only [Option.bind_some]; rw [if_pos (by omega), wsucc hj (by omega)]; rfl) (List.replicate l.length []) (by simp)
  refine ev_same ⟨0, fun k _ => ?_⟩ h
  have hl' := hl.1
  unfold laws_toVersionSS.f
  rw [if_pos (by omega), if_pos (by simp; omega), Int.toNat_natCast]
theorem to_store (l : List (List S111)) (n : Int) (hl : Small l) : Ev (fun k => laws_toStore.f k l n) (cvS l, n) := by
  obtain ⟨K, h⟩ := ev_at (to_rows l hl)
  exact ev_mk K (fun k hk => by unfold laws_toStore.f; rw [h k hk]; rfl)
theorem eq_row (l : List S94) (hl : l.length ≤ 1048576) : Ev (fun k => laws_eqVersionS.f k l l) true := by
  obtain ⟨r, hr, he⟩ := count_loop l.length (fun k i => laws_eqVersionS.l0 k l l i) (fun _ r => r = true) ⟨true, rfl, ev_now ⟨0, fun k _ => by simp only [laws_eqVersionS.l0]; rw [if_neg (by omega)]⟩⟩
    (fun j hj r hr he => ⟨r, hr, ev_step ⟨0, fun k _ => by simp only [laws_eqVersionS.l0, laws_eqVersion.f]; rw [if_pos (by omega), if_pos (by omega), if_pos (by omega)]; simp only [if_true, Option.bind_some]; rw [wsucc hj (by omega)]⟩ he⟩) 0 (by omega)
  subst hr
  exact ev_same ⟨0, fun k _ => by unfold laws_eqVersionS.f; rw [if_pos rfl]; rfl⟩ he
theorem eq_rows (l : List (List S94)) (hl : l.length ≤ 1048576) (hx : ∀ x ∈ l, x.length ≤ 1048576) : Ev (fun k => laws_eqVersionSS.f k l l) true := by
  obtain ⟨r, hr, he⟩ := count_loop l.length (fun k i => laws_eqVersionSS.l0 k l l i) (fun _ r => r = true) ⟨true, rfl, ev_now ⟨0, fun k _ => by simp only [laws_eqVersionSS.l0]; rw [if_neg (by omega)]⟩⟩
    (fun j hj r hr he => by
      have hm : (l.getD j []) ∈ l := by rw [List.getD_eq_getElem?_getD, List.getElem?_eq_getElem hj]; exact List.getElem_mem hj
      obtain ⟨K, hk⟩ := eq_row (l.getD j []) (hx _ hm)
      exact ⟨r, hr, ev_step ⟨K, fun k hK => by
        have e' : laws_eqVersionS.f k (rd_L5 l (j : Int)) (rd_L5 l (j : Int)) = some true := hk k hK
        simp only [laws_eqVersionSS.l0]; rw [if_pos (by omega), if_pos (by omega), if_pos (by omega), e']; simp only [if_true, Option.bind_some]; rw [wsucc hj (by omega)]⟩ he⟩) 0 (by omega)
  subst hr
  exact ev_same ⟨0, fun k _ => by unfold laws_eqVersionSS.f; rw [if_pos rfl]; rfl⟩ he
theorem eq_store (l : List (List S94)) (n : Int) (hl : l.length ≤ 1048576) (hx : ∀ x ∈ l, x.length ≤ 1048576) : Ev (fun k => laws_eqStore.f k l n l n) true := by
  obtain ⟨K, h⟩ := ev_at (eq_rows l hl hx)
  exact ev_mk K (fun k hk => by unfold laws_eqStore.f; rw [h k hk]; simp)
theorem small_cv (l : List (List S111)) (h : Small l) : (cvS l).length ≤ 1048576 ∧ ∀ x ∈ cvS l, x.length ≤ 1048576 := by
  refine ⟨by simpa [cvS] using h.1, fun x hx => ?_⟩
  simp only [cvS, List.mem_map] at hx
  obtain ⟨y, hy, rfl⟩ := hx
  simpa using h.2 y hy
def fitsB (key v : Int) : Bool := if Int.tmod key 2 = 1 then decide (0 ≤ v ∧ v ≤ 8) else decide (-2147483648 ≤ v ∧ v ≤ 2147483647)
theorem spec_in (a b c : Int) : spec_l01In.f a b c = some (decide (b ≤ a ∧ a ≤ c)) := by
  unfold spec_l01In.f
  by_cases h : b ≤ a
  · rw [if_pos h]; simp [h]
  · rw [if_neg h]; simp [h]
theorem impl_in (a b c : Int) : impl_within.f a b c = some (decide (b ≤ a ∧ a ≤ c)) := spec_in a b c
theorem spec_fits (a b : Int) : spec_l06Value.f a b = some (fitsB a b) := by
  unfold spec_l06Value.f spec_IsInt.f fitsB
  by_cases h : Int.tmod a 2 = 1
  · rw [if_pos h, if_pos h, spec_in]; rfl
  · rw [if_neg h, if_neg h, spec_in]; rfl
theorem impl_fits (a b : Int) : impl_fits.f a b = some (fitsB a b) := by
  unfold impl_fits.f impl_IsInt.f fitsB
  by_cases h : Int.tmod a 2 = 1
  · rw [if_pos h, if_pos h, impl_in]; rfl
  · rw [if_neg h, if_neg h, impl_in]; rfl
/-- A version that is right at its place. -/
def VerOK (now : Int) (key : Nat) (c : List S94) (i : Nat) : Prop :=
  1 ≤ (c.getD i z94).f0 ∧ (c.getD i z94).f0 ≤ now ∧ fitsB key (c.getD i z94).f1 = true ∧ (0 < i → (c.getD (i - 1) z94).f0 < (c.getD i z94).f0)
def IsStore (cs : List (List S94)) (now : Int) : Prop := cs.length = 16 ∧ 0 ≤ now ∧ now ≤ 100000 ∧ ∀ i, i < 16 → ∀ j, j < (cs.getD i []).length → VerOK now i (cs.getD i []) j
theorem spec_chain (cs : List (List S94)) (now : Int) (hl : cs.length = 16) (i : Nat) (hi : i < 16) (hx : (cs.getD i []).length ≤ 1048576) (R : Bool) (hR : Ev (fun k => spec_StoreOK.l0 k ((i + 1 : Nat) : Int) cs now) R) :
    ∃ r, Ev (fun k => spec_StoreOK.l1 k i 0 cs now) r ∧ (r = true ↔ (∀ j, j < (cs.getD i []).length → VerOK now i (cs.getD i []) j) ∧ R = true) := by
  obtain ⟨r, hr, he⟩ := count_loop (cs.getD i []).length (fun k j => spec_StoreOK.l1 k i j cs now) (fun j r => r = true ↔ (∀ j', j ≤ j' → j' < (cs.getD i []).length → VerOK now i (cs.getD i []) j') ∧ R = true)
    ⟨R, ⟨fun h => ⟨fun j' h1 h2 => by omega, h⟩, fun h => h.2⟩, ev_step ⟨0, fun k _ => by
      simp only [spec_StoreOK.l1]; rw [if_pos (by omega), if_pos (by omega), if_neg (by show ¬ ((cs.getD i []).length : Int) < ((rd_L5 cs (i : Int)).length : Int); simp [rd_L5]), wsucc (n := 16) hi (by omega)]⟩ hR⟩
    (fun j hj r hr he => by
      have hd : rd_L5 cs (i : Int) = cs.getD i [] := rfl
      have hv : rd_T94 (cs.getD i []) (j : Int) = (cs.getD i []).getD j z94 := rfl
      have hw1 : 0 < j → rd_T94 (cs.getD i []) (wrap64 ((j : Int) - 1)) = (cs.getD i []).getD (j - 1) z94 := fun h0 => by
        have : wrap64 ((j : Int) - 1) = ((j - 1 : Nat) : Int) := by unfold wrap64; omega
        rw [this]; rfl
      have hw2 : 0 < j → 0 ≤ wrap64 ((j : Int) - 1) ∧ wrap64 ((j : Int) - 1) < ((cs.getD i []).length : Int) := fun h0 => by
        have : wrap64 ((j : Int) - 1) = ((j - 1 : Nat) : Int) := by unfold wrap64; omega
        rw [this]; omega
      have no : ¬ VerOK now i (cs.getD i []) j → (∃ K, ∀ k, K ≤ k → spec_StoreOK.l1 (k + 1) i j cs now = some false) → ∃ r', (r' = true ↔ (∀ j', j ≤ j' → j' < (cs.getD i []).length → VerOK now i (cs.getD i []) j') ∧ R = true) ∧ Ev (fun k => spec_StoreOK.l1 k i j cs now) r' :=
        fun hn hk => ⟨false, ⟨fun h => (by cases h), fun h => absurd (h.1 j (Nat.le_refl _) hj) hn⟩, ev_now hk⟩
      have yes : VerOK now i (cs.getD i []) j → (∃ K, ∀ k, K ≤ k → spec_StoreOK.l1 (k + 1) i j cs now = spec_StoreOK.l1 k i ((j + 1 : Nat) : Int) cs now) → ∃ r', (r' = true ↔ (∀ j', j ≤ j' → j' < (cs.getD i []).length → VerOK now i (cs.getD i []) j') ∧ R = true) ∧ Ev (fun k => spec_StoreOK.l1 k i j cs now) r' :=
        fun hn hk => ⟨r, hr.trans ⟨fun h => ⟨fun j' h1 h2 => by
          rcases Nat.lt_or_eq_of_le h1 with h3 | rfl
          · exact h.1 j' h3 h2
          · exact hn, h.2⟩, fun h => ⟨fun j' h1 h2 => h.1 j' (by omega) h2, h.2⟩⟩, ev_step hk he⟩
      have hh : ∀ k, spec_StoreOK.l1 (k + 1) i j cs now = if (decide (1 ≤ ((cs.getD i []).getD j z94).f0 ∧ ((cs.getD i []).getD j z94).f0 ≤ now)) = true then (if fitsB i ((cs.getD i []).getD j z94).f1 = true then (if (j : Int) > 0 then (if ((cs.getD i []).getD (j - 1) z94).f0 ≥ ((cs.getD i []).getD j z94).f0 then some false else spec_StoreOK.l1 k i ((j + 1 : Nat) : Int) cs now) else spec_StoreOK.l1 k i ((j + 1 : Nat) : Int) cs now) else some false) else some false := by
        intro k
        conv => lhs; simp only [spec_StoreOK.l1]
        rw [hd, if_pos (by omega), if_pos (by omega), if_pos (by omega), if_pos (by omega), spec_in, spec_fits, hv]
        simp only [Option.bind_some, wsucc hj (by omega)]
        by_cases h0 : 0 < j
        · rw [hw1 h0, if_pos (hw2 h0).1, if_pos (hw2 h0).2]
        · simp only [if_neg (show ¬ ((j : Int) > 0) by omega)]
      by_cases h1 : 1 ≤ ((cs.getD i []).getD j z94).f0 ∧ ((cs.getD i []).getD j z94).f0 ≤ now
      · by_cases h2 : fitsB i ((cs.getD i []).getD j z94).f1 = true
        · by_cases h3 : 0 < j
          · by_cases h4 : ((cs.getD i []).getD (j - 1) z94).f0 ≥ ((cs.getD i []).getD j z94).f0
            · exact no (fun h => absurd (h.2.2.2 h3) (by omega)) ⟨0, fun k _ => by rw [hh, if_pos (decide_eq_true h1), if_pos h2, if_pos (by omega), if_pos h4]⟩
            · exact yes ⟨h1.1, h1.2, h2, fun _ => by omega⟩ ⟨0, fun k _ => by rw [hh, if_pos (decide_eq_true h1), if_pos h2, if_pos (by omega), if_neg h4]⟩
          · exact yes ⟨h1.1, h1.2, h2, fun h => absurd h h3⟩ ⟨0, fun k _ => by rw [hh, if_pos (decide_eq_true h1), if_pos h2, if_neg (by omega)]⟩
        · exact no (fun h => h2 h.2.2.1) ⟨0, fun k _ => by rw [hh, if_pos (decide_eq_true h1), if_neg h2]⟩
      · exact no (fun h => h1 ⟨h.1, h.2.1⟩) ⟨0, fun k _ => by rw [hh, if_neg (by simpa using h1)]⟩) 0 (by omega)
  exact ⟨r, he, hr.trans ⟨fun h => ⟨fun j hj => h.1 j (by omega) hj, h.2⟩, fun h => ⟨fun j _ hj => h.1 j hj, h.2⟩⟩⟩
theorem spec_store_ok (cs : List (List S94)) (now : Int) (hx : ∀ x ∈ cs, x.length ≤ 1048576) : ∃ r, Ev (fun k => spec_StoreOK.f k cs now) r ∧ (r = true ↔ IsStore cs now) := by
  by_cases hl : cs.length = 16
  · by_cases hn : 0 ≤ now ∧ now ≤ 100000
    · obtain ⟨r, hr, he⟩ := count_loop 16 (fun k i => spec_StoreOK.l0 k i cs now) (fun i r => r = true ↔ ∀ i', i ≤ i' → i' < 16 → ∀ j, j < (cs.getD i' []).length → VerOK now i' (cs.getD i' []) j)
        ⟨true, ⟨fun _ i' h1 h2 => by omega, fun _ => rfl⟩, ev_now ⟨0, fun k _ => by simp only [spec_StoreOK.l0]; rw [if_neg (by omega)]⟩⟩
        (fun i hi R hR he => by
          have hm : (cs.getD i []) ∈ cs := by rw [List.getD_eq_getElem?_getD, List.getElem?_eq_getElem (by omega)]; exact List.getElem_mem (by omega)
          obtain ⟨r, he', hr⟩ := spec_chain cs now hl i hi (hx _ hm) R he
          refine ⟨r, ?_, ev_step ⟨0, fun k _ => by simp only [spec_StoreOK.l0]; rw [if_pos (by omega)]⟩ he'⟩
          rw [hr, hR]
          constructor
          · rintro ⟨h1, h2⟩ i' h3 h4
            rcases Nat.lt_or_eq_of_le h3 with h5 | rfl
            · exact h2 i' h5 h4
            · exact h1
          · intro h; exact ⟨h i (Nat.le_refl _) hi, fun i' h3 h4 => h i' (by omega) h4⟩) 0 (by omega)
      refine ⟨r, ?_, hr.trans ⟨fun h => ⟨hl, hn.1, hn.2, fun i hi => h i (by omega) hi⟩, fun h i _ hi => h.2.2.2 i hi⟩⟩
      refine ev_step (f := fun k => spec_StoreOK.l0 k 0 cs now) ⟨0, fun k _ => ?_⟩ he
      unfold spec_StoreOK.f
      rw [if_pos (by omega), spec_in]
      simp only [Option.bind_some, decide_eq_true hn, Bool.not_true, spec_StoreOK.j0]
      rw [if_neg (by simp)]
    · refine ⟨false, ev_now ⟨0, fun k _ => ?_⟩, ⟨fun h => (by cases h), fun h => absurd ⟨h.2.1, h.2.2.1⟩ hn⟩⟩
      unfold spec_StoreOK.f
      rw [if_pos (by omega), spec_in]
      simp only [Option.bind_some, decide_eq_false hn, Bool.not_false, spec_StoreOK.j0]
      exact if_pos trivial
  · refine ⟨false, ev_now ⟨0, fun k _ => ?_⟩, ⟨fun h => (by cases h), fun h => absurd h.1 hl⟩⟩
    unfold spec_StoreOK.f
    rw [if_neg (by omega)]
    simp only [spec_StoreOK.j0]
    exact if_pos trivial
theorem impl_chain (cs : List (List S94)) (now : Int) (i : Nat) (hi : i < 16) (c : List S94) (hc : c = cs.getD i []) (hx : c.length ≤ 1048576) (R : Bool) (hR : Ev (fun k => impl_StoreOK.l0 k cs 16 ((i + 1 : Nat) : Int) cs now) R) :
    ∃ r, Ev (fun k => impl_StoreOK.l1 k i c cs 16 i c (c.length : Int) 0 cs now) r ∧ (r = true ↔ (∀ j, j < c.length → VerOK now i c j) ∧ R = true) := by
  obtain ⟨r, hr, he⟩ := count_loop c.length (fun k j => impl_StoreOK.l1 k i c cs 16 i c (c.length : Int) j cs now) (fun j r => r = true ↔ (∀ j', j ≤ j' → j' < c.length → VerOK now i c j') ∧ R = true)
    ⟨R, ⟨fun h => ⟨fun j' h1 h2 => by omega, h⟩, fun h => h.2⟩, ev_step ⟨0, fun k _ => by
      simp only [impl_StoreOK.l1]; rw [if_neg (by omega), wsucc (n := 16) hi (by omega)]⟩ hR⟩
    (fun j hj r hr he => by
      have hv : rd_T94 c (j : Int) = c.getD j z94 := rfl
      have hw1 : 0 < j → rd_T94 c (wrap64 ((j : Int) - 1)) = c.getD (j - 1) z94 := fun h0 => by
        have : wrap64 ((j : Int) - 1) = ((j - 1 : Nat) : Int) := by unfold wrap64; omega
        rw [this]; rfl
      have hw2 : 0 < j → 0 ≤ wrap64 ((j : Int) - 1) ∧ wrap64 ((j : Int) - 1) < (c.length : Int) := fun h0 => by
        have : wrap64 ((j : Int) - 1) = ((j - 1 : Nat) : Int) := by unfold wrap64; omega
        rw [this]; omega
      have no : ¬ VerOK now i c j → (∃ K, ∀ k, K ≤ k → impl_StoreOK.l1 (k + 1) i c cs 16 i c (c.length : Int) j cs now = some false) → ∃ r', (r' = true ↔ (∀ j', j ≤ j' → j' < c.length → VerOK now i c j') ∧ R = true) ∧ Ev (fun k => impl_StoreOK.l1 k i c cs 16 i c (c.length : Int) j cs now) r' :=
        fun hn hk => ⟨false, ⟨fun h => (by cases h), fun h => absurd (h.1 j (Nat.le_refl _) hj) hn⟩, ev_now hk⟩
      have yes : VerOK now i c j → (∃ K, ∀ k, K ≤ k → impl_StoreOK.l1 (k + 1) i c cs 16 i c (c.length : Int) j cs now = impl_StoreOK.l1 k i c cs 16 i c (c.length : Int) ((j + 1 : Nat) : Int) cs now) → ∃ r', (r' = true ↔ (∀ j', j ≤ j' → j' < c.length → VerOK now i c j') ∧ R = true) ∧ Ev (fun k => impl_StoreOK.l1 k i c cs 16 i c (c.length : Int) j cs now) r' :=
        fun hn hk => ⟨r, hr.trans ⟨fun h => ⟨fun j' h1 h2 => by
          rcases Nat.lt_or_eq_of_le h1 with h3 | rfl
          · exact h.1 j' h3 h2
          · exact hn, h.2⟩, fun h => ⟨fun j' h1 h2 => h.1 j' (by omega) h2, h.2⟩⟩, ev_step hk he⟩
      have hh : ∀ k, impl_StoreOK.l1 (k + 1) i c cs 16 i c (c.length : Int) j cs now = if (decide (1 ≤ (c.getD j z94).f0 ∧ (c.getD j z94).f0 ≤ now)) = true then (if (j : Int) > 0 then (if (c.getD (j - 1) z94).f0 ≥ (c.getD j z94).f0 then some false else (if fitsB i (c.getD j z94).f1 = true then impl_StoreOK.l1 k i c cs 16 i c (c.length : Int) ((j + 1 : Nat) : Int) cs now else some false)) else (if fitsB i (c.getD j z94).f1 = true then impl_StoreOK.l1 k i c cs 16 i c (c.length : Int) ((j + 1 : Nat) : Int) cs now else some false)) else some false := by
        intro k
        conv => lhs; simp only [impl_StoreOK.l1]
        rw [if_pos (by omega), if_pos (by omega), if_pos (by omega), impl_in, impl_fits, hv]
        simp only [Option.bind_some, wsucc hj (by omega)]
        by_cases h0 : 0 < j
        · rw [hw1 h0, if_pos (hw2 h0).1, if_pos (hw2 h0).2]
        · simp only [if_neg (show ¬ ((j : Int) > 0) by omega)]
      by_cases h1 : 1 ≤ (c.getD j z94).f0 ∧ (c.getD j z94).f0 ≤ now
      · by_cases h2 : fitsB i (c.getD j z94).f1 = true
        · by_cases h3 : 0 < j
          · by_cases h4 : (c.getD (j - 1) z94).f0 ≥ (c.getD j z94).f0
            · exact no (fun h => absurd (h.2.2.2 h3) (by omega)) ⟨0, fun k _ => by rw [hh, if_pos (decide_eq_true h1), if_pos (by omega), if_pos h4]⟩
            · exact yes ⟨h1.1, h1.2, h2, fun _ => by omega⟩ ⟨0, fun k _ => by rw [hh, if_pos (decide_eq_true h1), if_pos (by omega), if_neg h4, if_pos h2]⟩
          · exact yes ⟨h1.1, h1.2, h2, fun h => absurd h h3⟩ ⟨0, fun k _ => by rw [hh, if_pos (decide_eq_true h1), if_neg (by omega), if_pos h2]⟩
        · refine no (fun h => h2 h.2.2.1) ⟨0, fun k _ => ?_⟩
          rw [hh, if_pos (decide_eq_true h1)]
          simp only [if_neg h2]
          repeat' split
          all_goals rfl
      · exact no (fun h => h1 ⟨h.1, h.2.1⟩) ⟨0, fun k _ => by rw [hh, if_neg (by simpa using h1)]⟩) 0 (by omega)
  exact ⟨r, he, hr.trans ⟨fun h => ⟨fun j hj => h.1 j (by omega) hj, h.2⟩, fun h => ⟨fun j _ hj => h.1 j hj, h.2⟩⟩⟩
theorem impl_store_ok (cs : List (List S94)) (now : Int) (hx : ∀ x ∈ cs, x.length ≤ 1048576) : ∃ r, Ev (fun k => impl_StoreOK.f k cs now) r ∧ (r = true ↔ IsStore cs now) := by
  by_cases hl : cs.length = 16
  · by_cases hn : 0 ≤ now ∧ now ≤ 100000
    · obtain ⟨r, hr, he⟩ := count_loop 16 (fun k i => impl_StoreOK.l0 k cs 16 i cs now) (fun i r => r = true ↔ ∀ i', i ≤ i' → i' < 16 → ∀ j, j < (cs.getD i' []).length → VerOK now i' (cs.getD i' []) j)
        ⟨true, ⟨fun _ i' h1 h2 => by omega, fun _ => rfl⟩, ev_now ⟨0, fun k _ => by simp only [impl_StoreOK.l0]; rw [if_neg (by omega)]⟩⟩
        (fun i hi R hR he => by
          have hm : (cs.getD i []) ∈ cs := by rw [List.getD_eq_getElem?_getD, List.getElem?_eq_getElem (by omega)]; exact List.getElem_mem (by omega)
          obtain ⟨r, he', hr⟩ := impl_chain cs now i hi (cs.getD i []) rfl (hx _ hm) R he
          refine ⟨r, ?_, ev_step ⟨0, fun k _ => by simp only [impl_StoreOK.l0]; rw [if_pos (by omega), if_pos (by omega), if_pos (by omega)]; rfl⟩ he'⟩
          rw [hr, hR]
          constructor
          · rintro ⟨h1, h2⟩ i' h3 h4
            rcases Nat.lt_or_eq_of_le h3 with h5 | rfl
            · exact h2 i' h5 h4
            · exact h1
          · intro h; exact ⟨h i (Nat.le_refl _) hi, fun i' h3 h4 => h i' (by omega) h4⟩) 0 (by omega)
      refine ⟨r, ?_, hr.trans ⟨fun h => ⟨hl, hn.1, hn.2, fun i hi => h i (by omega) hi⟩, fun h i _ hi => h.2.2.2 i hi⟩⟩
      refine ev_step (f := fun k => impl_StoreOK.l0 k cs 16 0 cs now) ⟨0, fun k _ => ?_⟩ he
      unfold impl_StoreOK.f
      rw [if_pos (by omega), impl_in]
      simp only [Option.bind_some, decide_eq_true hn, Bool.not_true, impl_StoreOK.j0]
      rw [if_neg (by simp), hl]
      rfl
    · refine ⟨false, ev_now ⟨0, fun k _ => ?_⟩, ⟨fun h => (by cases h), fun h => absurd ⟨h.2.1, h.2.2.1⟩ hn⟩⟩
      unfold impl_StoreOK.f
      rw [if_pos (by omega), impl_in]
      simp only [Option.bind_some, decide_eq_false hn, Bool.not_false, impl_StoreOK.j0]
      exact if_pos trivial
  · refine ⟨false, ev_now ⟨0, fun k _ => ?_⟩, ⟨fun h => (by cases h), fun h => absurd h.1 hl⟩⟩
    unfold impl_StoreOK.f
    rw [if_neg (by omega)]
    simp only [impl_StoreOK.j0]
    exact if_pos trivial
/-- Both say the same of a store. -/
theorem stores_agree (cs : List (List S94)) (now : Int) (hx : ∀ x ∈ cs, x.length ≤ 1048576) : ∃ r, Ev (fun k => spec_StoreOK.f k cs now) r ∧ Ev (fun k => impl_StoreOK.f k cs now) r ∧ (r = true ↔ IsStore cs now) := by
  obtain ⟨r, e, hr⟩ := spec_store_ok cs now hx
  obtain ⟨r', e', hr'⟩ := impl_store_ok cs now hx
  have : r' = r := by rw [Bool.eq_iff_iff, hr, hr']
  subst this
  exact ⟨r', e, e', hr⟩
end Go.Proofs.Ytjgaenojojfidaa.Pure2
namespace Go.Proofs.Ytjgaenojojfidaa.Pure2
open Go.RowKit Go.Proofs.Ytjgaenojojfidaa.Q Go.Proofs.YtjgaenojojfidaaW.PrintWords Go.Proofs.YtjgaenojojfidaaW.PrintLast
set_option linter.unusedVariables false
set_option linter.unusedSimpArgs false
/-- The measure of a transaction that came in. -/
theorem sz_ints (l : List Int) (a : Int) (h0 : 0 ≤ a) (h1 : a ≤ 1048576) (hl : l.length ≤ 9223372036854775807) : ∃ r, laws_szIntS.f l a = some r ∧ (r < 0 ∨ 0 ≤ r ∧ r ≤ a ∧ l.length ≤ 1048576) := by
  have hw : wrap64 (a - (l.length : Int)) = a - (l.length : Int) := by unfold wrap64; omega
  unfold laws_szIntS.f
  rw [hw]
  by_cases h : a - (l.length : Int) < 0
  · rw [if_pos h]; exact ⟨_, rfl, .inl (by omega)⟩
  · rw [if_neg h]; exact ⟨_, rfl, .inr ⟨by omega, by omega, by omega⟩⟩
theorem sz_puts (l : List S46) (a : Int) (h0 : 0 ≤ a) (h1 : a ≤ 1048576) (hl : l.length ≤ 9223372036854775807) : ∃ r, laws_szPutS.f l a = some r ∧ (r < 0 ∨ 0 ≤ r ∧ r ≤ a ∧ l.length ≤ 1048576) := by
  have hw : wrap64 (a - (l.length : Int)) = a - (l.length : Int) := by unfold wrap64; omega
  unfold laws_szPutS.f
  rw [hw]
  by_cases h : a - (l.length : Int) < 0
  · rw [if_pos h]; exact ⟨_, rfl, .inl (by omega)⟩
  · rw [if_neg h]; exact ⟨_, rfl, .inr ⟨by omega, by omega, by omega⟩⟩
theorem sz_txn (y : S28) (a : Int) (h0 : 0 ≤ a) (h1 : a ≤ 1048576) (hi : i28 y) : ∃ r, laws_szTxn.f y.f0 y.f1 y.f2 a = some r ∧ (r < 0 ∨ 0 ≤ r ∧ r ≤ a ∧ y.f1.length ≤ 1048576 ∧ y.f2.length ≤ 1048576) := by
  obtain ⟨r, e, hr⟩ := sz_ints y.f1 a h0 h1 hi.2.1.1
  unfold laws_szTxn.f
  rw [e]
  simp only [Option.bind_some]
  rcases hr with hr | ⟨h2, h3, h4⟩
  · exact ⟨-1, by rw [if_pos hr], .inl (by omega)⟩
  · rw [if_neg (by omega)]
    obtain ⟨q, e2, hq⟩ := sz_puts y.f2 r h2 (by omega) hi.2.2.1
    rw [e2]
    simp only [Option.bind_some]
    rcases hq with hq | ⟨h5, h6, h7⟩
    · exact ⟨-1, by rw [if_pos hq], .inl (by omega)⟩
    · exact ⟨q, by rw [if_neg (by omega)], .inr ⟨h5, by omega, h4, h7⟩⟩
def cvP (x : S46) : S49 := ⟨x.f0, x.f1⟩
theorem to_ints (l : List Int) (hl : l.length ≤ 1048576) : Ev (fun k => laws_toIntS.f k l) l := by
  have h := fill_loop l 0 id (fun k y i => laws_toIntS.l0 k l y i) (fun y hy => ⟨0, fun k _ => by simp only [laws_toIntS.l0]; rw [if_neg (by omega)]⟩)
    (fun j y hj hy => ⟨0, fun k _ => by
      simp only [laws_toIntS.l0]; rw [if_pos (by omega), if_pos (by omega), if_pos (by omega), wsucc hj (by omega)]; rfl⟩) (List.replicate l.length 0) (by simp)
  rw [List.map_id] at h
  refine ev_same ⟨0, fun k _ => ?_⟩ h
  unfold laws_toIntS.f
  rw [if_pos (by omega), if_pos (by simp; omega), Int.toNat_natCast]
theorem to_puts (l : List S46) (hl : l.length ≤ 1048576) : Ev (fun k => laws_toPutS.f k l) (l.map cvP) := by
  have h := fill_loop l z46 cvP (fun k y i => laws_toPutS.l0 k l y i) (fun y hy => ⟨0, fun k _ => by simp only [laws_toPutS.l0]; rw [if_neg (by omega)]⟩)
    (fun j y hj hy => ⟨0, fun k _ => by
      simp only [laws_toPutS.l0, laws_toPut.f]; rw [if_pos (by omega), if_pos (by omega)]; simp only [Option.bind_some]; rw [if_pos (by omega), wsucc hj (by omega)]; rfl⟩) (List.replicate l.length z49) (by simp)
  refine ev_same ⟨0, fun k _ => ?_⟩ h
  unfold laws_toPutS.f
  rw [if_pos (by omega), if_pos (by simp; omega), Int.toNat_natCast]
theorem to_txn (a : Int) (l : List Int) (p : List S46) (hl : l.length ≤ 1048576) (hp : p.length ≤ 1048576) : Ev (fun k => laws_toTxn.f k a l p) (a, l, p.map cvP) := by
  obtain ⟨K1, h1⟩ := ev_at (to_ints l hl)
  obtain ⟨K2, h2⟩ := ev_at (to_puts p hp)
  exact ev_mk (K1 + K2) (fun k hk => by unfold laws_toTxn.f; rw [h1 k (by omega)]; simp only [Option.bind_some]; rw [h2 k (by omega)]; rfl)
theorem eq_ints (l : List Int) (hl : l.length ≤ 1048576) : Ev (fun k => laws_eqIntS.f k l l) true := by
  obtain ⟨r, hr, he⟩ := count_loop l.length (fun k i => laws_eqIntS.l0 k l l i) (fun _ r => r = true) ⟨true, rfl, ev_now ⟨0, fun k _ => by simp only [laws_eqIntS.l0]; rw [if_neg (by omega)]⟩⟩
    (fun j hj r hr he => ⟨r, hr, ev_step ⟨0, fun k _ => by simp only [laws_eqIntS.l0]; rw [if_pos (by omega), if_pos (by omega), if_pos (by omega), if_pos trivial, wsucc hj (by omega)]⟩ he⟩) 0 (by omega)
  subst hr
  exact ev_same ⟨0, fun k _ => by unfold laws_eqIntS.f; rw [if_pos rfl]; rfl⟩ he
theorem eq_puts (l : List S49) (hl : l.length ≤ 1048576) : Ev (fun k => laws_eqPutS.f k l l) true := by
  obtain ⟨r, hr, he⟩ := count_loop l.length (fun k i => laws_eqPutS.l0 k l l i) (fun _ r => r = true) ⟨true, rfl, ev_now ⟨0, fun k _ => by simp only [laws_eqPutS.l0]; rw [if_neg (by omega)]⟩⟩
    (fun j hj r hr he => ⟨r, hr, ev_step ⟨0, fun k _ => by simp only [laws_eqPutS.l0, laws_eqPut.f]; rw [if_pos (by omega), if_pos (by omega), if_pos (by omega)]; simp only [if_true, Option.bind_some]; rw [wsucc hj (by omega)]⟩ he⟩) 0 (by omega)
  subst hr
  exact ev_same ⟨0, fun k _ => by unfold laws_eqPutS.f; rw [if_pos rfl]; rfl⟩ he
theorem eq_txn (a : Int) (l : List Int) (p : List S49) (hl : l.length ≤ 1048576) (hp : p.length ≤ 1048576) : Ev (fun k => laws_eqTxn.f k a l p a l p) true := by
  obtain ⟨K1, h1⟩ := ev_at (eq_ints l hl)
  obtain ⟨K2, h2⟩ := ev_at (eq_puts p hp)
  exact ev_mk (K1 + K2) (fun k hk => by unfold laws_eqTxn.f; rw [if_pos rfl, h1 k (by omega)]; simp only [Option.bind_some, if_true]; rw [h2 k (by omega)]; rfl)
/-- A Put that is one. -/
def IsPut (x : S49) : Prop := (0 ≤ x.f0 ∧ x.f0 ≤ 15) ∧ fitsB x.f0 x.f1 = true
def IsPuts (l : List S49) : Prop := l.length ≤ 400 ∧ ∀ j, j < l.length → IsPut (l.getD j z49)
theorem spec_puts (l : List S49) (hl : l.length ≤ 1048576) : ∃ r, Ev (fun k => spec_l06Puts.f k l) r ∧ (r = true ↔ IsPuts l) := by
  obtain ⟨r, hr, he⟩ := count_loop l.length (fun k i => spec_l06Puts.l0 k l i) (fun j r => r = true ↔ l.length ≤ 400 ∧ ∀ j', j ≤ j' → j' < l.length → IsPut (l.getD j' z49))
    ⟨decide ((l.length : Int) ≤ 400), ⟨fun h => ⟨by have := of_decide_eq_true h; omega, fun j' h1 h2 => by omega⟩, fun h => decide_eq_true (by have := h.1; omega)⟩, ev_now ⟨0, fun k _ => by simp only [spec_l06Puts.l0]; rw [if_neg (by omega)]⟩⟩
    (fun j hj r hr he => by
      have hd : rd_T49 l (j : Int) = l.getD j z49 := rfl
      have hh : ∀ k, spec_l06Puts.l0 (k + 1) l (j : Int) = if decide (0 ≤ (l.getD j z49).f0 ∧ (l.getD j z49).f0 ≤ 15) = true then (if fitsB (l.getD j z49).f0 (l.getD j z49).f1 = true then spec_l06Puts.l0 k l ((j + 1 : Nat) : Int) else some false) else some false := by
        intro k
        conv => lhs; simp only [spec_l06Puts.l0]
        rw [if_pos (by omega), if_pos (by omega), hd, spec_in, spec_fits]
        simp only [Option.bind_some, wsucc hj (by omega)]
      by_cases h1 : 0 ≤ (l.getD j z49).f0 ∧ (l.getD j z49).f0 ≤ 15
      · by_cases h2 : fitsB (l.getD j z49).f0 (l.getD j z49).f1 = true
        · refine ⟨r, hr.trans ⟨fun h => ⟨h.1, fun j' h3 h4 => ?_⟩, fun h => ⟨h.1, fun j' h3 h4 => h.2 j' (by omega) h4⟩⟩, ev_step ⟨0, fun k _ => by rw [hh, if_pos (decide_eq_true h1), if_pos h2]⟩ he⟩
          rcases Nat.lt_or_eq_of_le h3 with h5 | rfl
          · exact h.2 j' h5 h4
          · exact ⟨h1, h2⟩
        · exact ⟨false, ⟨fun h => (by cases h), fun h => absurd (h.2 j (Nat.le_refl _) hj).2 h2⟩, ev_now ⟨0, fun k _ => by rw [hh, if_pos (decide_eq_true h1), if_neg h2]⟩⟩
      · exact ⟨false, ⟨fun h => (by cases h), fun h => absurd (h.2 j (Nat.le_refl _) hj).1 h1⟩, ev_now ⟨0, fun k _ => by rw [hh, if_neg (by simpa using h1)]⟩⟩) 0 (by omega)
  exact ⟨r, ev_same ⟨0, fun k _ => by unfold spec_l06Puts.f; rfl⟩ he, hr.trans ⟨fun h => ⟨h.1, fun j hj => h.2 j (by omega) hj⟩, fun h => ⟨h.1, fun j _ hj => h.2 j hj⟩⟩⟩
theorem impl_put (a b : Int) : impl_isPut.f a b = some (decide (0 ≤ a ∧ a ≤ 15) && fitsB a b) := by
  unfold impl_isPut.f impl_isKey.f
  rw [impl_in, impl_fits]
  by_cases h : 0 ≤ a ∧ a ≤ 15
  · simp [h]
  · simp only [Option.bind_some, decide_eq_false h]; rfl
theorem impl_puts (l : List S49) : ∃ r, impl_arePuts.f l = some r ∧ (r = true ↔ IsPuts l) := by
  have hp : ∀ x, impl_arePuts.p x = false ↔ IsPut x := by
    intro x
    unfold impl_arePuts.p impl_arePuts_1.f
    rw [impl_put]
    simp only [Option.bind_some, IsPut]
    by_cases h : 0 ≤ x.f0 ∧ x.f0 ≤ 15
    · simp [h]
    · simp only [decide_eq_false h, Bool.false_and, Bool.not_false]
      exact ⟨fun h2 => (by cases h2), fun h2 => absurd h2.1 h⟩
  unfold impl_arePuts.f
  by_cases hl : (l.length : Int) ≤ 400
  · rw [if_pos hl]
    refine ⟨_, rfl, ?_⟩
    rw [Bool.not_eq_true', List.any_eq_false]
    constructor
    · intro h
      refine ⟨by omega, fun j hj => ?_⟩
      rw [List.getD_eq_getElem?_getD, List.getElem?_eq_getElem hj]
      exact (hp _).1 (by simpa using h _ (List.getElem_mem hj))
    · rintro ⟨_, h⟩ x hx
      obtain ⟨j, hj, rfl⟩ := List.getElem_of_mem hx
      have := h j hj
      rw [List.getD_eq_getElem?_getD, List.getElem?_eq_getElem hj] at this
      simpa using (hp _).2 this
  · rw [if_neg hl]
    exact ⟨false, rfl, ⟨fun h => (by cases h), fun h => absurd h.1 (by omega)⟩⟩
theorem spec_int_in (l : List Int) (x : Int) (hl : l.length ≤ 1048576) : ∃ r, Ev (fun k => spec_l07In.f k l x) r ∧ (r = true ↔ ∃ j, j < l.length ∧ l.getD j 0 = x) := by
  obtain ⟨r, hr, he⟩ := count_loop l.length (fun k i => spec_l07In.l0 k l x i) (fun j r => r = true ↔ ∃ j', j ≤ j' ∧ j' < l.length ∧ l.getD j' 0 = x)
    ⟨false, ⟨fun h => (by cases h), fun ⟨j', h1, h2, _⟩ => by omega⟩, ev_now ⟨0, fun k _ => by simp only [spec_l07In.l0]; rw [if_neg (by omega)]⟩⟩
    (fun j hj r hr he => by
      have hd : rd l (j : Int) = l.getD j 0 := rfl
      by_cases hc : l.getD j 0 = x
      · exact ⟨true, ⟨fun _ => ⟨j, Nat.le_refl _, hj, hc⟩, fun _ => rfl⟩, ev_now ⟨0, fun k _ => by simp only [spec_l07In.l0]; rw [if_pos (by omega), if_pos (by omega), hd, if_pos hc]⟩⟩
      · refine ⟨r, hr.trans ⟨fun ⟨j', h1, h2, h3⟩ => ⟨j', by omega, h2, h3⟩, fun ⟨j', h1, h2, h3⟩ => ?_⟩, ev_step ⟨0, fun k _ => by simp only [spec_l07In.l0]; rw [if_pos (by omega), if_pos (by omega), hd, if_neg hc, wsucc hj (by omega)]⟩ he⟩
        rcases Nat.lt_or_eq_of_le h1 with h4 | rfl
        · exact ⟨j', h4, h2, h3⟩
        · exact absurd h3 hc) 0 (by omega)
  exact ⟨r, ev_same ⟨0, fun k _ => by unfold spec_l07In.f; rfl⟩ he, hr.trans ⟨fun ⟨j, _, h2, h3⟩ => ⟨j, h2, h3⟩, fun ⟨j, h2, h3⟩ => ⟨j, by omega, h2, h3⟩⟩⟩
theorem impl_int_in (l : List Int) (x : Int) (hl : l.length ≤ 1048576) : ∃ r, Ev (fun k => slices_Contains_int_int.f k l x) r ∧ (r = true ↔ ∃ j, j < l.length ∧ l.getD j 0 = x) := by
  obtain ⟨r, hr, he⟩ := count_loop l.length (fun k i => slices_Index_int_int.l0 k l x (l.length : Int) i) (fun j r => r ≥ 0 ↔ ∃ j', j ≤ j' ∧ j' < l.length ∧ l.getD j' 0 = x)
    ⟨-1, ⟨fun h => by omega, fun ⟨j', h1, h2, _⟩ => by omega⟩, ev_now ⟨0, fun k _ => by simp only [slices_Index_int_int.l0]; rw [if_neg (by omega)]⟩⟩
    (fun j hj r hr he => by
      have hd : rd l (j : Int) = l.getD j 0 := rfl
      by_cases hc : l.getD j 0 = x
      · exact ⟨(j : Int), ⟨fun _ => ⟨j, Nat.le_refl _, hj, hc⟩, fun _ => by omega⟩, ev_now ⟨0, fun k _ => by simp only [slices_Index_int_int.l0]; rw [if_pos (by omega), if_pos (by omega), if_pos (by omega), hd, if_pos hc.symm]⟩⟩
      · refine ⟨r, hr.trans ⟨fun ⟨j', h1, h2, h3⟩ => ⟨j', by omega, h2, h3⟩, fun ⟨j', h1, h2, h3⟩ => ?_⟩, ev_step ⟨0, fun k _ => by simp only [slices_Index_int_int.l0]; rw [if_pos (by omega), if_pos (by omega), if_pos (by omega), hd, if_neg (fun h => hc h.symm), wsucc hj (by omega)]⟩ he⟩
        rcases Nat.lt_or_eq_of_le h1 with h4 | rfl
        · exact ⟨j', h4, h2, h3⟩
        · exact absurd h3 hc) 0 (by omega)
  obtain ⟨K, hk⟩ := ev_at he
  refine ⟨decide (r ≥ 0), ev_mk K fun k hK => ?_, ?_⟩
  · have := hk k hK
    unfold slices_Contains_int_int.f slices_Index_int_int.f
    simp only [Int.natCast_zero] at this
    rw [this]
    rfl
  · rw [decide_eq_true_iff, hr]
    exact ⟨fun ⟨j, _, h2, h3⟩ => ⟨j, h2, h3⟩, fun ⟨j, h2, h3⟩ => ⟨j, by omega, h2, h3⟩⟩
/-- A read that is a key, and new. -/
def ReadOK (l : List Int) (j : Nat) : Prop := (0 ≤ l.getD j 0 ∧ l.getD j 0 ≤ 15) ∧ ¬ ∃ i, i < j ∧ l.getD i 0 = l.getD j 0
theorem take_in (l : List Int) (j : Nat) (hj : j < l.length) : (∃ i, i < (l.take j).length ∧ (l.take j).getD i 0 = l.getD j 0) ↔ ∃ i, i < j ∧ l.getD i 0 = l.getD j 0 := by
  have hl : (l.take j).length = j := by rw [List.length_take]; omega
  have hg : ∀ i, i < j → (l.take j).getD i 0 = l.getD i 0 := fun i hi => by simp [List.getD_eq_getElem?_getD, List.getElem?_take, hi]
  rw [hl]
  exact ⟨fun ⟨i, h1, h2⟩ => ⟨i, h1, by rw [← hg i h1]; exact h2⟩, fun ⟨i, h1, h2⟩ => ⟨i, h1, by rw [hg i h1]; exact h2⟩⟩
def IsTxn (cs : List (List S94)) (now st : Int) (l : List Int) (p : List S49) : Prop := IsStore cs now ∧ (0 ≤ st ∧ st ≤ now) ∧ IsPuts p ∧ ∀ j, j < l.length → ReadOK l j
theorem spec_reads (st : Int) (l : List Int) (p : List S49) (hl : l.length ≤ 1048576) : ∃ r, Ev (fun k => spec_l07OK.l0 k 0 st l p) r ∧ (r = true ↔ ∀ j, j < l.length → ReadOK l j) := by
  obtain ⟨r, hr, he⟩ := count_loop l.length (fun k i => spec_l07OK.l0 k i st l p) (fun j r => r = true ↔ ∀ j', j ≤ j' → j' < l.length → ReadOK l j')
    ⟨true, ⟨fun _ j' h1 h2 => by omega, fun _ => rfl⟩, ev_now ⟨0, fun k _ => by simp only [spec_l07OK.l0]; rw [if_neg (by omega)]⟩⟩
    (fun j hj r hr he => by
      have hd : rd l (j : Int) = l.getD j 0 := rfl
      obtain ⟨q, eq, hq⟩ := spec_int_in (l.take j) (l.getD j 0) (by rw [List.length_take]; omega)
      rw [take_in l j hj] at hq
      obtain ⟨K, hk⟩ := ev_at eq
      have hh : ∀ k, K ≤ k → spec_l07OK.l0 (k + 1) (j : Int) st l p = if decide (0 ≤ l.getD j 0 ∧ l.getD j 0 ≤ 15) = true then (if q = true then some false else spec_l07OK.l0 k ((j + 1 : Nat) : Int) st l p) else some false := by
        intro k hK
        conv => lhs; simp only [spec_l07OK.l0]
        rw [if_pos (by omega), if_pos (by omega), hd, spec_in]
        simp only [Option.bind_some, wsucc hj (by omega), Int.toNat_natCast]
        rw [if_pos (show (j : Int) ≤ (l.length : Int) by omega), hk k hK]
        simp only [Option.bind_some]
      by_cases h1 : 0 ≤ l.getD j 0 ∧ l.getD j 0 ≤ 15
      · by_cases h2 : q = true
        · exact ⟨false, ⟨fun h => (by cases h), fun h => absurd (hq.1 h2) (h j (Nat.le_refl _) hj).2⟩, ev_now ⟨K, fun k hK => by rw [hh k hK, if_pos (decide_eq_true h1), if_pos h2]⟩⟩
        · refine ⟨r, hr.trans ⟨fun h j' h3 h4 => ?_, fun h j' h3 h4 => h j' (by omega) h4⟩, ev_step ⟨K, fun k hK => by rw [hh k hK, if_pos (decide_eq_true h1), if_neg h2]⟩ he⟩
          rcases Nat.lt_or_eq_of_le h3 with h5 | rfl
          · exact h j' h5 h4
          · exact ⟨h1, fun h => h2 (hq.2 h)⟩
      · exact ⟨false, ⟨fun h => (by cases h), fun h => absurd (h j (Nat.le_refl _) hj).1 h1⟩, ev_now ⟨K, fun k hK => by rw [hh k hK, if_neg (by simpa using h1)]⟩⟩) 0 (by omega)
  exact ⟨r, he, hr.trans ⟨fun h j hj => h j (by omega) hj, fun h j _ hj => h j hj⟩⟩
theorem impl_reads (st : Int) (l : List Int) (p : List S49) (hl : l.length ≤ 1048576) : ∃ r, Ev (fun k => impl_TxnOK.l0 k l (l.length : Int) 0 st l p) r ∧ (r = true ↔ ∀ j, j < l.length → ReadOK l j) := by
  obtain ⟨r, hr, he⟩ := count_loop l.length (fun k i => impl_TxnOK.l0 k l (l.length : Int) i st l p) (fun j r => r = true ↔ ∀ j', j ≤ j' → j' < l.length → ReadOK l j')
    ⟨true, ⟨fun _ j' h1 h2 => by omega, fun _ => rfl⟩, ev_now ⟨0, fun k _ => by simp only [impl_TxnOK.l0]; rw [if_neg (by omega)]⟩⟩
    (fun j hj r hr he => by
      have hd : rd l (j : Int) = l.getD j 0 := rfl
      obtain ⟨q, eq, hq⟩ := impl_int_in (l.take j) (l.getD j 0) (by rw [List.length_take]; omega)
      rw [take_in l j hj] at hq
      obtain ⟨K, hk⟩ := ev_at eq
      have hh : ∀ k, K ≤ k → impl_TxnOK.l0 (k + 1) l (l.length : Int) (j : Int) st l p = if decide (0 ≤ l.getD j 0 ∧ l.getD j 0 ≤ 15) = true then (if q = true then some false else impl_TxnOK.l0 k l (l.length : Int) ((j + 1 : Nat) : Int) st l p) else some false := by
        intro k hK
        conv => lhs; simp only [impl_TxnOK.l0, impl_isKey.f]
        rw [if_pos (by omega), if_pos (by omega), if_pos (by omega), hd, impl_in]
        simp only [Option.bind_some, wsucc hj (by omega), Int.toNat_natCast]
        rw [if_pos (show (j : Int) ≤ (l.length : Int) by omega), hk k hK]
        simp only [Option.bind_some]
      by_cases h1 : 0 ≤ l.getD j 0 ∧ l.getD j 0 ≤ 15
      · by_cases h2 : q = true
        · exact ⟨false, ⟨fun h => (by cases h), fun h => absurd (hq.1 h2) (h j (Nat.le_refl _) hj).2⟩, ev_now ⟨K, fun k hK => by rw [hh k hK, if_pos (decide_eq_true h1), if_pos h2]⟩⟩
        · refine ⟨r, hr.trans ⟨fun h j' h3 h4 => ?_, fun h j' h3 h4 => h j' (by omega) h4⟩, ev_step ⟨K, fun k hK => by rw [hh k hK, if_pos (decide_eq_true h1), if_neg h2]⟩ he⟩
          rcases Nat.lt_or_eq_of_le h3 with h5 | rfl
          · exact h j' h5 h4
          · exact ⟨h1, fun h => h2 (hq.2 h)⟩
      · exact ⟨false, ⟨fun h => (by cases h), fun h => absurd (h j (Nat.le_refl _) hj).1 h1⟩, ev_now ⟨K, fun k hK => by rw [hh k hK, if_neg (by simpa using h1)]⟩⟩) 0 (by omega)
  exact ⟨r, he, hr.trans ⟨fun h j hj => h j (by omega) hj, fun h j _ hj => h j hj⟩⟩
theorem txns_agree (cs : List (List S94)) (now st : Int) (l : List Int) (p : List S49) (hx : ∀ x ∈ cs, x.length ≤ 1048576) (hl : l.length ≤ 1048576) (hp : p.length ≤ 1048576) :
    ∃ r, Ev (fun k => spec_TxnOK.f k cs now st l p) r ∧ Ev (fun k => impl_TxnOK.f k cs now st l p) r ∧ (r = true ↔ IsTxn cs now st l p) := by
  obtain ⟨b, e1, e2, hb⟩ := stores_agree cs now hx
  obtain ⟨K1, h1⟩ := ev_at e1
  obtain ⟨K2, h2⟩ := ev_at e2
  obtain ⟨q, f1, hq⟩ := spec_puts p hp
  obtain ⟨q', f2, hq'⟩ := impl_puts p
  have : q' = q := by rw [Bool.eq_iff_iff, hq, hq']
  subst this
  obtain ⟨K3, h3⟩ := ev_at f1
  obtain ⟨t, g1, ht⟩ := spec_reads st l p hl
  obtain ⟨t', g2, ht'⟩ := impl_reads st l p hl
  have : t' = t := by rw [Bool.eq_iff_iff, ht, ht']
  subst this
  obtain ⟨K4, h4⟩ := ev_at g1
  obtain ⟨K5, h5⟩ := ev_at g2
  refine ⟨b && (decide (0 ≤ st ∧ st ≤ now) && (q' && t')), ev_mk (K1 + K3 + K4 + 1) fun k hk => ?_, ev_mk (K2 + K5 + 1) fun k hk => ?_, ?_⟩
  · obtain ⟨k, rfl⟩ : ∃ m, k = m + 1 := ⟨k - 1, by omega⟩
    unfold spec_TxnOK.f spec_l07OK.f
    rw [h1 _ (by omega)]
    simp only [Option.bind_some, spec_in]
    rw [h3 _ (by omega)]
    simp only [Option.bind_some, spec_l07OK.j0]
    rw [h4 k (by omega)]
    cases b <;> cases hd : decide (0 ≤ st ∧ st ≤ now) <;> cases q' <;> cases t' <;> rfl
  · obtain ⟨k, rfl⟩ : ∃ m, k = m + 1 := ⟨k - 1, by omega⟩
    unfold impl_TxnOK.f impl_Store_isHour.f
    rw [h2 _ (by omega), f2]
    simp only [Option.bind_some, impl_in, impl_TxnOK.j0]
    rw [h5 k (by omega)]
    cases b <;> cases hd : decide (0 ≤ st ∧ st ≤ now) <;> cases q' <;> cases t' <;> rfl
  · rw [Bool.and_eq_true, Bool.and_eq_true, Bool.and_eq_true, hb, hq, ht, decide_eq_true_iff]
    rfl
end Go.Proofs.Ytjgaenojojfidaa.Pure2
namespace Go.Proofs.Ytjgaenojojfidaa.Pure2
open Go.RowKit Go.Proofs.Ytjgaenojojfidaa.Q Go.Proofs.YtjgaenojojfidaaW.PrintWords Go.Proofs.YtjgaenojojfidaaW.PrintLast
set_option linter.unusedVariables false
set_option linter.unusedSimpArgs false
/-- Whether a chain's last version is behind an hour: of a right key this is told. -/
theorem changed_some (cs : List (List S94)) (now key ts : Int) (hl : cs.length = 16) (h0 : 0 ≤ key) (h1 : key ≤ 15) (hx : ∀ x ∈ cs, x.length ≤ 1048576) : ∃ b, spec_l06Changed.f cs now key ts = some b ∧ impl_Store_changedSince.f cs now key ts = some b := by
  have same : impl_Store_changedSince.f cs now key ts = spec_l06Changed.f cs now key ts := rfl
  rw [same]
  have hc : (rd_L5 cs key).length ≤ 1048576 := by
    refine hx _ ?_
    show cs.getD key.toNat [] ∈ cs
    rw [List.getD_eq_getElem?_getD, List.getElem?_eq_getElem (by omega)]
    exact List.getElem_mem (by omega)
  unfold spec_l06Changed.f
  rw [if_pos h0, if_pos (by omega)]
  generalize rd_L5 cs key = c at hc
  by_cases hp : (c.length : Int) > 0
  · have hw : wrap64 ((c.length : Int) - 1) = (c.length : Int) - 1 := by unfold wrap64; omega
    rw [if_pos hp, hw, if_pos (by omega), if_pos (by omega)]
    exact ⟨_, rfl, rfl⟩
  · rw [if_neg hp]
    exact ⟨_, rfl, rfl⟩
theorem conflicts_agree (cs : List (List S94)) (now st : Int) (l : List Int) (p : List S49) (hs : cs.length = 16) (hx : ∀ x ∈ cs, x.length ≤ 1048576) (hl : l.length ≤ 1048576) (hr : ∀ j, j < l.length → ReadOK l j) :
    ∃ r, Ev (fun k => spec_l07Conflicts.f k cs now st l p) r ∧ impl_Store_conflicts.f cs now st l p = some r := by
  have hch : ∀ x ∈ l, ∃ b, spec_l06Changed.f cs now x st = some b ∧ impl_Store_changedSince.f cs now x st = some b := by
    intro x hx'
    obtain ⟨j, hj, rfl⟩ := List.getElem_of_mem hx'
    have h := (hr j hj).1
    rw [List.getD_eq_getElem?_getD, List.getElem?_eq_getElem hj] at h
    exact changed_some cs now _ st hs h.1 h.2 hx
  have hall : (l.all fun x => (impl_Store_changedSince.f cs now x st).isSome) = true := by
    rw [List.all_eq_true]
    intro x hx'
    obtain ⟨b, _, hb⟩ := hch x hx'
    rw [hb]; rfl
  have hp : ∀ x ∈ l, spec_l06Changed.f cs now x st = some (impl_Store_conflicts.p cs now st x) := by
    intro x hx'
    obtain ⟨b, h1, h2⟩ := hch x hx'
    unfold impl_Store_conflicts.p
    rw [h1, h2]
  obtain ⟨r, hr', he⟩ := count_loop l.length (fun k i => spec_l07Conflicts.l0 k i cs now st l p) (fun j r => r = true ↔ p.length > 0 ∧ ∃ j', j ≤ j' ∧ j' < l.length ∧ impl_Store_conflicts.p cs now st (l.getD j' 0) = true)
    ⟨false, ⟨fun h => (by cases h), fun ⟨_, j', h1, h2, _⟩ => by omega⟩, ev_now ⟨0, fun k _ => by simp only [spec_l07Conflicts.l0]; rw [if_neg (by omega)]⟩⟩
    (fun j hj r hr he => by
      have hd : rd l (j : Int) = l.getD j 0 := rfl
      have hm : l.getD j 0 ∈ l := by rw [List.getD_eq_getElem?_getD, List.getElem?_eq_getElem hj]; exact List.getElem_mem hj
      have hh : ∀ k, spec_l07Conflicts.l0 (k + 1) (j : Int) cs now st l p = if impl_Store_conflicts.p cs now st (l.getD j 0) = true then some (decide ((p.length : Int) > 0)) else spec_l07Conflicts.l0 k ((j + 1 : Nat) : Int) cs now st l p := by
        intro k
        conv => lhs; simp only [spec_l07Conflicts.l0]
        rw [if_pos (by omega), if_pos (by omega), hd, hp _ hm]
        simp only [Option.bind_some, wsucc hj (by omega)]
      by_cases hc : impl_Store_conflicts.p cs now st (l.getD j 0) = true
      · exact ⟨decide ((p.length : Int) > 0), ⟨fun h => ⟨by have := of_decide_eq_true h; omega, j, Nat.le_refl _, hj, hc⟩, fun h => decide_eq_true (by have := h.1; omega)⟩, ev_now ⟨0, fun k _ => by rw [hh, if_pos hc]⟩⟩
      · refine ⟨r, hr.trans ⟨fun ⟨h0, j', h1, h2, h3⟩ => ⟨h0, j', by omega, h2, h3⟩, fun ⟨h0, j', h1, h2, h3⟩ => ⟨h0, ?_⟩⟩, ev_step ⟨0, fun k _ => by rw [hh, if_neg hc]⟩ he⟩
        rcases Nat.lt_or_eq_of_le h1 with h4 | rfl
        · exact ⟨j', h4, h2, h3⟩
        · exact absurd h3 hc) 0 (by omega)
  refine ⟨r, ev_same ⟨0, fun k _ => by unfold spec_l07Conflicts.f; rfl⟩ he, ?_⟩
  unfold impl_Store_conflicts.f
  by_cases hn : (p.length : Int) > 0
  · rw [if_pos hn, if_pos hall]
    congr 1
    rw [Bool.eq_iff_iff, hr', List.any_eq_true]
    constructor
    · rintro ⟨x, hx', h⟩
      obtain ⟨j, hj, rfl⟩ := List.getElem_of_mem hx'
      exact ⟨by omega, j, by omega, hj, by rw [List.getD_eq_getElem?_getD, List.getElem?_eq_getElem hj]; exact h⟩
    · rintro ⟨_, j, _, hj, h⟩
      rw [List.getD_eq_getElem?_getD, List.getElem?_eq_getElem hj] at h
      exact ⟨_, List.getElem_mem hj, h⟩
  · rw [if_neg hn]
    congr 1
    cases r with
    | false => rfl
    | true => exact absurd (hr'.1 rfl).1 (by omega)
end Go.Proofs.Ytjgaenojojfidaa.Pure2
namespace Go.Proofs.Ytjgaenojojfidaa.Pure2
open Go.RowKit Go.Proofs.Ytjgaenojojfidaa.Q Go.Proofs.YtjgaenojojfidaaW.PrintWords Go.Proofs.YtjgaenojojfidaaW.PrintLast
set_option linter.unusedVariables false
set_option linter.unusedSimpArgs false
theorem ask_conflicts (cs : List (List S94)) (now st : Int) (l : List Int) (p : List S49) (hx : ∀ x ∈ cs, x.length ≤ 1048576) (hl : l.length ≤ 1048576) (hp : p.length ≤ 1048576) :
    ∃ r : Bool × Int, Ev (fun k => spec_Conflicts.f k cs now st l p) r ∧ Ev (fun k => impl_Conflicts.f k cs now st l p) r := by
  obtain ⟨b, e1, e2, hb⟩ := txns_agree cs now st l p hx hl hp
  obtain ⟨K1, h1⟩ := ev_at e1
  obtain ⟨K2, h2⟩ := ev_at e2
  cases b with
  | false => exact ⟨(false, 1), ev_mk K1 fun k hk => by unfold spec_Conflicts.f; rw [h1 k hk]; rfl, ev_mk K2 fun k hk => by unfold impl_Conflicts.f; rw [h2 k hk]; rfl⟩
  | true =>
    obtain ⟨hs, _, _, hr⟩ := hb.1 rfl
    obtain ⟨c, f1, f2⟩ := conflicts_agree cs now st l p hs.1 hx hl hr
    obtain ⟨K3, h3⟩ := ev_at f1
    refine ⟨(c, 0), ev_mk (K1 + K3) fun k hk => ?_, ev_mk K2 fun k hk => ?_⟩
    · unfold spec_Conflicts.f; rw [h1 k (by omega)]; simp only [Option.bind_some, if_true]; rw [h3 k (by omega)]; rfl
    · unfold impl_Conflicts.f; rw [h2 k hk]; simp only [Option.bind_some, if_true]; rw [f2]; rfl
theorem FnExactConflicts : laws_FnExactConflicts.Pure2 := by
  intro y z hy hz
  obtain ⟨r, he, hr⟩ := sz_store y 1048576 (by omega) (by omega) hy
  refine Ev.rounds (r := true) ?_
  obtain ⟨K1, h1⟩ := ev_at he
  rcases hr with hr | ⟨hr0, hr1, hs⟩
  · exact ev_mk K1 fun k hk => by unfold laws_FnExactConflicts.f; rw [h1 k hk]; simp only [Option.bind_some]; rw [if_pos hr]
  · obtain ⟨q, e2, hq⟩ := sz_txn z r hr0 (by omega) hz
    rcases hq with hq | ⟨_, _, hl, hp⟩
    · exact ev_mk K1 fun k hk => by unfold laws_FnExactConflicts.f; rw [h1 k hk]; simp only [Option.bind_some]; rw [if_neg (by omega), e2]; simp only [Option.bind_some]; rw [if_pos hq]
    · have hpl : (z.f2.map cvP).length ≤ 1048576 := by rw [List.length_map]; exact hp
      obtain ⟨K2, h2⟩ := ev_at (to_store y.f0 y.f1 hs)
      obtain ⟨K3, h3⟩ := ev_at (to_txn z.f0 z.f1 z.f2 hl hp)
      obtain ⟨b, g1, g2⟩ := ask_conflicts (cvS y.f0) y.f1 z.f0 z.f1 (z.f2.map cvP) (small_cv _ hs).2 hl hpl
      obtain ⟨K4, h4⟩ := ev_at g1
      obtain ⟨K5, h5⟩ := ev_at g2
      obtain ⟨K6, h6⟩ := ev_at (eq_store (cvS y.f0) y.f1 (small_cv _ hs).1 (small_cv _ hs).2)
      obtain ⟨K7, h7⟩ := ev_at (eq_txn z.f0 z.f1 (z.f2.map cvP) hl hpl)
      refine ev_mk (K1 + K2 + K3 + K4 + K5 + K6 + K7 + 1) fun k hk => ?_
      obtain ⟨k, rfl⟩ : ∃ m, k = m + 1 := ⟨k - 1, by omega⟩
      unfold laws_FnExactConflicts.f
      rw [h1 _ (by omega)]; simp only [Option.bind_some]; rw [if_neg (by omega), e2]; simp only [Option.bind_some]; rw [if_neg (by omega), h2 _ (by omega)]; simp only [Option.bind_some]
      rw [h3 _ (by omega)]; simp only [Option.bind_some]; rw [h4 _ (by omega)]; simp only [Option.bind_some]; rw [h5 _ (by omega)]; simp only [Option.bind_some, bne_self_eq_false]
      rw [if_neg (by simp)]
      simp only [laws_FnExactConflicts.j0]
      rw [if_neg (by simp), h2 _ (by omega)]; simp only [Option.bind_some]; rw [h6 _ (by omega)]; simp only [Option.bind_some, if_true]
      rw [h3 _ (by omega)]; simp only [Option.bind_some]; rw [h7 _ (by omega)]; rfl
end Go.Proofs.Ytjgaenojojfidaa.Pure2
