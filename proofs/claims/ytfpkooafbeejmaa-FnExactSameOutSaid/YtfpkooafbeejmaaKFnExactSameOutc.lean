/- Texts of the claim on FnExactSameOut, gathered by a program of this session: what the program's functions compute (proved by walks), and the plain part. -/
import Derived.Test.YtfpkooafbeejmaaKFnExactSameOutb
import Derived.Maps.OwnSet
import Derived.Test.YtfpkooafbeejmaaKFnExactSameOutOpens
import Derived.KernelRfl
namespace Go.Proofs.Ytfpkooafbeejmaa.Q
open Go.RowKit Go.Proofs.YtfpkooafbeejmaaW.PrintWords Go.Proofs.YtfpkooafbeejmaaW.PrintLast Go.Proofs.YtfpkooafbeejmaaW.PrintMore
attribute [local go_sem] max2_int min2_int max_two min_two max_three min_three max_four min_four
set_option linter.unusedVariables false
set_option linter.unusedSimpArgs false

mutual
def impl_Out_isRight.j0 : Nat → Bool → Int → Int → ByteArray → List ByteArray → List (S46) → Option (Bool)
 | 0, _, _, _, _, _, _ => none
 | k + 1, x37, x102000, x102001, x102002, x102003, x102004 => if x37 = true then (some false) else (if x102000 = 0 then (impl_Out_isRight.j1 k x102000 (x102000 == 0) x102000 x102001 x102002 x102003 x102004) else (impl_Out_isRight.j1 k x102000 (x102000 == 1) x102000 x102001 x102002 x102003 x102004))
def impl_Out_isRight.j1 : Nat → Int → Bool → Int → Int → ByteArray → List ByteArray → List (S46) → Option (Bool)
 | 0, _, _, _, _, _, _, _ => none
 | k + 1, x39, x40, x102000, x102001, x102002, x102003, x102004 => if x40 = true then (some ((x102004.length : Int) == 0)) else (if x39 = 2 then ((impl_NameOK.f k x102002).bind fun t104 => (if t104 = true then (some ((x102004.length : Int) == 0)) else (some false))) else (if x39 = 3 then (some true) else (if x39 = 4 then (some ((x102003.length : Int) == (x102004.length : Int))) else (some false))))
end
def impl_Out_isRight.f (k : Nat) (a0_0 : Int) (a0_1 : Int) (a0_2 : ByteArray) (l0_3 : List ByteArray) (l0_4 : List (S46)) : Option (Bool) := if a0_0 = 1 then ((impl_IsInt.f a0_1).bind fun t102 => (if t102 = true then (if a0_0 = 2 then (if a0_0 = 4 then (impl_Out_isRight.j0 k false a0_0 a0_1 a0_2 l0_3 l0_4) else (impl_Out_isRight.j0 k (decide ((l0_3.length : Int) > 0)) a0_0 a0_1 a0_2 l0_3 l0_4)) else (if a0_2.toList = ([] : List UInt8) then (if a0_0 = 4 then (impl_Out_isRight.j0 k false a0_0 a0_1 a0_2 l0_3 l0_4) else (impl_Out_isRight.j0 k (decide ((l0_3.length : Int) > 0)) a0_0 a0_1 a0_2 l0_3 l0_4)) else (impl_Out_isRight.j0 k true a0_0 a0_1 a0_2 l0_3 l0_4))) else (impl_Out_isRight.j0 k true a0_0 a0_1 a0_2 l0_3 l0_4))) else (if a0_1 = 0 then ((impl_IsInt.f a0_1).bind fun t103 => (if t103 = true then (if a0_0 = 2 then (if a0_0 = 4 then (impl_Out_isRight.j0 k false a0_0 a0_1 a0_2 l0_3 l0_4) else (impl_Out_isRight.j0 k (decide ((l0_3.length : Int) > 0)) a0_0 a0_1 a0_2 l0_3 l0_4)) else (if a0_2.toList = ([] : List UInt8) then (if a0_0 = 4 then (impl_Out_isRight.j0 k false a0_0 a0_1 a0_2 l0_3 l0_4) else (impl_Out_isRight.j0 k (decide ((l0_3.length : Int) > 0)) a0_0 a0_1 a0_2 l0_3 l0_4)) else (impl_Out_isRight.j0 k true a0_0 a0_1 a0_2 l0_3 l0_4))) else (impl_Out_isRight.j0 k true a0_0 a0_1 a0_2 l0_3 l0_4))) else (impl_Out_isRight.j0 k true a0_0 a0_1 a0_2 l0_3 l0_4))
set_option maxHeartbeats 8000000 in
set_option maxRecDepth 100000 in
theorem impl_Out_isRight.calls (k : Nat) (a0_0 : Int) (a0_1 : Int) (a0_2 : ByteArray) (A0_3 : Option Addr) (c0_3 : Nat) (l0_3 : List ByteArray) (A0_4 : Option Addr) (c0_4 : Nat) (l0_4 : List (S46)) (r : Bool) (w : World) (hr0_3 : Kd.C Kd.string w A0_3 l0_3.length l0_3) (hc0_3 : l0_3.length ≤ c0_3) (hr0_4 : Kd.C k46 w A0_4 l0_4.length l0_4) (hc0_4 : l0_4.length ≤ c0_4) (h : impl_Out_isRight.f k a0_0 a0_1 a0_2 l0_3 l0_4 = some r) :
  Calls Try.prog 102 #[.agg #[.int .i64 a0_0, .int .i64 a0_1, .string a0_2, .slice A0_3 l0_3.length c0_3, .slice A0_4 l0_4.length c0_4]] w fun e w' => e = .returned (.bool r) ∧ Below w.heap.size w w' := by
 have hu46 := Try.underlying46; have HR0_3 := qO hr0_3; have HC0_3 := qO hc0_3; clear hr0_3 hc0_3; have HR0_4 := qO hr0_4; have HC0_4 := qO hc0_4; clear hr0_4 hc0_4; have HB := qO (Below.refl w.heap.size w); have H : (if a0_0 = 1 then ((impl_IsInt.f a0_1).bind fun t102 => (if t102 = true then (if a0_0 = 2 then (if a0_0 = 4 then (impl_Out_isRight.j0 k false a0_0 a0_1 a0_2 l0_3 l0_4) else (impl_Out_isRight.j0 k (decide ((l0_3.length : Int) > 0)) a0_0 a0_1 a0_2 l0_3 l0_4)) else (if a0_2.toList = ([] : List UInt8) then (if a0_0 = 4 then (impl_Out_isRight.j0 k false a0_0 a0_1 a0_2 l0_3 l0_4) else (impl_Out_isRight.j0 k (decide ((l0_3.length : Int) > 0)) a0_0 a0_1 a0_2 l0_3 l0_4)) else (impl_Out_isRight.j0 k true a0_0 a0_1 a0_2 l0_3 l0_4))) else (impl_Out_isRight.j0 k true a0_0 a0_1 a0_2 l0_3 l0_4))) else (if a0_1 = 0 then ((impl_IsInt.f a0_1).bind fun t103 => (if t103 = true then (if a0_0 = 2 then (if a0_0 = 4 then (impl_Out_isRight.j0 k false a0_0 a0_1 a0_2 l0_3 l0_4) else (impl_Out_isRight.j0 k (decide ((l0_3.length : Int) > 0)) a0_0 a0_1 a0_2 l0_3 l0_4)) else (if a0_2.toList = ([] : List UInt8) then (if a0_0 = 4 then (impl_Out_isRight.j0 k false a0_0 a0_1 a0_2 l0_3 l0_4) else (impl_Out_isRight.j0 k (decide ((l0_3.length : Int) > 0)) a0_0 a0_1 a0_2 l0_3 l0_4)) else (impl_Out_isRight.j0 k true a0_0 a0_1 a0_2 l0_3 l0_4))) else (impl_Out_isRight.j0 k true a0_0 a0_1 a0_2 l0_3 l0_4))) else (impl_Out_isRight.j0 k true a0_0 a0_1 a0_2 l0_3 l0_4))) = some r := h; clear h; have HC2 := qO H; clear H
 go_enter Try.func102, Try.ntmps102
 go_upto_region 1 with (first | ((with_reducible refine gate_dst (N := 1) rfl ?_); (try (refine gate_guard (by rfl) ?_; dsimp only)); refine box_event ?hg (N := 1) ?hd (cs := #[.int .i64 a0_0, .int .i64 a0_1, .string a0_2, .slice A0_3 l0_3.length c0_3, .slice A0_4 l0_4.length c0_4]) (t := 46) ?hr ?_; (case hd => rfl); (case hg => rfl); (case hr => exact qa21); intro gb101 hg w3 hbox hb; have n0_ := qO (below_step qa12 hb); have n1_ := qO (hbox); have n2_ := qO ((qa43 : w.heap.size ≤ gb101)); have n3_ := qO ((qa43 : w.heap.size ≤ gb101)); clear HB; have HB := n0_; have BK101 := n1_; have GW101 := n2_; have GE101 := n3_; clear n0_ n1_ n2_ n3_; clear hb hbox hg))
 (try simp only [Act.put, qzA, qzB, qzC])
 go_cut [37] (fun v37 wc => ∃ (kq : Nat) (x37_1 : Bool), v37 = .bool x37_1 ∧ Aside0 (impl_Out_isRight.j0 kq x37_1 a0_0 a0_1 a0_2 l0_3 l0_4 = some r) ∧ Aside0 (kq ≤ k) ∧ Aside0 (wc.heap[gb101]? = some (.cells #[.int .i64 a0_0, .int .i64 a0_1, .string a0_2, (.slice A0_3 l0_3.length c0_3), (.slice A0_4 l0_4.length c0_4)] 46 (0, 0))) ∧ Aside0 (Below w.heap.size w wc))
 case first =>
  have H := HC2.out; clear HC2
  by_cases c4 : a0_0 = 1
  ·rw [if_pos c4] at H
   have c4b0 : (a0_0 == 1) = true := beq_iff_eq.mpr c4; have c4b1 : (a0_0 != 1) = false := bne_eq_false_iff_eq.mpr c4; clear c4; (first | rw [c4b0] | (simp only [i64_w, i32_w]; rw [c4b0]) | skip); replace H := Option.bind_eq_some_iff.mp H; obtain ⟨t102, A50, H⟩ := H; replace H : (if t102 = true then (if a0_0 = 2 then (if a0_0 = 4 then (impl_Out_isRight.j0 k false a0_0 a0_1 a0_2 l0_3 l0_4) else (impl_Out_isRight.j0 k (decide ((l0_3.length : Int) > 0)) a0_0 a0_1 a0_2 l0_3 l0_4)) else (if a0_2.toList = ([] : List UInt8) then (if a0_0 = 4 then (impl_Out_isRight.j0 k false a0_0 a0_1 a0_2 l0_3 l0_4) else (impl_Out_isRight.j0 k (decide ((l0_3.length : Int) > 0)) a0_0 a0_1 a0_2 l0_3 l0_4)) else (impl_Out_isRight.j0 k true a0_0 a0_1 a0_2 l0_3 l0_4))) else (impl_Out_isRight.j0 k true a0_0 a0_1 a0_2 l0_3 l0_4)) = some r := H; have A5 := qO A50; clear A50
   by_cases c6 : t102 = true
   ·subst c6
    have H1 : (if a0_0 = 2 then (if a0_0 = 4 then (impl_Out_isRight.j0 k false a0_0 a0_1 a0_2 l0_3 l0_4) else (impl_Out_isRight.j0 k (decide ((l0_3.length : Int) > 0)) a0_0 a0_1 a0_2 l0_3 l0_4)) else (if a0_2.toList = ([] : List UInt8) then (if a0_0 = 4 then (impl_Out_isRight.j0 k false a0_0 a0_1 a0_2 l0_3 l0_4) else (impl_Out_isRight.j0 k (decide ((l0_3.length : Int) > 0)) a0_0 a0_1 a0_2 l0_3 l0_4)) else (impl_Out_isRight.j0 k true a0_0 a0_1 a0_2 l0_3 l0_4))) = some r := by rw [if_pos rfl] at H; exact H
    clear H; have H := H1; clear H1
    by_cases c7 : a0_0 = 2
    ·rw [if_pos c7] at H
     have c7b0 : (a0_0 == 2) = true := beq_iff_eq.mpr c7; have c7b1 : (a0_0 != 2) = false := bne_eq_false_iff_eq.mpr c7; clear c7
     by_cases c8 : a0_0 = 4
     ·rw [if_pos c8] at H
      have c8b0 : (a0_0 == 4) = true := beq_iff_eq.mpr c8; have c8b1 : (a0_0 != 4) = false := bne_eq_false_iff_eq.mpr c8; clear c8; have H' := qO H; clear H; have hcz9_0 : w3.cell? ⟨gb101, 0, none⟩ = some (.int .i64 a0_0) := (blk_cell BK101.out 0).trans rfl; have hcz9_1 : w3.cell? ⟨gb101, 1, none⟩ = some (.int .i64 a0_1) := (blk_cell BK101.out 1).trans rfl; have hcz9_2 : w3.cell? ⟨gb101, 2, none⟩ = some (.string a0_2) := (blk_cell BK101.out 2).trans rfl; have hcz9_3 : w3.cell? ⟨gb101, 3, none⟩ = some (.slice A0_3 l0_3.length c0_3) := (blk_cell BK101.out 3).trans rfl; have hcz9_4 : w3.cell? ⟨gb101, 4, none⟩ = some (.slice A0_4 l0_4.length c0_4) := (blk_cell BK101.out 4).trans rfl; have hfz9_0 := blk_frozen BK101.out 0; have hfz9_1 := blk_frozen BK101.out 1; have hfz9_2 := blk_frozen BK101.out 2; have hfz9_3 := blk_frozen BK101.out 3; have hfz9_4 := blk_frozen BK101.out 4
      go_wp2_with (first | (go_at_call 99; (with_reducible refine (impl_IsInt.calls a0_1 true _ A5.out).mono ?_); rintro e w' ⟨rfl, ⟨nd, rfl⟩⟩))
      go_meet
      case rel => exact ⟨_, (false), qa5, H', ⟨qa44⟩, ⟨qa9⟩, ⟨qa2⟩⟩
     ·rw [if_neg c8] at H
      have c8b0 : (a0_0 == 4) = false := beq_eq_false_iff_ne.mpr c8; have c8b1 : (a0_0 != 4) = true := bne_iff_ne.mpr c8; have H' := qO H; clear H; have hcz10_0 : w3.cell? ⟨gb101, 0, none⟩ = some (.int .i64 a0_0) := (blk_cell BK101.out 0).trans rfl; have hcz10_1 : w3.cell? ⟨gb101, 1, none⟩ = some (.int .i64 a0_1) := (blk_cell BK101.out 1).trans rfl; have hcz10_2 : w3.cell? ⟨gb101, 2, none⟩ = some (.string a0_2) := (blk_cell BK101.out 2).trans rfl; have hcz10_3 : w3.cell? ⟨gb101, 3, none⟩ = some (.slice A0_3 l0_3.length c0_3) := (blk_cell BK101.out 3).trans rfl; have hcz10_4 : w3.cell? ⟨gb101, 4, none⟩ = some (.slice A0_4 l0_4.length c0_4) := (blk_cell BK101.out 4).trans rfl; have hfz10_0 := blk_frozen BK101.out 0; have hfz10_1 := blk_frozen BK101.out 1; have hfz10_2 := blk_frozen BK101.out 2; have hfz10_3 := blk_frozen BK101.out 3; have hfz10_4 := blk_frozen BK101.out 4
      go_wp2_with (first | (go_at_call 99; (with_reducible refine (impl_IsInt.calls a0_1 true _ A5.out).mono ?_); rintro e w' ⟨rfl, ⟨nd, rfl⟩⟩))
      go_meet
      case rel => exact ⟨_, (decide ((l0_3.length : Int) > 0)), qa5, H', ⟨qa44⟩, ⟨qa9⟩, ⟨qa2⟩⟩
    ·rw [if_neg c7] at H
     have c7b0 : (a0_0 == 2) = false := beq_eq_false_iff_ne.mpr c7; have c7b1 : (a0_0 != 2) = true := bne_iff_ne.mpr c7
     by_cases c11 : a0_2.toList = ([] : List UInt8)
     ·rw [if_pos c11] at H
      have c11b0 : (a0_2.toList == ([] : List UInt8)) = true := beq_iff_eq.mpr c11; have c11b1 : (a0_2.toList != ([] : List UInt8)) = false := bne_eq_false_iff_eq.mpr c11; clear c11
      by_cases c12 : a0_0 = 4
      ·rw [if_pos c12] at H
       have c12b0 : (a0_0 == 4) = true := beq_iff_eq.mpr c12; have c12b1 : (a0_0 != 4) = false := bne_eq_false_iff_eq.mpr c12; clear c12; have H' := qO H; clear H; have hcz13_0 : w3.cell? ⟨gb101, 0, none⟩ = some (.int .i64 a0_0) := (blk_cell BK101.out 0).trans rfl; have hcz13_1 : w3.cell? ⟨gb101, 1, none⟩ = some (.int .i64 a0_1) := (blk_cell BK101.out 1).trans rfl; have hcz13_2 : w3.cell? ⟨gb101, 2, none⟩ = some (.string a0_2) := (blk_cell BK101.out 2).trans rfl; have hcz13_3 : w3.cell? ⟨gb101, 3, none⟩ = some (.slice A0_3 l0_3.length c0_3) := (blk_cell BK101.out 3).trans rfl; have hcz13_4 : w3.cell? ⟨gb101, 4, none⟩ = some (.slice A0_4 l0_4.length c0_4) := (blk_cell BK101.out 4).trans rfl; have hfz13_0 := blk_frozen BK101.out 0; have hfz13_1 := blk_frozen BK101.out 1; have hfz13_2 := blk_frozen BK101.out 2; have hfz13_3 := blk_frozen BK101.out 3; have hfz13_4 := blk_frozen BK101.out 4
       go_wp2_with (first | (go_at_call 99; (with_reducible refine (impl_IsInt.calls a0_1 true _ A5.out).mono ?_); rintro e w' ⟨rfl, ⟨nd, rfl⟩⟩))
       go_meet
       case rel => exact ⟨_, (false), qa5, H', ⟨qa44⟩, ⟨qa9⟩, ⟨qa2⟩⟩
      ·rw [if_neg c12] at H
       have c12b0 : (a0_0 == 4) = false := beq_eq_false_iff_ne.mpr c12; have c12b1 : (a0_0 != 4) = true := bne_iff_ne.mpr c12; have H' := qO H; clear H; have hcz14_0 : w3.cell? ⟨gb101, 0, none⟩ = some (.int .i64 a0_0) := (blk_cell BK101.out 0).trans rfl; have hcz14_1 : w3.cell? ⟨gb101, 1, none⟩ = some (.int .i64 a0_1) := (blk_cell BK101.out 1).trans rfl; have hcz14_2 : w3.cell? ⟨gb101, 2, none⟩ = some (.string a0_2) := (blk_cell BK101.out 2).trans rfl; have hcz14_3 : w3.cell? ⟨gb101, 3, none⟩ = some (.slice A0_3 l0_3.length c0_3) := (blk_cell BK101.out 3).trans rfl; have hcz14_4 : w3.cell? ⟨gb101, 4, none⟩ = some (.slice A0_4 l0_4.length c0_4) := (blk_cell BK101.out 4).trans rfl; have hfz14_0 := blk_frozen BK101.out 0; have hfz14_1 := blk_frozen BK101.out 1; have hfz14_2 := blk_frozen BK101.out 2; have hfz14_3 := blk_frozen BK101.out 3; have hfz14_4 := blk_frozen BK101.out 4
       go_wp2_with (first | (go_at_call 99; (with_reducible refine (impl_IsInt.calls a0_1 true _ A5.out).mono ?_); rintro e w' ⟨rfl, ⟨nd, rfl⟩⟩))
       go_meet
       case rel => exact ⟨_, (decide ((l0_3.length : Int) > 0)), qa5, H', ⟨qa44⟩, ⟨qa9⟩, ⟨qa2⟩⟩
     ·rw [if_neg c11] at H
      have c11b0 : (a0_2.toList == ([] : List UInt8)) = false := beq_eq_false_iff_ne.mpr c11; have c11b1 : (a0_2.toList != ([] : List UInt8)) = true := bne_iff_ne.mpr c11; have H' := qO H; clear H; have hcz15_0 : w3.cell? ⟨gb101, 0, none⟩ = some (.int .i64 a0_0) := (blk_cell BK101.out 0).trans rfl; have hcz15_1 : w3.cell? ⟨gb101, 1, none⟩ = some (.int .i64 a0_1) := (blk_cell BK101.out 1).trans rfl; have hcz15_2 : w3.cell? ⟨gb101, 2, none⟩ = some (.string a0_2) := (blk_cell BK101.out 2).trans rfl; have hcz15_3 : w3.cell? ⟨gb101, 3, none⟩ = some (.slice A0_3 l0_3.length c0_3) := (blk_cell BK101.out 3).trans rfl; have hcz15_4 : w3.cell? ⟨gb101, 4, none⟩ = some (.slice A0_4 l0_4.length c0_4) := (blk_cell BK101.out 4).trans rfl; have hfz15_0 := blk_frozen BK101.out 0; have hfz15_1 := blk_frozen BK101.out 1; have hfz15_2 := blk_frozen BK101.out 2; have hfz15_3 := blk_frozen BK101.out 3; have hfz15_4 := blk_frozen BK101.out 4
      go_wp2_with (first | (go_at_call 99; (with_reducible refine (impl_IsInt.calls a0_1 true _ A5.out).mono ?_); rintro e w' ⟨rfl, ⟨nd, rfl⟩⟩))
      go_meet
      case rel => exact ⟨_, (true), qa5, H', ⟨qa44⟩, ⟨qa9⟩, ⟨qa2⟩⟩
   ·replace c6 := Bool.eq_false_iff.mpr c6
    subst c6; have H1 : (impl_Out_isRight.j0 k true a0_0 a0_1 a0_2 l0_3 l0_4) = some r := by rw [if_neg (show ¬ (false = true) by decide)] at H; exact H
    clear H; have H := H1; clear H1; have H' := qO H; clear H; have hcz16_0 : w3.cell? ⟨gb101, 0, none⟩ = some (.int .i64 a0_0) := (blk_cell BK101.out 0).trans rfl; have hcz16_1 : w3.cell? ⟨gb101, 1, none⟩ = some (.int .i64 a0_1) := (blk_cell BK101.out 1).trans rfl; have hcz16_2 : w3.cell? ⟨gb101, 2, none⟩ = some (.string a0_2) := (blk_cell BK101.out 2).trans rfl; have hcz16_3 : w3.cell? ⟨gb101, 3, none⟩ = some (.slice A0_3 l0_3.length c0_3) := (blk_cell BK101.out 3).trans rfl; have hcz16_4 : w3.cell? ⟨gb101, 4, none⟩ = some (.slice A0_4 l0_4.length c0_4) := (blk_cell BK101.out 4).trans rfl; have hfz16_0 := blk_frozen BK101.out 0; have hfz16_1 := blk_frozen BK101.out 1; have hfz16_2 := blk_frozen BK101.out 2; have hfz16_3 := blk_frozen BK101.out 3; have hfz16_4 := blk_frozen BK101.out 4
    go_wp2_with (first | (go_at_call 99; (with_reducible refine (impl_IsInt.calls a0_1 false _ A5.out).mono ?_); rintro e w' ⟨rfl, ⟨nd, rfl⟩⟩))
    go_meet
    case rel => exact ⟨_, (true), qa5, H', ⟨qa44⟩, ⟨qa9⟩, ⟨qa2⟩⟩
  ·rw [if_neg c4] at H
   have c4b0 : (a0_0 == 1) = false := beq_eq_false_iff_ne.mpr c4; have c4b1 : (a0_0 != 1) = true := bne_iff_ne.mpr c4; (first | rw [c4b0] | (simp only [i64_w, i32_w]; rw [c4b0]) | skip)
   by_cases c17 : a0_1 = 0
   ·rw [if_pos c17] at H
    have c17b0 : (a0_1 == 0) = true := beq_iff_eq.mpr c17; have c17b1 : (a0_1 != 0) = false := bne_eq_false_iff_eq.mpr c17; clear c17; replace H := Option.bind_eq_some_iff.mp H; obtain ⟨t103, A180, H⟩ := H; replace H : (if t103 = true then (if a0_0 = 2 then (if a0_0 = 4 then (impl_Out_isRight.j0 k false a0_0 a0_1 a0_2 l0_3 l0_4) else (impl_Out_isRight.j0 k (decide ((l0_3.length : Int) > 0)) a0_0 a0_1 a0_2 l0_3 l0_4)) else (if a0_2.toList = ([] : List UInt8) then (if a0_0 = 4 then (impl_Out_isRight.j0 k false a0_0 a0_1 a0_2 l0_3 l0_4) else (impl_Out_isRight.j0 k (decide ((l0_3.length : Int) > 0)) a0_0 a0_1 a0_2 l0_3 l0_4)) else (impl_Out_isRight.j0 k true a0_0 a0_1 a0_2 l0_3 l0_4))) else (impl_Out_isRight.j0 k true a0_0 a0_1 a0_2 l0_3 l0_4)) = some r := H; have A18 := qO A180; clear A180
    by_cases c19 : t103 = true
    ·subst c19
     have H1 : (if a0_0 = 2 then (if a0_0 = 4 then (impl_Out_isRight.j0 k false a0_0 a0_1 a0_2 l0_3 l0_4) else (impl_Out_isRight.j0 k (decide ((l0_3.length : Int) > 0)) a0_0 a0_1 a0_2 l0_3 l0_4)) else (if a0_2.toList = ([] : List UInt8) then (if a0_0 = 4 then (impl_Out_isRight.j0 k false a0_0 a0_1 a0_2 l0_3 l0_4) else (impl_Out_isRight.j0 k (decide ((l0_3.length : Int) > 0)) a0_0 a0_1 a0_2 l0_3 l0_4)) else (impl_Out_isRight.j0 k true a0_0 a0_1 a0_2 l0_3 l0_4))) = some r := by rw [if_pos rfl] at H; exact H
     clear H; have H := H1; clear H1
     by_cases c20 : a0_0 = 2
     ·rw [if_pos c20] at H
      have c20b0 : (a0_0 == 2) = true := beq_iff_eq.mpr c20; have c20b1 : (a0_0 != 2) = false := bne_eq_false_iff_eq.mpr c20; clear c20
      by_cases c21 : a0_0 = 4
      ·rw [if_pos c21] at H
       have c21b0 : (a0_0 == 4) = true := beq_iff_eq.mpr c21; have c21b1 : (a0_0 != 4) = false := bne_eq_false_iff_eq.mpr c21; clear c21; have H' := qO H; clear H; have hcz22_0 : w3.cell? ⟨gb101, 0, none⟩ = some (.int .i64 a0_0) := (blk_cell BK101.out 0).trans rfl; have hcz22_1 : w3.cell? ⟨gb101, 1, none⟩ = some (.int .i64 a0_1) := (blk_cell BK101.out 1).trans rfl; have hcz22_2 : w3.cell? ⟨gb101, 2, none⟩ = some (.string a0_2) := (blk_cell BK101.out 2).trans rfl; have hcz22_3 : w3.cell? ⟨gb101, 3, none⟩ = some (.slice A0_3 l0_3.length c0_3) := (blk_cell BK101.out 3).trans rfl; have hcz22_4 : w3.cell? ⟨gb101, 4, none⟩ = some (.slice A0_4 l0_4.length c0_4) := (blk_cell BK101.out 4).trans rfl; have hfz22_0 := blk_frozen BK101.out 0; have hfz22_1 := blk_frozen BK101.out 1; have hfz22_2 := blk_frozen BK101.out 2; have hfz22_3 := blk_frozen BK101.out 3; have hfz22_4 := blk_frozen BK101.out 4
       go_wp2_with (first | (go_at_call 99; (with_reducible refine (impl_IsInt.calls a0_1 true _ A18.out).mono ?_); rintro e w' ⟨rfl, ⟨nd, rfl⟩⟩))
       go_meet
       case rel => exact ⟨_, (false), qa5, H', ⟨qa44⟩, ⟨qa9⟩, ⟨qa2⟩⟩
      ·rw [if_neg c21] at H
       have c21b0 : (a0_0 == 4) = false := beq_eq_false_iff_ne.mpr c21; have c21b1 : (a0_0 != 4) = true := bne_iff_ne.mpr c21; have H' := qO H; clear H; have hcz23_0 : w3.cell? ⟨gb101, 0, none⟩ = some (.int .i64 a0_0) := (blk_cell BK101.out 0).trans rfl; have hcz23_1 : w3.cell? ⟨gb101, 1, none⟩ = some (.int .i64 a0_1) := (blk_cell BK101.out 1).trans rfl; have hcz23_2 : w3.cell? ⟨gb101, 2, none⟩ = some (.string a0_2) := (blk_cell BK101.out 2).trans rfl; have hcz23_3 : w3.cell? ⟨gb101, 3, none⟩ = some (.slice A0_3 l0_3.length c0_3) := (blk_cell BK101.out 3).trans rfl; have hcz23_4 : w3.cell? ⟨gb101, 4, none⟩ = some (.slice A0_4 l0_4.length c0_4) := (blk_cell BK101.out 4).trans rfl; have hfz23_0 := blk_frozen BK101.out 0; have hfz23_1 := blk_frozen BK101.out 1; have hfz23_2 := blk_frozen BK101.out 2; have hfz23_3 := blk_frozen BK101.out 3; have hfz23_4 := blk_frozen BK101.out 4
       go_wp2_with (first | (go_at_call 99; (with_reducible refine (impl_IsInt.calls a0_1 true _ A18.out).mono ?_); rintro e w' ⟨rfl, ⟨nd, rfl⟩⟩))
       go_meet
       case rel => exact ⟨_, (decide ((l0_3.length : Int) > 0)), qa5, H', ⟨qa44⟩, ⟨qa9⟩, ⟨qa2⟩⟩
     ·rw [if_neg c20] at H
      have c20b0 : (a0_0 == 2) = false := beq_eq_false_iff_ne.mpr c20; have c20b1 : (a0_0 != 2) = true := bne_iff_ne.mpr c20
      by_cases c24 : a0_2.toList = ([] : List UInt8)
      ·rw [if_pos c24] at H
       have c24b0 : (a0_2.toList == ([] : List UInt8)) = true := beq_iff_eq.mpr c24; have c24b1 : (a0_2.toList != ([] : List UInt8)) = false := bne_eq_false_iff_eq.mpr c24; clear c24
       by_cases c25 : a0_0 = 4
       ·rw [if_pos c25] at H
        have c25b0 : (a0_0 == 4) = true := beq_iff_eq.mpr c25; have c25b1 : (a0_0 != 4) = false := bne_eq_false_iff_eq.mpr c25; clear c25; have H' := qO H; clear H; have hcz26_0 : w3.cell? ⟨gb101, 0, none⟩ = some (.int .i64 a0_0) := (blk_cell BK101.out 0).trans rfl; have hcz26_1 : w3.cell? ⟨gb101, 1, none⟩ = some (.int .i64 a0_1) := (blk_cell BK101.out 1).trans rfl; have hcz26_2 : w3.cell? ⟨gb101, 2, none⟩ = some (.string a0_2) := (blk_cell BK101.out 2).trans rfl; have hcz26_3 : w3.cell? ⟨gb101, 3, none⟩ = some (.slice A0_3 l0_3.length c0_3) := (blk_cell BK101.out 3).trans rfl; have hcz26_4 : w3.cell? ⟨gb101, 4, none⟩ = some (.slice A0_4 l0_4.length c0_4) := (blk_cell BK101.out 4).trans rfl; have hfz26_0 := blk_frozen BK101.out 0; have hfz26_1 := blk_frozen BK101.out 1; have hfz26_2 := blk_frozen BK101.out 2; have hfz26_3 := blk_frozen BK101.out 3; have hfz26_4 := blk_frozen BK101.out 4
        go_wp2_with (first | (go_at_call 99; (with_reducible refine (impl_IsInt.calls a0_1 true _ A18.out).mono ?_); rintro e w' ⟨rfl, ⟨nd, rfl⟩⟩))
        go_meet
        case rel => exact ⟨_, (false), qa5, H', ⟨qa44⟩, ⟨qa9⟩, ⟨qa2⟩⟩
       ·rw [if_neg c25] at H
        have c25b0 : (a0_0 == 4) = false := beq_eq_false_iff_ne.mpr c25; have c25b1 : (a0_0 != 4) = true := bne_iff_ne.mpr c25; have H' := qO H; clear H; have hcz27_0 : w3.cell? ⟨gb101, 0, none⟩ = some (.int .i64 a0_0) := (blk_cell BK101.out 0).trans rfl; have hcz27_1 : w3.cell? ⟨gb101, 1, none⟩ = some (.int .i64 a0_1) := (blk_cell BK101.out 1).trans rfl; have hcz27_2 : w3.cell? ⟨gb101, 2, none⟩ = some (.string a0_2) := (blk_cell BK101.out 2).trans rfl; have hcz27_3 : w3.cell? ⟨gb101, 3, none⟩ = some (.slice A0_3 l0_3.length c0_3) := (blk_cell BK101.out 3).trans rfl; have hcz27_4 : w3.cell? ⟨gb101, 4, none⟩ = some (.slice A0_4 l0_4.length c0_4) := (blk_cell BK101.out 4).trans rfl; have hfz27_0 := blk_frozen BK101.out 0; have hfz27_1 := blk_frozen BK101.out 1; have hfz27_2 := blk_frozen BK101.out 2; have hfz27_3 := blk_frozen BK101.out 3; have hfz27_4 := blk_frozen BK101.out 4
        go_wp2_with (first | (go_at_call 99; (with_reducible refine (impl_IsInt.calls a0_1 true _ A18.out).mono ?_); rintro e w' ⟨rfl, ⟨nd, rfl⟩⟩))
        go_meet
        case rel => exact ⟨_, (decide ((l0_3.length : Int) > 0)), qa5, H', ⟨qa44⟩, ⟨qa9⟩, ⟨qa2⟩⟩
      ·rw [if_neg c24] at H
       have c24b0 : (a0_2.toList == ([] : List UInt8)) = false := beq_eq_false_iff_ne.mpr c24; have c24b1 : (a0_2.toList != ([] : List UInt8)) = true := bne_iff_ne.mpr c24; have H' := qO H; clear H; have hcz28_0 : w3.cell? ⟨gb101, 0, none⟩ = some (.int .i64 a0_0) := (blk_cell BK101.out 0).trans rfl; have hcz28_1 : w3.cell? ⟨gb101, 1, none⟩ = some (.int .i64 a0_1) := (blk_cell BK101.out 1).trans rfl; have hcz28_2 : w3.cell? ⟨gb101, 2, none⟩ = some (.string a0_2) := (blk_cell BK101.out 2).trans rfl; have hcz28_3 : w3.cell? ⟨gb101, 3, none⟩ = some (.slice A0_3 l0_3.length c0_3) := (blk_cell BK101.out 3).trans rfl; have hcz28_4 : w3.cell? ⟨gb101, 4, none⟩ = some (.slice A0_4 l0_4.length c0_4) := (blk_cell BK101.out 4).trans rfl; have hfz28_0 := blk_frozen BK101.out 0; have hfz28_1 := blk_frozen BK101.out 1; have hfz28_2 := blk_frozen BK101.out 2; have hfz28_3 := blk_frozen BK101.out 3; have hfz28_4 := blk_frozen BK101.out 4
       go_wp2_with (first | (go_at_call 99; (with_reducible refine (impl_IsInt.calls a0_1 true _ A18.out).mono ?_); rintro e w' ⟨rfl, ⟨nd, rfl⟩⟩))
       go_meet
       case rel => exact ⟨_, (true), qa5, H', ⟨qa44⟩, ⟨qa9⟩, ⟨qa2⟩⟩
    ·replace c19 := Bool.eq_false_iff.mpr c19
     subst c19; have H1 : (impl_Out_isRight.j0 k true a0_0 a0_1 a0_2 l0_3 l0_4) = some r := by rw [if_neg (show ¬ (false = true) by decide)] at H; exact H
     clear H; have H := H1; clear H1; have H' := qO H; clear H; have hcz29_0 : w3.cell? ⟨gb101, 0, none⟩ = some (.int .i64 a0_0) := (blk_cell BK101.out 0).trans rfl; have hcz29_1 : w3.cell? ⟨gb101, 1, none⟩ = some (.int .i64 a0_1) := (blk_cell BK101.out 1).trans rfl; have hcz29_2 : w3.cell? ⟨gb101, 2, none⟩ = some (.string a0_2) := (blk_cell BK101.out 2).trans rfl; have hcz29_3 : w3.cell? ⟨gb101, 3, none⟩ = some (.slice A0_3 l0_3.length c0_3) := (blk_cell BK101.out 3).trans rfl; have hcz29_4 : w3.cell? ⟨gb101, 4, none⟩ = some (.slice A0_4 l0_4.length c0_4) := (blk_cell BK101.out 4).trans rfl; have hfz29_0 := blk_frozen BK101.out 0; have hfz29_1 := blk_frozen BK101.out 1; have hfz29_2 := blk_frozen BK101.out 2; have hfz29_3 := blk_frozen BK101.out 3; have hfz29_4 := blk_frozen BK101.out 4
     go_wp2_with (first | (go_at_call 99; (with_reducible refine (impl_IsInt.calls a0_1 false _ A18.out).mono ?_); rintro e w' ⟨rfl, ⟨nd, rfl⟩⟩))
     go_meet
     case rel => exact ⟨_, (true), qa5, H', ⟨qa44⟩, ⟨qa9⟩, ⟨qa2⟩⟩
   ·rw [if_neg c17] at H
    have c17b0 : (a0_1 == 0) = false := beq_eq_false_iff_ne.mpr c17; have c17b1 : (a0_1 != 0) = true := bne_iff_ne.mpr c17; have H' := qO H; clear H; have hcz30_0 : w3.cell? ⟨gb101, 0, none⟩ = some (.int .i64 a0_0) := (blk_cell BK101.out 0).trans rfl; have hcz30_1 : w3.cell? ⟨gb101, 1, none⟩ = some (.int .i64 a0_1) := (blk_cell BK101.out 1).trans rfl; have hcz30_2 : w3.cell? ⟨gb101, 2, none⟩ = some (.string a0_2) := (blk_cell BK101.out 2).trans rfl; have hcz30_3 : w3.cell? ⟨gb101, 3, none⟩ = some (.slice A0_3 l0_3.length c0_3) := (blk_cell BK101.out 3).trans rfl; have hcz30_4 : w3.cell? ⟨gb101, 4, none⟩ = some (.slice A0_4 l0_4.length c0_4) := (blk_cell BK101.out 4).trans rfl; have hfz30_0 := blk_frozen BK101.out 0; have hfz30_1 := blk_frozen BK101.out 1; have hfz30_2 := blk_frozen BK101.out 2; have hfz30_3 := blk_frozen BK101.out 3; have hfz30_4 := blk_frozen BK101.out 4; go_wp2
    go_meet
    case rel => exact ⟨_, (true), qa5, H', ⟨qa44⟩, ⟨qa9⟩, ⟨qa2⟩⟩
 case rest =>
  clear HC2
  try clear c1
  try clear c2
  try clear p2
  try clear c4
  try clear c4b0
  try clear c4b1
  try clear c6
  try clear c7
  try clear c7b0
  try clear c7b1
  try clear c8
  try clear c8b0
  try clear c8b1
  try clear c10
  try clear c11
  try clear c11b0
  try clear c11b1
  try clear c12
  try clear c12b0
  try clear c12b1
  try clear c17
  try clear c17b0
  try clear c17b1
  try clear c19
  try clear c20
  try clear c20b0
  try clear c20b1
  try clear c21
  try clear c21b0
  try clear c21b1
  try clear c24
  try clear c24b0
  try clear c24b1
  try clear c25
  try clear c25b0
  try clear c25b1
  try clear hcz10_0
  try clear hcz10_1
  try clear hcz10_2
  try clear hcz10_3
  try clear hcz10_4
  try clear hcz13_0
  try clear hcz13_1
  try clear hcz13_2
  try clear hcz13_3
  try clear hcz13_4
  try clear hcz14_0
  try clear hcz14_1
  try clear hcz14_2
  try clear hcz14_3
  try clear hcz14_4
  try clear hcz15_0
  try clear hcz15_1
  try clear hcz15_2
  try clear hcz15_3
  try clear hcz15_4
  try clear hcz16_0
  try clear hcz16_1
  try clear hcz16_2
  try clear hcz16_3
  try clear hcz16_4
  try clear hcz22_0
  try clear hcz22_1
  try clear hcz22_2
  try clear hcz22_3
  try clear hcz22_4
  try clear hcz23_0
  try clear hcz23_1
  try clear hcz23_2
  try clear hcz23_3
  try clear hcz23_4
  try clear hcz26_0
  try clear hcz26_1
  try clear hcz26_2
  try clear hcz26_3
  try clear hcz26_4
  try clear hcz27_0
  try clear hcz27_1
  try clear hcz27_2
  try clear hcz27_3
  try clear hcz27_4
  try clear hcz28_0
  try clear hcz28_1
  try clear hcz28_2
  try clear hcz28_3
  try clear hcz28_4
  try clear hcz29_0
  try clear hcz29_1
  try clear hcz29_2
  try clear hcz29_3
  try clear hcz29_4
  try clear hcz30_0
  try clear hcz30_1
  try clear hcz30_2
  try clear hcz30_3
  try clear hcz30_4
  try clear hcz9_0
  try clear hcz9_1
  try clear hcz9_2
  try clear hcz9_3
  try clear hcz9_4
  try clear hfz10_0
  try clear hfz10_1
  try clear hfz10_2
  try clear hfz10_3
  try clear hfz10_4
  try clear hfz13_0
  try clear hfz13_1
  try clear hfz13_2
  try clear hfz13_3
  try clear hfz13_4
  try clear hfz14_0
  try clear hfz14_1
  try clear hfz14_2
  try clear hfz14_3
  try clear hfz14_4
  try clear hfz15_0
  try clear hfz15_1
  try clear hfz15_2
  try clear hfz15_3
  try clear hfz15_4
  try clear hfz16_0
  try clear hfz16_1
  try clear hfz16_2
  try clear hfz16_3
  try clear hfz16_4
  try clear hfz22_0
  try clear hfz22_1
  try clear hfz22_2
  try clear hfz22_3
  try clear hfz22_4
  try clear hfz23_0
  try clear hfz23_1
  try clear hfz23_2
  try clear hfz23_3
  try clear hfz23_4
  try clear hfz26_0
  try clear hfz26_1
  try clear hfz26_2
  try clear hfz26_3
  try clear hfz26_4
  try clear hfz27_0
  try clear hfz27_1
  try clear hfz27_2
  try clear hfz27_3
  try clear hfz27_4
  try clear hfz28_0
  try clear hfz28_1
  try clear hfz28_2
  try clear hfz28_3
  try clear hfz28_4
  try clear hfz29_0
  try clear hfz29_1
  try clear hfz29_2
  try clear hfz29_3
  try clear hfz29_4
  try clear hfz30_0
  try clear hfz30_1
  try clear hfz30_2
  try clear hfz30_3
  try clear hfz30_4
  try clear hfz9_0
  try clear hfz9_1
  try clear hfz9_2
  try clear hfz9_3
  try clear hfz9_4
  obtain ⟨kq, x37_1, rfl, HA, HJ1, BK101, HB⟩ := hcut
  cases kq with
  | zero => exact absurd HA.out (by simp [impl_Out_isRight.j0])
  | succ kj1 =>
   have H := HA.out; clear HA; simp only [impl_Out_isRight.j0] at H
   by_cases c31 : x37_1 = true
   ·subst c31
    have H1 : (some false) = some r := by rw [if_pos rfl] at H; exact H
    clear H; have H := H1; clear H1; obtain rfl := Option.some.inj H; go_wp2
    go_ret
    exact ⟨qa4, qa2⟩
   ·replace c31 := Bool.eq_false_iff.mpr c31
    subst c31; have H1 : (if a0_0 = 0 then (impl_Out_isRight.j1 kj1 a0_0 (a0_0 == 0) a0_0 a0_1 a0_2 l0_3 l0_4) else (impl_Out_isRight.j1 kj1 a0_0 (a0_0 == 1) a0_0 a0_1 a0_2 l0_3 l0_4)) = some r := by rw [if_neg (show ¬ (false = true) by decide)] at H; exact H
    clear H; have H := H1; clear H1; have HC32 := qO H; clear H; have hcz33_0 : wc.cell? ⟨gb101, 0, none⟩ = some (.int .i64 a0_0) := (blk_cell BK101.out 0).trans rfl; have hcz33_1 : wc.cell? ⟨gb101, 1, none⟩ = some (.int .i64 a0_1) := (blk_cell BK101.out 1).trans rfl; have hcz33_2 : wc.cell? ⟨gb101, 2, none⟩ = some (.string a0_2) := (blk_cell BK101.out 2).trans rfl; have hcz33_3 : wc.cell? ⟨gb101, 3, none⟩ = some (.slice A0_3 l0_3.length c0_3) := (blk_cell BK101.out 3).trans rfl; have hcz33_4 : wc.cell? ⟨gb101, 4, none⟩ = some (.slice A0_4 l0_4.length c0_4) := (blk_cell BK101.out 4).trans rfl; have hfz33_0 := blk_frozen BK101.out 0; have hfz33_1 := blk_frozen BK101.out 1; have hfz33_2 := blk_frozen BK101.out 2; have hfz33_3 := blk_frozen BK101.out 3; have hfz33_4 := blk_frozen BK101.out 4
    go_upto_if 40 with (fail)
    go_cut [40] (fun v40 wc => ∃ (kq : Nat) (x40_31 : Bool), v40 = .bool x40_31 ∧ Aside0 (impl_Out_isRight.j1 kq a0_0 x40_31 a0_0 a0_1 a0_2 l0_3 l0_4 = some r) ∧ Aside0 (kq ≤ kj1) ∧ Aside0 (wc.heap[gb101]? = some (.cells #[.int .i64 a0_0, .int .i64 a0_1, .string a0_2, (.slice A0_3 l0_3.length c0_3), (.slice A0_4 l0_4.length c0_4)] 46 (0, 0))) ∧ Aside0 (Below w.heap.size w wc))
    case first =>
     have H := HC32.out; clear HC32
     by_cases c34 : a0_0 = 0
     ·rw [if_pos c34] at H
      have c34b0 : (a0_0 == 0) = true := beq_iff_eq.mpr c34; have c34b1 : (a0_0 != 0) = false := bne_eq_false_iff_eq.mpr c34; clear c34; (first | rw [c34b0] | (simp only [i64_w, i32_w]; rw [c34b0]) | skip); have H' := qO H; clear H; go_wp2
      go_meet
      case rel => exact ⟨_, ((a0_0 == 0)), qa5, H', ⟨by have := HJ1.out; first | omega | exact Nat.le_refl _⟩, ⟨qa9⟩, ⟨qa2⟩⟩
     ·rw [if_neg c34] at H
      have c34b0 : (a0_0 == 0) = false := beq_eq_false_iff_ne.mpr c34; have c34b1 : (a0_0 != 0) = true := bne_iff_ne.mpr c34; (first | rw [c34b0] | (simp only [i64_w, i32_w]; rw [c34b0]) | skip); have H' := qO H; clear H; go_wp2
      go_meet
      case rel => exact ⟨_, ((a0_0 == 1)), qa5, H', ⟨by have := HJ1.out; first | omega | exact Nat.le_refl _⟩, ⟨qa9⟩, ⟨qa2⟩⟩
    case rest =>
     clear HC32
     try clear c1
     try clear c2
     try clear p2
     try clear c3
     try clear c4
     try clear c4b0
     try clear c4b1
     try clear c6
     try clear c7
     try clear c7b0
     try clear c7b1
     try clear c8
     try clear c8b0
     try clear c8b1
     try clear c10
     try clear c11
     try clear c11b0
     try clear c11b1
     try clear c12
     try clear c12b0
     try clear c12b1
     try clear c17
     try clear c17b0
     try clear c17b1
     try clear c19
     try clear c20
     try clear c20b0
     try clear c20b1
     try clear c21
     try clear c21b0
     try clear c21b1
     try clear c24
     try clear c24b0
     try clear c24b1
     try clear c25
     try clear c25b0
     try clear c25b1
     try clear c31
     try clear c34
     try clear c34b0
     try clear c34b1
     try clear hcz10_0
     try clear hcz10_1
     try clear hcz10_2
     try clear hcz10_3
     try clear hcz10_4
     try clear hcz13_0
     try clear hcz13_1
     try clear hcz13_2
     try clear hcz13_3
     try clear hcz13_4
     try clear hcz14_0
     try clear hcz14_1
     try clear hcz14_2
     try clear hcz14_3
     try clear hcz14_4
     try clear hcz15_0
     try clear hcz15_1
     try clear hcz15_2
     try clear hcz15_3
     try clear hcz15_4
     try clear hcz16_0
     try clear hcz16_1
     try clear hcz16_2
     try clear hcz16_3
     try clear hcz16_4
     try clear hcz22_0
     try clear hcz22_1
     try clear hcz22_2
     try clear hcz22_3
     try clear hcz22_4
     try clear hcz23_0
     try clear hcz23_1
     try clear hcz23_2
     try clear hcz23_3
     try clear hcz23_4
     try clear hcz26_0
     try clear hcz26_1
     try clear hcz26_2
     try clear hcz26_3
     try clear hcz26_4
     try clear hcz27_0
     try clear hcz27_1
     try clear hcz27_2
     try clear hcz27_3
     try clear hcz27_4
     try clear hcz28_0
     try clear hcz28_1
     try clear hcz28_2
     try clear hcz28_3
     try clear hcz28_4
     try clear hcz29_0
     try clear hcz29_1
     try clear hcz29_2
     try clear hcz29_3
     try clear hcz29_4
     try clear hcz30_0
     try clear hcz30_1
     try clear hcz30_2
     try clear hcz30_3
     try clear hcz30_4
     try clear hcz33_0
     try clear hcz33_1
     try clear hcz33_2
     try clear hcz33_3
     try clear hcz33_4
     try clear hcz9_0
     try clear hcz9_1
     try clear hcz9_2
     try clear hcz9_3
     try clear hcz9_4
     try clear hfz10_0
     try clear hfz10_1
     try clear hfz10_2
     try clear hfz10_3
     try clear hfz10_4
     try clear hfz13_0
     try clear hfz13_1
     try clear hfz13_2
     try clear hfz13_3
     try clear hfz13_4
     try clear hfz14_0
     try clear hfz14_1
     try clear hfz14_2
     try clear hfz14_3
     try clear hfz14_4
     try clear hfz15_0
     try clear hfz15_1
     try clear hfz15_2
     try clear hfz15_3
     try clear hfz15_4
     try clear hfz16_0
     try clear hfz16_1
     try clear hfz16_2
     try clear hfz16_3
     try clear hfz16_4
     try clear hfz22_0
     try clear hfz22_1
     try clear hfz22_2
     try clear hfz22_3
     try clear hfz22_4
     try clear hfz23_0
     try clear hfz23_1
     try clear hfz23_2
     try clear hfz23_3
     try clear hfz23_4
     try clear hfz26_0
     try clear hfz26_1
     try clear hfz26_2
     try clear hfz26_3
     try clear hfz26_4
     try clear hfz27_0
     try clear hfz27_1
     try clear hfz27_2
     try clear hfz27_3
     try clear hfz27_4
     try clear hfz28_0
     try clear hfz28_1
     try clear hfz28_2
     try clear hfz28_3
     try clear hfz28_4
     try clear hfz29_0
     try clear hfz29_1
     try clear hfz29_2
     try clear hfz29_3
     try clear hfz29_4
     try clear hfz30_0
     try clear hfz30_1
     try clear hfz30_2
     try clear hfz30_3
     try clear hfz30_4
     try clear hfz33_0
     try clear hfz33_1
     try clear hfz33_2
     try clear hfz33_3
     try clear hfz33_4
     try clear hfz9_0
     try clear hfz9_1
     try clear hfz9_2
     try clear hfz9_3
     try clear hfz9_4
     try clear p2
     obtain ⟨kq, x40_31, rfl, HA, HJ31, BK101, HB⟩ := hcut
     cases kq with
     | zero => exact absurd HA.out (by simp [impl_Out_isRight.j1])
     | succ kj31 =>
      have H := HA.out; clear HA; simp only [impl_Out_isRight.j1] at H
      by_cases c35 : x40_31 = true
      ·subst c35
       have H1 : (some ((l0_4.length : Int) == 0)) = some r := by rw [if_pos rfl] at H; exact H
       clear H; have H := H1; clear H1; obtain rfl := Option.some.inj H; have hcz36_0 : wc.cell? ⟨gb101, 0, none⟩ = some (.int .i64 a0_0) := (blk_cell BK101.out 0).trans rfl; have hcz36_1 : wc.cell? ⟨gb101, 1, none⟩ = some (.int .i64 a0_1) := (blk_cell BK101.out 1).trans rfl; have hcz36_2 : wc.cell? ⟨gb101, 2, none⟩ = some (.string a0_2) := (blk_cell BK101.out 2).trans rfl; have hcz36_3 : wc.cell? ⟨gb101, 3, none⟩ = some (.slice A0_3 l0_3.length c0_3) := (blk_cell BK101.out 3).trans rfl; have hcz36_4 : wc.cell? ⟨gb101, 4, none⟩ = some (.slice A0_4 l0_4.length c0_4) := (blk_cell BK101.out 4).trans rfl; have hfz36_0 := blk_frozen BK101.out 0; have hfz36_1 := blk_frozen BK101.out 1; have hfz36_2 := blk_frozen BK101.out 2; have hfz36_3 := blk_frozen BK101.out 3; have hfz36_4 := blk_frozen BK101.out 4; go_wp2
       go_ret
       exact ⟨qa4, qa2⟩
      ·replace c35 := Bool.eq_false_iff.mpr c35
       subst c35; have H1 : (if a0_0 = 2 then ((impl_NameOK.f kj31 a0_2).bind fun t104 => (if t104 = true then (some ((l0_4.length : Int) == 0)) else (some false))) else (if a0_0 = 3 then (some true) else (if a0_0 = 4 then (some ((l0_3.length : Int) == (l0_4.length : Int))) else (some false)))) = some r := by rw [if_neg (show ¬ (false = true) by decide)] at H; exact H
       clear H; have H := H1; clear H1
       by_cases c37 : a0_0 = 2
       ·rw [if_pos c37] at H
        have c37b0 : (a0_0 == 2) = true := beq_iff_eq.mpr c37; have c37b1 : (a0_0 != 2) = false := bne_eq_false_iff_eq.mpr c37; clear c37; replace H := Option.bind_eq_some_iff.mp H; obtain ⟨t104, A380, H⟩ := H; replace H : (if t104 = true then (some ((l0_4.length : Int) == 0)) else (some false)) = some r := H; have A38 := qO A380; clear A380
        by_cases c39 : t104 = true
        ·subst c39
         have H1 : (some ((l0_4.length : Int) == 0)) = some r := by rw [if_pos rfl] at H; exact H
         clear H; have H := H1; clear H1; obtain rfl := Option.some.inj H; have hcz40_0 : wc.cell? ⟨gb101, 0, none⟩ = some (.int .i64 a0_0) := (blk_cell BK101.out 0).trans rfl; have hcz40_1 : wc.cell? ⟨gb101, 1, none⟩ = some (.int .i64 a0_1) := (blk_cell BK101.out 1).trans rfl; have hcz40_2 : wc.cell? ⟨gb101, 2, none⟩ = some (.string a0_2) := (blk_cell BK101.out 2).trans rfl; have hcz40_3 : wc.cell? ⟨gb101, 3, none⟩ = some (.slice A0_3 l0_3.length c0_3) := (blk_cell BK101.out 3).trans rfl; have hcz40_4 : wc.cell? ⟨gb101, 4, none⟩ = some (.slice A0_4 l0_4.length c0_4) := (blk_cell BK101.out 4).trans rfl; have hfz40_0 := blk_frozen BK101.out 0; have hfz40_1 := blk_frozen BK101.out 1; have hfz40_2 := blk_frozen BK101.out 2; have hfz40_3 := blk_frozen BK101.out 3; have hfz40_4 := blk_frozen BK101.out 4
         go_wp2_with (first | ((with_reducible refine gate_callee (f := 52) rfl ?_); refine goesL_ (some 51) rfl rfl Try.func52 qa10 rfl #[.string a0_2] rfl qa1 ?_; (with_reducible refine (impl_NameOK.calls kj31 a0_2 true _ A38.out).mono ?_); rintro e w' ⟨rfl, ⟨nd, rfl⟩⟩; refine ⟨_, rfl, ?_⟩))
         go_ret
         exact ⟨qa4, qa2⟩
        ·replace c39 := Bool.eq_false_iff.mpr c39
         subst c39; have H1 : (some false) = some r := by rw [if_neg (show ¬ (false = true) by decide)] at H; exact H
         clear H; have H := H1; clear H1; obtain rfl := Option.some.inj H; have hcz41_0 : wc.cell? ⟨gb101, 0, none⟩ = some (.int .i64 a0_0) := (blk_cell BK101.out 0).trans rfl; have hcz41_1 : wc.cell? ⟨gb101, 1, none⟩ = some (.int .i64 a0_1) := (blk_cell BK101.out 1).trans rfl; have hcz41_2 : wc.cell? ⟨gb101, 2, none⟩ = some (.string a0_2) := (blk_cell BK101.out 2).trans rfl; have hcz41_3 : wc.cell? ⟨gb101, 3, none⟩ = some (.slice A0_3 l0_3.length c0_3) := (blk_cell BK101.out 3).trans rfl; have hcz41_4 : wc.cell? ⟨gb101, 4, none⟩ = some (.slice A0_4 l0_4.length c0_4) := (blk_cell BK101.out 4).trans rfl; have hfz41_0 := blk_frozen BK101.out 0; have hfz41_1 := blk_frozen BK101.out 1; have hfz41_2 := blk_frozen BK101.out 2; have hfz41_3 := blk_frozen BK101.out 3; have hfz41_4 := blk_frozen BK101.out 4
         go_wp2_with (first | ((with_reducible refine gate_callee (f := 52) rfl ?_); refine goesL_ (some 51) rfl rfl Try.func52 qa10 rfl #[.string a0_2] rfl qa1 ?_; (with_reducible refine (impl_NameOK.calls kj31 a0_2 false _ A38.out).mono ?_); rintro e w' ⟨rfl, ⟨nd, rfl⟩⟩; refine ⟨_, rfl, ?_⟩))
         go_ret
         exact ⟨qa4, qa2⟩
       ·rw [if_neg c37] at H
        have c37b0 : (a0_0 == 2) = false := beq_eq_false_iff_ne.mpr c37; have c37b1 : (a0_0 != 2) = true := bne_iff_ne.mpr c37
        by_cases c42 : a0_0 = 3
        ·rw [if_pos c42] at H
         have c42b0 : (a0_0 == 3) = true := beq_iff_eq.mpr c42; have c42b1 : (a0_0 != 3) = false := bne_eq_false_iff_eq.mpr c42; clear c42; obtain rfl := Option.some.inj H; go_wp2
         go_ret
         exact ⟨qa4, qa2⟩
        ·rw [if_neg c42] at H
         have c42b0 : (a0_0 == 3) = false := beq_eq_false_iff_ne.mpr c42; have c42b1 : (a0_0 != 3) = true := bne_iff_ne.mpr c42
         by_cases c43 : a0_0 = 4
         ·rw [if_pos c43] at H
          have c43b0 : (a0_0 == 4) = true := beq_iff_eq.mpr c43; have c43b1 : (a0_0 != 4) = false := bne_eq_false_iff_eq.mpr c43; clear c43; obtain rfl := Option.some.inj H; have hcz44_0 : wc.cell? ⟨gb101, 0, none⟩ = some (.int .i64 a0_0) := (blk_cell BK101.out 0).trans rfl; have hcz44_1 : wc.cell? ⟨gb101, 1, none⟩ = some (.int .i64 a0_1) := (blk_cell BK101.out 1).trans rfl; have hcz44_2 : wc.cell? ⟨gb101, 2, none⟩ = some (.string a0_2) := (blk_cell BK101.out 2).trans rfl; have hcz44_3 : wc.cell? ⟨gb101, 3, none⟩ = some (.slice A0_3 l0_3.length c0_3) := (blk_cell BK101.out 3).trans rfl; have hcz44_4 : wc.cell? ⟨gb101, 4, none⟩ = some (.slice A0_4 l0_4.length c0_4) := (blk_cell BK101.out 4).trans rfl; have hfz44_0 := blk_frozen BK101.out 0; have hfz44_1 := blk_frozen BK101.out 1; have hfz44_2 := blk_frozen BK101.out 2; have hfz44_3 := blk_frozen BK101.out 3; have hfz44_4 := blk_frozen BK101.out 4; go_wp2
          go_ret
          exact ⟨qa4, qa2⟩
         ·rw [if_neg c43] at H
          have c43b0 : (a0_0 == 4) = false := beq_eq_false_iff_ne.mpr c43; have c43b1 : (a0_0 != 4) = true := bne_iff_ne.mpr c43; obtain rfl := Option.some.inj H; go_wp2
          go_ret
          exact ⟨qa4, qa2⟩


mutual
def impl_Out_okAt.j0 : Nat → Int → Bool → Int → Int → Int → ByteArray → List ByteArray → List (S46) → Option (Bool × Int)
 | 0, _, _, _, _, _, _, _, _ => none
 | k + 1, x1, x29, x102000, x103000, x103001, x103002, x103003, x103004 => if x29 = true then (some (false, x102000)) else (impl_Out_okAt.l0 k x1 x103003 (x103003.length : Int) 0 x102000 x103000 x103001 x103002 x103003 x103004)
def impl_Out_okAt.l0 : Nat → Int → List ByteArray → Int → Int → Int → Int → Int → ByteArray → List ByteArray → List (S46) → Option (Bool × Int)
 | 0, _, _, _, _, _, _, _, _, _, _ => none
 | k + 1, x1, x32, x33, x34, x102000, x103000, x103001, x103002, x103003, x103004 => if x34 < x33 then (if 0 ≤ x34 then (if x34 < (x32.length : Int) then ((impl_NameOK.f k (rdOf ByteArray.empty x32 x34)).bind fun t105 => (if t105 = true then (if (rdOf ByteArray.empty x32 x34).size ≤ 9223372036854775807 ∧ x34 < 4611686018427387904 then (if (x32.take x34.toNat).any (fun z => z.data.toList == (rdOf ByteArray.empty x32 x34).data.toList) = true then (some (false, x102000)) else (impl_Out_okAt.l0 k x1 x32 x33 (wrap64 (x34 + 1)) x102000 x103000 x103001 x103002 x103003 x103004)) else (none)) else (some (false, x102000)))) else (none)) else (none)) else (impl_Out_okAt.l1 k x1 x103004 (x103004.length : Int) 0 x102000)
def impl_Out_okAt.l1 : Nat → Int → List (S46) → Int → Int → Int → Option (Bool × Int)
 | 0, _, _, _, _, _ => none
 | k + 1, x1, x50, x51, x52, x102000 => if x52 < x51 then (if 0 ≤ x52 then (if x52 < (x50.length : Int) then ((impl_Out_okAt.f k ((rd_T46 x50 x52).f0) ((rd_T46 x50 x52).f1) ((rd_T46 x50 x52).f2) ((rd_T46 x50 x52).f3) ((rd_T46 x50 x52).f4) (wrap64 (x1 + 1)) x102000).bind fun bt108 => (if bt108.1 = true then (impl_Out_okAt.l1 k x1 x50 x51 (wrap64 (x52 + 1)) bt108.2) else (some (false, bt108.2)))) else (none)) else (none)) else (some (true, x102000))
def impl_Out_okAt.f : Nat → Int → Int → ByteArray → List ByteArray → List (S46) → Int → Int → Option (Bool × Int)
 | 0, _, _, _, _, _, _, _ => none
 | k + 1, a0_0, a0_1, a0_2, l0_3, l0_4, a1, a2 => if (wrap64 (a2 - 1)) < 0 then (impl_Out_okAt.j0 k a1 true (wrap64 (a2 - 1)) a0_0 a0_1 a0_2 l0_3 l0_4) else (if a1 > 19 then (impl_Out_okAt.j0 k a1 true (wrap64 (a2 - 1)) a0_0 a0_1 a0_2 l0_3 l0_4) else ((impl_Out_isRight.f k a0_0 a0_1 a0_2 l0_3 l0_4).bind fun t103 => (impl_Out_okAt.j0 k a1 (!t103) (wrap64 (a2 - 1)) a0_0 a0_1 a0_2 l0_3 l0_4)))
end
theorem plain_bool_inv {P : Program} {e : TypeId} (he : P.underlying e = some .bool) {v : Value} {x : Bool} {ps : List MemPlace} (h : plainElem (H := Unit) P e v = some (.lit (.bool x), ps)) : v = .bool x := by
 unfold plainElem at h
 rw [he] at h
 cases v <;> simp at h
 rw [h.1]
theorem own_lookup_bool {P : Program} {w : World} {b n : Nat} {D : DataW Unit} {k t e : TypeId} (h : w.ownsMap P k (plainElem P e) b n D) (K : Go.Maps.Keyed P k) (ht : P.underlying t = some (.map k e)) (he : P.underlying e = some .bool) (hz : (zeroValue e).run P w = .ok (.bool false) w) {key : Value} {kl : Lit} (hkey : keyOf P k key = some kl) {x : Bool} (hx : D.atKey kl (.lit (.bool false)) = .lit (.bool x)) :
  (Instr.lookup t (.map (some b)) key false).run P w = .ok (.bool x) w := by
 obtain ⟨v, ps, hrun, hv⟩ := h.lookup K ht hz (plainElem_bool he false) hkey; rw [hx] at hv; rw [hrun, plain_bool_inv he hv]
theorem seen_next {D : DataW Unit} {l : List ByteArray} {i : Int} (hm : Go.Maps.IsMap D) (h : ∀ s : List UInt8, D.atKey (.string s) (.lit (.bool false)) = .lit (.bool ((l.take i.toNat).any (fun z => z.data.toList == s)))) (h0 : 0 ≤ i) (h1 : i < (l.length : Int)) :
  ∀ s : List UInt8, (D.put (.string (rdOf ByteArray.empty l i).data.toList) (.lit (.bool true))).atKey (.string s) (.lit (.bool false)) = .lit (.bool ((l.take (i + 1).toNat).any (fun z => z.data.toList == s))) := by
 intro s; have hi : i.toNat < l.length := by omega
 have e : (i + 1).toNat = i.toNat + 1 := by omega
 have hr : rdOf ByteArray.empty l i = l[i.toNat] := by unfold rdOf; rw [List.getD_eq_getElem?_getD, List.getElem?_eq_getElem hi]; rfl
 rw [e, List.take_succ_eq_append_getElem hi, List.any_append, hr]
 by_cases hs : l[i.toNat].data.toList = s
 ·subst hs
  rw [Go.Maps.atKey_put_same hm (by simp [WideAt.IsKeyLit])]
  simp
 ·rw [Go.Maps.atKey_put_other (by intro hc; exact hs (Lit.string.inj hc).symm), h s]
  simp [hs]
set_option maxHeartbeats 8000000 in
set_option maxRecDepth 100000 in
theorem impl_Out_okAt.calls (k : Nat) : ∀ (a0_0 : Int) (a0_1 : Int) (a0_2 : ByteArray) (A0_3 : Option Addr) (c0_3 : Nat) (l0_3 : List ByteArray) (A0_4 : Option Addr) (c0_4 : Nat) (l0_4 : List (S46)) (a1 : Int) (a2 : Int) (gb101 : Nat) (r1 : Bool) (r2 : Int) (w w5 : World) (hBK : w5.heap[gb101]? = some (.cells #[.int .i64 a2] 3 (0, 0))) (hGE : w.heap.size ≤ gb101) (hB : Below w.heap.size w w5) (hr0_3 : Kd.C Kd.string w A0_3 l0_3.length l0_3) (hc0_3 : l0_3.length ≤ c0_3) (hr0_4 : Kd.C k46 w A0_4 l0_4.length l0_4) (hc0_4 : l0_4.length ≤ c0_4) (h : impl_Out_okAt.f k a0_0 a0_1 a0_2 l0_3 l0_4 a1 a2 = some (r1, r2)),
  Calls Try.prog 63 #[.agg #[.int .i64 a0_0, .int .i64 a0_1, .string a0_2, .slice A0_3 l0_3.length c0_3, .slice A0_4 l0_4.length c0_4], .int .i64 a1, .pointer (some ⟨gb101, 0, none⟩)] w5 fun e w' => e = .returned (.bool r1) ∧ w'.heap[gb101]? = some (.cells #[.int .i64 r2] 3 (0, 0)) ∧ Below w.heap.size w w' := by
 induction k using Nat.strongRecOn with
 | _ k ih =>
 intro a0_0 a0_1 a0_2 A0_3 c0_3 l0_3 A0_4 c0_4 l0_4 a1 a2 gb101 r1 r2 w w5 hBK hGE hB hr0_3 hc0_3 hr0_4 hc0_4 h
 cases k with
 | zero => exact absurd h (by simp [impl_Out_okAt.f])
 | succ k =>
 simp only [impl_Out_okAt.f] at h; have hu46 := Try.underlying46; have HR0_3 := qO hr0_3; have HC0_3 := qO hc0_3; clear hr0_3 hc0_3; have HR0_4 := qO hr0_4; have HC0_4 := qO hc0_4; clear hr0_4 hc0_4; have HB := qO hB; have BK101 := qO hBK; have GE101 := qO hGE; have GW101 := qO hGE; clear hB hBK hGE; have hmm := @run_makeMap Try.prog; have H : (if (wrap64 (a2 - 1)) < 0 then (impl_Out_okAt.j0 k a1 true (wrap64 (a2 - 1)) a0_0 a0_1 a0_2 l0_3 l0_4) else (if a1 > 19 then (impl_Out_okAt.j0 k a1 true (wrap64 (a2 - 1)) a0_0 a0_1 a0_2 l0_3 l0_4) else ((impl_Out_isRight.f k a0_0 a0_1 a0_2 l0_3 l0_4).bind fun t103 => (impl_Out_okAt.j0 k a1 (!t103) (wrap64 (a2 - 1)) a0_0 a0_1 a0_2 l0_3 l0_4)))) = some (r1, r2) := h; clear h; have HC4 := qO H; clear H
 go_enter Try.func63, Try.ntmps63
 go_upto_region 2 with (first | ((with_reducible refine gate_dst (N := 3) rfl ?_); refine box_event ?hg (N := 3) ?hd (cs := #[.int .i64 a0_0, .int .i64 a0_1, .string a0_2, .slice A0_3 l0_3.length c0_3, .slice A0_4 l0_4.length c0_4]) (t := 46) ?hr ?_; (case hd => rfl); (case hg => rfl); (case hr => exact qa21); intro gb102 hg w6 hbox hb; have n0_ := qO (blk_below (g := gb101) (o := .cells #[.int .i64 a2] 3 (0, 0)) qa9 hb); have n1_ := qO (below_step qa2 hb); have n2_ := qO (hbox); have n3_ := qO ((qa69 : w.heap.size ≤ gb102)); have n4_ := qO ((qa69 : w.heap.size ≤ gb102)); have n5_ := qO ((by rw [hg]; exact Nat.ne_of_lt (blk_lt (g := gb101) (o := .cells #[.int .i64 a2] 3 (0, 0)) (by (with_reducible repeat (first | refine qkN ?_ _ | refine qkD ?_ | refine qkA ?_ _)); exact BK101.out)) : gb101 ≠ gb102)); have n6_ := qO ((by rw [hg]; exact Nat.ne_of_gt (blk_lt (g := gb101) (o := .cells #[.int .i64 a2] 3 (0, 0)) (by (with_reducible repeat (first | refine qkN ?_ _ | refine qkD ?_ | refine qkA ?_ _)); exact BK101.out)) : gb102 ≠ gb101)); clear BK101; clear HB; have BK101 := n0_; have HB := n1_; have BK102 := n2_; have GW102 := n3_; have GE102 := n4_; have NB101_102 := n5_; have NB102_101 := n6_; clear n0_ n1_ n2_ n3_ n4_ n5_ n6_; clear hb hbox hg; have hnb7 := NB101_102.out; have hnc7 := NB102_101.out; have hcz8_0 : w6.cell? ⟨gb101, 0, none⟩ = some (.int .i64 a2) := (blk_cell BK101.out 0).trans rfl; have hfz8_0 := blk_frozen BK101.out 0))
 (try simp only [Act.put, qzA, qzB, qzC])
 go_cut [29] (fun v29 wc => ∃ (kq : Nat) (x29_3 : Bool), v29 = .bool x29_3 ∧ Aside0 (impl_Out_okAt.j0 kq a1 x29_3 (wrap64 (a2 - 1)) a0_0 a0_1 a0_2 l0_3 l0_4 = some (r1, r2)) ∧ Aside0 (kq ≤ k) ∧ Aside0 (wc.heap[gb101]? = some (.cells #[.int .i64 (wrap64 (a2 - 1))] 3 (0, 0))) ∧ Aside0 (wc.heap[gb102]? = some (.cells #[.int .i64 a0_0, .int .i64 a0_1, .string a0_2, (.slice A0_3 l0_3.length c0_3), (.slice A0_4 l0_4.length c0_4)] 46 (0, 0))) ∧ Aside0 (Below w.heap.size w wc))
 case first =>
  have H := HC4.out; clear HC4
  by_cases c9 : (wrap64 (a2 - 1)) < 0
  ·rw [if_pos c9] at H
   have c9b0 : decide ((wrap64 (a2 - 1)) < 0) = true := decide_eq_true c9; clear c9; (first | rw [c9b0] | (simp only [i64_w, i32_w]; rw [c9b0]) | skip); have H' := qO H; clear H; have hnb10 := NB101_102.out; have hnc10 := NB102_101.out; have hcz11_0 : w6.cell? ⟨gb101, 0, none⟩ = some (.int .i64 a2) := (blk_cell BK101.out 0).trans rfl; have hfz11_0 := blk_frozen BK101.out 0; go_wp2
   go_meet
   case rel => exact ⟨_, (true), qa5, H', ⟨qa44⟩, ⟨qa46⟩, ⟨qa47⟩, ⟨qa8⟩⟩
  ·rw [if_neg c9] at H
   have c9b0 : decide ((wrap64 (a2 - 1)) < 0) = false := decide_eq_false c9; clear c9; (first | rw [c9b0] | (simp only [i64_w, i32_w]; rw [c9b0]) | skip)
   by_cases c12 : a1 > 19
   ·rw [if_pos c12] at H
    have c12b0 : decide (19 < a1) = true := decide_eq_true c12; clear c12; have H' := qO H; clear H; have hnb13 := NB101_102.out; have hnc13 := NB102_101.out; have hcz14_0 : w6.cell? ⟨gb101, 0, none⟩ = some (.int .i64 a2) := (blk_cell BK101.out 0).trans rfl; have hfz14_0 := blk_frozen BK101.out 0; go_wp2
    go_meet
    case rel => exact ⟨_, (true), qa5, H', ⟨qa44⟩, ⟨qa46⟩, ⟨qa47⟩, ⟨qa8⟩⟩
   ·rw [if_neg c12] at H
    have c12b0 : decide (19 < a1) = false := decide_eq_false c12; clear c12; replace H := Option.bind_eq_some_iff.mp H; obtain ⟨t103, A150, H⟩ := H; replace H : (impl_Out_okAt.j0 k a1 (!t103) (wrap64 (a2 - 1)) a0_0 a0_1 a0_2 l0_3 l0_4) = some (r1, r2) := H; have A15 := qO A150; clear A150; have H' := qO H; clear H; have hnb16 := NB101_102.out; have hnc16 := NB102_101.out; have hcz17_0 : w6.cell? ⟨gb101, 0, none⟩ = some (.int .i64 a2) := (blk_cell BK101.out 0).trans rfl; have hfz17_0 := blk_frozen BK101.out 0; have hcz18_0 : w6.cell? ⟨gb102, 0, none⟩ = some (.int .i64 a0_0) := (blk_cell BK102.out 0).trans rfl; have hcz18_1 : w6.cell? ⟨gb102, 1, none⟩ = some (.int .i64 a0_1) := (blk_cell BK102.out 1).trans rfl; have hcz18_2 : w6.cell? ⟨gb102, 2, none⟩ = some (.string a0_2) := (blk_cell BK102.out 2).trans rfl; have hcz18_3 : w6.cell? ⟨gb102, 3, none⟩ = some (.slice A0_3 l0_3.length c0_3) := (blk_cell BK102.out 3).trans rfl; have hcz18_4 : w6.cell? ⟨gb102, 4, none⟩ = some (.slice A0_4 l0_4.length c0_4) := (blk_cell BK102.out 4).trans rfl; have hfz18_0 := blk_frozen BK102.out 0; have hfz18_1 := blk_frozen BK102.out 1; have hfz18_2 := blk_frozen BK102.out 2; have hfz18_3 := blk_frozen BK102.out 3; have hfz18_4 := blk_frozen BK102.out 4
    go_wp2_with (first | (go_at_call 102; (with_reducible refine (impl_Out_isRight.calls k a0_0 a0_1 a0_2 _ _ l0_3 _ _ l0_4 t103 _ ?side1 ?side2 ?side3 ?side4 A15.out).mono ?_); (case side1 => exact Kd.C_below HR0_3.out (by repeat (first | (with_reducible first | exact HB.out | apply qbA | apply qbN | apply qbD | refine qbS ?_ GE101.out | refine qbS ?_ GE102.out) | exact HB.out))); (case side2 => exact HC0_3.out); (case side3 => exact Kd.C_below HR0_4.out (by repeat (first | (with_reducible first | exact HB.out | apply qbA | apply qbN | apply qbD | refine qbS ?_ GE101.out | refine qbS ?_ GE102.out) | exact HB.out))); (case side4 => exact HC0_4.out); rintro e w19 ⟨rfl, hb⟩; have n0_ := qO (blk_below (g := gb101) (o := .cells #[.int .i64 (wrap64 (a2 - 1))] 3 (0, 0)) qa46 hb); have n1_ := qO (blk_below (g := gb102) (o := .cells #[.int .i64 a0_0, .int .i64 a0_1, .string a0_2, .slice A0_3 l0_3.length c0_3, .slice A0_4 l0_4.length c0_4] 46 (0, 0)) qa47 hb); have n2_ := qO (below_step qa8 hb); clear BK101; clear BK102; clear HB; have BK101 := n0_; have BK102 := n1_; have HB := n2_; clear n0_ n1_ n2_; (try clear hb); (try clear hb2); (try clear hk); (try clear hi)))
    go_meet
    case rel => exact ⟨_, (!t103), qa5, H', ⟨qa44⟩, ⟨qa9⟩, ⟨qa74⟩, ⟨qa8⟩⟩
 case rest =>
  clear HC4
  try clear c1
  try clear p2
  try clear c6
  try clear p6
  try clear c7
  try clear c9
  try clear c9b0
  try clear c10
  try clear c12
  try clear c12b0
  try clear c13
  try clear c16
  try clear hcz11_0
  try clear hcz14_0
  try clear hcz17_0
  try clear hcz18_0
  try clear hcz18_1
  try clear hcz18_2
  try clear hcz18_3
  try clear hcz18_4
  try clear hcz8_0
  try clear hfz11_0
  try clear hfz14_0
  try clear hfz17_0
  try clear hfz18_0
  try clear hfz18_1
  try clear hfz18_2
  try clear hfz18_3
  try clear hfz18_4
  try clear hfz8_0
  obtain ⟨kq, x29_3, rfl, HA, HJ3, BK101, BK102, HB⟩ := hcut
  cases kq with
  | zero => exact absurd HA.out (by simp [impl_Out_okAt.j0])
  | succ kj3 =>
   have H := HA.out; clear HA; simp only [impl_Out_okAt.j0] at H
   by_cases c20 : x29_3 = true
   ·subst c20
    have H1 : (some (false, (wrap64 (a2 - 1)))) = some (r1, r2) := by rw [if_pos rfl] at H; exact H
    clear H; have H := H1; clear H1; simp only [Option.some.injEq, Prod.mk.injEq] at H; obtain ⟨rfl, rfl⟩ := H; have hnb21 := NB101_102.out; have hnc21 := NB102_101.out; have hcz22_0 : wc.cell? ⟨gb101, 0, none⟩ = some (.int .i64 (wrap64 (a2 - 1))) := (blk_cell BK101.out 0).trans rfl; have hfz22_0 := blk_frozen BK101.out 0; go_wp2
    go_ret
    exact ⟨qa4, qa31, qa8⟩
   ·replace c20 := Bool.eq_false_iff.mpr c20
    subst c20; have H1 : (impl_Out_okAt.l0 kj3 a1 l0_3 (l0_3.length : Int) 0 (wrap64 (a2 - 1)) a0_0 a0_1 a0_2 l0_3 l0_4) = some (r1, r2) := by rw [if_neg (show ¬ (false = true) by decide)] at H; exact H
    clear H; have H := H1; clear H1; have H' := qO H; clear H; have hnb23 := NB102_101.out; have hnc23 := NB101_102.out; have NM1 := qO (Nat.ne_of_lt (blk_lt BK101.out)); have NM2 := qO (Nat.ne_of_lt (blk_lt BK102.out)); have NMB := qO (below_size HB.out); have hcz24_0 : (wc.alloc (.map #[] 0)).cell? ⟨gb102, 0, none⟩ = some (.int .i64 a0_0) := (blk_cell (qkA BK102.out _) 0).trans rfl; have hcz24_1 : (wc.alloc (.map #[] 0)).cell? ⟨gb102, 1, none⟩ = some (.int .i64 a0_1) := (blk_cell (qkA BK102.out _) 1).trans rfl; have hcz24_2 : (wc.alloc (.map #[] 0)).cell? ⟨gb102, 2, none⟩ = some (.string a0_2) := (blk_cell (qkA BK102.out _) 2).trans rfl; have hcz24_3 : (wc.alloc (.map #[] 0)).cell? ⟨gb102, 3, none⟩ = some (.slice A0_3 l0_3.length c0_3) := (blk_cell (qkA BK102.out _) 3).trans rfl; have hcz24_4 : (wc.alloc (.map #[] 0)).cell? ⟨gb102, 4, none⟩ = some (.slice A0_4 l0_4.length c0_4) := (blk_cell (qkA BK102.out _) 4).trans rfl; have hfz24_0 := blk_frozen (qkA BK102.out (.map #[] 0)) 0; have hfz24_1 := blk_frozen (qkA BK102.out (.map #[] 0)) 1; have hfz24_2 := blk_frozen (qkA BK102.out (.map #[] 0)) 2; have hfz24_3 := blk_frozen (qkA BK102.out (.map #[] 0)) 3; have hfz24_4 := blk_frozen (qkA BK102.out (.map #[] 0)) 4; go_wp2
    go_loopg [34] kj3 (fun kq v34 w' => ∃ (x34_2 : Int) (D2 : DataW Unit), v34 = .int .i64 x34_2 ∧ Aside0 (w'.ownsMap Try.prog 9 (plainElem Try.prog 4) wc.heap.size x34_2.toNat D2) ∧ Aside0 (∀ s_ : List UInt8, D2.atKey (.string s_) (.lit (.bool false)) = .lit (.bool ((l0_3.take x34_2.toNat).any (fun z => z.data.toList == s_)))) ∧ Aside0 (impl_Out_okAt.l0 kq a1 l0_3 (l0_3.length : Int) x34_2 (wrap64 (a2 - 1)) a0_0 a0_1 a0_2 l0_3 l0_4 = some (r1, r2)) ∧ Aside0 (kq ≤ kj3) ∧ Aside0 (w'.heap[gb101]? = some (.cells #[.int .i64 (wrap64 (a2 - 1))] 3 (0, 0))) ∧ Aside0 (w'.heap[gb102]? = some (.cells #[.int .i64 a0_0, .int .i64 a0_1, .string a0_2, (.slice A0_3 l0_3.length c0_3), (.slice A0_4 l0_4.length c0_4)] 46 (0, 0))) ∧ Aside0 (Below w.heap.size w w'))
    case atStart => exact ⟨(0), .map [], qa5, ⟨World.ownsMap_made _ _ _ _⟩, ⟨fun _ => rfl⟩, H', ⟨Nat.le_refl _⟩, ⟨qa9⟩, ⟨qa74⟩, ⟨qa8⟩⟩
    case round =>
     clear H'
     try clear c1
     try clear c2
     try clear p2
     try clear c6
     try clear p6
     try clear c7
     try clear c9
     try clear c9b0
     try clear c10
     try clear c12
     try clear c12b0
     try clear c13
     try clear c16
     try clear c20
     try clear c21
     try clear c23
     try clear hcz11_0
     try clear hcz14_0
     try clear hcz17_0
     try clear hcz18_0
     try clear hcz18_1
     try clear hcz18_2
     try clear hcz18_3
     try clear hcz18_4
     try clear hcz22_0
     try clear hcz24_0
     try clear hcz24_1
     try clear hcz24_2
     try clear hcz24_3
     try clear hcz24_4
     try clear hcz8_0
     try clear hfz11_0
     try clear hfz14_0
     try clear hfz17_0
     try clear hfz18_0
     try clear hfz18_1
     try clear hfz18_2
     try clear hfz18_3
     try clear hfz18_4
     try clear hfz22_0
     try clear hfz24_0
     try clear hfz24_1
     try clear hfz24_2
     try clear hfz24_3
     try clear hfz24_4
     try clear hfz8_0
     try clear p2
     try clear p6
     obtain ⟨x34_2, D2, rfl, HM, HAT, HA, HK2, BK101, BK102, HB⟩ := hrel
     cases gk with
     | zero => exact absurd HA.out (by simp [impl_Out_okAt.l0])
     | succ k2 =>
      have H := HA.out; clear HA; simp only [impl_Out_okAt.l0] at H
      by_cases c25 : x34_2 < (l0_3.length : Int)
      ·rw [if_pos c25] at H
       have c25b0 : decide (x34_2 < (l0_3.length : Int)) = true := decide_eq_true c25; clear c25
       by_cases c26 : 0 ≤ x34_2
       ·rw [if_pos c26] at H
        have c26b0 : decide (0 ≤ x34_2) = true := decide_eq_true c26; clear c26
        by_cases c27 : x34_2 < (l0_3.length : Int)
        ·rw [if_pos c27] at H
         have c27b0 : decide (x34_2 < (l0_3.length : Int)) = true := decide_eq_true c27; clear c27; replace H := Option.bind_eq_some_iff.mp H; obtain ⟨t105, A280, H⟩ := H; replace H : (if t105 = true then (if (rdOf ByteArray.empty l0_3 x34_2).size ≤ 9223372036854775807 ∧ x34_2 < 4611686018427387904 then (if (l0_3.take x34_2.toNat).any (fun z => z.data.toList == (rdOf ByteArray.empty l0_3 x34_2).data.toList) = true then (some (false, (wrap64 (a2 - 1)))) else (impl_Out_okAt.l0 k2 a1 l0_3 (l0_3.length : Int) (wrap64 (x34_2 + 1)) (wrap64 (a2 - 1)) a0_0 a0_1 a0_2 l0_3 l0_4)) else (none)) else (some (false, (wrap64 (a2 - 1))))) = some (r1, r2) := H; have A28 := qO A280; clear A280
         by_cases c29 : t105 = true
         ·subst c29
          have H1 : (if (rdOf ByteArray.empty l0_3 x34_2).size ≤ 9223372036854775807 ∧ x34_2 < 4611686018427387904 then (if (l0_3.take x34_2.toNat).any (fun z => z.data.toList == (rdOf ByteArray.empty l0_3 x34_2).data.toList) = true then (some (false, (wrap64 (a2 - 1)))) else (impl_Out_okAt.l0 k2 a1 l0_3 (l0_3.length : Int) (wrap64 (x34_2 + 1)) (wrap64 (a2 - 1)) a0_0 a0_1 a0_2 l0_3 l0_4)) else (none)) = some (r1, r2) := by rw [if_pos rfl] at H; exact H
          clear H; have H := H1; clear H1
          by_cases hsz_ : (rdOf ByteArray.empty l0_3 x34_2).size ≤ 9223372036854775807 ∧ x34_2 < 4611686018427387904
          ·rw [if_pos hsz_] at H
           have HSZ := qO hsz_; clear hsz_; have hw_ : wrap64 (x34_2 + 1) = x34_2 + 1 := by unfold wrap64; have := HSZ.out.2; have := qT c26b0; omega
           by_cases han_ : (l0_3.take x34_2.toNat).any (fun z => z.data.toList == (rdOf ByteArray.empty l0_3 x34_2).data.toList) = true
           ·rw [if_pos han_] at H
            have HAN := qO han_; clear han_; have H1 : (some (false, (wrap64 (a2 - 1)))) = some (r1, r2) := H; clear H; have H := H1; clear H1; simp only [Option.some.injEq, Prod.mk.injEq] at H; obtain ⟨rfl, rfl⟩ := H; have p104 : 0 ≤ (x34_2 : Int) := qT qa6; have q104 : x34_2 < (l0_3.length : Int) := qT qa6; obtain ⟨ad104, e104, hx104_0⟩ := Kd.at_string HR0_3.out x34_2 p104 q104
            cases e104
            replace hx104_0 := (HB.out.cell (qL w _ hx104_0)).trans hx104_0; replace p104 := eq_true p104; replace q104 := eq_true q104
            go_wp2_with (first | ((with_reducible refine gate_callee (f := 52) rfl ?_); refine goesL_ (some 39) rfl rfl Try.func52 qa10 rfl #[.string (rdOf ByteArray.empty l0_3 x34_2)] rfl qa1 ?_; (with_reducible refine (impl_NameOK.calls k2 (rdOf ByteArray.empty l0_3 x34_2) true _ A28.out).mono ?_); rintro e w' ⟨rfl, ⟨nd, rfl⟩⟩; refine ⟨_, rfl, ?_⟩; have hown2 : (wr.drewN nd).ownsMap (H := Unit) Try.prog 9 (plainElem Try.prog 4) wc.heap.size x34_2.toNat D2 := HM.out; have hkk := Go.WideMaps.keyOf_string_mk (P := Try.prog) Try.underlying9 HSZ.out.1; have hlk := own_lookup_bool (t := 133) hown2 (Go.Maps.string_keyed Try.underlying9) Try.underlying133 Try.underlying4 qa10 hkk ((HAT.out _).trans (by rw [HAN.out])); have hnb30 := NB101_102.out; have hnc30 := NB102_101.out; have hcz31_0 : wr.cell? ⟨gb101, 0, none⟩ = some (.int .i64 (wrap64 (a2 - 1))) := (blk_cell BK101.out 0).trans rfl; have hfz31_0 := blk_frozen BK101.out 0))
            go_ret
            exact ⟨qa4, qa31, qa8⟩
           ·have HAN := qO (Bool.eq_false_iff.mpr han_)
            rw [if_neg han_] at H; clear han_; have H' := qO H; clear H; have p104 : 0 ≤ (x34_2 : Int) := qT qa6; have q104 : x34_2 < (l0_3.length : Int) := qT qa6; obtain ⟨ad104, e104, hx104_0⟩ := Kd.at_string HR0_3.out x34_2 p104 q104
            cases e104
            replace hx104_0 := (HB.out.cell (qL w _ hx104_0)).trans hx104_0; replace p104 := eq_true p104; replace q104 := eq_true q104
            go_wp2_with (first | ((with_reducible refine gate_callee (f := 52) rfl ?_); refine goesL_ (some 39) rfl rfl Try.func52 qa10 rfl #[.string (rdOf ByteArray.empty l0_3 x34_2)] rfl qa1 ?_; (with_reducible refine (impl_NameOK.calls k2 (rdOf ByteArray.empty l0_3 x34_2) true _ A28.out).mono ?_); rintro e w' ⟨rfl, ⟨nd, rfl⟩⟩; refine ⟨_, rfl, ?_⟩; have hown2 : (wr.drewN nd).ownsMap (H := Unit) Try.prog 9 (plainElem Try.prog 4) wc.heap.size x34_2.toNat D2 := HM.out; have hkk := Go.WideMaps.keyOf_string_mk (P := Try.prog) Try.underlying9 HSZ.out.1; have hlk := own_lookup_bool (t := 133) hown2 (Go.Maps.string_keyed Try.underlying9) Try.underlying133 Try.underlying4 qa10 hkk ((HAT.out _).trans (by rw [HAN.out])); obtain ⟨w2, hup, hown3, hgr⟩ := hown2.update (t := 133) (val := .bool true) (Go.Maps.string_keyed Try.underlying9) Try.underlying133 (by unfold maxLen; have := HSZ.out.2; omega) hkk (plainElem_bool Try.underlying4 true); have n0_ := qO (blk_grown (g := gb101) (w := wr.drewN nd) BK101.out hgr (fun e_ => NM1.out (Option.some.inj e_))); have n1_ := qO (blk_grown (g := gb102) (w := wr.drewN nd) BK102.out hgr (fun e_ => NM2.out (Option.some.inj e_))); have n2_ := qO (pw_below_grown (qbN HB.out nd) (some wc.heap.size) (below_size (qbN HB.out nd)) hgr (fun k_ e_ => by cases e_; exact NMB.out)); clear BK101; clear BK102; clear HB; have BK101 := n0_; have BK102 := n1_; have HB := n2_; clear n0_ n1_ n2_))
            go_roundg k2
            case measure => have := HJ3.out; have := HK2.out; omega
            case rel => exact ⟨(wrap64 (x34_2 + 1)), _, qa5, ⟨by rw [hw_, show (x34_2 + 1).toNat = x34_2.toNat + 1 from by have := qT c26b0; omega]; exact hown3⟩, ⟨by rw [hw_]; exact seen_next hown2.isMap HAT.out (qT c26b0) (qT c27b0)⟩, H', ⟨by have := HJ3.out; have := HK2.out; omega⟩, ⟨qa9⟩, ⟨qa74⟩, ⟨qa8⟩⟩
          ·rw [if_neg hsz_] at H
           exact absurd H qa70
         ·replace c29 := Bool.eq_false_iff.mpr c29
          subst c29; have H1 : (some (false, (wrap64 (a2 - 1)))) = some (r1, r2) := by rw [if_neg (show ¬ (false = true) by decide)] at H; exact H
          clear H; have H := H1; clear H1; simp only [Option.some.injEq, Prod.mk.injEq] at H; obtain ⟨rfl, rfl⟩ := H; have p104 : 0 ≤ (x34_2 : Int) := qT qa6; have q104 : x34_2 < (l0_3.length : Int) := qT qa6; obtain ⟨ad104, e104, hx104_0⟩ := Kd.at_string HR0_3.out x34_2 p104 q104
          cases e104
          replace hx104_0 := (HB.out.cell (qL w _ hx104_0)).trans hx104_0; replace p104 := eq_true p104; replace q104 := eq_true q104
          go_wp2_with (first | ((with_reducible refine gate_callee (f := 52) rfl ?_); refine goesL_ (some 39) rfl rfl Try.func52 qa10 rfl #[.string (rdOf ByteArray.empty l0_3 x34_2)] rfl qa1 ?_; (with_reducible refine (impl_NameOK.calls k2 (rdOf ByteArray.empty l0_3 x34_2) false _ A28.out).mono ?_); rintro e w' ⟨rfl, ⟨nd, rfl⟩⟩; refine ⟨_, rfl, ?_⟩; have hnb30 := NB101_102.out; have hnc30 := NB102_101.out; have hcz31_0 : wr.cell? ⟨gb101, 0, none⟩ = some (.int .i64 (wrap64 (a2 - 1))) := (blk_cell BK101.out 0).trans rfl; have hfz31_0 := blk_frozen BK101.out 0))
          go_ret
          exact ⟨qa4, qa31, qa8⟩
        ·rw [if_neg c27] at H
         exact absurd H qa70
       ·rw [if_neg c26] at H
        exact absurd H qa70
      ·rw [if_neg c25] at H
       have c25b0 : decide (x34_2 < (l0_3.length : Int)) = false := decide_eq_false c25; clear c25; have H' := qO H; clear H; have hnb32 := NB102_101.out; have hnc32 := NB101_102.out; have hcz33_0 : wr.cell? ⟨gb102, 0, none⟩ = some (.int .i64 a0_0) := (blk_cell BK102.out 0).trans rfl; have hcz33_1 : wr.cell? ⟨gb102, 1, none⟩ = some (.int .i64 a0_1) := (blk_cell BK102.out 1).trans rfl; have hcz33_2 : wr.cell? ⟨gb102, 2, none⟩ = some (.string a0_2) := (blk_cell BK102.out 2).trans rfl; have hcz33_3 : wr.cell? ⟨gb102, 3, none⟩ = some (.slice A0_3 l0_3.length c0_3) := (blk_cell BK102.out 3).trans rfl; have hcz33_4 : wr.cell? ⟨gb102, 4, none⟩ = some (.slice A0_4 l0_4.length c0_4) := (blk_cell BK102.out 4).trans rfl; have hfz33_0 := blk_frozen BK102.out 0; have hfz33_1 := blk_frozen BK102.out 1; have hfz33_2 := blk_frozen BK102.out 2; have hfz33_3 := blk_frozen BK102.out 3; have hfz33_4 := blk_frozen BK102.out 4; go_wp2
       go_loopg [52] k2 (fun kq v52 w' => ∃ (x52_3 : Int) (rm_3 : Int), v52 = .int .i64 x52_3 ∧ Aside0 (impl_Out_okAt.l1 kq a1 l0_4 (l0_4.length : Int) x52_3 rm_3 = some (r1, r2)) ∧ Aside0 (kq ≤ k2) ∧ Aside0 (w'.heap[gb101]? = some (.cells #[.int .i64 rm_3] 3 (0, 0))) ∧ Aside0 (Below w.heap.size w w'))
       case atStart => exact ⟨(0), ((wrap64 (a2 - 1))), qa5, H', ⟨Nat.le_refl _⟩, ⟨qa9⟩, ⟨qa8⟩⟩
       case round =>
        clear H'
        try clear c1
        try clear p1
        try clear q1
        try clear hx1
        try clear c2
        try clear p2
        try clear c3
        try clear c5
        try clear c6
        try clear p6
        try clear c7
        try clear c9
        try clear c9b0
        try clear c10
        try clear p10
        try clear q10
        try clear hx10
        try clear c12
        try clear c12b0
        try clear c13
        try clear c16
        try clear c20
        try clear c21
        try clear c23
        try clear c25
        try clear c25b0
        try clear c26
        try clear c26b0
        try clear c27
        try clear c27b0
        try clear c29
        try clear c30
        try clear c32
        try clear hcz11_0
        try clear hcz14_0
        try clear hcz17_0
        try clear hcz18_0
        try clear hcz18_1
        try clear hcz18_2
        try clear hcz18_3
        try clear hcz18_4
        try clear hcz22_0
        try clear hcz24_0
        try clear hcz24_1
        try clear hcz24_2
        try clear hcz24_3
        try clear hcz24_4
        try clear hcz31_0
        try clear hcz33_0
        try clear hcz33_1
        try clear hcz33_2
        try clear hcz33_3
        try clear hcz33_4
        try clear hcz8_0
        try clear hfz11_0
        try clear hfz14_0
        try clear hfz17_0
        try clear hfz18_0
        try clear hfz18_1
        try clear hfz18_2
        try clear hfz18_3
        try clear hfz18_4
        try clear hfz22_0
        try clear hfz24_0
        try clear hfz24_1
        try clear hfz24_2
        try clear hfz24_3
        try clear hfz24_4
        try clear hfz31_0
        try clear hfz33_0
        try clear hfz33_1
        try clear hfz33_2
        try clear hfz33_3
        try clear hfz33_4
        try clear hfz8_0
        try clear hx104_0
        try clear p104
        try clear p2
        try clear p6
        try clear q104
        obtain ⟨x52_3, rm_3, rfl, HA, HK3, BK101, HB⟩ := hrel
        cases gk with
        | zero => exact absurd HA.out (by simp [impl_Out_okAt.l1])
        | succ k3 =>
         have H := HA.out; clear HA; simp only [impl_Out_okAt.l1] at H
         by_cases c34 : x52_3 < (l0_4.length : Int)
         ·rw [if_pos c34] at H
          have c34b0 : decide (x52_3 < (l0_4.length : Int)) = true := decide_eq_true c34; clear c34
          by_cases c35 : 0 ≤ x52_3
          ·rw [if_pos c35] at H
           have c35b0 : decide (0 ≤ x52_3) = true := decide_eq_true c35; clear c35
           by_cases c36 : x52_3 < (l0_4.length : Int)
           ·rw [if_pos c36] at H
            have c36b0 : decide (x52_3 < (l0_4.length : Int)) = true := decide_eq_true c36; clear c36; replace H := Option.bind_eq_some_iff.mp H; obtain ⟨⟨t108, t109⟩, A370, H⟩ := H; replace H : (if t108 = true then (impl_Out_okAt.l1 k3 a1 l0_4 (l0_4.length : Int) (wrap64 (x52_3 + 1)) t109) else (some (false, t109))) = some (r1, r2) := H; have A37 := qO A370; clear A370
            by_cases c38 : t108 = true
            ·subst c38
             have H1 : (impl_Out_okAt.l1 k3 a1 l0_4 (l0_4.length : Int) (wrap64 (x52_3 + 1)) t109) = some (r1, r2) := by rw [if_pos rfl] at H; exact H
             clear H; have H := H1; clear H1; have H' := qO H; clear H; have p106 : 0 ≤ (x52_3 : Int) := qT qa6; have q106 : x52_3 < (l0_4.length : Int) := qT qa6; obtain ⟨ad106, A106_3, c106_3, A106_4, c106_4, e106, hx106_0, hx106_1, hx106_2, hx106_3, hx106_4, hl106_3, hi106_3, hl106_4, hi106_4⟩ := at_T46 HR0_4.out x52_3 p106 q106
             cases e106
             replace hx106_0 := (HB.out.cell (qL w _ hx106_0)).trans hx106_0; replace hx106_1 := (HB.out.cell (qL w _ hx106_1)).trans hx106_1; replace hx106_2 := (HB.out.cell (qL w _ hx106_2)).trans hx106_2; replace hx106_3 := (HB.out.cell (qL w _ hx106_3)).trans hx106_3; replace hx106_4 := (HB.out.cell (qL w _ hx106_4)).trans hx106_4; have HR106_3 := qO hi106_3; have HC106_3 := qO hl106_3; clear hi106_3 hl106_3; have HR106_4 := qO hi106_4; have HC106_4 := qO hl106_4; clear hi106_4 hl106_4; replace p106 := eq_true p106; replace q106 := eq_true q106
             go_wp2_with (first | ((with_reducible refine gate_dst (N := 11) rfl ?_); refine box_event ?hg (N := 11) ?hd (cs := #[.int .i64 0, .int .i64 0, .string (⟨#[]⟩ : ByteArray), .slice none 0 0, .slice none 0 0]) (t := 46) ?hr ?_; (case hd => rfl); (case hg => rfl); (case hr => exact qa21); intro gb107 hg w39 hbox hb; have hx_ := qHX HB hb qa0; have n0_ := qO (qB BK101.out hx_ hb); have n2_ := qO (below_step (below_step HB.out hx_) hb); have n3_ := qO (hbox); have n4_ := qO ((qa15 : w.heap.size ≤ gb107)); have n5_ := n4_; have n6_ := qO ((qa64 : gb101 ≠ gb107)); have n7_ := qO (Ne.symm n6_.out); clear BK101; clear HB; have BK101 := n0_; have HB := n2_; have BK107 := n3_; have GW107 := n4_; have GE107 := n5_; have NB101_107 := n6_; have NB107_101 := n7_; clear n0_ n2_ n3_ n4_ n5_ n6_ n7_; clear hx_; clear hb hbox hg; have hnb40 := NB107_101.out; have hnc40 := NB101_107.out; have hcz42_0 : w39.cell? ⟨gb107, 0, none⟩ = some (.int .i64 0) := (blk_cell BK107.out 0).trans rfl; have hcz42_1 : w39.cell? ⟨gb107, 1, none⟩ = some (.int .i64 0) := (blk_cell BK107.out 1).trans rfl; have hcz42_2 : w39.cell? ⟨gb107, 2, none⟩ = some (.string (⟨#[]⟩ : ByteArray)) := (blk_cell BK107.out 2).trans rfl; have hcz42_3 : w39.cell? ⟨gb107, 3, none⟩ = some (.slice none 0 0) := (blk_cell BK107.out 3).trans rfl; have hcz42_4 : w39.cell? ⟨gb107, 4, none⟩ = some (.slice none 0 0) := (blk_cell BK107.out 4).trans rfl; have hfz42_0 := blk_frozen BK107.out 0; have hfz42_1 := blk_frozen BK107.out 1; have hfz42_2 := blk_frozen BK107.out 2; have hfz42_3 := blk_frozen BK107.out 3; have hfz42_4 := blk_frozen BK107.out 4; have hcz44_0 : w39.cell? ⟨gb101, 0, none⟩ = some (.int .i64 rm_3) := (blk_cell BK101.out 0).trans rfl; have hfz44_0 := blk_frozen BK101.out 0) | ((with_reducible refine gate_callee (f := 63) rfl ?_); refine goesL_ (some 60) rfl rfl Try.func63 qa10 rfl #[.agg #[.int .i64 ((rd_T46 l0_4 x52_3).f0), .int .i64 ((rd_T46 l0_4 x52_3).f1), .string ((rd_T46 l0_4 x52_3).f2), .slice A106_3 ((rd_T46 l0_4 x52_3).f3).length c106_3, .slice A106_4 ((rd_T46 l0_4 x52_3).f4).length c106_4], .int .i64 (wrap64 (a1 + 1)), .pointer (some ⟨gb101, 0, none⟩)] rfl qa1 ?_; refine (ih k3 qa92 ((rd_T46 l0_4 x52_3).f0) ((rd_T46 l0_4 x52_3).f1) ((rd_T46 l0_4 x52_3).f2) _ _ ((rd_T46 l0_4 x52_3).f3) _ _ ((rd_T46 l0_4 x52_3).f4) (wrap64 (a1 + 1)) rm_3 gb101 true t109 w _ ?bk GE101.out ?hb HR106_3.out HC106_3.out HR106_4.out HC106_4.out A37.out).mono ?_; (case bk => exact qa28); (case hb => exact qa71); rintro e w45 ⟨rfl, hbk, hb⟩; refine ⟨_, rfl, ?_⟩; clear BK101; clear BK107; clear HB; have BK101 := qO hbk; have HB := qO hb; clear hbk hb))
             go_roundg k3
             case measure => have := HJ3.out; have := HK2.out; have := HK3.out; omega
             case rel => exact ⟨(wrap64 (x52_3 + 1)), (t109), qa5, H', ⟨qa92⟩, ⟨BK101.out⟩, ⟨qa65⟩⟩
            ·replace c38 := Bool.eq_false_iff.mpr c38
             subst c38; have H1 : (some (false, t109)) = some (r1, r2) := by rw [if_neg (show ¬ (false = true) by decide)] at H; exact H
             clear H; have H := H1; clear H1; simp only [Option.some.injEq, Prod.mk.injEq] at H; obtain ⟨rfl, rfl⟩ := H; have p106 : 0 ≤ (x52_3 : Int) := qT qa6; have q106 : x52_3 < (l0_4.length : Int) := qT qa6; obtain ⟨ad106, A106_3, c106_3, A106_4, c106_4, e106, hx106_0, hx106_1, hx106_2, hx106_3, hx106_4, hl106_3, hi106_3, hl106_4, hi106_4⟩ := at_T46 HR0_4.out x52_3 p106 q106
             cases e106
             replace hx106_0 := (HB.out.cell (qL w _ hx106_0)).trans hx106_0; replace hx106_1 := (HB.out.cell (qL w _ hx106_1)).trans hx106_1; replace hx106_2 := (HB.out.cell (qL w _ hx106_2)).trans hx106_2; replace hx106_3 := (HB.out.cell (qL w _ hx106_3)).trans hx106_3; replace hx106_4 := (HB.out.cell (qL w _ hx106_4)).trans hx106_4; have HR106_3 := qO hi106_3; have HC106_3 := qO hl106_3; clear hi106_3 hl106_3; have HR106_4 := qO hi106_4; have HC106_4 := qO hl106_4; clear hi106_4 hl106_4; replace p106 := eq_true p106; replace q106 := eq_true q106
             go_wp2_with (first | ((with_reducible refine gate_dst (N := 11) rfl ?_); refine box_event ?hg (N := 11) ?hd (cs := #[.int .i64 0, .int .i64 0, .string (⟨#[]⟩ : ByteArray), .slice none 0 0, .slice none 0 0]) (t := 46) ?hr ?_; (case hd => rfl); (case hg => rfl); (case hr => exact qa21); intro gb107 hg w47 hbox hb; have hx_ := qHX HB hb qa0; have n0_ := qO (qB BK101.out hx_ hb); have n2_ := qO (below_step (below_step HB.out hx_) hb); have n3_ := qO (hbox); have n4_ := qO ((qa15 : w.heap.size ≤ gb107)); have n5_ := n4_; have n6_ := qO ((qa64 : gb101 ≠ gb107)); have n7_ := qO (Ne.symm n6_.out); clear BK101; clear HB; have BK101 := n0_; have HB := n2_; have BK107 := n3_; have GW107 := n4_; have GE107 := n5_; have NB101_107 := n6_; have NB107_101 := n7_; clear n0_ n2_ n3_ n4_ n5_ n6_ n7_; clear hx_; clear hb hbox hg; have hnb48 := NB107_101.out; have hnc48 := NB101_107.out; have hcz50_0 : w47.cell? ⟨gb107, 0, none⟩ = some (.int .i64 0) := (blk_cell BK107.out 0).trans rfl; have hcz50_1 : w47.cell? ⟨gb107, 1, none⟩ = some (.int .i64 0) := (blk_cell BK107.out 1).trans rfl; have hcz50_2 : w47.cell? ⟨gb107, 2, none⟩ = some (.string (⟨#[]⟩ : ByteArray)) := (blk_cell BK107.out 2).trans rfl; have hcz50_3 : w47.cell? ⟨gb107, 3, none⟩ = some (.slice none 0 0) := (blk_cell BK107.out 3).trans rfl; have hcz50_4 : w47.cell? ⟨gb107, 4, none⟩ = some (.slice none 0 0) := (blk_cell BK107.out 4).trans rfl; have hfz50_0 := blk_frozen BK107.out 0; have hfz50_1 := blk_frozen BK107.out 1; have hfz50_2 := blk_frozen BK107.out 2; have hfz50_3 := blk_frozen BK107.out 3; have hfz50_4 := blk_frozen BK107.out 4; have hcz52_0 : w47.cell? ⟨gb101, 0, none⟩ = some (.int .i64 rm_3) := (blk_cell BK101.out 0).trans rfl; have hfz52_0 := blk_frozen BK101.out 0) | ((with_reducible refine gate_callee (f := 63) rfl ?_); refine goesL_ (some 60) rfl rfl Try.func63 qa10 rfl #[.agg #[.int .i64 ((rd_T46 l0_4 x52_3).f0), .int .i64 ((rd_T46 l0_4 x52_3).f1), .string ((rd_T46 l0_4 x52_3).f2), .slice A106_3 ((rd_T46 l0_4 x52_3).f3).length c106_3, .slice A106_4 ((rd_T46 l0_4 x52_3).f4).length c106_4], .int .i64 (wrap64 (a1 + 1)), .pointer (some ⟨gb101, 0, none⟩)] rfl qa1 ?_; refine (ih k3 qa92 ((rd_T46 l0_4 x52_3).f0) ((rd_T46 l0_4 x52_3).f1) ((rd_T46 l0_4 x52_3).f2) _ _ ((rd_T46 l0_4 x52_3).f3) _ _ ((rd_T46 l0_4 x52_3).f4) (wrap64 (a1 + 1)) rm_3 gb101 false t109 w _ ?bk GE101.out ?hb HR106_3.out HC106_3.out HR106_4.out HC106_4.out A37.out).mono ?_; (case bk => exact qa28); (case hb => exact qa71); rintro e w45 ⟨rfl, hbk, hb⟩; refine ⟨_, rfl, ?_⟩; clear BK101; clear BK107; clear HB; have BK101 := qO hbk; have HB := qO hb; clear hbk hb))
             go_ret
             exact ⟨qa4, qa31, qa65⟩
           ·rw [if_neg c36] at H
            exact absurd H qa70
          ·rw [if_neg c35] at H
           exact absurd H qa70
         ·rw [if_neg c34] at H
          have c34b0 : decide (x52_3 < (l0_4.length : Int)) = false := decide_eq_false c34; clear c34; simp only [Option.some.injEq, Prod.mk.injEq] at H; obtain ⟨rfl, rfl⟩ := H; have hcz56_0 : wr.cell? ⟨gb101, 0, none⟩ = some (.int .i64 rm_3) := (blk_cell BK101.out 0).trans rfl; have hfz56_0 := blk_frozen BK101.out 0; go_wp2
          go_ret
          exact ⟨qa4, qa31, qa8⟩

def impl_OutOK.f (k : Nat) (a0_0 : Int) (a0_1 : Int) (a0_2 : ByteArray) (l0_3 : List ByteArray) (l0_4 : List (S46)) : Option (Bool) := (impl_Out_okAt.f k a0_0 a0_1 a0_2 l0_3 l0_4 0 4000).bind fun p_ => (some p_.1)
set_option maxHeartbeats 8000000 in
set_option maxRecDepth 100000 in
theorem impl_OutOK.calls (k : Nat) (a0_0 : Int) (a0_1 : Int) (a0_2 : ByteArray) (A0_3 : Option Addr) (c0_3 : Nat) (l0_3 : List ByteArray) (A0_4 : Option Addr) (c0_4 : Nat) (l0_4 : List (S46)) (r : Bool) (w : World) (hr0_3 : Kd.C Kd.string w A0_3 l0_3.length l0_3) (hc0_3 : l0_3.length ≤ c0_3) (hr0_4 : Kd.C k46 w A0_4 l0_4.length l0_4) (hc0_4 : l0_4.length ≤ c0_4) (h : impl_OutOK.f k a0_0 a0_1 a0_2 l0_3 l0_4 = some r) :
  Calls Try.prog 24 #[.agg #[.int .i64 a0_0, .int .i64 a0_1, .string a0_2, .slice A0_3 l0_3.length c0_3, .slice A0_4 l0_4.length c0_4]] w fun e w' => e = .returned (.bool r) ∧ Below w.heap.size w w' := by
 have hu46 := Try.underlying46; have HR0_3 := qO hr0_3; have HC0_3 := qO hc0_3; clear hr0_3 hc0_3; have HR0_4 := qO hr0_4; have HC0_4 := qO hc0_4; clear hr0_4 hc0_4; have HB := qO (Below.refl w.heap.size w); have H : ((impl_Out_okAt.f k a0_0 a0_1 a0_2 l0_3 l0_4 0 4000).bind fun p_ => (some p_.1)) = some r := h; clear h; replace H := Option.bind_eq_some_iff.mp H; obtain ⟨⟨t103, t104⟩, A20, H⟩ := H; replace H : (some t103) = some r := H; have A2 := qO A20; clear A20; obtain rfl := Option.some.inj H
 go_enter Try.func24, Try.ntmps24
 go_wp2_with (first | ((with_reducible refine gate_dst (N := 1) rfl ?_); refine box_event ?hg (N := 1) ?hd (cs := #[.int .i64 a0_0, .int .i64 a0_1, .string a0_2, .slice A0_3 l0_3.length c0_3, .slice A0_4 l0_4.length c0_4]) (t := 46) ?hr ?_; (case hd => rfl); (case hg => rfl); (case hr => exact qa21); intro gb101 hg w3 hbox hb; have hx_ := qHX HB hb qa0; have n0_ := qO (below_step (below_step HB.out hx_) hb); have n1_ := qO (hbox); have n2_ := qO ((qa15 : w.heap.size ≤ gb101)); have n3_ := n2_; clear HB; have HB := n0_; have BK101 := n1_; have GW101 := n2_; have GE101 := n3_; clear n0_ n1_ n2_ n3_; clear hx_; clear hb hbox hg) | ((with_reducible refine gate_dst (N := 3) rfl ?_); refine box_event ?hg (N := 3) ?hd (cs := #[.int .i64 0]) (t := 3) ?hr ?_; (case hd => rfl); (case hg => rfl); (case hr => exact qa21); intro gb102 hg w4 hbox hb; have hx_ := qHX HB hb qa0; have n0_ := qO (qB BK101.out hx_ hb); have n1_ := qO (below_step (below_step HB.out hx_) hb); have n2_ := qO (hbox); have n3_ := qO ((qa15 : w.heap.size ≤ gb102)); have n4_ := n3_; have n5_ := qO ((qa7 : gb101 ≠ gb102)); have n6_ := qO (Ne.symm n5_.out); clear BK101; clear HB; have BK101 := n0_; have HB := n1_; have BK102 := n2_; have GW102 := n3_; have GE102 := n4_; have NB101_102 := n5_; have NB102_101 := n6_; clear n0_ n1_ n2_ n3_ n4_ n5_ n6_; clear hx_; clear hb hbox hg; have hnb5 := NB102_101.out; have hnc5 := NB101_102.out; have hcz6_0 : w4.cell? ⟨gb102, 0, none⟩ = some (.int .i64 0) := (blk_cell BK102.out 0).trans rfl; have hfz6_0 := blk_frozen BK102.out 0; have hcz7_0 : w4.cell? ⟨gb101, 0, none⟩ = some (.int .i64 a0_0) := (blk_cell BK101.out 0).trans rfl; have hcz7_1 : w4.cell? ⟨gb101, 1, none⟩ = some (.int .i64 a0_1) := (blk_cell BK101.out 1).trans rfl; have hcz7_2 : w4.cell? ⟨gb101, 2, none⟩ = some (.string a0_2) := (blk_cell BK101.out 2).trans rfl; have hcz7_3 : w4.cell? ⟨gb101, 3, none⟩ = some (.slice A0_3 l0_3.length c0_3) := (blk_cell BK101.out 3).trans rfl; have hcz7_4 : w4.cell? ⟨gb101, 4, none⟩ = some (.slice A0_4 l0_4.length c0_4) := (blk_cell BK101.out 4).trans rfl; have hfz7_0 := blk_frozen BK101.out 0; have hfz7_1 := blk_frozen BK101.out 1; have hfz7_2 := blk_frozen BK101.out 2; have hfz7_3 := blk_frozen BK101.out 3; have hfz7_4 := blk_frozen BK101.out 4) | ((with_reducible refine gate_callee (f := 63) rfl ?_); refine goesL_ (some 5) rfl rfl Try.func63 qa10 rfl #[.agg #[.int .i64 a0_0, .int .i64 a0_1, .string a0_2, .slice A0_3 l0_3.length c0_3, .slice A0_4 l0_4.length c0_4], .int .i64 0, .pointer (some ⟨gb102, 0, none⟩)] rfl qa1 ?_; refine (impl_Out_okAt.calls k a0_0 a0_1 a0_2 _ _ l0_3 _ _ l0_4 0 4000 gb102 t103 t104 w _ ?bk GE102.out ?hb HR0_3.out HC0_3.out HR0_4.out HC0_4.out A2.out).mono ?_; (case bk => exact (by (with_reducible repeat (first | refine qkN ?_ _ | refine qkD ?_ | refine qkA ?_ _)); refine blk_put (cs := #[.int .i64 0]) ?_ 0 _ rfl; (with_reducible repeat (first | refine qkN ?_ _ | refine qkD ?_ | refine qkA ?_ _)); exact BK102.out)); (case hb => exact (by repeat (first | (with_reducible first | exact HB.out | apply qbA | apply qbN | apply qbD | refine qbS ?_ GE101.out | refine qbS ?_ GE102.out) | exact HB.out))); rintro e w8 ⟨rfl, hbk, hb⟩; refine ⟨_, rfl, ?_⟩; clear BK101; clear BK102; clear HB; have HB := qO hb; clear hbk hb))
 go_ret
 exact ⟨qa4, qa8⟩


def slices_Equal_string_string.l0 : Nat → List ByteArray → List ByteArray → Int → Int → Option (Bool)
 | 0, _, _, _, _ => none
 | k + 1, x0, x1, x12, x13 => if x13 < x12 then (if 0 ≤ x13 then (if x13 < (x0.length : Int) then (if x13 < (x1.length : Int) then (if (rdOf ByteArray.empty x0 x13).toList = (rdOf ByteArray.empty x1 x13).toList then (slices_Equal_string_string.l0 k x0 x1 x12 (wrap64 (x13 + 1))) else (some false)) else (none)) else (none)) else (none)) else (some true)
def slices_Equal_string_string.f (k : Nat) (l0 : List ByteArray) (l1 : List ByteArray) : Option (Bool) := if (l0.length : Int) = (l1.length : Int) then (slices_Equal_string_string.l0 k l0 l1 (l0.length : Int) 0) else (some false)
set_option maxHeartbeats 8000000 in
set_option maxRecDepth 100000 in
theorem slices_Equal_string_string.calls (k : Nat) (A0 : Option Addr) (c0 : Nat) (l0 : List ByteArray) (A1 : Option Addr) (c1 : Nat) (l1 : List ByteArray) (r : Bool) (w : World) (hr0 : Kd.C Kd.string w A0 l0.length l0) (hc0 : l0.length ≤ c0) (hr1 : Kd.C Kd.string w A1 l1.length l1) (hc1 : l1.length ≤ c1) (h : slices_Equal_string_string.f k l0 l1 = some r) :
  Calls Try.prog 105 #[.slice A0 l0.length c0, .slice A1 l1.length c1] w fun e w' => e = .returned (.bool r) ∧ Drawn0 w w' := by
 have HR0 := qO hr0; have HC0 := qO hc0; clear hr0 hc0; have HR1 := qO hr1; have HC1 := qO hc1; clear hr1 hc1; have H : (if (l0.length : Int) = (l1.length : Int) then (slices_Equal_string_string.l0 k l0 l1 (l0.length : Int) 0) else (some false)) = some r := h; clear h
 by_cases c3 : (l0.length : Int) = (l1.length : Int)
 ·rw [if_pos c3] at H
  have c3b0 : ((l0.length : Int) == (l1.length : Int)) = true := beq_iff_eq.mpr c3; have c3b1 : ((l0.length : Int) != (l1.length : Int)) = false := bne_eq_false_iff_eq.mpr c3; have c3b2 : (l0.length == l1.length) = true := by first | simpa using c3 | (simp at c3 ⊢; omega)
  clear c3; have H' := qO H; clear H
  go_enter Try.func105, Try.ntmps105
  go_wp2
  repeat (go_quiet (fail); try go_wp2)
  go_loopg [13] k (fun kq v13 w' => ∃ (x13_1 : Int), v13 = .int .i64 x13_1 ∧ Aside0 (slices_Equal_string_string.l0 kq l0 l1 (l0.length : Int) x13_1 = some r) ∧ Aside0 (kq ≤ k) ∧ Drawn0 w w')
  case atStart => exact ⟨(0), qa5, H', ⟨Nat.le_refl _⟩, qa13⟩
  case round =>
   clear H'
   try clear c1
   try clear p2
   try clear c3
   try clear c3b0
   try clear c3b1
   try clear c3b2
   obtain ⟨x13_1, rfl, HA, HK1, ⟨m1, rfl⟩⟩ := hrel
   cases gk with
   | zero => exact absurd HA.out (by simp [slices_Equal_string_string.l0])
   | succ k1 =>
    have H := HA.out; clear HA; simp only [slices_Equal_string_string.l0] at H
    by_cases c4 : x13_1 < (l0.length : Int)
    ·rw [if_pos c4] at H
     have c4b0 : decide (x13_1 < (l0.length : Int)) = true := decide_eq_true c4; clear c4
     by_cases c5 : 0 ≤ x13_1
     ·rw [if_pos c5] at H
      have c5b0 : decide (0 ≤ x13_1) = true := decide_eq_true c5; clear c5
      by_cases c6 : x13_1 < (l0.length : Int)
      ·rw [if_pos c6] at H
       have c6b0 : decide (x13_1 < (l0.length : Int)) = true := decide_eq_true c6; clear c6
       by_cases c7 : x13_1 < (l1.length : Int)
       ·rw [if_pos c7] at H
        have c7b0 : decide (x13_1 < (l1.length : Int)) = true := decide_eq_true c7; clear c7
        by_cases c8 : (rdOf ByteArray.empty l0 x13_1).toList = (rdOf ByteArray.empty l1 x13_1).toList
        ·rw [if_pos c8] at H
         have c8b0 : ((rdOf ByteArray.empty l0 x13_1).toList == (rdOf ByteArray.empty l1 x13_1).toList) = true := beq_iff_eq.mpr c8; have c8b1 : ((rdOf ByteArray.empty l0 x13_1).toList != (rdOf ByteArray.empty l1 x13_1).toList) = false := bne_eq_false_iff_eq.mpr c8; clear c8; have H' := qO H; clear H; have p101 : 0 ≤ (x13_1 : Int) := qT qa6; have q101 : x13_1 < (l0.length : Int) := qT qa6; obtain ⟨ad101, e101, hx101_0⟩ := Kd.at_string HR0.out x13_1 p101 q101
         cases e101
         replace p101 := eq_true p101; replace q101 := eq_true q101; have p102 : 0 ≤ (x13_1 : Int) := qT qa6; have q102 : x13_1 < (l1.length : Int) := qT qa6; obtain ⟨ad102, e102, hx102_0⟩ := Kd.at_string HR1.out x13_1 p102 q102
         cases e102
         replace p102 := eq_true p102; replace q102 := eq_true q102; go_wp2
         repeat (go_quiet (fail); try go_wp2)
         go_roundg k1
         case measure => have := HK1.out; omega
         case rel => exact ⟨(wrap64 (x13_1 + 1)), qa5, H', ⟨qa66⟩, qa13⟩
        ·rw [if_neg c8] at H
         have c8b0 : ((rdOf ByteArray.empty l0 x13_1).toList == (rdOf ByteArray.empty l1 x13_1).toList) = false := beq_eq_false_iff_ne.mpr c8; have c8b1 : ((rdOf ByteArray.empty l0 x13_1).toList != (rdOf ByteArray.empty l1 x13_1).toList) = true := bne_iff_ne.mpr c8; obtain rfl := Option.some.inj H; have p101 : 0 ≤ (x13_1 : Int) := qT qa6; have q101 : x13_1 < (l0.length : Int) := qT qa6; obtain ⟨ad101, e101, hx101_0⟩ := Kd.at_string HR0.out x13_1 p101 q101
         cases e101
         replace p101 := eq_true p101; replace q101 := eq_true q101; have p102 : 0 ≤ (x13_1 : Int) := qT qa6; have q102 : x13_1 < (l1.length : Int) := qT qa6; obtain ⟨ad102, e102, hx102_0⟩ := Kd.at_string HR1.out x13_1 p102 q102
         cases e102
         replace p102 := eq_true p102; replace q102 := eq_true q102; go_wp2
         repeat (go_quiet (fail); try go_wp2)
         go_ret
         exact ⟨qa5, qa13⟩
       ·rw [if_neg c7] at H
        exact absurd H qa70
      ·rw [if_neg c6] at H
       exact absurd H qa70
     ·rw [if_neg c5] at H
      exact absurd H qa70
    ·rw [if_neg c4] at H
     have c4b0 : decide (x13_1 < (l0.length : Int)) = false := decide_eq_false c4; clear c4; obtain rfl := Option.some.inj H; go_wp2
     repeat (go_quiet (fail); try go_wp2)
     go_ret
     exact ⟨qa5, qa13⟩
 ·rw [if_neg c3] at H
  have c3b0 : ((l0.length : Int) == (l1.length : Int)) = false := beq_eq_false_iff_ne.mpr c3; have c3b1 : ((l0.length : Int) != (l1.length : Int)) = true := bne_iff_ne.mpr c3; have c3b2 : (l0.length == l1.length) = false := by first | simpa using c3 | (simp at c3 ⊢; omega)
  obtain rfl := Option.some.inj H
  go_enter Try.func105, Try.ntmps105
  go_wp2
  repeat (go_quiet (fail); try go_wp2)
  go_ret
  exact ⟨qa5, qa13⟩


/-- Two lists held against each other, place by place. -/
def impl_Out.all (q : (S46) → (S46) → Option Bool) : List (S46) → List (S46) → Option Bool
 | x :: xs, y :: ys => (q x y).bind fun b => if b = true then impl_Out.all q xs ys else some false
 | _, _ => some true
def impl_Out.fq (q : (S46) → (S46) → Option Bool) (l0 l1 : List (S46)) : Option Bool := if l0.length = l1.length then impl_Out.all q l0 l1 else some false
theorem impl_Out.all_le (q q' : (S46) → (S46) → Option Bool) (hq : ∀ x y, LeO (q x y) (q' x y)) : ∀ l0 l1, LeO (impl_Out.all q l0 l1) (impl_Out.all q' l0 l1)
 | [], _ => fun r h => by simpa [impl_Out.all] using h
 | _ :: _, [] => fun r h => by simpa [impl_Out.all] using h
 | x :: xs, y :: ys => fun r h => by
  simp only [impl_Out.all] at h ⊢; obtain ⟨b, hb, h⟩ := Option.bind_eq_some_iff.mp h; refine Option.bind_eq_some_iff.mpr ⟨b, hq x y b hb, ?_⟩
  cases b
  ·simpa using h
  ·simpa using impl_Out.all_le q q' hq xs ys r (by simpa using h)
theorem impl_Out.fq_le (q q' : (S46) → (S46) → Option Bool) (hq : ∀ x y, LeO (q x y) (q' x y)) (l0 l1 : List (S46)) : LeO (impl_Out.fq q l0 l1) (impl_Out.fq q' l0 l1) := by
 unfold impl_Out.fq
 by_cases e : l0.length = l1.length
 ·rw [if_pos e, if_pos e]; exact impl_Out.all_le q q' hq l0 l1
 ·rw [if_neg e, if_neg e]; exact fun r h => h
theorem impl_Out.step (q : (S46) → (S46) → Option Bool) (l0 l1 : List (S46)) (kk : Nat) (r : Bool) (h0 : kk < l0.length) (h1 : kk < l1.length) (x y : (S46)) (hx : l0[kk]? = some x) (hy : l1[kk]? = some y) (h : impl_Out.all q (l0.drop kk) (l1.drop kk) = some r) :
  ∃ b, q x y = some b ∧ (b = true → impl_Out.all q (l0.drop (kk + 1)) (l1.drop (kk + 1)) = some r) ∧ (b = false → r = false) := by
 have ex : l0.drop kk = x :: l0.drop (kk + 1) := by rw [List.drop_eq_getElem_cons h0]; rw [List.getElem?_eq_getElem h0] at hx; rw [Option.some.inj hx]
 have ey : l1.drop kk = y :: l1.drop (kk + 1) := by rw [List.drop_eq_getElem_cons h1]; rw [List.getElem?_eq_getElem h1] at hy; rw [Option.some.inj hy]
 rw [ex, ey] at h; simp only [impl_Out.all] at h; obtain ⟨b, hb, h⟩ := Option.bind_eq_some_iff.mp h; refine ⟨b, hb, fun e => ?_, fun e => ?_⟩
 ·subst e; simpa using h
 ·subst e; simpa using h.symm
theorem impl_Out.last (q : (S46) → (S46) → Option Bool) (l0 l1 : List (S46)) (kk : Nat) (r : Bool) (h0 : ¬ kk < l0.length) (h : impl_Out.all q (l0.drop kk) (l1.drop kk) = some r) : r = true := by
 rw [List.drop_of_length_le qa22] at h
 simpa [impl_Out.all] using h.symm
set_option maxHeartbeats 4000000 in
set_option maxRecDepth 100000 in
theorem impl_Out.callsP (A0 : Option Addr) (c0 : Nat) (l0 : List (S46)) (A1 : Option Addr) (c1 : Nat) (l1 : List (S46)) (g : Nat) (cb : Array Value) (q : (S46) → (S46) → Option Bool) (r : Bool) (w : World) (eg : ∀ args w, (callFunc g args).run Try.prog w = .ok (.enter g args) w) (hr0 : Kd.C k46 w A0 l0.length l0) (hr1 : Kd.C k46 w A1 l1.length l1)
  (hp : ∀ (W : World) (x y : (S46)) (E3 : Option Addr) (e3 : Nat) (E4 : Option Addr) (e4 : Nat) (F3 : Option Addr) (f3 : Nat) (F4 : Option Addr) (f4 : Nat) (b : Bool), Below w.heap.size w W → x.f3.length ≤ e3 → Kd.C Kd.string W E3 x.f3.length x.f3 → x.f4.length ≤ e4 → Kd.C k46 W E4 x.f4.length x.f4 → y.f3.length ≤ f3 → Kd.C Kd.string W F3 y.f3.length y.f3 → y.f4.length ≤ f4 → Kd.C k46 W F4 y.f4.length y.f4 → q x y = some b → Calls Try.prog g (#[.agg #[.int .i64 x.f0, .int .i64 x.f1, .string x.f2, .slice E3 x.f3.length e3, .slice E4 x.f4.length e4], .agg #[.int .i64 y.f0, .int .i64 y.f1, .string y.f2, .slice F3 y.f3.length f3, .slice F4 y.f4.length f4]] ++ cb) W fun e w' => e = .returned (.bool b) ∧ Below W.heap.size W w') (h : impl_Out.fq q l0 l1 = some r) :
  Calls Try.prog 106 #[.slice A0 l0.length c0, .slice A1 l1.length c1, .func (.func g) #[] cb] w fun e w' => e = .returned (.bool r) ∧ Below w.heap.size w w' := by
 have hlen := hr0.2.1; have hlen1 := hr1.2.1; have HR := qO hr0; have HS := qO hr1; have HP := qO hp
 unfold impl_Out.fq at h
 clear hr0 hr1 hp; have isagg := Try.isAgg46
 by_cases hll : l0.length = l1.length
 ·rw [if_pos hll] at h
  have HA := qO h; have HL := qO hll; have hb0 : ((l0.length : Int) == (l1.length : Int)) = true := by rw [hll]; simp
  have hb1 : ((l0.length : Int) != (l1.length : Int)) = false := by rw [hll]; simp
  clear h hll
  go_enter Try.func106, Try.ntmps106
  go_wp2
  go_loopg [17] l0.length (fun gg s17 wr => ∃ kk : Nat, kk ≤ l0.length ∧ l0.length - kk ≤ gg ∧ s17 = .int .i64 kk ∧ Aside0 (Below w.heap.size w wr) ∧ Aside0 (impl_Out.all q (l0.drop kk) (l1.drop kk) = some r))
  case atStart => exact ⟨0, Nat.zero_le _, qa22, rfl, ⟨Below.refl _ w⟩, HA⟩
  case round =>
   clear HA hb0 hb1; obtain ⟨kk, hkk, hg, rfl, BW, HA⟩ := hrel
   by_cases hlt : kk < l0.length
   ·have hlt1 : kk < l1.length := by have := HL.out; omega
    have hltz : (kk : Int) < (l0.length : Int) := by omega
    have hlty : (kk : Int) < (l1.length : Int) := by omega
    obtain ⟨adE, E3, e3, E4, e4, eE, hx0, hx1, hx2, hx3, hx4, hxl3, hxi3, hxl4, hxi4⟩ := at_T46 HR.out (kk : Int) qa22 hltz; obtain ⟨adF, F3, f3, F4, f4, eF, hy0, hy1, hy2, hy3, hy4, hyl3, hyi3, hyl4, hyi4⟩ := at_T46 HS.out (kk : Int) qa22 hlty
    cases eE
    cases eF
    replace hx0 := (BW.out.cell (qL w _ hx0)).trans hx0; simp only [Int.toNat_natCast] at hx0; replace hx1 := (BW.out.cell (qL w _ hx1)).trans hx1; simp only [Int.toNat_natCast] at hx1; replace hx2 := (BW.out.cell (qL w _ hx2)).trans hx2; simp only [Int.toNat_natCast] at hx2; replace hx3 := (BW.out.cell (qL w _ hx3)).trans hx3; simp only [Int.toNat_natCast] at hx3; replace hx4 := (BW.out.cell (qL w _ hx4)).trans hx4; simp only [Int.toNat_natCast] at hx4; replace hy0 := (BW.out.cell (qL w _ hy0)).trans hy0; simp only [Int.toNat_natCast] at hy0; replace hy1 := (BW.out.cell (qL w _ hy1)).trans hy1; simp only [Int.toNat_natCast] at hy1; replace hy2 := (BW.out.cell (qL w _ hy2)).trans hy2; simp only [Int.toNat_natCast] at hy2; replace hy3 := (BW.out.cell (qL w _ hy3)).trans hy3; simp only [Int.toNat_natCast] at hy3; replace hy4 := (BW.out.cell (qL w _ hy4)).trans hy4; simp only [Int.toNat_natCast] at hy4
    have hx : l0[kk]? = some (rd_T46 l0 (kk : Int)) := by
     rw [List.getElem?_eq_getElem hlt]
     show some l0[kk] = some (l0.getD (kk : Int).toNat _)
     rw [Int.toNat_natCast, List.getD_eq_getElem?_getD, List.getElem?_eq_getElem hlt]
     rfl
    have hy : l1[kk]? = some (rd_T46 l1 (kk : Int)) := by
     rw [List.getElem?_eq_getElem hlt1]
     show some l1[kk] = some (l1.getD (kk : Int).toNat _)
     rw [Int.toNat_natCast, List.getD_eq_getElem?_getD, List.getElem?_eq_getElem hlt1]
     rfl
    obtain ⟨b, hq, hs1, hs2⟩ := impl_Out.step q l0 l1 kk r hlt hlt1 _ _ hx hy HA.out; have hcall := fun W (hb : Below w.heap.size w W) => HP.out W (rd_T46 l0 (kk : Int)) (rd_T46 l1 (kk : Int)) E3 e3 E4 e4 F3 f3 F4 f4 b hb hxl3 (Kd.C_below hxi3 hb) hxl4 (Kd.C_below hxi4 hb) hyl3 (Kd.C_below hyi3 hb) hyl4 (Kd.C_below hyi4 hb) hq
    have HC := qO hcall; have HT := qO hs1; have HF := qO hs2; clear hcall hs1 hs2 hq hx hy; clear hxl3 hxi3 hxl4 hxi4 hyl3 hyi3 hyl4 hyi4; generalize rd_T46 l0 (kk : Int) = x at HC hx0 hx1 hx2 hx3 hx4; generalize rd_T46 l1 (kk : Int) = y at HC hy0 hy1 hy2 hy3 hy4; clear HA; have fy0 := fun o : Obj => pw_cell_below (qbA (Below.refl wr.heap.size wr) o) hy0
    have fy1 := fun o : Obj => pw_cell_below (qbA (Below.refl wr.heap.size wr) o) hy1
    have fy2 := fun o : Obj => pw_cell_below (qbA (Below.refl wr.heap.size wr) o) hy2
    have fy3 := fun o : Obj => pw_cell_below (qbA (Below.refl wr.heap.size wr) o) hy3
    have fy4 := fun o : Obj => pw_cell_below (qbA (Below.refl wr.heap.size wr) o) hy4
    cases b with
    | true =>
     have HT1 := qO (HT.out rfl); clear HT HF
     go_wp2_with (go_at_fn g; refine (HC.out _ (qbA (qbA BW.out _) _)).mono ?_; rintro e w' ⟨rfl, hb'⟩)
     go_roundg (l0.length - (kk + 1))
     case measure => omega
     case rel => exact ⟨kk + 1, qa22, qa22, by go_num, ⟨below_step (qbA (qbA BW.out _) _) hb'⟩, HT1⟩
    | false =>
     have HF1 := qO (HF.out rfl); clear HT HF
     go_wp2_with (go_at_fn g; refine (HC.out _ (qbA (qbA BW.out _) _)).mono ?_; rintro e w' ⟨rfl, hb'⟩)
     go_ret
     exact ⟨by rw [HF1.out]; rfl, below_step (qbA (qbA BW.out _) _) hb'⟩
   ·have hltz : ¬ (kk : Int) < (l0.length : Int) := by omega
    have HA2 := qO (impl_Out.last q l0 l1 kk r hlt HA.out); clear HA; go_wp2
    go_ret
    exact ⟨by rw [HA2.out]; rfl, BW.out⟩
 ·rw [if_neg hll] at h
  obtain rfl := Option.some.inj h; have hll2 : ¬ (l0.length : Int) = (l1.length : Int) := by omega
  have hb0 : ((l0.length : Int) == (l1.length : Int)) = false := beq_eq_false_iff_ne.mpr hll2; have hb1 : ((l0.length : Int) != (l1.length : Int)) = true := bne_iff_ne.mpr hll2; clear h hll hll2
  go_enter Try.func106, Try.ntmps106
  go_wp2
  go_ret
  exact ⟨rfl, Below.refl _ _⟩


def impl_sameOut.f : Nat → Int → Int → ByteArray → List ByteArray → List (S46) → Int → Int → ByteArray → List ByteArray → List (S46) → Option (Bool)
 | 0, _, _, _, _, _, _, _, _, _, _ => none
 | k + 1, a0_0, a0_1, a0_2, l0_3, l0_4, a1_0, a1_1, a1_2, l1_3, l1_4 => if a0_0 = a1_0 then (if a0_1 = a1_1 then (if a0_2.toList = a1_2.toList then ((slices_Equal_string_string.f k l0_3 l1_3).bind fun t103 => (if t103 = true then ((impl_Out.fq (fun x y => impl_sameOut.f k (x.f0) (x.f1) (x.f2) (x.f3) (x.f4) (y.f0) (y.f1) (y.f2) (y.f3) (y.f4)) l0_4 l1_4).bind fun t104 => (some t104)) else (some false))) else (some false)) else (some false)) else (some false)
def eqf106_67.f (k : Nat) (l0 l1 : List (S46)) : Option Bool := impl_Out.fq (fun x y => impl_sameOut.f k (x.f0) (x.f1) (x.f2) (x.f3) (x.f4) (y.f0) (y.f1) (y.f2) (y.f3) (y.f4)) l0 l1
theorem eqf106_67.calls_of (k : Nat) (ihs : ∀ (a0_0 : Int) (a0_1 : Int) (a0_2 : ByteArray) (A0_3 : Option Addr) (c0_3 : Nat) (l0_3 : List ByteArray) (A0_4 : Option Addr) (c0_4 : Nat) (l0_4 : List (S46)) (a1_0 : Int) (a1_1 : Int) (a1_2 : ByteArray) (A1_3 : Option Addr) (c1_3 : Nat) (l1_3 : List ByteArray) (A1_4 : Option Addr) (c1_4 : Nat) (l1_4 : List (S46)) (r : Bool) (w : World) (hr0_3 : Kd.C Kd.string w A0_3 l0_3.length l0_3) (hc0_3 : l0_3.length ≤ c0_3) (hr0_4 : Kd.C k46 w A0_4 l0_4.length l0_4) (hc0_4 : l0_4.length ≤ c0_4) (hr1_3 : Kd.C Kd.string w A1_3 l1_3.length l1_3) (hc1_3 : l1_3.length ≤ c1_3) (hr1_4 : Kd.C k46 w A1_4 l1_4.length l1_4) (hc1_4 : l1_4.length ≤ c1_4) (h : impl_sameOut.f k a0_0 a0_1 a0_2 l0_3 l0_4 a1_0 a1_1 a1_2 l1_3 l1_4 = some r),
  Calls Try.prog 67 #[.agg #[.int .i64 a0_0, .int .i64 a0_1, .string a0_2, .slice A0_3 l0_3.length c0_3, .slice A0_4 l0_4.length c0_4], .agg #[.int .i64 a1_0, .int .i64 a1_1, .string a1_2, .slice A1_3 l1_3.length c1_3, .slice A1_4 l1_4.length c1_4]] w fun e w' => e = .returned (.bool r) ∧ Below w.heap.size w w') (A0 : Option Addr) (c0 : Nat) (l0 : List (S46)) (A1 : Option Addr) (c1 : Nat) (l1 : List (S46)) (r : Bool) (w : World) (hr0 : Kd.C k46 w A0 l0.length l0) (hc0 : l0.length ≤ c0) (hr1 : Kd.C k46 w A1 l1.length l1) (hc1 : l1.length ≤ c1) (h : eqf106_67.f k l0 l1 = some r) :
  Calls Try.prog 106 #[.slice A0 l0.length c0, .slice A1 l1.length c1, .func (.func 67) #[] #[]] w fun e w' => e = .returned (.bool r) ∧ Below w.heap.size w w' := by
 have eg : ∀ args w, (callFunc 67 args).run Try.prog w = .ok (.enter 67 args) w := enters_of Try.func67 qa10 rfl
 exact impl_Out.callsP A0 c0 l0 A1 c1 l1 67 #[] (fun x y => impl_sameOut.f k (x.f0) (x.f1) (x.f2) (x.f3) (x.f4) (y.f0) (y.f1) (y.f2) (y.f3) (y.f4)) r w eg hr0 hr1 (fun W x y E3 e3 E4 e4 F3 f3 F4 f4 b _ hx3 gx3 hx4 gx4 hy3 gy3 hy4 gy4 hq => ihs (x.f0) (x.f1) (x.f2) E3 e3 (x.f3) E4 e4 (x.f4) (y.f0) (y.f1) (y.f2) F3 f3 (y.f3) F4 f4 (y.f4) b W gx3 hx3 gx4 hx4 gy3 hy3 gy4 hy4 hq) h
set_option maxHeartbeats 8000000 in
set_option maxRecDepth 100000 in
theorem impl_sameOut.calls (k : Nat) : ∀ (a0_0 : Int) (a0_1 : Int) (a0_2 : ByteArray) (A0_3 : Option Addr) (c0_3 : Nat) (l0_3 : List ByteArray) (A0_4 : Option Addr) (c0_4 : Nat) (l0_4 : List (S46)) (a1_0 : Int) (a1_1 : Int) (a1_2 : ByteArray) (A1_3 : Option Addr) (c1_3 : Nat) (l1_3 : List ByteArray) (A1_4 : Option Addr) (c1_4 : Nat) (l1_4 : List (S46)) (r : Bool) (w : World) (hr0_3 : Kd.C Kd.string w A0_3 l0_3.length l0_3) (hc0_3 : l0_3.length ≤ c0_3) (hr0_4 : Kd.C k46 w A0_4 l0_4.length l0_4) (hc0_4 : l0_4.length ≤ c0_4) (hr1_3 : Kd.C Kd.string w A1_3 l1_3.length l1_3) (hc1_3 : l1_3.length ≤ c1_3) (hr1_4 : Kd.C k46 w A1_4 l1_4.length l1_4) (hc1_4 : l1_4.length ≤ c1_4) (h : impl_sameOut.f k a0_0 a0_1 a0_2 l0_3 l0_4 a1_0 a1_1 a1_2 l1_3 l1_4 = some r),
  Calls Try.prog 67 #[.agg #[.int .i64 a0_0, .int .i64 a0_1, .string a0_2, .slice A0_3 l0_3.length c0_3, .slice A0_4 l0_4.length c0_4], .agg #[.int .i64 a1_0, .int .i64 a1_1, .string a1_2, .slice A1_3 l1_3.length c1_3, .slice A1_4 l1_4.length c1_4]] w fun e w' => e = .returned (.bool r) ∧ Below w.heap.size w w' := by
 induction k using Nat.strongRecOn with
 | _ k ih =>
 intro a0_0 a0_1 a0_2 A0_3 c0_3 l0_3 A0_4 c0_4 l0_4 a1_0 a1_1 a1_2 A1_3 c1_3 l1_3 A1_4 c1_4 l1_4 r w hr0_3 hc0_3 hr0_4 hc0_4 hr1_3 hc1_3 hr1_4 hc1_4 h
 cases k with
 | zero => exact absurd h (by simp [impl_sameOut.f])
 | succ k =>
 simp only [impl_sameOut.f] at h; have hu46 := Try.underlying46; have HR0_3 := qO hr0_3; have HC0_3 := qO hc0_3; clear hr0_3 hc0_3; have HR0_4 := qO hr0_4; have HC0_4 := qO hc0_4; clear hr0_4 hc0_4; have HR1_3 := qO hr1_3; have HC1_3 := qO hc1_3; clear hr1_3 hc1_3; have HR1_4 := qO hr1_4; have HC1_4 := qO hc1_4; clear hr1_4 hc1_4; have HB := qO (Below.refl w.heap.size w); have H : (if a0_0 = a1_0 then (if a0_1 = a1_1 then (if a0_2.toList = a1_2.toList then ((slices_Equal_string_string.f k l0_3 l1_3).bind fun t103 => (if t103 = true then ((eqf106_67.f k l0_4 l1_4).bind fun t104 => (some t104)) else (some false))) else (some false)) else (some false)) else (some false)) = some r := h; clear h
 by_cases c3 : a0_0 = a1_0
 ·rw [if_pos c3] at H
  have c3b0 : (a0_0 == a1_0) = true := beq_iff_eq.mpr c3; have c3b1 : (a0_0 != a1_0) = false := bne_eq_false_iff_eq.mpr c3; clear c3
  by_cases c4 : a0_1 = a1_1
  ·rw [if_pos c4] at H
   have c4b0 : (a0_1 == a1_1) = true := beq_iff_eq.mpr c4; have c4b1 : (a0_1 != a1_1) = false := bne_eq_false_iff_eq.mpr c4; clear c4
   by_cases c5 : a0_2.toList = a1_2.toList
   ·rw [if_pos c5] at H
    have c5b0 : (a0_2.toList == a1_2.toList) = true := beq_iff_eq.mpr c5; have c5b1 : (a0_2.toList != a1_2.toList) = false := bne_eq_false_iff_eq.mpr c5; clear c5; replace H := Option.bind_eq_some_iff.mp H; obtain ⟨t103, A60, H⟩ := H; replace H : (if t103 = true then ((eqf106_67.f k l0_4 l1_4).bind fun t104 => (some t104)) else (some false)) = some r := H; have A6 := qO A60; clear A60
    by_cases c7 : t103 = true
    ·subst c7
     have H1 : ((eqf106_67.f k l0_4 l1_4).bind fun t104 => (some t104)) = some r := by rw [if_pos rfl] at H; exact H
     clear H; have H := H1; clear H1; replace H := Option.bind_eq_some_iff.mp H; obtain ⟨t104, A80, H⟩ := H; replace H : (some t104) = some r := H; have A8 := qO A80; clear A80; obtain rfl := Option.some.inj H
     go_enter Try.func67, Try.ntmps67
     go_wp2_with (first | ((with_reducible refine gate_dst (N := 2) rfl ?_); refine box_event ?hg (N := 2) ?hd (cs := #[.int .i64 a0_0, .int .i64 a0_1, .string a0_2, .slice A0_3 l0_3.length c0_3, .slice A0_4 l0_4.length c0_4]) (t := 46) ?hr ?_; (case hd => rfl); (case hg => rfl); (case hr => exact qa21); intro gb101 hg w9 hbox hb; have hx_ := qHX HB hb qa0; have n0_ := qO (below_step (below_step HB.out hx_) hb); have n1_ := qO (hbox); have n2_ := qO ((qa15 : w.heap.size ≤ gb101)); have n3_ := n2_; clear HB; have HB := n0_; have BK101 := n1_; have GW101 := n2_; have GE101 := n3_; clear n0_ n1_ n2_ n3_; clear hx_; clear hb hbox hg) | ((with_reducible refine gate_dst (N := 3) rfl ?_); refine box_event ?hg (N := 3) ?hd (cs := #[.int .i64 a1_0, .int .i64 a1_1, .string a1_2, .slice A1_3 l1_3.length c1_3, .slice A1_4 l1_4.length c1_4]) (t := 46) ?hr ?_; (case hd => rfl); (case hg => rfl); (case hr => exact qa21); intro gb102 hg w10 hbox hb; have hx_ := qHX HB hb qa0; have n0_ := qO (qB BK101.out hx_ hb); have n1_ := qO (below_step (below_step HB.out hx_) hb); have n2_ := qO (hbox); have n3_ := qO ((qa15 : w.heap.size ≤ gb102)); have n4_ := n3_; have n5_ := qO ((qa7 : gb101 ≠ gb102)); have n6_ := qO (Ne.symm n5_.out); clear BK101; clear HB; have BK101 := n0_; have HB := n1_; have BK102 := n2_; have GW102 := n3_; have GE102 := n4_; have NB101_102 := n5_; have NB102_101 := n6_; clear n0_ n1_ n2_ n3_ n4_ n5_ n6_; clear hx_; clear hb hbox hg; have hnb11 := NB101_102.out; have hnc11 := NB102_101.out; have hcz12_0 : w10.cell? ⟨gb101, 0, none⟩ = some (.int .i64 a0_0) := (blk_cell BK101.out 0).trans rfl; have hcz12_1 : w10.cell? ⟨gb101, 1, none⟩ = some (.int .i64 a0_1) := (blk_cell BK101.out 1).trans rfl; have hcz12_2 : w10.cell? ⟨gb101, 2, none⟩ = some (.string a0_2) := (blk_cell BK101.out 2).trans rfl; have hcz12_3 : w10.cell? ⟨gb101, 3, none⟩ = some (.slice A0_3 l0_3.length c0_3) := (blk_cell BK101.out 3).trans rfl; have hcz12_4 : w10.cell? ⟨gb101, 4, none⟩ = some (.slice A0_4 l0_4.length c0_4) := (blk_cell BK101.out 4).trans rfl; have hfz12_0 := blk_frozen BK101.out 0; have hfz12_1 := blk_frozen BK101.out 1; have hfz12_2 := blk_frozen BK101.out 2; have hfz12_3 := blk_frozen BK101.out 3; have hfz12_4 := blk_frozen BK101.out 4; have hcz13_0 : w10.cell? ⟨gb102, 0, none⟩ = some (.int .i64 a1_0) := (blk_cell BK102.out 0).trans rfl; have hcz13_1 : w10.cell? ⟨gb102, 1, none⟩ = some (.int .i64 a1_1) := (blk_cell BK102.out 1).trans rfl; have hcz13_2 : w10.cell? ⟨gb102, 2, none⟩ = some (.string a1_2) := (blk_cell BK102.out 2).trans rfl; have hcz13_3 : w10.cell? ⟨gb102, 3, none⟩ = some (.slice A1_3 l1_3.length c1_3) := (blk_cell BK102.out 3).trans rfl; have hcz13_4 : w10.cell? ⟨gb102, 4, none⟩ = some (.slice A1_4 l1_4.length c1_4) := (blk_cell BK102.out 4).trans rfl; have hfz13_0 := blk_frozen BK102.out 0; have hfz13_1 := blk_frozen BK102.out 1; have hfz13_2 := blk_frozen BK102.out 2; have hfz13_3 := blk_frozen BK102.out 3; have hfz13_4 := blk_frozen BK102.out 4) | (go_at_call 105; (with_reducible refine (slices_Equal_string_string.calls k _ _ l0_3 _ _ l1_3 true _ ?side1 ?side2 ?side3 ?side4 A6.out).mono ?_); (case side1 => exact qa14); (case side2 => exact HC0_3.out); (case side3 => exact qa18); (case side4 => exact HC1_3.out); rintro e w' ⟨rfl, ⟨nd, rfl⟩⟩) | (go_at_call 106; (with_reducible refine (eqf106_67.calls_of k (ih k qa22) _ _ l0_4 _ _ l1_4 t104 _ ?side1 ?side2 ?side3 ?side4 A8.out).mono ?_); (case side1 => exact qa40); (case side2 => exact HC0_4.out); (case side3 => exact qa41); (case side4 => exact HC1_4.out); rintro e w14 ⟨rfl, hb⟩; have hx_ := qHX HB hb qa0; have n0_ := qO (qB BK101.out hx_ hb); have n1_ := qO (qB BK102.out hx_ hb); have n2_ := qO (below_step (below_step HB.out hx_) hb); clear BK101; clear BK102; clear HB; have BK101 := n0_; have BK102 := n1_; have HB := n2_; clear n0_ n1_ n2_; clear hx_; (try clear hb); (try clear hb2); (try clear hk); (try clear hi)))
     go_ret
     exact ⟨qa4, qa8⟩
    ·replace c7 := Bool.eq_false_iff.mpr c7
     subst c7; have H1 : (some false) = some r := by rw [if_neg (show ¬ (false = true) by decide)] at H; exact H
     clear H; have H := H1; clear H1; obtain rfl := Option.some.inj H
     go_enter Try.func67, Try.ntmps67
     go_wp2_with (first | ((with_reducible refine gate_dst (N := 2) rfl ?_); refine box_event ?hg (N := 2) ?hd (cs := #[.int .i64 a0_0, .int .i64 a0_1, .string a0_2, .slice A0_3 l0_3.length c0_3, .slice A0_4 l0_4.length c0_4]) (t := 46) ?hr ?_; (case hd => rfl); (case hg => rfl); (case hr => exact qa21); intro gb101 hg w15 hbox hb; have hx_ := qHX HB hb qa0; have n0_ := qO (below_step (below_step HB.out hx_) hb); have n1_ := qO (hbox); have n2_ := qO ((qa15 : w.heap.size ≤ gb101)); have n3_ := n2_; clear HB; have HB := n0_; have BK101 := n1_; have GW101 := n2_; have GE101 := n3_; clear n0_ n1_ n2_ n3_; clear hx_; clear hb hbox hg) | ((with_reducible refine gate_dst (N := 3) rfl ?_); refine box_event ?hg (N := 3) ?hd (cs := #[.int .i64 a1_0, .int .i64 a1_1, .string a1_2, .slice A1_3 l1_3.length c1_3, .slice A1_4 l1_4.length c1_4]) (t := 46) ?hr ?_; (case hd => rfl); (case hg => rfl); (case hr => exact qa21); intro gb102 hg w16 hbox hb; have hx_ := qHX HB hb qa0; have n0_ := qO (qB BK101.out hx_ hb); have n1_ := qO (below_step (below_step HB.out hx_) hb); have n2_ := qO (hbox); have n3_ := qO ((qa15 : w.heap.size ≤ gb102)); have n4_ := n3_; have n5_ := qO ((qa7 : gb101 ≠ gb102)); have n6_ := qO (Ne.symm n5_.out); clear BK101; clear HB; have BK101 := n0_; have HB := n1_; have BK102 := n2_; have GW102 := n3_; have GE102 := n4_; have NB101_102 := n5_; have NB102_101 := n6_; clear n0_ n1_ n2_ n3_ n4_ n5_ n6_; clear hx_; clear hb hbox hg; have hnb17 := NB101_102.out; have hnc17 := NB102_101.out; have hcz18_0 : w16.cell? ⟨gb101, 0, none⟩ = some (.int .i64 a0_0) := (blk_cell BK101.out 0).trans rfl; have hcz18_1 : w16.cell? ⟨gb101, 1, none⟩ = some (.int .i64 a0_1) := (blk_cell BK101.out 1).trans rfl; have hcz18_2 : w16.cell? ⟨gb101, 2, none⟩ = some (.string a0_2) := (blk_cell BK101.out 2).trans rfl; have hcz18_3 : w16.cell? ⟨gb101, 3, none⟩ = some (.slice A0_3 l0_3.length c0_3) := (blk_cell BK101.out 3).trans rfl; have hcz18_4 : w16.cell? ⟨gb101, 4, none⟩ = some (.slice A0_4 l0_4.length c0_4) := (blk_cell BK101.out 4).trans rfl; have hfz18_0 := blk_frozen BK101.out 0; have hfz18_1 := blk_frozen BK101.out 1; have hfz18_2 := blk_frozen BK101.out 2; have hfz18_3 := blk_frozen BK101.out 3; have hfz18_4 := blk_frozen BK101.out 4; have hcz19_0 : w16.cell? ⟨gb102, 0, none⟩ = some (.int .i64 a1_0) := (blk_cell BK102.out 0).trans rfl; have hcz19_1 : w16.cell? ⟨gb102, 1, none⟩ = some (.int .i64 a1_1) := (blk_cell BK102.out 1).trans rfl; have hcz19_2 : w16.cell? ⟨gb102, 2, none⟩ = some (.string a1_2) := (blk_cell BK102.out 2).trans rfl; have hcz19_3 : w16.cell? ⟨gb102, 3, none⟩ = some (.slice A1_3 l1_3.length c1_3) := (blk_cell BK102.out 3).trans rfl; have hcz19_4 : w16.cell? ⟨gb102, 4, none⟩ = some (.slice A1_4 l1_4.length c1_4) := (blk_cell BK102.out 4).trans rfl; have hfz19_0 := blk_frozen BK102.out 0; have hfz19_1 := blk_frozen BK102.out 1; have hfz19_2 := blk_frozen BK102.out 2; have hfz19_3 := blk_frozen BK102.out 3; have hfz19_4 := blk_frozen BK102.out 4) | (go_at_call 105; (with_reducible refine (slices_Equal_string_string.calls k _ _ l0_3 _ _ l1_3 false _ ?side1 ?side2 ?side3 ?side4 A6.out).mono ?_); (case side1 => exact qa14); (case side2 => exact HC0_3.out); (case side3 => exact qa18); (case side4 => exact HC1_3.out); rintro e w' ⟨rfl, ⟨nd, rfl⟩⟩))
     go_ret
     exact ⟨qa4, qa8⟩
   ·rw [if_neg c5] at H
    have c5b0 : (a0_2.toList == a1_2.toList) = false := beq_eq_false_iff_ne.mpr c5; have c5b1 : (a0_2.toList != a1_2.toList) = true := bne_iff_ne.mpr c5; obtain rfl := Option.some.inj H
    go_enter Try.func67, Try.ntmps67
    go_wp2_with (first | ((with_reducible refine gate_dst (N := 2) rfl ?_); refine box_event ?hg (N := 2) ?hd (cs := #[.int .i64 a0_0, .int .i64 a0_1, .string a0_2, .slice A0_3 l0_3.length c0_3, .slice A0_4 l0_4.length c0_4]) (t := 46) ?hr ?_; (case hd => rfl); (case hg => rfl); (case hr => exact qa21); intro gb101 hg w20 hbox hb; have hx_ := qHX HB hb qa0; have n0_ := qO (below_step (below_step HB.out hx_) hb); have n1_ := qO (hbox); have n2_ := qO ((qa15 : w.heap.size ≤ gb101)); have n3_ := n2_; clear HB; have HB := n0_; have BK101 := n1_; have GW101 := n2_; have GE101 := n3_; clear n0_ n1_ n2_ n3_; clear hx_; clear hb hbox hg) | ((with_reducible refine gate_dst (N := 3) rfl ?_); refine box_event ?hg (N := 3) ?hd (cs := #[.int .i64 a1_0, .int .i64 a1_1, .string a1_2, .slice A1_3 l1_3.length c1_3, .slice A1_4 l1_4.length c1_4]) (t := 46) ?hr ?_; (case hd => rfl); (case hg => rfl); (case hr => exact qa21); intro gb102 hg w21 hbox hb; have hx_ := qHX HB hb qa0; have n0_ := qO (qB BK101.out hx_ hb); have n1_ := qO (below_step (below_step HB.out hx_) hb); have n2_ := qO (hbox); have n3_ := qO ((qa15 : w.heap.size ≤ gb102)); have n4_ := n3_; have n5_ := qO ((qa7 : gb101 ≠ gb102)); have n6_ := qO (Ne.symm n5_.out); clear BK101; clear HB; have BK101 := n0_; have HB := n1_; have BK102 := n2_; have GW102 := n3_; have GE102 := n4_; have NB101_102 := n5_; have NB102_101 := n6_; clear n0_ n1_ n2_ n3_ n4_ n5_ n6_; clear hx_; clear hb hbox hg; have hnb22 := NB101_102.out; have hnc22 := NB102_101.out; have hcz23_0 : w21.cell? ⟨gb101, 0, none⟩ = some (.int .i64 a0_0) := (blk_cell BK101.out 0).trans rfl; have hcz23_1 : w21.cell? ⟨gb101, 1, none⟩ = some (.int .i64 a0_1) := (blk_cell BK101.out 1).trans rfl; have hcz23_2 : w21.cell? ⟨gb101, 2, none⟩ = some (.string a0_2) := (blk_cell BK101.out 2).trans rfl; have hcz23_3 : w21.cell? ⟨gb101, 3, none⟩ = some (.slice A0_3 l0_3.length c0_3) := (blk_cell BK101.out 3).trans rfl; have hcz23_4 : w21.cell? ⟨gb101, 4, none⟩ = some (.slice A0_4 l0_4.length c0_4) := (blk_cell BK101.out 4).trans rfl; have hfz23_0 := blk_frozen BK101.out 0; have hfz23_1 := blk_frozen BK101.out 1; have hfz23_2 := blk_frozen BK101.out 2; have hfz23_3 := blk_frozen BK101.out 3; have hfz23_4 := blk_frozen BK101.out 4; have hcz24_0 : w21.cell? ⟨gb102, 0, none⟩ = some (.int .i64 a1_0) := (blk_cell BK102.out 0).trans rfl; have hcz24_1 : w21.cell? ⟨gb102, 1, none⟩ = some (.int .i64 a1_1) := (blk_cell BK102.out 1).trans rfl; have hcz24_2 : w21.cell? ⟨gb102, 2, none⟩ = some (.string a1_2) := (blk_cell BK102.out 2).trans rfl; have hcz24_3 : w21.cell? ⟨gb102, 3, none⟩ = some (.slice A1_3 l1_3.length c1_3) := (blk_cell BK102.out 3).trans rfl; have hcz24_4 : w21.cell? ⟨gb102, 4, none⟩ = some (.slice A1_4 l1_4.length c1_4) := (blk_cell BK102.out 4).trans rfl; have hfz24_0 := blk_frozen BK102.out 0; have hfz24_1 := blk_frozen BK102.out 1; have hfz24_2 := blk_frozen BK102.out 2; have hfz24_3 := blk_frozen BK102.out 3; have hfz24_4 := blk_frozen BK102.out 4))
    go_ret
    exact ⟨qa4, qa8⟩
  ·rw [if_neg c4] at H
   have c4b0 : (a0_1 == a1_1) = false := beq_eq_false_iff_ne.mpr c4; have c4b1 : (a0_1 != a1_1) = true := bne_iff_ne.mpr c4; obtain rfl := Option.some.inj H
   go_enter Try.func67, Try.ntmps67
   go_wp2_with (first | ((with_reducible refine gate_dst (N := 2) rfl ?_); refine box_event ?hg (N := 2) ?hd (cs := #[.int .i64 a0_0, .int .i64 a0_1, .string a0_2, .slice A0_3 l0_3.length c0_3, .slice A0_4 l0_4.length c0_4]) (t := 46) ?hr ?_; (case hd => rfl); (case hg => rfl); (case hr => exact qa21); intro gb101 hg w25 hbox hb; have hx_ := qHX HB hb qa0; have n0_ := qO (below_step (below_step HB.out hx_) hb); have n1_ := qO (hbox); have n2_ := qO ((qa15 : w.heap.size ≤ gb101)); have n3_ := n2_; clear HB; have HB := n0_; have BK101 := n1_; have GW101 := n2_; have GE101 := n3_; clear n0_ n1_ n2_ n3_; clear hx_; clear hb hbox hg) | ((with_reducible refine gate_dst (N := 3) rfl ?_); refine box_event ?hg (N := 3) ?hd (cs := #[.int .i64 a1_0, .int .i64 a1_1, .string a1_2, .slice A1_3 l1_3.length c1_3, .slice A1_4 l1_4.length c1_4]) (t := 46) ?hr ?_; (case hd => rfl); (case hg => rfl); (case hr => exact qa21); intro gb102 hg w26 hbox hb; have hx_ := qHX HB hb qa0; have n0_ := qO (qB BK101.out hx_ hb); have n1_ := qO (below_step (below_step HB.out hx_) hb); have n2_ := qO (hbox); have n3_ := qO ((qa15 : w.heap.size ≤ gb102)); have n4_ := n3_; have n5_ := qO ((qa7 : gb101 ≠ gb102)); have n6_ := qO (Ne.symm n5_.out); clear BK101; clear HB; have BK101 := n0_; have HB := n1_; have BK102 := n2_; have GW102 := n3_; have GE102 := n4_; have NB101_102 := n5_; have NB102_101 := n6_; clear n0_ n1_ n2_ n3_ n4_ n5_ n6_; clear hx_; clear hb hbox hg; have hnb27 := NB101_102.out; have hnc27 := NB102_101.out; have hcz28_0 : w26.cell? ⟨gb101, 0, none⟩ = some (.int .i64 a0_0) := (blk_cell BK101.out 0).trans rfl; have hcz28_1 : w26.cell? ⟨gb101, 1, none⟩ = some (.int .i64 a0_1) := (blk_cell BK101.out 1).trans rfl; have hcz28_2 : w26.cell? ⟨gb101, 2, none⟩ = some (.string a0_2) := (blk_cell BK101.out 2).trans rfl; have hcz28_3 : w26.cell? ⟨gb101, 3, none⟩ = some (.slice A0_3 l0_3.length c0_3) := (blk_cell BK101.out 3).trans rfl; have hcz28_4 : w26.cell? ⟨gb101, 4, none⟩ = some (.slice A0_4 l0_4.length c0_4) := (blk_cell BK101.out 4).trans rfl; have hfz28_0 := blk_frozen BK101.out 0; have hfz28_1 := blk_frozen BK101.out 1; have hfz28_2 := blk_frozen BK101.out 2; have hfz28_3 := blk_frozen BK101.out 3; have hfz28_4 := blk_frozen BK101.out 4; have hcz29_0 : w26.cell? ⟨gb102, 0, none⟩ = some (.int .i64 a1_0) := (blk_cell BK102.out 0).trans rfl; have hcz29_1 : w26.cell? ⟨gb102, 1, none⟩ = some (.int .i64 a1_1) := (blk_cell BK102.out 1).trans rfl; have hcz29_2 : w26.cell? ⟨gb102, 2, none⟩ = some (.string a1_2) := (blk_cell BK102.out 2).trans rfl; have hcz29_3 : w26.cell? ⟨gb102, 3, none⟩ = some (.slice A1_3 l1_3.length c1_3) := (blk_cell BK102.out 3).trans rfl; have hcz29_4 : w26.cell? ⟨gb102, 4, none⟩ = some (.slice A1_4 l1_4.length c1_4) := (blk_cell BK102.out 4).trans rfl; have hfz29_0 := blk_frozen BK102.out 0; have hfz29_1 := blk_frozen BK102.out 1; have hfz29_2 := blk_frozen BK102.out 2; have hfz29_3 := blk_frozen BK102.out 3; have hfz29_4 := blk_frozen BK102.out 4))
   go_ret
   exact ⟨qa4, qa8⟩
 ·rw [if_neg c3] at H
  have c3b0 : (a0_0 == a1_0) = false := beq_eq_false_iff_ne.mpr c3; have c3b1 : (a0_0 != a1_0) = true := bne_iff_ne.mpr c3; obtain rfl := Option.some.inj H
  go_enter Try.func67, Try.ntmps67
  go_wp2_with (first | ((with_reducible refine gate_dst (N := 2) rfl ?_); refine box_event ?hg (N := 2) ?hd (cs := #[.int .i64 a0_0, .int .i64 a0_1, .string a0_2, .slice A0_3 l0_3.length c0_3, .slice A0_4 l0_4.length c0_4]) (t := 46) ?hr ?_; (case hd => rfl); (case hg => rfl); (case hr => exact qa21); intro gb101 hg w30 hbox hb; have hx_ := qHX HB hb qa0; have n0_ := qO (below_step (below_step HB.out hx_) hb); have n1_ := qO (hbox); have n2_ := qO ((qa15 : w.heap.size ≤ gb101)); have n3_ := n2_; clear HB; have HB := n0_; have BK101 := n1_; have GW101 := n2_; have GE101 := n3_; clear n0_ n1_ n2_ n3_; clear hx_; clear hb hbox hg) | ((with_reducible refine gate_dst (N := 3) rfl ?_); refine box_event ?hg (N := 3) ?hd (cs := #[.int .i64 a1_0, .int .i64 a1_1, .string a1_2, .slice A1_3 l1_3.length c1_3, .slice A1_4 l1_4.length c1_4]) (t := 46) ?hr ?_; (case hd => rfl); (case hg => rfl); (case hr => exact qa21); intro gb102 hg w31 hbox hb; have hx_ := qHX HB hb qa0; have n0_ := qO (qB BK101.out hx_ hb); have n1_ := qO (below_step (below_step HB.out hx_) hb); have n2_ := qO (hbox); have n3_ := qO ((qa15 : w.heap.size ≤ gb102)); have n4_ := n3_; have n5_ := qO ((qa7 : gb101 ≠ gb102)); have n6_ := qO (Ne.symm n5_.out); clear BK101; clear HB; have BK101 := n0_; have HB := n1_; have BK102 := n2_; have GW102 := n3_; have GE102 := n4_; have NB101_102 := n5_; have NB102_101 := n6_; clear n0_ n1_ n2_ n3_ n4_ n5_ n6_; clear hx_; clear hb hbox hg; have hnb32 := NB101_102.out; have hnc32 := NB102_101.out; have hcz33_0 : w31.cell? ⟨gb101, 0, none⟩ = some (.int .i64 a0_0) := (blk_cell BK101.out 0).trans rfl; have hcz33_1 : w31.cell? ⟨gb101, 1, none⟩ = some (.int .i64 a0_1) := (blk_cell BK101.out 1).trans rfl; have hcz33_2 : w31.cell? ⟨gb101, 2, none⟩ = some (.string a0_2) := (blk_cell BK101.out 2).trans rfl; have hcz33_3 : w31.cell? ⟨gb101, 3, none⟩ = some (.slice A0_3 l0_3.length c0_3) := (blk_cell BK101.out 3).trans rfl; have hcz33_4 : w31.cell? ⟨gb101, 4, none⟩ = some (.slice A0_4 l0_4.length c0_4) := (blk_cell BK101.out 4).trans rfl; have hfz33_0 := blk_frozen BK101.out 0; have hfz33_1 := blk_frozen BK101.out 1; have hfz33_2 := blk_frozen BK101.out 2; have hfz33_3 := blk_frozen BK101.out 3; have hfz33_4 := blk_frozen BK101.out 4; have hcz34_0 : w31.cell? ⟨gb102, 0, none⟩ = some (.int .i64 a1_0) := (blk_cell BK102.out 0).trans rfl; have hcz34_1 : w31.cell? ⟨gb102, 1, none⟩ = some (.int .i64 a1_1) := (blk_cell BK102.out 1).trans rfl; have hcz34_2 : w31.cell? ⟨gb102, 2, none⟩ = some (.string a1_2) := (blk_cell BK102.out 2).trans rfl; have hcz34_3 : w31.cell? ⟨gb102, 3, none⟩ = some (.slice A1_3 l1_3.length c1_3) := (blk_cell BK102.out 3).trans rfl; have hcz34_4 : w31.cell? ⟨gb102, 4, none⟩ = some (.slice A1_4 l1_4.length c1_4) := (blk_cell BK102.out 4).trans rfl; have hfz34_0 := blk_frozen BK102.out 0; have hfz34_1 := blk_frozen BK102.out 1; have hfz34_2 := blk_frozen BK102.out 2; have hfz34_3 := blk_frozen BK102.out 3; have hfz34_4 := blk_frozen BK102.out 4))
  go_ret
  exact ⟨qa4, qa8⟩


def impl_SameOut.f (k : Nat) (a0_0 : Int) (a0_1 : Int) (a0_2 : ByteArray) (l0_3 : List ByteArray) (l0_4 : List (S46)) (a1_0 : Int) (a1_1 : Int) (a1_2 : ByteArray) (l1_3 : List ByteArray) (l1_4 : List (S46)) : Option (Bool) := (impl_OutOK.f k a0_0 a0_1 a0_2 l0_3 l0_4).bind fun t103 => (if t103 = true then ((impl_OutOK.f k a1_0 a1_1 a1_2 l1_3 l1_4).bind fun t104 => (if t104 = true then ((impl_sameOut.f k a0_0 a0_1 a0_2 l0_3 l0_4 a1_0 a1_1 a1_2 l1_3 l1_4).bind fun t105 => (some t105)) else (some false))) else (some false))
set_option maxHeartbeats 8000000 in
set_option maxRecDepth 100000 in
theorem impl_SameOut.calls (k : Nat) (a0_0 : Int) (a0_1 : Int) (a0_2 : ByteArray) (A0_3 : Option Addr) (c0_3 : Nat) (l0_3 : List ByteArray) (A0_4 : Option Addr) (c0_4 : Nat) (l0_4 : List (S46)) (a1_0 : Int) (a1_1 : Int) (a1_2 : ByteArray) (A1_3 : Option Addr) (c1_3 : Nat) (l1_3 : List ByteArray) (A1_4 : Option Addr) (c1_4 : Nat) (l1_4 : List (S46)) (r : Bool) (w : World) (hr0_3 : Kd.C Kd.string w A0_3 l0_3.length l0_3) (hc0_3 : l0_3.length ≤ c0_3) (hr0_4 : Kd.C k46 w A0_4 l0_4.length l0_4) (hc0_4 : l0_4.length ≤ c0_4) (hr1_3 : Kd.C Kd.string w A1_3 l1_3.length l1_3) (hc1_3 : l1_3.length ≤ c1_3) (hr1_4 : Kd.C k46 w A1_4 l1_4.length l1_4) (hc1_4 : l1_4.length ≤ c1_4) (h : impl_SameOut.f k a0_0 a0_1 a0_2 l0_3 l0_4 a1_0 a1_1 a1_2 l1_3 l1_4 = some r) :
  Calls Try.prog 27 #[.agg #[.int .i64 a0_0, .int .i64 a0_1, .string a0_2, .slice A0_3 l0_3.length c0_3, .slice A0_4 l0_4.length c0_4], .agg #[.int .i64 a1_0, .int .i64 a1_1, .string a1_2, .slice A1_3 l1_3.length c1_3, .slice A1_4 l1_4.length c1_4]] w fun e w' => e = .returned (.bool r) ∧ Below w.heap.size w w' := by
 have hu46 := Try.underlying46; have HR0_3 := qO hr0_3; have HC0_3 := qO hc0_3; clear hr0_3 hc0_3; have HR0_4 := qO hr0_4; have HC0_4 := qO hc0_4; clear hr0_4 hc0_4; have HR1_3 := qO hr1_3; have HC1_3 := qO hc1_3; clear hr1_3 hc1_3; have HR1_4 := qO hr1_4; have HC1_4 := qO hc1_4; clear hr1_4 hc1_4; have HB := qO (Below.refl w.heap.size w); have H : ((impl_OutOK.f k a0_0 a0_1 a0_2 l0_3 l0_4).bind fun t103 => (if t103 = true then ((impl_OutOK.f k a1_0 a1_1 a1_2 l1_3 l1_4).bind fun t104 => (if t104 = true then ((impl_sameOut.f k a0_0 a0_1 a0_2 l0_3 l0_4 a1_0 a1_1 a1_2 l1_3 l1_4).bind fun t105 => (some t105)) else (some false))) else (some false))) = some r := h; clear h; replace H := Option.bind_eq_some_iff.mp H; obtain ⟨t103, A30, H⟩ := H; replace H : (if t103 = true then ((impl_OutOK.f k a1_0 a1_1 a1_2 l1_3 l1_4).bind fun t104 => (if t104 = true then ((impl_sameOut.f k a0_0 a0_1 a0_2 l0_3 l0_4 a1_0 a1_1 a1_2 l1_3 l1_4).bind fun t105 => (some t105)) else (some false))) else (some false)) = some r := H; have A3 := qO A30; clear A30
 by_cases c4 : t103 = true
 ·subst c4
  have H1 : ((impl_OutOK.f k a1_0 a1_1 a1_2 l1_3 l1_4).bind fun t104 => (if t104 = true then ((impl_sameOut.f k a0_0 a0_1 a0_2 l0_3 l0_4 a1_0 a1_1 a1_2 l1_3 l1_4).bind fun t105 => (some t105)) else (some false))) = some r := by rw [if_pos rfl] at H; exact H
  clear H; have H := H1; clear H1; replace H := Option.bind_eq_some_iff.mp H; obtain ⟨t104, A50, H⟩ := H; replace H : (if t104 = true then ((impl_sameOut.f k a0_0 a0_1 a0_2 l0_3 l0_4 a1_0 a1_1 a1_2 l1_3 l1_4).bind fun t105 => (some t105)) else (some false)) = some r := H; have A5 := qO A50; clear A50
  by_cases c6 : t104 = true
  ·subst c6
   have H1 : ((impl_sameOut.f k a0_0 a0_1 a0_2 l0_3 l0_4 a1_0 a1_1 a1_2 l1_3 l1_4).bind fun t105 => (some t105)) = some r := by rw [if_pos rfl] at H; exact H
   clear H; have H := H1; clear H1; replace H := Option.bind_eq_some_iff.mp H; obtain ⟨t105, A70, H⟩ := H; replace H : (some t105) = some r := H; have A7 := qO A70; clear A70; obtain rfl := Option.some.inj H
   go_enter Try.func27, Try.ntmps27
   go_wp2_with (first | ((with_reducible refine gate_dst (N := 2) rfl ?_); refine box_event ?hg (N := 2) ?hd (cs := #[.int .i64 a0_0, .int .i64 a0_1, .string a0_2, .slice A0_3 l0_3.length c0_3, .slice A0_4 l0_4.length c0_4]) (t := 46) ?hr ?_; (case hd => rfl); (case hg => rfl); (case hr => exact qa21); intro gb101 hg w8 hbox hb; have hx_ := qHX HB hb qa0; have n0_ := qO (below_step (below_step HB.out hx_) hb); have n1_ := qO (hbox); have n2_ := qO ((qa15 : w.heap.size ≤ gb101)); have n3_ := n2_; clear HB; have HB := n0_; have BK101 := n1_; have GW101 := n2_; have GE101 := n3_; clear n0_ n1_ n2_ n3_; clear hx_; clear hb hbox hg) | ((with_reducible refine gate_dst (N := 3) rfl ?_); refine box_event ?hg (N := 3) ?hd (cs := #[.int .i64 a1_0, .int .i64 a1_1, .string a1_2, .slice A1_3 l1_3.length c1_3, .slice A1_4 l1_4.length c1_4]) (t := 46) ?hr ?_; (case hd => rfl); (case hg => rfl); (case hr => exact qa21); intro gb102 hg w9 hbox hb; have hx_ := qHX HB hb qa0; have n0_ := qO (qB BK101.out hx_ hb); have n1_ := qO (below_step (below_step HB.out hx_) hb); have n2_ := qO (hbox); have n3_ := qO ((qa15 : w.heap.size ≤ gb102)); have n4_ := n3_; have n5_ := qO ((qa7 : gb101 ≠ gb102)); have n6_ := qO (Ne.symm n5_.out); clear BK101; clear HB; have BK101 := n0_; have HB := n1_; have BK102 := n2_; have GW102 := n3_; have GE102 := n4_; have NB101_102 := n5_; have NB102_101 := n6_; clear n0_ n1_ n2_ n3_ n4_ n5_ n6_; clear hx_; clear hb hbox hg; have hnb10 := NB101_102.out; have hnc10 := NB102_101.out; have hcz11_0 : w9.cell? ⟨gb101, 0, none⟩ = some (.int .i64 a0_0) := (blk_cell BK101.out 0).trans rfl; have hcz11_1 : w9.cell? ⟨gb101, 1, none⟩ = some (.int .i64 a0_1) := (blk_cell BK101.out 1).trans rfl; have hcz11_2 : w9.cell? ⟨gb101, 2, none⟩ = some (.string a0_2) := (blk_cell BK101.out 2).trans rfl; have hcz11_3 : w9.cell? ⟨gb101, 3, none⟩ = some (.slice A0_3 l0_3.length c0_3) := (blk_cell BK101.out 3).trans rfl; have hcz11_4 : w9.cell? ⟨gb101, 4, none⟩ = some (.slice A0_4 l0_4.length c0_4) := (blk_cell BK101.out 4).trans rfl; have hfz11_0 := blk_frozen BK101.out 0; have hfz11_1 := blk_frozen BK101.out 1; have hfz11_2 := blk_frozen BK101.out 2; have hfz11_3 := blk_frozen BK101.out 3; have hfz11_4 := blk_frozen BK101.out 4) | ((with_reducible refine gate_callee (f := 24) rfl ?_); refine goesL_ (some 6) rfl rfl Try.func24 qa10 rfl #[.agg #[.int .i64 a0_0, .int .i64 a0_1, .string a0_2, .slice A0_3 l0_3.length c0_3, .slice A0_4 l0_4.length c0_4]] rfl qa1 ?_; (with_reducible refine (impl_OutOK.calls k a0_0 a0_1 a0_2 _ _ l0_3 _ _ l0_4 true _ ?side1 ?side2 ?side3 ?side4 A3.out).mono ?_); (case side1 => exact qa14); (case side2 => exact HC0_3.out); (case side3 => exact qa19); (case side4 => exact HC0_4.out); rintro e w12 ⟨rfl, hb⟩; have hx_ := qHX HB hb qa0; refine ⟨_, rfl, ?_⟩; have n0_ := qO (qB BK101.out hx_ hb); have n1_ := qO (qB BK102.out hx_ hb); have n2_ := qO (below_step (below_step HB.out hx_) hb); clear BK101; clear BK102; clear HB; have BK101 := n0_; have BK102 := n1_; have HB := n2_; clear n0_ n1_ n2_; clear hx_; (try clear hb); (try clear hb2); (try clear hk); (try clear hi); have hcz13_0 : w12.cell? ⟨gb102, 0, none⟩ = some (.int .i64 a1_0) := (blk_cell BK102.out 0).trans rfl; have hcz13_1 : w12.cell? ⟨gb102, 1, none⟩ = some (.int .i64 a1_1) := (blk_cell BK102.out 1).trans rfl; have hcz13_2 : w12.cell? ⟨gb102, 2, none⟩ = some (.string a1_2) := (blk_cell BK102.out 2).trans rfl; have hcz13_3 : w12.cell? ⟨gb102, 3, none⟩ = some (.slice A1_3 l1_3.length c1_3) := (blk_cell BK102.out 3).trans rfl; have hcz13_4 : w12.cell? ⟨gb102, 4, none⟩ = some (.slice A1_4 l1_4.length c1_4) := (blk_cell BK102.out 4).trans rfl; have hfz13_0 := blk_frozen BK102.out 0; have hfz13_1 := blk_frozen BK102.out 1; have hfz13_2 := blk_frozen BK102.out 2; have hfz13_3 := blk_frozen BK102.out 3; have hfz13_4 := blk_frozen BK102.out 4) | (go_at_call 24; (with_reducible refine (impl_OutOK.calls k a1_0 a1_1 a1_2 _ _ l1_3 _ _ l1_4 true _ ?side1 ?side2 ?side3 ?side4 A5.out).mono ?_); (case side1 => exact qa18); (case side2 => exact HC1_3.out); (case side3 => exact qa29); (case side4 => exact HC1_4.out); rintro e w14 ⟨rfl, hb⟩; have hx_ := qHX HB hb qa0; have n0_ := qO (qB BK101.out hx_ hb); have n1_ := qO (qB BK102.out hx_ hb); have n2_ := qO (below_step (below_step HB.out hx_) hb); clear BK101; clear BK102; clear HB; have BK101 := n0_; have BK102 := n1_; have HB := n2_; clear n0_ n1_ n2_; clear hx_; (try clear hb); (try clear hb2); (try clear hk); (try clear hi); have hcz15_0 : w14.cell? ⟨gb101, 0, none⟩ = some (.int .i64 a0_0) := (blk_cell BK101.out 0).trans rfl; have hcz15_1 : w14.cell? ⟨gb101, 1, none⟩ = some (.int .i64 a0_1) := (blk_cell BK101.out 1).trans rfl; have hcz15_2 : w14.cell? ⟨gb101, 2, none⟩ = some (.string a0_2) := (blk_cell BK101.out 2).trans rfl; have hcz15_3 : w14.cell? ⟨gb101, 3, none⟩ = some (.slice A0_3 l0_3.length c0_3) := (blk_cell BK101.out 3).trans rfl; have hcz15_4 : w14.cell? ⟨gb101, 4, none⟩ = some (.slice A0_4 l0_4.length c0_4) := (blk_cell BK101.out 4).trans rfl; have hfz15_0 := blk_frozen BK101.out 0; have hfz15_1 := blk_frozen BK101.out 1; have hfz15_2 := blk_frozen BK101.out 2; have hfz15_3 := blk_frozen BK101.out 3; have hfz15_4 := blk_frozen BK101.out 4; have hcz16_0 : w14.cell? ⟨gb102, 0, none⟩ = some (.int .i64 a1_0) := (blk_cell BK102.out 0).trans rfl; have hcz16_1 : w14.cell? ⟨gb102, 1, none⟩ = some (.int .i64 a1_1) := (blk_cell BK102.out 1).trans rfl; have hcz16_2 : w14.cell? ⟨gb102, 2, none⟩ = some (.string a1_2) := (blk_cell BK102.out 2).trans rfl; have hcz16_3 : w14.cell? ⟨gb102, 3, none⟩ = some (.slice A1_3 l1_3.length c1_3) := (blk_cell BK102.out 3).trans rfl; have hcz16_4 : w14.cell? ⟨gb102, 4, none⟩ = some (.slice A1_4 l1_4.length c1_4) := (blk_cell BK102.out 4).trans rfl; have hfz16_0 := blk_frozen BK102.out 0; have hfz16_1 := blk_frozen BK102.out 1; have hfz16_2 := blk_frozen BK102.out 2; have hfz16_3 := blk_frozen BK102.out 3; have hfz16_4 := blk_frozen BK102.out 4) | (go_at_call 67; (with_reducible refine (impl_sameOut.calls k a0_0 a0_1 a0_2 _ _ l0_3 _ _ l0_4 a1_0 a1_1 a1_2 _ _ l1_3 _ _ l1_4 t105 _ ?side1 ?side2 ?side3 ?side4 ?side5 ?side6 ?side7 ?side8 A7.out).mono ?_); (case side1 => exact qa14); (case side2 => exact HC0_3.out); (case side3 => exact qa19); (case side4 => exact HC0_4.out); (case side5 => exact qa18); (case side6 => exact HC1_3.out); (case side7 => exact qa29); (case side8 => exact HC1_4.out); rintro e w17 ⟨rfl, hb⟩; have hx_ := qHX HB hb qa0; have n0_ := qO (qB BK101.out hx_ hb); have n1_ := qO (qB BK102.out hx_ hb); have n2_ := qO (below_step (below_step HB.out hx_) hb); clear BK101; clear BK102; clear HB; have BK101 := n0_; have BK102 := n1_; have HB := n2_; clear n0_ n1_ n2_; clear hx_; (try clear hb); (try clear hb2); (try clear hk); (try clear hi)))
   go_ret
   exact ⟨qa4, qa8⟩
  ·replace c6 := Bool.eq_false_iff.mpr c6
   subst c6; have H1 : (some false) = some r := by rw [if_neg (show ¬ (false = true) by decide)] at H; exact H
   clear H; have H := H1; clear H1; obtain rfl := Option.some.inj H
   go_enter Try.func27, Try.ntmps27
   go_wp2_with (first | ((with_reducible refine gate_dst (N := 2) rfl ?_); refine box_event ?hg (N := 2) ?hd (cs := #[.int .i64 a0_0, .int .i64 a0_1, .string a0_2, .slice A0_3 l0_3.length c0_3, .slice A0_4 l0_4.length c0_4]) (t := 46) ?hr ?_; (case hd => rfl); (case hg => rfl); (case hr => exact qa21); intro gb101 hg w18 hbox hb; have hx_ := qHX HB hb qa0; have n0_ := qO (below_step (below_step HB.out hx_) hb); have n1_ := qO (hbox); have n2_ := qO ((qa15 : w.heap.size ≤ gb101)); have n3_ := n2_; clear HB; have HB := n0_; have BK101 := n1_; have GW101 := n2_; have GE101 := n3_; clear n0_ n1_ n2_ n3_; clear hx_; clear hb hbox hg) | ((with_reducible refine gate_dst (N := 3) rfl ?_); refine box_event ?hg (N := 3) ?hd (cs := #[.int .i64 a1_0, .int .i64 a1_1, .string a1_2, .slice A1_3 l1_3.length c1_3, .slice A1_4 l1_4.length c1_4]) (t := 46) ?hr ?_; (case hd => rfl); (case hg => rfl); (case hr => exact qa21); intro gb102 hg w19 hbox hb; have hx_ := qHX HB hb qa0; have n0_ := qO (qB BK101.out hx_ hb); have n1_ := qO (below_step (below_step HB.out hx_) hb); have n2_ := qO (hbox); have n3_ := qO ((qa15 : w.heap.size ≤ gb102)); have n4_ := n3_; have n5_ := qO ((qa7 : gb101 ≠ gb102)); have n6_ := qO (Ne.symm n5_.out); clear BK101; clear HB; have BK101 := n0_; have HB := n1_; have BK102 := n2_; have GW102 := n3_; have GE102 := n4_; have NB101_102 := n5_; have NB102_101 := n6_; clear n0_ n1_ n2_ n3_ n4_ n5_ n6_; clear hx_; clear hb hbox hg; have hnb20 := NB101_102.out; have hnc20 := NB102_101.out; have hcz21_0 : w19.cell? ⟨gb101, 0, none⟩ = some (.int .i64 a0_0) := (blk_cell BK101.out 0).trans rfl; have hcz21_1 : w19.cell? ⟨gb101, 1, none⟩ = some (.int .i64 a0_1) := (blk_cell BK101.out 1).trans rfl; have hcz21_2 : w19.cell? ⟨gb101, 2, none⟩ = some (.string a0_2) := (blk_cell BK101.out 2).trans rfl; have hcz21_3 : w19.cell? ⟨gb101, 3, none⟩ = some (.slice A0_3 l0_3.length c0_3) := (blk_cell BK101.out 3).trans rfl; have hcz21_4 : w19.cell? ⟨gb101, 4, none⟩ = some (.slice A0_4 l0_4.length c0_4) := (blk_cell BK101.out 4).trans rfl; have hfz21_0 := blk_frozen BK101.out 0; have hfz21_1 := blk_frozen BK101.out 1; have hfz21_2 := blk_frozen BK101.out 2; have hfz21_3 := blk_frozen BK101.out 3; have hfz21_4 := blk_frozen BK101.out 4) | ((with_reducible refine gate_callee (f := 24) rfl ?_); refine goesL_ (some 6) rfl rfl Try.func24 qa10 rfl #[.agg #[.int .i64 a0_0, .int .i64 a0_1, .string a0_2, .slice A0_3 l0_3.length c0_3, .slice A0_4 l0_4.length c0_4]] rfl qa1 ?_; (with_reducible refine (impl_OutOK.calls k a0_0 a0_1 a0_2 _ _ l0_3 _ _ l0_4 true _ ?side1 ?side2 ?side3 ?side4 A3.out).mono ?_); (case side1 => exact qa14); (case side2 => exact HC0_3.out); (case side3 => exact qa19); (case side4 => exact HC0_4.out); rintro e w22 ⟨rfl, hb⟩; have hx_ := qHX HB hb qa0; refine ⟨_, rfl, ?_⟩; have n0_ := qO (qB BK101.out hx_ hb); have n1_ := qO (qB BK102.out hx_ hb); have n2_ := qO (below_step (below_step HB.out hx_) hb); clear BK101; clear BK102; clear HB; have BK101 := n0_; have BK102 := n1_; have HB := n2_; clear n0_ n1_ n2_; clear hx_; (try clear hb); (try clear hb2); (try clear hk); (try clear hi); have hcz23_0 : w22.cell? ⟨gb102, 0, none⟩ = some (.int .i64 a1_0) := (blk_cell BK102.out 0).trans rfl; have hcz23_1 : w22.cell? ⟨gb102, 1, none⟩ = some (.int .i64 a1_1) := (blk_cell BK102.out 1).trans rfl; have hcz23_2 : w22.cell? ⟨gb102, 2, none⟩ = some (.string a1_2) := (blk_cell BK102.out 2).trans rfl; have hcz23_3 : w22.cell? ⟨gb102, 3, none⟩ = some (.slice A1_3 l1_3.length c1_3) := (blk_cell BK102.out 3).trans rfl; have hcz23_4 : w22.cell? ⟨gb102, 4, none⟩ = some (.slice A1_4 l1_4.length c1_4) := (blk_cell BK102.out 4).trans rfl; have hfz23_0 := blk_frozen BK102.out 0; have hfz23_1 := blk_frozen BK102.out 1; have hfz23_2 := blk_frozen BK102.out 2; have hfz23_3 := blk_frozen BK102.out 3; have hfz23_4 := blk_frozen BK102.out 4) | (go_at_call 24; (with_reducible refine (impl_OutOK.calls k a1_0 a1_1 a1_2 _ _ l1_3 _ _ l1_4 false _ ?side1 ?side2 ?side3 ?side4 A5.out).mono ?_); (case side1 => exact qa18); (case side2 => exact HC1_3.out); (case side3 => exact qa29); (case side4 => exact HC1_4.out); rintro e w24 ⟨rfl, hb⟩; have hx_ := qHX HB hb qa0; have n0_ := qO (qB BK101.out hx_ hb); have n1_ := qO (qB BK102.out hx_ hb); have n2_ := qO (below_step (below_step HB.out hx_) hb); clear BK101; clear BK102; clear HB; have BK101 := n0_; have BK102 := n1_; have HB := n2_; clear n0_ n1_ n2_; clear hx_; (try clear hb); (try clear hb2); (try clear hk); (try clear hi)))
   go_ret
   exact ⟨qa4, qa8⟩
 ·replace c4 := Bool.eq_false_iff.mpr c4
  subst c4; have H1 : (some false) = some r := by rw [if_neg (show ¬ (false = true) by decide)] at H; exact H
  clear H; have H := H1; clear H1; obtain rfl := Option.some.inj H
  go_enter Try.func27, Try.ntmps27
  go_wp2_with (first | ((with_reducible refine gate_dst (N := 2) rfl ?_); refine box_event ?hg (N := 2) ?hd (cs := #[.int .i64 a0_0, .int .i64 a0_1, .string a0_2, .slice A0_3 l0_3.length c0_3, .slice A0_4 l0_4.length c0_4]) (t := 46) ?hr ?_; (case hd => rfl); (case hg => rfl); (case hr => exact qa21); intro gb101 hg w25 hbox hb; have hx_ := qHX HB hb qa0; have n0_ := qO (below_step (below_step HB.out hx_) hb); have n1_ := qO (hbox); have n2_ := qO ((qa15 : w.heap.size ≤ gb101)); have n3_ := n2_; clear HB; have HB := n0_; have BK101 := n1_; have GW101 := n2_; have GE101 := n3_; clear n0_ n1_ n2_ n3_; clear hx_; clear hb hbox hg) | ((with_reducible refine gate_dst (N := 3) rfl ?_); refine box_event ?hg (N := 3) ?hd (cs := #[.int .i64 a1_0, .int .i64 a1_1, .string a1_2, .slice A1_3 l1_3.length c1_3, .slice A1_4 l1_4.length c1_4]) (t := 46) ?hr ?_; (case hd => rfl); (case hg => rfl); (case hr => exact qa21); intro gb102 hg w26 hbox hb; have hx_ := qHX HB hb qa0; have n0_ := qO (qB BK101.out hx_ hb); have n1_ := qO (below_step (below_step HB.out hx_) hb); have n2_ := qO (hbox); have n3_ := qO ((qa15 : w.heap.size ≤ gb102)); have n4_ := n3_; have n5_ := qO ((qa7 : gb101 ≠ gb102)); have n6_ := qO (Ne.symm n5_.out); clear BK101; clear HB; have BK101 := n0_; have HB := n1_; have BK102 := n2_; have GW102 := n3_; have GE102 := n4_; have NB101_102 := n5_; have NB102_101 := n6_; clear n0_ n1_ n2_ n3_ n4_ n5_ n6_; clear hx_; clear hb hbox hg; have hnb27 := NB101_102.out; have hnc27 := NB102_101.out; have hcz28_0 : w26.cell? ⟨gb101, 0, none⟩ = some (.int .i64 a0_0) := (blk_cell BK101.out 0).trans rfl; have hcz28_1 : w26.cell? ⟨gb101, 1, none⟩ = some (.int .i64 a0_1) := (blk_cell BK101.out 1).trans rfl; have hcz28_2 : w26.cell? ⟨gb101, 2, none⟩ = some (.string a0_2) := (blk_cell BK101.out 2).trans rfl; have hcz28_3 : w26.cell? ⟨gb101, 3, none⟩ = some (.slice A0_3 l0_3.length c0_3) := (blk_cell BK101.out 3).trans rfl; have hcz28_4 : w26.cell? ⟨gb101, 4, none⟩ = some (.slice A0_4 l0_4.length c0_4) := (blk_cell BK101.out 4).trans rfl; have hfz28_0 := blk_frozen BK101.out 0; have hfz28_1 := blk_frozen BK101.out 1; have hfz28_2 := blk_frozen BK101.out 2; have hfz28_3 := blk_frozen BK101.out 3; have hfz28_4 := blk_frozen BK101.out 4) | ((with_reducible refine gate_callee (f := 24) rfl ?_); refine goesL_ (some 6) rfl rfl Try.func24 qa10 rfl #[.agg #[.int .i64 a0_0, .int .i64 a0_1, .string a0_2, .slice A0_3 l0_3.length c0_3, .slice A0_4 l0_4.length c0_4]] rfl qa1 ?_; (with_reducible refine (impl_OutOK.calls k a0_0 a0_1 a0_2 _ _ l0_3 _ _ l0_4 false _ ?side1 ?side2 ?side3 ?side4 A3.out).mono ?_); (case side1 => exact qa14); (case side2 => exact HC0_3.out); (case side3 => exact qa19); (case side4 => exact HC0_4.out); rintro e w29 ⟨rfl, hb⟩; have hx_ := qHX HB hb qa0; refine ⟨_, rfl, ?_⟩; have n0_ := qO (qB BK101.out hx_ hb); have n1_ := qO (qB BK102.out hx_ hb); have n2_ := qO (below_step (below_step HB.out hx_) hb); clear BK101; clear BK102; clear HB; have BK101 := n0_; have BK102 := n1_; have HB := n2_; clear n0_ n1_ n2_; clear hx_; (try clear hb); (try clear hb2); (try clear hk); (try clear hi)))
  go_ret
  exact ⟨qa4, qa8⟩


def laws_FnExactSameOut.f (k : Nat) (a0_0 : Int) (a0_1 : Int) (a0_2 : ByteArray) (l0_3 : List ByteArray) (l0_4 : List (S41)) (a1_0 : Int) (a1_1 : Int) (a1_2 : ByteArray) (l1_3 : List ByteArray) (l1_4 : List (S41)) : Option (Bool) := (laws_szOut.f k a0_0 a0_1 a0_2 l0_3 l0_4 1048576).bind fun t103 => (if t103 < 0 then (some true) else ((laws_szOut.f k a1_0 a1_1 a1_2 l1_3 l1_4 t103).bind fun t104 => (if t104 < 0 then (some true) else ((laws_toOut.f k a0_0 a0_1 a0_2 l0_3 l0_4).bind fun bt105 => ((laws_toOut.f k a1_0 a1_1 a1_2 l1_3 l1_4).bind fun bt114 => ((spec_SameOut.f k bt105.1 bt105.2.1 bt105.2.2.1 bt105.2.2.2.1 bt105.2.2.2.2 bt114.1 bt114.2.1 bt114.2.2.1 bt114.2.2.2.1 bt114.2.2.2.2).bind fun t123 => ((laws_toOut.f k a0_0 a0_1 a0_2 l0_3 l0_4).bind fun bt124 => ((laws_toOut.f k a1_0 a1_1 a1_2 l1_3 l1_4).bind fun bt134 => ((impl_SameOut.f k bt124.1 bt124.2.1 bt124.2.2.1 bt124.2.2.2.1 bt124.2.2.2.2 bt134.1 bt134.2.1 bt134.2.2.1 bt134.2.2.2.1 bt134.2.2.2.2).bind fun t144 => (if (t144 != t123) = true then (none) else ((laws_toOut.f k a0_0 a0_1 a0_2 l0_3 l0_4).bind fun bt145 => ((laws_eqOut.f k bt124.1 bt124.2.1 bt124.2.2.1 bt124.2.2.2.1 bt124.2.2.2.2 bt145.1 bt145.2.1 bt145.2.2.1 bt145.2.2.2.1 bt145.2.2.2.2).bind fun t154 => (if t154 = true then ((laws_toOut.f k a1_0 a1_1 a1_2 l1_3 l1_4).bind fun bt155 => ((laws_eqOut.f k bt134.1 bt134.2.1 bt134.2.2.1 bt134.2.2.2.1 bt134.2.2.2.2 bt155.1 bt155.2.1 bt155.2.2.1 bt155.2.2.2.1 bt155.2.2.2.2).bind fun t164 => (if t164 = true then (some true) else (none)))) else (none))))))))))))))
def laws_FnExactSameOut.y0 : Array Bool := #[false, false, false, false, false, false]
def laws_FnExactSameOut.y1 : Array Bool := #[true, false, false, false, false, false]
def laws_FnExactSameOut.y2 : Array Bool := #[true, false, true, false, false, false]
def laws_FnExactSameOut.y3 : Array Bool := #[true, true, true, false, false, false]
def laws_FnExactSameOut.y4 : Array Bool := #[true, true, true, true, false, false]
def laws_FnExactSameOut.y5 : Array Bool := #[true, true, true, true, true, false]
def laws_FnExactSameOut.y6 : Array Bool := #[true, true, true, true, true, true]
set_option maxHeartbeats 8000000 in
set_option maxRecDepth 100000 in
theorem laws_FnExactSameOut.calls (k : Nat) (a0_0 : Int) (a0_1 : Int) (a0_2 : ByteArray) (A0_3 : Option Addr) (c0_3 : Nat) (l0_3 : List ByteArray) (A0_4 : Option Addr) (c0_4 : Nat) (l0_4 : List (S41)) (a1_0 : Int) (a1_1 : Int) (a1_2 : ByteArray) (A1_3 : Option Addr) (c1_3 : Nat) (l1_3 : List ByteArray) (A1_4 : Option Addr) (c1_4 : Nat) (l1_4 : List (S41)) (r : Bool) (w : World) (hr0_3 : Kd.C Kd.string w A0_3 l0_3.length l0_3) (hc0_3 : l0_3.length ≤ c0_3) (hr0_4 : Kd.C k41 w A0_4 l0_4.length l0_4) (hc0_4 : l0_4.length ≤ c0_4) (hr1_3 : Kd.C Kd.string w A1_3 l1_3.length l1_3) (hc1_3 : l1_3.length ≤ c1_3) (hr1_4 : Kd.C k41 w A1_4 l1_4.length l1_4) (hc1_4 : l1_4.length ≤ c1_4) (h : laws_FnExactSameOut.f k a0_0 a0_1 a0_2 l0_3 l0_4 a1_0 a1_1 a1_2 l1_3 l1_4 = some r) :
  Calls Try.prog 6 #[.agg #[.int .i64 a0_0, .int .i64 a0_1, .string a0_2, .slice A0_3 l0_3.length c0_3, .slice A0_4 l0_4.length c0_4], .agg #[.int .i64 a1_0, .int .i64 a1_1, .string a1_2, .slice A1_3 l1_3.length c1_3, .slice A1_4 l1_4.length c1_4]] w fun e w' => e = .returned (.bool r) ∧ Below w.heap.size w w' := by
 have hu41 := Try.underlying41; have hu46 := Try.underlying46; have HR0_3 := qO hr0_3; have HC0_3 := qO hc0_3; clear hr0_3 hc0_3; have HR0_4 := qO hr0_4; have HC0_4 := qO hc0_4; clear hr0_4 hc0_4; have HR1_3 := qO hr1_3; have HC1_3 := qO hc1_3; clear hr1_3 hc1_3; have HR1_4 := qO hr1_4; have HC1_4 := qO hc1_4; clear hr1_4 hc1_4; have HB := qO (Below.refl w.heap.size w); have H : ((laws_szOut.f k a0_0 a0_1 a0_2 l0_3 l0_4 1048576).bind fun t103 => (if t103 < 0 then (some true) else ((laws_szOut.f k a1_0 a1_1 a1_2 l1_3 l1_4 t103).bind fun t104 => (if t104 < 0 then (some true) else ((laws_toOut.f k a0_0 a0_1 a0_2 l0_3 l0_4).bind fun bt105 => ((laws_toOut.f k a1_0 a1_1 a1_2 l1_3 l1_4).bind fun bt114 => ((spec_SameOut.f k bt105.1 bt105.2.1 bt105.2.2.1 bt105.2.2.2.1 bt105.2.2.2.2 bt114.1 bt114.2.1 bt114.2.2.1 bt114.2.2.2.1 bt114.2.2.2.2).bind fun t123 => ((laws_toOut.f k a0_0 a0_1 a0_2 l0_3 l0_4).bind fun bt124 => ((laws_toOut.f k a1_0 a1_1 a1_2 l1_3 l1_4).bind fun bt134 => ((impl_SameOut.f k bt124.1 bt124.2.1 bt124.2.2.1 bt124.2.2.2.1 bt124.2.2.2.2 bt134.1 bt134.2.1 bt134.2.2.1 bt134.2.2.2.1 bt134.2.2.2.2).bind fun t144 => (if (t144 != t123) = true then (none) else ((laws_toOut.f k a0_0 a0_1 a0_2 l0_3 l0_4).bind fun bt145 => ((laws_eqOut.f k bt124.1 bt124.2.1 bt124.2.2.1 bt124.2.2.2.1 bt124.2.2.2.2 bt145.1 bt145.2.1 bt145.2.2.1 bt145.2.2.2.1 bt145.2.2.2.2).bind fun t154 => (if t154 = true then ((laws_toOut.f k a1_0 a1_1 a1_2 l1_3 l1_4).bind fun bt155 => ((laws_eqOut.f k bt134.1 bt134.2.1 bt134.2.2.1 bt134.2.2.2.1 bt134.2.2.2.2 bt155.1 bt155.2.1 bt155.2.2.1 bt155.2.2.2.1 bt155.2.2.2.2).bind fun t164 => (if t164 = true then (some true) else (none)))) else (none))))))))))))))) = some r := h; clear h; replace H := Option.bind_eq_some_iff.mp H; obtain ⟨t103, A30, H⟩ := H; replace H : (if t103 < 0 then (some true) else ((laws_szOut.f k a1_0 a1_1 a1_2 l1_3 l1_4 t103).bind fun t104 => (if t104 < 0 then (some true) else ((laws_toOut.f k a0_0 a0_1 a0_2 l0_3 l0_4).bind fun bt105 => ((laws_toOut.f k a1_0 a1_1 a1_2 l1_3 l1_4).bind fun bt114 => ((spec_SameOut.f k bt105.1 bt105.2.1 bt105.2.2.1 bt105.2.2.2.1 bt105.2.2.2.2 bt114.1 bt114.2.1 bt114.2.2.1 bt114.2.2.2.1 bt114.2.2.2.2).bind fun t123 => ((laws_toOut.f k a0_0 a0_1 a0_2 l0_3 l0_4).bind fun bt124 => ((laws_toOut.f k a1_0 a1_1 a1_2 l1_3 l1_4).bind fun bt134 => ((impl_SameOut.f k bt124.1 bt124.2.1 bt124.2.2.1 bt124.2.2.2.1 bt124.2.2.2.2 bt134.1 bt134.2.1 bt134.2.2.1 bt134.2.2.2.1 bt134.2.2.2.2).bind fun t144 => (if (t144 != t123) = true then (none) else ((laws_toOut.f k a0_0 a0_1 a0_2 l0_3 l0_4).bind fun bt145 => ((laws_eqOut.f k bt124.1 bt124.2.1 bt124.2.2.1 bt124.2.2.2.1 bt124.2.2.2.2 bt145.1 bt145.2.1 bt145.2.2.1 bt145.2.2.2.1 bt145.2.2.2.2).bind fun t154 => (if t154 = true then ((laws_toOut.f k a1_0 a1_1 a1_2 l1_3 l1_4).bind fun bt155 => ((laws_eqOut.f k bt134.1 bt134.2.1 bt134.2.2.1 bt134.2.2.2.1 bt134.2.2.2.2 bt155.1 bt155.2.1 bt155.2.2.1 bt155.2.2.2.1 bt155.2.2.2.2).bind fun t164 => (if t164 = true then (some true) else (none)))) else (none)))))))))))))) = some r := H; have A3 := qO A30; clear A30
 by_cases c4 : t103 < 0
 ·rw [if_pos c4] at H
  have c4b0 : decide (t103 < 0) = true := decide_eq_true c4; clear c4; obtain rfl := Option.some.inj H
  go_enter Try.func6, Try.ntmps6
  go_wp2_with (first | ((with_reducible refine gate_dst (N := 2) rfl ?_); refine box_event ?hg (N := 2) ?hd (cs := #[.int .i64 a0_0, .int .i64 a0_1, .string a0_2, .slice A0_3 l0_3.length c0_3, .slice A0_4 l0_4.length c0_4]) (t := 41) ?hr ?_; (case hd => rfl); (case hg => rfl); (case hr => exact qa21); intro gb101 hg w5 hbox hb; have hx_ := qHX HB hb qa0; have n0_ := qO (below_step (below_step HB.out hx_) hb); have n1_ := qO (hbox); have n2_ := qO ((qa15 : w.heap.size ≤ gb101)); have n3_ := n2_; clear HB; have HB := n0_; have BK101 := n1_; have GW101 := n2_; have GE101 := n3_; clear n0_ n1_ n2_ n3_; clear hx_; clear hb hbox hg) | ((with_reducible refine gate_dst (N := 3) rfl ?_); refine box_event ?hg (N := 3) ?hd (cs := #[.int .i64 a1_0, .int .i64 a1_1, .string a1_2, .slice A1_3 l1_3.length c1_3, .slice A1_4 l1_4.length c1_4]) (t := 41) ?hr ?_; (case hd => rfl); (case hg => rfl); (case hr => exact qa21); intro gb102 hg w6 hbox hb; have hx_ := qHX HB hb qa0; have n0_ := qO (qB BK101.out hx_ hb); have n1_ := qO (below_step (below_step HB.out hx_) hb); have n2_ := qO (hbox); have n3_ := qO ((qa15 : w.heap.size ≤ gb102)); have n4_ := n3_; have n5_ := qO ((qa20 : gb101 ≠ gb102)); have n6_ := qO (Ne.symm n5_.out); clear BK101; clear HB; have BK101 := n0_; have HB := n1_; have BK102 := n2_; have GW102 := n3_; have GE102 := n4_; have NB101_102 := n5_; have NB102_101 := n6_; clear n0_ n1_ n2_ n3_ n4_ n5_ n6_; clear hx_; clear hb hbox hg; have hnb7 := NB101_102.out; have hnc7 := NB102_101.out; have hcz8_0 : w6.cell? ⟨gb101, 0, none⟩ = some (.int .i64 a0_0) := (blk_cell BK101.out 0).trans rfl; have hcz8_1 : w6.cell? ⟨gb101, 1, none⟩ = some (.int .i64 a0_1) := (blk_cell BK101.out 1).trans rfl; have hcz8_2 : w6.cell? ⟨gb101, 2, none⟩ = some (.string a0_2) := (blk_cell BK101.out 2).trans rfl; have hcz8_3 : w6.cell? ⟨gb101, 3, none⟩ = some (.slice A0_3 l0_3.length c0_3) := (blk_cell BK101.out 3).trans rfl; have hcz8_4 : w6.cell? ⟨gb101, 4, none⟩ = some (.slice A0_4 l0_4.length c0_4) := (blk_cell BK101.out 4).trans rfl; have hfz8_0 := blk_frozen BK101.out 0; have hfz8_1 := blk_frozen BK101.out 1; have hfz8_2 := blk_frozen BK101.out 2; have hfz8_3 := blk_frozen BK101.out 3; have hfz8_4 := blk_frozen BK101.out 4) | ((with_reducible refine gate_callee (f := 21) rfl ?_); refine goesL_ (some 12) rfl rfl Try.func21 qa10 rfl #[.agg #[.int .i64 a0_0, .int .i64 a0_1, .string a0_2, .slice A0_3 l0_3.length c0_3, .slice A0_4 l0_4.length c0_4], .int .i64 1048576] rfl qa1 ?_; (with_reducible refine (laws_szOut.calls k a0_0 a0_1 a0_2 _ _ l0_3 _ _ l0_4 1048576 t103 _ ?side1 ?side2 ?side3 ?side4 A3.out).mono ?_); (case side1 => exact qa14); (case side2 => exact HC0_3.out); (case side3 => exact qa19); (case side4 => exact HC0_4.out); rintro e w9 ⟨rfl, hb⟩; have hx_ := qHX HB hb qa0; refine ⟨_, rfl, ?_⟩; have n0_ := qO (qB BK101.out hx_ hb); have n1_ := qO (qB BK102.out hx_ hb); have n2_ := qO (below_step (below_step HB.out hx_) hb); clear BK101; clear BK102; clear HB; have BK101 := n0_; have BK102 := n1_; have HB := n2_; clear n0_ n1_ n2_; clear hx_; (try clear hb); (try clear hb2); (try clear hk); (try clear hi)))
  go_ret
  exact ⟨qa4, qa8⟩
 ·rw [if_neg c4] at H
  have c4b0 : decide (t103 < 0) = false := decide_eq_false c4; clear c4; replace H := Option.bind_eq_some_iff.mp H; obtain ⟨t104, A100, H⟩ := H; replace H : (if t104 < 0 then (some true) else ((laws_toOut.f k a0_0 a0_1 a0_2 l0_3 l0_4).bind fun bt105 => ((laws_toOut.f k a1_0 a1_1 a1_2 l1_3 l1_4).bind fun bt114 => ((spec_SameOut.f k bt105.1 bt105.2.1 bt105.2.2.1 bt105.2.2.2.1 bt105.2.2.2.2 bt114.1 bt114.2.1 bt114.2.2.1 bt114.2.2.2.1 bt114.2.2.2.2).bind fun t123 => ((laws_toOut.f k a0_0 a0_1 a0_2 l0_3 l0_4).bind fun bt124 => ((laws_toOut.f k a1_0 a1_1 a1_2 l1_3 l1_4).bind fun bt134 => ((impl_SameOut.f k bt124.1 bt124.2.1 bt124.2.2.1 bt124.2.2.2.1 bt124.2.2.2.2 bt134.1 bt134.2.1 bt134.2.2.1 bt134.2.2.2.1 bt134.2.2.2.2).bind fun t144 => (if (t144 != t123) = true then (none) else ((laws_toOut.f k a0_0 a0_1 a0_2 l0_3 l0_4).bind fun bt145 => ((laws_eqOut.f k bt124.1 bt124.2.1 bt124.2.2.1 bt124.2.2.2.1 bt124.2.2.2.2 bt145.1 bt145.2.1 bt145.2.2.1 bt145.2.2.2.1 bt145.2.2.2.2).bind fun t154 => (if t154 = true then ((laws_toOut.f k a1_0 a1_1 a1_2 l1_3 l1_4).bind fun bt155 => ((laws_eqOut.f k bt134.1 bt134.2.1 bt134.2.2.1 bt134.2.2.2.1 bt134.2.2.2.2 bt155.1 bt155.2.1 bt155.2.2.1 bt155.2.2.2.1 bt155.2.2.2.2).bind fun t164 => (if t164 = true then (some true) else (none)))) else (none)))))))))))) = some r := H; have A10 := qO A100; clear A100
  by_cases c11 : t104 < 0
  ·rw [if_pos c11] at H
   have c11b0 : decide (t104 < 0) = true := decide_eq_true c11; clear c11; obtain rfl := Option.some.inj H
   go_enter Try.func6, Try.ntmps6
   go_wp2_with (first | ((with_reducible refine gate_dst (N := 2) rfl ?_); refine box_event ?hg (N := 2) ?hd (cs := #[.int .i64 a0_0, .int .i64 a0_1, .string a0_2, .slice A0_3 l0_3.length c0_3, .slice A0_4 l0_4.length c0_4]) (t := 41) ?hr ?_; (case hd => rfl); (case hg => rfl); (case hr => exact qa21); intro gb101 hg w12 hbox hb; have hx_ := qHX HB hb qa0; have n0_ := qO (below_step (below_step HB.out hx_) hb); have n1_ := qO (hbox); have n2_ := qO ((qa15 : w.heap.size ≤ gb101)); have n3_ := n2_; clear HB; have HB := n0_; have BK101 := n1_; have GW101 := n2_; have GE101 := n3_; clear n0_ n1_ n2_ n3_; clear hx_; clear hb hbox hg) | ((with_reducible refine gate_dst (N := 3) rfl ?_); refine box_event ?hg (N := 3) ?hd (cs := #[.int .i64 a1_0, .int .i64 a1_1, .string a1_2, .slice A1_3 l1_3.length c1_3, .slice A1_4 l1_4.length c1_4]) (t := 41) ?hr ?_; (case hd => rfl); (case hg => rfl); (case hr => exact qa21); intro gb102 hg w13 hbox hb; have hx_ := qHX HB hb qa0; have n0_ := qO (qB BK101.out hx_ hb); have n1_ := qO (below_step (below_step HB.out hx_) hb); have n2_ := qO (hbox); have n3_ := qO ((qa15 : w.heap.size ≤ gb102)); have n4_ := n3_; have n5_ := qO ((qa20 : gb101 ≠ gb102)); have n6_ := qO (Ne.symm n5_.out); clear BK101; clear HB; have BK101 := n0_; have HB := n1_; have BK102 := n2_; have GW102 := n3_; have GE102 := n4_; have NB101_102 := n5_; have NB102_101 := n6_; clear n0_ n1_ n2_ n3_ n4_ n5_ n6_; clear hx_; clear hb hbox hg; have hnb14 := NB101_102.out; have hnc14 := NB102_101.out; have hcz15_0 : w13.cell? ⟨gb101, 0, none⟩ = some (.int .i64 a0_0) := (blk_cell BK101.out 0).trans rfl; have hcz15_1 : w13.cell? ⟨gb101, 1, none⟩ = some (.int .i64 a0_1) := (blk_cell BK101.out 1).trans rfl; have hcz15_2 : w13.cell? ⟨gb101, 2, none⟩ = some (.string a0_2) := (blk_cell BK101.out 2).trans rfl; have hcz15_3 : w13.cell? ⟨gb101, 3, none⟩ = some (.slice A0_3 l0_3.length c0_3) := (blk_cell BK101.out 3).trans rfl; have hcz15_4 : w13.cell? ⟨gb101, 4, none⟩ = some (.slice A0_4 l0_4.length c0_4) := (blk_cell BK101.out 4).trans rfl; have hfz15_0 := blk_frozen BK101.out 0; have hfz15_1 := blk_frozen BK101.out 1; have hfz15_2 := blk_frozen BK101.out 2; have hfz15_3 := blk_frozen BK101.out 3; have hfz15_4 := blk_frozen BK101.out 4) | ((with_reducible refine gate_callee (f := 21) rfl ?_); refine goesL_ (some 12) rfl rfl Try.func21 qa10 rfl #[.agg #[.int .i64 a0_0, .int .i64 a0_1, .string a0_2, .slice A0_3 l0_3.length c0_3, .slice A0_4 l0_4.length c0_4], .int .i64 1048576] rfl qa1 ?_; (with_reducible refine (laws_szOut.calls k a0_0 a0_1 a0_2 _ _ l0_3 _ _ l0_4 1048576 t103 _ ?side1 ?side2 ?side3 ?side4 A3.out).mono ?_); (case side1 => exact qa14); (case side2 => exact HC0_3.out); (case side3 => exact qa19); (case side4 => exact HC0_4.out); rintro e w16 ⟨rfl, hb⟩; have hx_ := qHX HB hb qa0; refine ⟨_, rfl, ?_⟩; have n0_ := qO (qB BK101.out hx_ hb); have n1_ := qO (qB BK102.out hx_ hb); have n2_ := qO (below_step (below_step HB.out hx_) hb); clear BK101; clear BK102; clear HB; have BK101 := n0_; have BK102 := n1_; have HB := n2_; clear n0_ n1_ n2_; clear hx_; (try clear hb); (try clear hb2); (try clear hk); (try clear hi); have hcz17_0 : w16.cell? ⟨gb102, 0, none⟩ = some (.int .i64 a1_0) := (blk_cell BK102.out 0).trans rfl; have hcz17_1 : w16.cell? ⟨gb102, 1, none⟩ = some (.int .i64 a1_1) := (blk_cell BK102.out 1).trans rfl; have hcz17_2 : w16.cell? ⟨gb102, 2, none⟩ = some (.string a1_2) := (blk_cell BK102.out 2).trans rfl; have hcz17_3 : w16.cell? ⟨gb102, 3, none⟩ = some (.slice A1_3 l1_3.length c1_3) := (blk_cell BK102.out 3).trans rfl; have hcz17_4 : w16.cell? ⟨gb102, 4, none⟩ = some (.slice A1_4 l1_4.length c1_4) := (blk_cell BK102.out 4).trans rfl; have hfz17_0 := blk_frozen BK102.out 0; have hfz17_1 := blk_frozen BK102.out 1; have hfz17_2 := blk_frozen BK102.out 2; have hfz17_3 := blk_frozen BK102.out 3; have hfz17_4 := blk_frozen BK102.out 4) | ((with_reducible refine gate_callee (f := 21) rfl ?_); refine goesL_ (some 17) rfl rfl Try.func21 qa10 rfl #[.agg #[.int .i64 a1_0, .int .i64 a1_1, .string a1_2, .slice A1_3 l1_3.length c1_3, .slice A1_4 l1_4.length c1_4], .int .i64 t103] rfl qa1 ?_; (with_reducible refine (laws_szOut.calls k a1_0 a1_1 a1_2 _ _ l1_3 _ _ l1_4 t103 t104 _ ?side1 ?side2 ?side3 ?side4 A10.out).mono ?_); (case side1 => exact qa18); (case side2 => exact HC1_3.out); (case side3 => exact qa29); (case side4 => exact HC1_4.out); rintro e w18 ⟨rfl, hb⟩; have hx_ := qHX HB hb qa0; refine ⟨_, rfl, ?_⟩; have n0_ := qO (qB BK101.out hx_ hb); have n1_ := qO (qB BK102.out hx_ hb); have n2_ := qO (below_step (below_step HB.out hx_) hb); clear BK101; clear BK102; clear HB; have BK101 := n0_; have BK102 := n1_; have HB := n2_; clear n0_ n1_ n2_; clear hx_; (try clear hb); (try clear hb2); (try clear hk); (try clear hi)))
   go_ret
   exact ⟨qa4, qa8⟩
  ·rw [if_neg c11] at H
   have c11b0 : decide (t104 < 0) = false := decide_eq_false c11; clear c11; replace H := Option.bind_eq_some_iff.mp H; obtain ⟨⟨t105, t106, t107, t108, t111⟩, A190, H⟩ := H; replace H : ((laws_toOut.f k a1_0 a1_1 a1_2 l1_3 l1_4).bind fun bt114 => ((spec_SameOut.f k t105 t106 t107 t108 t111 bt114.1 bt114.2.1 bt114.2.2.1 bt114.2.2.2.1 bt114.2.2.2.2).bind fun t123 => ((laws_toOut.f k a0_0 a0_1 a0_2 l0_3 l0_4).bind fun bt124 => ((laws_toOut.f k a1_0 a1_1 a1_2 l1_3 l1_4).bind fun bt134 => ((impl_SameOut.f k bt124.1 bt124.2.1 bt124.2.2.1 bt124.2.2.2.1 bt124.2.2.2.2 bt134.1 bt134.2.1 bt134.2.2.1 bt134.2.2.2.1 bt134.2.2.2.2).bind fun t144 => (if (t144 != t123) = true then (none) else ((laws_toOut.f k a0_0 a0_1 a0_2 l0_3 l0_4).bind fun bt145 => ((laws_eqOut.f k bt124.1 bt124.2.1 bt124.2.2.1 bt124.2.2.2.1 bt124.2.2.2.2 bt145.1 bt145.2.1 bt145.2.2.1 bt145.2.2.2.1 bt145.2.2.2.2).bind fun t154 => (if t154 = true then ((laws_toOut.f k a1_0 a1_1 a1_2 l1_3 l1_4).bind fun bt155 => ((laws_eqOut.f k bt134.1 bt134.2.1 bt134.2.2.1 bt134.2.2.2.1 bt134.2.2.2.2 bt155.1 bt155.2.1 bt155.2.2.1 bt155.2.2.2.1 bt155.2.2.2.2).bind fun t164 => (if t164 = true then (some true) else (none)))) else (none)))))))))) = some r := H; have A19 := qO A190; clear A190; replace H := Option.bind_eq_some_iff.mp H; obtain ⟨⟨t114, t115, t116, t117, t120⟩, A200, H⟩ := H; replace H : ((spec_SameOut.f k t105 t106 t107 t108 t111 t114 t115 t116 t117 t120).bind fun t123 => ((laws_toOut.f k a0_0 a0_1 a0_2 l0_3 l0_4).bind fun bt124 => ((laws_toOut.f k a1_0 a1_1 a1_2 l1_3 l1_4).bind fun bt134 => ((impl_SameOut.f k bt124.1 bt124.2.1 bt124.2.2.1 bt124.2.2.2.1 bt124.2.2.2.2 bt134.1 bt134.2.1 bt134.2.2.1 bt134.2.2.2.1 bt134.2.2.2.2).bind fun t144 => (if (t144 != t123) = true then (none) else ((laws_toOut.f k a0_0 a0_1 a0_2 l0_3 l0_4).bind fun bt145 => ((laws_eqOut.f k bt124.1 bt124.2.1 bt124.2.2.1 bt124.2.2.2.1 bt124.2.2.2.2 bt145.1 bt145.2.1 bt145.2.2.1 bt145.2.2.2.1 bt145.2.2.2.2).bind fun t154 => (if t154 = true then ((laws_toOut.f k a1_0 a1_1 a1_2 l1_3 l1_4).bind fun bt155 => ((laws_eqOut.f k bt134.1 bt134.2.1 bt134.2.2.1 bt134.2.2.2.1 bt134.2.2.2.2 bt155.1 bt155.2.1 bt155.2.2.1 bt155.2.2.2.1 bt155.2.2.2.2).bind fun t164 => (if t164 = true then (some true) else (none)))) else (none))))))))) = some r := H; have A20 := qO A200; clear A200; replace H := Option.bind_eq_some_iff.mp H; obtain ⟨t123, A210, H⟩ := H; replace H : ((laws_toOut.f k a0_0 a0_1 a0_2 l0_3 l0_4).bind fun bt124 => ((laws_toOut.f k a1_0 a1_1 a1_2 l1_3 l1_4).bind fun bt134 => ((impl_SameOut.f k bt124.1 bt124.2.1 bt124.2.2.1 bt124.2.2.2.1 bt124.2.2.2.2 bt134.1 bt134.2.1 bt134.2.2.1 bt134.2.2.2.1 bt134.2.2.2.2).bind fun t144 => (if (t144 != t123) = true then (none) else ((laws_toOut.f k a0_0 a0_1 a0_2 l0_3 l0_4).bind fun bt145 => ((laws_eqOut.f k bt124.1 bt124.2.1 bt124.2.2.1 bt124.2.2.2.1 bt124.2.2.2.2 bt145.1 bt145.2.1 bt145.2.2.1 bt145.2.2.2.1 bt145.2.2.2.2).bind fun t154 => (if t154 = true then ((laws_toOut.f k a1_0 a1_1 a1_2 l1_3 l1_4).bind fun bt155 => ((laws_eqOut.f k bt134.1 bt134.2.1 bt134.2.2.1 bt134.2.2.2.1 bt134.2.2.2.2 bt155.1 bt155.2.1 bt155.2.2.1 bt155.2.2.2.1 bt155.2.2.2.2).bind fun t164 => (if t164 = true then (some true) else (none)))) else (none)))))))) = some r := H; have A21 := qO A210; clear A210; replace H := Option.bind_eq_some_iff.mp H; obtain ⟨⟨t124, t125, t126, t127, t130⟩, A220, H⟩ := H; replace H : ((laws_toOut.f k a1_0 a1_1 a1_2 l1_3 l1_4).bind fun bt134 => ((impl_SameOut.f k t124 t125 t126 t127 t130 bt134.1 bt134.2.1 bt134.2.2.1 bt134.2.2.2.1 bt134.2.2.2.2).bind fun t144 => (if (t144 != t123) = true then (none) else ((laws_toOut.f k a0_0 a0_1 a0_2 l0_3 l0_4).bind fun bt145 => ((laws_eqOut.f k t124 t125 t126 t127 t130 bt145.1 bt145.2.1 bt145.2.2.1 bt145.2.2.2.1 bt145.2.2.2.2).bind fun t154 => (if t154 = true then ((laws_toOut.f k a1_0 a1_1 a1_2 l1_3 l1_4).bind fun bt155 => ((laws_eqOut.f k bt134.1 bt134.2.1 bt134.2.2.1 bt134.2.2.2.1 bt134.2.2.2.2 bt155.1 bt155.2.1 bt155.2.2.1 bt155.2.2.2.1 bt155.2.2.2.2).bind fun t164 => (if t164 = true then (some true) else (none)))) else (none))))))) = some r := H; have A22 := qO A220; clear A220; replace H := Option.bind_eq_some_iff.mp H; obtain ⟨⟨t134, t135, t136, t137, t140⟩, A230, H⟩ := H; replace H : ((impl_SameOut.f k t124 t125 t126 t127 t130 t134 t135 t136 t137 t140).bind fun t144 => (if (t144 != t123) = true then (none) else ((laws_toOut.f k a0_0 a0_1 a0_2 l0_3 l0_4).bind fun bt145 => ((laws_eqOut.f k t124 t125 t126 t127 t130 bt145.1 bt145.2.1 bt145.2.2.1 bt145.2.2.2.1 bt145.2.2.2.2).bind fun t154 => (if t154 = true then ((laws_toOut.f k a1_0 a1_1 a1_2 l1_3 l1_4).bind fun bt155 => ((laws_eqOut.f k t134 t135 t136 t137 t140 bt155.1 bt155.2.1 bt155.2.2.1 bt155.2.2.2.1 bt155.2.2.2.2).bind fun t164 => (if t164 = true then (some true) else (none)))) else (none)))))) = some r := H; have A23 := qO A230; clear A230; replace H := Option.bind_eq_some_iff.mp H; obtain ⟨t144, A240, H⟩ := H; replace H : (if (t144 != t123) = true then (none) else ((laws_toOut.f k a0_0 a0_1 a0_2 l0_3 l0_4).bind fun bt145 => ((laws_eqOut.f k t124 t125 t126 t127 t130 bt145.1 bt145.2.1 bt145.2.2.1 bt145.2.2.2.1 bt145.2.2.2.2).bind fun t154 => (if t154 = true then ((laws_toOut.f k a1_0 a1_1 a1_2 l1_3 l1_4).bind fun bt155 => ((laws_eqOut.f k t134 t135 t136 t137 t140 bt155.1 bt155.2.1 bt155.2.2.1 bt155.2.2.2.1 bt155.2.2.2.2).bind fun t164 => (if t164 = true then (some true) else (none)))) else (none))))) = some r := H; have A24 := qO A240; clear A240
   by_cases c25 : (t144 != t123) = true
   ·rw [if_pos c25] at H
    exact absurd H qa70
   ·rw [if_neg c25] at H
    have c25b0 : (t144 != t123) = false := by simpa using c25
    (try (have c25b1 : decide (t144 = t123) = true := by simpa using c25)); (try (have c25b2 : (t144 == t123) = true := by simpa using c25)); clear c25; replace H := Option.bind_eq_some_iff.mp H; obtain ⟨⟨t145, t146, t147, t148, t151⟩, A260, H⟩ := H; replace H : ((laws_eqOut.f k t124 t125 t126 t127 t130 t145 t146 t147 t148 t151).bind fun t154 => (if t154 = true then ((laws_toOut.f k a1_0 a1_1 a1_2 l1_3 l1_4).bind fun bt155 => ((laws_eqOut.f k t134 t135 t136 t137 t140 bt155.1 bt155.2.1 bt155.2.2.1 bt155.2.2.2.1 bt155.2.2.2.2).bind fun t164 => (if t164 = true then (some true) else (none)))) else (none))) = some r := H; have A26 := qO A260; clear A260; replace H := Option.bind_eq_some_iff.mp H; obtain ⟨t154, A270, H⟩ := H; replace H : (if t154 = true then ((laws_toOut.f k a1_0 a1_1 a1_2 l1_3 l1_4).bind fun bt155 => ((laws_eqOut.f k t134 t135 t136 t137 t140 bt155.1 bt155.2.1 bt155.2.2.1 bt155.2.2.2.1 bt155.2.2.2.2).bind fun t164 => (if t164 = true then (some true) else (none)))) else (none)) = some r := H; have A27 := qO A270; clear A270
    by_cases c28 : t154 = true
    ·subst c28
     have H1 : ((laws_toOut.f k a1_0 a1_1 a1_2 l1_3 l1_4).bind fun bt155 => ((laws_eqOut.f k t134 t135 t136 t137 t140 bt155.1 bt155.2.1 bt155.2.2.1 bt155.2.2.2.1 bt155.2.2.2.2).bind fun t164 => (if t164 = true then (some true) else (none)))) = some r := by rw [if_pos rfl] at H; exact H
     clear H; have H := H1; clear H1; replace H := Option.bind_eq_some_iff.mp H; obtain ⟨⟨t155, t156, t157, t158, t161⟩, A290, H⟩ := H; replace H : ((laws_eqOut.f k t134 t135 t136 t137 t140 t155 t156 t157 t158 t161).bind fun t164 => (if t164 = true then (some true) else (none))) = some r := H; have A29 := qO A290; clear A290; replace H := Option.bind_eq_some_iff.mp H; obtain ⟨t164, A300, H⟩ := H; replace H : (if t164 = true then (some true) else (none)) = some r := H; have A30 := qO A300; clear A300
     by_cases c31 : t164 = true
     ·subst c31
      have H1 : (some true) = some r := by rw [if_pos rfl] at H; exact H
      clear H; have H := H1; clear H1; obtain rfl := Option.some.inj H
      go_enter Try.func6, Try.ntmps6
      try go_wp2_with (first | ((with_reducible refine gate_dst (N := 2) rfl ?_); refine box_event ?hg (N := 2) ?hd (cs := #[.int .i64 a0_0, .int .i64 a0_1, .string a0_2, .slice A0_3 l0_3.length c0_3, .slice A0_4 l0_4.length c0_4]) (t := 41) ?hr ?_; (case hd => rfl); (case hg => rfl); (case hr => exact qa21); intro gb101 hg w32 hbox hb; have hx_ := qHX HB hb qa0; have n0_ := qO (below_step (below_step HB.out hx_) hb); have n1_ := qO (hbox); have n2_ := qO ((qa15 : w.heap.size ≤ gb101)); have n3_ := n2_; clear HB; have HB := n0_; have BK101 := n1_; have GW101 := n2_; have GE101 := n3_; clear n0_ n1_ n2_ n3_; clear hx_; clear hb hbox hg) | ((with_reducible refine gate_dst (N := 3) rfl ?_); refine box_event ?hg (N := 3) ?hd (cs := #[.int .i64 a1_0, .int .i64 a1_1, .string a1_2, .slice A1_3 l1_3.length c1_3, .slice A1_4 l1_4.length c1_4]) (t := 41) ?hr ?_; (case hd => rfl); (case hg => rfl); (case hr => exact qa21); intro gb102 hg w33 hbox hb; have hx_ := qHX HB hb qa0; have n0_ := qO (qB BK101.out hx_ hb); have n1_ := qO (below_step (below_step HB.out hx_) hb); have n2_ := qO (hbox); have n3_ := qO ((qa15 : w.heap.size ≤ gb102)); have n4_ := n3_; have n5_ := qO ((qa20 : gb101 ≠ gb102)); have n6_ := qO (Ne.symm n5_.out); clear BK101; clear HB; have BK101 := n0_; have HB := n1_; have BK102 := n2_; have GW102 := n3_; have GE102 := n4_; have NB101_102 := n5_; have NB102_101 := n6_; clear n0_ n1_ n2_ n3_ n4_ n5_ n6_; clear hx_; clear hb hbox hg; have hnb34 := NB101_102.out; have hnc34 := NB102_101.out; have hcz35_0 : w33.cell? ⟨gb101, 0, none⟩ = some (.int .i64 a0_0) := (blk_cell BK101.out 0).trans rfl; have hcz35_1 : w33.cell? ⟨gb101, 1, none⟩ = some (.int .i64 a0_1) := (blk_cell BK101.out 1).trans rfl; have hcz35_2 : w33.cell? ⟨gb101, 2, none⟩ = some (.string a0_2) := (blk_cell BK101.out 2).trans rfl; have hcz35_3 : w33.cell? ⟨gb101, 3, none⟩ = some (.slice A0_3 l0_3.length c0_3) := (blk_cell BK101.out 3).trans rfl; have hcz35_4 : w33.cell? ⟨gb101, 4, none⟩ = some (.slice A0_4 l0_4.length c0_4) := (blk_cell BK101.out 4).trans rfl; have hfz35_0 := blk_frozen BK101.out 0; have hfz35_1 := blk_frozen BK101.out 1; have hfz35_2 := blk_frozen BK101.out 2; have hfz35_3 := blk_frozen BK101.out 3; have hfz35_4 := blk_frozen BK101.out 4) | ((with_reducible refine gate_callee (f := 21) rfl ?_); refine goesL_ (some 12) rfl rfl Try.func21 qa10 rfl #[.agg #[.int .i64 a0_0, .int .i64 a0_1, .string a0_2, .slice A0_3 l0_3.length c0_3, .slice A0_4 l0_4.length c0_4], .int .i64 1048576] rfl qa1 ?_; (with_reducible refine (laws_szOut.calls k a0_0 a0_1 a0_2 _ _ l0_3 _ _ l0_4 1048576 t103 _ ?side1 ?side2 ?side3 ?side4 A3.out).mono ?_); (case side1 => exact qa14); (case side2 => exact HC0_3.out); (case side3 => exact qa19); (case side4 => exact HC0_4.out); rintro e w36 ⟨rfl, hb⟩; have hx_ := qHX HB hb qa0; refine ⟨_, rfl, ?_⟩; have n0_ := qO (qB BK101.out hx_ hb); have n1_ := qO (qB BK102.out hx_ hb); have n2_ := qO (below_step (below_step HB.out hx_) hb); clear BK101; clear BK102; clear HB; have BK101 := n0_; have BK102 := n1_; have HB := n2_; clear n0_ n1_ n2_; clear hx_; (try clear hb); (try clear hb2); (try clear hk); (try clear hi); have hcz37_0 : w36.cell? ⟨gb102, 0, none⟩ = some (.int .i64 a1_0) := (blk_cell BK102.out 0).trans rfl; have hcz37_1 : w36.cell? ⟨gb102, 1, none⟩ = some (.int .i64 a1_1) := (blk_cell BK102.out 1).trans rfl; have hcz37_2 : w36.cell? ⟨gb102, 2, none⟩ = some (.string a1_2) := (blk_cell BK102.out 2).trans rfl; have hcz37_3 : w36.cell? ⟨gb102, 3, none⟩ = some (.slice A1_3 l1_3.length c1_3) := (blk_cell BK102.out 3).trans rfl; have hcz37_4 : w36.cell? ⟨gb102, 4, none⟩ = some (.slice A1_4 l1_4.length c1_4) := (blk_cell BK102.out 4).trans rfl; have hfz37_0 := blk_frozen BK102.out 0; have hfz37_1 := blk_frozen BK102.out 1; have hfz37_2 := blk_frozen BK102.out 2; have hfz37_3 := blk_frozen BK102.out 3; have hfz37_4 := blk_frozen BK102.out 4) | ((with_reducible refine gate_callee (f := 21) rfl ?_); refine goesL_ (some 17) rfl rfl Try.func21 qa10 rfl #[.agg #[.int .i64 a1_0, .int .i64 a1_1, .string a1_2, .slice A1_3 l1_3.length c1_3, .slice A1_4 l1_4.length c1_4], .int .i64 t103] rfl qa1 ?_; (with_reducible refine (laws_szOut.calls k a1_0 a1_1 a1_2 _ _ l1_3 _ _ l1_4 t103 t104 _ ?side1 ?side2 ?side3 ?side4 A10.out).mono ?_); (case side1 => exact qa18); (case side2 => exact HC1_3.out); (case side3 => exact qa29); (case side4 => exact HC1_4.out); rintro e w38 ⟨rfl, hb⟩; have hx_ := qHX HB hb qa0; refine ⟨_, rfl, ?_⟩; have n0_ := qO (qB BK101.out hx_ hb); have n1_ := qO (qB BK102.out hx_ hb); have n2_ := qO (below_step (below_step HB.out hx_) hb); clear BK101; clear BK102; clear HB; have BK101 := n0_; have BK102 := n1_; have HB := n2_; clear n0_ n1_ n2_; clear hx_; (try clear hb); (try clear hb2); (try clear hk); (try clear hi)))
      have n0_ := qO (qkD BK101.out); have n1_ := qO (qkD BK102.out); have n2_ := qO (qbD HB.out); clear BK101; clear BK102; clear HB; have BK101 := n0_; have BK102 := n1_; have HB := n2_; clear n0_ n1_ n2_; refine start_ (n := 6) (S := fun w' => w'.cell? ⟨gb101, 0, none⟩ = some (.int .i64 a0_0) ∧ w'.cell? ⟨gb101, 1, none⟩ = some (.int .i64 a0_1) ∧ w'.cell? ⟨gb101, 2, none⟩ = some (.string a0_2) ∧ w'.cell? ⟨gb101, 3, none⟩ = some (.slice A0_3 l0_3.length c0_3) ∧ w'.cell? ⟨gb101, 4, none⟩ = some (.slice A0_4 l0_4.length c0_4) ∧ w'.cell? ⟨gb102, 0, none⟩ = some (.int .i64 a1_0) ∧ w'.cell? ⟨gb102, 1, none⟩ = some (.int .i64 a1_1) ∧ w'.cell? ⟨gb102, 2, none⟩ = some (.string a1_2) ∧ w'.cell? ⟨gb102, 3, none⟩ = some (.slice A1_3 l1_3.length c1_3) ∧ w'.cell? ⟨gb102, 4, none⟩ = some (.slice A1_4 l1_4.length c1_4)) (ds := []) laws_FnExactSameOut.y0 qa10 rfl rfl ⟨(blk_cell BK101.out 0).trans rfl, (blk_cell BK101.out 1).trans rfl, (blk_cell BK101.out 2).trans rfl, (blk_cell BK101.out 3).trans rfl, (blk_cell BK101.out 4).trans rfl, (blk_cell BK102.out 0).trans rfl, (blk_cell BK102.out 1).trans rfl, (blk_cell BK102.out 2).trans rfl, (blk_cell BK102.out 3).trans rfl, (blk_cell BK102.out 4).trans rfl⟩ (fun hHeld => ?_); generalize w38.drew = w39 at BK101 BK102 HB hHeld ⊢; refine take_ (i := 0) (N := some 20) (v := ?_) (a' := ?_) laws_FnExactSameOut.y1 rfl rfl qa10 (fun _ _ _ h => h) (Or.inl ⟨by rfl, ?_⟩) hHeld ?_ ?_; rotate_left; exact qa36; rotate_left; exact qa3; refine take_ (i := 2) (N := some 22) (v := ?_) (a' := ?_) laws_FnExactSameOut.y2 rfl rfl qa10 (fun _ _ _ h => h) (Or.inl ⟨by rfl, ?_⟩) hHeld ?_ ?_; rotate_left; exact qa36; rotate_left; exact qa3; refine one_ (i := 1) (N := some 21) laws_FnExactSameOut.y3 rfl rfl qa10 qa68 (fun K hK => ?_); refine goes_ Try.func23 qa10 rfl #[.agg #[.int .i64 a0_0, .int .i64 a0_1, .string a0_2, .slice A0_3 l0_3.length c0_3, .slice A0_4 l0_4.length c0_4]] (by rfl) rfl rfl qa1 ?_; (with_reducible refine (laws_toOut.calls k a0_0 a0_1 a0_2 _ _ l0_3 _ _ l0_4 t105 t106 t107 t108 t111 _ ?side1 ?side2 ?side3 ?side4 A19.out).mono ?_); (case side1 => exact qa14); (case side2 => exact HC0_3.out); (case side3 => exact qa19); (case side4 => exact HC0_4.out); rintro e w40 ⟨v109, v112, rfl, ho0, ho1, hb⟩; have hx_ := qHX HB hb qa0; refine ⟨_, rfl, ?_⟩; have n0_ := qO (Kd.R_lower ho0 (below_size (below_step HB.out hx_))); have n1_ := qO (Kd.R_lower ho1 (below_size (below_step HB.out hx_))); have n2_ := qO (qB BK101.out hx_ hb); have n3_ := qO (qB BK102.out hx_ hb); have n4_ := qO (below_step (below_step HB.out hx_) hb); clear BK101; clear BK102; clear HB; have HO110 := n0_; have HO113 := n1_; have BK101 := n2_; have BK102 := n3_; have HB := n4_; clear n0_ n1_ n2_ n3_ n4_; clear hx_; (try clear hb); (try clear hb2); (try clear hk); (try clear hi); (try clear ho0); (try clear ho1); refine hK.out _ _ ⟨(blk_cell BK101.out 0).trans rfl, (blk_cell BK101.out 1).trans rfl, (blk_cell BK101.out 2).trans rfl, (blk_cell BK101.out 3).trans rfl, (blk_cell BK101.out 4).trans rfl, (blk_cell BK102.out 0).trans rfl, (blk_cell BK102.out 1).trans rfl, (blk_cell BK102.out 2).trans rfl, (blk_cell BK102.out 3).trans rfl, (blk_cell BK102.out 4).trans rfl⟩ (fun hHeld => ?_); clear hK K; refine norm_ (a' := ?_) ?_ ?_; rotate_left
      ·exact qa16
      refine one_ (i := 3) (N := some 23) laws_FnExactSameOut.y4 rfl rfl qa10 qa68 (fun K hK => ?_); refine goes_ Try.func23 qa10 rfl #[.agg #[.int .i64 a1_0, .int .i64 a1_1, .string a1_2, .slice A1_3 l1_3.length c1_3, .slice A1_4 l1_4.length c1_4]] (by rfl) rfl rfl qa1 ?_; (with_reducible refine (laws_toOut.calls k a1_0 a1_1 a1_2 _ _ l1_3 _ _ l1_4 t114 t115 t116 t117 t120 _ ?side1 ?side2 ?side3 ?side4 A20.out).mono ?_); (case side1 => exact qa18); (case side2 => exact HC1_3.out); (case side3 => exact qa29); (case side4 => exact HC1_4.out); rintro e w41 ⟨v118, v121, rfl, ho0, ho1, hb⟩; have hx_ := qHX HB hb qa0; refine ⟨_, rfl, ?_⟩; have n0_ := qO (Kd.R_elder' qa23 (Kd.R_base ho0) hb); have n1_ := qO (Kd.R_mono (Kd.R_told (Kd.R_told (Kd.R_old qa30 hb) (Kd.R_base ho0)) (Kd.R_base ho1)) (fun _ h_ => h_.1)); have n2_ := qO (Kd.R_lower (Kd.R_new' ho0 (Kd.R_lt qa23)) (below_size (below_step HB.out hx_))); have n3_ := qO (Kd.R_lower (Kd.R_new' (Kd.R_new' ho1 (Kd.R_lt qa23)) (Kd.R_lt qa30)) (below_size (below_step HB.out hx_))); have n4_ := qO (qB BK101.out hx_ hb); have n5_ := qO (qB BK102.out hx_ hb); have n6_ := qO (below_step (below_step HB.out hx_) hb); clear HO110; clear HO113; clear BK101; clear BK102; clear HB; have HO110 := n0_; have HO113 := n1_; have HO119 := n2_; have HO122 := n3_; have BK101 := n4_; have BK102 := n5_; have HB := n6_; clear n0_ n1_ n2_ n3_ n4_ n5_ n6_; clear hx_; (try clear hb); (try clear hb2); (try clear hk); (try clear hi); (try clear ho0); (try clear ho1); obtain ⟨Ao42, co42, eo42⟩ := Kd.R_slice HO110.out; (first | subst eo42 | (injection eo42 with f1_ f2_ f3_; have f4_ := f1_.symm; have f5_ := f3_.symm; clear f1_ f2_ f3_; subst f4_; subst f5_)); obtain ⟨Ao43, co43, eo43⟩ := Kd.R_slice HO113.out; (first | subst eo43 | (injection eo43 with f1_ f2_ f3_; have f4_ := f1_.symm; have f5_ := f3_.symm; clear f1_ f2_ f3_; subst f4_; subst f5_)); obtain ⟨Ao44, co44, eo44⟩ := Kd.R_slice HO119.out; (first | subst eo44 | (injection eo44 with f1_ f2_ f3_; have f4_ := f1_.symm; have f5_ := f3_.symm; clear f1_ f2_ f3_; subst f4_; subst f5_)); obtain ⟨Ao45, co45, eo45⟩ := Kd.R_slice HO122.out; (first | subst eo45 | (injection eo45 with f1_ f2_ f3_; have f4_ := f1_.symm; have f5_ := f3_.symm; clear f1_ f2_ f3_; subst f4_; subst f5_)); refine hK.out _ _ ⟨(blk_cell BK101.out 0).trans rfl, (blk_cell BK101.out 1).trans rfl, (blk_cell BK101.out 2).trans rfl, (blk_cell BK101.out 3).trans rfl, (blk_cell BK101.out 4).trans rfl, (blk_cell BK102.out 0).trans rfl, (blk_cell BK102.out 1).trans rfl, (blk_cell BK102.out 2).trans rfl, (blk_cell BK102.out 3).trans rfl, (blk_cell BK102.out 4).trans rfl⟩ (fun hHeld => ?_); clear hK K; refine norm_ (a' := ?_) ?_ ?_; rotate_left
      ·exact qa16
      refine one_ (i := 4) (N := some 24) laws_FnExactSameOut.y5 rfl rfl qa10 qa68 (fun K hK => ?_); refine goes_ Try.func26 qa10 rfl #[.agg #[.int .i64 t105, .int .i64 t106, .string t107, .slice Ao42 t108.length co42, .slice Ao43 t111.length co43], .agg #[.int .i64 t114, .int .i64 t115, .string t116, .slice Ao44 t117.length co44, .slice Ao45 t120.length co45]] (by rfl) rfl rfl qa1 ?_; (with_reducible refine (spec_SameOut.calls k t105 t106 t107 _ _ t108 _ _ t111 t114 t115 t116 _ _ t117 _ _ t120 t123 _ ?side1 ?side2 ?side3 ?side4 ?side5 ?side6 ?side7 ?side8 A21.out).mono ?_); (case side1 => repeat (first | exact (Kd.R_reads' HO110.out).2.2 | with_reducible first | refine Kd.C_alloc ?_ _ | refine Kd.C_drewN ?_ _ | refine Kd.C_drew ?_)); (case side2 => exact (Kd.R_reads' HO110.out).2.1); (case side3 => repeat (first | exact (Kd.R_reads' HO113.out).2.2 | with_reducible first | refine Kd.C_alloc ?_ _ | refine Kd.C_drewN ?_ _ | refine Kd.C_drew ?_)); (case side4 => exact (Kd.R_reads' HO113.out).2.1); (case side5 => repeat (first | exact (Kd.R_reads' HO119.out).2.2 | with_reducible first | refine Kd.C_alloc ?_ _ | refine Kd.C_drewN ?_ _ | refine Kd.C_drew ?_)); (case side6 => exact (Kd.R_reads' HO119.out).2.1); (case side7 => repeat (first | exact (Kd.R_reads' HO122.out).2.2 | with_reducible first | refine Kd.C_alloc ?_ _ | refine Kd.C_drewN ?_ _ | refine Kd.C_drew ?_)); (case side8 => exact (Kd.R_reads' HO122.out).2.1); rintro e w46 ⟨rfl, hb⟩; have hx_ := qHX HB hb qa0; refine ⟨_, rfl, ?_⟩; have n0_ := qO (Kd.R_below qa23 hb); have n1_ := qO (Kd.R_below qa30 hb); have n2_ := qO (Kd.R_below qa27 hb); have n3_ := qO (Kd.R_below qa35 hb); have n4_ := qO (qB BK101.out hx_ hb); have n5_ := qO (qB BK102.out hx_ hb); have n6_ := qO (below_step (below_step HB.out hx_) hb); clear HO110; clear HO113; clear HO119; clear HO122; clear BK101; clear BK102; clear HB; have HO110 := n0_; have HO113 := n1_; have HO119 := n2_; have HO122 := n3_; have BK101 := n4_; have BK102 := n5_; have HB := n6_; clear n0_ n1_ n2_ n3_ n4_ n5_ n6_; clear hx_; (try clear hb); (try clear hb2); (try clear hk); (try clear hi); refine hK.out _ _ ⟨(blk_cell BK101.out 0).trans rfl, (blk_cell BK101.out 1).trans rfl, (blk_cell BK101.out 2).trans rfl, (blk_cell BK101.out 3).trans rfl, (blk_cell BK101.out 4).trans rfl, (blk_cell BK102.out 0).trans rfl, (blk_cell BK102.out 1).trans rfl, (blk_cell BK102.out 2).trans rfl, (blk_cell BK102.out 3).trans rfl, (blk_cell BK102.out 4).trans rfl⟩ (fun hHeld => ?_); clear hK K; refine norm_ (a' := ?_) ?_ ?_; rotate_left
      ·exact qa16
      refine pure_ (i := 5) (N := some 6) (v := ?_) (a' := ?_) laws_FnExactSameOut.y6 rfl rfl qa10 (fun _ _ _ h => h) (Or.inl ⟨by rfl, ?_⟩) ?_ ?_; rotate_left; exact qa11; rotate_left; exact qa3; refine done_ qa10 ?_; have hcz47_0 : w46.cell? ⟨gb101, 0, none⟩ = some (.int .i64 a0_0) := (blk_cell BK101.out 0).trans rfl; have hcz47_1 : w46.cell? ⟨gb101, 1, none⟩ = some (.int .i64 a0_1) := (blk_cell BK101.out 1).trans rfl; have hcz47_2 : w46.cell? ⟨gb101, 2, none⟩ = some (.string a0_2) := (blk_cell BK101.out 2).trans rfl; have hcz47_3 : w46.cell? ⟨gb101, 3, none⟩ = some (.slice A0_3 l0_3.length c0_3) := (blk_cell BK101.out 3).trans rfl; have hcz47_4 : w46.cell? ⟨gb101, 4, none⟩ = some (.slice A0_4 l0_4.length c0_4) := (blk_cell BK101.out 4).trans rfl; have hfz47_0 := blk_frozen BK101.out 0; have hfz47_1 := blk_frozen BK101.out 1; have hfz47_2 := blk_frozen BK101.out 2; have hfz47_3 := blk_frozen BK101.out 3; have hfz47_4 := blk_frozen BK101.out 4
      try go_wp2_with (first | ((with_reducible refine gate_callee (f := 23) rfl ?_); refine goesL_ (some 26) rfl rfl Try.func23 qa10 rfl #[.agg #[.int .i64 a0_0, .int .i64 a0_1, .string a0_2, .slice A0_3 l0_3.length c0_3, .slice A0_4 l0_4.length c0_4]] rfl qa1 ?_; (with_reducible refine (laws_toOut.calls k a0_0 a0_1 a0_2 _ _ l0_3 _ _ l0_4 t124 t125 t126 t127 t130 _ ?side1 ?side2 ?side3 ?side4 A22.out).mono ?_); (case side1 => exact qa14); (case side2 => exact HC0_3.out); (case side3 => exact qa19); (case side4 => exact HC0_4.out); rintro e w48 ⟨v128, v131, rfl, ho0, ho1, hb⟩; have hx_ := qHX HB hb qa0; refine ⟨_, rfl, ?_⟩; have n0_ := qO (Kd.R_elder' qa23 (Kd.R_base ho0) hb); have n1_ := qO (Kd.R_mono (Kd.R_told (Kd.R_told (Kd.R_old qa30 hb) (Kd.R_base ho0)) (Kd.R_base ho1)) (fun _ h_ => h_.1)); have n2_ := qO (Kd.R_elder' qa27 (Kd.R_base ho0) hb); have n3_ := qO (Kd.R_mono (Kd.R_told (Kd.R_told (Kd.R_old qa35 hb) (Kd.R_base ho0)) (Kd.R_base ho1)) (fun _ h_ => h_.1)); have n4_ := qO (Kd.R_lower (Kd.R_new' (Kd.R_new' ho0 (Kd.R_lt qa23)) (Kd.R_lt qa27)) (below_size (below_step HB.out hx_))); have n5_ := qO (Kd.R_lower (Kd.R_new' (Kd.R_new' (Kd.R_new' (Kd.R_new' ho1 (Kd.R_lt qa23)) (Kd.R_lt qa30)) (Kd.R_lt qa27)) (Kd.R_lt qa35)) (below_size (below_step HB.out hx_))); have n6_ := qO (qB BK101.out hx_ hb); have n7_ := qO (qB BK102.out hx_ hb); have n8_ := qO (below_step (below_step HB.out hx_) hb); clear HO110; clear HO113; clear HO119; clear HO122; clear BK101; clear BK102; clear HB; have HO110 := n0_; have HO113 := n1_; have HO119 := n2_; have HO122 := n3_; have HO129 := n4_; have HO132 := n5_; have BK101 := n6_; have BK102 := n7_; have HB := n8_; clear n0_ n1_ n2_ n3_ n4_ n5_ n6_ n7_ n8_; clear hx_; (try clear hb); (try clear hb2); (try clear hk); (try clear hi); (try clear ho0); (try clear ho1)) | ((with_reducible refine gate_dst (N := 7) rfl ?_); refine box_event ?hg (N := 7) ?hd (cs := #[.int .i64 0, .int .i64 0, .string (⟨#[]⟩ : ByteArray), .slice none 0 0, .slice none 0 0]) (t := 46) ?hr ?_; (case hd => rfl); (case hg => rfl); (case hr => exact qa21); intro gb133 hg w49 hbox hb; have hx_ := qHX HB hb qa0; have n0_ := qO (Kd.R_below qa23 hb); have n1_ := qO (Kd.R_below (Kd.R_elderB qa30 gb133 (Nat.le_of_eq hg.symm)) hb); have n2_ := qO (Kd.R_below qa27 hb); have n3_ := qO (Kd.R_below (Kd.R_elderB qa35 gb133 (Nat.le_of_eq hg.symm)) hb); have n4_ := qO (Kd.R_below qa37 hb); have n5_ := qO (Kd.R_below (Kd.R_elderB qa42 gb133 (Nat.le_of_eq hg.symm)) hb); have n6_ := qO (qB BK101.out hx_ hb); have n7_ := qO (qB BK102.out hx_ hb); have n8_ := qO (below_step (below_step HB.out hx_) hb); have n9_ := qO (hbox); have n10_ := qO ((qa15 : w.heap.size ≤ gb133)); have n11_ := n10_; have n12_ := qO ((qa20 : gb101 ≠ gb133)); have n13_ := qO (Ne.symm n12_.out); have n14_ := qO ((qa50 : gb102 ≠ gb133)); have n15_ := qO (Ne.symm n14_.out); clear HO110; clear HO113; clear HO119; clear HO122; clear HO129; clear HO132; clear BK101; clear BK102; clear HB; have HO110 := n0_; have HO113 := n1_; have HO119 := n2_; have HO122 := n3_; have HO129 := n4_; have HO132 := n5_; have BK101 := n6_; have BK102 := n7_; have HB := n8_; have BK133 := n9_; have GW133 := n10_; have GE133 := n11_; have NB101_133 := n12_; have NB133_101 := n13_; have NB102_133 := n14_; have NB133_102 := n15_; clear n0_ n1_ n2_ n3_ n4_ n5_ n6_ n7_ n8_ n9_ n10_ n11_ n12_ n13_ n14_ n15_; clear hx_; clear hb hbox hg; have hnb50 := NB133_101.out; have hnc50 := NB101_133.out; have hnb51 := NB133_102.out; have hnc51 := NB102_133.out; have hcz52_0 : w49.cell? ⟨gb133, 0, none⟩ = some (.int .i64 0) := (blk_cell BK133.out 0).trans rfl; have hcz52_1 : w49.cell? ⟨gb133, 1, none⟩ = some (.int .i64 0) := (blk_cell BK133.out 1).trans rfl; have hcz52_2 : w49.cell? ⟨gb133, 2, none⟩ = some (.string (⟨#[]⟩ : ByteArray)) := (blk_cell BK133.out 2).trans rfl; have hcz52_3 : w49.cell? ⟨gb133, 3, none⟩ = some (.slice none 0 0) := (blk_cell BK133.out 3).trans rfl; have hcz52_4 : w49.cell? ⟨gb133, 4, none⟩ = some (.slice none 0 0) := (blk_cell BK133.out 4).trans rfl; have hfz52_0 := blk_frozen BK133.out 0; have hfz52_1 := blk_frozen BK133.out 1; have hfz52_2 := blk_frozen BK133.out 2; have hfz52_3 := blk_frozen BK133.out 3; have hfz52_4 := blk_frozen BK133.out 4; obtain ⟨Ao53, co53, eo53⟩ := Kd.R_slice HO129.out; subst eo53; obtain ⟨Ao54, co54, eo54⟩ := Kd.R_slice HO132.out; subst eo54; have hcz55_0 : w49.cell? ⟨gb102, 0, none⟩ = some (.int .i64 a1_0) := (blk_cell BK102.out 0).trans rfl; have hcz55_1 : w49.cell? ⟨gb102, 1, none⟩ = some (.int .i64 a1_1) := (blk_cell BK102.out 1).trans rfl; have hcz55_2 : w49.cell? ⟨gb102, 2, none⟩ = some (.string a1_2) := (blk_cell BK102.out 2).trans rfl; have hcz55_3 : w49.cell? ⟨gb102, 3, none⟩ = some (.slice A1_3 l1_3.length c1_3) := (blk_cell BK102.out 3).trans rfl; have hcz55_4 : w49.cell? ⟨gb102, 4, none⟩ = some (.slice A1_4 l1_4.length c1_4) := (blk_cell BK102.out 4).trans rfl; have hfz55_0 := blk_frozen BK102.out 0; have hfz55_1 := blk_frozen BK102.out 1; have hfz55_2 := blk_frozen BK102.out 2; have hfz55_3 := blk_frozen BK102.out 3; have hfz55_4 := blk_frozen BK102.out 4) | ((with_reducible refine gate_callee (f := 23) rfl ?_); refine goesL_ (some 28) rfl rfl Try.func23 qa10 rfl #[.agg #[.int .i64 a1_0, .int .i64 a1_1, .string a1_2, .slice A1_3 l1_3.length c1_3, .slice A1_4 l1_4.length c1_4]] rfl qa1 ?_; (with_reducible refine (laws_toOut.calls k a1_0 a1_1 a1_2 _ _ l1_3 _ _ l1_4 t134 t135 t136 t137 t140 _ ?side1 ?side2 ?side3 ?side4 A23.out).mono ?_); (case side1 => exact Kd.C_below HR1_3.out (by repeat (first | (with_reducible first | exact HB.out | apply qbA | apply qbN | apply qbD | refine qbS ?_ GE101.out | refine qbS ?_ GE102.out | refine qbS ?_ GE133.out) | exact HB.out))); (case side2 => exact HC1_3.out); (case side3 => exact Kd.C_below HR1_4.out (by repeat (first | (with_reducible first | exact HB.out | apply qbA | apply qbN | apply qbD | refine qbS ?_ GE101.out | refine qbS ?_ GE102.out | refine qbS ?_ GE133.out) | exact HB.out))); (case side4 => exact HC1_4.out); rintro e w56 ⟨v138, v141, rfl, ho0, ho1, hb⟩; refine ⟨_, rfl, ?_⟩; have n0_ := qO (Kd.R_elder' qa24 (Kd.R_base ho0) hb); have n1_ := qO (Kd.R_mono (Kd.R_told (Kd.R_told (Kd.R_old qa32 hb) (Kd.R_base ho0)) (Kd.R_base ho1)) (fun _ h_ => h_.1)); have n2_ := qO (Kd.R_elder' qa25 (Kd.R_base ho0) hb); have n3_ := qO (Kd.R_mono (Kd.R_told (Kd.R_told (Kd.R_old qa33 hb) (Kd.R_base ho0)) (Kd.R_base ho1)) (fun _ h_ => h_.1)); have n4_ := qO (Kd.R_elder' qa26 (Kd.R_base ho0) hb); have n5_ := qO (Kd.R_mono (Kd.R_told (Kd.R_told (Kd.R_old qa34 hb) (Kd.R_base ho0)) (Kd.R_base ho1)) (fun _ h_ => h_.1)); have n6_ := qO (Kd.R_lower (Kd.R_new' (Kd.R_new' (Kd.R_new' ho0 (Kd.R_lt qa24)) (Kd.R_lt qa25)) (Kd.R_lt qa26)) (below_size qa53)); have n7_ := qO (Kd.R_lower (Kd.R_newB (Kd.R_new' (Kd.R_new' (Kd.R_new' (Kd.R_new' (Kd.R_new' (Kd.R_new' ho1 (Kd.R_lt qa24)) (Kd.R_lt qa32)) (Kd.R_lt qa25)) (Kd.R_lt qa33)) (Kd.R_lt qa26)) (Kd.R_lt qa34)) (g := gb133) (o := .cells #[.int .i64 t124, .int .i64 t125, .string t126, .slice Ao53 t127.length co53, .slice Ao54 t130.length co54] 46 (0, 0)) qa17) (below_size qa53)); have n8_ := qO (blk_below (g := gb101) (o := .cells #[.int .i64 a0_0, .int .i64 a0_1, .string a0_2, .slice A0_3 l0_3.length c0_3, .slice A0_4 l0_4.length c0_4] 41 (0, 0)) (by (with_reducible repeat (first | refine qkN ?_ _ | refine qkD ?_ | refine qkA ?_ _)); refine blk_far ?_ NB101_133.out _; (with_reducible repeat (first | refine qkN ?_ _ | refine qkD ?_ | refine qkA ?_ _)); refine blk_far ?_ NB101_133.out _; (with_reducible repeat (first | refine qkN ?_ _ | refine qkD ?_ | refine qkA ?_ _)); refine blk_far ?_ NB101_133.out _; (with_reducible repeat (first | refine qkN ?_ _ | refine qkD ?_ | refine qkA ?_ _)); refine blk_far ?_ NB101_133.out _; (with_reducible repeat (first | refine qkN ?_ _ | refine qkD ?_ | refine qkA ?_ _)); refine blk_far ?_ NB101_133.out _; (with_reducible repeat (first | refine qkN ?_ _ | refine qkD ?_ | refine qkA ?_ _)); exact BK101.out) hb); have n9_ := qO (blk_below (g := gb102) (o := .cells #[.int .i64 a1_0, .int .i64 a1_1, .string a1_2, .slice A1_3 l1_3.length c1_3, .slice A1_4 l1_4.length c1_4] 41 (0, 0)) (by (with_reducible repeat (first | refine qkN ?_ _ | refine qkD ?_ | refine qkA ?_ _)); refine blk_far ?_ NB102_133.out _; (with_reducible repeat (first | refine qkN ?_ _ | refine qkD ?_ | refine qkA ?_ _)); refine blk_far ?_ NB102_133.out _; (with_reducible repeat (first | refine qkN ?_ _ | refine qkD ?_ | refine qkA ?_ _)); refine blk_far ?_ NB102_133.out _; (with_reducible repeat (first | refine qkN ?_ _ | refine qkD ?_ | refine qkA ?_ _)); refine blk_far ?_ NB102_133.out _; (with_reducible repeat (first | refine qkN ?_ _ | refine qkD ?_ | refine qkA ?_ _)); refine blk_far ?_ NB102_133.out _; (with_reducible repeat (first | refine qkN ?_ _ | refine qkD ?_ | refine qkA ?_ _)); exact BK102.out) hb); have n10_ := qO (blk_below (g := gb133) (o := .cells #[.int .i64 t124, .int .i64 t125, .string t126, .slice Ao53 t127.length co53, .slice Ao54 t130.length co54] 46 (0, 0)) qa17 hb); have n11_ := qO (below_step qa53 hb); clear HO110; clear HO113; clear HO119; clear HO122; clear HO129; clear HO132; clear BK101; clear BK102; clear BK133; clear HB; have HO110 := n0_; have HO113 := n1_; have HO119 := n2_; have HO122 := n3_; have HO129 := n4_; have HO132 := n5_; have HO139 := n6_; have HO142 := n7_; have BK101 := n8_; have BK102 := n9_; have BK133 := n10_; have HB := n11_; clear n0_ n1_ n2_ n3_ n4_ n5_ n6_ n7_ n8_ n9_ n10_ n11_; (try clear hb); (try clear hb2); (try clear hk); (try clear hi); (try clear ho0); (try clear ho1)) | ((with_reducible refine gate_dst (N := 8) rfl ?_); refine box_event ?hg (N := 8) ?hd (cs := #[.int .i64 0, .int .i64 0, .string (⟨#[]⟩ : ByteArray), .slice none 0 0, .slice none 0 0]) (t := 46) ?hr ?_; (case hd => rfl); (case hg => rfl); (case hr => exact qa21); intro gb143 hg w57 hbox hb; have hx_ := qHX HB hb qa0; have n0_ := qO (Kd.R_below qa23 hb); have n1_ := qO (Kd.R_below (Kd.R_elderB qa30 gb143 (Nat.le_of_eq hg.symm)) hb); have n2_ := qO (Kd.R_below qa27 hb); have n3_ := qO (Kd.R_below (Kd.R_elderB qa35 gb143 (Nat.le_of_eq hg.symm)) hb); have n4_ := qO (Kd.R_below qa37 hb); have n5_ := qO (Kd.R_below (Kd.R_elderB qa42 gb143 (Nat.le_of_eq hg.symm)) hb); have n6_ := qO (Kd.R_below qa38 hb); have n7_ := qO (Kd.R_below (Kd.R_elderB qa45 gb143 (Nat.le_of_eq hg.symm)) hb); have n8_ := qO (qB BK101.out hx_ hb); have n9_ := qO (qB BK102.out hx_ hb); have n10_ := qO (qB BK133.out hx_ hb); have n11_ := qO (below_step (below_step HB.out hx_) hb); have n12_ := qO (hbox); have n13_ := qO ((qa15 : w.heap.size ≤ gb143)); have n14_ := n13_; have n15_ := qO ((qa20 : gb101 ≠ gb143)); have n16_ := qO (Ne.symm n15_.out); have n17_ := qO ((qa50 : gb102 ≠ gb143)); have n18_ := qO (Ne.symm n17_.out); have n19_ := qO ((by rw [hg]; exact Nat.ne_of_lt (blk_lt (g := gb133) (o := .cells #[.int .i64 t124, .int .i64 t125, .string t126, .slice Ao53 t127.length co53, .slice Ao54 t130.length co54] 46 (0, 0)) (by (with_reducible repeat (first | refine qkN ?_ _ | refine qkD ?_ | refine qkA ?_ _)); exact BK133.out)) : gb133 ≠ gb143)); have n20_ := qO (Ne.symm n19_.out); clear HO110; clear HO113; clear HO119; clear HO122; clear HO129; clear HO132; clear HO139; clear HO142; clear BK101; clear BK102; clear BK133; clear HB; have HO110 := n0_; have HO113 := n1_; have HO119 := n2_; have HO122 := n3_; have HO129 := n4_; have HO132 := n5_; have HO139 := n6_; have HO142 := n7_; have BK101 := n8_; have BK102 := n9_; have BK133 := n10_; have HB := n11_; have BK143 := n12_; have GW143 := n13_; have GE143 := n14_; have NB101_143 := n15_; have NB143_101 := n16_; have NB102_143 := n17_; have NB143_102 := n18_; have NB133_143 := n19_; have NB143_133 := n20_; clear n0_ n1_ n2_ n3_ n4_ n5_ n6_ n7_ n8_ n9_ n10_ n11_ n12_ n13_ n14_ n15_ n16_ n17_ n18_ n19_ n20_; clear hx_; clear hb hbox hg; have hnb58 := NB143_101.out; have hnc58 := NB101_143.out; have hnb59 := NB143_102.out; have hnc59 := NB102_143.out; have hnb60 := NB143_133.out; have hnc60 := NB133_143.out; have hcz61_0 : w57.cell? ⟨gb143, 0, none⟩ = some (.int .i64 0) := (blk_cell BK143.out 0).trans rfl; have hcz61_1 : w57.cell? ⟨gb143, 1, none⟩ = some (.int .i64 0) := (blk_cell BK143.out 1).trans rfl; have hcz61_2 : w57.cell? ⟨gb143, 2, none⟩ = some (.string (⟨#[]⟩ : ByteArray)) := (blk_cell BK143.out 2).trans rfl; have hcz61_3 : w57.cell? ⟨gb143, 3, none⟩ = some (.slice none 0 0) := (blk_cell BK143.out 3).trans rfl; have hcz61_4 : w57.cell? ⟨gb143, 4, none⟩ = some (.slice none 0 0) := (blk_cell BK143.out 4).trans rfl; have hfz61_0 := blk_frozen BK143.out 0; have hfz61_1 := blk_frozen BK143.out 1; have hfz61_2 := blk_frozen BK143.out 2; have hfz61_3 := blk_frozen BK143.out 3; have hfz61_4 := blk_frozen BK143.out 4; obtain ⟨Ao62, co62, eo62⟩ := Kd.R_slice HO139.out; subst eo62; obtain ⟨Ao63, co63, eo63⟩ := Kd.R_slice HO142.out; subst eo63; have hcz64_0 : w57.cell? ⟨gb133, 0, none⟩ = some (.int .i64 t124) := (blk_cell BK133.out 0).trans rfl; have hcz64_1 : w57.cell? ⟨gb133, 1, none⟩ = some (.int .i64 t125) := (blk_cell BK133.out 1).trans rfl; have hcz64_2 : w57.cell? ⟨gb133, 2, none⟩ = some (.string t126) := (blk_cell BK133.out 2).trans rfl; have hcz64_3 : w57.cell? ⟨gb133, 3, none⟩ = some (.slice Ao53 t127.length co53) := (blk_cell BK133.out 3).trans rfl; have hcz64_4 : w57.cell? ⟨gb133, 4, none⟩ = some (.slice Ao54 t130.length co54) := (blk_cell BK133.out 4).trans rfl; have hfz64_0 := blk_frozen BK133.out 0; have hfz64_1 := blk_frozen BK133.out 1; have hfz64_2 := blk_frozen BK133.out 2; have hfz64_3 := blk_frozen BK133.out 3; have hfz64_4 := blk_frozen BK133.out 4) | ((with_reducible refine gate_callee (f := 27) rfl ?_); refine goesL_ (some 31) rfl rfl Try.func27 qa10 rfl #[.agg #[.int .i64 t124, .int .i64 t125, .string t126, .slice Ao53 t127.length co53, .slice Ao54 t130.length co54], .agg #[.int .i64 t134, .int .i64 t135, .string t136, .slice Ao62 t137.length co62, .slice Ao63 t140.length co63]] rfl qa1 ?_; (with_reducible refine (impl_SameOut.calls k t124 t125 t126 _ _ t127 _ _ t130 t134 t135 t136 _ _ t137 _ _ t140 t144 _ ?side1 ?side2 ?side3 ?side4 ?side5 ?side6 ?side7 ?side8 A24.out).mono ?_); (case side1 => refine (Kd.R_reads' (e := 9) (base := w.heap.size) (ok := fun k_ => (((True ∧ some k_ ≠ (.slice Ao42 t108.length co42 : Value).ownBlock) ∧ some k_ ≠ (.slice Ao44 t117.length co44 : Value).ownBlock) ∧ some k_ ≠ (.slice Ao62 t137.length co62 : Value).ownBlock)) (n := t127.length) (c := co53) ?_).2.2; exact (by (with_reducible repeat (first | apply Kd.R_alloc | apply Kd.R_drewN | apply Kd.R_drew)); exact (Kd.R_mono (Kd.R_far (p := ⟨gb143, 4, none⟩) (Kd.R_far (p := ⟨gb143, 3, none⟩) (Kd.R_far (p := ⟨gb143, 2, none⟩) (Kd.R_far (p := ⟨gb143, 1, none⟩) (Kd.R_far (p := ⟨gb143, 0, none⟩) (Kd.R_types HO129.out BK143.out (by decide)) (fun _ hk => hk.2) (.int .i64 t134)) (fun _ hk => hk.2) (.int .i64 t135)) (fun _ hk => hk.2) (.string t136)) (fun _ hk => hk.2) (.slice Ao62 t137.length co62)) (fun _ hk => hk.2) (.slice Ao63 t140.length co63)) (fun _ h_ => h_.1)))); (case side2 => exact (Kd.R_reads' HO129.out).2.1); (case side3 => refine (Kd.R_reads' (e := 46) (base := w.heap.size) (ok := fun k_ => ((((((((some k_ ≠ (.slice Ao53 t127.length co53 : Value).ownBlock ∧ some k_ ≠ (.slice Ao42 t108.length co42 : Value).ownBlock) ∧ some k_ ≠ (.slice Ao43 t111.length co43 : Value).ownBlock) ∧ some k_ ≠ (.slice Ao44 t117.length co44 : Value).ownBlock) ∧ some k_ ≠ (.slice Ao45 t120.length co45 : Value).ownBlock) ∧ k_ ≠ gb133) ∧ some k_ ≠ (.slice Ao62 t137.length co62 : Value).ownBlock) ∧ some k_ ≠ (.slice Ao63 t140.length co63 : Value).ownBlock) ∧ k_ ≠ gb143)) (n := t130.length) (c := co54) ?_).2.2; exact (by (with_reducible repeat (first | apply Kd.R_alloc | apply Kd.R_drewN | apply Kd.R_drew)); exact (Kd.R_mono (Kd.R_far (p := ⟨gb143, 4, none⟩) (Kd.R_far (p := ⟨gb143, 3, none⟩) (Kd.R_far (p := ⟨gb143, 2, none⟩) (Kd.R_far (p := ⟨gb143, 1, none⟩) (Kd.R_far (p := ⟨gb143, 0, none⟩) (Kd.R_mono HO132.out (fun k_ hk => (⟨hk, hk.2⟩ : _ ∧ k_ ≠ gb143))) (fun _ hk => hk.2) (.int .i64 t134)) (fun _ hk => hk.2) (.int .i64 t135)) (fun _ hk => hk.2) (.string t136)) (fun _ hk => hk.2) (.slice Ao62 t137.length co62)) (fun _ hk => hk.2) (.slice Ao63 t140.length co63)) (fun _ h_ => h_.1)))); (case side4 => exact (Kd.R_reads' HO132.out).2.1); (case side5 => refine (Kd.R_reads' (e := 9) (base := w.heap.size) (ok := fun k_ => (((True ∧ some k_ ≠ (.slice Ao42 t108.length co42 : Value).ownBlock) ∧ some k_ ≠ (.slice Ao44 t117.length co44 : Value).ownBlock) ∧ some k_ ≠ (.slice Ao53 t127.length co53 : Value).ownBlock)) (n := t137.length) (c := co62) ?_).2.2; exact (by (with_reducible repeat (first | apply Kd.R_alloc | apply Kd.R_drewN | apply Kd.R_drew)); exact (Kd.R_mono (Kd.R_far (p := ⟨gb143, 4, none⟩) (Kd.R_far (p := ⟨gb143, 3, none⟩) (Kd.R_far (p := ⟨gb143, 2, none⟩) (Kd.R_far (p := ⟨gb143, 1, none⟩) (Kd.R_far (p := ⟨gb143, 0, none⟩) (Kd.R_types HO139.out BK143.out (by decide)) (fun _ hk => hk.2) (.int .i64 t134)) (fun _ hk => hk.2) (.int .i64 t135)) (fun _ hk => hk.2) (.string t136)) (fun _ hk => hk.2) (.slice Ao62 t137.length co62)) (fun _ hk => hk.2) (.slice Ao63 t140.length co63)) (fun _ h_ => h_.1)))); (case side6 => exact (Kd.R_reads' HO139.out).2.1); (case side7 => refine (Kd.R_reads' (e := 46) (base := w.heap.size) (ok := fun k_ => ((((((((some k_ ≠ (.slice Ao62 t137.length co62 : Value).ownBlock ∧ some k_ ≠ (.slice Ao42 t108.length co42 : Value).ownBlock) ∧ some k_ ≠ (.slice Ao43 t111.length co43 : Value).ownBlock) ∧ some k_ ≠ (.slice Ao44 t117.length co44 : Value).ownBlock) ∧ some k_ ≠ (.slice Ao45 t120.length co45 : Value).ownBlock) ∧ some k_ ≠ (.slice Ao53 t127.length co53 : Value).ownBlock) ∧ some k_ ≠ (.slice Ao54 t130.length co54 : Value).ownBlock) ∧ k_ ≠ gb133) ∧ k_ ≠ gb143)) (n := t140.length) (c := co63) ?_).2.2; exact (by (with_reducible repeat (first | apply Kd.R_alloc | apply Kd.R_drewN | apply Kd.R_drew)); exact (Kd.R_mono (Kd.R_far (p := ⟨gb143, 4, none⟩) (Kd.R_far (p := ⟨gb143, 3, none⟩) (Kd.R_far (p := ⟨gb143, 2, none⟩) (Kd.R_far (p := ⟨gb143, 1, none⟩) (Kd.R_far (p := ⟨gb143, 0, none⟩) (Kd.R_mono HO142.out (fun k_ hk => (⟨hk, hk.2⟩ : _ ∧ k_ ≠ gb143))) (fun _ hk => hk.2) (.int .i64 t134)) (fun _ hk => hk.2) (.int .i64 t135)) (fun _ hk => hk.2) (.string t136)) (fun _ hk => hk.2) (.slice Ao62 t137.length co62)) (fun _ hk => hk.2) (.slice Ao63 t140.length co63)) (fun _ h_ => h_.1)))); (case side8 => exact (Kd.R_reads' HO142.out).2.1); rintro e w65 ⟨rfl, hb⟩; refine ⟨_, rfl, ?_⟩; have n0_ := qO (Kd.R_below (by (with_reducible repeat (first | apply Kd.R_alloc | apply Kd.R_drewN | apply Kd.R_drew)); exact (Kd.R_mono (Kd.R_far (p := ⟨gb143, 4, none⟩) (Kd.R_far (p := ⟨gb143, 3, none⟩) (Kd.R_far (p := ⟨gb143, 2, none⟩) (Kd.R_far (p := ⟨gb143, 1, none⟩) (Kd.R_far (p := ⟨gb143, 0, none⟩) (Kd.R_types HO110.out BK143.out (by decide)) (fun _ hk => hk.2) (.int .i64 t134)) (fun _ hk => hk.2) (.int .i64 t135)) (fun _ hk => hk.2) (.string t136)) (fun _ hk => hk.2) (.slice Ao62 t137.length co62)) (fun _ hk => hk.2) (.slice Ao63 t140.length co63)) (fun _ h_ => h_.1))) hb); have n1_ := qO (Kd.R_below (by (with_reducible repeat (first | apply Kd.R_alloc | apply Kd.R_drewN | apply Kd.R_drew)); exact (Kd.R_mono (Kd.R_far (p := ⟨gb143, 4, none⟩) (Kd.R_far (p := ⟨gb143, 3, none⟩) (Kd.R_far (p := ⟨gb143, 2, none⟩) (Kd.R_far (p := ⟨gb143, 1, none⟩) (Kd.R_far (p := ⟨gb143, 0, none⟩) (Kd.R_mono HO113.out (fun k_ hk => (⟨hk, hk.2⟩ : _ ∧ k_ ≠ gb143))) (fun _ hk => hk.2) (.int .i64 t134)) (fun _ hk => hk.2) (.int .i64 t135)) (fun _ hk => hk.2) (.string t136)) (fun _ hk => hk.2) (.slice Ao62 t137.length co62)) (fun _ hk => hk.2) (.slice Ao63 t140.length co63)) (fun _ h_ => h_.1))) hb); have n2_ := qO (Kd.R_below (by (with_reducible repeat (first | apply Kd.R_alloc | apply Kd.R_drewN | apply Kd.R_drew)); exact (Kd.R_mono (Kd.R_far (p := ⟨gb143, 4, none⟩) (Kd.R_far (p := ⟨gb143, 3, none⟩) (Kd.R_far (p := ⟨gb143, 2, none⟩) (Kd.R_far (p := ⟨gb143, 1, none⟩) (Kd.R_far (p := ⟨gb143, 0, none⟩) (Kd.R_types HO119.out BK143.out (by decide)) (fun _ hk => hk.2) (.int .i64 t134)) (fun _ hk => hk.2) (.int .i64 t135)) (fun _ hk => hk.2) (.string t136)) (fun _ hk => hk.2) (.slice Ao62 t137.length co62)) (fun _ hk => hk.2) (.slice Ao63 t140.length co63)) (fun _ h_ => h_.1))) hb); have n3_ := qO (Kd.R_below (by (with_reducible repeat (first | apply Kd.R_alloc | apply Kd.R_drewN | apply Kd.R_drew)); exact (Kd.R_mono (Kd.R_far (p := ⟨gb143, 4, none⟩) (Kd.R_far (p := ⟨gb143, 3, none⟩) (Kd.R_far (p := ⟨gb143, 2, none⟩) (Kd.R_far (p := ⟨gb143, 1, none⟩) (Kd.R_far (p := ⟨gb143, 0, none⟩) (Kd.R_mono HO122.out (fun k_ hk => (⟨hk, hk.2⟩ : _ ∧ k_ ≠ gb143))) (fun _ hk => hk.2) (.int .i64 t134)) (fun _ hk => hk.2) (.int .i64 t135)) (fun _ hk => hk.2) (.string t136)) (fun _ hk => hk.2) (.slice Ao62 t137.length co62)) (fun _ hk => hk.2) (.slice Ao63 t140.length co63)) (fun _ h_ => h_.1))) hb); have n4_ := qO (Kd.R_below (by (with_reducible repeat (first | apply Kd.R_alloc | apply Kd.R_drewN | apply Kd.R_drew)); exact (Kd.R_mono (Kd.R_far (p := ⟨gb143, 4, none⟩) (Kd.R_far (p := ⟨gb143, 3, none⟩) (Kd.R_far (p := ⟨gb143, 2, none⟩) (Kd.R_far (p := ⟨gb143, 1, none⟩) (Kd.R_far (p := ⟨gb143, 0, none⟩) (Kd.R_types HO129.out BK143.out (by decide)) (fun _ hk => hk.2) (.int .i64 t134)) (fun _ hk => hk.2) (.int .i64 t135)) (fun _ hk => hk.2) (.string t136)) (fun _ hk => hk.2) (.slice Ao62 t137.length co62)) (fun _ hk => hk.2) (.slice Ao63 t140.length co63)) (fun _ h_ => h_.1))) hb); have n5_ := qO (Kd.R_below (by (with_reducible repeat (first | apply Kd.R_alloc | apply Kd.R_drewN | apply Kd.R_drew)); exact (Kd.R_mono (Kd.R_far (p := ⟨gb143, 4, none⟩) (Kd.R_far (p := ⟨gb143, 3, none⟩) (Kd.R_far (p := ⟨gb143, 2, none⟩) (Kd.R_far (p := ⟨gb143, 1, none⟩) (Kd.R_far (p := ⟨gb143, 0, none⟩) (Kd.R_mono HO132.out (fun k_ hk => (⟨hk, hk.2⟩ : _ ∧ k_ ≠ gb143))) (fun _ hk => hk.2) (.int .i64 t134)) (fun _ hk => hk.2) (.int .i64 t135)) (fun _ hk => hk.2) (.string t136)) (fun _ hk => hk.2) (.slice Ao62 t137.length co62)) (fun _ hk => hk.2) (.slice Ao63 t140.length co63)) (fun _ h_ => h_.1))) hb); have n6_ := qO (Kd.R_below (by (with_reducible repeat (first | apply Kd.R_alloc | apply Kd.R_drewN | apply Kd.R_drew)); exact (Kd.R_mono (Kd.R_far (p := ⟨gb143, 4, none⟩) (Kd.R_far (p := ⟨gb143, 3, none⟩) (Kd.R_far (p := ⟨gb143, 2, none⟩) (Kd.R_far (p := ⟨gb143, 1, none⟩) (Kd.R_far (p := ⟨gb143, 0, none⟩) (Kd.R_types HO139.out BK143.out (by decide)) (fun _ hk => hk.2) (.int .i64 t134)) (fun _ hk => hk.2) (.int .i64 t135)) (fun _ hk => hk.2) (.string t136)) (fun _ hk => hk.2) (.slice Ao62 t137.length co62)) (fun _ hk => hk.2) (.slice Ao63 t140.length co63)) (fun _ h_ => h_.1))) hb); have n7_ := qO (Kd.R_below (by (with_reducible repeat (first | apply Kd.R_alloc | apply Kd.R_drewN | apply Kd.R_drew)); exact (Kd.R_mono (Kd.R_far (p := ⟨gb143, 4, none⟩) (Kd.R_far (p := ⟨gb143, 3, none⟩) (Kd.R_far (p := ⟨gb143, 2, none⟩) (Kd.R_far (p := ⟨gb143, 1, none⟩) (Kd.R_far (p := ⟨gb143, 0, none⟩) (Kd.R_mono HO142.out (fun k_ hk => (⟨hk, hk.2⟩ : _ ∧ k_ ≠ gb143))) (fun _ hk => hk.2) (.int .i64 t134)) (fun _ hk => hk.2) (.int .i64 t135)) (fun _ hk => hk.2) (.string t136)) (fun _ hk => hk.2) (.slice Ao62 t137.length co62)) (fun _ hk => hk.2) (.slice Ao63 t140.length co63)) (fun _ h_ => h_.1))) hb); have n8_ := qO (blk_below (g := gb101) (o := .cells #[.int .i64 a0_0, .int .i64 a0_1, .string a0_2, .slice A0_3 l0_3.length c0_3, .slice A0_4 l0_4.length c0_4] 41 (0, 0)) (by (with_reducible repeat (first | refine qkN ?_ _ | refine qkD ?_ | refine qkA ?_ _)); refine blk_far ?_ NB101_143.out _; (with_reducible repeat (first | refine qkN ?_ _ | refine qkD ?_ | refine qkA ?_ _)); refine blk_far ?_ NB101_143.out _; (with_reducible repeat (first | refine qkN ?_ _ | refine qkD ?_ | refine qkA ?_ _)); refine blk_far ?_ NB101_143.out _; (with_reducible repeat (first | refine qkN ?_ _ | refine qkD ?_ | refine qkA ?_ _)); refine blk_far ?_ NB101_143.out _; (with_reducible repeat (first | refine qkN ?_ _ | refine qkD ?_ | refine qkA ?_ _)); refine blk_far ?_ NB101_143.out _; (with_reducible repeat (first | refine qkN ?_ _ | refine qkD ?_ | refine qkA ?_ _)); exact BK101.out) hb); have n9_ := qO (blk_below (g := gb102) (o := .cells #[.int .i64 a1_0, .int .i64 a1_1, .string a1_2, .slice A1_3 l1_3.length c1_3, .slice A1_4 l1_4.length c1_4] 41 (0, 0)) (by (with_reducible repeat (first | refine qkN ?_ _ | refine qkD ?_ | refine qkA ?_ _)); refine blk_far ?_ NB102_143.out _; (with_reducible repeat (first | refine qkN ?_ _ | refine qkD ?_ | refine qkA ?_ _)); refine blk_far ?_ NB102_143.out _; (with_reducible repeat (first | refine qkN ?_ _ | refine qkD ?_ | refine qkA ?_ _)); refine blk_far ?_ NB102_143.out _; (with_reducible repeat (first | refine qkN ?_ _ | refine qkD ?_ | refine qkA ?_ _)); refine blk_far ?_ NB102_143.out _; (with_reducible repeat (first | refine qkN ?_ _ | refine qkD ?_ | refine qkA ?_ _)); refine blk_far ?_ NB102_143.out _; (with_reducible repeat (first | refine qkN ?_ _ | refine qkD ?_ | refine qkA ?_ _)); exact BK102.out) hb); have n10_ := qO (blk_below (g := gb133) (o := .cells #[.int .i64 t124, .int .i64 t125, .string t126, .slice Ao53 t127.length co53, .slice Ao54 t130.length co54] 46 (0, 0)) (by (with_reducible repeat (first | refine qkN ?_ _ | refine qkD ?_ | refine qkA ?_ _)); refine blk_far ?_ NB133_143.out _; (with_reducible repeat (first | refine qkN ?_ _ | refine qkD ?_ | refine qkA ?_ _)); refine blk_far ?_ NB133_143.out _; (with_reducible repeat (first | refine qkN ?_ _ | refine qkD ?_ | refine qkA ?_ _)); refine blk_far ?_ NB133_143.out _; (with_reducible repeat (first | refine qkN ?_ _ | refine qkD ?_ | refine qkA ?_ _)); refine blk_far ?_ NB133_143.out _; (with_reducible repeat (first | refine qkN ?_ _ | refine qkD ?_ | refine qkA ?_ _)); refine blk_far ?_ NB133_143.out _; (with_reducible repeat (first | refine qkN ?_ _ | refine qkD ?_ | refine qkA ?_ _)); exact BK133.out) hb); have n11_ := qO (blk_below (g := gb143) (o := .cells #[.int .i64 t134, .int .i64 t135, .string t136, .slice Ao62 t137.length co62, .slice Ao63 t140.length co63] 46 (0, 0)) (by (with_reducible repeat (first | refine qkN ?_ _ | refine qkD ?_ | refine qkA ?_ _)); refine blk_put (cs := #[.int .i64 t134, .int .i64 t135, .string t136, .slice Ao62 t137.length co62, .slice none 0 0]) ?_ 4 _ rfl; (with_reducible repeat (first | refine qkN ?_ _ | refine qkD ?_ | refine qkA ?_ _)); refine blk_put (cs := #[.int .i64 t134, .int .i64 t135, .string t136, .slice none 0 0, .slice none 0 0]) ?_ 3 _ rfl; (with_reducible repeat (first | refine qkN ?_ _ | refine qkD ?_ | refine qkA ?_ _)); refine blk_put (cs := #[.int .i64 t134, .int .i64 t135, .string (⟨#[]⟩ : ByteArray), .slice none 0 0, .slice none 0 0]) ?_ 2 _ rfl; (with_reducible repeat (first | refine qkN ?_ _ | refine qkD ?_ | refine qkA ?_ _)); refine blk_put (cs := #[.int .i64 t134, .int .i64 0, .string (⟨#[]⟩ : ByteArray), .slice none 0 0, .slice none 0 0]) ?_ 1 _ rfl; (with_reducible repeat (first | refine qkN ?_ _ | refine qkD ?_ | refine qkA ?_ _)); refine blk_put (cs := #[.int .i64 0, .int .i64 0, .string (⟨#[]⟩ : ByteArray), .slice none 0 0, .slice none 0 0]) ?_ 0 _ rfl; (with_reducible repeat (first | refine qkN ?_ _ | refine qkD ?_ | refine qkA ?_ _)); exact BK143.out) hb); have n12_ := qO (below_step qa59 hb); clear HO110; clear HO113; clear HO119; clear HO122; clear HO129; clear HO132; clear HO139; clear HO142; clear BK101; clear BK102; clear BK133; clear BK143; clear HB; have HO110 := n0_; have HO113 := n1_; have HO119 := n2_; have HO122 := n3_; have HO129 := n4_; have HO132 := n5_; have HO139 := n6_; have HO142 := n7_; have BK101 := n8_; have BK102 := n9_; have BK133 := n10_; have BK143 := n11_; have HB := n12_; clear n0_ n1_ n2_ n3_ n4_ n5_ n6_ n7_ n8_ n9_ n10_ n11_ n12_; (try clear hb); (try clear hb2); (try clear hk); (try clear hi)))
      have n0_ := qO (Kd.R_drew HO110.out); have n1_ := qO (Kd.R_drew HO113.out); have n2_ := qO (Kd.R_drew HO119.out); have n3_ := qO (Kd.R_drew HO122.out); have n4_ := qO (Kd.R_drew HO129.out); have n5_ := qO (Kd.R_drew HO132.out); have n6_ := qO (Kd.R_drew HO139.out); have n7_ := qO (Kd.R_drew HO142.out); have n8_ := qO (qkD BK101.out); have n9_ := qO (qkD BK102.out); have n10_ := qO (qkD BK133.out); have n11_ := qO (qkD BK143.out); have n12_ := qO (qbD HB.out); clear HO110; clear HO113; clear HO119; clear HO122; clear HO129; clear HO132; clear HO139; clear HO142; clear BK101; clear BK102; clear BK133; clear BK143; clear HB; have HO110 := n0_; have HO113 := n1_; have HO119 := n2_; have HO122 := n3_; have HO129 := n4_; have HO132 := n5_; have HO139 := n6_; have HO142 := n7_; have BK101 := n8_; have BK102 := n9_; have BK133 := n10_; have BK143 := n11_; have HB := n12_; clear n0_ n1_ n2_ n3_ n4_ n5_ n6_ n7_ n8_ n9_ n10_ n11_ n12_; refine start_ (n := 5) (S := fun w' => w'.cell? ⟨gb133, 0, none⟩ = some (.int .i64 t124) ∧ w'.cell? ⟨gb133, 1, none⟩ = some (.int .i64 t125) ∧ w'.cell? ⟨gb133, 2, none⟩ = some (.string t126) ∧ w'.cell? ⟨gb133, 3, none⟩ = some (.slice Ao53 t127.length co53) ∧ w'.cell? ⟨gb133, 4, none⟩ = some (.slice Ao54 t130.length co54) ∧ w'.cell? ⟨gb101, 0, none⟩ = some (.int .i64 a0_0) ∧ w'.cell? ⟨gb101, 1, none⟩ = some (.int .i64 a0_1) ∧ w'.cell? ⟨gb101, 2, none⟩ = some (.string a0_2) ∧ w'.cell? ⟨gb101, 3, none⟩ = some (.slice A0_3 l0_3.length c0_3) ∧ w'.cell? ⟨gb101, 4, none⟩ = some (.slice A0_4 l0_4.length c0_4)) (ds := []) #[false, false, false, false, false] qa10 rfl rfl ⟨(blk_cell BK133.out 0).trans rfl, (blk_cell BK133.out 1).trans rfl, (blk_cell BK133.out 2).trans rfl, (blk_cell BK133.out 3).trans rfl, (blk_cell BK133.out 4).trans rfl, (blk_cell BK101.out 0).trans rfl, (blk_cell BK101.out 1).trans rfl, (blk_cell BK101.out 2).trans rfl, (blk_cell BK101.out 3).trans rfl, (blk_cell BK101.out 4).trans rfl⟩ (fun hHeld => ?_); generalize w65.drew = w66 at HO110 HO113 HO119 HO122 HO129 HO132 HO139 HO142 BK101 BK102 BK133 BK143 HB hHeld ⊢; refine take_ (i := 0) (N := some 35) (v := ?_) (a' := ?_) #[true, false, false, false, false] rfl rfl qa10 (fun _ _ _ h => h) (Or.inl ⟨by rfl, ?_⟩) hHeld ?_ ?_; rotate_left; exact qa36; rotate_left; exact qa3; refine take_ (i := 1) (N := some 36) (v := ?_) (a' := ?_) #[true, true, false, false, false] rfl rfl qa10 (fun _ _ _ h => h) (Or.inl ⟨by rfl, ?_⟩) hHeld ?_ ?_; rotate_left; exact qa36; rotate_left; exact qa3; refine one_ (i := 2) (N := some 37) #[true, true, true, false, false] rfl rfl qa10 qa68 (fun K hK => ?_); refine goes_ Try.func23 qa10 rfl #[.agg #[.int .i64 a0_0, .int .i64 a0_1, .string a0_2, .slice A0_3 l0_3.length c0_3, .slice A0_4 l0_4.length c0_4]] (by rfl) rfl rfl qa1 ?_; (with_reducible refine (laws_toOut.calls k a0_0 a0_1 a0_2 _ _ l0_3 _ _ l0_4 t145 t146 t147 t148 t151 _ ?side1 ?side2 ?side3 ?side4 A26.out).mono ?_); (case side1 => exact qa14); (case side2 => exact HC0_3.out); (case side3 => exact qa19); (case side4 => exact HC0_4.out); rintro e w67 ⟨v149, v152, rfl, ho0, ho1, hb⟩; have hx_ := qHX HB hb qa0; refine ⟨_, rfl, ?_⟩; have n0_ := qO (Kd.R_elder' qa23 (Kd.R_base ho0) hb); have n1_ := qO (Kd.R_mono (Kd.R_told (Kd.R_told (Kd.R_old qa30 hb) (Kd.R_base ho0)) (Kd.R_base ho1)) (fun _ h_ => h_.1)); have n2_ := qO (Kd.R_elder' qa27 (Kd.R_base ho0) hb); have n3_ := qO (Kd.R_mono (Kd.R_told (Kd.R_told (Kd.R_old qa35 hb) (Kd.R_base ho0)) (Kd.R_base ho1)) (fun _ h_ => h_.1)); have n4_ := qO (Kd.R_elder' qa37 (Kd.R_base ho0) hb); have n5_ := qO (Kd.R_mono (Kd.R_told (Kd.R_told (Kd.R_old qa42 hb) (Kd.R_base ho0)) (Kd.R_base ho1)) (fun _ h_ => h_.1)); have n6_ := qO (Kd.R_elder' qa38 (Kd.R_base ho0) hb); have n7_ := qO (Kd.R_mono (Kd.R_told (Kd.R_told (Kd.R_old qa45 hb) (Kd.R_base ho0)) (Kd.R_base ho1)) (fun _ h_ => h_.1)); have n8_ := qO (Kd.R_lower (Kd.R_new' (Kd.R_new' (Kd.R_new' (Kd.R_new' ho0 (Kd.R_lt qa23)) (Kd.R_lt qa27)) (Kd.R_lt qa37)) (Kd.R_lt qa38)) (below_size (below_step HB.out hx_))); have n9_ := qO (Kd.R_lower (Kd.R_newB (Kd.R_newB (Kd.R_new' (Kd.R_new' (Kd.R_new' (Kd.R_new' (Kd.R_new' (Kd.R_new' (Kd.R_new' (Kd.R_new' ho1 (Kd.R_lt qa23)) (Kd.R_lt qa30)) (Kd.R_lt qa27)) (Kd.R_lt qa35)) (Kd.R_lt qa37)) (Kd.R_lt qa42)) (Kd.R_lt qa38)) (Kd.R_lt qa45)) (g := gb133) (o := .cells #[.int .i64 t124, .int .i64 t125, .string t126, .slice Ao53 t127.length co53, .slice Ao54 t130.length co54] 46 (0, 0)) qa87) (g := gb143) (o := .cells #[.int .i64 t134, .int .i64 t135, .string t136, .slice Ao62 t137.length co62, .slice Ao63 t140.length co63] 46 (0, 0)) qa88) (below_size (below_step HB.out hx_))); have n10_ := qO (qB BK101.out hx_ hb); have n11_ := qO (qB BK102.out hx_ hb); have n12_ := qO (qB BK133.out hx_ hb); have n13_ := qO (qB BK143.out hx_ hb); have n14_ := qO (below_step (below_step HB.out hx_) hb); clear HO110; clear HO113; clear HO119; clear HO122; clear HO129; clear HO132; clear HO139; clear HO142; clear BK101; clear BK102; clear BK133; clear BK143; clear HB; have HO110 := n0_; have HO113 := n1_; have HO119 := n2_; have HO122 := n3_; have HO129 := n4_; have HO132 := n5_; have HO139 := n6_; have HO142 := n7_; have HO150 := n8_; have HO153 := n9_; have BK101 := n10_; have BK102 := n11_; have BK133 := n12_; have BK143 := n13_; have HB := n14_; clear n0_ n1_ n2_ n3_ n4_ n5_ n6_ n7_ n8_ n9_ n10_ n11_ n12_ n13_ n14_; clear hx_; (try clear hb); (try clear hb2); (try clear hk); (try clear hi); (try clear ho0); (try clear ho1); obtain ⟨Ao68, co68, eo68⟩ := Kd.R_slice HO150.out; (first | subst eo68 | (injection eo68 with f1_ f2_ f3_; have f4_ := f1_.symm; have f5_ := f3_.symm; clear f1_ f2_ f3_; subst f4_; subst f5_)); obtain ⟨Ao69, co69, eo69⟩ := Kd.R_slice HO153.out; (first | subst eo69 | (injection eo69 with f1_ f2_ f3_; have f4_ := f1_.symm; have f5_ := f3_.symm; clear f1_ f2_ f3_; subst f4_; subst f5_)); refine hK.out _ _ ⟨(blk_cell BK133.out 0).trans rfl, (blk_cell BK133.out 1).trans rfl, (blk_cell BK133.out 2).trans rfl, (blk_cell BK133.out 3).trans rfl, (blk_cell BK133.out 4).trans rfl, (blk_cell BK101.out 0).trans rfl, (blk_cell BK101.out 1).trans rfl, (blk_cell BK101.out 2).trans rfl, (blk_cell BK101.out 3).trans rfl, (blk_cell BK101.out 4).trans rfl⟩ (fun hHeld => ?_); clear hK K; refine norm_ (a' := ?_) ?_ ?_; rotate_left
      ·exact qa16
      refine one_ (i := 3) (N := some 38) #[true, true, true, true, false] rfl rfl qa10 qa68 (fun K hK => ?_); refine goes_ Try.func25 qa10 rfl #[.agg #[.int .i64 t124, .int .i64 t125, .string t126, .slice Ao53 t127.length co53, .slice Ao54 t130.length co54], .agg #[.int .i64 t145, .int .i64 t146, .string t147, .slice Ao68 t148.length co68, .slice Ao69 t151.length co69]] (by rfl) rfl rfl qa1 ?_; (with_reducible refine (laws_eqOut.calls k t124 t125 t126 _ _ t127 _ _ t130 t145 t146 t147 _ _ t148 _ _ t151 true _ ?side1 ?side2 ?side3 ?side4 ?side5 ?side6 ?side7 ?side8 A27.out).mono ?_); (case side1 => repeat (first | exact (Kd.R_reads' HO129.out).2.2 | with_reducible first | refine Kd.C_alloc ?_ _ | refine Kd.C_drewN ?_ _ | refine Kd.C_drew ?_)); (case side2 => exact (Kd.R_reads' HO129.out).2.1); (case side3 => repeat (first | exact (Kd.R_reads' HO132.out).2.2 | with_reducible first | refine Kd.C_alloc ?_ _ | refine Kd.C_drewN ?_ _ | refine Kd.C_drew ?_)); (case side4 => exact (Kd.R_reads' HO132.out).2.1); (case side5 => repeat (first | exact (Kd.R_reads' HO150.out).2.2 | with_reducible first | refine Kd.C_alloc ?_ _ | refine Kd.C_drewN ?_ _ | refine Kd.C_drew ?_)); (case side6 => exact (Kd.R_reads' HO150.out).2.1); (case side7 => repeat (first | exact (Kd.R_reads' HO153.out).2.2 | with_reducible first | refine Kd.C_alloc ?_ _ | refine Kd.C_drewN ?_ _ | refine Kd.C_drew ?_)); (case side8 => exact (Kd.R_reads' HO153.out).2.1); rintro e w70 ⟨rfl, hb⟩; have hx_ := qHX HB hb qa0; refine ⟨_, rfl, ?_⟩; have n0_ := qO (Kd.R_below qa23 hb); have n1_ := qO (Kd.R_below qa30 hb); have n2_ := qO (Kd.R_below qa27 hb); have n3_ := qO (Kd.R_below qa35 hb); have n4_ := qO (Kd.R_below qa37 hb); have n5_ := qO (Kd.R_below qa42 hb); have n6_ := qO (Kd.R_below qa38 hb); have n7_ := qO (Kd.R_below qa45 hb); have n8_ := qO (Kd.R_below qa55 hb); have n9_ := qO (Kd.R_below qa60 hb); have n10_ := qO (qB BK101.out hx_ hb); have n11_ := qO (qB BK102.out hx_ hb); have n12_ := qO (qB BK133.out hx_ hb); have n13_ := qO (qB BK143.out hx_ hb); have n14_ := qO (below_step (below_step HB.out hx_) hb); clear HO110; clear HO113; clear HO119; clear HO122; clear HO129; clear HO132; clear HO139; clear HO142; clear HO150; clear HO153; clear BK101; clear BK102; clear BK133; clear BK143; clear HB; have HO110 := n0_; have HO113 := n1_; have HO119 := n2_; have HO122 := n3_; have HO129 := n4_; have HO132 := n5_; have HO139 := n6_; have HO142 := n7_; have HO150 := n8_; have HO153 := n9_; have BK101 := n10_; have BK102 := n11_; have BK133 := n12_; have BK143 := n13_; have HB := n14_; clear n0_ n1_ n2_ n3_ n4_ n5_ n6_ n7_ n8_ n9_ n10_ n11_ n12_ n13_ n14_; clear hx_; (try clear hb); (try clear hb2); (try clear hk); (try clear hi); refine hK.out _ _ ⟨(blk_cell BK133.out 0).trans rfl, (blk_cell BK133.out 1).trans rfl, (blk_cell BK133.out 2).trans rfl, (blk_cell BK133.out 3).trans rfl, (blk_cell BK133.out 4).trans rfl, (blk_cell BK101.out 0).trans rfl, (blk_cell BK101.out 1).trans rfl, (blk_cell BK101.out 2).trans rfl, (blk_cell BK101.out 3).trans rfl, (blk_cell BK101.out 4).trans rfl⟩ (fun hHeld => ?_); clear hK K; refine norm_ (a' := ?_) ?_ ?_; rotate_left
      ·exact qa16
      refine pure_ (i := 4) (N := some 39) (v := ?_) (a' := ?_) #[true, true, true, true, true] rfl rfl qa10 (fun _ _ _ h => h) (Or.inl ⟨by rfl, ?_⟩) ?_ ?_; rotate_left; exact qa11; rotate_left; exact qa3; refine done_ qa10 ?_
      try go_wp2
      have n0_ := qO (Kd.R_drew HO110.out); have n1_ := qO (Kd.R_drew HO113.out); have n2_ := qO (Kd.R_drew HO119.out); have n3_ := qO (Kd.R_drew HO122.out); have n4_ := qO (Kd.R_drew HO129.out); have n5_ := qO (Kd.R_drew HO132.out); have n6_ := qO (Kd.R_drew HO139.out); have n7_ := qO (Kd.R_drew HO142.out); have n8_ := qO (Kd.R_drew HO150.out); have n9_ := qO (Kd.R_drew HO153.out); have n10_ := qO (qkD BK101.out); have n11_ := qO (qkD BK102.out); have n12_ := qO (qkD BK133.out); have n13_ := qO (qkD BK143.out); have n14_ := qO (qbD HB.out); clear HO110; clear HO113; clear HO119; clear HO122; clear HO129; clear HO132; clear HO139; clear HO142; clear HO150; clear HO153; clear BK101; clear BK102; clear BK133; clear BK143; clear HB; have HO110 := n0_; have HO113 := n1_; have HO119 := n2_; have HO122 := n3_; have HO129 := n4_; have HO132 := n5_; have HO139 := n6_; have HO142 := n7_; have HO150 := n8_; have HO153 := n9_; have BK101 := n10_; have BK102 := n11_; have BK133 := n12_; have BK143 := n13_; have HB := n14_; clear n0_ n1_ n2_ n3_ n4_ n5_ n6_ n7_ n8_ n9_ n10_ n11_ n12_ n13_ n14_; refine start_ (n := 5) (S := fun w' => w'.cell? ⟨gb143, 0, none⟩ = some (.int .i64 t134) ∧ w'.cell? ⟨gb143, 1, none⟩ = some (.int .i64 t135) ∧ w'.cell? ⟨gb143, 2, none⟩ = some (.string t136) ∧ w'.cell? ⟨gb143, 3, none⟩ = some (.slice Ao62 t137.length co62) ∧ w'.cell? ⟨gb143, 4, none⟩ = some (.slice Ao63 t140.length co63) ∧ w'.cell? ⟨gb102, 0, none⟩ = some (.int .i64 a1_0) ∧ w'.cell? ⟨gb102, 1, none⟩ = some (.int .i64 a1_1) ∧ w'.cell? ⟨gb102, 2, none⟩ = some (.string a1_2) ∧ w'.cell? ⟨gb102, 3, none⟩ = some (.slice A1_3 l1_3.length c1_3) ∧ w'.cell? ⟨gb102, 4, none⟩ = some (.slice A1_4 l1_4.length c1_4)) (ds := []) #[false, false, false, false, false] qa10 rfl rfl ⟨(blk_cell BK143.out 0).trans rfl, (blk_cell BK143.out 1).trans rfl, (blk_cell BK143.out 2).trans rfl, (blk_cell BK143.out 3).trans rfl, (blk_cell BK143.out 4).trans rfl, (blk_cell BK102.out 0).trans rfl, (blk_cell BK102.out 1).trans rfl, (blk_cell BK102.out 2).trans rfl, (blk_cell BK102.out 3).trans rfl, (blk_cell BK102.out 4).trans rfl⟩ (fun hHeld => ?_); generalize w70.drew = w71 at HO110 HO113 HO119 HO122 HO129 HO132 HO139 HO142 HO150 HO153 BK101 BK102 BK133 BK143 HB hHeld ⊢; refine take_ (i := 0) (N := some 40) (v := ?_) (a' := ?_) #[true, false, false, false, false] rfl rfl qa10 (fun _ _ _ h => h) (Or.inl ⟨by rfl, ?_⟩) hHeld ?_ ?_; rotate_left; exact qa36; rotate_left; exact qa3; refine take_ (i := 1) (N := some 41) (v := ?_) (a' := ?_) #[true, true, false, false, false] rfl rfl qa10 (fun _ _ _ h => h) (Or.inl ⟨by rfl, ?_⟩) hHeld ?_ ?_; rotate_left; exact qa36; rotate_left; exact qa3; refine one_ (i := 2) (N := some 42) #[true, true, true, false, false] rfl rfl qa10 qa68 (fun K hK => ?_); refine goes_ Try.func23 qa10 rfl #[.agg #[.int .i64 a1_0, .int .i64 a1_1, .string a1_2, .slice A1_3 l1_3.length c1_3, .slice A1_4 l1_4.length c1_4]] (by rfl) rfl rfl qa1 ?_; (with_reducible refine (laws_toOut.calls k a1_0 a1_1 a1_2 _ _ l1_3 _ _ l1_4 t155 t156 t157 t158 t161 _ ?side1 ?side2 ?side3 ?side4 A29.out).mono ?_); (case side1 => exact qa18); (case side2 => exact HC1_3.out); (case side3 => exact qa29); (case side4 => exact HC1_4.out); rintro e w72 ⟨v159, v162, rfl, ho0, ho1, hb⟩; have hx_ := qHX HB hb qa0; refine ⟨_, rfl, ?_⟩; have n0_ := qO (Kd.R_elder' qa23 (Kd.R_base ho0) hb); have n1_ := qO (Kd.R_mono (Kd.R_told (Kd.R_told (Kd.R_old qa30 hb) (Kd.R_base ho0)) (Kd.R_base ho1)) (fun _ h_ => h_.1)); have n2_ := qO (Kd.R_elder' qa27 (Kd.R_base ho0) hb); have n3_ := qO (Kd.R_mono (Kd.R_told (Kd.R_told (Kd.R_old qa35 hb) (Kd.R_base ho0)) (Kd.R_base ho1)) (fun _ h_ => h_.1)); have n4_ := qO (Kd.R_elder' qa37 (Kd.R_base ho0) hb); have n5_ := qO (Kd.R_mono (Kd.R_told (Kd.R_told (Kd.R_old qa42 hb) (Kd.R_base ho0)) (Kd.R_base ho1)) (fun _ h_ => h_.1)); have n6_ := qO (Kd.R_elder' qa38 (Kd.R_base ho0) hb); have n7_ := qO (Kd.R_mono (Kd.R_told (Kd.R_told (Kd.R_old qa45 hb) (Kd.R_base ho0)) (Kd.R_base ho1)) (fun _ h_ => h_.1)); have n8_ := qO (Kd.R_elder' qa55 (Kd.R_base ho0) hb); have n9_ := qO (Kd.R_mono (Kd.R_told (Kd.R_told (Kd.R_old qa60 hb) (Kd.R_base ho0)) (Kd.R_base ho1)) (fun _ h_ => h_.1)); have n10_ := qO (Kd.R_lower (Kd.R_new' (Kd.R_new' (Kd.R_new' (Kd.R_new' (Kd.R_new' ho0 (Kd.R_lt qa23)) (Kd.R_lt qa27)) (Kd.R_lt qa37)) (Kd.R_lt qa38)) (Kd.R_lt qa55)) (below_size (below_step HB.out hx_))); have n11_ := qO (Kd.R_lower (Kd.R_newB (Kd.R_newB (Kd.R_new' (Kd.R_new' (Kd.R_new' (Kd.R_new' (Kd.R_new' (Kd.R_new' (Kd.R_new' (Kd.R_new' (Kd.R_new' (Kd.R_new' ho1 (Kd.R_lt qa23)) (Kd.R_lt qa30)) (Kd.R_lt qa27)) (Kd.R_lt qa35)) (Kd.R_lt qa37)) (Kd.R_lt qa42)) (Kd.R_lt qa38)) (Kd.R_lt qa45)) (Kd.R_lt qa55)) (Kd.R_lt qa60)) (g := gb133) (o := .cells #[.int .i64 t124, .int .i64 t125, .string t126, .slice Ao53 t127.length co53, .slice Ao54 t130.length co54] 46 (0, 0)) qa87) (g := gb143) (o := .cells #[.int .i64 t134, .int .i64 t135, .string t136, .slice Ao62 t137.length co62, .slice Ao63 t140.length co63] 46 (0, 0)) qa88) (below_size (below_step HB.out hx_))); have n12_ := qO (qB BK101.out hx_ hb); have n13_ := qO (qB BK102.out hx_ hb); have n14_ := qO (qB BK133.out hx_ hb); have n15_ := qO (qB BK143.out hx_ hb); have n16_ := qO (below_step (below_step HB.out hx_) hb); clear HO110; clear HO113; clear HO119; clear HO122; clear HO129; clear HO132; clear HO139; clear HO142; clear HO150; clear HO153; clear BK101; clear BK102; clear BK133; clear BK143; clear HB; have HO110 := n0_; have HO113 := n1_; have HO119 := n2_; have HO122 := n3_; have HO129 := n4_; have HO132 := n5_; have HO139 := n6_; have HO142 := n7_; have HO150 := n8_; have HO153 := n9_; have HO160 := n10_; have HO163 := n11_; have BK101 := n12_; have BK102 := n13_; have BK133 := n14_; have BK143 := n15_; have HB := n16_; clear n0_ n1_ n2_ n3_ n4_ n5_ n6_ n7_ n8_ n9_ n10_ n11_ n12_ n13_ n14_ n15_ n16_; clear hx_; (try clear hb); (try clear hb2); (try clear hk); (try clear hi); (try clear ho0); (try clear ho1); obtain ⟨Ao73, co73, eo73⟩ := Kd.R_slice HO160.out; (first | subst eo73 | (injection eo73 with f1_ f2_ f3_; have f4_ := f1_.symm; have f5_ := f3_.symm; clear f1_ f2_ f3_; subst f4_; subst f5_)); obtain ⟨Ao74, co74, eo74⟩ := Kd.R_slice HO163.out; (first | subst eo74 | (injection eo74 with f1_ f2_ f3_; have f4_ := f1_.symm; have f5_ := f3_.symm; clear f1_ f2_ f3_; subst f4_; subst f5_)); refine hK.out _ _ ⟨(blk_cell BK143.out 0).trans rfl, (blk_cell BK143.out 1).trans rfl, (blk_cell BK143.out 2).trans rfl, (blk_cell BK143.out 3).trans rfl, (blk_cell BK143.out 4).trans rfl, (blk_cell BK102.out 0).trans rfl, (blk_cell BK102.out 1).trans rfl, (blk_cell BK102.out 2).trans rfl, (blk_cell BK102.out 3).trans rfl, (blk_cell BK102.out 4).trans rfl⟩ (fun hHeld => ?_); clear hK K; refine norm_ (a' := ?_) ?_ ?_; rotate_left
      ·exact qa16
      refine one_ (i := 3) (N := some 43) #[true, true, true, true, false] rfl rfl qa10 qa68 (fun K hK => ?_); refine goes_ Try.func25 qa10 rfl #[.agg #[.int .i64 t134, .int .i64 t135, .string t136, .slice Ao62 t137.length co62, .slice Ao63 t140.length co63], .agg #[.int .i64 t155, .int .i64 t156, .string t157, .slice Ao73 t158.length co73, .slice Ao74 t161.length co74]] (by rfl) rfl rfl qa1 ?_; (with_reducible refine (laws_eqOut.calls k t134 t135 t136 _ _ t137 _ _ t140 t155 t156 t157 _ _ t158 _ _ t161 true _ ?side1 ?side2 ?side3 ?side4 ?side5 ?side6 ?side7 ?side8 A30.out).mono ?_); (case side1 => repeat (first | exact (Kd.R_reads' HO139.out).2.2 | with_reducible first | refine Kd.C_alloc ?_ _ | refine Kd.C_drewN ?_ _ | refine Kd.C_drew ?_)); (case side2 => exact (Kd.R_reads' HO139.out).2.1); (case side3 => repeat (first | exact (Kd.R_reads' HO142.out).2.2 | with_reducible first | refine Kd.C_alloc ?_ _ | refine Kd.C_drewN ?_ _ | refine Kd.C_drew ?_)); (case side4 => exact (Kd.R_reads' HO142.out).2.1); (case side5 => repeat (first | exact (Kd.R_reads' HO160.out).2.2 | with_reducible first | refine Kd.C_alloc ?_ _ | refine Kd.C_drewN ?_ _ | refine Kd.C_drew ?_)); (case side6 => exact (Kd.R_reads' HO160.out).2.1); (case side7 => repeat (first | exact (Kd.R_reads' HO163.out).2.2 | with_reducible first | refine Kd.C_alloc ?_ _ | refine Kd.C_drewN ?_ _ | refine Kd.C_drew ?_)); (case side8 => exact (Kd.R_reads' HO163.out).2.1); rintro e w75 ⟨rfl, hb⟩; have hx_ := qHX HB hb qa0; refine ⟨_, rfl, ?_⟩; have n0_ := qO (Kd.R_below qa23 hb); have n1_ := qO (Kd.R_below qa30 hb); have n2_ := qO (Kd.R_below qa27 hb); have n3_ := qO (Kd.R_below qa35 hb); have n4_ := qO (Kd.R_below qa37 hb); have n5_ := qO (Kd.R_below qa42 hb); have n6_ := qO (Kd.R_below qa38 hb); have n7_ := qO (Kd.R_below qa45 hb); have n8_ := qO (Kd.R_below qa55 hb); have n9_ := qO (Kd.R_below qa60 hb); have n10_ := qO (Kd.R_below (by (with_reducible repeat (first | apply Kd.R_alloc | apply Kd.R_drewN | apply Kd.R_drew)); exact HO160.out) hb); have n11_ := qO (Kd.R_below (by (with_reducible repeat (first | apply Kd.R_alloc | apply Kd.R_drewN | apply Kd.R_drew)); exact HO163.out) hb); have n12_ := qO (qB BK101.out hx_ hb); have n13_ := qO (qB BK102.out hx_ hb); have n14_ := qO (qB BK133.out hx_ hb); have n15_ := qO (qB BK143.out hx_ hb); have n16_ := qO (below_step (below_step HB.out hx_) hb); clear HO110; clear HO113; clear HO119; clear HO122; clear HO129; clear HO132; clear HO139; clear HO142; clear HO150; clear HO153; clear HO160; clear HO163; clear BK101; clear BK102; clear BK133; clear BK143; clear HB; have HO110 := n0_; have HO113 := n1_; have HO119 := n2_; have HO122 := n3_; have HO129 := n4_; have HO132 := n5_; have HO139 := n6_; have HO142 := n7_; have HO150 := n8_; have HO153 := n9_; have HO160 := n10_; have HO163 := n11_; have BK101 := n12_; have BK102 := n13_; have BK133 := n14_; have BK143 := n15_; have HB := n16_; clear n0_ n1_ n2_ n3_ n4_ n5_ n6_ n7_ n8_ n9_ n10_ n11_ n12_ n13_ n14_ n15_ n16_; clear hx_; (try clear hb); (try clear hb2); (try clear hk); (try clear hi); refine hK.out _ _ ⟨(blk_cell BK143.out 0).trans rfl, (blk_cell BK143.out 1).trans rfl, (blk_cell BK143.out 2).trans rfl, (blk_cell BK143.out 3).trans rfl, (blk_cell BK143.out 4).trans rfl, (blk_cell BK102.out 0).trans rfl, (blk_cell BK102.out 1).trans rfl, (blk_cell BK102.out 2).trans rfl, (blk_cell BK102.out 3).trans rfl, (blk_cell BK102.out 4).trans rfl⟩ (fun hHeld => ?_); clear hK K; refine norm_ (a' := ?_) ?_ ?_; rotate_left
      ·exact qa16
      refine pure_ (i := 4) (N := some 44) (v := ?_) (a' := ?_) #[true, true, true, true, true] rfl rfl qa10 (fun _ _ _ h => h) (Or.inl ⟨by rfl, ?_⟩) ?_ ?_; rotate_left; exact qa11; rotate_left; exact qa3; refine done_ qa10 ?_
      try go_wp2
      go_ret
      exact ⟨qa4, qa59⟩
     ·replace c31 := Bool.eq_false_iff.mpr c31
      subst c31; have H1 : (none) = some r := by rw [if_neg (show ¬ (false = true) by decide)] at H; exact H
      clear H; have H := H1; clear H1
      exact absurd H qa70
    ·replace c28 := Bool.eq_false_iff.mpr c28
     subst c28; have H1 : (none) = some r := by rw [if_neg (show ¬ (false = true) by decide)] at H; exact H
     clear H; have H := H1; clear H1
     exact absurd H qa70

end Go.Proofs.Ytfpkooafbeejmaa.Q
namespace Go.Proofs.Ytfpkooafbeejmaa.Q
open Go.RowKit Go.Proofs.YtfpkooafbeejmaaW.PrintWords Go.Proofs.Ytfpkooafbeejmaa.Opens
set_option linter.unusedVariables false
def i41n : Nat → S41 → Prop
 | 0 => fun _ => False
 | n + 1 => fun x => (Lit.int .i64 x.f0).wf = true ∧ (Lit.int .i64 x.f1).wf = true ∧ x.f2.size ≤ 9223372036854775807 ∧ (x.f3.length ≤ 9223372036854775807 ∧ ∀ y1_ ∈ x.f3, y1_.size ≤ 9223372036854775807) ∧ (x.f4.length ≤ 9223372036854775807 ∧ ∀ y1_ ∈ x.f4, i41n n y1_)
def i41 (x : S41) : Prop := ∃ n, i41n n x
theorem o41n : ∀ m, OpensL m Try.prog 41 (Kd.upto F41 5 [9, 41] m) (i41n m)
 | 0 => opensL_none Try.underlying41
 | m + 1 => opensL_struct (N := 5) Try.underlying41 qa10 (opensFL_cons rfl qa10 (Opens.lim (opens_int Try.underlying3) m) (opensFL_cons rfl qa10 (Opens.lim (opens_int Try.underlying3) m) (opensFL_cons rfl qa10 (Opens.lim (opens_string Try.underlying9) m) (opensFL_cons rfl qa10 (Opens.lim (opens_slice Try.underlying38 qa10 (opens_string Try.underlying9)) m) (opensFL_one rfl rfl qa10 (opensL_slice Try.underlying39 (by rw [sz41]; kernel_rfl) (o41n m))))))) (fun y => ⟨y.1, y.2.1, y.2.2.1, y.2.2.2.1, y.2.2.2.2⟩) (fun _ => rfl)
theorem o41 : Opens Try.prog 41 k41 i41 := opens_fix o41n
def laws_FnExactSameOut.Pure2 : Prop := ∀ (y0 : S41), ∀ (y1 : S41), i41 y0 → i41 y1 → ∃ k, laws_FnExactSameOut.f k y0.f0 y0.f1 y0.f2 y0.f3 y0.f4 y1.f0 y1.f1 y1.f2 y1.f3 y1.f4 = some true
end Go.Proofs.Ytfpkooafbeejmaa.Q
namespace Go.Proofs.Ytfpkooafbeejmaa.Pure2
open Go.RowKit Go.Proofs.Ytfpkooafbeejmaa.Q Go.Proofs.YtfpkooafbeejmaaW.PrintWords Go.Proofs.YtfpkooafbeejmaaW.PrintLast
set_option linter.unusedVariables false
set_option linter.unusedSimpArgs false
/-! small words -/
theorem wsucc {j n : Nat} (h : j < n) (hn : n ≤ 4611686018427387904) : wrap64 ((j : Int) + 1) = ((j + 1 : Nat) : Int) := by unfold wrap64; omega
theorem ev_step {α : Type} {g f : Nat → Option α} {r : α} (h : ∃ K, ∀ k, K ≤ k → g (k + 1) = f k) (k : Ev f r) : Ev g r := by
  obtain ⟨K, h⟩ := h
  obtain ⟨K', k⟩ := k
  refine ⟨max K K' + 1, fun n hn => ?_⟩
  obtain ⟨m, rfl⟩ : ∃ m, n = m + 1 := ⟨n - 1, qa22⟩
  rw [h m qa22, k m qa22]
theorem ev_now {α : Type} {g : Nat → Option α} {r : α} (h : ∃ K, ∀ k, K ≤ k → g (k + 1) = some r) : Ev g r := ev_step (f := fun _ => some r) h (Ev.now r)
theorem ev_same {α : Type} {g f : Nat → Option α} {r : α} (h : ∃ K, ∀ k, K ≤ k → g k = f k) (k : Ev f r) : Ev g r := by
  obtain ⟨K, h⟩ := h
  obtain ⟨K', k⟩ := k
  exact ⟨max K K', fun n hn => by rw [h n qa22, k n qa22]⟩
theorem ev_two {α β : Type} {g : Nat → Option α} {f : Nat → Option β} {r : α} {q : β} (h : Ev g r) (k : Ev f q) : ∃ K, ∀ n, K ≤ n → g n = some r ∧ f n = some q := by
  obtain ⟨K, h⟩ := h
  obtain ⟨K', k⟩ := k
  exact ⟨max K K', fun n hn => ⟨h n qa22, k n qa22⟩⟩
theorem ev_mk {α : Type} {g : Nat → Option α} {r : α} (K : Nat) (h : ∀ k, K ≤ k → g k = some r) : Ev g r := ⟨K, h⟩
theorem ev_at {α : Type} {g : Nat → Option α} {r : α} (h : Ev g r) : ∃ K, ∀ k, K ≤ k → g k = some r := h
/-- A loop that counts up to n: from the end back. -/
theorem count_loop {ρ : Type} (n : Nat) (L : Nat → Int → Option ρ) (Post : Nat → ρ → Prop) (hend : ∃ r, Post n r ∧ Ev (fun k => L k (n : Int)) r)
    (hstep : ∀ j, j < n → ∀ r, Post (j + 1) r → Ev (fun k => L k ((j + 1 : Nat) : Int)) r → ∃ r', Post j r' ∧ Ev (fun k => L k (j : Int)) r') :
    ∀ j, j ≤ n → ∃ r, Post j r ∧ Ev (fun k => L k (j : Int)) r := by
  have key : ∀ d j, j ≤ n → n - j = d → ∃ r, Post j r ∧ Ev (fun k => L k (j : Int)) r := by
    intro d
    induction d with
    | zero => intro j hj hd; obtain rfl : j = n := by omega
              exact hend
    | succ d ih =>
      intro j hj hd
      obtain ⟨r, hp, he⟩ := ih (j + 1) qa22 qa22
      exact hstep j qa22 r hp he
  intro j hj
  exact key _ j hj rfl
/-- A loop that carries a state up to n. -/
theorem state_loop {σ ρ : Type} (n : Nat) (L : Nat → σ → Int → Option ρ) (Inv : Nat → σ → Prop) (Post : Nat → σ → ρ → Prop) (hend : ∀ s, Inv n s → ∃ r, Post n s r ∧ Ev (fun k => L k s (n : Int)) r)
    (hstep : ∀ j s, j < n → Inv j s → (∃ r, Post j s r ∧ Ev (fun k => L k s (j : Int)) r) ∨ ∃ s', Inv (j + 1) s' ∧ (∀ r, Post (j + 1) s' r → Post j s r) ∧ ∃ K, ∀ k, K ≤ k → L (k + 1) s (j : Int) = L k s' ((j + 1 : Nat) : Int)) :
    ∀ j s, j ≤ n → Inv j s → ∃ r, Post j s r ∧ Ev (fun k => L k s (j : Int)) r := by
  have key : ∀ d j s, j ≤ n → n - j = d → Inv j s → ∃ r, Post j s r ∧ Ev (fun k => L k s (j : Int)) r := by
    intro d
    induction d with
    | zero => intro j s hj hd hi; obtain rfl : j = n := by omega
              exact hend s hi
    | succ d ih =>
      intro j s hj hd hi
      rcases hstep j s qa22 hi with h | ⟨s', hi', hp, hk⟩
      · exact h
      · obtain ⟨r, hr, he⟩ := ih (j + 1) s' qa22 qa22 hi'
        exact ⟨r, hp r hr, ev_step hk he⟩
  intro j s hj hi
  exact key _ j s hj rfl hi
/-- A loop that fills a row of its own. -/
theorem fill_loop {α β : Type} (xs : List α) (z : α) (g : α → β) (L : Nat → List β → Int → Option (List β)) (hend : ∀ y : List β, y.length = xs.length → ∃ K, ∀ k, K ≤ k → L (k + 1) y (xs.length : Int) = some y)
    (hstep : ∀ (j : Nat) (y : List β), j < xs.length → y.length = xs.length → ∃ K, ∀ k, K ≤ k → L (k + 1) y (j : Int) = L k (y.set j (g (xs.getD j z))) ((j + 1 : Nat) : Int)) (y : List β) (hy : y.length = xs.length) :
    Ev (fun k => L k y 0) (xs.map g) := by
  obtain ⟨r, hr, he⟩ := state_loop xs.length L (fun j y => y.length = xs.length ∧ ∀ i, i < j → y[i]? = (xs.map g)[i]?) (fun _ _ r => r = xs.map g) (fun y hi => ⟨y, List.ext_getElem? fun i => by
      by_cases hi' : i < xs.length
      · exact hi.2 i hi'
      · rw [List.getElem?_eq_none qa22, List.getElem?_eq_none (by simp; omega)], ev_now (hend y hi.1)⟩) (fun j y hj hi => .inr ⟨_, ⟨by simp [hi.1], fun i hij => by
      by_cases he : i = j
      · subst he
        rw [List.getElem?_set_self qa22]
        simp [List.getD_eq_getElem?_getD, List.getElem?_eq_getElem hj]
      · rw [List.getElem?_set_ne qa22]
        exact hi.2 i qa22⟩, fun r h => h, hstep j y hj hi.1⟩) 0 y qa22 ⟨hy, fun i hi => by omega⟩
  subst hr
  exact he
theorem spec_in (a b c : Int) : spec_l01In.f a b c = some (decide (b ≤ a ∧ a ≤ c)) := by
  unfold spec_l01In.f
  by_cases h : b ≤ a
  · rw [if_pos h]; simp [h]
  · rw [if_neg h]; simp [h]
theorem impl_in (a b c : Int) : impl_within.f a b c = some (decide (b ≤ a ∧ a ≤ c)) := spec_in a b c
/-- A letter or _; a digit. -/
def isL (b : Int) : Bool := decide (97 ≤ b ∧ b ≤ 122 ∨ 65 ≤ b ∧ b ≤ 90 ∨ b = 95)
def isD (b : Int) : Bool := decide (48 ≤ b ∧ b ≤ 57)
/-- What a name is. -/
def IsName (s : ByteArray) : Prop := 1 ≤ s.size ∧ s.size ≤ 40 ∧ isL (bt s 0) = true ∧ ∀ i : Int, 1 ≤ i → i < s.size → isL (bt s i) = true ∨ isD (bt s i) = true
theorem beq95 (b : Int) (h : ¬ (97 ≤ b ∧ b ≤ 122)) (h' : ¬ (65 ≤ b ∧ b ≤ 90)) : (b == 95) = isL b := by
  unfold isL
  by_cases e : b = 95
  · subst e; rfl
  · rw [beq_eq_false_iff_ne.mpr e]; symm; simp only [decide_eq_false_iff_not]; omega
theorem impl_letter (b : Int) : impl_isLetter.f b = some (isL b) := by
  unfold impl_isLetter.f
  by_cases h1 : b ≥ 97 <;> by_cases h2 : b ≤ 122 <;> by_cases h3 : b ≥ 65 <;> by_cases h4 : b ≤ 90 <;> simp only [h1, h2, h3, h4, if_true, if_false, Option.some.injEq] <;>
    first | exact beq95 b qa22 qa22 | (symm; unfold isL; simp only [decide_eq_true_eq]; omega)
theorem spec_letter (b : Int) : spec_l00Letter.f b = some (isL b) := impl_letter b
theorem impl_digit (b : Int) : impl_isDigit.f b = some (isD b) := by
  unfold impl_isDigit.f isD
  by_cases h1 : b ≥ 48
  · rw [if_pos h1]; simp only [Option.some.injEq, decide_eq_decide]; omega
  · rw [if_neg h1]; simp only [Option.some.injEq]; symm; rw [decide_eq_false_iff_not]; omega
theorem spec_digit (b : Int) : spec_l00Digit.f b = some (isD b) := impl_digit b
/-- The reference's loop, from i on. -/
theorem spec_word_from (s : ByteArray) (hn : s.size ≤ 1048576) (d : Nat) : ∀ (k : Nat) (i : Int), 0 ≤ i → i ≤ s.size → (s.size : Int) - i = d → d < k →
    ∃ r, spec_l00Word.l0 k s i = some r ∧ (r = true ↔ ∀ j : Int, i ≤ j → j < s.size → isL (bt s j) = true ∨ isD (bt s j) = true) := by
  induction d with
  | zero =>
    intro k i h0 h1 hd hk
    obtain ⟨k, rfl⟩ : ∃ m, k = m + 1 := ⟨k - 1, qa22⟩
    refine ⟨true, ?_, ⟨fun _ j h2 h3 => by omega, fun _ => rfl⟩⟩
    simp only [spec_l00Word.l0]; rw [if_neg qa22]
  | succ d ih =>
    intro k i h0 h1 hd hk
    obtain ⟨k, rfl⟩ : ∃ m, k = m + 1 := ⟨k - 1, qa22⟩
    have hw : wrap64 (i + 1) = i + 1 := by unfold wrap64; omega
    obtain ⟨r, e, hr⟩ := ih k (i + 1) qa22 qa22 qa22 qa22
    have step : (isL (bt s i) = true ∨ isD (bt s i) = true) → (r = true ↔ ∀ j : Int, i ≤ j → j < s.size → isL (bt s j) = true ∨ isD (bt s j) = true) := by
      intro hh
      rw [hr]
      constructor
      · intro h j h2 h3
        rcases Int.lt_or_eq_of_le h2 with h4 | h4
        · exact h j qa22 h3
        · rw [← h4]; exact hh
      · intro h j h2 h3; exact h j qa22 h3
    simp only [spec_l00Word.l0]; rw [if_pos qa22, if_pos h0, spec_letter]; simp only [Option.bind_some]
    by_cases hl : isL (bt s i) = true
    · rw [if_pos hl, hw]; exact ⟨r, e, step (.inl hl)⟩
    · rw [if_neg hl, spec_digit]; simp only [Option.bind_some]
      by_cases hdg : isD (bt s i) = true
      · rw [if_pos hdg, hw]; exact ⟨r, e, step (.inr hdg)⟩
      · rw [if_neg hdg]
        exact ⟨false, rfl, ⟨fun h => qa94, fun h => absurd (h i (Int.le_refl _) qa22) (fun h => h.elim hl hdg)⟩⟩
theorem spec_name (s : ByteArray) (hn : s.size ≤ 1048576) : ∃ r, (∀ k, s.size + 1 < k → spec_NameOK.f k s = some r) ∧ (r = true ↔ IsName s) := by
  by_cases h1 : (s.size : Int) < 1
  · refine ⟨false, fun k hk => ?_, ⟨fun h => qa94, fun h => absurd h.1 qa22⟩⟩
    obtain ⟨k, rfl⟩ : ∃ m, k = m + 1 := ⟨k - 1, qa22⟩
    unfold spec_NameOK.f spec_l00Word.f
    rw [if_pos h1]; rfl
  · by_cases h2 : (s.size : Int) > 40
    · refine ⟨false, fun k hk => ?_, ⟨fun h => qa94, fun h => absurd h.2.1 qa22⟩⟩
      obtain ⟨k, rfl⟩ : ∃ m, k = m + 1 := ⟨k - 1, qa22⟩
      unfold spec_NameOK.f spec_l00Word.f
      rw [if_neg h1, if_pos h2]; rfl
    · by_cases hl : isL (bt s 0) = true
      · obtain ⟨r, _, hr⟩ := spec_word_from s hn (s.size - 1) (s.size + 1) 1 qa22 qa22 qa22 qa22
        refine ⟨r, fun k hk => ?_, ?_⟩
        · obtain ⟨k, rfl⟩ : ∃ m, k = m + 1 := ⟨k - 1, qa22⟩
          obtain ⟨r', e', hr'⟩ := spec_word_from s hn (s.size - 1) k 1 qa22 qa22 qa22 qa22
          have : r' = r := by rw [Bool.eq_iff_iff, hr, hr']
          subst this
          unfold spec_NameOK.f spec_l00Word.f
          rw [if_neg h1, if_neg h2, if_pos qa22, spec_letter]; simp only [Option.bind_some, hl, Bool.not_true, spec_l00Word.j0]
          rw [if_neg qa70, e']; rfl
        · rw [hr]; exact ⟨fun h => ⟨qa22, qa22, hl, h⟩, fun h => h.2.2.2⟩
      · refine ⟨false, fun k hk => ?_, ⟨fun h => qa94, fun h => absurd h.2.2.1 hl⟩⟩
        obtain ⟨k, rfl⟩ : ∃ m, k = m + 1 := ⟨k - 1, qa22⟩
        unfold spec_NameOK.f spec_l00Word.f
        rw [if_neg h1, if_neg h2, if_pos qa22, spec_letter]; simp only [Option.bind_some]
        have : isL (bt s 0) = false := by simpa using hl
        rw [this]; rfl
/-- The program's loop, from i on. -/
theorem impl_name_from (s : ByteArray) (hn : s.size ≤ 1048576) (d : Nat) : ∀ (k : Nat) (i : Int), 0 ≤ i → i ≤ s.size → (s.size : Int) - i = d → d < k →
    ∃ r, impl_NameOK.l0 k s s.size i = some r ∧ (r = true ↔ (1 ≤ s.size ∧ s.size ≤ 40) ∧ ∀ j : Int, i ≤ j → j < s.size → isL (bt s j) = true ∨ j ≠ 0 ∧ isD (bt s j) = true) := by
  induction d with
  | zero =>
    intro k i h0 h1 hd hk
    obtain ⟨k, rfl⟩ : ∃ m, k = m + 1 := ⟨k - 1, qa22⟩
    simp only [impl_NameOK.l0]; rw [if_neg qa22]
    unfold impl_within.f
    by_cases h2 : (s.size : Int) ≥ 1
    · rw [if_pos h2]
      refine ⟨_, rfl, ?_⟩
      simp only [decide_eq_true_eq]
      exact ⟨fun h => ⟨⟨qa22, qa22⟩, fun j _ _ => by omega⟩, fun h => by omega⟩
    · rw [if_neg h2]
      refine ⟨_, rfl, ?_⟩
      exact ⟨fun h => by simp at h, fun h => by omega⟩
  | succ d ih =>
    intro k i h0 h1 hd hk
    obtain ⟨k, rfl⟩ : ∃ m, k = m + 1 := ⟨k - 1, qa22⟩
    have hw : wrap64 (i + 1) = i + 1 := by unfold wrap64; omega
    obtain ⟨r, e, hr⟩ := ih k (i + 1) qa22 qa22 qa22 qa22
    have step : (isL (bt s i) = true ∨ i ≠ 0 ∧ isD (bt s i) = true) → (r = true ↔ (1 ≤ s.size ∧ s.size ≤ 40) ∧ ∀ j : Int, i ≤ j → j < s.size → isL (bt s j) = true ∨ j ≠ 0 ∧ isD (bt s j) = true) := by
      intro hh
      rw [hr]
      constructor
      · intro ⟨h', h⟩
        refine ⟨h', fun j h2 h3 => ?_⟩
        rcases Int.lt_or_eq_of_le h2 with h4 | h4
        · exact h j qa22 h3
        · rw [← h4]; exact hh
      · intro ⟨h', h⟩; exact ⟨h', fun j h2 h3 => h j qa22 h3⟩
    simp only [impl_NameOK.l0]; rw [if_pos qa22, if_pos h0, if_pos qa22, impl_letter]; simp only [Option.bind_some]
    by_cases hl : isL (bt s i) = true
    · rw [if_pos hl, hw]; exact ⟨r, e, step (.inl hl)⟩
    · rw [if_neg hl]
      by_cases hz : i = 0
      · rw [if_pos hz]
        exact ⟨false, rfl, ⟨fun h => qa94, fun h => absurd (h.2 i (Int.le_refl _) qa22) (fun h => h.elim hl (fun h => h.1 hz))⟩⟩
      · rw [if_neg hz, impl_digit]; simp only [Option.bind_some]
        by_cases hdg : isD (bt s i) = true
        · rw [if_pos hdg, hw]; exact ⟨r, e, step (.inr ⟨hz, hdg⟩)⟩
        · rw [if_neg hdg]
          exact ⟨false, rfl, ⟨fun h => qa94, fun h => absurd (h.2 i (Int.le_refl _) qa22) (fun h => h.elim hl (fun h => hdg h.2))⟩⟩
theorem impl_name (s : ByteArray) (hn : s.size ≤ 1048576) : ∃ r, (∀ k, s.size + 1 < k → impl_NameOK.f k s = some r) ∧ (r = true ↔ IsName s) := by
  obtain ⟨r, _, hr⟩ := impl_name_from s hn s.size (s.size + 1) 0 qa22 qa22 qa22 qa22
  refine ⟨r, fun k hk => ?_, ?_⟩
  · obtain ⟨r', e', hr'⟩ := impl_name_from s hn s.size k 0 qa22 qa22 qa22 qa22
    have : r' = r := by rw [Bool.eq_iff_iff, hr, hr']
    subst this
    exact e'
  · rw [hr]
    constructor
    · rintro ⟨⟨h1, h2⟩, h⟩
      refine ⟨h1, h2, ?_, fun j hj hj' => ?_⟩
      · have := h 0 qa22 qa22
        simpa using this
      · rcases h j qa22 hj' with h | h
        · exact .inl h
        · exact .inr h.2
    · rintro ⟨h1, h2, h3, h⟩
      refine ⟨⟨h1, h2⟩, fun j hj hj' => ?_⟩
      by_cases hz : j = 0
      · subst hz; exact .inl h3
      · rcases h j qa22 hj' with h | h
        · exact .inl h
        · exact .inr ⟨hz, h⟩
/-- Both say the same. -/
theorem names_agree (s : ByteArray) (hn : s.size ≤ 1048576) : ∃ r, (∀ k, s.size + 1 < k → spec_NameOK.f k s = some r ∧ impl_NameOK.f k s = some r) ∧ (r = true ↔ IsName s) := by
  obtain ⟨r, e, hr⟩ := spec_name s hn
  obtain ⟨r', e', hr'⟩ := impl_name s hn
  have : r' = r := by rw [Bool.eq_iff_iff, hr, hr']
  subst this
  exact ⟨r', fun k hk => ⟨e k hk, e' k hk⟩, hr⟩
theorem names_ev (s : ByteArray) (hn : s.size ≤ 1048576) : ∃ r, Ev (fun k => spec_NameOK.f k s) r ∧ Ev (fun k => impl_NameOK.f k s) r ∧ (r = true ↔ IsName s) := by
  obtain ⟨r, h, hr⟩ := names_agree s hn
  exact ⟨r, ev_mk (s.size + 2) (fun k hk => (h k qa22).1), ev_mk (s.size + 2) (fun k hk => (h k qa22).2), hr⟩
end Go.Proofs.Ytfpkooafbeejmaa.Pure2
namespace Go.Proofs.Ytfpkooafbeejmaa.Pure2
open Go.RowKit Go.Proofs.Ytfpkooafbeejmaa.Q Go.Proofs.YtfpkooafbeejmaaW.PrintWords Go.Proofs.YtfpkooafbeejmaaW.PrintLast
set_option linter.unusedVariables false
set_option linter.unusedSimpArgs false
/-! loops over lists -/
theorem getD_mem {α : Type} (l : List α) (z : α) (j : Nat) (h : j < l.length) : l.getD j z ∈ l := by rw [List.getD_eq_getElem?_getD, List.getElem?_eq_getElem h]; exact List.getElem_mem h
theorem wsub (a : Int) (n : Nat) (h0 : 0 ≤ a) (h1 : a ≤ 1048576) (hn : n ≤ 9223372036854775807) : wrap64 (a - (n : Int)) = a - (n : Int) := by unfold wrap64; omega
theorem sz_loop {α : Type} (l : List α) (z : α) (P : α → Prop) (a : Int) (h0 : 0 ≤ a) (L : Nat → Int → Int → Option Int) (hend : ∀ k s, L (k + 1) s (l.length : Int) = some s)
    (hx : ∀ j, j < l.length → ∀ s, 0 ≤ s → s ≤ a → ∃ t, (t < 0 ∨ 0 ≤ t ∧ t ≤ s ∧ P (l.getD j z)) ∧ ∃ K, ∀ k, K ≤ k → L (k + 1) s (j : Int) = if t < 0 then some (-1) else L k t ((j + 1 : Nat) : Int)) :
    ∃ r, Ev (fun k => L k a 0) r ∧ (r < 0 ∨ 0 ≤ r ∧ r ≤ a ∧ ∀ x ∈ l, P x) := by
  obtain ⟨r, hr, he⟩ := state_loop l.length L (fun j s => 0 ≤ s ∧ s ≤ a ∧ ∀ i, i < j → P (l.getD i z)) (fun _ _ r => r < 0 ∨ 0 ≤ r ∧ r ≤ a ∧ ∀ i, i < l.length → P (l.getD i z))
    (fun s hi => ⟨s, .inr hi, ev_now ⟨0, fun k _ => hend k s⟩⟩)
    (fun j s hj hi => by
      obtain ⟨t, ht, K, hk⟩ := hx j hj s hi.1 hi.2.1
      rcases ht with ht | ⟨t0, t1, t2⟩
      · exact .inl ⟨-1, .inl qa22, ev_now ⟨K, fun k h => by rw [hk k h, if_pos ht]⟩⟩
      · refine .inr ⟨t, ⟨t0, qa22, fun i hij => ?_⟩, fun r h => h, K, fun k h => by rw [hk k h, if_neg qa22]⟩
        rcases Nat.lt_or_eq_of_le (Nat.le_of_lt_succ hij) with h' | rfl
        · exact hi.2.2 i h'
        · exact t2) 0 a qa22 ⟨h0, qa22, fun i hi => by omega⟩
  refine ⟨r, he, ?_⟩
  rcases hr with hr | ⟨h2, h3, h4⟩
  · exact .inl hr
  · refine .inr ⟨h2, h3, fun x hx' => ?_⟩
    obtain ⟨i, hi, rfl⟩ := List.getElem_of_mem hx'
    have := h4 i hi
    rw [List.getD_eq_getElem?_getD, List.getElem?_eq_getElem hi] at this
    exact this
theorem eq_loop {α : Type} (n : Nat) (L : Nat → Int → Option Bool) (hend : ∀ k, L (k + 1) (n : Int) = some true) (hs : ∀ j, j < n → ∃ K, ∀ k, K ≤ k → L (k + 1) (j : Int) = L k ((j + 1 : Nat) : Int)) : Ev (fun k => L k 0) true := by
  obtain ⟨r, hr, he⟩ := count_loop n L (fun _ r => r = true) ⟨true, rfl, ev_now ⟨0, fun k _ => hend k⟩⟩ (fun j hj r hr he => ⟨r, hr, ev_step (hs j hj) he⟩) 0 qa22
  subst hr
  exact he
/-! rows of texts -/
theorem sz_strings (l : List ByteArray) (a : Int) (h0 : 0 ≤ a) (h1 : a ≤ 1048576) (hl : l.length ≤ 9223372036854775807) (hx : ∀ s ∈ l, s.size ≤ 9223372036854775807) :
    ∃ r, Ev (fun k => laws_szStringS.f k l a) r ∧ (r < 0 ∨ 0 ≤ r ∧ r ≤ a ∧ l.length ≤ 1048576 ∧ ∀ s ∈ l, s.size ≤ 1048576) := by
  have hw := wsub a l.length h0 h1 hl
  by_cases h : a - (l.length : Int) < 0
  · exact ⟨-1, ev_mk 0 (fun k _ => by unfold laws_szStringS.f; rw [hw, if_pos h]), .inl qa22⟩
  · obtain ⟨r, he, hr⟩ := sz_loop l ByteArray.empty (fun x => x.size ≤ 1048576) (a - l.length) qa22 (fun k s i => laws_szStringS.l0 k l s i)
      (fun k s => by simp only [laws_szStringS.l0]; rw [if_neg qa22])
      (fun j hj s hs0 hs1 => by
        have hm := hx _ (getD_mem l ByteArray.empty j hj)
        have hw2 := wsub s (l.getD j ByteArray.empty).size hs0 qa22 hm
        refine ⟨s - (l.getD j ByteArray.empty).size, ?_, 0, fun k _ => ?_⟩
        · show _ ∨ _ ∧ _ ∧ (l.getD j ByteArray.empty).size ≤ 1048576
          omega
        · simp only [laws_szStringS.l0]
          rw [if_pos qa22, if_pos qa22, show rdOf ByteArray.empty l (j : Int) = l.getD j ByteArray.empty from rfl, hw2, wsucc hj qa22])
    refine ⟨r, ev_same ⟨0, fun k _ => by unfold laws_szStringS.f; rw [hw, if_neg h]⟩ he, ?_⟩
    rcases hr with hr | ⟨h2, h3, h4⟩
    · exact .inl hr
    · exact .inr ⟨h2, qa22, qa22, h4⟩
theorem to_strings (l : List ByteArray) (hl : l.length ≤ 1048576) : Ev (fun k => laws_toStringS.f k l) l := by
  have h := fill_loop l ByteArray.empty id (fun k y i => laws_toStringS.l0 k l y i) (fun y hy => ⟨0, fun k _ => by simp only [laws_toStringS.l0]; rw [if_neg qa22]⟩)
    (fun j y hj hy => ⟨0, fun k _ => by
      simp only [laws_toStringS.l0]; rw [if_pos qa22, if_pos qa22, if_pos qa22, wsucc hj qa22]; rfl⟩) (List.replicate l.length (⟨#[]⟩ : ByteArray)) qa70
  rw [List.map_id] at h
  refine ev_same ⟨0, fun k _ => ?_⟩ h
  unfold laws_toStringS.f
  rw [if_pos qa22, if_pos (by simp; omega), Int.toNat_natCast]
theorem eq_strings (l : List ByteArray) (hl : l.length ≤ 1048576) : Ev (fun k => laws_eqStringS.f k l l) true := by
  refine ev_same ⟨0, fun k _ => ?_⟩ (eq_loop (α := ByteArray) l.length (fun k i => laws_eqStringS.l0 k l l i) (fun k => by simp only [laws_eqStringS.l0]; rw [if_neg qa22])
    (fun j hj => ⟨0, fun k _ => by simp only [laws_eqStringS.l0]; rw [if_pos qa22, if_pos qa22, if_pos qa22]; simp only [if_true]; rw [wsucc hj qa22]⟩))
  unfold laws_eqStringS.f
  rw [if_pos rfl]
/-! answers that came in, and their copies -/
def SmL : Nat → S41 → Prop
  | 0, _ => False
  | n + 1, x => x.f2.size ≤ 1048576 ∧ (x.f3.length ≤ 1048576 ∧ ∀ s ∈ x.f3, s.size ≤ 1048576) ∧ x.f4.length ≤ 1048576 ∧ ∀ y ∈ x.f4, SmL n y
def SmO : Nat → S46 → Prop
  | 0, _ => False
  | n + 1, x => x.f2.size ≤ 1048576 ∧ (x.f3.length ≤ 1048576 ∧ ∀ s ∈ x.f3, s.size ≤ 1048576) ∧ x.f4.length ≤ 1048576 ∧ ∀ y ∈ x.f4, SmO n y
def cvO : Nat → S41 → S46
  | 0, _ => z46
  | n + 1, x => ⟨x.f0, x.f1, x.f2, x.f3, x.f4.map (cvO n)⟩
theorem etaO (x : S46) : (⟨x.f0, x.f1, x.f2, x.f3, x.f4⟩ : S46) = x := by cases x; rfl
theorem sm_cvO : ∀ (n : Nat) (x : S41), SmL n x → SmO n (cvO n x)
  | 0, _, h => h.elim
  | n + 1, x, ⟨h2, h3, h4, h5⟩ => by
    refine ⟨h2, h3, by show (x.f4.map (cvO n)).length ≤ _; rw [List.length_map]; exact h4, fun y hy => ?_⟩
    obtain ⟨z, hz, rfl⟩ := List.mem_map.1 (show y ∈ x.f4.map (cvO n) from hy)
    exact sm_cvO n z (h5 z hz)
theorem sz_outs (n : Nat) (ih : ∀ (x : S41) (a : Int), 0 ≤ a → a ≤ 1048576 → i41n n x → ∃ r, Ev (fun k => laws_szOut.f k x.f0 x.f1 x.f2 x.f3 x.f4 a) r ∧ (r < 0 ∨ 0 ≤ r ∧ r ≤ a ∧ SmL n x))
    (l : List S41) (a : Int) (h0 : 0 ≤ a) (h1 : a ≤ 1048576) (hl : l.length ≤ 9223372036854775807) (hx : ∀ x ∈ l, i41n n x) :
    ∃ r, Ev (fun k => laws_szOutS.f k l a) r ∧ (r < 0 ∨ 0 ≤ r ∧ r ≤ a ∧ l.length ≤ 1048576 ∧ ∀ x ∈ l, SmL n x) := by
  have hw := wsub a l.length h0 h1 hl
  by_cases h : a - (l.length : Int) < 0
  · exact ⟨-1, ev_now ⟨0, fun k _ => by simp only [laws_szOutS.f]; rw [hw, if_pos h]⟩, .inl qa22⟩
  · obtain ⟨r, he, hr⟩ := sz_loop l z41 (SmL n) (a - l.length) qa22 (fun k s i => laws_szOutS.l0 k l s i)
      (fun k s => by simp only [laws_szOutS.l0]; rw [if_neg qa22])
      (fun j hj s hs0 hs1 => by
        obtain ⟨t, et, ht⟩ := ih (l.getD j z41) s hs0 qa22 (hx _ (getD_mem l _ j hj))
        obtain ⟨K, hK⟩ := ev_at et
        refine ⟨t, ht, K, fun k hk => ?_⟩
        simp only [laws_szOutS.l0]
        rw [if_pos qa22, if_pos qa22, show rd_T41 l (j : Int) = l.getD j z41 from rfl, hK k hk]; simp only [Option.bind_some]; rw [wsucc hj qa22])
    refine ⟨r, ev_step ⟨0, fun k _ => by simp only [laws_szOutS.f]; rw [hw, if_neg h]⟩ he, ?_⟩
    rcases hr with hr | ⟨h2, h3, h4⟩
    · exact .inl hr
    · exact .inr ⟨h2, qa22, qa22, h4⟩
theorem sz_out : ∀ (n : Nat) (x : S41) (a : Int), 0 ≤ a → a ≤ 1048576 → i41n n x → ∃ r, Ev (fun k => laws_szOut.f k x.f0 x.f1 x.f2 x.f3 x.f4 a) r ∧ (r < 0 ∨ 0 ≤ r ∧ r ≤ a ∧ SmL n x) := by
  intro n
  induction n with
  | zero => intro x a _ _ h; exact h.elim
  | succ n ih =>
    intro x a h0 h1 hi
    obtain ⟨_, _, i2, ⟨i3, i3'⟩, i4, i4'⟩ := hi
    have hw := wsub a x.f2.size h0 h1 i2
    by_cases hA : a - (x.f2.size : Int) < 0
    · exact ⟨-1, ev_now ⟨0, fun k _ => by simp only [laws_szOut.f]; rw [hw, if_pos hA]⟩, .inl qa22⟩
    · obtain ⟨t, et, ht⟩ := sz_strings x.f3 (a - x.f2.size) qa22 qa22 i3 i3'
      obtain ⟨K, hK⟩ := ev_at et
      rcases ht with ht | ⟨t0, t1, t2, t3⟩
      · exact ⟨-1, ev_now ⟨K, fun k hk => by simp only [laws_szOut.f]; rw [hw, if_neg hA, hK k hk]; simp only [Option.bind_some]; rw [if_pos ht]⟩, .inl qa22⟩
      · obtain ⟨u, eu, hu⟩ := sz_outs n ih x.f4 t t0 qa22 i4 i4'
        obtain ⟨K2, hK2⟩ := ev_at eu
        rcases hu with hu | ⟨u0, u1, u2, u3⟩
        · exact ⟨-1, ev_now ⟨K + K2, fun k hk => by simp only [laws_szOut.f]; rw [hw, if_neg hA, hK k qa22]; simp only [Option.bind_some]; rw [if_neg qa22, hK2 k qa22]; simp only [Option.bind_some]; rw [if_pos hu]⟩, .inl qa22⟩
        · exact ⟨u, ev_now ⟨K + K2, fun k hk => by simp only [laws_szOut.f]; rw [hw, if_neg hA, hK k qa22]; simp only [Option.bind_some]; rw [if_neg qa22, hK2 k qa22]; simp only [Option.bind_some]; rw [if_neg qa22]⟩, .inr ⟨u0, qa22, qa22, ⟨t2, t3⟩, u2, u3⟩⟩
theorem to_out : ∀ (n : Nat) (x : S41), SmL n x → Ev (fun k => laws_toOut.f k x.f0 x.f1 x.f2 x.f3 x.f4) ((cvO n x).f0, (cvO n x).f1, (cvO n x).f2, (cvO n x).f3, (cvO n x).f4) := by
  intro n
  induction n with
  | zero => intro x h; exact h.elim
  | succ n ih =>
    intro x hs
    obtain ⟨_, ⟨h3, _⟩, h4, h5⟩ := hs
    obtain ⟨K, hK⟩ := ev_at (to_strings x.f3 h3)
    have h := fill_loop x.f4 z41 (cvO n) (fun k y i => laws_toOutS.l0 k x.f4 y i) (fun y hy => ⟨0, fun k _ => by simp only [laws_toOutS.l0]; rw [if_neg qa22]⟩)
      (fun j y hj hy => by
        obtain ⟨K, hK⟩ := ev_at (ih (x.f4.getD j z41) (h5 _ (getD_mem x.f4 _ j hj)))
        refine ⟨K, fun k hk => ?_⟩
        simp only [laws_toOutS.l0]; rw [if_pos qa22, if_pos qa22, show rd_T41 x.f4 (j : Int) = x.f4.getD j z41 from rfl, hK k hk]; simp only [Option.bind_some]; rw [if_pos qa22, wsucc hj qa22, Int.toNat_natCast, etaO]) (List.replicate x.f4.length z46) qa70
    have h' : Ev (fun k => laws_toOutS.f k x.f4) (x.f4.map (cvO n)) := by
      refine ev_step ⟨0, fun k _ => ?_⟩ h
      simp only [laws_toOutS.f]
      rw [if_pos qa22, if_pos (by simp; omega), Int.toNat_natCast]
    obtain ⟨K2, hK2⟩ := ev_at h'
    exact ev_now ⟨K + K2, fun k hk => by simp only [laws_toOut.f]; rw [hK k qa22]; simp only [Option.bind_some]; rw [hK2 k qa22]; rfl⟩
theorem eq_out : ∀ (n : Nat) (x : S46), SmO n x → Ev (fun k => laws_eqOut.f k x.f0 x.f1 x.f2 x.f3 x.f4 x.f0 x.f1 x.f2 x.f3 x.f4) true := by
  intro n
  induction n with
  | zero => intro x h; exact h.elim
  | succ n ih =>
    intro x hs
    obtain ⟨_, ⟨h3, _⟩, h4, h5⟩ := hs
    obtain ⟨K, hK⟩ := ev_at (eq_strings x.f3 h3)
    have h : Ev (fun k => laws_eqOutS.l0 k x.f4 x.f4 0) true := eq_loop (α := S46) x.f4.length (fun k i => laws_eqOutS.l0 k x.f4 x.f4 i) (fun k => by simp only [laws_eqOutS.l0]; rw [if_neg qa22])
      (fun j hj => by
        obtain ⟨K, hK⟩ := ev_at (ih (x.f4.getD j z46) (h5 _ (getD_mem x.f4 _ j hj)))
        exact ⟨K, fun k hk => by
          simp only [laws_eqOutS.l0]; rw [if_pos qa22, if_pos qa22, if_pos qa22, show rd_T46 x.f4 (j : Int) = x.f4.getD j z46 from rfl, hK k hk]; simp only [Option.bind_some, if_true]; rw [wsucc hj qa22]⟩)
    have h' : Ev (fun k => laws_eqOutS.f k x.f4 x.f4) true := ev_step ⟨0, fun k _ => by simp only [laws_eqOutS.f, if_true]⟩ h
    obtain ⟨K2, hK2⟩ := ev_at h'
    exact ev_now ⟨K + K2, fun k hk => by simp only [laws_eqOut.f, if_true]; rw [hK k qa22]; simp only [Option.bind_some, if_true]; rw [hK2 k qa22]; rfl⟩
end Go.Proofs.Ytfpkooafbeejmaa.Pure2
