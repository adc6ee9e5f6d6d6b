/- Texts of the claim on FnExactPrintSchema, gathered by a program of this session: what the program's functions compute (proved by walks), and the plain part. -/
import Derived.Test.YtoogmlghfljeiaaDoorKFnExactPrintSchemaa
import Derived.WalkSmall
import Derived.Lib.AppendIntMem
import Derived.Lib.LaidTab
import Derived.Test.YtoogmlghfljeiaaDoorShelf
namespace Go.Proofs.YtoogmlghfljeiaaDoor.Q
open Go.RowKit Go.Proofs.YtoogmlghfljeiaaDoorW.PrintWords Go.Proofs.YtoogmlghfljeiaaDoorW.PrintLast Go.Proofs.YtoogmlghfljeiaaDoorW.PrintMore
attribute [local go_sem] max2_int min2_int max_two min_two max_three min_three max_four min_four
set_option linter.unusedVariables false
set_option linter.unusedSimpArgs false

def spec_l03Type.f (a0_0 : ByteArray) (l0_1 : List (S60)) (a0_2 : ByteArray) (a0_3 : Bool) (a0_4 : Bool) : Option (ByteArray) := if a0_3 = true then (if 2 + a0_2.size ≤ 9223372036854775807 then (if ((⟨#[91, 32]⟩ : ByteArray) ++ a0_2).size + 2 ≤ 9223372036854775807 then (if a0_4 = true then (if (((⟨#[91, 32]⟩ : ByteArray) ++ a0_2) ++ (⟨#[32, 93]⟩ : ByteArray)).size + 2 ≤ 9223372036854775807 then (some ((((⟨#[91, 32]⟩ : ByteArray) ++ a0_2) ++ (⟨#[32, 93]⟩ : ByteArray)) ++ (⟨#[32, 33]⟩ : ByteArray))) else (none)) else (some (((⟨#[91, 32]⟩ : ByteArray) ++ a0_2) ++ (⟨#[32, 93]⟩ : ByteArray)))) else (none)) else (none)) else (if a0_4 = true then (if a0_2.size + 2 ≤ 9223372036854775807 then (some (a0_2 ++ (⟨#[32, 33]⟩ : ByteArray))) else (none)) else (some a0_2))
set_option maxHeartbeats 8000000 in
set_option maxRecDepth 100000 in
theorem spec_l03Type.calls (a0_0 : ByteArray) (A0_1 : Option Addr) (c0_1 : Nat) (l0_1 : List (S60)) (a0_2 : ByteArray) (a0_3 : Bool) (a0_4 : Bool) (r : ByteArray) (w : World) (hr0_1 : Kd.C k60 w A0_1 l0_1.length l0_1) (hc0_1 : l0_1.length ≤ c0_1) (h : spec_l03Type.f a0_0 l0_1 a0_2 a0_3 a0_4 = some r) :
  Calls Tryd.prog 26 #[.agg #[.string a0_0, .slice A0_1 l0_1.length c0_1, .string a0_2, .bool a0_3, .bool a0_4]] w fun e w' => e = .returned (.string r) ∧ Below w.heap.size w w' := by
 have hu47 := Tryd.underlying47; have HR0_1 := qO hr0_1; have HC0_1 := qO hc0_1; clear hr0_1 hc0_1; have HB := qO (Below.refl w.heap.size w); have H : (if a0_3 = true then (if 2 + a0_2.size ≤ 9223372036854775807 then (if ((⟨#[91, 32]⟩ : ByteArray) ++ a0_2).size + 2 ≤ 9223372036854775807 then (if a0_4 = true then (if (((⟨#[91, 32]⟩ : ByteArray) ++ a0_2) ++ (⟨#[32, 93]⟩ : ByteArray)).size + 2 ≤ 9223372036854775807 then (some ((((⟨#[91, 32]⟩ : ByteArray) ++ a0_2) ++ (⟨#[32, 93]⟩ : ByteArray)) ++ (⟨#[32, 33]⟩ : ByteArray))) else (none)) else (some (((⟨#[91, 32]⟩ : ByteArray) ++ a0_2) ++ (⟨#[32, 93]⟩ : ByteArray)))) else (none)) else (none)) else (if a0_4 = true then (if a0_2.size + 2 ≤ 9223372036854775807 then (some (a0_2 ++ (⟨#[32, 33]⟩ : ByteArray))) else (none)) else (some a0_2))) = some r := h; clear h
 by_cases c2 : a0_3 = true
 ·subst c2
  have H1 : (if 2 + a0_2.size ≤ 9223372036854775807 then (if ((⟨#[91, 32]⟩ : ByteArray) ++ a0_2).size + 2 ≤ 9223372036854775807 then (if a0_4 = true then (if (((⟨#[91, 32]⟩ : ByteArray) ++ a0_2) ++ (⟨#[32, 93]⟩ : ByteArray)).size + 2 ≤ 9223372036854775807 then (some ((((⟨#[91, 32]⟩ : ByteArray) ++ a0_2) ++ (⟨#[32, 93]⟩ : ByteArray)) ++ (⟨#[32, 33]⟩ : ByteArray))) else (none)) else (some (((⟨#[91, 32]⟩ : ByteArray) ++ a0_2) ++ (⟨#[32, 93]⟩ : ByteArray)))) else (none)) else (none)) = some r := by rw [if_pos rfl] at H; exact H
  clear H; have H := H1; clear H1
  by_cases c3 : 2 + a0_2.size ≤ 9223372036854775807
  ·rw [if_pos c3] at H
   have c3b0 := eq_true c3; have c3b1 : decide (2 + a0_2.size ≤ 9223372036854775807) = true := decide_eq_true c3
   try have c3b2 : (9223372036854775807 < 2 + a0_2.size) = False := eq_false (Nat.not_lt.2 c3)
   by_cases c4 : ((⟨#[91, 32]⟩ : ByteArray) ++ a0_2).size + 2 ≤ 9223372036854775807
   ·rw [if_pos c4] at H
    have c4z : 2 + a0_2.size + 2 ≤ 9223372036854775807 := by (have h_ := c4; (repeat rw [ByteArray.size_append] at h_); exact h_)
    have c4zt := eq_true c4z; have c4zf : (9223372036854775807 < 2 + a0_2.size + 2) = False := eq_false (Nat.not_lt.2 c4z); have c4b0 := eq_true c4; have c4b1 : decide (((⟨#[91, 32]⟩ : ByteArray) ++ a0_2).size + 2 ≤ 9223372036854775807) = true := decide_eq_true c4
    try have c4b2 : (9223372036854775807 < ((⟨#[91, 32]⟩ : ByteArray) ++ a0_2).size + 2) = False := eq_false (Nat.not_lt.2 c4)
    by_cases c5 : a0_4 = true
    ·subst c5
     have H1 : (if (((⟨#[91, 32]⟩ : ByteArray) ++ a0_2) ++ (⟨#[32, 93]⟩ : ByteArray)).size + 2 ≤ 9223372036854775807 then (some ((((⟨#[91, 32]⟩ : ByteArray) ++ a0_2) ++ (⟨#[32, 93]⟩ : ByteArray)) ++ (⟨#[32, 33]⟩ : ByteArray))) else (none)) = some r := by rw [if_pos rfl] at H; exact H
     clear H; have H := H1; clear H1
     by_cases c6 : (((⟨#[91, 32]⟩ : ByteArray) ++ a0_2) ++ (⟨#[32, 93]⟩ : ByteArray)).size + 2 ≤ 9223372036854775807
     ·rw [if_pos c6] at H
      have c6z : 2 + a0_2.size + 2 + 2 ≤ 9223372036854775807 := by (have h_ := c6; (repeat rw [ByteArray.size_append] at h_); exact h_)
      have c6zt := eq_true c6z; have c6zf : (9223372036854775807 < 2 + a0_2.size + 2 + 2) = False := eq_false (Nat.not_lt.2 c6z); have c6b0 := eq_true c6; have c6b1 : decide ((((⟨#[91, 32]⟩ : ByteArray) ++ a0_2) ++ (⟨#[32, 93]⟩ : ByteArray)).size + 2 ≤ 9223372036854775807) = true := decide_eq_true c6
      try have c6b2 : (9223372036854775807 < (((⟨#[91, 32]⟩ : ByteArray) ++ a0_2) ++ (⟨#[32, 93]⟩ : ByteArray)).size + 2) = False := eq_false (Nat.not_lt.2 c6)
      obtain rfl := Option.some.inj H
      go_enter Tryd.func26, Tryd.ntmps26
      go_wp2_with (first | ((with_reducible refine gate_dst (N := 1) rfl ?_); refine box_event ?hg (N := 1) ?hd (cs := #[.string a0_0, .slice A0_1 l0_1.length c0_1, .string a0_2, .bool true, .bool true]) (t := 47) ?hr ?_; (case hd => rfl); (case hg => rfl); (case hr => exact qa18); intro gb101 hg w7 hbox hb; have hx_ := qHX HB hb qa1; have n0_ := qO (below_step (below_step HB.out hx_) hb); have n1_ := qO (hbox); have n2_ := qO ((qa14 : w.heap.size ≤ gb101)); have n3_ := n2_; clear HB; have HB := n0_; have BK101 := n1_; have GW101 := n2_; have GE101 := n3_; clear n0_ n1_ n2_ n3_; clear hx_; clear hb hbox hg; have hcz8_0 : w7.cell? ⟨gb101, 0, none⟩ = some (.string a0_0) := (blk_cell BK101.out 0).trans rfl; have hcz8_1 : w7.cell? ⟨gb101, 1, none⟩ = some (.slice A0_1 l0_1.length c0_1) := (blk_cell BK101.out 1).trans rfl; have hcz8_2 : w7.cell? ⟨gb101, 2, none⟩ = some (.string a0_2) := (blk_cell BK101.out 2).trans rfl; have hcz8_3 : w7.cell? ⟨gb101, 3, none⟩ = some (.bool true) := (blk_cell BK101.out 3).trans rfl; have hcz8_4 : w7.cell? ⟨gb101, 4, none⟩ = some (.bool true) := (blk_cell BK101.out 4).trans rfl; have hfz8_0 := blk_frozen BK101.out 0; have hfz8_1 := blk_frozen BK101.out 1; have hfz8_2 := blk_frozen BK101.out 2; have hfz8_3 := blk_frozen BK101.out 3; have hfz8_4 := blk_frozen BK101.out 4))
      go_ret
      exact ⟨qa5, qa2⟩
     ·rw [if_neg c6] at H
      exact absurd H qa76
    ·replace c5 := Bool.eq_false_iff.mpr c5
     subst c5; have H1 : (some (((⟨#[91, 32]⟩ : ByteArray) ++ a0_2) ++ (⟨#[32, 93]⟩ : ByteArray))) = some r := by rw [if_neg (show ¬ (false = true) by decide)] at H; exact H
     clear H; have H := H1; clear H1; obtain rfl := Option.some.inj H
     go_enter Tryd.func26, Tryd.ntmps26
     go_wp2_with (first | ((with_reducible refine gate_dst (N := 1) rfl ?_); refine box_event ?hg (N := 1) ?hd (cs := #[.string a0_0, .slice A0_1 l0_1.length c0_1, .string a0_2, .bool true, .bool false]) (t := 47) ?hr ?_; (case hd => rfl); (case hg => rfl); (case hr => exact qa18); intro gb101 hg w9 hbox hb; have hx_ := qHX HB hb qa1; have n0_ := qO (below_step (below_step HB.out hx_) hb); have n1_ := qO (hbox); have n2_ := qO ((qa14 : w.heap.size ≤ gb101)); have n3_ := n2_; clear HB; have HB := n0_; have BK101 := n1_; have GW101 := n2_; have GE101 := n3_; clear n0_ n1_ n2_ n3_; clear hx_; clear hb hbox hg; have hcz10_0 : w9.cell? ⟨gb101, 0, none⟩ = some (.string a0_0) := (blk_cell BK101.out 0).trans rfl; have hcz10_1 : w9.cell? ⟨gb101, 1, none⟩ = some (.slice A0_1 l0_1.length c0_1) := (blk_cell BK101.out 1).trans rfl; have hcz10_2 : w9.cell? ⟨gb101, 2, none⟩ = some (.string a0_2) := (blk_cell BK101.out 2).trans rfl; have hcz10_3 : w9.cell? ⟨gb101, 3, none⟩ = some (.bool true) := (blk_cell BK101.out 3).trans rfl; have hcz10_4 : w9.cell? ⟨gb101, 4, none⟩ = some (.bool false) := (blk_cell BK101.out 4).trans rfl; have hfz10_0 := blk_frozen BK101.out 0; have hfz10_1 := blk_frozen BK101.out 1; have hfz10_2 := blk_frozen BK101.out 2; have hfz10_3 := blk_frozen BK101.out 3; have hfz10_4 := blk_frozen BK101.out 4))
     go_ret
     exact ⟨qa5, qa2⟩
   ·rw [if_neg c4] at H
    exact absurd H qa76
  ·rw [if_neg c3] at H
   exact absurd H qa76
 ·replace c2 := Bool.eq_false_iff.mpr c2
  subst c2; have H1 : (if a0_4 = true then (if a0_2.size + 2 ≤ 9223372036854775807 then (some (a0_2 ++ (⟨#[32, 33]⟩ : ByteArray))) else (none)) else (some a0_2)) = some r := by rw [if_neg (show ¬ (false = true) by decide)] at H; exact H
  clear H; have H := H1; clear H1
  by_cases c11 : a0_4 = true
  ·subst c11
   have H1 : (if a0_2.size + 2 ≤ 9223372036854775807 then (some (a0_2 ++ (⟨#[32, 33]⟩ : ByteArray))) else (none)) = some r := by rw [if_pos rfl] at H; exact H
   clear H; have H := H1; clear H1
   by_cases c12 : a0_2.size + 2 ≤ 9223372036854775807
   ·rw [if_pos c12] at H
    have c12b0 := eq_true c12; have c12b1 : decide (a0_2.size + 2 ≤ 9223372036854775807) = true := decide_eq_true c12
    try have c12b2 : (9223372036854775807 < a0_2.size + 2) = False := eq_false (Nat.not_lt.2 c12)
    obtain rfl := Option.some.inj H
    go_enter Tryd.func26, Tryd.ntmps26
    go_wp2_with (first | ((with_reducible refine gate_dst (N := 1) rfl ?_); refine box_event ?hg (N := 1) ?hd (cs := #[.string a0_0, .slice A0_1 l0_1.length c0_1, .string a0_2, .bool false, .bool true]) (t := 47) ?hr ?_; (case hd => rfl); (case hg => rfl); (case hr => exact qa18); intro gb101 hg w13 hbox hb; have hx_ := qHX HB hb qa1; have n0_ := qO (below_step (below_step HB.out hx_) hb); have n1_ := qO (hbox); have n2_ := qO ((qa14 : w.heap.size ≤ gb101)); have n3_ := n2_; clear HB; have HB := n0_; have BK101 := n1_; have GW101 := n2_; have GE101 := n3_; clear n0_ n1_ n2_ n3_; clear hx_; clear hb hbox hg; have hcz14_0 : w13.cell? ⟨gb101, 0, none⟩ = some (.string a0_0) := (blk_cell BK101.out 0).trans rfl; have hcz14_1 : w13.cell? ⟨gb101, 1, none⟩ = some (.slice A0_1 l0_1.length c0_1) := (blk_cell BK101.out 1).trans rfl; have hcz14_2 : w13.cell? ⟨gb101, 2, none⟩ = some (.string a0_2) := (blk_cell BK101.out 2).trans rfl; have hcz14_3 : w13.cell? ⟨gb101, 3, none⟩ = some (.bool false) := (blk_cell BK101.out 3).trans rfl; have hcz14_4 : w13.cell? ⟨gb101, 4, none⟩ = some (.bool true) := (blk_cell BK101.out 4).trans rfl; have hfz14_0 := blk_frozen BK101.out 0; have hfz14_1 := blk_frozen BK101.out 1; have hfz14_2 := blk_frozen BK101.out 2; have hfz14_3 := blk_frozen BK101.out 3; have hfz14_4 := blk_frozen BK101.out 4))
    go_ret
    exact ⟨qa5, qa2⟩
   ·rw [if_neg c12] at H
    exact absurd H qa76
  ·replace c11 := Bool.eq_false_iff.mpr c11
   subst c11; have H1 : (some a0_2) = some r := by rw [if_neg (show ¬ (false = true) by decide)] at H; exact H
   clear H; have H := H1; clear H1; obtain rfl := Option.some.inj H
   go_enter Tryd.func26, Tryd.ntmps26
   go_wp2_with (first | ((with_reducible refine gate_dst (N := 1) rfl ?_); refine box_event ?hg (N := 1) ?hd (cs := #[.string a0_0, .slice A0_1 l0_1.length c0_1, .string a0_2, .bool false, .bool false]) (t := 47) ?hr ?_; (case hd => rfl); (case hg => rfl); (case hr => exact qa18); intro gb101 hg w15 hbox hb; have hx_ := qHX HB hb qa1; have n0_ := qO (below_step (below_step HB.out hx_) hb); have n1_ := qO (hbox); have n2_ := qO ((qa14 : w.heap.size ≤ gb101)); have n3_ := n2_; clear HB; have HB := n0_; have BK101 := n1_; have GW101 := n2_; have GE101 := n3_; clear n0_ n1_ n2_ n3_; clear hx_; clear hb hbox hg; have hcz16_0 : w15.cell? ⟨gb101, 0, none⟩ = some (.string a0_0) := (blk_cell BK101.out 0).trans rfl; have hcz16_1 : w15.cell? ⟨gb101, 1, none⟩ = some (.slice A0_1 l0_1.length c0_1) := (blk_cell BK101.out 1).trans rfl; have hcz16_2 : w15.cell? ⟨gb101, 2, none⟩ = some (.string a0_2) := (blk_cell BK101.out 2).trans rfl; have hcz16_3 : w15.cell? ⟨gb101, 3, none⟩ = some (.bool false) := (blk_cell BK101.out 3).trans rfl; have hcz16_4 : w15.cell? ⟨gb101, 4, none⟩ = some (.bool false) := (blk_cell BK101.out 4).trans rfl; have hfz16_0 := blk_frozen BK101.out 0; have hfz16_1 := blk_frozen BK101.out 1; have hfz16_2 := blk_frozen BK101.out 2; have hfz16_3 := blk_frozen BK101.out 3; have hfz16_4 := blk_frozen BK101.out 4))
   go_ret
   exact ⟨qa5, qa2⟩


def spec_l00Join.l0 : Nat → List ByteArray → ByteArray → ByteArray → Int → Option (ByteArray)
 | 0, _, _, _, _ => none
 | k + 1, x0, x1, x5, x6 => if x6 < (x0.length : Int) then (if x6 > 0 then (if x5.size + x1.size ≤ 9223372036854775807 then (if 0 ≤ x6 then (if (x5 ++ x1).size + (rdOf ByteArray.empty x0 x6).size ≤ 9223372036854775807 then (spec_l00Join.l0 k x0 x1 ((x5 ++ x1) ++ (rdOf ByteArray.empty x0 x6)) (wrap64 (x6 + 1))) else (none)) else (none)) else (none)) else (if 0 ≤ x6 then (if x5.size + (rdOf ByteArray.empty x0 x6).size ≤ 9223372036854775807 then (spec_l00Join.l0 k x0 x1 (x5 ++ (rdOf ByteArray.empty x0 x6)) (wrap64 (x6 + 1))) else (none)) else (none))) else (some x5)
def spec_l00Join.f (k : Nat) (l0 : List ByteArray) (a1 : ByteArray) : Option (ByteArray) := spec_l00Join.l0 k l0 a1 (⟨#[]⟩ : ByteArray) 0
set_option maxHeartbeats 8000000 in
set_option maxRecDepth 100000 in
theorem spec_l00Join.calls (k : Nat) (A0 : Option Addr) (c0 : Nat) (l0 : List ByteArray) (a1 : ByteArray) (r : ByteArray) (w : World) (hr0 : Kd.C Kd.string w A0 l0.length l0) (hc0 : l0.length ≤ c0) (h : spec_l00Join.f k l0 a1 = some r) :
  Calls Tryd.prog 27 #[.slice A0 l0.length c0, .string a1] w fun e w' => e = .returned (.string r) ∧ Drawn0 w w' := by
 have HR0 := qO hr0; have HC0 := qO hc0; clear hr0 hc0; have H : (spec_l00Join.l0 k l0 a1 (⟨#[]⟩ : ByteArray) 0) = some r := h; clear h; have H' := qO H; clear H
 go_enter Tryd.func27, Tryd.ntmps27
 go_wp2
 go_loopg [5, 6] k (fun kq v5 v6 w' => ∃ (x5_1 : ByteArray) (x6_1 : Int), v5 = .string x5_1 ∧ v6 = .int .i64 x6_1 ∧ Aside0 (spec_l00Join.l0 kq l0 a1 x5_1 x6_1 = some r) ∧ Aside0 (kq ≤ k) ∧ Drawn0 w w')
 case atStart => exact ⟨((⟨#[]⟩ : ByteArray)), (0), qa10, qa10, H', ⟨Nat.le_refl _⟩, qa24⟩
 case round =>
  clear H'
  try clear c2
  try clear p2
  obtain ⟨x5_1, x6_1, rfl, rfl, HA, HK1, ⟨m1, rfl⟩⟩ := hrel
  cases gk with
  | zero => exact absurd HA.out (by simp [spec_l00Join.l0])
  | succ k1 =>
   have H := HA.out; clear HA; simp only [spec_l00Join.l0] at H
   by_cases c3 : x6_1 < (l0.length : Int)
   ·rw [if_pos c3] at H
    have c3b0 : decide (x6_1 < (l0.length : Int)) = true := decide_eq_true c3; clear c3
    by_cases c4 : x6_1 > 0
    ·rw [if_pos c4] at H
     have c4b0 : decide (0 < x6_1) = true := decide_eq_true c4; clear c4
     by_cases c5 : x5_1.size + a1.size ≤ 9223372036854775807
     ·rw [if_pos c5] at H
      have c5b0 := eq_true c5; have c5b1 : decide (x5_1.size + a1.size ≤ 9223372036854775807) = true := decide_eq_true c5
      try have c5b2 : (9223372036854775807 < x5_1.size + a1.size) = False := eq_false (Nat.not_lt.2 c5)
      by_cases c6 : 0 ≤ x6_1
      ·rw [if_pos c6] at H
       have c6b0 : decide (0 ≤ x6_1) = true := decide_eq_true c6; clear c6
       by_cases c7 : (x5_1 ++ a1).size + (rdOf ByteArray.empty l0 x6_1).size ≤ 9223372036854775807
       ·rw [if_pos c7] at H
        have c7z : x5_1.size + a1.size + (rdOf ByteArray.empty l0 x6_1).size ≤ 9223372036854775807 := by (have h_ := c7; (repeat rw [ByteArray.size_append] at h_); exact h_)
        have c7zt := eq_true c7z; have c7zf : (9223372036854775807 < x5_1.size + a1.size + (rdOf ByteArray.empty l0 x6_1).size) = False := eq_false (Nat.not_lt.2 c7z); have c7b0 := eq_true c7; have c7b1 : decide ((x5_1 ++ a1).size + (rdOf ByteArray.empty l0 x6_1).size ≤ 9223372036854775807) = true := decide_eq_true c7
        try have c7b2 : (9223372036854775807 < (x5_1 ++ a1).size + (rdOf ByteArray.empty l0 x6_1).size) = False := eq_false (Nat.not_lt.2 c7)
        have H' := qO H; clear H; have p101 : 0 ≤ (x6_1 : Int) := qT qa6; have q101 : x6_1 < (l0.length : Int) := qT qa6; obtain ⟨ad101, e101, hx101_0⟩ := Kd.at_string HR0.out x6_1 p101 q101
        cases e101
        replace p101 := eq_true p101; replace q101 := eq_true q101; go_wp2
        go_roundg k1
        case measure => have := HK1.out; omega
        case rel => exact ⟨((x5_1 ++ a1) ++ (rdOf ByteArray.empty l0 x6_1)), (wrap64 (x6_1 + 1)), qa10, qa10, H', ⟨qa99⟩, qa24⟩
       ·rw [if_neg c7] at H
        exact absurd H qa76
      ·rw [if_neg c6] at H
       exact absurd H qa76
     ·rw [if_neg c5] at H
      exact absurd H qa76
    ·rw [if_neg c4] at H
     have c4b0 : decide (0 < x6_1) = false := decide_eq_false c4; clear c4
     by_cases c8 : 0 ≤ x6_1
     ·rw [if_pos c8] at H
      have c8b0 : decide (0 ≤ x6_1) = true := decide_eq_true c8; clear c8
      by_cases c9 : x5_1.size + (rdOf ByteArray.empty l0 x6_1).size ≤ 9223372036854775807
      ·rw [if_pos c9] at H
       have c9b0 := eq_true c9; have c9b1 : decide (x5_1.size + (rdOf ByteArray.empty l0 x6_1).size ≤ 9223372036854775807) = true := decide_eq_true c9
       try have c9b2 : (9223372036854775807 < x5_1.size + (rdOf ByteArray.empty l0 x6_1).size) = False := eq_false (Nat.not_lt.2 c9)
       have H' := qO H; clear H; have p102 : 0 ≤ (x6_1 : Int) := qT qa6; have q102 : x6_1 < (l0.length : Int) := qT qa6; obtain ⟨ad102, e102, hx102_0⟩ := Kd.at_string HR0.out x6_1 p102 q102
       cases e102
       replace p102 := eq_true p102; replace q102 := eq_true q102; go_wp2
       go_roundg k1
       case measure => have := HK1.out; omega
       case rel => exact ⟨(x5_1 ++ (rdOf ByteArray.empty l0 x6_1)), (wrap64 (x6_1 + 1)), qa10, qa10, H', ⟨qa99⟩, qa24⟩
      ·rw [if_neg c9] at H
       exact absurd H qa76
     ·rw [if_neg c8] at H
      exact absurd H qa76
   ·rw [if_neg c3] at H
    have c3b0 : decide (x6_1 < (l0.length : Int)) = false := decide_eq_false c3; clear c3; obtain rfl := Option.some.inj H; go_wp2
    go_ret
    exact ⟨qa10, qa24⟩


mutual
def spec_l03Print.l0 : Nat → List ByteArray → Int → List (S41) → Option (ByteArray)
 | 0, _, _, _ => none
 | k + 1, x3, x4, x102000 => if x4 < (x102000.length : Int) then (if 0 ≤ x4 then (if 5 + ((rd_T41 x102000 x4).f0).size ≤ 9223372036854775807 then (if ((⟨#[116, 121, 112, 101, 32]⟩ : ByteArray) ++ ((rd_T41 x102000 x4).f0)).size + 2 ≤ 9223372036854775807 then (spec_l03Print.l1 k x3 x4 (((⟨#[116, 121, 112, 101, 32]⟩ : ByteArray) ++ ((rd_T41 x102000 x4).f0)) ++ (⟨#[32, 123]⟩ : ByteArray)) 0 x102000) else (none)) else (none)) else (none)) else ((spec_l00Join.f k x3 (⟨#[32]⟩ : ByteArray)).bind fun t105 => (some t105))
def spec_l03Print.l1 : Nat → List ByteArray → Int → ByteArray → Int → List (S41) → Option (ByteArray)
 | 0, _, _, _, _, _ => none
 | k + 1, x3, x4, x5, x6, x102000 => if 0 ≤ x4 then (if x4 < (x102000.length : Int) then (if x6 < (((rd_T41 x102000 x4).f1).length : Int) then (if 0 ≤ x6 then (if 1 + ((rd_T47 ((rd_T41 x102000 x4).f1) x6).f0).size ≤ 9223372036854775807 then (if x5.size + ((⟨#[32]⟩ : ByteArray) ++ ((rd_T47 ((rd_T41 x102000 x4).f1) x6).f0)).size ≤ 9223372036854775807 then (spec_l03Print.l2 k x3 x4 (x5 ++ ((⟨#[32]⟩ : ByteArray) ++ ((rd_T47 ((rd_T41 x102000 x4).f1) x6).f0))) x6 0 x102000 ((rd_T47 ((rd_T41 x102000 x4).f1) x6).f0) ((rd_T47 ((rd_T41 x102000 x4).f1) x6).f1) ((rd_T47 ((rd_T41 x102000 x4).f1) x6).f2) ((rd_T47 ((rd_T41 x102000 x4).f1) x6).f3) ((rd_T47 ((rd_T41 x102000 x4).f1) x6).f4)) else (none)) else (none)) else (none)) else (if x5.size + 2 ≤ 9223372036854775807 then (if x3.length < 8796093022208 then (spec_l03Print.l0 k (x3 ++ [x5 ++ (⟨#[32, 125]⟩ : ByteArray)]) (wrap64 (x4 + 1)) x102000) else (none)) else (none))) else (none)) else (none)
def spec_l03Print.l2 : Nat → List ByteArray → Int → ByteArray → Int → Int → List (S41) → ByteArray → List (S60) → ByteArray → Bool → Bool → Option (ByteArray)
 | 0, _, _, _, _, _, _, _, _, _, _, _ => none
 | k + 1, x3, x4, x5, x6, x8, x102000, x114000, x114001, x114002, x114003, x114004 => if x8 < (x114001.length : Int) then ((some (([(⟨#[32, 40, 32]⟩ : ByteArray), (⟨#[32]⟩ : ByteArray)] : List ByteArray) : List ByteArray)).bind fun y114 => ((spec_l01Bit.f (decide (x8 > 0))).bind fun t117 => (if 0 ≤ t117 then (if t117 < (y114.length : Int) then (if 0 ≤ x8 then (if (rdOf ByteArray.empty y114 t117).size + ((rd_T60 x114001 x8).f0).size ≤ 9223372036854775807 then (if ((rdOf ByteArray.empty y114 t117) ++ ((rd_T60 x114001 x8).f0)).size + 6 ≤ 9223372036854775807 then (if x5.size + (((rdOf ByteArray.empty y114 t117) ++ ((rd_T60 x114001 x8).f0)) ++ (⟨#[32, 58, 32, 73, 110, 116]⟩ : ByteArray)).size ≤ 9223372036854775807 then (if (rd_T60 x114001 x8).f1 = true then (if (x5 ++ (((rdOf ByteArray.empty y114 t117) ++ ((rd_T60 x114001 x8).f0)) ++ (⟨#[32, 58, 32, 73, 110, 116]⟩ : ByteArray))).size + 2 ≤ 9223372036854775807 then (spec_l03Print.l2 k x3 x4 ((x5 ++ (((rdOf ByteArray.empty y114 t117) ++ ((rd_T60 x114001 x8).f0)) ++ (⟨#[32, 58, 32, 73, 110, 116]⟩ : ByteArray))) ++ (⟨#[32, 33]⟩ : ByteArray)) x6 (wrap64 (x8 + 1)) x102000 x114000 x114001 x114002 x114003 x114004) else (none)) else (spec_l03Print.l2 k x3 x4 (x5 ++ (((rdOf ByteArray.empty y114 t117) ++ ((rd_T60 x114001 x8).f0)) ++ (⟨#[32, 58, 32, 73, 110, 116]⟩ : ByteArray))) x6 (wrap64 (x8 + 1)) x102000 x114000 x114001 x114002 x114003 x114004)) else (none)) else (none)) else (none)) else (none)) else (none)) else (none)))) else (if (x114001.length : Int) > 0 then (if x5.size + 2 ≤ 9223372036854775807 then ((spec_l03Type.f x114000 x114001 x114002 x114003 x114004).bind fun t121 => (if 3 + t121.size ≤ 9223372036854775807 then (if (x5 ++ (⟨#[32, 41]⟩ : ByteArray)).size + ((⟨#[32, 58, 32]⟩ : ByteArray) ++ t121).size ≤ 9223372036854775807 then (spec_l03Print.l1 k x3 x4 ((x5 ++ (⟨#[32, 41]⟩ : ByteArray)) ++ ((⟨#[32, 58, 32]⟩ : ByteArray) ++ t121)) (wrap64 (x6 + 1)) x102000) else (none)) else (none))) else (none)) else ((spec_l03Type.f x114000 x114001 x114002 x114003 x114004).bind fun t122 => (if 3 + t122.size ≤ 9223372036854775807 then (if x5.size + ((⟨#[32, 58, 32]⟩ : ByteArray) ++ t122).size ≤ 9223372036854775807 then (spec_l03Print.l1 k x3 x4 (x5 ++ ((⟨#[32, 58, 32]⟩ : ByteArray) ++ t122)) (wrap64 (x6 + 1)) x102000) else (none)) else (none))))
end
def spec_l03Print.f (k : Nat) (l0_0 : List (S41)) : Option (ByteArray) := spec_l03Print.l0 k (([] : List ByteArray)) 0 l0_0
def spec_l03Print.T14 : Bool × List (List Nat × List Nat) := (true, [([], []), ([], []), ([], []), ([2], [2]), ([3], [3]), ([1, 4], [1, 4]), ([5], [5]), ([], []), ([7], [7]), ([], []), ([8, 9], [8, 9]), ([10], [10]), ([11], [11]), ([6, 12], [6, 12]), ([13], [13]), ([0, 14], [0, 14]), ([15, 4, 0, 1, 2, 3, 4, 5, 6, 7, 8, 9, 10, 11, 12, 13, 14, 15], [0, 15])])
def spec_l03Print.B14 : List Nat := [0, 0, 0, 4, 12, 30, 62, 0, 128, 0, 896, 1920, 3968, 8190, 16382, 32767, 65535]
theorem spec_l03Print.tab14 : rtab .any (opsOf Tryd.f11 14) = spec_l03Print.T14 := by kernel_rfl
theorem spec_l03Print.bits14 : waitsOk spec_l03Print.T14.2 spec_l03Print.B14 = true := by kernel_rfl
def spec_l03Print.y0 : Array Bool := #[false, false, false, false, false, false, false, false, false, false, false, false, false, false, false, false, false]
def spec_l03Print.y1 : Array Bool := #[true, false, false, false, false, false, false, false, false, false, false, false, false, false, false, false, false]
def spec_l03Print.y2 : Array Bool := #[true, false, true, false, false, false, false, false, false, false, false, false, false, false, false, false, false]
def spec_l03Print.y3 : Array Bool := #[true, false, true, true, false, false, false, false, false, false, false, false, false, false, false, false, false]
def spec_l03Print.y4 : Array Bool := #[true, false, true, true, false, false, false, true, false, false, false, false, false, false, false, false, false]
def spec_l03Print.y5 : Array Bool := #[true, false, true, true, false, false, false, true, false, true, false, false, false, false, false, false, false]
def spec_l03Print.y6 : Array Bool := #[true, false, true, true, false, false, false, true, true, true, false, false, false, false, false, false, false]
def spec_l03Print.y7 : Array Bool := #[true, false, true, true, false, false, false, true, true, true, true, false, false, false, false, false, false]
def spec_l03Print.y8 : Array Bool := #[true, false, true, true, false, false, false, true, true, true, true, true, false, false, false, false, false]
def spec_l03Print.y9 : Array Bool := #[true, false, true, true, false, false, false, true, true, true, true, true, true, false, false, false, false]
def spec_l03Print.y10 : Array Bool := #[true, true, true, true, true, false, false, true, true, true, true, true, true, false, false, false, false]
def spec_l03Print.y11 : Array Bool := #[true, true, true, true, false, false, false, true, true, true, true, true, true, false, false, false, false]
def spec_l03Print.y12 : Array Bool := #[true, false, true, true, true, false, false, true, true, true, true, true, true, false, false, false, false]
def spec_l03Print.y13 : Array Bool := #[true, true, true, true, true, true, false, true, true, true, true, true, true, false, false, false, false]
def spec_l03Print.y14 : Array Bool := #[true, true, true, true, true, true, true, true, true, true, true, true, true, false, false, false, false]
def spec_l03Print.y15 : Array Bool := #[true, true, true, true, true, true, true, true, true, true, true, true, true, true, false, false, false]
def spec_l03Print.y16 : Array Bool := #[true, true, true, true, true, true, true, true, true, true, true, true, true, true, true, false, false]
def spec_l03Print.y17 : Array Bool := #[true, true, true, true, true, true, true, true, true, true, true, true, true, true, true, true, false]
def spec_l03Print.y18 : Array Bool := #[true, true, true, true, true, true, true, true, true, true, true, true, true, true, true, true, true]
set_option maxHeartbeats 64000000 in
set_option maxRecDepth 100000 in
theorem spec_l03Print.calls (k : Nat) (A0_0 : Option Addr) (c0_0 : Nat) (l0_0 : List (S41)) (r : ByteArray) (w : World) (hr0_0 : Kd.C k41 w A0_0 l0_0.length l0_0) (hc0_0 : l0_0.length ≤ c0_0) (h : spec_l03Print.f k l0_0 = some r) :
  Calls Tryd.prog 11 #[.agg #[.slice A0_0 l0_0.length c0_0]] w fun e w' => e = .returned (.string r) ∧ Below w.heap.size w w' := by
 have hu30 := Tryd.underlying30; have hu47 := Tryd.underlying47; have HR0_0 := qO hr0_0; have HC0_0 := qO hc0_0; clear hr0_0 hc0_0; have HB := qO (Below.refl w.heap.size w); have H : (spec_l03Print.l0 k (([] : List ByteArray)) 0 l0_0) = some r := h; clear h; obtain ⟨y102, hy102⟩ : ∃ y_ : List ByteArray, y_ = (([] : List ByteArray)) := ⟨_, rfl⟩; replace H : (spec_l03Print.l0 k y102 0 l0_0) = some r := by first | (rw [hy102]; with_reducible exact H) | (have H2_ := (Option.bind_some _ _).symm.trans H; rw [hy102]; with_reducible exact H2_) | (have H2_ := (Option.bind_some _ _).symm.trans H; with_reducible exact H2_) | with_reducible exact H | (rw [hy102]; exact H) | exact H
 have Ny102 := qO hy102; clear hy102; have H' := qO H; clear H
 go_enter Tryd.func11, Tryd.ntmps11
 go_wp2_with (first | ((with_reducible refine gate_dst (N := 1) rfl ?_); refine box_event ?hg (N := 1) ?hd (cs := #[.slice A0_0 l0_0.length c0_0]) (t := 30) ?hr ?_; (case hd => rfl); (case hg => rfl); (case hr => exact qa18); intro gb101 hg w2 hbox hb; have hx_ := qHX HB hb qa1; have n0_ := qO (below_step (below_step HB.out hx_) hb); have n1_ := qO (hbox); have n2_ := qO ((qa14 : w.heap.size ≤ gb101)); have n3_ := n2_; clear HB; have HB := n0_; have BK101 := n1_; have GW101 := n2_; have GE101 := n3_; clear n0_ n1_ n2_ n3_; clear hx_; clear hb hbox hg) | ((with_reducible refine gate_dst (N := 9) rfl ?_); refine Kd.R_lit Kd.string _ 9 ?hg (N := 9) ?hd (xs := ([] : List ByteArray)) (inner := []) (ok := fun _ => True) (okp := fun _ => True) ?hr ?hp (fun _ hk => hk) trivial (Below.refl _ _) (Nat.le_refl _) qa76 ?_; (case hd => rfl); (case hg => rfl); (case hr => exact qa18); (case hp => exact (Reps.none _ _)); intro v103 w3 ho4 hb hg_ hnew_; clear hg_ hnew_; (first | rw [← Ny102.out] at ho4 | (simp only [Int.reduceToNat] at ho4; rw [← Ny102.out] at ho4)); have n0_ := qO (Kd.R_lower ho4 (below_size qa2)); have n1_ := qO (blk_below (g := gb101) (o := .cells #[.slice A0_0 l0_0.length c0_0] 30 (0, 0)) qa4 hb); have n2_ := qO (below_step qa2 hb); clear BK101; clear HB; have HO104 := n0_; have BK101 := n1_; have HB := n2_; clear n0_ n1_ n2_; clear hb ho4))
 go_loopg [3, 4] k (fun kq v3 v4 w' => ∃ (x3_1 : List ByteArray) (x4_1 : Int), v4 = .int .i64 x4_1 ∧ Aside0 (spec_l03Print.l0 kq x3_1 x4_1 l0_0 = some r) ∧ Aside0 (kq ≤ k) ∧ Aside0 (Kd.R Kd.string 9 w' w.heap.size (fun _ => True) v3 x3_1) ∧ Aside0 (w'.heap[gb101]? = some (.cells #[(.slice A0_0 l0_0.length c0_0)] 30 (0, 0))) ∧ Aside0 (Below w.heap.size w w'))
 case atStart => exact ⟨(y102), (0), qa10, H', ⟨Nat.le_refl _⟩, ⟨by (with_reducible repeat (first | apply Kd.R_alloc | apply Kd.R_drewN | apply Kd.R_drew)); exact HO104.out⟩, ⟨qa4⟩, ⟨qa2⟩⟩
 case round =>
  clear H'
  try clear c1
  try clear p2
  obtain ⟨x3_1, x4_1, rfl, HA, HK1, HO_3, BK101, HB⟩ := hrel
  cases gk with
  | zero => exact absurd HA.out (by simp [spec_l03Print.l0])
  | succ k1 =>
   have H := HA.out; clear HA; simp only [spec_l03Print.l0] at H
   by_cases c5 : x4_1 < (l0_0.length : Int)
   ·rw [if_pos c5] at H
    have c5b0 : decide (x4_1 < (l0_0.length : Int)) = true := decide_eq_true c5; clear c5
    by_cases c6 : 0 ≤ x4_1
    ·rw [if_pos c6] at H
     have c6b0 : decide (0 ≤ x4_1) = true := decide_eq_true c6; clear c6
     by_cases c7 : 5 + ((rd_T41 l0_0 x4_1).f0).size ≤ 9223372036854775807
     ·rw [if_pos c7] at H
      have c7b0 := eq_true c7; have c7b1 : decide (5 + ((rd_T41 l0_0 x4_1).f0).size ≤ 9223372036854775807) = true := decide_eq_true c7
      try have c7b2 : (9223372036854775807 < 5 + ((rd_T41 l0_0 x4_1).f0).size) = False := eq_false (Nat.not_lt.2 c7)
      by_cases c8 : ((⟨#[116, 121, 112, 101, 32]⟩ : ByteArray) ++ ((rd_T41 l0_0 x4_1).f0)).size + 2 ≤ 9223372036854775807
      ·rw [if_pos c8] at H
       have c8z : 5 + ((rd_T41 l0_0 x4_1).f0).size + 2 ≤ 9223372036854775807 := by (have h_ := c8; (repeat rw [ByteArray.size_append] at h_); exact h_)
       have c8zt := eq_true c8z; have c8zf : (9223372036854775807 < 5 + ((rd_T41 l0_0 x4_1).f0).size + 2) = False := eq_false (Nat.not_lt.2 c8z); have c8b0 := eq_true c8; have c8b1 : decide (((⟨#[116, 121, 112, 101, 32]⟩ : ByteArray) ++ ((rd_T41 l0_0 x4_1).f0)).size + 2 ≤ 9223372036854775807) = true := decide_eq_true c8
       try have c8b2 : (9223372036854775807 < ((⟨#[116, 121, 112, 101, 32]⟩ : ByteArray) ++ ((rd_T41 l0_0 x4_1).f0)).size + 2) = False := eq_false (Nat.not_lt.2 c8)
       have H' := qO H; clear H; have hcz9_0 : wr.cell? ⟨gb101, 0, none⟩ = some (.slice A0_0 l0_0.length c0_0) := (blk_cell BK101.out 0).trans rfl; have hfz9_0 := blk_frozen BK101.out 0; have p106 : 0 ≤ (x4_1 : Int) := qT qa6; have q106 : x4_1 < (l0_0.length : Int) := qT qa6; obtain ⟨ad106, A106_1, c106_1, e106, hx106_0, hx106_1, hl106_1, hi106_1⟩ := at_T41 HR0_0.out x4_1 p106 q106
       cases e106
       replace hx106_0 := (HB.out.cell (qL w _ hx106_0)).trans hx106_0; replace hx106_1 := (HB.out.cell (qL w _ hx106_1)).trans hx106_1; have HR106_1 := qO hi106_1; have HC106_1 := qO hl106_1; clear hi106_1 hl106_1; replace p106 := eq_true p106; replace q106 := eq_true q106; go_wp2
       go_loopg [5, 6] k1 (fun kq v5 v6 w' => ∃ (x5_2 : ByteArray) (x6_2 : Int), v5 = .string x5_2 ∧ v6 = .int .i64 x6_2 ∧ Aside0 (spec_l03Print.l1 kq x3_1 x4_1 x5_2 x6_2 l0_0 = some r) ∧ Aside0 (kq ≤ k1) ∧ Aside0 (Kd.R Kd.string 9 w' w.heap.size (fun _ => True) u3 x3_1) ∧ Aside0 (w'.heap[gb101]? = some (.cells #[(.slice (some ad106) l0_0.length c0_0)] 30 (0, 0))) ∧ Aside0 (Below w.heap.size w w'))
       case atStart => exact ⟨(((⟨#[116, 121, 112, 101, 32]⟩ : ByteArray) ++ ((rd_T41 l0_0 x4_1).f0)) ++ (⟨#[32, 123]⟩ : ByteArray)), (0), qa10, qa10, H', ⟨Nat.le_refl _⟩, ⟨qa19⟩, ⟨qa4⟩, ⟨qa2⟩⟩
       case round =>
        clear H'
        try clear c1
        try clear p1
        try clear q1
        try clear hx1
        try clear p2
        try clear c5
        try clear c5b0
        try clear c6
        try clear c6b0
        try clear c7
        try clear c7b0
        try clear c7b1
        try clear c7b2
        try clear c8
        try clear c8b0
        try clear c8b1
        try clear c8b2
        try clear hcz9_0
        try clear hfz9_0
        try clear hx106_0
        try clear hx106_1
        try clear p106
        try clear p2
        try clear q106
        obtain ⟨x5_2, x6_2, rfl, rfl, HA, HK2, HO_3, BK101, HB⟩ := hrel
        cases gk with
        | zero => exact absurd HA.out (by simp [spec_l03Print.l1])
        | succ k2 =>
         have H := HA.out; clear HA; simp only [spec_l03Print.l1] at H
         by_cases c10 : 0 ≤ x4_1
         ·rw [if_pos c10] at H
          have c10b0 : decide (0 ≤ x4_1) = true := decide_eq_true c10; clear c10
          by_cases c11 : x4_1 < (l0_0.length : Int)
          ·rw [if_pos c11] at H
           have c11b0 : decide (x4_1 < (l0_0.length : Int)) = true := decide_eq_true c11; clear c11
           by_cases c12 : x6_2 < (((rd_T41 l0_0 x4_1).f1).length : Int)
           ·rw [if_pos c12] at H
            have c12b0 : decide (x6_2 < (((rd_T41 l0_0 x4_1).f1).length : Int)) = true := decide_eq_true c12; clear c12
            by_cases c13 : 0 ≤ x6_2
            ·rw [if_pos c13] at H
             have c13b0 : decide (0 ≤ x6_2) = true := decide_eq_true c13; clear c13
             by_cases c14 : 1 + ((rd_T47 ((rd_T41 l0_0 x4_1).f1) x6_2).f0).size ≤ 9223372036854775807
             ·rw [if_pos c14] at H
              have c14b0 := eq_true c14; have c14b1 : decide (1 + ((rd_T47 ((rd_T41 l0_0 x4_1).f1) x6_2).f0).size ≤ 9223372036854775807) = true := decide_eq_true c14
              try have c14b2 : (9223372036854775807 < 1 + ((rd_T47 ((rd_T41 l0_0 x4_1).f1) x6_2).f0).size) = False := eq_false (Nat.not_lt.2 c14)
              by_cases c15 : x5_2.size + ((⟨#[32]⟩ : ByteArray) ++ ((rd_T47 ((rd_T41 l0_0 x4_1).f1) x6_2).f0)).size ≤ 9223372036854775807
              ·rw [if_pos c15] at H
               have c15z : x5_2.size + (1 + ((rd_T47 ((rd_T41 l0_0 x4_1).f1) x6_2).f0).size) ≤ 9223372036854775807 := by (have h_ := c15; (repeat rw [ByteArray.size_append] at h_); exact h_)
               have c15zt := eq_true c15z; have c15zf : (9223372036854775807 < x5_2.size + (1 + ((rd_T47 ((rd_T41 l0_0 x4_1).f1) x6_2).f0).size)) = False := eq_false (Nat.not_lt.2 c15z); have c15b0 := eq_true c15; have c15b1 : decide (x5_2.size + ((⟨#[32]⟩ : ByteArray) ++ ((rd_T47 ((rd_T41 l0_0 x4_1).f1) x6_2).f0)).size ≤ 9223372036854775807) = true := decide_eq_true c15
               try have c15b2 : (9223372036854775807 < x5_2.size + ((⟨#[32]⟩ : ByteArray) ++ ((rd_T47 ((rd_T41 l0_0 x4_1).f1) x6_2).f0)).size) = False := eq_false (Nat.not_lt.2 c15)
               have H' := qO H; clear H; have hcz16_0 : wr.cell? ⟨gb101, 0, none⟩ = some (.slice (some ad106) l0_0.length c0_0) := (blk_cell BK101.out 0).trans rfl; have hfz16_0 := blk_frozen BK101.out 0; have p107 : 0 ≤ (x4_1 : Int) := qT qa6; have q107 : x4_1 < (l0_0.length : Int) := qT qa6; obtain ⟨ad107, A107_1, c107_1, e107, hx107_0, hx107_1, hl107_1, hi107_1⟩ := at_T41 HR0_0.out x4_1 p107 q107; obtain rfl : ad106 = ad107 := (by injection e107); replace hx107_0 := (HB.out.cell (qL w _ hx107_0)).trans hx107_0; replace hx107_1 := (HB.out.cell (qL w _ hx107_1)).trans hx107_1; have HR107_1 := qO hi107_1; have HC107_1 := qO hl107_1; clear hi107_1 hl107_1; replace p107 := eq_true p107; replace q107 := eq_true q107; have p111 : 0 ≤ (x4_1 : Int) := qT qa6; have q111 : x4_1 < (l0_0.length : Int) := qT qa6; obtain ⟨ad111, A111_1, c111_1, e111, hx111_0, hx111_1, hl111_1, hi111_1⟩ := at_T41 HR0_0.out x4_1 p111 q111; obtain rfl : ad106 = ad111 := (by injection e111); replace hx111_0 := (HB.out.cell (qL w _ hx111_0)).trans hx111_0; replace hx111_1 := (HB.out.cell (qL w _ hx111_1)).trans hx111_1; have HR111_1 := qO hi111_1; have HC111_1 := qO hl111_1; clear hi111_1 hl111_1; replace p111 := eq_true p111; replace q111 := eq_true q111; have ea_ := Option.some.inj (hx107_1.symm.trans hx111_1); injection ea_ with ea_ en_ ec_; subst ea_; subst ec_; clear en_; have p112 : 0 ≤ (x6_2 : Int) := qT qa6; have q112 : x6_2 < (((rd_T41 l0_0 x4_1).f1).length : Int) := qT qa6; obtain ⟨ad112, A112_1, c112_1, e112, hx112_0, hx112_1, hx112_2, hx112_3, hx112_4, hl112_1, hi112_1⟩ := at_T47 HR111_1.out x6_2 p112 q112
               cases e112
               replace hx112_0 := (HB.out.cell (qL w _ hx112_0)).trans hx112_0; replace hx112_1 := (HB.out.cell (qL w _ hx112_1)).trans hx112_1; replace hx112_2 := (HB.out.cell (qL w _ hx112_2)).trans hx112_2; replace hx112_3 := (HB.out.cell (qL w _ hx112_3)).trans hx112_3; replace hx112_4 := (HB.out.cell (qL w _ hx112_4)).trans hx112_4; have HR112_1 := qO hi112_1; have HC112_1 := qO hl112_1; clear hi112_1 hl112_1; replace p112 := eq_true p112; replace q112 := eq_true q112
               go_wp2_with (first | ((with_reducible refine gate_dst (N := 7) rfl ?_); refine box_event ?hg (N := 7) ?hd (cs := #[.string (⟨#[]⟩ : ByteArray), .slice none 0 0, .string (⟨#[]⟩ : ByteArray), .bool false, .bool false]) (t := 47) ?hr ?_; (case hd => rfl); (case hg => rfl); (case hr => exact qa18); intro gb113 hg w17 hbox hb; have hx_ := qHX HB hb qa1; have n0_ := qO (Kd.R_below qa19 hb); have n1_ := qO (qB BK101.out hx_ hb); have n2_ := qO (below_step (below_step HB.out hx_) hb); have n3_ := qO (hbox); have n4_ := qO ((qa14 : w.heap.size ≤ gb113)); have n5_ := n4_; have n6_ := qO ((by rw [hg]; exact Nat.ne_of_lt (blk_lt (g := gb101) (o := .cells #[.slice (some ad106) l0_0.length c0_0] 30 (0, 0)) (by (with_reducible repeat (first | refine qkN ?_ _ | refine qkD ?_ | refine qkA ?_ _)); exact BK101.out)) : gb101 ≠ gb113)); have n7_ := qO (Ne.symm n6_.out); clear HO_3; clear BK101; clear HB; have HO_3 := n0_; have BK101 := n1_; have HB := n2_; have BK113 := n3_; have GW113 := n4_; have GE113 := n5_; have NB101_113 := n6_; have NB113_101 := n7_; clear n0_ n1_ n2_ n3_ n4_ n5_ n6_ n7_; clear hx_; clear hb hbox hg; have hnb18 := NB113_101.out; have hnc18 := NB101_113.out; have hcz19_0 : w17.cell? ⟨gb113, 0, none⟩ = some (.string (⟨#[]⟩ : ByteArray)) := (blk_cell BK113.out 0).trans rfl; have hcz19_1 : w17.cell? ⟨gb113, 1, none⟩ = some (.slice none 0 0) := (blk_cell BK113.out 1).trans rfl; have hcz19_2 : w17.cell? ⟨gb113, 2, none⟩ = some (.string (⟨#[]⟩ : ByteArray)) := (blk_cell BK113.out 2).trans rfl; have hcz19_3 : w17.cell? ⟨gb113, 3, none⟩ = some (.bool false) := (blk_cell BK113.out 3).trans rfl; have hcz19_4 : w17.cell? ⟨gb113, 4, none⟩ = some (.bool false) := (blk_cell BK113.out 4).trans rfl; have hfz19_0 := blk_frozen BK113.out 0; have hfz19_1 := blk_frozen BK113.out 1; have hfz19_2 := blk_frozen BK113.out 2; have hfz19_3 := blk_frozen BK113.out 3; have hfz19_4 := blk_frozen BK113.out 4))
               go_loopg [5, 8] k2 (fun kq v5 v8 w' => ∃ (x5_3 : ByteArray) (x8_3 : Int), v5 = .string x5_3 ∧ v8 = .int .i64 x8_3 ∧ Aside0 (spec_l03Print.l2 kq x3_1 x4_1 x5_3 x6_2 x8_3 l0_0 ((rd_T47 ((rd_T41 l0_0 x4_1).f1) x6_2).f0) ((rd_T47 ((rd_T41 l0_0 x4_1).f1) x6_2).f1) ((rd_T47 ((rd_T41 l0_0 x4_1).f1) x6_2).f2) ((rd_T47 ((rd_T41 l0_0 x4_1).f1) x6_2).f3) ((rd_T47 ((rd_T41 l0_0 x4_1).f1) x6_2).f4) = some r) ∧ Aside0 (kq ≤ k2) ∧ Aside0 (Kd.R Kd.string 9 w' w.heap.size (fun _ => True) u3 x3_1) ∧ Aside0 (w'.heap[gb101]? = some (.cells #[(.slice (some ad106) l0_0.length c0_0)] 30 (0, 0))) ∧ Aside0 (w'.heap[gb113]? = some (.cells #[.string ((rd_T47 ((rd_T41 l0_0 x4_1).f1) x6_2).f0), (.slice A112_1 ((rd_T47 ((rd_T41 l0_0 x4_1).f1) x6_2).f1).length c112_1), .string ((rd_T47 ((rd_T41 l0_0 x4_1).f1) x6_2).f2), .bool ((rd_T47 ((rd_T41 l0_0 x4_1).f1) x6_2).f3), .bool ((rd_T47 ((rd_T41 l0_0 x4_1).f1) x6_2).f4)] 47 (0, 0))) ∧ Aside0 (Below w.heap.size w w'))
               case atStart => exact ⟨(x5_2 ++ ((⟨#[32]⟩ : ByteArray) ++ ((rd_T47 ((rd_T41 l0_0 x4_1).f1) x6_2).f0))), (0), qa10, qa10, H', ⟨Nat.le_refl _⟩, ⟨by (with_reducible repeat (first | apply Kd.R_alloc | apply Kd.R_drewN | apply Kd.R_drew)); exact Kd.R_mono (Kd.R_far (p := ⟨gb113, 4, none⟩) (Kd.R_far (p := ⟨gb113, 3, none⟩) (Kd.R_far (p := ⟨gb113, 2, none⟩) (Kd.R_far (p := ⟨gb113, 1, none⟩) (Kd.R_far (p := ⟨gb113, 0, none⟩) (Kd.R_types HO_3.out BK113.out (by decide)) (fun _ hk => hk.2) (.string ((rd_T47 ((rd_T41 l0_0 x4_1).f1) x6_2).f0))) (fun _ hk => hk.2) (.slice A112_1 ((rd_T47 ((rd_T41 l0_0 x4_1).f1) x6_2).f1).length c112_1)) (fun _ hk => hk.2) (.string ((rd_T47 ((rd_T41 l0_0 x4_1).f1) x6_2).f2))) (fun _ hk => hk.2) (.bool ((rd_T47 ((rd_T41 l0_0 x4_1).f1) x6_2).f3))) (fun _ hk => hk.2) (.bool ((rd_T47 ((rd_T41 l0_0 x4_1).f1) x6_2).f4))) (fun _ hk => trivial)⟩, ⟨by (with_reducible repeat (first | refine qkN ?_ _ | refine qkD ?_ | refine qkA ?_ _)); refine blk_far ?_ NB101_113.out _; (with_reducible repeat (first | refine qkN ?_ _ | refine qkD ?_ | refine qkA ?_ _)); refine blk_far ?_ NB101_113.out _; (with_reducible repeat (first | refine qkN ?_ _ | refine qkD ?_ | refine qkA ?_ _)); refine blk_far ?_ NB101_113.out _; (with_reducible repeat (first | refine qkN ?_ _ | refine qkD ?_ | refine qkA ?_ _)); refine blk_far ?_ NB101_113.out _; (with_reducible repeat (first | refine qkN ?_ _ | refine qkD ?_ | refine qkA ?_ _)); refine blk_far ?_ NB101_113.out _; (with_reducible repeat (first | refine qkN ?_ _ | refine qkD ?_ | refine qkA ?_ _)); exact BK101.out⟩, ⟨by (with_reducible repeat (first | refine qkN ?_ _ | refine qkD ?_ | refine qkA ?_ _)); refine blk_put (cs := #[.string ((rd_T47 ((rd_T41 l0_0 x4_1).f1) x6_2).f0), .slice A112_1 ((rd_T47 ((rd_T41 l0_0 x4_1).f1) x6_2).f1).length c112_1, .string ((rd_T47 ((rd_T41 l0_0 x4_1).f1) x6_2).f2), .bool ((rd_T47 ((rd_T41 l0_0 x4_1).f1) x6_2).f3), .bool false]) ?_ 4 _ rfl; (with_reducible repeat (first | refine qkN ?_ _ | refine qkD ?_ | refine qkA ?_ _)); refine blk_put (cs := #[.string ((rd_T47 ((rd_T41 l0_0 x4_1).f1) x6_2).f0), .slice A112_1 ((rd_T47 ((rd_T41 l0_0 x4_1).f1) x6_2).f1).length c112_1, .string ((rd_T47 ((rd_T41 l0_0 x4_1).f1) x6_2).f2), .bool false, .bool false]) ?_ 3 _ rfl; (with_reducible repeat (first | refine qkN ?_ _ | refine qkD ?_ | refine qkA ?_ _)); refine blk_put (cs := #[.string ((rd_T47 ((rd_T41 l0_0 x4_1).f1) x6_2).f0), .slice A112_1 ((rd_T47 ((rd_T41 l0_0 x4_1).f1) x6_2).f1).length c112_1, .string (⟨#[]⟩ : ByteArray), .bool false, .bool false]) ?_ 2 _ rfl; (with_reducible repeat (first | refine qkN ?_ _ | refine qkD ?_ | refine qkA ?_ _)); refine blk_put (cs := #[.string ((rd_T47 ((rd_T41 l0_0 x4_1).f1) x6_2).f0), .slice none 0 0, .string (⟨#[]⟩ : ByteArray), .bool false, .bool false]) ?_ 1 _ rfl; (with_reducible repeat (first | refine qkN ?_ _ | refine qkD ?_ | refine qkA ?_ _)); refine blk_put (cs := #[.string (⟨#[]⟩ : ByteArray), .slice none 0 0, .string (⟨#[]⟩ : ByteArray), .bool false, .bool false]) ?_ 0 _ rfl; (with_reducible repeat (first | refine qkN ?_ _ | refine qkD ?_ | refine qkA ?_ _)); exact BK113.out⟩, ⟨qa27⟩⟩
               case round =>
                clear H'
                try clear c1
                try clear p1
                try clear q1
                try clear hx1
                try clear p2
                try clear c5
                try clear c5b0
                try clear c6
                try clear c6b0
                try clear c7
                try clear c7b0
                try clear c7b1
                try clear c7b2
                try clear c8
                try clear c8b0
                try clear c8b1
                try clear c8b2
                try clear c10
                try clear c10b0
                try clear p10
                try clear q10
                try clear hx10
                try clear c11
                try clear c11b0
                try clear p11
                try clear q11
                try clear hx11
                try clear c12
                try clear c12b0
                try clear c13
                try clear c13b0
                try clear c14
                try clear c14b0
                try clear c14b1
                try clear c14b2
                try clear c15
                try clear c15b0
                try clear c15b1
                try clear c15b2
                try clear c18
                try clear hcz16_0
                try clear hcz19_0
                try clear hcz19_1
                try clear hcz19_2
                try clear hcz19_3
                try clear hcz19_4
                try clear hcz9_0
                try clear hfz16_0
                try clear hfz19_0
                try clear hfz19_1
                try clear hfz19_2
                try clear hfz19_3
                try clear hfz19_4
                try clear hfz9_0
                try clear hx106_0
                try clear hx106_1
                try clear hx107_0
                try clear hx107_1
                try clear hx111_0
                try clear hx111_1
                try clear hx112_0
                try clear hx112_1
                try clear hx112_2
                try clear hx112_3
                try clear hx112_4
                try clear p1
                try clear p106
                try clear p107
                try clear p111
                try clear p112
                try clear p2
                try clear q1
                try clear q106
                try clear q107
                try clear q111
                try clear q112
                obtain ⟨x5_3, x8_3, rfl, rfl, HA, HK3, HO_3, BK101, BK113, HB⟩ := hrel
                cases gk with
                | zero => exact absurd HA.out (by simp [spec_l03Print.l2])
                | succ k3 =>
                 have H := HA.out; clear HA; simp only [spec_l03Print.l2] at H
                 by_cases c20 : x8_3 < (((rd_T47 ((rd_T41 l0_0 x4_1).f1) x6_2).f1).length : Int)
                 ·rw [if_pos c20] at H
                  have c20b0 : decide (x8_3 < (((rd_T47 ((rd_T41 l0_0 x4_1).f1) x6_2).f1).length : Int)) = true := decide_eq_true c20; clear c20; obtain ⟨y114, hy114⟩ : ∃ y_ : List ByteArray, y_ = (([(⟨#[32, 40, 32]⟩ : ByteArray), (⟨#[32]⟩ : ByteArray)] : List ByteArray)) := ⟨_, rfl⟩; replace H : ((spec_l01Bit.f (decide (x8_3 > 0))).bind fun t117 => (if 0 ≤ t117 then (if t117 < (y114.length : Int) then (if 0 ≤ x8_3 then (if (rdOf ByteArray.empty y114 t117).size + ((rd_T60 ((rd_T47 ((rd_T41 l0_0 x4_1).f1) x6_2).f1) x8_3).f0).size ≤ 9223372036854775807 then (if ((rdOf ByteArray.empty y114 t117) ++ ((rd_T60 ((rd_T47 ((rd_T41 l0_0 x4_1).f1) x6_2).f1) x8_3).f0)).size + 6 ≤ 9223372036854775807 then (if x5_3.size + (((rdOf ByteArray.empty y114 t117) ++ ((rd_T60 ((rd_T47 ((rd_T41 l0_0 x4_1).f1) x6_2).f1) x8_3).f0)) ++ (⟨#[32, 58, 32, 73, 110, 116]⟩ : ByteArray)).size ≤ 9223372036854775807 then (if (rd_T60 ((rd_T47 ((rd_T41 l0_0 x4_1).f1) x6_2).f1) x8_3).f1 = true then (if (x5_3 ++ (((rdOf ByteArray.empty y114 t117) ++ ((rd_T60 ((rd_T47 ((rd_T41 l0_0 x4_1).f1) x6_2).f1) x8_3).f0)) ++ (⟨#[32, 58, 32, 73, 110, 116]⟩ : ByteArray))).size + 2 ≤ 9223372036854775807 then (spec_l03Print.l2 k3 x3_1 x4_1 ((x5_3 ++ (((rdOf ByteArray.empty y114 t117) ++ ((rd_T60 ((rd_T47 ((rd_T41 l0_0 x4_1).f1) x6_2).f1) x8_3).f0)) ++ (⟨#[32, 58, 32, 73, 110, 116]⟩ : ByteArray))) ++ (⟨#[32, 33]⟩ : ByteArray)) x6_2 (wrap64 (x8_3 + 1)) l0_0 ((rd_T47 ((rd_T41 l0_0 x4_1).f1) x6_2).f0) ((rd_T47 ((rd_T41 l0_0 x4_1).f1) x6_2).f1) ((rd_T47 ((rd_T41 l0_0 x4_1).f1) x6_2).f2) ((rd_T47 ((rd_T41 l0_0 x4_1).f1) x6_2).f3) ((rd_T47 ((rd_T41 l0_0 x4_1).f1) x6_2).f4)) else (none)) else (spec_l03Print.l2 k3 x3_1 x4_1 (x5_3 ++ (((rdOf ByteArray.empty y114 t117) ++ ((rd_T60 ((rd_T47 ((rd_T41 l0_0 x4_1).f1) x6_2).f1) x8_3).f0)) ++ (⟨#[32, 58, 32, 73, 110, 116]⟩ : ByteArray))) x6_2 (wrap64 (x8_3 + 1)) l0_0 ((rd_T47 ((rd_T41 l0_0 x4_1).f1) x6_2).f0) ((rd_T47 ((rd_T41 l0_0 x4_1).f1) x6_2).f1) ((rd_T47 ((rd_T41 l0_0 x4_1).f1) x6_2).f2) ((rd_T47 ((rd_T41 l0_0 x4_1).f1) x6_2).f3) ((rd_T47 ((rd_T41 l0_0 x4_1).f1) x6_2).f4))) else (none)) else (none)) else (none)) else (none)) else (none)) else (none))) = some r := by first | (rw [hy114]; with_reducible exact H) | (have H2_ := (Option.bind_some _ _).symm.trans H; rw [hy114]; with_reducible exact H2_) | (have H2_ := (Option.bind_some _ _).symm.trans H; with_reducible exact H2_) | with_reducible exact H | (rw [hy114]; exact H) | exact H
                  have Ny114 := qO hy114; clear hy114; replace H := Option.bind_eq_some_iff.mp H; obtain ⟨t117, A210, H⟩ := H; replace H : (if 0 ≤ t117 then (if t117 < (y114.length : Int) then (if 0 ≤ x8_3 then (if (rdOf ByteArray.empty y114 t117).size + ((rd_T60 ((rd_T47 ((rd_T41 l0_0 x4_1).f1) x6_2).f1) x8_3).f0).size ≤ 9223372036854775807 then (if ((rdOf ByteArray.empty y114 t117) ++ ((rd_T60 ((rd_T47 ((rd_T41 l0_0 x4_1).f1) x6_2).f1) x8_3).f0)).size + 6 ≤ 9223372036854775807 then (if x5_3.size + (((rdOf ByteArray.empty y114 t117) ++ ((rd_T60 ((rd_T47 ((rd_T41 l0_0 x4_1).f1) x6_2).f1) x8_3).f0)) ++ (⟨#[32, 58, 32, 73, 110, 116]⟩ : ByteArray)).size ≤ 9223372036854775807 then (if (rd_T60 ((rd_T47 ((rd_T41 l0_0 x4_1).f1) x6_2).f1) x8_3).f1 = true then (if (x5_3 ++ (((rdOf ByteArray.empty y114 t117) ++ ((rd_T60 ((rd_T47 ((rd_T41 l0_0 x4_1).f1) x6_2).f1) x8_3).f0)) ++ (⟨#[32, 58, 32, 73, 110, 116]⟩ : ByteArray))).size + 2 ≤ 9223372036854775807 then (spec_l03Print.l2 k3 x3_1 x4_1 ((x5_3 ++ (((rdOf ByteArray.empty y114 t117) ++ ((rd_T60 ((rd_T47 ((rd_T41 l0_0 x4_1).f1) x6_2).f1) x8_3).f0)) ++ (⟨#[32, 58, 32, 73, 110, 116]⟩ : ByteArray))) ++ (⟨#[32, 33]⟩ : ByteArray)) x6_2 (wrap64 (x8_3 + 1)) l0_0 ((rd_T47 ((rd_T41 l0_0 x4_1).f1) x6_2).f0) ((rd_T47 ((rd_T41 l0_0 x4_1).f1) x6_2).f1) ((rd_T47 ((rd_T41 l0_0 x4_1).f1) x6_2).f2) ((rd_T47 ((rd_T41 l0_0 x4_1).f1) x6_2).f3) ((rd_T47 ((rd_T41 l0_0 x4_1).f1) x6_2).f4)) else (none)) else (spec_l03Print.l2 k3 x3_1 x4_1 (x5_3 ++ (((rdOf ByteArray.empty y114 t117) ++ ((rd_T60 ((rd_T47 ((rd_T41 l0_0 x4_1).f1) x6_2).f1) x8_3).f0)) ++ (⟨#[32, 58, 32, 73, 110, 116]⟩ : ByteArray))) x6_2 (wrap64 (x8_3 + 1)) l0_0 ((rd_T47 ((rd_T41 l0_0 x4_1).f1) x6_2).f0) ((rd_T47 ((rd_T41 l0_0 x4_1).f1) x6_2).f1) ((rd_T47 ((rd_T41 l0_0 x4_1).f1) x6_2).f2) ((rd_T47 ((rd_T41 l0_0 x4_1).f1) x6_2).f3) ((rd_T47 ((rd_T41 l0_0 x4_1).f1) x6_2).f4))) else (none)) else (none)) else (none)) else (none)) else (none)) else (none)) = some r := H; have A21 := qO A210; clear A210
                  by_cases c22 : 0 ≤ t117
                  ·rw [if_pos c22] at H
                   have c22b0 : decide (0 ≤ t117) = true := decide_eq_true c22; clear c22
                   by_cases c23 : t117 < (y114.length : Int)
                   ·rw [if_pos c23] at H
                    have c23b0 : decide (t117 < (y114.length : Int)) = true := decide_eq_true c23; clear c23
                    by_cases c24 : 0 ≤ x8_3
                    ·rw [if_pos c24] at H
                     have c24b0 : decide (0 ≤ x8_3) = true := decide_eq_true c24; clear c24
                     by_cases c25 : (rdOf ByteArray.empty y114 t117).size + ((rd_T60 ((rd_T47 ((rd_T41 l0_0 x4_1).f1) x6_2).f1) x8_3).f0).size ≤ 9223372036854775807
                     ·rw [if_pos c25] at H
                      have c25b0 := eq_true c25; have c25b1 : decide ((rdOf ByteArray.empty y114 t117).size + ((rd_T60 ((rd_T47 ((rd_T41 l0_0 x4_1).f1) x6_2).f1) x8_3).f0).size ≤ 9223372036854775807) = true := decide_eq_true c25
                      try have c25b2 : (9223372036854775807 < (rdOf ByteArray.empty y114 t117).size + ((rd_T60 ((rd_T47 ((rd_T41 l0_0 x4_1).f1) x6_2).f1) x8_3).f0).size) = False := eq_false (Nat.not_lt.2 c25)
                      by_cases c26 : ((rdOf ByteArray.empty y114 t117) ++ ((rd_T60 ((rd_T47 ((rd_T41 l0_0 x4_1).f1) x6_2).f1) x8_3).f0)).size + 6 ≤ 9223372036854775807
                      ·rw [if_pos c26] at H
                       have c26z : (rdOf ByteArray.empty y114 t117).size + ((rd_T60 ((rd_T47 ((rd_T41 l0_0 x4_1).f1) x6_2).f1) x8_3).f0).size + 6 ≤ 9223372036854775807 := by (have h_ := c26; (repeat rw [ByteArray.size_append] at h_); exact h_)
                       have c26zt := eq_true c26z; have c26zf : (9223372036854775807 < (rdOf ByteArray.empty y114 t117).size + ((rd_T60 ((rd_T47 ((rd_T41 l0_0 x4_1).f1) x6_2).f1) x8_3).f0).size + 6) = False := eq_false (Nat.not_lt.2 c26z); have c26b0 := eq_true c26; have c26b1 : decide (((rdOf ByteArray.empty y114 t117) ++ ((rd_T60 ((rd_T47 ((rd_T41 l0_0 x4_1).f1) x6_2).f1) x8_3).f0)).size + 6 ≤ 9223372036854775807) = true := decide_eq_true c26
                       try have c26b2 : (9223372036854775807 < ((rdOf ByteArray.empty y114 t117) ++ ((rd_T60 ((rd_T47 ((rd_T41 l0_0 x4_1).f1) x6_2).f1) x8_3).f0)).size + 6) = False := eq_false (Nat.not_lt.2 c26)
                       by_cases c27 : x5_3.size + (((rdOf ByteArray.empty y114 t117) ++ ((rd_T60 ((rd_T47 ((rd_T41 l0_0 x4_1).f1) x6_2).f1) x8_3).f0)) ++ (⟨#[32, 58, 32, 73, 110, 116]⟩ : ByteArray)).size ≤ 9223372036854775807
                       ·rw [if_pos c27] at H
                        have c27z : x5_3.size + ((rdOf ByteArray.empty y114 t117).size + ((rd_T60 ((rd_T47 ((rd_T41 l0_0 x4_1).f1) x6_2).f1) x8_3).f0).size + 6) ≤ 9223372036854775807 := by (have h_ := c27; (repeat rw [ByteArray.size_append] at h_); exact h_)
                        have c27zt := eq_true c27z; have c27zf : (9223372036854775807 < x5_3.size + ((rdOf ByteArray.empty y114 t117).size + ((rd_T60 ((rd_T47 ((rd_T41 l0_0 x4_1).f1) x6_2).f1) x8_3).f0).size + 6)) = False := eq_false (Nat.not_lt.2 c27z); have c27b0 := eq_true c27; have c27b1 : decide (x5_3.size + (((rdOf ByteArray.empty y114 t117) ++ ((rd_T60 ((rd_T47 ((rd_T41 l0_0 x4_1).f1) x6_2).f1) x8_3).f0)) ++ (⟨#[32, 58, 32, 73, 110, 116]⟩ : ByteArray)).size ≤ 9223372036854775807) = true := decide_eq_true c27
                        try have c27b2 : (9223372036854775807 < x5_3.size + (((rdOf ByteArray.empty y114 t117) ++ ((rd_T60 ((rd_T47 ((rd_T41 l0_0 x4_1).f1) x6_2).f1) x8_3).f0)) ++ (⟨#[32, 58, 32, 73, 110, 116]⟩ : ByteArray)).size) = False := eq_false (Nat.not_lt.2 c27)
                        obtain ⟨bq28, hbq28⟩ : ∃ b_ : Bool, b_ = ((rd_T60 ((rd_T47 ((rd_T41 l0_0 x4_1).f1) x6_2).f1) x8_3).f1) := ⟨_, rfl⟩; replace H : (if bq28 = true then (if (x5_3 ++ (((rdOf ByteArray.empty y114 t117) ++ ((rd_T60 ((rd_T47 ((rd_T41 l0_0 x4_1).f1) x6_2).f1) x8_3).f0)) ++ (⟨#[32, 58, 32, 73, 110, 116]⟩ : ByteArray))).size + 2 ≤ 9223372036854775807 then (spec_l03Print.l2 k3 x3_1 x4_1 ((x5_3 ++ (((rdOf ByteArray.empty y114 t117) ++ ((rd_T60 ((rd_T47 ((rd_T41 l0_0 x4_1).f1) x6_2).f1) x8_3).f0)) ++ (⟨#[32, 58, 32, 73, 110, 116]⟩ : ByteArray))) ++ (⟨#[32, 33]⟩ : ByteArray)) x6_2 (wrap64 (x8_3 + 1)) l0_0 ((rd_T47 ((rd_T41 l0_0 x4_1).f1) x6_2).f0) ((rd_T47 ((rd_T41 l0_0 x4_1).f1) x6_2).f1) ((rd_T47 ((rd_T41 l0_0 x4_1).f1) x6_2).f2) ((rd_T47 ((rd_T41 l0_0 x4_1).f1) x6_2).f3) ((rd_T47 ((rd_T41 l0_0 x4_1).f1) x6_2).f4)) else (none)) else (spec_l03Print.l2 k3 x3_1 x4_1 (x5_3 ++ (((rdOf ByteArray.empty y114 t117) ++ ((rd_T60 ((rd_T47 ((rd_T41 l0_0 x4_1).f1) x6_2).f1) x8_3).f0)) ++ (⟨#[32, 58, 32, 73, 110, 116]⟩ : ByteArray))) x6_2 (wrap64 (x8_3 + 1)) l0_0 ((rd_T47 ((rd_T41 l0_0 x4_1).f1) x6_2).f0) ((rd_T47 ((rd_T41 l0_0 x4_1).f1) x6_2).f1) ((rd_T47 ((rd_T41 l0_0 x4_1).f1) x6_2).f2) ((rd_T47 ((rd_T41 l0_0 x4_1).f1) x6_2).f3) ((rd_T47 ((rd_T41 l0_0 x4_1).f1) x6_2).f4))) = some r := by rw [← hbq28] at H; exact H
                        have Nbq28 := qO hbq28; clear hbq28
                        by_cases c29 : bq28 = true
                        ·subst c29
                         have H1 : (if (x5_3 ++ (((rdOf ByteArray.empty y114 t117) ++ ((rd_T60 ((rd_T47 ((rd_T41 l0_0 x4_1).f1) x6_2).f1) x8_3).f0)) ++ (⟨#[32, 58, 32, 73, 110, 116]⟩ : ByteArray))).size + 2 ≤ 9223372036854775807 then (spec_l03Print.l2 k3 x3_1 x4_1 ((x5_3 ++ (((rdOf ByteArray.empty y114 t117) ++ ((rd_T60 ((rd_T47 ((rd_T41 l0_0 x4_1).f1) x6_2).f1) x8_3).f0)) ++ (⟨#[32, 58, 32, 73, 110, 116]⟩ : ByteArray))) ++ (⟨#[32, 33]⟩ : ByteArray)) x6_2 (wrap64 (x8_3 + 1)) l0_0 ((rd_T47 ((rd_T41 l0_0 x4_1).f1) x6_2).f0) ((rd_T47 ((rd_T41 l0_0 x4_1).f1) x6_2).f1) ((rd_T47 ((rd_T41 l0_0 x4_1).f1) x6_2).f2) ((rd_T47 ((rd_T41 l0_0 x4_1).f1) x6_2).f3) ((rd_T47 ((rd_T41 l0_0 x4_1).f1) x6_2).f4)) else (none)) = some r := by rw [if_pos rfl] at H; exact H
                         clear H; have H := H1; clear H1
                         by_cases c30 : (x5_3 ++ (((rdOf ByteArray.empty y114 t117) ++ ((rd_T60 ((rd_T47 ((rd_T41 l0_0 x4_1).f1) x6_2).f1) x8_3).f0)) ++ (⟨#[32, 58, 32, 73, 110, 116]⟩ : ByteArray))).size + 2 ≤ 9223372036854775807
                         ·rw [if_pos c30] at H
                          have c30z : x5_3.size + ((rdOf ByteArray.empty y114 t117).size + ((rd_T60 ((rd_T47 ((rd_T41 l0_0 x4_1).f1) x6_2).f1) x8_3).f0).size + 6) + 2 ≤ 9223372036854775807 := by (have h_ := c30; (repeat rw [ByteArray.size_append] at h_); exact h_)
                          have c30zt := eq_true c30z; have c30zf : (9223372036854775807 < x5_3.size + ((rdOf ByteArray.empty y114 t117).size + ((rd_T60 ((rd_T47 ((rd_T41 l0_0 x4_1).f1) x6_2).f1) x8_3).f0).size + 6) + 2) = False := eq_false (Nat.not_lt.2 c30z); have c30b0 := eq_true c30; have c30b1 : decide ((x5_3 ++ (((rdOf ByteArray.empty y114 t117) ++ ((rd_T60 ((rd_T47 ((rd_T41 l0_0 x4_1).f1) x6_2).f1) x8_3).f0)) ++ (⟨#[32, 58, 32, 73, 110, 116]⟩ : ByteArray))).size + 2 ≤ 9223372036854775807) = true := decide_eq_true c30
                          try have c30b2 : (9223372036854775807 < (x5_3 ++ (((rdOf ByteArray.empty y114 t117) ++ ((rd_T60 ((rd_T47 ((rd_T41 l0_0 x4_1).f1) x6_2).f1) x8_3).f0)) ++ (⟨#[32, 58, 32, 73, 110, 116]⟩ : ByteArray))).size + 2) = False := eq_false (Nat.not_lt.2 c30)
                          have H' := qO H; clear H; have hnb31 := NB113_101.out; have hnc31 := NB101_113.out; have hcz32_0 : wr.cell? ⟨gb113, 0, none⟩ = some (.string ((rd_T47 ((rd_T41 l0_0 x4_1).f1) x6_2).f0)) := (blk_cell BK113.out 0).trans rfl; have hcz32_1 : wr.cell? ⟨gb113, 1, none⟩ = some (.slice A112_1 ((rd_T47 ((rd_T41 l0_0 x4_1).f1) x6_2).f1).length c112_1) := (blk_cell BK113.out 1).trans rfl; have hcz32_2 : wr.cell? ⟨gb113, 2, none⟩ = some (.string ((rd_T47 ((rd_T41 l0_0 x4_1).f1) x6_2).f2)) := (blk_cell BK113.out 2).trans rfl; have hcz32_3 : wr.cell? ⟨gb113, 3, none⟩ = some (.bool ((rd_T47 ((rd_T41 l0_0 x4_1).f1) x6_2).f3)) := (blk_cell BK113.out 3).trans rfl; have hcz32_4 : wr.cell? ⟨gb113, 4, none⟩ = some (.bool ((rd_T47 ((rd_T41 l0_0 x4_1).f1) x6_2).f4)) := (blk_cell BK113.out 4).trans rfl; have hfz32_0 := blk_frozen BK113.out 0; have hfz32_1 := blk_frozen BK113.out 1; have hfz32_2 := blk_frozen BK113.out 2; have hfz32_3 := blk_frozen BK113.out 3; have hfz32_4 := blk_frozen BK113.out 4
                          try go_wp2
                          have pi118 : (0 ≤ (t117 : Int)) = True := eq_true (qT qa6); have qi118 : (t117 < (y114.length : Int)) = True := eq_true (qT qa6); have n0_ := qO (Kd.R_drew HO_3.out); have n1_ := qO (qkD BK101.out); have n2_ := qO (qkD BK113.out); have n3_ := qO (qbD HB.out); clear HO_3; clear BK101; clear BK113; clear HB; have HO_3 := n0_; have BK101 := n1_; have BK113 := n2_; have HB := n3_; clear n0_ n1_ n2_ n3_; have p119 : 0 ≤ (x8_3 : Int) := qT qa6; have q119 : x8_3 < (((rd_T47 ((rd_T41 l0_0 x4_1).f1) x6_2).f1).length : Int) := qT qa6; obtain ⟨ad119, e119, hx119_0, hx119_1⟩ := at_T60 HR112_1.out x8_3 p119 q119; have hw119_1 := hx119_1; have hw119_0 := hx119_0; (try rw [← Nbq28.out] at hx119_1); (try rw [← Nbq28.out] at hw119_1)
                          cases e119
                          replace hx119_0 := (HB.out.cell (qL w _ hx119_0)).trans hx119_0; replace hx119_1 := (HB.out.cell (qL w _ hx119_1)).trans hx119_1; replace p119 := eq_true p119; replace q119 := eq_true q119; refine start_ (n := 17) (S := fun w' => w'.cell? ⟨gb113, 0, none⟩ = some (.string ((rd_T47 ((rd_T41 l0_0 x4_1).f1) x6_2).f0)) ∧ w'.cell? ⟨gb113, 1, none⟩ = some (.slice (some ad119) ((rd_T47 ((rd_T41 l0_0 x4_1).f1) x6_2).f1).length c112_1) ∧ w'.cell? ⟨gb113, 2, none⟩ = some (.string ((rd_T47 ((rd_T41 l0_0 x4_1).f1) x6_2).f2)) ∧ w'.cell? ⟨gb113, 3, none⟩ = some (.bool ((rd_T47 ((rd_T41 l0_0 x4_1).f1) x6_2).f3)) ∧ w'.cell? ⟨gb113, 4, none⟩ = some (.bool ((rd_T47 ((rd_T41 l0_0 x4_1).f1) x6_2).f4)) ∧ w'.cell? (ad119.add ((x8_3).toNat * 2)) = some (.string ((rd_T60 ((rd_T47 ((rd_T41 l0_0 x4_1).f1) x6_2).f1) x8_3).f0)) ∧ w'.cell? ⟨(ad119.add ((x8_3).toNat * 2)).block, (ad119.add ((x8_3).toNat * 2)).off + 1, none⟩ = some (.bool true)) (ds := []) spec_l03Print.y0 qa16 rfl rfl ⟨(blk_cell BK113.out 0).trans rfl, (blk_cell BK113.out 1).trans rfl, (blk_cell BK113.out 2).trans rfl, (blk_cell BK113.out 3).trans rfl, (blk_cell BK113.out 4).trans rfl, ((HB.out.cell (qL w _ hw119_0)).trans hw119_0), ((HB.out.cell (qL w _ hw119_1)).trans hw119_1)⟩ (fun hHeld => ?_); refine with_tabW spec_l03Print.tab14 spec_l03Print.bits14 (fun HT_ HW_ => ?_); generalize wr.drew = w33 at HO_3 BK101 BK113 HB hx119_0 hx119_1 hHeld ⊢; refine pure_ (i := 0) (N := some 57) (v := ?_) (a' := ?_) spec_l03Print.y1 rfl rfl (any_of HT_.out qa16) (fun _ _ _ h => h) (Or.inl ⟨by rfl, ?_⟩) ?_ ?_; rotate_left; exact qa20; rotate_left; exact qa7; refine pure_ (i := 2) (N := some 59) (v := ?_) (a' := ?_) spec_l03Print.y2 rfl rfl (any_of HT_.out qa16) (fun _ _ _ h => h) (Or.inl ⟨by rfl, ?_⟩) ?_ ?_; rotate_left; exact qa20; rotate_left; exact qa7; refine pure_ (i := 3) (N := some 60) (v := ?_) (a' := ?_) spec_l03Print.y3 rfl rfl (any_of HT_.out qa16) (fun _ _ _ h => h) (Or.inl ⟨by rfl, ?_⟩) ?_ ?_; rotate_left; exact qa20; rotate_left; exact qa7; refine pure_ (i := 7) (N := some 64) (v := ?_) (a' := ?_) spec_l03Print.y4 rfl rfl (any_of HT_.out qa16) (fun _ _ _ h => h) (Or.inl ⟨by rfl, ?_⟩) ?_ ?_; rotate_left; exact qa20; rotate_left; exact qa7; refine pure_ (i := 9) (N := some 66) (v := ?_) (a' := ?_) spec_l03Print.y5 rfl rfl (any_of HT_.out qa16) (fun _ _ _ h => h) (Or.inl ⟨by rfl, ?_⟩) ?_ ?_; rotate_left; exact qa20; rotate_left; exact qa7; refine take_ (i := 8) (N := some 65) (v := ?_) (a' := ?_) spec_l03Print.y6 rfl rfl (take_ofW HT_.out HW_.out qa16) (fun _ _ _ h => h) (Or.inl ⟨by rfl, ?_⟩) hHeld ?_ ?_; rotate_left; exact qa103; rotate_left; exact qa7; refine pure_ (i := 10) (N := some 67) (v := ?_) (a' := ?_) spec_l03Print.y7 rfl rfl (any_of HT_.out qa16) (fun _ _ _ h => h) (Or.inl ⟨by rfl, ?_⟩) ?_ ?_; rotate_left; exact qa20; rotate_left; exact qa7; refine pure_ (i := 11) (N := some 68) (v := ?_) (a' := ?_) spec_l03Print.y8 rfl rfl (any_of HT_.out qa16) (fun _ _ _ h => h) (Or.inl ⟨by rfl, ?_⟩) ?_ ?_; rotate_left; exact qa20; rotate_left; exact qa7; refine take_ (i := 12) (N := some 69) (v := ?_) (a' := ?_) spec_l03Print.y9 rfl rfl (take_ofW HT_.out HW_.out qa16) (fun _ _ _ h => h) (Or.inl ⟨by rfl, ?_⟩) hHeld ?_ ?_; rotate_left; exact qa103; rotate_left; exact qa7; refine join_ (σ := Value × Addr) 6 spec_l03Print.y10 (fun s_ => [(58, s_.1), (61, .int .i64 t117)]) (fun s_ w' => (w'.cell? ⟨gb113, 0, none⟩ = some (.string ((rd_T47 ((rd_T41 l0_0 x4_1).f1) x6_2).f0)) ∧ w'.cell? ⟨gb113, 1, none⟩ = some (.slice (some ad119) ((rd_T47 ((rd_T41 l0_0 x4_1).f1) x6_2).f1).length c112_1) ∧ w'.cell? ⟨gb113, 2, none⟩ = some (.string ((rd_T47 ((rd_T41 l0_0 x4_1).f1) x6_2).f2)) ∧ w'.cell? ⟨gb113, 3, none⟩ = some (.bool ((rd_T47 ((rd_T41 l0_0 x4_1).f1) x6_2).f3)) ∧ w'.cell? ⟨gb113, 4, none⟩ = some (.bool ((rd_T47 ((rd_T41 l0_0 x4_1).f1) x6_2).f4)) ∧ w'.cell? (ad119.add ((x8_3).toNat * 2)) = some (.string ((rd_T60 ((rd_T47 ((rd_T41 l0_0 x4_1).f1) x6_2).f1) x8_3).f0)) ∧ w'.cell? ⟨(ad119.add ((x8_3).toNat * 2)).block, (ad119.add ((x8_3).toNat * 2)).off + 1, none⟩ = some (.bool true)) ∧ (Kd.R Kd.string 9 w' w.heap.size (fun k_ => some k_ ≠ (u3 : Value).ownBlock) s_.1 y114) ∧ (Kd.R Kd.string 9 w' w.heap.size (fun k_ => some k_ ≠ (s_.1 : Value).ownBlock) u3 x3_1) ∧ (∃ c_, (s_.1 : Value) = .slice (some s_.2) y114.length c_) ∧ (w'.heap[gb101]? = some (.cells #[.slice (some ad106) l0_0.length c0_0] 30 (0, 0))) ∧ (w'.heap[gb113]? = some (.cells #[.string ((rd_T47 ((rd_T41 l0_0 x4_1).f1) x6_2).f0), .slice (some ad119) ((rd_T47 ((rd_T41 l0_0 x4_1).f1) x6_2).f1).length c112_1, .string ((rd_T47 ((rd_T41 l0_0 x4_1).f1) x6_2).f2), .bool ((rd_T47 ((rd_T41 l0_0 x4_1).f1) x6_2).f3), .bool ((rd_T47 ((rd_T41 l0_0 x4_1).f1) x6_2).f4)] 47 (0, 0))) ∧ (Below w.heap.size w w')) ?_ ?_; rotate_left
                          ·intro hCont
                           refine two_ (i := 1) (j := 4) (Ni := some 58) (Nj := some 61) spec_l03Print.y11 spec_l03Print.y12 rfl rfl rfl rfl (two_of HT_.out qa16) qa60 qa60 (fun K hK => ?_) (fun K hK => ?_)
                           ·skip
                            refine Kd.R_lit_step Kd.string _ 9 ?hg (N := 58) ?hd (xs := ([(⟨#[32, 40, 32]⟩ : ByteArray), (⟨#[32]⟩ : ByteArray)] : List ByteArray)) (inner := [.string (⟨#[32, 40, 32]⟩ : ByteArray), .string (⟨#[32]⟩ : ByteArray)]) (ok := fun _ => True) (okp := fun _ => True) ?hr ?hp (fun _ hk => hk) trivial (Below.refl _ _) (Nat.le_refl _) qa76 ?_; (case hd => rfl); (case hg => rfl); (case hr => exact qa18); (case hp => exact qa51); intro v115 w34 ho35 hb hg_ hnew_; clear hg_ hnew_; (first | rw [← Ny114.out] at ho35 | (simp only [Int.reduceToNat] at ho35; rw [← Ny114.out] at ho35)); have n0_ := qO (Kd.R_elder' qa19 (Kd.R_base ho35) hb); have n1_ := qO (Kd.R_lower (Kd.R_new' ho35 (Kd.R_lt qa19)) (below_size qa27)); have n2_ := qO (blk_below (g := gb101) (o := .cells #[.slice (some ad106) l0_0.length c0_0] 30 (0, 0)) qa4 hb); have n3_ := qO (blk_below (g := gb113) (o := .cells #[.string ((rd_T47 ((rd_T41 l0_0 x4_1).f1) x6_2).f0), .slice (some ad119) ((rd_T47 ((rd_T41 l0_0 x4_1).f1) x6_2).f1).length c112_1, .string ((rd_T47 ((rd_T41 l0_0 x4_1).f1) x6_2).f2), .bool ((rd_T47 ((rd_T41 l0_0 x4_1).f1) x6_2).f3), .bool ((rd_T47 ((rd_T41 l0_0 x4_1).f1) x6_2).f4)] 47 (0, 0)) qa59 hb); have n4_ := qO (below_step qa27 hb); clear HO_3; clear BK101; clear BK113; clear HB; have HO_3 := n0_; have HO116 := n1_; have BK101 := n2_; have BK113 := n3_; have HB := n4_; clear n0_ n1_ n2_ n3_ n4_; clear hb ho35; obtain ⟨Ao36, co36, eo36⟩ := Kd.R_slice HO116.out; subst eo36; obtain ⟨ado36, fo36, _⟩ := Kd.at_string (Kd.R_reads' HO116.out).2.2 0 qa60 (by rw [Ny114.out]; simp)
                            cases fo36
                            refine hK.out _ _ ⟨(blk_cell BK113.out 0).trans rfl, (blk_cell BK113.out 1).trans rfl, (blk_cell BK113.out 2).trans rfl, (blk_cell BK113.out 3).trans rfl, (blk_cell BK113.out 4).trans rfl, ((HB.out.cell (qL w _ hw119_0)).trans hw119_0), ((HB.out.cell (qL w _ hw119_1)).trans hw119_1)⟩ (fun hHeld => ?_); clear hK K; refine norm_ (a' := ?_) ?_ ?_; rotate_left
                            ·exact qa13
                            refine one_ (i := 4) (N := some 61) spec_l03Print.y10 rfl rfl (one_of HT_.out qa16) qa60 (fun K hK => ?_); refine goes_ Tryd.func25 qa16 rfl #[.bool (decide (x8_3 > 0))] (by rfl) rfl rfl qa0 ?_; (with_reducible refine (spec_l01Bit.calls (decide (x8_3 > 0)) t117 _ A21.out).mono ?_); rintro e w' ⟨rfl, ⟨nd, rfl⟩⟩; refine ⟨_, rfl, ?_⟩; refine hK.out _ _ ⟨(blk_cell BK113.out 0).trans rfl, (blk_cell BK113.out 1).trans rfl, (blk_cell BK113.out 2).trans rfl, (blk_cell BK113.out 3).trans rfl, (blk_cell BK113.out 4).trans rfl, ((HB.out.cell (qL w _ hw119_0)).trans hw119_0), ((HB.out.cell (qL w _ hw119_1)).trans hw119_1)⟩ (fun hHeld => ?_); clear hK K; refine norm_ (a' := ?_) ?_ ?_; rotate_left
                            ·exact qa13
                            exact norm_ (by simp only [putAll, Act.put, qzA, qzB, qzC]) (hCont (.slice (some ado36) y114.length co36, ado36) _ ⟨hHeld, (by (with_reducible repeat (first | apply Kd.R_alloc | apply Kd.R_drewN | apply Kd.R_drew)); exact Kd.R_mono HO116.out (fun _ hk => hk.2)), (by (with_reducible repeat (first | apply Kd.R_alloc | apply Kd.R_drewN | apply Kd.R_drew)); exact Kd.R_mono HO_3.out (fun _ hk => hk.2)), ⟨_, rfl⟩, (by (with_reducible repeat (first | refine qkN ?_ _ | refine qkD ?_ | refine qkA ?_ _)); exact BK101.out), (by (with_reducible repeat (first | refine qkN ?_ _ | refine qkD ?_ | refine qkA ?_ _)); exact BK113.out), (by repeat (first | (with_reducible first | exact HB.out | apply qbA | apply qbN | apply qbD | refine qbS ?_ GE101.out | refine qbS ?_ GE113.out) | exact HB.out))⟩)
                           ·skip
                            refine goes_ Tryd.func25 qa16 rfl #[.bool (decide (x8_3 > 0))] (by rfl) rfl rfl qa0 ?_; (with_reducible refine (spec_l01Bit.calls (decide (x8_3 > 0)) t117 _ A21.out).mono ?_); rintro e w' ⟨rfl, ⟨nd, rfl⟩⟩; refine ⟨_, rfl, ?_⟩; refine hK.out _ _ ⟨(blk_cell BK113.out 0).trans rfl, (blk_cell BK113.out 1).trans rfl, (blk_cell BK113.out 2).trans rfl, (blk_cell BK113.out 3).trans rfl, (blk_cell BK113.out 4).trans rfl, ((HB.out.cell (qL w _ hw119_0)).trans hw119_0), ((HB.out.cell (qL w _ hw119_1)).trans hw119_1)⟩ (fun hHeld => ?_); clear hK K; refine norm_ (a' := ?_) ?_ ?_; rotate_left
                            ·exact qa13
                            refine one_ (i := 1) (N := some 58) spec_l03Print.y10 rfl rfl (one_of HT_.out qa16) qa60 (fun K hK => ?_); refine Kd.R_lit_step Kd.string _ 9 ?hg (N := 58) ?hd (xs := ([(⟨#[32, 40, 32]⟩ : ByteArray), (⟨#[32]⟩ : ByteArray)] : List ByteArray)) (inner := [.string (⟨#[32, 40, 32]⟩ : ByteArray), .string (⟨#[32]⟩ : ByteArray)]) (ok := fun _ => True) (okp := fun _ => True) ?hr ?hp (fun _ hk => hk) trivial (Below.refl _ _) (Nat.le_refl _) qa76 ?_; (case hd => rfl); (case hg => rfl); (case hr => exact qa18); (case hp => exact qa51); intro v115 w34 ho35 hb hg_ hnew_; clear hg_ hnew_; (first | rw [← Ny114.out] at ho35 | (simp only [Int.reduceToNat] at ho35; rw [← Ny114.out] at ho35)); have n0_ := qO (Kd.R_elder' qa19 (Kd.R_base ho35) hb); have n1_ := qO (Kd.R_lower (Kd.R_new' ho35 (Kd.R_lt qa19)) (below_size qa27)); have n2_ := qO (blk_below (g := gb101) (o := .cells #[.slice (some ad106) l0_0.length c0_0] 30 (0, 0)) qa4 hb); have n3_ := qO (blk_below (g := gb113) (o := .cells #[.string ((rd_T47 ((rd_T41 l0_0 x4_1).f1) x6_2).f0), .slice (some ad119) ((rd_T47 ((rd_T41 l0_0 x4_1).f1) x6_2).f1).length c112_1, .string ((rd_T47 ((rd_T41 l0_0 x4_1).f1) x6_2).f2), .bool ((rd_T47 ((rd_T41 l0_0 x4_1).f1) x6_2).f3), .bool ((rd_T47 ((rd_T41 l0_0 x4_1).f1) x6_2).f4)] 47 (0, 0)) qa59 hb); have n4_ := qO (below_step qa27 hb); clear HO_3; clear BK101; clear BK113; clear HB; have HO_3 := n0_; have HO116 := n1_; have BK101 := n2_; have BK113 := n3_; have HB := n4_; clear n0_ n1_ n2_ n3_ n4_; clear hb ho35; obtain ⟨Ao36, co36, eo36⟩ := Kd.R_slice HO116.out; subst eo36; obtain ⟨ado36, fo36, _⟩ := Kd.at_string (Kd.R_reads' HO116.out).2.2 0 qa60 (by rw [Ny114.out]; simp)
                            cases fo36
                            refine hK.out _ _ ⟨(blk_cell BK113.out 0).trans rfl, (blk_cell BK113.out 1).trans rfl, (blk_cell BK113.out 2).trans rfl, (blk_cell BK113.out 3).trans rfl, (blk_cell BK113.out 4).trans rfl, ((HB.out.cell (qL w _ hw119_0)).trans hw119_0), ((HB.out.cell (qL w _ hw119_1)).trans hw119_1)⟩ (fun hHeld => ?_); clear hK K; refine norm_ (a' := ?_) ?_ ?_; rotate_left
                            ·exact qa13
                            exact norm_ (by simp only [putAll, Act.put, qzA, qzB, qzC]) (hCont (.slice (some ado36) y114.length co36, ado36) _ ⟨hHeld, (by (with_reducible repeat (first | apply Kd.R_alloc | apply Kd.R_drewN | apply Kd.R_drew)); exact Kd.R_mono HO116.out (fun _ hk => hk.2)), (by (with_reducible repeat (first | apply Kd.R_alloc | apply Kd.R_drewN | apply Kd.R_drew)); exact Kd.R_mono HO_3.out (fun _ hk => hk.2)), ⟨_, rfl⟩, (by (with_reducible repeat (first | refine qkN ?_ _ | refine qkD ?_ | refine qkA ?_ _)); exact BK101.out), (by (with_reducible repeat (first | refine qkN ?_ _ | refine qkD ?_ | refine qkA ?_ _)); exact BK113.out), (by repeat (first | (with_reducible first | exact HB.out | apply qbA | apply qbN | apply qbD | refine qbS ?_ GE101.out | refine qbS ?_ GE113.out) | exact HB.out))⟩)
                          rintro ⟨v115, adz_v115⟩ w37 ⟨hS_, h0_, h1_, h2_, h3_, h4_, h5_⟩; have n0_ : Aside0 (Kd.R Kd.string 9 w37 w.heap.size (fun k_ => some k_ ≠ (u3 : Value).ownBlock) v115 y114) := ⟨h0_⟩; have n1_ : Aside0 (Kd.R Kd.string 9 w37 w.heap.size (fun k_ => some k_ ≠ (v115 : Value).ownBlock) u3 x3_1) := ⟨h1_⟩; have n2_ : Aside0 (∃ c_, (v115 : Value) = .slice (some adz_v115) y114.length c_) := ⟨h2_⟩; have n3_ : Aside0 (w37.heap[gb101]? = some (.cells #[.slice (some ad106) l0_0.length c0_0] 30 (0, 0))) := ⟨h3_⟩; have n4_ : Aside0 (w37.heap[gb113]? = some (.cells #[.string ((rd_T47 ((rd_T41 l0_0 x4_1).f1) x6_2).f0), .slice (some ad119) ((rd_T47 ((rd_T41 l0_0 x4_1).f1) x6_2).f1).length c112_1, .string ((rd_T47 ((rd_T41 l0_0 x4_1).f1) x6_2).f2), .bool ((rd_T47 ((rd_T41 l0_0 x4_1).f1) x6_2).f3), .bool ((rd_T47 ((rd_T41 l0_0 x4_1).f1) x6_2).f4)] 47 (0, 0))) := ⟨h4_⟩; have n5_ : Aside0 (Below w.heap.size w w37) := ⟨h5_⟩; clear HO_3; clear BK101; clear BK113; clear HB; clear h0_ h1_ h2_ h3_ h4_ h5_; have HO116 := n0_; have HO_3 := n1_; have HA_HO116 := n2_; have BK101 := n3_; have BK113 := n4_; have HB := n5_; clear n0_ n1_ n2_ n3_ n4_ n5_; have hHeld : w37.cell? ⟨gb113, 0, none⟩ = some (.string ((rd_T47 ((rd_T41 l0_0 x4_1).f1) x6_2).f0)) ∧ w37.cell? ⟨gb113, 1, none⟩ = some (.slice (some ad119) ((rd_T47 ((rd_T41 l0_0 x4_1).f1) x6_2).f1).length c112_1) ∧ w37.cell? ⟨gb113, 2, none⟩ = some (.string ((rd_T47 ((rd_T41 l0_0 x4_1).f1) x6_2).f2)) ∧ w37.cell? ⟨gb113, 3, none⟩ = some (.bool ((rd_T47 ((rd_T41 l0_0 x4_1).f1) x6_2).f3)) ∧ w37.cell? ⟨gb113, 4, none⟩ = some (.bool ((rd_T47 ((rd_T41 l0_0 x4_1).f1) x6_2).f4)) ∧ w37.cell? (ad119.add ((x8_3).toNat * 2)) = some (.string ((rd_T60 ((rd_T47 ((rd_T41 l0_0 x4_1).f1) x6_2).f1) x8_3).f0)) ∧ w37.cell? ⟨(ad119.add ((x8_3).toNat * 2)).block, (ad119.add ((x8_3).toNat * 2)).off + 1, none⟩ = some (.bool true) := hS_; obtain ⟨co38, eo38⟩ := HA_HO116.out; clear HA_HO116; subst eo38; refine norm_ (a' := ?_) ?_ ?_; rotate_left
                          ·simp only [putAll, Act.put, qzA, qzB, qzC]
                           rfl
                          refine pure_ (i := 5) (N := some 62) (v := ?_) (a' := ?_) spec_l03Print.y13 rfl rfl (any_of HT_.out qa16) (fun _ _ _ h => h) (Or.inl ⟨by rfl, ?_⟩) ?_ ?_; rotate_left; exact qa20; rotate_left; exact qa7; refine one_ (i := 6) (N := some 63) spec_l03Print.y14 rfl rfl (one_of HT_.out qa16) qa60 (fun K hK => ?_); (have p118 : 0 ≤ (t117 : Int) := qT qa6; have q118 : t117 < (y114.length : Int) := qT qa6; obtain ⟨ad118, e118, hx118_0⟩ := Kd.at_string (Kd.R_reads' HO116.out).2.2 t117 p118 q118; obtain rfl : adz_v115 = ad118 := (by injection e118)); refine value_ (w1 := ?_) (v := ?_) (by rfl) rfl ?_ ?_; rotate_left 2
                          ·go_simp
                           constructor
                           ·rfl
                           ·rfl
                          clear hx118_0; refine hK.out _ _ ⟨(blk_cell BK113.out 0).trans rfl, (blk_cell BK113.out 1).trans rfl, (blk_cell BK113.out 2).trans rfl, (blk_cell BK113.out 3).trans rfl, (blk_cell BK113.out 4).trans rfl, ((HB.out.cell (qL w _ hw119_0)).trans hw119_0), ((HB.out.cell (qL w _ hw119_1)).trans hw119_1)⟩ (fun hHeld => ?_); clear hK K; refine norm_ (a' := ?_) ?_ ?_; rotate_left
                          ·exact qa13
                          refine pure_ (i := 13) (N := some 70) (v := ?_) (a' := ?_) spec_l03Print.y15 rfl rfl (any_of HT_.out qa16) (fun _ _ _ h => h) (Or.inl ⟨by rfl, ?_⟩) ?_ ?_; rotate_left; exact qa20; rotate_left; exact qa7; refine pure_ (i := 14) (N := some 71) (v := ?_) (a' := ?_) spec_l03Print.y16 rfl rfl (any_of HT_.out qa16) (fun _ _ _ h => h) (Or.inl ⟨by rfl, ?_⟩) ?_ ?_; rotate_left; exact qa20; rotate_left; exact qa7; refine pure_ (i := 15) (N := some 72) (v := ?_) (a' := ?_) spec_l03Print.y17 rfl rfl (any_of HT_.out qa16) (fun _ _ _ h => h) (Or.inl ⟨by rfl, ?_⟩) ?_ ?_; rotate_left; exact qa20; rotate_left; exact qa7; refine pure_ (i := 16) (N := some 5) (v := ?_) (a' := ?_) spec_l03Print.y18 rfl rfl (any_of HT_.out qa16) (fun _ _ _ h => h) (Or.inl ⟨by rfl, ?_⟩) ?_ ?_; rotate_left; exact qa20; rotate_left; exact qa7; refine done_ (done_of HT_.out qa16) ?_; have hcz39_0 : w37.cell? ⟨gb113, 0, none⟩ = some (.string ((rd_T47 ((rd_T41 l0_0 x4_1).f1) x6_2).f0)) := (blk_cell BK113.out 0).trans rfl; have hcz39_1 : w37.cell? ⟨gb113, 1, none⟩ = some (.slice (some ad119) ((rd_T47 ((rd_T41 l0_0 x4_1).f1) x6_2).f1).length c112_1) := (blk_cell BK113.out 1).trans rfl; have hcz39_2 : w37.cell? ⟨gb113, 2, none⟩ = some (.string ((rd_T47 ((rd_T41 l0_0 x4_1).f1) x6_2).f2)) := (blk_cell BK113.out 2).trans rfl; have hcz39_3 : w37.cell? ⟨gb113, 3, none⟩ = some (.bool ((rd_T47 ((rd_T41 l0_0 x4_1).f1) x6_2).f3)) := (blk_cell BK113.out 3).trans rfl; have hcz39_4 : w37.cell? ⟨gb113, 4, none⟩ = some (.bool ((rd_T47 ((rd_T41 l0_0 x4_1).f1) x6_2).f4)) := (blk_cell BK113.out 4).trans rfl; have hfz39_0 := blk_frozen BK113.out 0; have hfz39_1 := blk_frozen BK113.out 1; have hfz39_2 := blk_frozen BK113.out 2; have hfz39_3 := blk_frozen BK113.out 3; have hfz39_4 := blk_frozen BK113.out 4; have p120 : 0 ≤ (x8_3 : Int) := qT qa6; have q120 : x8_3 < (((rd_T47 ((rd_T41 l0_0 x4_1).f1) x6_2).f1).length : Int) := qT qa6; obtain ⟨ad120, e120, hx120_0, hx120_1⟩ := at_T60 HR112_1.out x8_3 p120 q120; (try rw [← Nbq28.out] at hx120_1); (try rw [← Nbq28.out] at hw120_1); obtain rfl : ad119 = ad120 := (by injection e120); replace hx120_0 := (HB.out.cell (qL w _ hx120_0)).trans hx120_0; replace hx120_1 := (HB.out.cell (qL w _ hx120_1)).trans hx120_1; replace p120 := eq_true p120; replace q120 := eq_true q120
                          try go_wp2
                          go_roundg k3
                          case measure => have := HK1.out; have := HK2.out; have := HK3.out; omega
                          case rel => exact ⟨((x5_3 ++ (((rdOf ByteArray.empty y114 t117) ++ ((rd_T60 ((rd_T47 ((rd_T41 l0_0 x4_1).f1) x6_2).f1) x8_3).f0)) ++ (⟨#[32, 58, 32, 73, 110, 116]⟩ : ByteArray))) ++ (⟨#[32, 33]⟩ : ByteArray)), (wrap64 (x8_3 + 1)), qa10, qa10, H', ⟨qa123⟩, ⟨qa98⟩, ⟨qa4⟩, ⟨qa59⟩, ⟨qa27⟩⟩
                         ·rw [if_neg c30] at H
                          exact absurd H qa76
                        ·replace c29 := Bool.eq_false_iff.mpr c29
                         subst c29; have H1 : (spec_l03Print.l2 k3 x3_1 x4_1 (x5_3 ++ (((rdOf ByteArray.empty y114 t117) ++ ((rd_T60 ((rd_T47 ((rd_T41 l0_0 x4_1).f1) x6_2).f1) x8_3).f0)) ++ (⟨#[32, 58, 32, 73, 110, 116]⟩ : ByteArray))) x6_2 (wrap64 (x8_3 + 1)) l0_0 ((rd_T47 ((rd_T41 l0_0 x4_1).f1) x6_2).f0) ((rd_T47 ((rd_T41 l0_0 x4_1).f1) x6_2).f1) ((rd_T47 ((rd_T41 l0_0 x4_1).f1) x6_2).f2) ((rd_T47 ((rd_T41 l0_0 x4_1).f1) x6_2).f3) ((rd_T47 ((rd_T41 l0_0 x4_1).f1) x6_2).f4)) = some r := by rw [if_neg (show ¬ (false = true) by decide)] at H; exact H
                         clear H; have H := H1; clear H1; have H' := qO H; clear H; have hnb40 := NB113_101.out; have hnc40 := NB101_113.out; have hcz41_0 : wr.cell? ⟨gb113, 0, none⟩ = some (.string ((rd_T47 ((rd_T41 l0_0 x4_1).f1) x6_2).f0)) := (blk_cell BK113.out 0).trans rfl; have hcz41_1 : wr.cell? ⟨gb113, 1, none⟩ = some (.slice A112_1 ((rd_T47 ((rd_T41 l0_0 x4_1).f1) x6_2).f1).length c112_1) := (blk_cell BK113.out 1).trans rfl; have hcz41_2 : wr.cell? ⟨gb113, 2, none⟩ = some (.string ((rd_T47 ((rd_T41 l0_0 x4_1).f1) x6_2).f2)) := (blk_cell BK113.out 2).trans rfl; have hcz41_3 : wr.cell? ⟨gb113, 3, none⟩ = some (.bool ((rd_T47 ((rd_T41 l0_0 x4_1).f1) x6_2).f3)) := (blk_cell BK113.out 3).trans rfl; have hcz41_4 : wr.cell? ⟨gb113, 4, none⟩ = some (.bool ((rd_T47 ((rd_T41 l0_0 x4_1).f1) x6_2).f4)) := (blk_cell BK113.out 4).trans rfl; have hfz41_0 := blk_frozen BK113.out 0; have hfz41_1 := blk_frozen BK113.out 1; have hfz41_2 := blk_frozen BK113.out 2; have hfz41_3 := blk_frozen BK113.out 3; have hfz41_4 := blk_frozen BK113.out 4
                         try go_wp2
                         have pi118 : (0 ≤ (t117 : Int)) = True := eq_true (qT qa6); have qi118 : (t117 < (y114.length : Int)) = True := eq_true (qT qa6); have n0_ := qO (Kd.R_drew HO_3.out); have n1_ := qO (qkD BK101.out); have n2_ := qO (qkD BK113.out); have n3_ := qO (qbD HB.out); clear HO_3; clear BK101; clear BK113; clear HB; have HO_3 := n0_; have BK101 := n1_; have BK113 := n2_; have HB := n3_; clear n0_ n1_ n2_ n3_; have p119 : 0 ≤ (x8_3 : Int) := qT qa6; have q119 : x8_3 < (((rd_T47 ((rd_T41 l0_0 x4_1).f1) x6_2).f1).length : Int) := qT qa6; obtain ⟨ad119, e119, hx119_0, hx119_1⟩ := at_T60 HR112_1.out x8_3 p119 q119; have hw119_1 := hx119_1; have hw119_0 := hx119_0; (try rw [← Nbq28.out] at hx119_1); (try rw [← Nbq28.out] at hw119_1)
                         cases e119
                         replace hx119_0 := (HB.out.cell (qL w _ hx119_0)).trans hx119_0; replace hx119_1 := (HB.out.cell (qL w _ hx119_1)).trans hx119_1; replace p119 := eq_true p119; replace q119 := eq_true q119; refine start_ (n := 17) (S := fun w' => w'.cell? ⟨gb113, 0, none⟩ = some (.string ((rd_T47 ((rd_T41 l0_0 x4_1).f1) x6_2).f0)) ∧ w'.cell? ⟨gb113, 1, none⟩ = some (.slice (some ad119) ((rd_T47 ((rd_T41 l0_0 x4_1).f1) x6_2).f1).length c112_1) ∧ w'.cell? ⟨gb113, 2, none⟩ = some (.string ((rd_T47 ((rd_T41 l0_0 x4_1).f1) x6_2).f2)) ∧ w'.cell? ⟨gb113, 3, none⟩ = some (.bool ((rd_T47 ((rd_T41 l0_0 x4_1).f1) x6_2).f3)) ∧ w'.cell? ⟨gb113, 4, none⟩ = some (.bool ((rd_T47 ((rd_T41 l0_0 x4_1).f1) x6_2).f4)) ∧ w'.cell? (ad119.add ((x8_3).toNat * 2)) = some (.string ((rd_T60 ((rd_T47 ((rd_T41 l0_0 x4_1).f1) x6_2).f1) x8_3).f0)) ∧ w'.cell? ⟨(ad119.add ((x8_3).toNat * 2)).block, (ad119.add ((x8_3).toNat * 2)).off + 1, none⟩ = some (.bool false)) (ds := []) spec_l03Print.y0 qa16 rfl rfl ⟨(blk_cell BK113.out 0).trans rfl, (blk_cell BK113.out 1).trans rfl, (blk_cell BK113.out 2).trans rfl, (blk_cell BK113.out 3).trans rfl, (blk_cell BK113.out 4).trans rfl, ((HB.out.cell (qL w _ hw119_0)).trans hw119_0), ((HB.out.cell (qL w _ hw119_1)).trans hw119_1)⟩ (fun hHeld => ?_); refine with_tabW spec_l03Print.tab14 spec_l03Print.bits14 (fun HT_ HW_ => ?_); generalize wr.drew = w42 at HO_3 BK101 BK113 HB hx119_0 hx119_1 hHeld ⊢; refine pure_ (i := 0) (N := some 57) (v := ?_) (a' := ?_) spec_l03Print.y1 rfl rfl (any_of HT_.out qa16) (fun _ _ _ h => h) (Or.inl ⟨by rfl, ?_⟩) ?_ ?_; rotate_left; exact qa20; rotate_left; exact qa7; refine pure_ (i := 2) (N := some 59) (v := ?_) (a' := ?_) spec_l03Print.y2 rfl rfl (any_of HT_.out qa16) (fun _ _ _ h => h) (Or.inl ⟨by rfl, ?_⟩) ?_ ?_; rotate_left; exact qa20; rotate_left; exact qa7; refine pure_ (i := 3) (N := some 60) (v := ?_) (a' := ?_) spec_l03Print.y3 rfl rfl (any_of HT_.out qa16) (fun _ _ _ h => h) (Or.inl ⟨by rfl, ?_⟩) ?_ ?_; rotate_left; exact qa20; rotate_left; exact qa7; refine pure_ (i := 7) (N := some 64) (v := ?_) (a' := ?_) spec_l03Print.y4 rfl rfl (any_of HT_.out qa16) (fun _ _ _ h => h) (Or.inl ⟨by rfl, ?_⟩) ?_ ?_; rotate_left; exact qa20; rotate_left; exact qa7; refine pure_ (i := 9) (N := some 66) (v := ?_) (a' := ?_) spec_l03Print.y5 rfl rfl (any_of HT_.out qa16) (fun _ _ _ h => h) (Or.inl ⟨by rfl, ?_⟩) ?_ ?_; rotate_left; exact qa20; rotate_left; exact qa7; refine take_ (i := 8) (N := some 65) (v := ?_) (a' := ?_) spec_l03Print.y6 rfl rfl (take_ofW HT_.out HW_.out qa16) (fun _ _ _ h => h) (Or.inl ⟨by rfl, ?_⟩) hHeld ?_ ?_; rotate_left; exact qa103; rotate_left; exact qa7; refine pure_ (i := 10) (N := some 67) (v := ?_) (a' := ?_) spec_l03Print.y7 rfl rfl (any_of HT_.out qa16) (fun _ _ _ h => h) (Or.inl ⟨by rfl, ?_⟩) ?_ ?_; rotate_left; exact qa20; rotate_left; exact qa7; refine pure_ (i := 11) (N := some 68) (v := ?_) (a' := ?_) spec_l03Print.y8 rfl rfl (any_of HT_.out qa16) (fun _ _ _ h => h) (Or.inl ⟨by rfl, ?_⟩) ?_ ?_; rotate_left; exact qa20; rotate_left; exact qa7; refine take_ (i := 12) (N := some 69) (v := ?_) (a' := ?_) spec_l03Print.y9 rfl rfl (take_ofW HT_.out HW_.out qa16) (fun _ _ _ h => h) (Or.inl ⟨by rfl, ?_⟩) hHeld ?_ ?_; rotate_left; exact qa103; rotate_left; exact qa7; refine join_ (σ := Value × Addr) 6 spec_l03Print.y10 (fun s_ => [(58, s_.1), (61, .int .i64 t117)]) (fun s_ w' => (w'.cell? ⟨gb113, 0, none⟩ = some (.string ((rd_T47 ((rd_T41 l0_0 x4_1).f1) x6_2).f0)) ∧ w'.cell? ⟨gb113, 1, none⟩ = some (.slice (some ad119) ((rd_T47 ((rd_T41 l0_0 x4_1).f1) x6_2).f1).length c112_1) ∧ w'.cell? ⟨gb113, 2, none⟩ = some (.string ((rd_T47 ((rd_T41 l0_0 x4_1).f1) x6_2).f2)) ∧ w'.cell? ⟨gb113, 3, none⟩ = some (.bool ((rd_T47 ((rd_T41 l0_0 x4_1).f1) x6_2).f3)) ∧ w'.cell? ⟨gb113, 4, none⟩ = some (.bool ((rd_T47 ((rd_T41 l0_0 x4_1).f1) x6_2).f4)) ∧ w'.cell? (ad119.add ((x8_3).toNat * 2)) = some (.string ((rd_T60 ((rd_T47 ((rd_T41 l0_0 x4_1).f1) x6_2).f1) x8_3).f0)) ∧ w'.cell? ⟨(ad119.add ((x8_3).toNat * 2)).block, (ad119.add ((x8_3).toNat * 2)).off + 1, none⟩ = some (.bool false)) ∧ (Kd.R Kd.string 9 w' w.heap.size (fun k_ => some k_ ≠ (u3 : Value).ownBlock) s_.1 y114) ∧ (Kd.R Kd.string 9 w' w.heap.size (fun k_ => some k_ ≠ (s_.1 : Value).ownBlock) u3 x3_1) ∧ (∃ c_, (s_.1 : Value) = .slice (some s_.2) y114.length c_) ∧ (w'.heap[gb101]? = some (.cells #[.slice (some ad106) l0_0.length c0_0] 30 (0, 0))) ∧ (w'.heap[gb113]? = some (.cells #[.string ((rd_T47 ((rd_T41 l0_0 x4_1).f1) x6_2).f0), .slice (some ad119) ((rd_T47 ((rd_T41 l0_0 x4_1).f1) x6_2).f1).length c112_1, .string ((rd_T47 ((rd_T41 l0_0 x4_1).f1) x6_2).f2), .bool ((rd_T47 ((rd_T41 l0_0 x4_1).f1) x6_2).f3), .bool ((rd_T47 ((rd_T41 l0_0 x4_1).f1) x6_2).f4)] 47 (0, 0))) ∧ (Below w.heap.size w w')) ?_ ?_; rotate_left
                         ·intro hCont
                          refine two_ (i := 1) (j := 4) (Ni := some 58) (Nj := some 61) spec_l03Print.y11 spec_l03Print.y12 rfl rfl rfl rfl (two_of HT_.out qa16) qa60 qa60 (fun K hK => ?_) (fun K hK => ?_)
                          ·skip
                           refine Kd.R_lit_step Kd.string _ 9 ?hg (N := 58) ?hd (xs := ([(⟨#[32, 40, 32]⟩ : ByteArray), (⟨#[32]⟩ : ByteArray)] : List ByteArray)) (inner := [.string (⟨#[32, 40, 32]⟩ : ByteArray), .string (⟨#[32]⟩ : ByteArray)]) (ok := fun _ => True) (okp := fun _ => True) ?hr ?hp (fun _ hk => hk) trivial (Below.refl _ _) (Nat.le_refl _) qa76 ?_; (case hd => rfl); (case hg => rfl); (case hr => exact qa18); (case hp => exact qa51); intro v115 w43 ho44 hb hg_ hnew_; clear hg_ hnew_; (first | rw [← Ny114.out] at ho44 | (simp only [Int.reduceToNat] at ho44; rw [← Ny114.out] at ho44)); have n0_ := qO (Kd.R_elder' qa19 (Kd.R_base ho44) hb); have n1_ := qO (Kd.R_lower (Kd.R_new' ho44 (Kd.R_lt qa19)) (below_size qa27)); have n2_ := qO (blk_below (g := gb101) (o := .cells #[.slice (some ad106) l0_0.length c0_0] 30 (0, 0)) qa4 hb); have n3_ := qO (blk_below (g := gb113) (o := .cells #[.string ((rd_T47 ((rd_T41 l0_0 x4_1).f1) x6_2).f0), .slice (some ad119) ((rd_T47 ((rd_T41 l0_0 x4_1).f1) x6_2).f1).length c112_1, .string ((rd_T47 ((rd_T41 l0_0 x4_1).f1) x6_2).f2), .bool ((rd_T47 ((rd_T41 l0_0 x4_1).f1) x6_2).f3), .bool ((rd_T47 ((rd_T41 l0_0 x4_1).f1) x6_2).f4)] 47 (0, 0)) qa59 hb); have n4_ := qO (below_step qa27 hb); clear HO_3; clear BK101; clear BK113; clear HB; have HO_3 := n0_; have HO116 := n1_; have BK101 := n2_; have BK113 := n3_; have HB := n4_; clear n0_ n1_ n2_ n3_ n4_; clear hb ho44; obtain ⟨Ao45, co45, eo45⟩ := Kd.R_slice HO116.out; subst eo45; obtain ⟨ado45, fo45, _⟩ := Kd.at_string (Kd.R_reads' HO116.out).2.2 0 qa60 (by rw [Ny114.out]; simp)
                           cases fo45
                           refine hK.out _ _ ⟨(blk_cell BK113.out 0).trans rfl, (blk_cell BK113.out 1).trans rfl, (blk_cell BK113.out 2).trans rfl, (blk_cell BK113.out 3).trans rfl, (blk_cell BK113.out 4).trans rfl, ((HB.out.cell (qL w _ hw119_0)).trans hw119_0), ((HB.out.cell (qL w _ hw119_1)).trans hw119_1)⟩ (fun hHeld => ?_); clear hK K; refine norm_ (a' := ?_) ?_ ?_; rotate_left
                           ·exact qa13
                           refine one_ (i := 4) (N := some 61) spec_l03Print.y10 rfl rfl (one_of HT_.out qa16) qa60 (fun K hK => ?_); refine goes_ Tryd.func25 qa16 rfl #[.bool (decide (x8_3 > 0))] (by rfl) rfl rfl qa0 ?_; (with_reducible refine (spec_l01Bit.calls (decide (x8_3 > 0)) t117 _ A21.out).mono ?_); rintro e w' ⟨rfl, ⟨nd, rfl⟩⟩; refine ⟨_, rfl, ?_⟩; refine hK.out _ _ ⟨(blk_cell BK113.out 0).trans rfl, (blk_cell BK113.out 1).trans rfl, (blk_cell BK113.out 2).trans rfl, (blk_cell BK113.out 3).trans rfl, (blk_cell BK113.out 4).trans rfl, ((HB.out.cell (qL w _ hw119_0)).trans hw119_0), ((HB.out.cell (qL w _ hw119_1)).trans hw119_1)⟩ (fun hHeld => ?_); clear hK K; refine norm_ (a' := ?_) ?_ ?_; rotate_left
                           ·exact qa13
                           exact norm_ (by simp only [putAll, Act.put, qzA, qzB, qzC]) (hCont (.slice (some ado45) y114.length co45, ado45) _ ⟨hHeld, (by (with_reducible repeat (first | apply Kd.R_alloc | apply Kd.R_drewN | apply Kd.R_drew)); exact Kd.R_mono HO116.out (fun _ hk => hk.2)), (by (with_reducible repeat (first | apply Kd.R_alloc | apply Kd.R_drewN | apply Kd.R_drew)); exact Kd.R_mono HO_3.out (fun _ hk => hk.2)), ⟨_, rfl⟩, (by (with_reducible repeat (first | refine qkN ?_ _ | refine qkD ?_ | refine qkA ?_ _)); exact BK101.out), (by (with_reducible repeat (first | refine qkN ?_ _ | refine qkD ?_ | refine qkA ?_ _)); exact BK113.out), (by repeat (first | (with_reducible first | exact HB.out | apply qbA | apply qbN | apply qbD | refine qbS ?_ GE101.out | refine qbS ?_ GE113.out) | exact HB.out))⟩)
                          ·skip
                           refine goes_ Tryd.func25 qa16 rfl #[.bool (decide (x8_3 > 0))] (by rfl) rfl rfl qa0 ?_; (with_reducible refine (spec_l01Bit.calls (decide (x8_3 > 0)) t117 _ A21.out).mono ?_); rintro e w' ⟨rfl, ⟨nd, rfl⟩⟩; refine ⟨_, rfl, ?_⟩; refine hK.out _ _ ⟨(blk_cell BK113.out 0).trans rfl, (blk_cell BK113.out 1).trans rfl, (blk_cell BK113.out 2).trans rfl, (blk_cell BK113.out 3).trans rfl, (blk_cell BK113.out 4).trans rfl, ((HB.out.cell (qL w _ hw119_0)).trans hw119_0), ((HB.out.cell (qL w _ hw119_1)).trans hw119_1)⟩ (fun hHeld => ?_); clear hK K; refine norm_ (a' := ?_) ?_ ?_; rotate_left
                           ·exact qa13
                           refine one_ (i := 1) (N := some 58) spec_l03Print.y10 rfl rfl (one_of HT_.out qa16) qa60 (fun K hK => ?_); refine Kd.R_lit_step Kd.string _ 9 ?hg (N := 58) ?hd (xs := ([(⟨#[32, 40, 32]⟩ : ByteArray), (⟨#[32]⟩ : ByteArray)] : List ByteArray)) (inner := [.string (⟨#[32, 40, 32]⟩ : ByteArray), .string (⟨#[32]⟩ : ByteArray)]) (ok := fun _ => True) (okp := fun _ => True) ?hr ?hp (fun _ hk => hk) trivial (Below.refl _ _) (Nat.le_refl _) qa76 ?_; (case hd => rfl); (case hg => rfl); (case hr => exact qa18); (case hp => exact qa51); intro v115 w43 ho44 hb hg_ hnew_; clear hg_ hnew_; (first | rw [← Ny114.out] at ho44 | (simp only [Int.reduceToNat] at ho44; rw [← Ny114.out] at ho44)); have n0_ := qO (Kd.R_elder' qa19 (Kd.R_base ho44) hb); have n1_ := qO (Kd.R_lower (Kd.R_new' ho44 (Kd.R_lt qa19)) (below_size qa27)); have n2_ := qO (blk_below (g := gb101) (o := .cells #[.slice (some ad106) l0_0.length c0_0] 30 (0, 0)) qa4 hb); have n3_ := qO (blk_below (g := gb113) (o := .cells #[.string ((rd_T47 ((rd_T41 l0_0 x4_1).f1) x6_2).f0), .slice (some ad119) ((rd_T47 ((rd_T41 l0_0 x4_1).f1) x6_2).f1).length c112_1, .string ((rd_T47 ((rd_T41 l0_0 x4_1).f1) x6_2).f2), .bool ((rd_T47 ((rd_T41 l0_0 x4_1).f1) x6_2).f3), .bool ((rd_T47 ((rd_T41 l0_0 x4_1).f1) x6_2).f4)] 47 (0, 0)) qa59 hb); have n4_ := qO (below_step qa27 hb); clear HO_3; clear BK101; clear BK113; clear HB; have HO_3 := n0_; have HO116 := n1_; have BK101 := n2_; have BK113 := n3_; have HB := n4_; clear n0_ n1_ n2_ n3_ n4_; clear hb ho44; obtain ⟨Ao45, co45, eo45⟩ := Kd.R_slice HO116.out; subst eo45; obtain ⟨ado45, fo45, _⟩ := Kd.at_string (Kd.R_reads' HO116.out).2.2 0 qa60 (by rw [Ny114.out]; simp)
                           cases fo45
                           refine hK.out _ _ ⟨(blk_cell BK113.out 0).trans rfl, (blk_cell BK113.out 1).trans rfl, (blk_cell BK113.out 2).trans rfl, (blk_cell BK113.out 3).trans rfl, (blk_cell BK113.out 4).trans rfl, ((HB.out.cell (qL w _ hw119_0)).trans hw119_0), ((HB.out.cell (qL w _ hw119_1)).trans hw119_1)⟩ (fun hHeld => ?_); clear hK K; refine norm_ (a' := ?_) ?_ ?_; rotate_left
                           ·exact qa13
                           exact norm_ (by simp only [putAll, Act.put, qzA, qzB, qzC]) (hCont (.slice (some ado45) y114.length co45, ado45) _ ⟨hHeld, (by (with_reducible repeat (first | apply Kd.R_alloc | apply Kd.R_drewN | apply Kd.R_drew)); exact Kd.R_mono HO116.out (fun _ hk => hk.2)), (by (with_reducible repeat (first | apply Kd.R_alloc | apply Kd.R_drewN | apply Kd.R_drew)); exact Kd.R_mono HO_3.out (fun _ hk => hk.2)), ⟨_, rfl⟩, (by (with_reducible repeat (first | refine qkN ?_ _ | refine qkD ?_ | refine qkA ?_ _)); exact BK101.out), (by (with_reducible repeat (first | refine qkN ?_ _ | refine qkD ?_ | refine qkA ?_ _)); exact BK113.out), (by repeat (first | (with_reducible first | exact HB.out | apply qbA | apply qbN | apply qbD | refine qbS ?_ GE101.out | refine qbS ?_ GE113.out) | exact HB.out))⟩)
                         rintro ⟨v115, adz_v115⟩ w46 ⟨hS_, h0_, h1_, h2_, h3_, h4_, h5_⟩; have n0_ : Aside0 (Kd.R Kd.string 9 w46 w.heap.size (fun k_ => some k_ ≠ (u3 : Value).ownBlock) v115 y114) := ⟨h0_⟩; have n1_ : Aside0 (Kd.R Kd.string 9 w46 w.heap.size (fun k_ => some k_ ≠ (v115 : Value).ownBlock) u3 x3_1) := ⟨h1_⟩; have n2_ : Aside0 (∃ c_, (v115 : Value) = .slice (some adz_v115) y114.length c_) := ⟨h2_⟩; have n3_ : Aside0 (w46.heap[gb101]? = some (.cells #[.slice (some ad106) l0_0.length c0_0] 30 (0, 0))) := ⟨h3_⟩; have n4_ : Aside0 (w46.heap[gb113]? = some (.cells #[.string ((rd_T47 ((rd_T41 l0_0 x4_1).f1) x6_2).f0), .slice (some ad119) ((rd_T47 ((rd_T41 l0_0 x4_1).f1) x6_2).f1).length c112_1, .string ((rd_T47 ((rd_T41 l0_0 x4_1).f1) x6_2).f2), .bool ((rd_T47 ((rd_T41 l0_0 x4_1).f1) x6_2).f3), .bool ((rd_T47 ((rd_T41 l0_0 x4_1).f1) x6_2).f4)] 47 (0, 0))) := ⟨h4_⟩; have n5_ : Aside0 (Below w.heap.size w w46) := ⟨h5_⟩; clear HO_3; clear BK101; clear BK113; clear HB; clear h0_ h1_ h2_ h3_ h4_ h5_; have HO116 := n0_; have HO_3 := n1_; have HA_HO116 := n2_; have BK101 := n3_; have BK113 := n4_; have HB := n5_; clear n0_ n1_ n2_ n3_ n4_ n5_; have hHeld : w46.cell? ⟨gb113, 0, none⟩ = some (.string ((rd_T47 ((rd_T41 l0_0 x4_1).f1) x6_2).f0)) ∧ w46.cell? ⟨gb113, 1, none⟩ = some (.slice (some ad119) ((rd_T47 ((rd_T41 l0_0 x4_1).f1) x6_2).f1).length c112_1) ∧ w46.cell? ⟨gb113, 2, none⟩ = some (.string ((rd_T47 ((rd_T41 l0_0 x4_1).f1) x6_2).f2)) ∧ w46.cell? ⟨gb113, 3, none⟩ = some (.bool ((rd_T47 ((rd_T41 l0_0 x4_1).f1) x6_2).f3)) ∧ w46.cell? ⟨gb113, 4, none⟩ = some (.bool ((rd_T47 ((rd_T41 l0_0 x4_1).f1) x6_2).f4)) ∧ w46.cell? (ad119.add ((x8_3).toNat * 2)) = some (.string ((rd_T60 ((rd_T47 ((rd_T41 l0_0 x4_1).f1) x6_2).f1) x8_3).f0)) ∧ w46.cell? ⟨(ad119.add ((x8_3).toNat * 2)).block, (ad119.add ((x8_3).toNat * 2)).off + 1, none⟩ = some (.bool false) := hS_; obtain ⟨co47, eo47⟩ := HA_HO116.out; clear HA_HO116; subst eo47; refine norm_ (a' := ?_) ?_ ?_; rotate_left
                         ·simp only [putAll, Act.put, qzA, qzB, qzC]
                          rfl
                         refine pure_ (i := 5) (N := some 62) (v := ?_) (a' := ?_) spec_l03Print.y13 rfl rfl (any_of HT_.out qa16) (fun _ _ _ h => h) (Or.inl ⟨by rfl, ?_⟩) ?_ ?_; rotate_left; exact qa20; rotate_left; exact qa7; refine one_ (i := 6) (N := some 63) spec_l03Print.y14 rfl rfl (one_of HT_.out qa16) qa60 (fun K hK => ?_); (have p118 : 0 ≤ (t117 : Int) := qT qa6; have q118 : t117 < (y114.length : Int) := qT qa6; obtain ⟨ad118, e118, hx118_0⟩ := Kd.at_string (Kd.R_reads' HO116.out).2.2 t117 p118 q118; obtain rfl : adz_v115 = ad118 := (by injection e118)); refine value_ (w1 := ?_) (v := ?_) (by rfl) rfl ?_ ?_; rotate_left 2
                         ·go_simp
                          constructor
                          ·rfl
                          ·rfl
                         clear hx118_0; refine hK.out _ _ ⟨(blk_cell BK113.out 0).trans rfl, (blk_cell BK113.out 1).trans rfl, (blk_cell BK113.out 2).trans rfl, (blk_cell BK113.out 3).trans rfl, (blk_cell BK113.out 4).trans rfl, ((HB.out.cell (qL w _ hw119_0)).trans hw119_0), ((HB.out.cell (qL w _ hw119_1)).trans hw119_1)⟩ (fun hHeld => ?_); clear hK K; refine norm_ (a' := ?_) ?_ ?_; rotate_left
                         ·exact qa13
                         refine pure_ (i := 13) (N := some 70) (v := ?_) (a' := ?_) spec_l03Print.y15 rfl rfl (any_of HT_.out qa16) (fun _ _ _ h => h) (Or.inl ⟨by rfl, ?_⟩) ?_ ?_; rotate_left; exact qa20; rotate_left; exact qa7; refine pure_ (i := 14) (N := some 71) (v := ?_) (a' := ?_) spec_l03Print.y16 rfl rfl (any_of HT_.out qa16) (fun _ _ _ h => h) (Or.inl ⟨by rfl, ?_⟩) ?_ ?_; rotate_left; exact qa20; rotate_left; exact qa7; refine pure_ (i := 15) (N := some 72) (v := ?_) (a' := ?_) spec_l03Print.y17 rfl rfl (any_of HT_.out qa16) (fun _ _ _ h => h) (Or.inl ⟨by rfl, ?_⟩) ?_ ?_; rotate_left; exact qa20; rotate_left; exact qa7; refine pure_ (i := 16) (N := some 5) (v := ?_) (a' := ?_) spec_l03Print.y18 rfl rfl (any_of HT_.out qa16) (fun _ _ _ h => h) (Or.inl ⟨by rfl, ?_⟩) ?_ ?_; rotate_left; exact qa20; rotate_left; exact qa7; refine done_ (done_of HT_.out qa16) ?_; have hcz48_0 : w46.cell? ⟨gb113, 0, none⟩ = some (.string ((rd_T47 ((rd_T41 l0_0 x4_1).f1) x6_2).f0)) := (blk_cell BK113.out 0).trans rfl; have hcz48_1 : w46.cell? ⟨gb113, 1, none⟩ = some (.slice (some ad119) ((rd_T47 ((rd_T41 l0_0 x4_1).f1) x6_2).f1).length c112_1) := (blk_cell BK113.out 1).trans rfl; have hcz48_2 : w46.cell? ⟨gb113, 2, none⟩ = some (.string ((rd_T47 ((rd_T41 l0_0 x4_1).f1) x6_2).f2)) := (blk_cell BK113.out 2).trans rfl; have hcz48_3 : w46.cell? ⟨gb113, 3, none⟩ = some (.bool ((rd_T47 ((rd_T41 l0_0 x4_1).f1) x6_2).f3)) := (blk_cell BK113.out 3).trans rfl; have hcz48_4 : w46.cell? ⟨gb113, 4, none⟩ = some (.bool ((rd_T47 ((rd_T41 l0_0 x4_1).f1) x6_2).f4)) := (blk_cell BK113.out 4).trans rfl; have hfz48_0 := blk_frozen BK113.out 0; have hfz48_1 := blk_frozen BK113.out 1; have hfz48_2 := blk_frozen BK113.out 2; have hfz48_3 := blk_frozen BK113.out 3; have hfz48_4 := blk_frozen BK113.out 4; have p120 : 0 ≤ (x8_3 : Int) := qT qa6; have q120 : x8_3 < (((rd_T47 ((rd_T41 l0_0 x4_1).f1) x6_2).f1).length : Int) := qT qa6; obtain ⟨ad120, e120, hx120_0, hx120_1⟩ := at_T60 HR112_1.out x8_3 p120 q120; (try rw [← Nbq28.out] at hx120_1); (try rw [← Nbq28.out] at hw120_1); obtain rfl : ad119 = ad120 := (by injection e120); replace hx120_0 := (HB.out.cell (qL w _ hx120_0)).trans hx120_0; replace hx120_1 := (HB.out.cell (qL w _ hx120_1)).trans hx120_1; replace p120 := eq_true p120; replace q120 := eq_true q120
                         try go_wp2
                         go_roundg k3
                         case measure => have := HK1.out; have := HK2.out; have := HK3.out; omega
                         case rel => exact ⟨(x5_3 ++ (((rdOf ByteArray.empty y114 t117) ++ ((rd_T60 ((rd_T47 ((rd_T41 l0_0 x4_1).f1) x6_2).f1) x8_3).f0)) ++ (⟨#[32, 58, 32, 73, 110, 116]⟩ : ByteArray))), (wrap64 (x8_3 + 1)), qa10, qa10, H', ⟨qa123⟩, ⟨qa98⟩, ⟨qa4⟩, ⟨qa59⟩, ⟨qa27⟩⟩
                       ·rw [if_neg c27] at H
                        exact absurd H qa76
                      ·rw [if_neg c26] at H
                       exact absurd H qa76
                     ·rw [if_neg c25] at H
                      exact absurd H qa76
                    ·rw [if_neg c24] at H
                     exact absurd H qa76
                   ·rw [if_neg c23] at H
                    exact absurd H qa76
                  ·rw [if_neg c22] at H
                   exact absurd H qa76
                 ·rw [if_neg c20] at H
                  have c20b0 : decide (x8_3 < (((rd_T47 ((rd_T41 l0_0 x4_1).f1) x6_2).f1).length : Int)) = false := decide_eq_false c20; clear c20
                  by_cases c49 : (((rd_T47 ((rd_T41 l0_0 x4_1).f1) x6_2).f1).length : Int) > 0
                  ·rw [if_pos c49] at H
                   have c49b0 : decide (0 < (((rd_T47 ((rd_T41 l0_0 x4_1).f1) x6_2).f1).length : Int)) = true := decide_eq_true c49; have c49b1 : decide (0 < ((rd_T47 ((rd_T41 l0_0 x4_1).f1) x6_2).f1).length) = true := decide_eq_true qa25; clear c49
                   by_cases c50 : x5_3.size + 2 ≤ 9223372036854775807
                   ·rw [if_pos c50] at H
                    have c50b0 := eq_true c50; have c50b1 : decide (x5_3.size + 2 ≤ 9223372036854775807) = true := decide_eq_true c50
                    try have c50b2 : (9223372036854775807 < x5_3.size + 2) = False := eq_false (Nat.not_lt.2 c50)
                    replace H := Option.bind_eq_some_iff.mp H; obtain ⟨t121, A510, H⟩ := H; replace H : (if 3 + t121.size ≤ 9223372036854775807 then (if (x5_3 ++ (⟨#[32, 41]⟩ : ByteArray)).size + ((⟨#[32, 58, 32]⟩ : ByteArray) ++ t121).size ≤ 9223372036854775807 then (spec_l03Print.l1 k3 x3_1 x4_1 ((x5_3 ++ (⟨#[32, 41]⟩ : ByteArray)) ++ ((⟨#[32, 58, 32]⟩ : ByteArray) ++ t121)) (wrap64 (x6_2 + 1)) l0_0) else (none)) else (none)) = some r := H; have A51 := qO A510; clear A510
                    by_cases c52 : 3 + t121.size ≤ 9223372036854775807
                    ·rw [if_pos c52] at H
                     have c52b0 := eq_true c52; have c52b1 : decide (3 + t121.size ≤ 9223372036854775807) = true := decide_eq_true c52
                     try have c52b2 : (9223372036854775807 < 3 + t121.size) = False := eq_false (Nat.not_lt.2 c52)
                     by_cases c53 : (x5_3 ++ (⟨#[32, 41]⟩ : ByteArray)).size + ((⟨#[32, 58, 32]⟩ : ByteArray) ++ t121).size ≤ 9223372036854775807
                     ·rw [if_pos c53] at H
                      have c53z : x5_3.size + 2 + (3 + t121.size) ≤ 9223372036854775807 := by (have h_ := c53; (repeat rw [ByteArray.size_append] at h_); exact h_)
                      have c53zt := eq_true c53z; have c53zf : (9223372036854775807 < x5_3.size + 2 + (3 + t121.size)) = False := eq_false (Nat.not_lt.2 c53z); have c53b0 := eq_true c53; have c53b1 : decide ((x5_3 ++ (⟨#[32, 41]⟩ : ByteArray)).size + ((⟨#[32, 58, 32]⟩ : ByteArray) ++ t121).size ≤ 9223372036854775807) = true := decide_eq_true c53
                      try have c53b2 : (9223372036854775807 < (x5_3 ++ (⟨#[32, 41]⟩ : ByteArray)).size + ((⟨#[32, 58, 32]⟩ : ByteArray) ++ t121).size) = False := eq_false (Nat.not_lt.2 c53)
                      have H' := qO H; clear H; have hnb54 := NB113_101.out; have hnc54 := NB101_113.out; have hcz55_0 : wr.cell? ⟨gb113, 0, none⟩ = some (.string ((rd_T47 ((rd_T41 l0_0 x4_1).f1) x6_2).f0)) := (blk_cell BK113.out 0).trans rfl; have hcz55_1 : wr.cell? ⟨gb113, 1, none⟩ = some (.slice A112_1 ((rd_T47 ((rd_T41 l0_0 x4_1).f1) x6_2).f1).length c112_1) := (blk_cell BK113.out 1).trans rfl; have hcz55_2 : wr.cell? ⟨gb113, 2, none⟩ = some (.string ((rd_T47 ((rd_T41 l0_0 x4_1).f1) x6_2).f2)) := (blk_cell BK113.out 2).trans rfl; have hcz55_3 : wr.cell? ⟨gb113, 3, none⟩ = some (.bool ((rd_T47 ((rd_T41 l0_0 x4_1).f1) x6_2).f3)) := (blk_cell BK113.out 3).trans rfl; have hcz55_4 : wr.cell? ⟨gb113, 4, none⟩ = some (.bool ((rd_T47 ((rd_T41 l0_0 x4_1).f1) x6_2).f4)) := (blk_cell BK113.out 4).trans rfl; have hfz55_0 := blk_frozen BK113.out 0; have hfz55_1 := blk_frozen BK113.out 1; have hfz55_2 := blk_frozen BK113.out 2; have hfz55_3 := blk_frozen BK113.out 3; have hfz55_4 := blk_frozen BK113.out 4
                      go_wp2_with (first | ((with_reducible refine gate_callee (f := 26) rfl ?_); refine goesL_ (some 89) rfl rfl Tryd.func26 qa16 rfl #[.agg #[.string ((rd_T47 ((rd_T41 l0_0 x4_1).f1) x6_2).f0), .slice A112_1 ((rd_T47 ((rd_T41 l0_0 x4_1).f1) x6_2).f1).length c112_1, .string ((rd_T47 ((rd_T41 l0_0 x4_1).f1) x6_2).f2), .bool ((rd_T47 ((rd_T41 l0_0 x4_1).f1) x6_2).f3), .bool ((rd_T47 ((rd_T41 l0_0 x4_1).f1) x6_2).f4)]] rfl qa0 ?_; (with_reducible refine (spec_l03Type.calls ((rd_T47 ((rd_T41 l0_0 x4_1).f1) x6_2).f0) _ _ ((rd_T47 ((rd_T41 l0_0 x4_1).f1) x6_2).f1) ((rd_T47 ((rd_T41 l0_0 x4_1).f1) x6_2).f2) ((rd_T47 ((rd_T41 l0_0 x4_1).f1) x6_2).f3) ((rd_T47 ((rd_T41 l0_0 x4_1).f1) x6_2).f4) t121 _ ?side1 ?side2 A51.out).mono ?_); (case side1 => exact qa113); (case side2 => exact HC112_1.out); rintro e w56 ⟨rfl, hb⟩; have hx_ := qHX HB hb qa1; refine ⟨_, rfl, ?_⟩; have n0_ := qO (Kd.R_below qa19 hb); have n1_ := qO (qB BK101.out hx_ hb); have n2_ := qO (blk_below (g := gb113) (o := .cells #[.string ((rd_T47 ((rd_T41 l0_0 x4_1).f1) x6_2).f0), .slice A112_1 ((rd_T47 ((rd_T41 l0_0 x4_1).f1) x6_2).f1).length c112_1, .string ((rd_T47 ((rd_T41 l0_0 x4_1).f1) x6_2).f2), .bool ((rd_T47 ((rd_T41 l0_0 x4_1).f1) x6_2).f3), .bool ((rd_T47 ((rd_T41 l0_0 x4_1).f1) x6_2).f4)] 47 (0, 0)) qa59 hb); have n3_ := qO (below_step (below_step HB.out hx_) hb); clear HO_3; clear BK101; clear BK113; clear HB; have HO_3 := n0_; have BK101 := n1_; have BK113 := n2_; have HB := n3_; clear n0_ n1_ n2_ n3_; clear hx_; (try clear hb); (try clear hb2); (try clear hk); (try clear hi)))
                      go_roundg k3
                      case measure => have := HK1.out; have := HK2.out; have := HK3.out; omega
                      case rel => exact ⟨((x5_3 ++ (⟨#[32, 41]⟩ : ByteArray)) ++ ((⟨#[32, 58, 32]⟩ : ByteArray) ++ t121)), (wrap64 (x6_2 + 1)), qa10, qa10, H', ⟨qa123⟩, ⟨qa19⟩, ⟨qa4⟩, ⟨qa27⟩⟩
                     ·rw [if_neg c53] at H
                      exact absurd H qa76
                    ·rw [if_neg c52] at H
                     exact absurd H qa76
                   ·rw [if_neg c50] at H
                    exact absurd H qa76
                  ·rw [if_neg c49] at H
                   have c49b0 : decide (0 < (((rd_T47 ((rd_T41 l0_0 x4_1).f1) x6_2).f1).length : Int)) = false := decide_eq_false c49; have c49b1 : decide (0 < ((rd_T47 ((rd_T41 l0_0 x4_1).f1) x6_2).f1).length) = false := decide_eq_false qa25; clear c49; replace H := Option.bind_eq_some_iff.mp H; obtain ⟨t122, A570, H⟩ := H; replace H : (if 3 + t122.size ≤ 9223372036854775807 then (if x5_3.size + ((⟨#[32, 58, 32]⟩ : ByteArray) ++ t122).size ≤ 9223372036854775807 then (spec_l03Print.l1 k3 x3_1 x4_1 (x5_3 ++ ((⟨#[32, 58, 32]⟩ : ByteArray) ++ t122)) (wrap64 (x6_2 + 1)) l0_0) else (none)) else (none)) = some r := H; have A57 := qO A570; clear A570
                   by_cases c58 : 3 + t122.size ≤ 9223372036854775807
                   ·rw [if_pos c58] at H
                    have c58b0 := eq_true c58; have c58b1 : decide (3 + t122.size ≤ 9223372036854775807) = true := decide_eq_true c58
                    try have c58b2 : (9223372036854775807 < 3 + t122.size) = False := eq_false (Nat.not_lt.2 c58)
                    by_cases c59 : x5_3.size + ((⟨#[32, 58, 32]⟩ : ByteArray) ++ t122).size ≤ 9223372036854775807
                    ·rw [if_pos c59] at H
                     have c59z : x5_3.size + (3 + t122.size) ≤ 9223372036854775807 := by (have h_ := c59; (repeat rw [ByteArray.size_append] at h_); exact h_)
                     have c59zt := eq_true c59z; have c59zf : (9223372036854775807 < x5_3.size + (3 + t122.size)) = False := eq_false (Nat.not_lt.2 c59z); have c59b0 := eq_true c59; have c59b1 : decide (x5_3.size + ((⟨#[32, 58, 32]⟩ : ByteArray) ++ t122).size ≤ 9223372036854775807) = true := decide_eq_true c59
                     try have c59b2 : (9223372036854775807 < x5_3.size + ((⟨#[32, 58, 32]⟩ : ByteArray) ++ t122).size) = False := eq_false (Nat.not_lt.2 c59)
                     have H' := qO H; clear H; have hnb60 := NB113_101.out; have hnc60 := NB101_113.out; have hcz61_0 : wr.cell? ⟨gb113, 0, none⟩ = some (.string ((rd_T47 ((rd_T41 l0_0 x4_1).f1) x6_2).f0)) := (blk_cell BK113.out 0).trans rfl; have hcz61_1 : wr.cell? ⟨gb113, 1, none⟩ = some (.slice A112_1 ((rd_T47 ((rd_T41 l0_0 x4_1).f1) x6_2).f1).length c112_1) := (blk_cell BK113.out 1).trans rfl; have hcz61_2 : wr.cell? ⟨gb113, 2, none⟩ = some (.string ((rd_T47 ((rd_T41 l0_0 x4_1).f1) x6_2).f2)) := (blk_cell BK113.out 2).trans rfl; have hcz61_3 : wr.cell? ⟨gb113, 3, none⟩ = some (.bool ((rd_T47 ((rd_T41 l0_0 x4_1).f1) x6_2).f3)) := (blk_cell BK113.out 3).trans rfl; have hcz61_4 : wr.cell? ⟨gb113, 4, none⟩ = some (.bool ((rd_T47 ((rd_T41 l0_0 x4_1).f1) x6_2).f4)) := (blk_cell BK113.out 4).trans rfl; have hfz61_0 := blk_frozen BK113.out 0; have hfz61_1 := blk_frozen BK113.out 1; have hfz61_2 := blk_frozen BK113.out 2; have hfz61_3 := blk_frozen BK113.out 3; have hfz61_4 := blk_frozen BK113.out 4
                     go_wp2_with (first | ((with_reducible refine gate_callee (f := 26) rfl ?_); refine goesL_ (some 89) rfl rfl Tryd.func26 qa16 rfl #[.agg #[.string ((rd_T47 ((rd_T41 l0_0 x4_1).f1) x6_2).f0), .slice A112_1 ((rd_T47 ((rd_T41 l0_0 x4_1).f1) x6_2).f1).length c112_1, .string ((rd_T47 ((rd_T41 l0_0 x4_1).f1) x6_2).f2), .bool ((rd_T47 ((rd_T41 l0_0 x4_1).f1) x6_2).f3), .bool ((rd_T47 ((rd_T41 l0_0 x4_1).f1) x6_2).f4)]] rfl qa0 ?_; (with_reducible refine (spec_l03Type.calls ((rd_T47 ((rd_T41 l0_0 x4_1).f1) x6_2).f0) _ _ ((rd_T47 ((rd_T41 l0_0 x4_1).f1) x6_2).f1) ((rd_T47 ((rd_T41 l0_0 x4_1).f1) x6_2).f2) ((rd_T47 ((rd_T41 l0_0 x4_1).f1) x6_2).f3) ((rd_T47 ((rd_T41 l0_0 x4_1).f1) x6_2).f4) t122 _ ?side1 ?side2 A57.out).mono ?_); (case side1 => exact qa113); (case side2 => exact HC112_1.out); rintro e w62 ⟨rfl, hb⟩; have hx_ := qHX HB hb qa1; refine ⟨_, rfl, ?_⟩; have n0_ := qO (Kd.R_below qa19 hb); have n1_ := qO (qB BK101.out hx_ hb); have n2_ := qO (blk_below (g := gb113) (o := .cells #[.string ((rd_T47 ((rd_T41 l0_0 x4_1).f1) x6_2).f0), .slice A112_1 ((rd_T47 ((rd_T41 l0_0 x4_1).f1) x6_2).f1).length c112_1, .string ((rd_T47 ((rd_T41 l0_0 x4_1).f1) x6_2).f2), .bool ((rd_T47 ((rd_T41 l0_0 x4_1).f1) x6_2).f3), .bool ((rd_T47 ((rd_T41 l0_0 x4_1).f1) x6_2).f4)] 47 (0, 0)) qa59 hb); have n3_ := qO (below_step (below_step HB.out hx_) hb); clear HO_3; clear BK101; clear BK113; clear HB; have HO_3 := n0_; have BK101 := n1_; have BK113 := n2_; have HB := n3_; clear n0_ n1_ n2_ n3_; clear hx_; (try clear hb); (try clear hb2); (try clear hk); (try clear hi)))
                     go_roundg k3
                     case measure => have := HK1.out; have := HK2.out; have := HK3.out; omega
                     case rel => exact ⟨(x5_3 ++ ((⟨#[32, 58, 32]⟩ : ByteArray) ++ t122)), (wrap64 (x6_2 + 1)), qa10, qa10, H', ⟨qa123⟩, ⟨qa19⟩, ⟨qa4⟩, ⟨qa27⟩⟩
                    ·rw [if_neg c59] at H
                     exact absurd H qa76
                   ·rw [if_neg c58] at H
                    exact absurd H qa76
              ·rw [if_neg c15] at H
               exact absurd H qa76
             ·rw [if_neg c14] at H
              exact absurd H qa76
            ·rw [if_neg c13] at H
             exact absurd H qa76
           ·rw [if_neg c12] at H
            have c12b0 : decide (x6_2 < (((rd_T41 l0_0 x4_1).f1).length : Int)) = false := decide_eq_false c12; clear c12
            by_cases c63 : x5_2.size + 2 ≤ 9223372036854775807
            ·rw [if_pos c63] at H
             have c63b0 := eq_true c63; have c63b1 : decide (x5_2.size + 2 ≤ 9223372036854775807) = true := decide_eq_true c63
             try have c63b2 : (9223372036854775807 < x5_2.size + 2) = False := eq_false (Nat.not_lt.2 c63)
             by_cases c64 : x3_1.length < 8796093022208
             ·rw [if_pos c64] at H
              have LMc64 := qO c64; clear c64; obtain ⟨y108, hy108⟩ : ∃ y_ : List ByteArray, y_ = (x3_1 ++ [x5_2 ++ (⟨#[32, 125]⟩ : ByteArray)]) := ⟨_, rfl⟩; replace H : (spec_l03Print.l0 k2 y108 (wrap64 (x4_1 + 1)) l0_0) = some r := by first | (rw [hy108]; with_reducible exact H) | (have H2_ := (Option.bind_some _ _).symm.trans H; rw [hy108]; with_reducible exact H2_) | (have H2_ := (Option.bind_some _ _).symm.trans H; with_reducible exact H2_) | with_reducible exact H | (rw [hy108]; exact H) | exact H
              have Ny108 := qO hy108; clear hy108; have H' := qO H; clear H; have hcz65_0 : wr.cell? ⟨gb101, 0, none⟩ = some (.slice (some ad106) l0_0.length c0_0) := (blk_cell BK101.out 0).trans rfl; have hfz65_0 := blk_frozen BK101.out 0; have p107 : 0 ≤ (x4_1 : Int) := qT qa6; have q107 : x4_1 < (l0_0.length : Int) := qT qa6; obtain ⟨ad107, A107_1, c107_1, e107, hx107_0, hx107_1, hl107_1, hi107_1⟩ := at_T41 HR0_0.out x4_1 p107 q107; obtain rfl : ad106 = ad107 := (by injection e107); replace hx107_0 := (HB.out.cell (qL w _ hx107_0)).trans hx107_0; replace hx107_1 := (HB.out.cell (qL w _ hx107_1)).trans hx107_1; have HR107_1 := qO hi107_1; have HC107_1 := qO hl107_1; clear hi107_1 hl107_1; replace p107 := eq_true p107; replace q107 := eq_true q107
              go_wp2_with (first | ((with_reducible refine gate_builtin (b := .append) (xs := #[.tmp 92, .tmp 95]) rfl ?_); at_builtin; refine Kd.R_append Kd.string (w0 := w) w.heap.size rfl (.tmp 92) (.tmp 95) 62 9 (.string ⟨#[]⟩) 16 rfl Tryd.underlying62 info9 rfl qa60 qa25 u3 x3_1 (x5_2 ++ (⟨#[32, 125]⟩ : ByteArray)) [.string (x5_2 ++ (⟨#[32, 125]⟩ : ByteArray))] (fun _ => True) (fun _ => False) rfl rfl ?aP (fun _ hk => hk.elim) ?aF ?aO ?aB ?aS ?aL ?_; (case aP => exact rfl); (case aB => exact qa41); (case aF => exact qa137); (case aO => exact qa108); (case aS => exact qa38); (case aL => have := LMc64.out; omega); intro v109 w66 ho hb hg hat; rw [← Ny108.out] at ho; have n0_ := qO (blk_grown (g := gb101) (o := .cells #[.slice (some ad106) l0_0.length c0_0] 30 (0, 0)) qa4 hg (Kd.R_ne HO_3.out BK101.out qa60)); have n1_ := qO (hb); have n2_ := qO (ho); clear BK101; clear HB; clear HO_3; have BK101 := n0_; have HB := n1_; have HO110 := n2_; clear n0_ n1_ n2_; clear ho hb hg hat))
              go_roundg k2
              case measure => have := HK1.out; have := HK2.out; omega
              case rel => exact ⟨(y108), (wrap64 (x4_1 + 1)), qa10, H', ⟨qa140⟩, ⟨qa129⟩, ⟨qa4⟩, ⟨qa2⟩⟩
             ·rw [if_neg c64] at H
              exact absurd H qa76
            ·rw [if_neg c63] at H
             exact absurd H qa76
          ·rw [if_neg c11] at H
           exact absurd H qa76
         ·rw [if_neg c10] at H
          exact absurd H qa76
      ·rw [if_neg c8] at H
       exact absurd H qa76
     ·rw [if_neg c7] at H
      exact absurd H qa76
    ·rw [if_neg c6] at H
     exact absurd H qa76
   ·rw [if_neg c5] at H
    have c5b0 : decide (x4_1 < (l0_0.length : Int)) = false := decide_eq_false c5; clear c5; replace H := Option.bind_eq_some_iff.mp H; obtain ⟨t105, A670, H⟩ := H; replace H : (some t105) = some r := H; have A67 := qO A670; clear A670; obtain rfl := Option.some.inj H; have hcz68_0 : wr.cell? ⟨gb101, 0, none⟩ = some (.slice A0_0 l0_0.length c0_0) := (blk_cell BK101.out 0).trans rfl; have hfz68_0 := blk_frozen BK101.out 0; obtain ⟨Ao69, co69, eo69⟩ := Kd.R_slice HO_3.out; subst eo69
    go_wp2_with (first | ((with_reducible refine gate_callee (f := 27) rfl ?_); refine goesL_ (some 98) rfl rfl Tryd.func27 qa16 rfl #[.slice Ao69 x3_1.length co69, .string (⟨#[32]⟩ : ByteArray)] rfl qa0 ?_; (with_reducible refine (spec_l00Join.calls k1 _ _ x3_1 (⟨#[32]⟩ : ByteArray) t105 _ ?side1 ?side2 A67.out).mono ?_); (case side1 => exact qa119); (case side2 => exact (Kd.R_reads' HO_3.out).2.1); rintro e w' ⟨rfl, ⟨nd, rfl⟩⟩; refine ⟨_, rfl, ?_⟩))
    go_ret
    exact ⟨qa5, qa2⟩


def spec_PrintSchema.f (k : Nat) (l0_0 : List (S41)) : Option (ByteArray × Int) := (spec_SchemaOK.f k l0_0).bind fun t102 => (if t102 = true then ((spec_l03Print.f k l0_0).bind fun t103 => (some (t103, 0))) else (some ((⟨#[]⟩ : ByteArray), 1)))
set_option maxHeartbeats 8000000 in
set_option maxRecDepth 100000 in
theorem spec_PrintSchema.calls (k : Nat) (A0_0 : Option Addr) (c0_0 : Nat) (l0_0 : List (S41)) (r1 : ByteArray) (r2 : Int) (w : World) (hr0_0 : Kd.C k41 w A0_0 l0_0.length l0_0) (hc0_0 : l0_0.length ≤ c0_0) (h : spec_PrintSchema.f k l0_0 = some (r1, r2)) :
  Calls Tryd.prog 5 #[.agg #[.slice A0_0 l0_0.length c0_0]] w fun e w' => e = .returned (.tuple #[.string r1, .int .i64 r2]) ∧ Below w.heap.size w w' := by
 have hu30 := Tryd.underlying30; have HR0_0 := qO hr0_0; have HC0_0 := qO hc0_0; clear hr0_0 hc0_0; have HB := qO (Below.refl w.heap.size w); have H : ((spec_SchemaOK.f k l0_0).bind fun t102 => (if t102 = true then ((spec_l03Print.f k l0_0).bind fun t103 => (some (t103, 0))) else (some ((⟨#[]⟩ : ByteArray), 1)))) = some (r1, r2) := h; clear h; replace H := Option.bind_eq_some_iff.mp H; obtain ⟨t102, A20, H⟩ := H; replace H : (if t102 = true then ((spec_l03Print.f k l0_0).bind fun t103 => (some (t103, 0))) else (some ((⟨#[]⟩ : ByteArray), 1))) = some (r1, r2) := H; have A2 := qO A20; clear A20
 by_cases c3 : t102 = true
 ·subst c3
  have H1 : ((spec_l03Print.f k l0_0).bind fun t103 => (some (t103, 0))) = some (r1, r2) := by rw [if_pos rfl] at H; exact H
  clear H; have H := H1; clear H1; replace H := Option.bind_eq_some_iff.mp H; obtain ⟨t103, A40, H⟩ := H; replace H : (some (t103, 0)) = some (r1, r2) := H; have A4 := qO A40; clear A40; simp only [Option.some.injEq, Prod.mk.injEq] at H; obtain ⟨rfl, rfl⟩ := H
  go_enter Tryd.func5, Tryd.ntmps5
  go_wp2_with (first | ((with_reducible refine gate_dst (N := 1) rfl ?_); refine box_event ?hg (N := 1) ?hd (cs := #[.slice A0_0 l0_0.length c0_0]) (t := 30) ?hr ?_; (case hd => rfl); (case hg => rfl); (case hr => exact qa18); intro gb101 hg w5 hbox hb; have hx_ := qHX HB hb qa1; have n0_ := qO (below_step (below_step HB.out hx_) hb); have n1_ := qO (hbox); have n2_ := qO ((qa14 : w.heap.size ≤ gb101)); have n3_ := n2_; clear HB; have HB := n0_; have BK101 := n1_; have GW101 := n2_; have GE101 := n3_; clear n0_ n1_ n2_ n3_; clear hx_; clear hb hbox hg; have hcz6_0 : w5.cell? ⟨gb101, 0, none⟩ = some (.slice A0_0 l0_0.length c0_0) := (blk_cell BK101.out 0).trans rfl; have hfz6_0 := blk_frozen BK101.out 0) | ((with_reducible refine gate_callee (f := 10) rfl ?_); refine goesL_ (some 5) rfl rfl Tryd.func10 qa16 rfl #[.agg #[.slice A0_0 l0_0.length c0_0]] rfl qa0 ?_; (with_reducible refine (spec_SchemaOK.calls k _ _ l0_0 true _ ?side1 ?side2 A2.out).mono ?_); (case side1 => exact qa23); (case side2 => exact HC0_0.out); rintro e w7 ⟨rfl, hb⟩; have hx_ := qHX HB hb qa1; refine ⟨_, rfl, ?_⟩; have n0_ := qO (qB BK101.out hx_ hb); have n1_ := qO (below_step (below_step HB.out hx_) hb); clear BK101; clear HB; have BK101 := n0_; have HB := n1_; clear n0_ n1_; clear hx_; (try clear hb); (try clear hb2); (try clear hk); (try clear hi); have hcz8_0 : w7.cell? ⟨gb101, 0, none⟩ = some (.slice A0_0 l0_0.length c0_0) := (blk_cell BK101.out 0).trans rfl; have hfz8_0 := blk_frozen BK101.out 0) | ((with_reducible refine gate_callee (f := 11) rfl ?_); refine goesL_ (some 8) rfl rfl Tryd.func11 qa16 rfl #[.agg #[.slice A0_0 l0_0.length c0_0]] rfl qa0 ?_; (with_reducible refine (spec_l03Print.calls k _ _ l0_0 t103 _ ?side1 ?side2 A4.out).mono ?_); (case side1 => exact qa23); (case side2 => exact HC0_0.out); rintro e w9 ⟨rfl, hb⟩; have hx_ := qHX HB hb qa1; refine ⟨_, rfl, ?_⟩; have n0_ := qO (qB BK101.out hx_ hb); have n1_ := qO (below_step (below_step HB.out hx_) hb); clear BK101; clear HB; have BK101 := n0_; have HB := n1_; clear n0_ n1_; clear hx_; (try clear hb); (try clear hb2); (try clear hk); (try clear hi)))
  go_ret2
  exact ⟨qa5, qa2⟩
 ·replace c3 := Bool.eq_false_iff.mpr c3
  subst c3; have H1 : (some ((⟨#[]⟩ : ByteArray), 1)) = some (r1, r2) := by rw [if_neg (show ¬ (false = true) by decide)] at H; exact H
  clear H; have H := H1; clear H1; simp only [Option.some.injEq, Prod.mk.injEq] at H; obtain ⟨rfl, rfl⟩ := H
  go_enter Tryd.func5, Tryd.ntmps5
  go_wp2_with (first | ((with_reducible refine gate_dst (N := 1) rfl ?_); refine box_event ?hg (N := 1) ?hd (cs := #[.slice A0_0 l0_0.length c0_0]) (t := 30) ?hr ?_; (case hd => rfl); (case hg => rfl); (case hr => exact qa18); intro gb101 hg w10 hbox hb; have hx_ := qHX HB hb qa1; have n0_ := qO (below_step (below_step HB.out hx_) hb); have n1_ := qO (hbox); have n2_ := qO ((qa14 : w.heap.size ≤ gb101)); have n3_ := n2_; clear HB; have HB := n0_; have BK101 := n1_; have GW101 := n2_; have GE101 := n3_; clear n0_ n1_ n2_ n3_; clear hx_; clear hb hbox hg; have hcz11_0 : w10.cell? ⟨gb101, 0, none⟩ = some (.slice A0_0 l0_0.length c0_0) := (blk_cell BK101.out 0).trans rfl; have hfz11_0 := blk_frozen BK101.out 0) | ((with_reducible refine gate_callee (f := 10) rfl ?_); refine goesL_ (some 5) rfl rfl Tryd.func10 qa16 rfl #[.agg #[.slice A0_0 l0_0.length c0_0]] rfl qa0 ?_; (with_reducible refine (spec_SchemaOK.calls k _ _ l0_0 false _ ?side1 ?side2 A2.out).mono ?_); (case side1 => exact qa23); (case side2 => exact HC0_0.out); rintro e w12 ⟨rfl, hb⟩; have hx_ := qHX HB hb qa1; refine ⟨_, rfl, ?_⟩; have n0_ := qO (qB BK101.out hx_ hb); have n1_ := qO (below_step (below_step HB.out hx_) hb); clear BK101; clear HB; have BK101 := n0_; have HB := n1_; clear n0_ n1_; clear hx_; (try clear hb); (try clear hb2); (try clear hk); (try clear hi)))
  go_ret2
  exact ⟨qa5, qa2⟩


def laws_toArgDef.f (a0_0 : ByteArray) (a0_1 : Bool) : Option (ByteArray × Bool) := some (a0_0, a0_1)
set_option maxHeartbeats 8000000 in
set_option maxRecDepth 100000 in
theorem laws_toArgDef.calls (a0_0 : ByteArray) (a0_1 : Bool) (r1 : ByteArray) (r2 : Bool) (w : World) (h : laws_toArgDef.f a0_0 a0_1 = some (r1, r2)) :
  Calls Tryd.prog 70 #[.agg #[.string a0_0, .bool a0_1]] w fun e w' => e = .returned (.agg #[.string r1, .bool r2]) ∧ Below w.heap.size w w' := by
 have hu105 := Tryd.underlying105; have hu60 := Tryd.underlying60; have HB := qO (Below.refl w.heap.size w); have H : (some (a0_0, a0_1)) = some (r1, r2) := h; clear h; simp only [Option.some.injEq, Prod.mk.injEq] at H; obtain ⟨rfl, rfl⟩ := H
 go_enter Tryd.func70, Tryd.ntmps70
 go_wp2_with (first | ((with_reducible refine gate_dst (N := 1) rfl ?_); refine box_event ?hg (N := 1) ?hd (cs := #[.string a0_0, .bool a0_1]) (t := 105) ?hr ?_; (case hd => rfl); (case hg => rfl); (case hr => exact qa18); intro gb101 hg w2 hbox hb; have hx_ := qHX HB hb qa1; have n0_ := qO (below_step (below_step HB.out hx_) hb); have n1_ := qO (hbox); have n2_ := qO ((qa14 : w.heap.size ≤ gb101)); have n3_ := n2_; clear HB; have HB := n0_; have BK101 := n1_; have GW101 := n2_; have GE101 := n3_; clear n0_ n1_ n2_ n3_; clear hx_; clear hb hbox hg) | ((with_reducible refine gate_dst (N := 2) rfl ?_); refine box_event ?hg (N := 2) ?hd (cs := #[.string (⟨#[]⟩ : ByteArray), .bool false]) (t := 60) ?hr ?_; (case hd => rfl); (case hg => rfl); (case hr => exact qa18); intro gb102 hg w3 hbox hb; have hx_ := qHX HB hb qa1; have n0_ := qO (qB BK101.out hx_ hb); have n1_ := qO (below_step (below_step HB.out hx_) hb); have n2_ := qO (hbox); have n3_ := qO ((qa14 : w.heap.size ≤ gb102)); have n4_ := n3_; have n5_ := qO ((qa95 : gb101 ≠ gb102)); have n6_ := qO (Ne.symm n5_.out); clear BK101; clear HB; have BK101 := n0_; have HB := n1_; have BK102 := n2_; have GW102 := n3_; have GE102 := n4_; have NB101_102 := n5_; have NB102_101 := n6_; clear n0_ n1_ n2_ n3_ n4_ n5_ n6_; clear hx_; clear hb hbox hg) | ((with_reducible refine gate_dst (N := 3) rfl ?_); refine box_event ?hg (N := 3) ?hd (cs := #[.string (⟨#[]⟩ : ByteArray), .bool false]) (t := 60) ?hr ?_; (case hd => rfl); (case hg => rfl); (case hr => exact qa18); intro gb103 hg w4 hbox hb; have hx_ := qHX HB hb qa1; have n0_ := qO (qB BK101.out hx_ hb); have n1_ := qO (qB BK102.out hx_ hb); have n2_ := qO (below_step (below_step HB.out hx_) hb); have n3_ := qO (hbox); have n4_ := qO ((qa14 : w.heap.size ≤ gb103)); have n5_ := n4_; have n6_ := qO ((qa95 : gb101 ≠ gb103)); have n7_ := qO (Ne.symm n6_.out); have n8_ := qO ((by rw [hg]; exact Nat.ne_of_lt (blk_lt (g := gb102) (o := .cells #[.string (⟨#[]⟩ : ByteArray), .bool false] 60 (0, 0)) (by (with_reducible repeat (first | refine qkN ?_ _ | refine qkD ?_ | refine qkA ?_ _)); exact BK102.out)) : gb102 ≠ gb103)); have n9_ := qO (Ne.symm n8_.out); clear BK101; clear BK102; clear HB; have BK101 := n0_; have BK102 := n1_; have HB := n2_; have BK103 := n3_; have GW103 := n4_; have GE103 := n5_; have NB101_103 := n6_; have NB103_101 := n7_; have NB102_103 := n8_; have NB103_102 := n9_; clear n0_ n1_ n2_ n3_ n4_ n5_ n6_ n7_ n8_ n9_; clear hx_; clear hb hbox hg; have hnb5 := NB101_102.out; have hnc5 := NB102_101.out; have hnb6 := NB101_103.out; have hnc6 := NB103_101.out; have hcz7_0 : w4.cell? ⟨gb101, 0, none⟩ = some (.string a0_0) := (blk_cell BK101.out 0).trans rfl; have hcz7_1 : w4.cell? ⟨gb101, 1, none⟩ = some (.bool a0_1) := (blk_cell BK101.out 1).trans rfl; have hfz7_0 := blk_frozen BK101.out 0; have hfz7_1 := blk_frozen BK101.out 1; have hnb8 := NB103_102.out; have hnc8 := NB102_103.out; have hcz9_0 : w4.cell? ⟨gb103, 0, none⟩ = some (.string (⟨#[]⟩ : ByteArray)) := (blk_cell BK103.out 0).trans rfl; have hcz9_1 : w4.cell? ⟨gb103, 1, none⟩ = some (.bool false) := (blk_cell BK103.out 1).trans rfl; have hfz9_0 := blk_frozen BK103.out 0; have hfz9_1 := blk_frozen BK103.out 1; have hcz10_0 : w4.cell? ⟨gb102, 0, none⟩ = some (.string (⟨#[]⟩ : ByteArray)) := (blk_cell BK102.out 0).trans rfl; have hcz10_1 : w4.cell? ⟨gb102, 1, none⟩ = some (.bool false) := (blk_cell BK102.out 1).trans rfl; have hfz10_0 := blk_frozen BK102.out 0; have hfz10_1 := blk_frozen BK102.out 1))
 refine bodyPost_ret (results_cell_row rfl _ _ gb102 60 #[.string a0_0, .bool a0_1] (0, 0) _ rfl (by (with_reducible repeat (first | refine qkN ?_ _ | refine qkD ?_ | refine qkA ?_ _)); refine blk_put (cs := #[.string a0_0, .bool false]) ?_ 1 _ rfl; (with_reducible repeat (first | refine qkN ?_ _ | refine qkD ?_ | refine qkA ?_ _)); refine blk_put (cs := #[.string (⟨#[]⟩ : ByteArray), .bool false]) ?_ 0 _ rfl; (with_reducible repeat (first | refine qkN ?_ _ | refine qkD ?_ | refine qkA ?_ _)); refine blk_far ?_ NB102_103.out _; (with_reducible repeat (first | refine qkN ?_ _ | refine qkD ?_ | refine qkA ?_ _)); refine blk_far ?_ NB102_103.out _; (with_reducible repeat (first | refine qkN ?_ _ | refine qkD ?_ | refine qkA ?_ _)); exact BK102.out) Tryd.underlying60 rfl qa16) rfl ?_
 exact ⟨qa5, qa35⟩


def laws_toArgDefS.l0 : Nat → List (S105) → List (S60) → Int → Option ((List (S60)))
 | 0, _, _, _ => none
 | k + 1, x0, x3, x4 => if x4 < (x0.length : Int) then (if 0 ≤ x4 then ((laws_toArgDef.f ((rd_T105 x0 x4).f0) ((rd_T105 x0 x4).f1)).bind fun bt105 => (if x4 < (x3.length : Int) then (laws_toArgDefS.l0 k x0 (x3.set (x4 : Int).toNat (⟨bt105.1, bt105.2⟩ : S60)) (wrap64 (x4 + 1))) else (none))) else (none)) else (some x3)
def laws_toArgDefS.f (k : Nat) (l0 : List (S105)) : Option ((List (S60))) := if 0 ≤ (l0.length : Int) then (if ((l0.length : Int) : Int).toNat ≤ 11728124029610 then (laws_toArgDefS.l0 k l0 (List.replicate ((l0.length : Int) : Int).toNat z60) 0) else (none)) else (none)
set_option maxHeartbeats 8000000 in
set_option maxRecDepth 100000 in
theorem laws_toArgDefS.calls (k : Nat) (A0 : Option Addr) (c0 : Nat) (l0 : List (S105)) (r : List (S60)) (w : World) (hr0 : Kd.C k105 w A0 l0.length l0) (hc0 : l0.length ≤ c0) (h : laws_toArgDefS.f k l0 = some r) :
  Calls Tryd.prog 64 #[.slice A0 l0.length c0] w fun e w' => ∃ v0_ : Value, e = .returned (v0_) ∧ Kd.R k60 60 w' w.heap.size (fun _ => True) v0_ r ∧ Below w.heap.size w w' := by
 have hu105 := Tryd.underlying105; have hu60 := Tryd.underlying60; have HR0 := qO hr0; have HC0 := qO hc0; clear hr0 hc0; have HB := qO (Below.refl w.heap.size w); have H : (if 0 ≤ (l0.length : Int) then (if ((l0.length : Int) : Int).toNat ≤ 11728124029610 then (laws_toArgDefS.l0 k l0 (List.replicate ((l0.length : Int) : Int).toNat z60) 0) else (none)) else (none)) = some r := h; clear h
 by_cases c2 : 0 ≤ (l0.length : Int)
 ·rw [if_pos c2] at H
  have c2b0 := eq_true c2; have c2b1 : decide (0 ≤ (l0.length : Int)) = true := decide_eq_true c2; clear c2
  by_cases c3 : ((l0.length : Int) : Int).toNat ≤ 11728124029610
  ·rw [if_pos c3] at H
   have c3b0 := eq_true c3; have c3b1 : decide (((l0.length : Int) : Int).toNat ≤ 11728124029610) = true := decide_eq_true c3; clear c3; obtain ⟨y101, hy101⟩ : ∃ y_ : List (S60), y_ = (List.replicate ((l0.length : Int) : Int).toNat z60) := ⟨_, rfl⟩; replace H : (laws_toArgDefS.l0 k l0 y101 0) = some r := by first | (rw [hy101]; with_reducible exact H) | (have H2_ := (Option.bind_some _ _).symm.trans H; rw [hy101]; with_reducible exact H2_) | (have H2_ := (Option.bind_some _ _).symm.trans H; with_reducible exact H2_) | with_reducible exact H | (rw [hy101]; exact H) | exact H
   have Ny101 := qO hy101; clear hy101; have H' := qO H; clear H
   go_enter Tryd.func64, Tryd.ntmps64
   go_wp2_with (first | ((with_reducible refine gate_dst (N := 7) rfl ?_); refine Kd.R_make k60 _ 60 rfl (N := 7) rfl 45 _ _ rfl (l0.length : Int) rfl rfl Tryd.underlying45 (.agg #[(.string ⟨#[]⟩), (.bool false)]) 24 info60 rfl qa60 qa25 z60 (ok := fun _ => True) (okp := fun _ => True) (k60_mkM _ _ _ z60 ) (fun _ hk => hk) trivial (qT qa6) (Nat.le_trans (Nat.mul_le_mul_right _ (qT qa6 : (l0.length : Int).toNat ≤ 11728124029610)) qa25) (Below.refl _ _) (Nat.le_refl _) ?_; intro v102 w4 ho5 hb hg_ hnew_; clear hg_ hnew_; (first | rw [← Ny101.out] at ho5 | (simp only [Int.reduceToNat] at ho5; rw [← Ny101.out] at ho5)); have n0_ := qO (Kd.R_lower ho5 (below_size qa11)); have n1_ := qO (below_step qa11 hb); clear HB; have HO103 := n0_; have HB := n1_; clear n0_ n1_; clear hb ho5))
   go_loopg [4] k (fun kq v4 w' => ∃ (x3_1 : List (S60)) (x4_1 : Int), v4 = .int .i64 x4_1 ∧ Aside0 (laws_toArgDefS.l0 kq l0 x3_1 x4_1 = some r) ∧ Aside0 (kq ≤ k) ∧ Aside0 (Kd.R k60 60 w' w.heap.size (fun _ => True) v102 x3_1) ∧ Aside0 (Below w.heap.size w w'))
   case atStart => exact ⟨(y101), (0), qa10, H', ⟨Nat.le_refl _⟩, ⟨qa109⟩, ⟨qa11⟩⟩
   case round =>
    clear H'
    try clear c2
    try clear c2b0
    try clear c2b1
    try clear p2
    try clear c3
    try clear c3b0
    try clear c3b1
    obtain ⟨x3_1, x4_1, rfl, HA, HK1, HO_3, HB⟩ := hrel
    cases gk with
    | zero => exact absurd HA.out (by simp [laws_toArgDefS.l0])
    | succ k1 =>
     have H := HA.out; clear HA; simp only [laws_toArgDefS.l0] at H
     by_cases c6 : x4_1 < (l0.length : Int)
     ·rw [if_pos c6] at H
      have c6b0 : decide (x4_1 < (l0.length : Int)) = true := decide_eq_true c6; clear c6
      by_cases c7 : 0 ≤ x4_1
      ·rw [if_pos c7] at H
       have c7b0 : decide (0 ≤ x4_1) = true := decide_eq_true c7; clear c7; replace H := Option.bind_eq_some_iff.mp H; obtain ⟨⟨t105, t106⟩, A80, H⟩ := H; replace H : (if x4_1 < (x3_1.length : Int) then (laws_toArgDefS.l0 k1 l0 (x3_1.set (x4_1 : Int).toNat (⟨t105, t106⟩ : S60)) (wrap64 (x4_1 + 1))) else (none)) = some r := H; have A8 := qO A80; clear A80
       by_cases c9 : x4_1 < (x3_1.length : Int)
       ·rw [if_pos c9] at H
        have c9b0 : decide (x4_1 < (x3_1.length : Int)) = true := decide_eq_true c9; clear c9; obtain ⟨y107, hy107⟩ : ∃ y_ : List (S60), y_ = (x3_1.set (x4_1 : Int).toNat (⟨t105, t106⟩ : S60)) := ⟨_, rfl⟩; replace H : (laws_toArgDefS.l0 k1 l0 y107 (wrap64 (x4_1 + 1))) = some r := by first | (rw [hy107]; with_reducible exact H) | (have H2_ := (Option.bind_some _ _).symm.trans H; rw [hy107]; with_reducible exact H2_) | (have H2_ := (Option.bind_some _ _).symm.trans H; with_reducible exact H2_) | with_reducible exact H | (rw [hy107]; exact H) | exact H
        have Ny107 := qO hy107; clear hy107; have H' := qO H; clear H; have p104 : 0 ≤ (x4_1 : Int) := qT qa6; have q104 : x4_1 < (l0.length : Int) := qT qa6; obtain ⟨ad104, e104, hx104_0, hx104_1⟩ := at_T105 HR0.out x4_1 p104 q104
        cases e104
        replace hx104_0 := (HB.out.cell (qL w _ hx104_0)).trans hx104_0; replace hx104_1 := (HB.out.cell (qL w _ hx104_1)).trans hx104_1; replace p104 := eq_true p104; replace q104 := eq_true q104
        go_wp2_with (first | ((with_reducible refine gate_callee (f := 70) rfl ?_); refine goesL_ (some 20) rfl rfl Tryd.func70 qa16 rfl #[.agg #[.string ((rd_T105 l0 x4_1).f0), .bool ((rd_T105 l0 x4_1).f1)]] rfl qa0 ?_; (with_reducible refine (laws_toArgDef.calls ((rd_T105 l0 x4_1).f0) ((rd_T105 l0 x4_1).f1) t105 t106 _ A8.out).mono ?_); rintro e w11 ⟨rfl, hb⟩; have hx_ := qHX HB hb qa1; refine ⟨_, rfl, ?_⟩; have n0_ := qO (Kd.R_below qa19 hb); have n1_ := qO (below_step (below_step HB.out hx_) hb); clear HO_3; clear HB; have HO_3 := n0_; have HB := n1_; clear n0_ n1_; clear hx_; (try clear hb); (try clear hb2); (try clear hk); (try clear hi); have p10 : 0 ≤ (x4_1 : Int) := qT qa6; have q10 : (x4_1 : Int) < ((x3_1.length : Int) : Int) := qT qa6; obtain ⟨go10, co10, eo10, gb10, gl10, cl10, HG10⟩ := Kd.R_form HO_3.out qa25; (first | cases eo10 | (injection eo10 with ea_ en_ ec_; (first | subst ea_ | (injection ea_ with ea_; subst ea_)); subst ec_; clear en_)); have GB10 := qO gb10; have GG10 := qO HG10; clear gb10 gl10 HG10; obtain ⟨ce10, hcl10, hM10, hcc10, hfr10⟩ := Kd.R_elem HO_3.out z60 (x4_1 : Int) p10 q10; obtain rfl := k60_openM hM10; have hx10_0 : w11.cell? ⟨go10, (x4_1 : Int).toNat * 2, none⟩ = some (.string ((rd_T60 x3_1 x4_1).f0)) := hcc10 0 _ rfl; have hx10_1 : w11.cell? ⟨go10, (x4_1 : Int).toNat * 2 + 1, none⟩ = some (.bool ((rd_T60 x3_1 x4_1).f1)) := hcc10 1 _ rfl; have hf10_0 : w11.frozen? ⟨go10, (x4_1 : Int).toNat * 2, none⟩ = false := hfr10 0; have hf10_1 : w11.frozen? ⟨go10, (x4_1 : Int).toNat * 2 + 1, none⟩ = false := hfr10 1; clear hcl10 hcc10 hfr10; (try clear hM10); replace p10 := eq_true p10; replace q10 := eq_true q10; have HX12 := qO (show Kd.R k60 60 w11 w.heap.size (fun _ => True) (.slice (some ⟨go10, 0, none⟩) x3_1.length co10) x3_1 from qa19); obtain ⟨ce12, hcl12, hM12, hcc12, hfr12⟩ := Kd.R_elem HX12.out z60 (x4_1 : Int) (qT qa6) (by have h_ : (x4_1 : Int) < ((x3_1.length : Int) : Int) := qT qa6; first | exact h_ | (have e_ := (Kd.R_reads' HO_3.out).1; omega) | simpa using h_); obtain rfl := k60_openM hM12; have HP12 := Kd.R_seg HX12.out (x4_1 : Int) (qT qa6) (by have h_ : (x4_1 : Int) < ((x3_1.length : Int) : Int) := qT qa6; first | exact h_ | (have e_ := (Kd.R_reads' HO_3.out).1; omega) | simpa using h_) (seg := [.string t105, .bool t106]) (j := 0) hcl12 hcc12 (show 2 ≤ 2 from by decide) (x' := (⟨t105, t106⟩ : S60)) (k60_mkM _ _ _ (⟨t105, t106⟩ : S60) ) (fun _ hk => hk); have hx12_0 := hcc12 0 _ rfl; (try simp only [show (k60).sz = 2 from rfl, Nat.mul_one, Nat.add_zero] at hx12_0); have hf12_0 := hfr12 0; (try simp only [show (k60).sz = 2 from rfl, Nat.mul_one, Nat.add_zero] at hf12_0); have hx12_1 := hcc12 1 _ rfl; (try simp only [show (k60).sz = 2 from rfl, Nat.mul_one, Nat.add_zero] at hx12_1); have hf12_1 := hfr12 1; (try simp only [show (k60).sz = 2 from rfl, Nat.mul_one, Nat.add_zero] at hf12_1); clear hcl12 hcc12 hfr12; (try clear hM12)) | ((with_reducible refine gate_store (t := 60) (p := 21) rfl ?_); refine store_event (t := 60) (p := 21) (v := ?vo_w13) (w1 := ((w11.setCell ⟨go10, (x4_1 : Int).toNat * 2, none⟩ (.string t105)).setCell ⟨go10, (x4_1 : Int).toNat * 2 + 1, none⟩ (.bool t106))) ?hg ?ho ?hn ?hr ?_; (case ho => rfl); (case hg => rfl); (case hn => rfl); (case hr => exact qa18); intro w13 hw; have hg : w11.grownBy w13 (some go10) := (by rw [hw]; exact HP12.2); have hp_ : Kd.R k60 60 w13 w.heap.size (fun _ => True) (.slice (some ⟨go10, 0, none⟩) x3_1.length co10) y107 := (by rw [hw, Ny107.out]; exact HP12.1); clear HP12; have n0_ := qO (hp_); have n1_ := qO ((by rw [hw]; exact qbS (qbS (HB.out) GB10.out) GB10.out : Below w.heap.size w w13)); clear HO_3; clear HB; have HO_3 := n0_; have HB := n1_; clear n0_ n1_; clear hg hw hp_))
        go_roundg k1
        case measure => have := HK1.out; omega
        case rel => exact ⟨(y107), (wrap64 (x4_1 + 1)), qa10, H', ⟨qa99⟩, ⟨qa19⟩, ⟨qa11⟩⟩
       ·rw [if_neg c9] at H
        exact absurd H qa76
      ·rw [if_neg c7] at H
       exact absurd H qa76
     ·rw [if_neg c6] at H
      have c6b0 : decide (x4_1 < (l0.length : Int)) = false := decide_eq_false c6; clear c6; obtain rfl := Option.some.inj H; go_wp2
      go_ret
      exact ⟨_, qa5, qa19, qa11⟩
  ·rw [if_neg c3] at H
   exact absurd H qa76
 ·rw [if_neg c2] at H
  exact absurd H qa76


def laws_toFieldDef.f (k : Nat) (a0_0 : ByteArray) (l0_1 : List (S105)) (a0_2 : ByteArray) (a0_3 : Bool) (a0_4 : Bool) : Option (ByteArray × (List (S60)) × ByteArray × Bool × Bool) := (laws_toArgDefS.f k l0_1).bind fun t104 => (some (a0_0, t104, a0_2, a0_3, a0_4))
set_option maxHeartbeats 8000000 in
set_option maxRecDepth 100000 in
theorem laws_toFieldDef.calls (k : Nat) (a0_0 : ByteArray) (A0_1 : Option Addr) (c0_1 : Nat) (l0_1 : List (S105)) (a0_2 : ByteArray) (a0_3 : Bool) (a0_4 : Bool) (r1 : ByteArray) (r2 : List (S60)) (r3 : ByteArray) (r4 : Bool) (r5 : Bool) (w : World) (hr0_1 : Kd.C k105 w A0_1 l0_1.length l0_1) (hc0_1 : l0_1.length ≤ c0_1) (h : laws_toFieldDef.f k a0_0 l0_1 a0_2 a0_3 a0_4 = some (r1, r2, r3, r4, r5)) :
  Calls Tryd.prog 56 #[.agg #[.string a0_0, .slice A0_1 l0_1.length c0_1, .string a0_2, .bool a0_3, .bool a0_4]] w fun e w' => ∃ v1_ : Value, e = .returned (.agg #[.string r1, v1_, .string r3, .bool r4, .bool r5]) ∧ Kd.R k60 60 w' w.heap.size (fun _ => True) v1_ r2 ∧ Below w.heap.size w w' := by
 have hu91 := Tryd.underlying91; have hu47 := Tryd.underlying47; have HR0_1 := qO hr0_1; have HC0_1 := qO hc0_1; clear hr0_1 hc0_1; have HB := qO (Below.refl w.heap.size w); have H : ((laws_toArgDefS.f k l0_1).bind fun t104 => (some (a0_0, t104, a0_2, a0_3, a0_4))) = some (r1, r2, r3, r4, r5) := h; clear h; replace H := Option.bind_eq_some_iff.mp H; obtain ⟨t104, A20, H⟩ := H; replace H : (some (a0_0, t104, a0_2, a0_3, a0_4)) = some (r1, r2, r3, r4, r5) := H; have A2 := qO A20; clear A20; simp only [Option.some.injEq, Prod.mk.injEq] at H; obtain ⟨rfl, rfl, rfl, rfl, rfl⟩ := H
 go_enter Tryd.func56, Tryd.ntmps56
 go_wp2_with (first | ((with_reducible refine gate_dst (N := 1) rfl ?_); refine box_event ?hg (N := 1) ?hd (cs := #[.string a0_0, .slice A0_1 l0_1.length c0_1, .string a0_2, .bool a0_3, .bool a0_4]) (t := 91) ?hr ?_; (case hd => rfl); (case hg => rfl); (case hr => exact qa18); intro gb101 hg w3 hbox hb; have hx_ := qHX HB hb qa1; have n0_ := qO (below_step (below_step HB.out hx_) hb); have n1_ := qO (hbox); have n2_ := qO ((qa14 : w.heap.size ≤ gb101)); have n3_ := n2_; clear HB; have HB := n0_; have BK101 := n1_; have GW101 := n2_; have GE101 := n3_; clear n0_ n1_ n2_ n3_; clear hx_; clear hb hbox hg) | ((with_reducible refine gate_dst (N := 2) rfl ?_); refine box_event ?hg (N := 2) ?hd (cs := #[.string (⟨#[]⟩ : ByteArray), .slice none 0 0, .string (⟨#[]⟩ : ByteArray), .bool false, .bool false]) (t := 47) ?hr ?_; (case hd => rfl); (case hg => rfl); (case hr => exact qa18); intro gb102 hg w4 hbox hb; have hx_ := qHX HB hb qa1; have n0_ := qO (qB BK101.out hx_ hb); have n1_ := qO (below_step (below_step HB.out hx_) hb); have n2_ := qO (hbox); have n3_ := qO ((qa14 : w.heap.size ≤ gb102)); have n4_ := n3_; have n5_ := qO ((qa83 : gb101 ≠ gb102)); have n6_ := qO (Ne.symm n5_.out); clear BK101; clear HB; have BK101 := n0_; have HB := n1_; have BK102 := n2_; have GW102 := n3_; have GE102 := n4_; have NB101_102 := n5_; have NB102_101 := n6_; clear n0_ n1_ n2_ n3_ n4_ n5_ n6_; clear hx_; clear hb hbox hg) | ((with_reducible refine gate_dst (N := 3) rfl ?_); refine box_event ?hg (N := 3) ?hd (cs := #[.string (⟨#[]⟩ : ByteArray), .slice none 0 0, .string (⟨#[]⟩ : ByteArray), .bool false, .bool false]) (t := 47) ?hr ?_; (case hd => rfl); (case hg => rfl); (case hr => exact qa18); intro gb103 hg w5 hbox hb; have hx_ := qHX HB hb qa1; have n0_ := qO (qB BK101.out hx_ hb); have n1_ := qO (qB BK102.out hx_ hb); have n2_ := qO (below_step (below_step HB.out hx_) hb); have n3_ := qO (hbox); have n4_ := qO ((qa14 : w.heap.size ≤ gb103)); have n5_ := n4_; have n6_ := qO ((qa83 : gb101 ≠ gb103)); have n7_ := qO (Ne.symm n6_.out); have n8_ := qO ((by rw [hg]; exact Nat.ne_of_lt (blk_lt (g := gb102) (o := .cells #[.string (⟨#[]⟩ : ByteArray), .slice none 0 0, .string (⟨#[]⟩ : ByteArray), .bool false, .bool false] 47 (0, 0)) (by (with_reducible repeat (first | refine qkN ?_ _ | refine qkD ?_ | refine qkA ?_ _)); exact BK102.out)) : gb102 ≠ gb103)); have n9_ := qO (Ne.symm n8_.out); clear BK101; clear BK102; clear HB; have BK101 := n0_; have BK102 := n1_; have HB := n2_; have BK103 := n3_; have GW103 := n4_; have GE103 := n5_; have NB101_103 := n6_; have NB103_101 := n7_; have NB102_103 := n8_; have NB103_102 := n9_; clear n0_ n1_ n2_ n3_ n4_ n5_ n6_ n7_ n8_ n9_; clear hx_; clear hb hbox hg; have hnb6 := NB101_102.out; have hnc6 := NB102_101.out; have hnb7 := NB101_103.out; have hnc7 := NB103_101.out; have hcz8_0 : w5.cell? ⟨gb101, 0, none⟩ = some (.string a0_0) := (blk_cell BK101.out 0).trans rfl; have hcz8_1 : w5.cell? ⟨gb101, 1, none⟩ = some (.slice A0_1 l0_1.length c0_1) := (blk_cell BK101.out 1).trans rfl; have hcz8_2 : w5.cell? ⟨gb101, 2, none⟩ = some (.string a0_2) := (blk_cell BK101.out 2).trans rfl; have hcz8_3 : w5.cell? ⟨gb101, 3, none⟩ = some (.bool a0_3) := (blk_cell BK101.out 3).trans rfl; have hcz8_4 : w5.cell? ⟨gb101, 4, none⟩ = some (.bool a0_4) := (blk_cell BK101.out 4).trans rfl; have hfz8_0 := blk_frozen BK101.out 0; have hfz8_1 := blk_frozen BK101.out 1; have hfz8_2 := blk_frozen BK101.out 2; have hfz8_3 := blk_frozen BK101.out 3; have hfz8_4 := blk_frozen BK101.out 4; have hnb9 := NB103_102.out; have hnc9 := NB102_103.out; have hcz10_0 : w5.cell? ⟨gb103, 0, none⟩ = some (.string (⟨#[]⟩ : ByteArray)) := (blk_cell BK103.out 0).trans rfl; have hcz10_1 : w5.cell? ⟨gb103, 1, none⟩ = some (.slice none 0 0) := (blk_cell BK103.out 1).trans rfl; have hcz10_2 : w5.cell? ⟨gb103, 2, none⟩ = some (.string (⟨#[]⟩ : ByteArray)) := (blk_cell BK103.out 2).trans rfl; have hcz10_3 : w5.cell? ⟨gb103, 3, none⟩ = some (.bool false) := (blk_cell BK103.out 3).trans rfl; have hcz10_4 : w5.cell? ⟨gb103, 4, none⟩ = some (.bool false) := (blk_cell BK103.out 4).trans rfl; have hfz10_0 := blk_frozen BK103.out 0; have hfz10_1 := blk_frozen BK103.out 1; have hfz10_2 := blk_frozen BK103.out 2; have hfz10_3 := blk_frozen BK103.out 3; have hfz10_4 := blk_frozen BK103.out 4) | ((with_reducible refine gate_callee (f := 64) rfl ?_); refine goesL_ (some 9) rfl rfl Tryd.func64 qa16 rfl #[.slice A0_1 l0_1.length c0_1] rfl qa0 ?_; (with_reducible refine (laws_toArgDefS.calls k _ _ l0_1 t104 _ ?side1 ?side2 A2.out).mono ?_); (case side1 => exact qa96); (case side2 => exact HC0_1.out); rintro e w11 ⟨v105, rfl, ho0, hb⟩; refine ⟨_, rfl, ?_⟩; have n0_ := qO (Kd.R_lower ho0 (below_size qa35)); have n1_ := qO (blk_below (g := gb101) (o := .cells #[.string a0_0, .slice A0_1 l0_1.length c0_1, .string a0_2, .bool a0_3, .bool a0_4] 91 (0, 0)) qa90 hb); have n2_ := qO (blk_below (g := gb102) (o := .cells #[.string (⟨#[]⟩ : ByteArray), .slice none 0 0, .string (⟨#[]⟩ : ByteArray), .bool false, .bool false] 47 (0, 0)) qa91 hb); have n3_ := qO (blk_below (g := gb103) (o := .cells #[.string a0_0, .slice none 0 0, .string (⟨#[]⟩ : ByteArray), .bool false, .bool false] 47 (0, 0)) (by (with_reducible repeat (first | refine qkN ?_ _ | refine qkD ?_ | refine qkA ?_ _)); refine blk_put (cs := #[.string (⟨#[]⟩ : ByteArray), .slice none 0 0, .string (⟨#[]⟩ : ByteArray), .bool false, .bool false]) ?_ 0 _ rfl; (with_reducible repeat (first | refine qkN ?_ _ | refine qkD ?_ | refine qkA ?_ _)); exact BK103.out) hb); have n4_ := qO (below_step qa35 hb); clear BK101; clear BK102; clear BK103; clear HB; have HO106 := n0_; have BK101 := n1_; have BK102 := n2_; have BK103 := n3_; have HB := n4_; clear n0_ n1_ n2_ n3_ n4_; (try clear hb); (try clear hb2); (try clear hk); (try clear hi); (try clear ho0); obtain ⟨Ao12, co12, eo12⟩ := Kd.R_slice HO106.out; subst eo12; have hcz13_0 : w11.cell? ⟨gb103, 0, none⟩ = some (.string a0_0) := (blk_cell BK103.out 0).trans rfl; have hcz13_1 : w11.cell? ⟨gb103, 1, none⟩ = some (.slice none 0 0) := (blk_cell BK103.out 1).trans rfl; have hcz13_2 : w11.cell? ⟨gb103, 2, none⟩ = some (.string (⟨#[]⟩ : ByteArray)) := (blk_cell BK103.out 2).trans rfl; have hcz13_3 : w11.cell? ⟨gb103, 3, none⟩ = some (.bool false) := (blk_cell BK103.out 3).trans rfl; have hcz13_4 : w11.cell? ⟨gb103, 4, none⟩ = some (.bool false) := (blk_cell BK103.out 4).trans rfl; have hfz13_0 := blk_frozen BK103.out 0; have hfz13_1 := blk_frozen BK103.out 1; have hfz13_2 := blk_frozen BK103.out 2; have hfz13_3 := blk_frozen BK103.out 3; have hfz13_4 := blk_frozen BK103.out 4; have hcz14_0 : w11.cell? ⟨gb101, 0, none⟩ = some (.string a0_0) := (blk_cell BK101.out 0).trans rfl; have hcz14_1 : w11.cell? ⟨gb101, 1, none⟩ = some (.slice A0_1 l0_1.length c0_1) := (blk_cell BK101.out 1).trans rfl; have hcz14_2 : w11.cell? ⟨gb101, 2, none⟩ = some (.string a0_2) := (blk_cell BK101.out 2).trans rfl; have hcz14_3 : w11.cell? ⟨gb101, 3, none⟩ = some (.bool a0_3) := (blk_cell BK101.out 3).trans rfl; have hcz14_4 : w11.cell? ⟨gb101, 4, none⟩ = some (.bool a0_4) := (blk_cell BK101.out 4).trans rfl; have hfz14_0 := blk_frozen BK101.out 0; have hfz14_1 := blk_frozen BK101.out 1; have hfz14_2 := blk_frozen BK101.out 2; have hfz14_3 := blk_frozen BK101.out 3; have hfz14_4 := blk_frozen BK101.out 4; have hcz15_0 : w11.cell? ⟨gb102, 0, none⟩ = some (.string (⟨#[]⟩ : ByteArray)) := (blk_cell BK102.out 0).trans rfl; have hcz15_1 : w11.cell? ⟨gb102, 1, none⟩ = some (.slice none 0 0) := (blk_cell BK102.out 1).trans rfl; have hcz15_2 : w11.cell? ⟨gb102, 2, none⟩ = some (.string (⟨#[]⟩ : ByteArray)) := (blk_cell BK102.out 2).trans rfl; have hcz15_3 : w11.cell? ⟨gb102, 3, none⟩ = some (.bool false) := (blk_cell BK102.out 3).trans rfl; have hcz15_4 : w11.cell? ⟨gb102, 4, none⟩ = some (.bool false) := (blk_cell BK102.out 4).trans rfl; have hfz15_0 := blk_frozen BK102.out 0; have hfz15_1 := blk_frozen BK102.out 1; have hfz15_2 := blk_frozen BK102.out 2; have hfz15_3 := blk_frozen BK102.out 3; have hfz15_4 := blk_frozen BK102.out 4))
 refine bodyPost_ret (results_cell_row rfl _ _ gb102 47 #[.string a0_0, .slice Ao12 t104.length co12, .string a0_2, .bool a0_3, .bool a0_4] (0, 0) _ rfl (by (with_reducible repeat (first | refine qkN ?_ _ | refine qkD ?_ | refine qkA ?_ _)); refine blk_put (cs := #[.string a0_0, .slice Ao12 t104.length co12, .string a0_2, .bool a0_3, .bool false]) ?_ 4 _ rfl; (with_reducible repeat (first | refine qkN ?_ _ | refine qkD ?_ | refine qkA ?_ _)); refine blk_put (cs := #[.string a0_0, .slice Ao12 t104.length co12, .string a0_2, .bool false, .bool false]) ?_ 3 _ rfl; (with_reducible repeat (first | refine qkN ?_ _ | refine qkD ?_ | refine qkA ?_ _)); refine blk_put (cs := #[.string a0_0, .slice Ao12 t104.length co12, .string (⟨#[]⟩ : ByteArray), .bool false, .bool false]) ?_ 2 _ rfl; (with_reducible repeat (first | refine qkN ?_ _ | refine qkD ?_ | refine qkA ?_ _)); refine blk_put (cs := #[.string a0_0, .slice none 0 0, .string (⟨#[]⟩ : ByteArray), .bool false, .bool false]) ?_ 1 _ rfl; (with_reducible repeat (first | refine qkN ?_ _ | refine qkD ?_ | refine qkA ?_ _)); refine blk_put (cs := #[.string (⟨#[]⟩ : ByteArray), .slice none 0 0, .string (⟨#[]⟩ : ByteArray), .bool false, .bool false]) ?_ 0 _ rfl; (with_reducible repeat (first | refine qkN ?_ _ | refine qkD ?_ | refine qkA ?_ _)); refine blk_far ?_ NB102_103.out _; (with_reducible repeat (first | refine qkN ?_ _ | refine qkD ?_ | refine qkA ?_ _)); refine blk_far ?_ NB102_103.out _; (with_reducible repeat (first | refine qkN ?_ _ | refine qkD ?_ | refine qkA ?_ _)); refine blk_far ?_ NB102_103.out _; (with_reducible repeat (first | refine qkN ?_ _ | refine qkD ?_ | refine qkA ?_ _)); refine blk_far ?_ NB102_103.out _; (with_reducible repeat (first | refine qkN ?_ _ | refine qkD ?_ | refine qkA ?_ _)); exact BK102.out) Tryd.underlying47 rfl qa16) rfl ?_
 exact ⟨_, qa5, by (with_reducible repeat (first | apply Kd.R_alloc | apply Kd.R_drewN | apply Kd.R_drew)); exact Kd.R_mono (Kd.R_far (p := ⟨gb102, 4, none⟩) (Kd.R_far (p := ⟨gb102, 3, none⟩) (Kd.R_far (p := ⟨gb102, 2, none⟩) (Kd.R_far (p := ⟨gb102, 1, none⟩) (Kd.R_far (p := ⟨gb102, 0, none⟩) (Kd.R_far (p := ⟨gb103, 4, none⟩) (Kd.R_far (p := ⟨gb103, 3, none⟩) (Kd.R_far (p := ⟨gb103, 2, none⟩) (Kd.R_far (p := ⟨gb103, 1, none⟩) (Kd.R_types (Kd.R_types HO106.out BK103.out (by decide)) BK102.out (by decide)) (fun _ hk => hk.1.2) (.slice Ao12 t104.length co12)) (fun _ hk => hk.1.2) (.string a0_2)) (fun _ hk => hk.1.2) (.bool a0_3)) (fun _ hk => hk.1.2) (.bool a0_4)) (fun _ hk => hk.2) (.string a0_0)) (fun _ hk => hk.2) (.slice Ao12 t104.length co12)) (fun _ hk => hk.2) (.string a0_2)) (fun _ hk => hk.2) (.bool a0_3)) (fun _ hk => hk.2) (.bool a0_4)) (fun _ hk => trivial), qa35⟩


def laws_toFieldDefS.l0 : Nat → List (S91) → List (S47) → Int → Option ((List (S47)))
 | 0, _, _, _ => none
 | k + 1, x0, x3, x4 => if x4 < (x0.length : Int) then (if 0 ≤ x4 then ((laws_toFieldDef.f k ((rd_T91 x0 x4).f0) ((rd_T91 x0 x4).f1) ((rd_T91 x0 x4).f2) ((rd_T91 x0 x4).f3) ((rd_T91 x0 x4).f4)).bind fun bt105 => (if x4 < (x3.length : Int) then (laws_toFieldDefS.l0 k x0 (x3.set (x4 : Int).toNat (⟨bt105.1, bt105.2.1, bt105.2.2.1, bt105.2.2.2.1, bt105.2.2.2.2⟩ : S47)) (wrap64 (x4 + 1))) else (none))) else (none)) else (some x3)
def laws_toFieldDefS.f (k : Nat) (l0 : List (S91)) : Option ((List (S47))) := if 0 ≤ (l0.length : Int) then (if ((l0.length : Int) : Int).toNat ≤ 4398046511104 then (laws_toFieldDefS.l0 k l0 (List.replicate ((l0.length : Int) : Int).toNat z47) 0) else (none)) else (none)
set_option maxHeartbeats 8000000 in
set_option maxRecDepth 100000 in
theorem laws_toFieldDefS.calls (k : Nat) (A0 : Option Addr) (c0 : Nat) (l0 : List (S91)) (r : List (S47)) (w : World) (hr0 : Kd.C k91 w A0 l0.length l0) (hc0 : l0.length ≤ c0) (h : laws_toFieldDefS.f k l0 = some r) :
  Calls Tryd.prog 40 #[.slice A0 l0.length c0] w fun e w' => ∃ v0_ : Value, e = .returned (v0_) ∧ Kd.S k47 47 w' w.heap.size (fun _ => True) v0_ r ∧ Below w.heap.size w w' := by
 have hu91 := Tryd.underlying91; have hu47 := Tryd.underlying47; have HR0 := qO hr0; have HC0 := qO hc0; clear hr0 hc0; have HB := qO (Below.refl w.heap.size w); have H : (if 0 ≤ (l0.length : Int) then (if ((l0.length : Int) : Int).toNat ≤ 4398046511104 then (laws_toFieldDefS.l0 k l0 (List.replicate ((l0.length : Int) : Int).toNat z47) 0) else (none)) else (none)) = some r := h; clear h
 by_cases c2 : 0 ≤ (l0.length : Int)
 ·rw [if_pos c2] at H
  have c2b0 := eq_true c2; have c2b1 : decide (0 ≤ (l0.length : Int)) = true := decide_eq_true c2; clear c2
  by_cases c3 : ((l0.length : Int) : Int).toNat ≤ 4398046511104
  ·rw [if_pos c3] at H
   have c3b0 := eq_true c3; have c3b1 : decide (((l0.length : Int) : Int).toNat ≤ 4398046511104) = true := decide_eq_true c3; clear c3; obtain ⟨y101, hy101⟩ : ∃ y_ : List (S47), y_ = (List.replicate ((l0.length : Int) : Int).toNat z47) := ⟨_, rfl⟩; replace H : (laws_toFieldDefS.l0 k l0 y101 0) = some r := by first | (rw [hy101]; with_reducible exact H) | (have H2_ := (Option.bind_some _ _).symm.trans H; rw [hy101]; with_reducible exact H2_) | (have H2_ := (Option.bind_some _ _).symm.trans H; with_reducible exact H2_) | with_reducible exact H | (rw [hy101]; exact H) | exact H
   have Ny101 := qO hy101; clear hy101; have H' := qO H; clear H
   go_enter Tryd.func40, Tryd.ntmps40
   go_wp2_with (first | ((with_reducible refine gate_dst (N := 7) rfl ?_); refine Kd.S_make k47 _ 47 rfl (N := 7) rfl 39 _ _ rfl (l0.length : Int) rfl rfl Tryd.underlying39 (.agg #[(.string ⟨#[]⟩), (.slice none 0 0), (.string ⟨#[]⟩), (.bool false), (.bool false)]) 64 info47 rfl qa60 qa25 z47 (ok := fun _ => True) (okp := fun _ => True) (k47_mkM _ _ _ z47 (Kd.R_nil _ _ _ _ _)) (fun _ hk => hk) trivial (qT qa6) (Nat.le_trans (Nat.mul_le_mul_right _ (qT qa6 : (l0.length : Int).toNat ≤ 4398046511104)) qa25) (Below.refl _ _) (Nat.le_refl _) ?_; intro v102 w4 ho5 hb hg_ hnew_; clear hg_ hnew_; (first | rw [← Ny101.out] at ho5 | (simp only [Int.reduceToNat] at ho5; rw [← Ny101.out] at ho5)); have n0_ := qO (Kd.S_lower ho5 (below_size qa11)); have n1_ := qO (below_step qa11 hb); clear HB; have HO103 := n0_; have HB := n1_; clear n0_ n1_; clear hb ho5))
   go_loopg [4] k (fun kq v4 w' => ∃ (x3_1 : List (S47)) (x4_1 : Int), v4 = .int .i64 x4_1 ∧ Aside0 (laws_toFieldDefS.l0 kq l0 x3_1 x4_1 = some r) ∧ Aside0 (kq ≤ k) ∧ Aside0 (Kd.S k47 47 w' w.heap.size (fun _ => True) v102 x3_1) ∧ Aside0 (Below w.heap.size w w'))
   case atStart => exact ⟨(y101), (0), qa10, H', ⟨Nat.le_refl _⟩, ⟨by (with_reducible repeat (first | apply Kd.S_alloc | apply Kd.S_drewN | apply Kd.S_drew)); exact HO103.out⟩, ⟨qa11⟩⟩
   case round =>
    clear H'
    try clear c2
    try clear c2b0
    try clear c2b1
    try clear p2
    try clear c3
    try clear c3b0
    try clear c3b1
    try clear c4
    obtain ⟨x3_1, x4_1, rfl, HA, HK1, HO_3, HB⟩ := hrel
    cases gk with
    | zero => exact absurd HA.out (by simp [laws_toFieldDefS.l0])
    | succ k1 =>
     have H := HA.out; clear HA; simp only [laws_toFieldDefS.l0] at H
     by_cases c6 : x4_1 < (l0.length : Int)
     ·rw [if_pos c6] at H
      have c6b0 : decide (x4_1 < (l0.length : Int)) = true := decide_eq_true c6; clear c6
      by_cases c7 : 0 ≤ x4_1
      ·rw [if_pos c7] at H
       have c7b0 : decide (0 ≤ x4_1) = true := decide_eq_true c7; clear c7; replace H := Option.bind_eq_some_iff.mp H; obtain ⟨⟨t105, t106, t109, t110, t111⟩, A80, H⟩ := H; replace H : (if x4_1 < (x3_1.length : Int) then (laws_toFieldDefS.l0 k1 l0 (x3_1.set (x4_1 : Int).toNat (⟨t105, t106, t109, t110, t111⟩ : S47)) (wrap64 (x4_1 + 1))) else (none)) = some r := H; have A8 := qO A80; clear A80
       by_cases c9 : x4_1 < (x3_1.length : Int)
       ·rw [if_pos c9] at H
        have c9b0 : decide (x4_1 < (x3_1.length : Int)) = true := decide_eq_true c9; clear c9; obtain ⟨y112, hy112⟩ : ∃ y_ : List (S47), y_ = (x3_1.set (x4_1 : Int).toNat (⟨t105, t106, t109, t110, t111⟩ : S47)) := ⟨_, rfl⟩; replace H : (laws_toFieldDefS.l0 k1 l0 y112 (wrap64 (x4_1 + 1))) = some r := by first | (rw [hy112]; with_reducible exact H) | (have H2_ := (Option.bind_some _ _).symm.trans H; rw [hy112]; with_reducible exact H2_) | (have H2_ := (Option.bind_some _ _).symm.trans H; with_reducible exact H2_) | with_reducible exact H | (rw [hy112]; exact H) | exact H
        have Ny112 := qO hy112; clear hy112; have H' := qO H; clear H; have p104 : 0 ≤ (x4_1 : Int) := qT qa6; have q104 : x4_1 < (l0.length : Int) := qT qa6; obtain ⟨ad104, A104_1, c104_1, e104, hx104_0, hx104_1, hx104_2, hx104_3, hx104_4, hl104_1, hi104_1⟩ := at_T91 HR0.out x4_1 p104 q104
        cases e104
        replace hx104_0 := (HB.out.cell (qL w _ hx104_0)).trans hx104_0; replace hx104_1 := (HB.out.cell (qL w _ hx104_1)).trans hx104_1; replace hx104_2 := (HB.out.cell (qL w _ hx104_2)).trans hx104_2; replace hx104_3 := (HB.out.cell (qL w _ hx104_3)).trans hx104_3; replace hx104_4 := (HB.out.cell (qL w _ hx104_4)).trans hx104_4; have HR104_1 := qO hi104_1; have HC104_1 := qO hl104_1; clear hi104_1 hl104_1; replace p104 := eq_true p104; replace q104 := eq_true q104
        go_wp2_with (first | ((with_reducible refine gate_callee (f := 56) rfl ?_); refine goesL_ (some 20) rfl rfl Tryd.func56 qa16 rfl #[.agg #[.string ((rd_T91 l0 x4_1).f0), .slice A104_1 ((rd_T91 l0 x4_1).f1).length c104_1, .string ((rd_T91 l0 x4_1).f2), .bool ((rd_T91 l0 x4_1).f3), .bool ((rd_T91 l0 x4_1).f4)]] rfl qa0 ?_; (with_reducible refine (laws_toFieldDef.calls k1 ((rd_T91 l0 x4_1).f0) _ _ ((rd_T91 l0 x4_1).f1) ((rd_T91 l0 x4_1).f2) ((rd_T91 l0 x4_1).f3) ((rd_T91 l0 x4_1).f4) t105 t106 t109 t110 t111 _ ?side1 ?side2 A8.out).mono ?_); (case side1 => exact qa77); (case side2 => exact HC104_1.out); rintro e w11 ⟨v107, rfl, ho0, hb⟩; have hx_ := qHX HB hb qa1; refine ⟨_, rfl, ?_⟩; have n0_ := qO (Kd.S_elder' qa110 (Kd.R_base ho0) hb); have n1_ := qO (Kd.R_lower ho0 (below_size (below_step HB.out hx_))); have n2_ := qO (below_step (below_step HB.out hx_) hb); clear HO_3; clear HB; have HO_3 := n0_; have HO108 := n1_; have HB := n2_; clear n0_ n1_ n2_; clear hx_; (try clear hb); (try clear hb2); (try clear hk); (try clear hi); (try clear ho0); have p10 : 0 ≤ (x4_1 : Int) := qT qa6; have q10 : (x4_1 : Int) < ((x3_1.length : Int) : Int) := qT qa6; obtain ⟨go10, co10, eo10, gb10, gl10, cl10, HG10⟩ := Kd.S_form HO_3.out qa25; (first | cases eo10 | (injection eo10 with ea_ en_ ec_; (first | subst ea_ | (injection ea_ with ea_; subst ea_)); subst ec_; clear en_)); have GB10 := qO gb10; have GG10 := qO HG10; clear gb10 gl10 HG10; obtain ⟨_, ce10, hcl10, hM10, hcc10, hfr10, _, _⟩ := Kd.S_elem HO_3.out z47 (x4_1 : Int) p10 q10; obtain ⟨ve10_1, rfl, ge10_1⟩ := k47_openM hM10; have hx10_0 : w11.cell? ⟨go10, (x4_1 : Int).toNat * 5, none⟩ = some (.string ((rd_T47 x3_1 x4_1).f0)) := hcc10 0 _ rfl; have hx10_1 : w11.cell? ⟨go10, (x4_1 : Int).toNat * 5 + 1, none⟩ = some (ve10_1) := hcc10 1 _ rfl; have hx10_2 : w11.cell? ⟨go10, (x4_1 : Int).toNat * 5 + 2, none⟩ = some (.string ((rd_T47 x3_1 x4_1).f2)) := hcc10 2 _ rfl; have hx10_3 : w11.cell? ⟨go10, (x4_1 : Int).toNat * 5 + 3, none⟩ = some (.bool ((rd_T47 x3_1 x4_1).f3)) := hcc10 3 _ rfl; have hx10_4 : w11.cell? ⟨go10, (x4_1 : Int).toNat * 5 + 4, none⟩ = some (.bool ((rd_T47 x3_1 x4_1).f4)) := hcc10 4 _ rfl; have hf10_0 : w11.frozen? ⟨go10, (x4_1 : Int).toNat * 5, none⟩ = false := hfr10 0; have hf10_1 : w11.frozen? ⟨go10, (x4_1 : Int).toNat * 5 + 1, none⟩ = false := hfr10 1; have hf10_2 : w11.frozen? ⟨go10, (x4_1 : Int).toNat * 5 + 2, none⟩ = false := hfr10 2; have hf10_3 : w11.frozen? ⟨go10, (x4_1 : Int).toNat * 5 + 3, none⟩ = false := hfr10 3; have hf10_4 : w11.frozen? ⟨go10, (x4_1 : Int).toNat * 5 + 4, none⟩ = false := hfr10 4; clear hcl10 hcc10 hfr10; (try clear hM10); replace p10 := eq_true p10; replace q10 := eq_true q10; have n_ := qO (Kd.S_mono (ok' := (fun k_ => some k_ ≠ (v107 : Value).ownBlock)) HO_3.out (fun k_ hk => hk.2)); clear HO_3; have HO_3 := n_; clear n_; have HX12 := qO (show Kd.S k47 47 w11 w.heap.size (fun k_ => ((fun _ => True)) k_ ∧ ¬ ((fun k_ => some k_ = (v107 : Value).ownBlock)) k_) (.slice (some ⟨go10, 0, none⟩) x3_1.length co10) x3_1 from (by (with_reducible repeat (first | apply Kd.S_alloc | apply Kd.S_drewN | apply Kd.S_drew)); exact Kd.S_mono HO_3.out (fun k_ hk => ⟨trivial, fun e_ => hk e_⟩))); obtain ⟨oki12, ce12, hcl12, hM12, hcc12, hfr12, hoki12, hH12⟩ := Kd.S_elem HX12.out z47 (x4_1 : Int) (qT qa6) (by have h_ : (x4_1 : Int) < ((x3_1.length : Int) : Int) := qT qa6; first | exact h_ | (have e_ := (Kd.S_reads' HO_3.out).1; omega) | simpa using h_); obtain ⟨ve12_1, rfl, ge12_1⟩ := k47_openM hM12; have HP12 := Kd.S_seg hH12 (qT qa6) (by have h_ : (x4_1 : Int) < ((x3_1.length : Int) : Int) := qT qa6; first | exact h_ | (have e_ := (Kd.S_reads' HO_3.out).1; omega) | simpa using h_) (seg := [.string t105, v107, .string t109, .bool t110, .bool t111]) (j := 0) (show 5 ≤ 5 from by decide) (x' := (⟨t105, t106, t109, t110, t111⟩ : S47)) (k47_mkM _ _ _ (⟨t105, t106, t109, t110, t111⟩ : S47) (Kd.R_mono (Kd.R_tight rfl (Kd.R_mono (ok' := fun k_ => ((fun _ => True)) k_ ∧ k_ ≠ go10) (Kd.R_apart' (HO108.out) (Kd.S_typed HO_3.out) qa60) (fun k_ hk => ⟨trivial, fun e_ => (hk.2) (by rw [e_]; rfl)⟩))) (fun _ h_ => Or.inr (h_)))) (fun _ hk => hk) (fun k_ hk_ => ((Kd.R_mono (ok' := fun k_ => ((fun _ => True)) k_ ∧ k_ ≠ go10) (Kd.R_apart' (HO108.out) (Kd.S_typed HO_3.out) qa60) (fun k_ hk => ⟨trivial, fun e_ => (hk.2) (by rw [e_]; rfl)⟩))).1 k_ hk_.symm); have hx12_0 := hcc12 0 _ rfl; (try simp only [show (k47).sz = 5 from rfl, Nat.mul_one, Nat.add_zero] at hx12_0); have hf12_0 := hfr12 0; (try simp only [show (k47).sz = 5 from rfl, Nat.mul_one, Nat.add_zero] at hf12_0); have hx12_1 := hcc12 1 _ rfl; (try simp only [show (k47).sz = 5 from rfl, Nat.mul_one, Nat.add_zero] at hx12_1); have hf12_1 := hfr12 1; (try simp only [show (k47).sz = 5 from rfl, Nat.mul_one, Nat.add_zero] at hf12_1); have hx12_2 := hcc12 2 _ rfl; (try simp only [show (k47).sz = 5 from rfl, Nat.mul_one, Nat.add_zero] at hx12_2); have hf12_2 := hfr12 2; (try simp only [show (k47).sz = 5 from rfl, Nat.mul_one, Nat.add_zero] at hf12_2); have hx12_3 := hcc12 3 _ rfl; (try simp only [show (k47).sz = 5 from rfl, Nat.mul_one, Nat.add_zero] at hx12_3); have hf12_3 := hfr12 3; (try simp only [show (k47).sz = 5 from rfl, Nat.mul_one, Nat.add_zero] at hf12_3); have hx12_4 := hcc12 4 _ rfl; (try simp only [show (k47).sz = 5 from rfl, Nat.mul_one, Nat.add_zero] at hx12_4); have hf12_4 := hfr12 4; (try simp only [show (k47).sz = 5 from rfl, Nat.mul_one, Nat.add_zero] at hf12_4); clear hcl12 hcc12 hfr12; (try clear hM12); clear hoki12 hH12) | ((with_reducible refine gate_store (t := 47) (p := 21) rfl ?_); refine store_event (t := 47) (p := 21) (v := ?vo_w13) (w1 := (((((w11.setCell ⟨go10, (x4_1 : Int).toNat * 5, none⟩ (.string t105)).setCell ⟨go10, (x4_1 : Int).toNat * 5 + 1, none⟩ (v107)).setCell ⟨go10, (x4_1 : Int).toNat * 5 + 2, none⟩ (.string t109)).setCell ⟨go10, (x4_1 : Int).toNat * 5 + 3, none⟩ (.bool t110)).setCell ⟨go10, (x4_1 : Int).toNat * 5 + 4, none⟩ (.bool t111))) ?hg ?ho ?hn ?hr ?_; (case ho => rfl); (case hg => rfl); (case hn => rfl); (case hr => obtain ⟨Av0_, cv0_, ev0_⟩ := Kd.R_slice HO108.out; rw [ev0_]; first | (go_simp; done) | (go_simp; rfl)); intro w13 hw; have hg : w11.grownBy w13 (some go10) := (by rw [hw]; exact HP12.2); have hp_ : Kd.S k47 47 w13 w.heap.size (fun _ => True) (.slice (some ⟨go10, 0, none⟩) x3_1.length co10) y112 := (by rw [hw, Ny112.out]; exact HP12.1); clear HP12; have n0_ := qO (hp_); have n1_ := qO ((by rw [hw]; exact qbS (qbS (qbS (qbS (qbS (HB.out) GB10.out) GB10.out) GB10.out) GB10.out) GB10.out : Below w.heap.size w w13)); clear HO_3; clear HB; clear HO108; have HO_3 := n0_; have HB := n1_; clear n0_ n1_; clear hg hw hp_))
        go_roundg k1
        case measure => have := HK1.out; omega
        case rel => exact ⟨(y112), (wrap64 (x4_1 + 1)), qa10, H', ⟨qa99⟩, ⟨qa110⟩, ⟨qa11⟩⟩
       ·rw [if_neg c9] at H
        exact absurd H qa76
      ·rw [if_neg c7] at H
       exact absurd H qa76
     ·rw [if_neg c6] at H
      have c6b0 : decide (x4_1 < (l0.length : Int)) = false := decide_eq_false c6; clear c6; obtain rfl := Option.some.inj H; go_wp2
      go_ret
      exact ⟨_, qa5, qa110, qa11⟩
  ·rw [if_neg c3] at H
   exact absurd H qa76
 ·rw [if_neg c2] at H
  exact absurd H qa76


def laws_toTypeDef.f (k : Nat) (a0_0 : ByteArray) (l0_1 : List (S91)) : Option (ByteArray × (List (S47))) := (laws_toFieldDefS.f k l0_1).bind fun t104 => (some (a0_0, t104))
set_option maxHeartbeats 8000000 in
set_option maxRecDepth 100000 in
theorem laws_toTypeDef.calls (k : Nat) (a0_0 : ByteArray) (A0_1 : Option Addr) (c0_1 : Nat) (l0_1 : List (S91)) (r1 : ByteArray) (r2 : List (S47)) (w : World) (hr0_1 : Kd.C k91 w A0_1 l0_1.length l0_1) (hc0_1 : l0_1.length ≤ c0_1) (h : laws_toTypeDef.f k a0_0 l0_1 = some (r1, r2)) :
  Calls Tryd.prog 28 #[.agg #[.string a0_0, .slice A0_1 l0_1.length c0_1]] w fun e w' => ∃ v1_ : Value, e = .returned (.agg #[.string r1, v1_]) ∧ Kd.S k47 47 w' w.heap.size (fun _ => True) v1_ r2 ∧ Below w.heap.size w w' := by
 have hu54 := Tryd.underlying54; have hu41 := Tryd.underlying41; have HR0_1 := qO hr0_1; have HC0_1 := qO hc0_1; clear hr0_1 hc0_1; have HB := qO (Below.refl w.heap.size w); have H : ((laws_toFieldDefS.f k l0_1).bind fun t104 => (some (a0_0, t104))) = some (r1, r2) := h; clear h; replace H := Option.bind_eq_some_iff.mp H; obtain ⟨t104, A20, H⟩ := H; replace H : (some (a0_0, t104)) = some (r1, r2) := H; have A2 := qO A20; clear A20; simp only [Option.some.injEq, Prod.mk.injEq] at H; obtain ⟨rfl, rfl⟩ := H
 go_enter Tryd.func28, Tryd.ntmps28
 go_wp2_with (first | ((with_reducible refine gate_dst (N := 1) rfl ?_); refine box_event ?hg (N := 1) ?hd (cs := #[.string a0_0, .slice A0_1 l0_1.length c0_1]) (t := 54) ?hr ?_; (case hd => rfl); (case hg => rfl); (case hr => exact qa18); intro gb101 hg w3 hbox hb; have hx_ := qHX HB hb qa1; have n0_ := qO (below_step (below_step HB.out hx_) hb); have n1_ := qO (hbox); have n2_ := qO ((qa14 : w.heap.size ≤ gb101)); have n3_ := n2_; clear HB; have HB := n0_; have BK101 := n1_; have GW101 := n2_; have GE101 := n3_; clear n0_ n1_ n2_ n3_; clear hx_; clear hb hbox hg) | ((with_reducible refine gate_dst (N := 2) rfl ?_); refine box_event ?hg (N := 2) ?hd (cs := #[.string (⟨#[]⟩ : ByteArray), .slice none 0 0]) (t := 41) ?hr ?_; (case hd => rfl); (case hg => rfl); (case hr => exact qa18); intro gb102 hg w4 hbox hb; have hx_ := qHX HB hb qa1; have n0_ := qO (qB BK101.out hx_ hb); have n1_ := qO (below_step (below_step HB.out hx_) hb); have n2_ := qO (hbox); have n3_ := qO ((qa14 : w.heap.size ≤ gb102)); have n4_ := n3_; have n5_ := qO ((qa89 : gb101 ≠ gb102)); have n6_ := qO (Ne.symm n5_.out); clear BK101; clear HB; have BK101 := n0_; have HB := n1_; have BK102 := n2_; have GW102 := n3_; have GE102 := n4_; have NB101_102 := n5_; have NB102_101 := n6_; clear n0_ n1_ n2_ n3_ n4_ n5_ n6_; clear hx_; clear hb hbox hg) | ((with_reducible refine gate_dst (N := 3) rfl ?_); refine box_event ?hg (N := 3) ?hd (cs := #[.string (⟨#[]⟩ : ByteArray), .slice none 0 0]) (t := 41) ?hr ?_; (case hd => rfl); (case hg => rfl); (case hr => exact qa18); intro gb103 hg w5 hbox hb; have hx_ := qHX HB hb qa1; have n0_ := qO (qB BK101.out hx_ hb); have n1_ := qO (qB BK102.out hx_ hb); have n2_ := qO (below_step (below_step HB.out hx_) hb); have n3_ := qO (hbox); have n4_ := qO ((qa14 : w.heap.size ≤ gb103)); have n5_ := n4_; have n6_ := qO ((qa89 : gb101 ≠ gb103)); have n7_ := qO (Ne.symm n6_.out); have n8_ := qO ((by rw [hg]; exact Nat.ne_of_lt (blk_lt (g := gb102) (o := .cells #[.string (⟨#[]⟩ : ByteArray), .slice none 0 0] 41 (0, 0)) (by (with_reducible repeat (first | refine qkN ?_ _ | refine qkD ?_ | refine qkA ?_ _)); exact BK102.out)) : gb102 ≠ gb103)); have n9_ := qO (Ne.symm n8_.out); clear BK101; clear BK102; clear HB; have BK101 := n0_; have BK102 := n1_; have HB := n2_; have BK103 := n3_; have GW103 := n4_; have GE103 := n5_; have NB101_103 := n6_; have NB103_101 := n7_; have NB102_103 := n8_; have NB103_102 := n9_; clear n0_ n1_ n2_ n3_ n4_ n5_ n6_ n7_ n8_ n9_; clear hx_; clear hb hbox hg; have hnb6 := NB101_102.out; have hnc6 := NB102_101.out; have hnb7 := NB101_103.out; have hnc7 := NB103_101.out; have hcz8_0 : w5.cell? ⟨gb101, 0, none⟩ = some (.string a0_0) := (blk_cell BK101.out 0).trans rfl; have hcz8_1 : w5.cell? ⟨gb101, 1, none⟩ = some (.slice A0_1 l0_1.length c0_1) := (blk_cell BK101.out 1).trans rfl; have hfz8_0 := blk_frozen BK101.out 0; have hfz8_1 := blk_frozen BK101.out 1; have hnb9 := NB103_102.out; have hnc9 := NB102_103.out; have hcz10_0 : w5.cell? ⟨gb103, 0, none⟩ = some (.string (⟨#[]⟩ : ByteArray)) := (blk_cell BK103.out 0).trans rfl; have hcz10_1 : w5.cell? ⟨gb103, 1, none⟩ = some (.slice none 0 0) := (blk_cell BK103.out 1).trans rfl; have hfz10_0 := blk_frozen BK103.out 0; have hfz10_1 := blk_frozen BK103.out 1) | ((with_reducible refine gate_callee (f := 40) rfl ?_); refine goesL_ (some 9) rfl rfl Tryd.func40 qa16 rfl #[.slice A0_1 l0_1.length c0_1] rfl qa0 ?_; (with_reducible refine (laws_toFieldDefS.calls k _ _ l0_1 t104 _ ?side1 ?side2 A2.out).mono ?_); (case side1 => exact qa96); (case side2 => exact HC0_1.out); rintro e w11 ⟨v105, rfl, ho0, hb⟩; refine ⟨_, rfl, ?_⟩; have n0_ := qO (Kd.S_lower ho0 (below_size qa35)); have n1_ := qO (blk_below (g := gb101) (o := .cells #[.string a0_0, .slice A0_1 l0_1.length c0_1] 54 (0, 0)) qa90 hb); have n2_ := qO (blk_below (g := gb102) (o := .cells #[.string (⟨#[]⟩ : ByteArray), .slice none 0 0] 41 (0, 0)) qa91 hb); have n3_ := qO (blk_below (g := gb103) (o := .cells #[.string a0_0, .slice none 0 0] 41 (0, 0)) (by (with_reducible repeat (first | refine qkN ?_ _ | refine qkD ?_ | refine qkA ?_ _)); refine blk_put (cs := #[.string (⟨#[]⟩ : ByteArray), .slice none 0 0]) ?_ 0 _ rfl; (with_reducible repeat (first | refine qkN ?_ _ | refine qkD ?_ | refine qkA ?_ _)); exact BK103.out) hb); have n4_ := qO (below_step qa35 hb); clear BK101; clear BK102; clear BK103; clear HB; have HO106 := n0_; have BK101 := n1_; have BK102 := n2_; have BK103 := n3_; have HB := n4_; clear n0_ n1_ n2_ n3_ n4_; (try clear hb); (try clear hb2); (try clear hk); (try clear hi); (try clear ho0); obtain ⟨Ao12, co12, eo12⟩ := Kd.S_slice HO106.out; subst eo12; have hcz13_0 : w11.cell? ⟨gb103, 0, none⟩ = some (.string a0_0) := (blk_cell BK103.out 0).trans rfl; have hcz13_1 : w11.cell? ⟨gb103, 1, none⟩ = some (.slice none 0 0) := (blk_cell BK103.out 1).trans rfl; have hfz13_0 := blk_frozen BK103.out 0; have hfz13_1 := blk_frozen BK103.out 1; have hcz14_0 : w11.cell? ⟨gb102, 0, none⟩ = some (.string (⟨#[]⟩ : ByteArray)) := (blk_cell BK102.out 0).trans rfl; have hcz14_1 : w11.cell? ⟨gb102, 1, none⟩ = some (.slice none 0 0) := (blk_cell BK102.out 1).trans rfl; have hfz14_0 := blk_frozen BK102.out 0; have hfz14_1 := blk_frozen BK102.out 1))
 refine bodyPost_ret (results_cell_row rfl _ _ gb102 41 #[.string a0_0, .slice Ao12 t104.length co12] (0, 0) _ rfl (by (with_reducible repeat (first | refine qkN ?_ _ | refine qkD ?_ | refine qkA ?_ _)); refine blk_put (cs := #[.string a0_0, .slice none 0 0]) ?_ 1 _ rfl; (with_reducible repeat (first | refine qkN ?_ _ | refine qkD ?_ | refine qkA ?_ _)); refine blk_put (cs := #[.string (⟨#[]⟩ : ByteArray), .slice none 0 0]) ?_ 0 _ rfl; (with_reducible repeat (first | refine qkN ?_ _ | refine qkD ?_ | refine qkA ?_ _)); refine blk_far ?_ NB102_103.out _; (with_reducible repeat (first | refine qkN ?_ _ | refine qkD ?_ | refine qkA ?_ _)); exact BK102.out) Tryd.underlying41 rfl qa16) rfl ?_
 exact ⟨_, qa5, by (with_reducible repeat (first | apply Kd.S_alloc | apply Kd.S_drewN | apply Kd.S_drew)); exact Kd.S_mono (Kd.S_far (p := ⟨gb102, 1, none⟩) (Kd.S_far (p := ⟨gb102, 0, none⟩) (Kd.S_far (p := ⟨gb103, 1, none⟩) (Kd.S_types (Kd.S_types HO106.out BK103.out (by decide)) BK102.out (by decide)) (fun _ hk => hk.1.2) (.slice Ao12 t104.length co12)) (fun _ hk => hk.2) (.string a0_0)) (fun _ hk => hk.2) (.slice Ao12 t104.length co12)) (fun _ hk => trivial), qa35⟩


def laws_toTypeDefS.l0 : Nat → List (S54) → List (S41) → Int → Option ((List (S41)))
 | 0, _, _, _ => none
 | k + 1, x0, x3, x4 => if x4 < (x0.length : Int) then (if 0 ≤ x4 then ((laws_toTypeDef.f k ((rd_T54 x0 x4).f0) ((rd_T54 x0 x4).f1)).bind fun bt105 => (if x4 < (x3.length : Int) then (laws_toTypeDefS.l0 k x0 (x3.set (x4 : Int).toNat (⟨bt105.1, bt105.2⟩ : S41)) (wrap64 (x4 + 1))) else (none))) else (none)) else (some x3)
def laws_toTypeDefS.f (k : Nat) (l0 : List (S54)) : Option ((List (S41))) := if 0 ≤ (l0.length : Int) then (if ((l0.length : Int) : Int).toNat ≤ 7036874417766 then (laws_toTypeDefS.l0 k l0 (List.replicate ((l0.length : Int) : Int).toNat z41) 0) else (none)) else (none)
set_option maxHeartbeats 8000000 in
set_option maxRecDepth 100000 in
theorem laws_toTypeDefS.calls (k : Nat) (A0 : Option Addr) (c0 : Nat) (l0 : List (S54)) (r : List (S41)) (w : World) (hr0 : Kd.C k54 w A0 l0.length l0) (hc0 : l0.length ≤ c0) (h : laws_toTypeDefS.f k l0 = some r) :
  Calls Tryd.prog 12 #[.slice A0 l0.length c0] w fun e w' => ∃ v0_ : Value, e = .returned (v0_) ∧ Kd.R k41 41 w' w.heap.size (fun _ => True) v0_ r ∧ Below w.heap.size w w' := by
 have hu54 := Tryd.underlying54; have hu41 := Tryd.underlying41; have HR0 := qO hr0; have HC0 := qO hc0; clear hr0 hc0; have HB := qO (Below.refl w.heap.size w); have H : (if 0 ≤ (l0.length : Int) then (if ((l0.length : Int) : Int).toNat ≤ 7036874417766 then (laws_toTypeDefS.l0 k l0 (List.replicate ((l0.length : Int) : Int).toNat z41) 0) else (none)) else (none)) = some r := h; clear h
 by_cases c2 : 0 ≤ (l0.length : Int)
 ·rw [if_pos c2] at H
  have c2b0 := eq_true c2; have c2b1 : decide (0 ≤ (l0.length : Int)) = true := decide_eq_true c2; clear c2
  by_cases c3 : ((l0.length : Int) : Int).toNat ≤ 7036874417766
  ·rw [if_pos c3] at H
   have c3b0 := eq_true c3; have c3b1 : decide (((l0.length : Int) : Int).toNat ≤ 7036874417766) = true := decide_eq_true c3; clear c3; obtain ⟨y101, hy101⟩ : ∃ y_ : List (S41), y_ = (List.replicate ((l0.length : Int) : Int).toNat z41) := ⟨_, rfl⟩; replace H : (laws_toTypeDefS.l0 k l0 y101 0) = some r := by first | (rw [hy101]; with_reducible exact H) | (have H2_ := (Option.bind_some _ _).symm.trans H; rw [hy101]; with_reducible exact H2_) | (have H2_ := (Option.bind_some _ _).symm.trans H; with_reducible exact H2_) | with_reducible exact H | (rw [hy101]; exact H) | exact H
   have Ny101 := qO hy101; clear hy101; have H' := qO H; clear H
   go_enter Tryd.func12, Tryd.ntmps12
   go_wp2_with (first | ((with_reducible refine gate_dst (N := 7) rfl ?_); refine Kd.R_make k41 _ 41 rfl (N := 7) rfl 28 _ _ rfl (l0.length : Int) rfl rfl Tryd.underlying28 (.agg #[(.string ⟨#[]⟩), (.slice none 0 0)]) 40 info41 rfl qa60 qa25 z41 (ok := fun _ => True) (okp := fun _ => True) (k41_mkM _ _ _ z41 (Kd.R_nil _ _ _ _ _)) (fun _ hk => hk) trivial (qT qa6) (Nat.le_trans (Nat.mul_le_mul_right _ (qT qa6 : (l0.length : Int).toNat ≤ 7036874417766)) qa25) (Below.refl _ _) (Nat.le_refl _) ?_; intro v102 w4 ho5 hb hg_ hnew_; clear hg_ hnew_; (first | rw [← Ny101.out] at ho5 | (simp only [Int.reduceToNat] at ho5; rw [← Ny101.out] at ho5)); have n0_ := qO (Kd.R_lower ho5 (below_size qa11)); have n1_ := qO (below_step qa11 hb); clear HB; have HO103 := n0_; have HB := n1_; clear n0_ n1_; clear hb ho5))
   go_loopg [4] k (fun kq v4 w' => ∃ (x3_1 : List (S41)) (x4_1 : Int), v4 = .int .i64 x4_1 ∧ Aside0 (laws_toTypeDefS.l0 kq l0 x3_1 x4_1 = some r) ∧ Aside0 (kq ≤ k) ∧ Aside0 (Kd.R k41 41 w' w.heap.size (fun _ => True) v102 x3_1) ∧ Aside0 (Below w.heap.size w w'))
   case atStart => exact ⟨(y101), (0), qa10, H', ⟨Nat.le_refl _⟩, ⟨qa109⟩, ⟨qa11⟩⟩
   case round =>
    clear H'
    try clear c1
    try clear c2
    try clear c2b0
    try clear c2b1
    try clear p2
    try clear c3
    try clear c3b0
    try clear c3b1
    obtain ⟨x3_1, x4_1, rfl, HA, HK1, HO_3, HB⟩ := hrel
    cases gk with
    | zero => exact absurd HA.out (by simp [laws_toTypeDefS.l0])
    | succ k1 =>
     have H := HA.out; clear HA; simp only [laws_toTypeDefS.l0] at H
     by_cases c6 : x4_1 < (l0.length : Int)
     ·rw [if_pos c6] at H
      have c6b0 : decide (x4_1 < (l0.length : Int)) = true := decide_eq_true c6; clear c6
      by_cases c7 : 0 ≤ x4_1
      ·rw [if_pos c7] at H
       have c7b0 : decide (0 ≤ x4_1) = true := decide_eq_true c7; clear c7; replace H := Option.bind_eq_some_iff.mp H; obtain ⟨⟨t105, t106⟩, A80, H⟩ := H; replace H : (if x4_1 < (x3_1.length : Int) then (laws_toTypeDefS.l0 k1 l0 (x3_1.set (x4_1 : Int).toNat (⟨t105, t106⟩ : S41)) (wrap64 (x4_1 + 1))) else (none)) = some r := H; have A8 := qO A80; clear A80
       by_cases c9 : x4_1 < (x3_1.length : Int)
       ·rw [if_pos c9] at H
        have c9b0 : decide (x4_1 < (x3_1.length : Int)) = true := decide_eq_true c9; clear c9; obtain ⟨y109, hy109⟩ : ∃ y_ : List (S41), y_ = (x3_1.set (x4_1 : Int).toNat (⟨t105, t106⟩ : S41)) := ⟨_, rfl⟩; replace H : (laws_toTypeDefS.l0 k1 l0 y109 (wrap64 (x4_1 + 1))) = some r := by first | (rw [hy109]; with_reducible exact H) | (have H2_ := (Option.bind_some _ _).symm.trans H; rw [hy109]; with_reducible exact H2_) | (have H2_ := (Option.bind_some _ _).symm.trans H; with_reducible exact H2_) | with_reducible exact H | (rw [hy109]; exact H) | exact H
        have Ny109 := qO hy109; clear hy109; have H' := qO H; clear H; have p104 : 0 ≤ (x4_1 : Int) := qT qa6; have q104 : x4_1 < (l0.length : Int) := qT qa6; obtain ⟨ad104, A104_1, c104_1, e104, hx104_0, hx104_1, hl104_1, hi104_1⟩ := at_T54 HR0.out x4_1 p104 q104
        cases e104
        replace hx104_0 := (HB.out.cell (qL w _ hx104_0)).trans hx104_0; replace hx104_1 := (HB.out.cell (qL w _ hx104_1)).trans hx104_1; have HR104_1 := qO hi104_1; have HC104_1 := qO hl104_1; clear hi104_1 hl104_1; replace p104 := eq_true p104; replace q104 := eq_true q104
        go_wp2_with (first | ((with_reducible refine gate_callee (f := 28) rfl ?_); refine goesL_ (some 20) rfl rfl Tryd.func28 qa16 rfl #[.agg #[.string ((rd_T54 l0 x4_1).f0), .slice A104_1 ((rd_T54 l0 x4_1).f1).length c104_1]] rfl qa0 ?_; (with_reducible refine (laws_toTypeDef.calls k1 ((rd_T54 l0 x4_1).f0) _ _ ((rd_T54 l0 x4_1).f1) t105 t106 _ ?side1 ?side2 A8.out).mono ?_); (case side1 => exact qa77); (case side2 => exact HC104_1.out); rintro e w11 ⟨v107, rfl, ho0, hb⟩; have hx_ := qHX HB hb qa1; refine ⟨_, rfl, ?_⟩; have n0_ := qO (Kd.R_elder' qa19 (Kd.S_base ho0) hb); have n1_ := qO (Kd.S_lower ho0 (below_size (below_step HB.out hx_))); have n2_ := qO (below_step (below_step HB.out hx_) hb); clear HO_3; clear HB; have HO_3 := n0_; have HO108 := n1_; have HB := n2_; clear n0_ n1_ n2_; clear hx_; (try clear hb); (try clear hb2); (try clear hk); (try clear hi); (try clear ho0); have p10 : 0 ≤ (x4_1 : Int) := qT qa6; have q10 : (x4_1 : Int) < ((x3_1.length : Int) : Int) := qT qa6; obtain ⟨go10, co10, eo10, gb10, gl10, cl10, HG10⟩ := Kd.R_form HO_3.out qa25; (first | cases eo10 | (injection eo10 with ea_ en_ ec_; (first | subst ea_ | (injection ea_ with ea_; subst ea_)); subst ec_; clear en_)); have GB10 := qO gb10; have GG10 := qO HG10; clear gb10 gl10 HG10; obtain ⟨ce10, hcl10, hM10, hcc10, hfr10⟩ := Kd.R_elem HO_3.out z41 (x4_1 : Int) p10 q10; obtain ⟨ve10_1, rfl, ge10_1⟩ := k41_openM hM10; have hx10_0 : w11.cell? ⟨go10, (x4_1 : Int).toNat * 2, none⟩ = some (.string ((rd_T41 x3_1 x4_1).f0)) := hcc10 0 _ rfl; have hx10_1 : w11.cell? ⟨go10, (x4_1 : Int).toNat * 2 + 1, none⟩ = some (ve10_1) := hcc10 1 _ rfl; have hf10_0 : w11.frozen? ⟨go10, (x4_1 : Int).toNat * 2, none⟩ = false := hfr10 0; have hf10_1 : w11.frozen? ⟨go10, (x4_1 : Int).toNat * 2 + 1, none⟩ = false := hfr10 1; clear hcl10 hcc10 hfr10; (try clear hM10); replace p10 := eq_true p10; replace q10 := eq_true q10; have n_ := qO (Kd.R_mono (ok' := (fun k_ => some k_ ≠ (v107 : Value).ownBlock)) HO_3.out (fun k_ hk => hk.2)); clear HO_3; have HO_3 := n_; clear n_; have HX12 := qO (show Kd.R k41 41 w11 w.heap.size (fun _ => True) (.slice (some ⟨go10, 0, none⟩) x3_1.length co10) x3_1 from qa98); obtain ⟨ce12, hcl12, hM12, hcc12, hfr12⟩ := Kd.R_elem HX12.out z41 (x4_1 : Int) (qT qa6) (by have h_ : (x4_1 : Int) < ((x3_1.length : Int) : Int) := qT qa6; first | exact h_ | (have e_ := (Kd.R_reads' HO_3.out).1; omega) | simpa using h_); obtain ⟨ve12_1, rfl, ge12_1⟩ := k41_openM hM12; have HP12 := Kd.R_seg HX12.out (x4_1 : Int) (qT qa6) (by have h_ : (x4_1 : Int) < ((x3_1.length : Int) : Int) := qT qa6; first | exact h_ | (have e_ := (Kd.R_reads' HO_3.out).1; omega) | simpa using h_) (seg := [.string t105, v107]) (j := 0) hcl12 hcc12 (show 2 ≤ 2 from by decide) (x' := (⟨t105, t106⟩ : S41)) (k41_mkM _ _ _ (⟨t105, t106⟩ : S41) (Kd.R_mono (Kd.R_apart' ((Kd.S_R HO108.out)) (Kd.R_typed HO_3.out) qa60) (fun k_ hk => ⟨trivial, fun e_ => (hk.2) (by rw [e_]; rfl)⟩))) (fun _ hk => hk); have hx12_0 := hcc12 0 _ rfl; (try simp only [show (k41).sz = 2 from rfl, Nat.mul_one, Nat.add_zero] at hx12_0); have hf12_0 := hfr12 0; (try simp only [show (k41).sz = 2 from rfl, Nat.mul_one, Nat.add_zero] at hf12_0); have hx12_1 := hcc12 1 _ rfl; (try simp only [show (k41).sz = 2 from rfl, Nat.mul_one, Nat.add_zero] at hx12_1); have hf12_1 := hfr12 1; (try simp only [show (k41).sz = 2 from rfl, Nat.mul_one, Nat.add_zero] at hf12_1); clear hcl12 hcc12 hfr12; (try clear hM12)) | ((with_reducible refine gate_store (t := 41) (p := 21) rfl ?_); refine store_event (t := 41) (p := 21) (v := ?vo_w13) (w1 := ((w11.setCell ⟨go10, (x4_1 : Int).toNat * 2, none⟩ (.string t105)).setCell ⟨go10, (x4_1 : Int).toNat * 2 + 1, none⟩ (v107))) ?hg ?ho ?hn ?hr ?_; (case ho => rfl); (case hg => rfl); (case hn => rfl); (case hr => obtain ⟨Av0_, cv0_, ev0_⟩ := Kd.R_slice (Kd.S_R HO108.out); rw [ev0_]; first | (go_simp; done) | (go_simp; rfl)); intro w13 hw; have hg : w11.grownBy w13 (some go10) := (by rw [hw]; exact HP12.2); have hp_ : Kd.R k41 41 w13 w.heap.size (fun _ => True) (.slice (some ⟨go10, 0, none⟩) x3_1.length co10) y109 := (by rw [hw, Ny109.out]; exact HP12.1); clear HP12; have n0_ := qO (hp_); have n1_ := qO ((by rw [hw]; exact qbS (qbS (HB.out) GB10.out) GB10.out : Below w.heap.size w w13)); clear HO_3; clear HB; clear HO108; have HO_3 := n0_; have HB := n1_; clear n0_ n1_; clear hg hw hp_))
        go_roundg k1
        case measure => have := HK1.out; omega
        case rel => exact ⟨(y109), (wrap64 (x4_1 + 1)), qa10, H', ⟨qa99⟩, ⟨qa19⟩, ⟨qa11⟩⟩
       ·rw [if_neg c9] at H
        exact absurd H qa76
      ·rw [if_neg c7] at H
       exact absurd H qa76
     ·rw [if_neg c6] at H
      have c6b0 : decide (x4_1 < (l0.length : Int)) = false := decide_eq_false c6; clear c6; obtain rfl := Option.some.inj H; go_wp2
      go_ret
      exact ⟨_, qa5, qa19, qa11⟩
  ·rw [if_neg c3] at H
   exact absurd H qa76
 ·rw [if_neg c2] at H
  exact absurd H qa76


def laws_toSchema.f (k : Nat) (l0_0 : List (S54)) : Option ((List (S41))) := (laws_toTypeDefS.f k l0_0).bind fun t104 => (some t104)
set_option maxHeartbeats 8000000 in
set_option maxRecDepth 100000 in
theorem laws_toSchema.calls (k : Nat) (A0_0 : Option Addr) (c0_0 : Nat) (l0_0 : List (S54)) (r : List (S41)) (w : World) (hr0_0 : Kd.C k54 w A0_0 l0_0.length l0_0) (hc0_0 : l0_0.length ≤ c0_0) (h : laws_toSchema.f k l0_0 = some r) :
  Calls Tryd.prog 6 #[.agg #[.slice A0_0 l0_0.length c0_0]] w fun e w' => ∃ v0_ : Value, e = .returned (.agg #[v0_]) ∧ Kd.R k41 41 w' w.heap.size (fun _ => True) v0_ r ∧ Below w.heap.size w w' := by
 have hu24 := Tryd.underlying24; have hu30 := Tryd.underlying30; have HR0_0 := qO hr0_0; have HC0_0 := qO hc0_0; clear hr0_0 hc0_0; have HB := qO (Below.refl w.heap.size w); have H : ((laws_toTypeDefS.f k l0_0).bind fun t104 => (some t104)) = some r := h; clear h; replace H := Option.bind_eq_some_iff.mp H; obtain ⟨t104, A20, H⟩ := H; replace H : (some t104) = some r := H; have A2 := qO A20; clear A20; obtain rfl := Option.some.inj H
 go_enter Tryd.func6, Tryd.ntmps6
 go_wp2_with (first | ((with_reducible refine gate_dst (N := 1) rfl ?_); refine box_event ?hg (N := 1) ?hd (cs := #[.slice A0_0 l0_0.length c0_0]) (t := 24) ?hr ?_; (case hd => rfl); (case hg => rfl); (case hr => exact qa18); intro gb101 hg w3 hbox hb; have hx_ := qHX HB hb qa1; have n0_ := qO (below_step (below_step HB.out hx_) hb); have n1_ := qO (hbox); have n2_ := qO ((qa14 : w.heap.size ≤ gb101)); have n3_ := n2_; clear HB; have HB := n0_; have BK101 := n1_; have GW101 := n2_; have GE101 := n3_; clear n0_ n1_ n2_ n3_; clear hx_; clear hb hbox hg) | ((with_reducible refine gate_dst (N := 2) rfl ?_); refine box_event ?hg (N := 2) ?hd (cs := #[.slice none 0 0]) (t := 30) ?hr ?_; (case hd => rfl); (case hg => rfl); (case hr => exact qa18); intro gb102 hg w4 hbox hb; have hx_ := qHX HB hb qa1; have n0_ := qO (qB BK101.out hx_ hb); have n1_ := qO (below_step (below_step HB.out hx_) hb); have n2_ := qO (hbox); have n3_ := qO ((qa14 : w.heap.size ≤ gb102)); have n4_ := n3_; have n5_ := qO ((qa69 : gb101 ≠ gb102)); have n6_ := qO (Ne.symm n5_.out); clear BK101; clear HB; have BK101 := n0_; have HB := n1_; have BK102 := n2_; have GW102 := n3_; have GE102 := n4_; have NB101_102 := n5_; have NB102_101 := n6_; clear n0_ n1_ n2_ n3_ n4_ n5_ n6_; clear hx_; clear hb hbox hg) | ((with_reducible refine gate_dst (N := 3) rfl ?_); refine box_event ?hg (N := 3) ?hd (cs := #[.slice none 0 0]) (t := 30) ?hr ?_; (case hd => rfl); (case hg => rfl); (case hr => exact qa18); intro gb103 hg w5 hbox hb; have hx_ := qHX HB hb qa1; have n0_ := qO (qB BK101.out hx_ hb); have n1_ := qO (qB BK102.out hx_ hb); have n2_ := qO (below_step (below_step HB.out hx_) hb); have n3_ := qO (hbox); have n4_ := qO ((qa14 : w.heap.size ≤ gb103)); have n5_ := n4_; have n6_ := qO ((qa69 : gb101 ≠ gb103)); have n7_ := qO (Ne.symm n6_.out); have n8_ := qO ((by rw [hg]; exact Nat.ne_of_lt (blk_lt (g := gb102) (o := .cells #[.slice none 0 0] 30 (0, 0)) (by (with_reducible repeat (first | refine qkN ?_ _ | refine qkD ?_ | refine qkA ?_ _)); exact BK102.out)) : gb102 ≠ gb103)); have n9_ := qO (Ne.symm n8_.out); clear BK101; clear BK102; clear HB; have BK101 := n0_; have BK102 := n1_; have HB := n2_; have BK103 := n3_; have GW103 := n4_; have GE103 := n5_; have NB101_103 := n6_; have NB103_101 := n7_; have NB102_103 := n8_; have NB103_102 := n9_; clear n0_ n1_ n2_ n3_ n4_ n5_ n6_ n7_ n8_ n9_; clear hx_; clear hb hbox hg; have hnb6 := NB101_102.out; have hnc6 := NB102_101.out; have hnb7 := NB101_103.out; have hnc7 := NB103_101.out; have hcz8_0 : w5.cell? ⟨gb101, 0, none⟩ = some (.slice A0_0 l0_0.length c0_0) := (blk_cell BK101.out 0).trans rfl; have hfz8_0 := blk_frozen BK101.out 0) | ((with_reducible refine gate_callee (f := 12) rfl ?_); refine goesL_ (some 6) rfl rfl Tryd.func12 qa16 rfl #[.slice A0_0 l0_0.length c0_0] rfl qa0 ?_; (with_reducible refine (laws_toTypeDefS.calls k _ _ l0_0 t104 _ ?side1 ?side2 A2.out).mono ?_); (case side1 => exact qa23); (case side2 => exact HC0_0.out); rintro e w9 ⟨v105, rfl, ho0, hb⟩; have hx_ := qHX HB hb qa1; refine ⟨_, rfl, ?_⟩; have n0_ := qO (Kd.R_lower ho0 (below_size (below_step HB.out hx_))); have n1_ := qO (qB BK101.out hx_ hb); have n2_ := qO (qB BK102.out hx_ hb); have n3_ := qO (qB BK103.out hx_ hb); have n4_ := qO (below_step (below_step HB.out hx_) hb); clear BK101; clear BK102; clear BK103; clear HB; have HO106 := n0_; have BK101 := n1_; have BK102 := n2_; have BK103 := n3_; have HB := n4_; clear n0_ n1_ n2_ n3_ n4_; clear hx_; (try clear hb); (try clear hb2); (try clear hk); (try clear hi); (try clear ho0); obtain ⟨Ao10, co10, eo10⟩ := Kd.R_slice HO106.out; subst eo10; have hnb11 := NB103_102.out; have hnc11 := NB102_103.out; have hcz12_0 : w9.cell? ⟨gb103, 0, none⟩ = some (.slice none 0 0) := (blk_cell BK103.out 0).trans rfl; have hfz12_0 := blk_frozen BK103.out 0; have hcz13_0 : w9.cell? ⟨gb102, 0, none⟩ = some (.slice none 0 0) := (blk_cell BK102.out 0).trans rfl; have hfz13_0 := blk_frozen BK102.out 0))
 refine bodyPost_ret (results_cell_row rfl _ _ gb102 30 #[.slice Ao10 t104.length co10] (0, 0) _ rfl (by (with_reducible repeat (first | refine qkN ?_ _ | refine qkD ?_ | refine qkA ?_ _)); refine blk_put (cs := #[.slice none 0 0]) ?_ 0 _ rfl; (with_reducible repeat (first | refine qkN ?_ _ | refine qkD ?_ | refine qkA ?_ _)); refine blk_far ?_ NB102_103.out _; (with_reducible repeat (first | refine qkN ?_ _ | refine qkD ?_ | refine qkA ?_ _)); exact BK102.out) Tryd.underlying30 rfl qa16) rfl ?_
 exact ⟨_, qa5, by (with_reducible repeat (first | apply Kd.R_alloc | apply Kd.R_drewN | apply Kd.R_drew)); exact Kd.R_mono (Kd.R_far (p := ⟨gb102, 0, none⟩) (Kd.R_far (p := ⟨gb103, 0, none⟩) (Kd.R_types (Kd.R_types HO106.out BK103.out (by decide)) BK102.out (by decide)) (fun _ hk => hk.1.2) (.slice Ao10 t104.length co10)) (fun _ hk => hk.2) (.slice Ao10 t104.length co10)) (fun _ hk => trivial), qa35⟩


/-- The table that Itoa reads is as the program's text lays it. -/
def Tb (w : World) : Prop := Lib.TabIs Tryd.prog w "internal/strconv.uint64pow10" .u64 Lib.pow10Tab
theorem tb_below {w W : World} (h : Tb w) (hb : Below w.heap.size w W) : Tb W := by
 have hg : Tryd.prog.globalNamed "internal/strconv.uint64pow10" = some 1 := by kernel_rfl
 exact var?_below hb hg (qL w ⟨1, 0, none⟩ (Lib.TabIs.cell h hg 0 (by rw [Lib.pow10Tab_length]; omega))) h
def strconv_Itoa.f (a0 : Int) : Option ByteArray := if -9223372036854775808 ≤ a0 ∧ a0 ≤ 9223372036854775807 then some ⟨(Lib.itoa a0).toArray⟩ else none
theorem strconv_Itoa.calls (a0 : Int) (r : ByteArray) (w : World) (h : strconv_Itoa.f a0 = some r) (htab : Tb w) :
  Calls Tryd.prog 48 #[.int .i64 a0] w fun e w' => e = .returned (.string r) ∧ Below w.heap.size w w' := by
 unfold strconv_Itoa.f at h
 by_cases hb : -9223372036854775808 ≤ a0 ∧ a0 ≤ 9223372036854775807
 ·rw [if_pos hb] at h
  obtain rfl := Option.some.inj h; refine (Tryd.strconv_Itoa a0 hb.1 hb.2 w htab).mono ?_; rintro e w' ⟨rfl, k, os, rfl⟩
  exact ⟨rfl, Lib.below_grow _ w (Nat.le_refl _) k os⟩
 ·rw [if_neg hb] at h
  cases h


def impl_within.f (a0 : Int) (a1 : Int) (a2 : Int) : Option (Bool) := if a0 ≥ a1 then (some (decide (a0 ≤ a2))) else (some false)
set_option maxHeartbeats 8000000 in
set_option maxRecDepth 100000 in
theorem impl_within.calls (a0 : Int) (a1 : Int) (a2 : Int) (r : Bool) (w : World) (h : impl_within.f a0 a1 a2 = some r) :
  Calls Tryd.prog 29 #[.int .i64 a0, .int .i64 a1, .int .i64 a2] w fun e w' => e = .returned (.bool r) ∧ Drawn0 w w' := by
 have H : (if a0 ≥ a1 then (some (decide (a0 ≤ a2))) else (some false)) = some r := h; clear h
 by_cases c4 : a0 ≥ a1
 ·rw [if_pos c4] at H
  have c4b0 : decide (a1 ≤ a0) = true := decide_eq_true c4; clear c4; obtain rfl := Option.some.inj H
  go_enter Tryd.func29, Tryd.ntmps29
  go_wp2
  go_ret
  exact ⟨qa10, qa24⟩
 ·rw [if_neg c4] at H
  have c4b0 : decide (a1 ≤ a0) = false := decide_eq_false c4; clear c4; obtain rfl := Option.some.inj H
  go_enter Tryd.func29, Tryd.ntmps29
  go_wp2
  go_ret
  exact ⟨qa10, qa24⟩


/-- The first place at which p holds, or -1. -/
def impl_TypeDef.fp (p : (S41) → Bool) (l0 : List (S41)) : Int := match l0.findIdx? p with | some i => (i : Int) | none => -1
theorem impl_TypeDef.hit (p : (S41) → Bool) (l0 : List (S41)) (kk : Nat) (x : (S41)) (hx : l0[kk]? = some x) (hp : p x = true) (hno : ∀ j, j < kk → ∀ x, l0[j]? = some x → p x = false) : impl_TypeDef.fp p l0 = kk := by
 unfold impl_TypeDef.fp
 have h : l0.findIdx? p = some kk := by
  rw [List.findIdx?_eq_some_iff_getElem]; obtain ⟨hl, he⟩ := List.getElem?_eq_some_iff.1 hx
  exact ⟨hl, by rw [he]; exact hp, fun j hj => by rw [hno j hj _ (List.getElem?_eq_getElem (Nat.lt_trans hj hl))]; simp⟩
 rw [h]
theorem impl_TypeDef.miss (p : (S41) → Bool) (l0 : List (S41)) (hno : ∀ j, j < l0.length → ∀ x, l0[j]? = some x → p x = false) : impl_TypeDef.fp p l0 = -1 := by
 unfold impl_TypeDef.fp
 have h : l0.findIdx? p = none := by
  rw [List.findIdx?_eq_none_iff]; intro x hx; obtain ⟨j, hj⟩ := List.getElem?_of_mem hx
  exact hno j (List.getElem?_eq_some_iff.1 hj).1 x hj
 rw [h]
set_option maxHeartbeats 4000000 in
set_option maxRecDepth 100000 in
theorem impl_TypeDef.callsP (A0 : Option Addr) (c0 : Nat) (l0 : List (S41)) (g : Nat) (cb : Array Value) (p : (S41) → Bool) (w : World) (eg : ∀ args w, (callFunc g args).run Tryd.prog w = .ok (.enter g args) w) (hr0 : Kd.C k41 w A0 l0.length l0)
  (hp : ∀ (W : World) (x : (S41)) (E1 : Option Addr) (e1 : Nat), x ∈ l0 → Below w.heap.size w W → Calls Tryd.prog g (#[.agg #[.string x.f0, .slice E1 x.f1.length e1]] ++ cb) W fun e w' => e = .returned (.bool (p x)) ∧ Below w.heap.size w w') :
  Calls Tryd.prog 41 #[.slice A0 l0.length c0, .func (.func g) #[] cb] w fun e w' => e = .returned (.int .i64 (impl_TypeDef.fp p l0)) ∧ Below w.heap.size w w' := by
 have hlen := hr0.2.1; have HR := qO hr0; have HP := qO hp; clear hr0 hp; have isagg := Tryd.isAgg41
 go_enter Tryd.func41, Tryd.ntmps41
 go_wp2
 go_loopg [5, 8] l0.length (fun gg _ s8 wr => ∃ kk : Nat, kk ≤ l0.length ∧ l0.length - kk ≤ gg ∧ s8 = .int .i64 kk ∧ Aside0 (Below w.heap.size w wr) ∧ Aside0 (∀ j, j < kk → ∀ x, l0[j]? = some x → p x = false))
 case atStart => exact ⟨0, Nat.zero_le _, qa25, rfl, ⟨Below.refl _ w⟩, ⟨fun j hj => absurd hj (Nat.not_lt_zero _)⟩⟩
 case round =>
  obtain ⟨kk, hkk, hg, rfl, BW, No⟩ := hrel
  by_cases hlt : kk < l0.length
  ·have hltz : (kk : Int) < (l0.length : Int) := by omega
   obtain ⟨ad, E1, e1, e, hx0, hx1, hl1, hi1⟩ := at_T41 HR.out (kk : Int) qa25 hltz
   cases e
   replace hx0 := (BW.out.cell (qL w _ hx0)).trans hx0; replace hx1 := (BW.out.cell (qL w _ hx1)).trans hx1; simp only [Int.toNat_natCast] at hx0; simp only [Int.toNat_natCast] at hx1
   have hx : l0[kk]? = some (rd_T41 l0 (kk : Int)) := by
    rw [List.getElem?_eq_getElem hlt]
    show some l0[kk] = some (l0.getD (kk : Int).toNat _)
    rw [Int.toNat_natCast, List.getD_eq_getElem?_getD, List.getElem?_eq_getElem hlt]
    rfl
   clear hl1 hi1; have hcall := HP.out wr (rd_T41 l0 (kk : Int)) E1 e1 (List.mem_of_getElem? hx) BW.out; have HX := qO hx; clear hx; generalize rd_T41 l0 (kk : Int) = x at hcall HX hx0 hx1
   cases hq : p x with
   | true =>
    have HQ := qO hq; rw [hq] at hcall; clear hq
    go_wp2_with (go_at_fn g; refine hcall.mono ?_; rintro e w' ⟨rfl, hb'⟩)
    go_ret
    exact ⟨by rw [impl_TypeDef.hit p l0 kk x HX.out HQ.out No.out]; rfl, hb'⟩
   | false =>
    have HQ := qO hq; rw [hq] at hcall; clear hq
    go_wp2_with (go_at_fn g; refine hcall.mono ?_; rintro e w' ⟨rfl, hb'⟩)
    go_roundg (l0.length - (kk + 1))
    case measure => omega
    case rel =>
     refine ⟨kk + 1, qa25, qa25, by go_num, ⟨hb'⟩, ⟨fun j hj x' hx' => ?_⟩⟩
     by_cases e : j = kk
     ·subst e
      rw [HX.out] at hx'; obtain rfl := Option.some.inj hx'
      exact HQ.out
     ·exact No.out j qa25 x' hx'
  ·have hltz : ¬ (kk : Int) < (l0.length : Int) := by omega
   have hk : kk = l0.length := by omega
   have HK := qO hk; clear hk; go_wp2
   go_ret
   exact ⟨by rw [impl_TypeDef.miss p l0 (fun j hj => No.out j (by rw [HK.out]; exact hj))]; rfl, BW.out⟩


set_option maxHeartbeats 4000000 in
set_option maxRecDepth 100000 in
theorem impl_Schema_typeAt_1.callsQ (x : S41) (E1 : Option Addr) (e1 : Nat) (gs : Nat) (y0 : ByteArray) (w : World) (hs : w.heap[gs]? = some (.cells #[.string y0] 9 (0, 0))) :
  Calls Tryd.prog 42 #[.agg #[.string x.f0, .slice E1 x.f1.length e1], .pointer (some ⟨gs, 0, none⟩)] w fun e w' => e = .returned (.bool (x.f0.toList == y0.toList)) ∧ Below w.heap.size w w' := by
 have hu := Tryd.underlying41; have HS := qO hs; clear hs
 go_enter Tryd.func42, Tryd.ntmps42
 go_wp2_with (first | ((with_reducible refine gate_dst (N := 2) rfl ?_); refine box_event ?hg (N := 2) ?hd (cs := #[.string x.f0, .slice E1 x.f1.length e1]) (t := 41) ?hr ?_; (case hd => rfl); (case hg => rfl); (case hr => exact qa18); intro gb hg w1 hbox hb; have K1 := qO (blk_below (g := gs) HS.out hb); have B1 := qO hb; have hcz0 : w1.cell? ⟨gb, 0, none⟩ = some (.string x.f0) := (blk_cell hbox 0).trans rfl; have hcz1 : w1.cell? ⟨gb, 1, none⟩ = some (.slice E1 x.f1.length e1) := (blk_cell hbox 1).trans rfl; have hcw0 : w1.cell? ⟨gs, 0, none⟩ = some (.string y0) := (blk_cell K1.out 0).trans rfl; clear hg hb hbox))
 go_ret
 exact ⟨rfl, B1.out⟩
def clo41_42.f (l0 : List (S41)) (a1_0 : ByteArray) : Option Int := some (impl_TypeDef.fp (fun x => (x.f0.toList == a1_0.toList)) l0)
theorem clo41_42.calls (A0 : Option Addr) (c0 : Nat) (l0 : List (S41)) (a1_0 : ByteArray) (r : Int) (w : World) (hr0 : Kd.C k41 w A0 l0.length l0) (hc0 : l0.length ≤ c0) (h : clo41_42.f l0 a1_0 = some r) (gs : Nat) (hs : w.heap[gs]? = some (.cells #[.string a1_0] 9 (0, 0))) :
  Calls Tryd.prog 41 #[.slice A0 l0.length c0, .func (.func 42) #[] #[.pointer (some ⟨gs, 0, none⟩)]] w fun e w' => e = .returned (.int .i64 r) ∧ Below w.heap.size w w' := by
 obtain rfl := Option.some.inj h; have eg : ∀ args w, (callFunc 42 args).run Tryd.prog w = .ok (.enter 42 args) w := enters_of Tryd.func42 qa16 rfl
 exact impl_TypeDef.callsP A0 c0 l0 42 #[.pointer (some ⟨gs, 0, none⟩)] (fun x => (x.f0.toList == a1_0.toList)) w eg hr0 (fun W x E1 e1 _ hb => (impl_Schema_typeAt_1.callsQ x E1 e1 gs a1_0 W (blk_below hs hb)).mono qa132)
def impl_Schema_typeAt.f (l0_0 : List (S41)) (a1 : ByteArray) : Option (Int) := (clo41_42.f l0_0 a1).bind fun t103 => (some t103)
set_option maxHeartbeats 8000000 in
set_option maxRecDepth 100000 in
theorem impl_Schema_typeAt.calls (A0_0 : Option Addr) (c0_0 : Nat) (l0_0 : List (S41)) (a1 : ByteArray) (r : Int) (w : World) (hr0_0 : Kd.C k41 w A0_0 l0_0.length l0_0) (hc0_0 : l0_0.length ≤ c0_0) (h : impl_Schema_typeAt.f l0_0 a1 = some r) :
  Calls Tryd.prog 30 #[.agg #[.slice A0_0 l0_0.length c0_0], .string a1] w fun e w' => e = .returned (.int .i64 r) ∧ Below w.heap.size w w' := by
 have hu30 := Tryd.underlying30; have hu9 := Tryd.underlying9; have HR0_0 := qO hr0_0; have HC0_0 := qO hc0_0; clear hr0_0 hc0_0; have HB := qO (Below.refl w.heap.size w); have H : ((clo41_42.f l0_0 a1).bind fun t103 => (some t103)) = some r := h; clear h; replace H := Option.bind_eq_some_iff.mp H; obtain ⟨t103, A30, H⟩ := H; replace H : (some t103) = some r := H; have A3 := qO A30; clear A30; obtain rfl := Option.some.inj H
 go_enter Tryd.func30, Tryd.ntmps30
 go_wp2_with (first | ((with_reducible refine gate_dst (N := 2) rfl ?_); refine box_event ?hg (N := 2) ?hd (cs := #[.slice A0_0 l0_0.length c0_0]) (t := 30) ?hr ?_; (case hd => rfl); (case hg => rfl); (case hr => exact qa18); intro gb101 hg w4 hbox hb; have hx_ := qHX HB hb qa1; have n0_ := qO (below_step (below_step HB.out hx_) hb); have n1_ := qO (hbox); have n2_ := qO ((qa14 : w.heap.size ≤ gb101)); have n3_ := n2_; clear HB; have HB := n0_; have BK101 := n1_; have GW101 := n2_; have GE101 := n3_; clear n0_ n1_ n2_ n3_; clear hx_; clear hb hbox hg) | ((with_reducible refine gate_dst (N := 3) rfl ?_); refine box_event ?hg (N := 3) ?hd (cs := #[.string a1]) (t := 9) ?hr ?_; (case hd => rfl); (case hg => rfl); (case hr => exact qa18); intro gb102 hg w5 hbox hb; have hx_ := qHX HB hb qa1; have n0_ := qO (qB BK101.out hx_ hb); have n1_ := qO (below_step (below_step HB.out hx_) hb); have n2_ := qO (hbox); have n3_ := qO ((qa14 : w.heap.size ≤ gb102)); have n4_ := n3_; have n5_ := qO ((qa33 : gb101 ≠ gb102)); have n6_ := qO (Ne.symm n5_.out); clear BK101; clear HB; have BK101 := n0_; have HB := n1_; have BK102 := n2_; have GW102 := n3_; have GE102 := n4_; have NB101_102 := n5_; have NB102_101 := n6_; clear n0_ n1_ n2_ n3_ n4_ n5_ n6_; clear hx_; clear hb hbox hg; have hnb6 := NB101_102.out; have hnc6 := NB102_101.out; have hcz7_0 : w5.cell? ⟨gb101, 0, none⟩ = some (.slice A0_0 l0_0.length c0_0) := (blk_cell BK101.out 0).trans rfl; have hfz7_0 := blk_frozen BK101.out 0; have hcz8_0 : w5.cell? ⟨gb102, 0, none⟩ = some (.string a1) := (blk_cell BK102.out 0).trans rfl; have hfz8_0 := blk_frozen BK102.out 0) | ((with_reducible refine gate_callee (f := 41) rfl ?_); refine goesL_ (some 8) rfl rfl Tryd.func41 qa16 rfl #[.slice A0_0 l0_0.length c0_0, .func (.func 42) #[] #[.pointer (some ⟨gb102, 0, none⟩)]] rfl qa0 ?_; (with_reducible refine (clo41_42.calls _ _ l0_0 a1 t103 _ ?side1 ?side2 A3.out gb102 qa45).mono ?_); (case side1 => exact qa23); (case side2 => exact HC0_0.out); rintro e w9 ⟨rfl, hb⟩; have hx_ := qHX HB hb qa1; refine ⟨_, rfl, ?_⟩; have n0_ := qO (qB BK101.out hx_ hb); have n1_ := qO (qB BK102.out hx_ hb); have n2_ := qO (below_step (below_step HB.out hx_) hb); clear BK101; clear BK102; clear HB; have BK101 := n0_; have BK102 := n1_; have HB := n2_; clear n0_ n1_ n2_; clear hx_; (try clear hb); (try clear hb2); (try clear hk); (try clear hi)))
 go_ret
 exact ⟨qa5, qa17⟩


def impl_isLetter.f (a0 : Int) : Option (Bool) := if a0 ≥ 97 then (if a0 ≤ 122 then (some true) else (if a0 ≥ 65 then (if a0 ≤ 90 then (some true) else (some (a0 == 95))) else (some (a0 == 95)))) else (if a0 ≥ 65 then (if a0 ≤ 90 then (some true) else (some (a0 == 95))) else (some (a0 == 95)))
set_option maxHeartbeats 8000000 in
set_option maxRecDepth 100000 in
theorem impl_isLetter.calls (a0 : Int) (r : Bool) (w : World) (h : impl_isLetter.f a0 = some r) :
  Calls Tryd.prog 43 #[.int .u8 a0] w fun e w' => e = .returned (.bool r) ∧ Drawn0 w w' := by
 have H : (if a0 ≥ 97 then (if a0 ≤ 122 then (some true) else (if a0 ≥ 65 then (if a0 ≤ 90 then (some true) else (some (a0 == 95))) else (some (a0 == 95)))) else (if a0 ≥ 65 then (if a0 ≤ 90 then (some true) else (some (a0 == 95))) else (some (a0 == 95)))) = some r := h; clear h
 by_cases c2 : a0 ≥ 97
 ·rw [if_pos c2] at H
  have c2b0 : decide (97 ≤ a0) = true := decide_eq_true c2; clear c2
  by_cases c3 : a0 ≤ 122
  ·rw [if_pos c3] at H
   have c3b0 : decide (a0 ≤ 122) = true := decide_eq_true c3; clear c3; obtain rfl := Option.some.inj H
   go_enter Tryd.func43, Tryd.ntmps43
   go_wp2
   go_ret
   exact ⟨qa10, qa24⟩
  ·rw [if_neg c3] at H
   have c3b0 : decide (a0 ≤ 122) = false := decide_eq_false c3; clear c3
   by_cases c4 : a0 ≥ 65
   ·rw [if_pos c4] at H
    have c4b0 : decide (65 ≤ a0) = true := decide_eq_true c4; clear c4
    by_cases c5 : a0 ≤ 90
    ·rw [if_pos c5] at H
     have c5b0 : decide (a0 ≤ 90) = true := decide_eq_true c5; clear c5; obtain rfl := Option.some.inj H
     go_enter Tryd.func43, Tryd.ntmps43
     go_wp2
     go_ret
     exact ⟨qa10, qa24⟩
    ·rw [if_neg c5] at H
     have c5b0 : decide (a0 ≤ 90) = false := decide_eq_false c5; clear c5; obtain rfl := Option.some.inj H
     go_enter Tryd.func43, Tryd.ntmps43
     go_wp2
     go_ret
     exact ⟨qa10, qa24⟩
   ·rw [if_neg c4] at H
    have c4b0 : decide (65 ≤ a0) = false := decide_eq_false c4; clear c4; obtain rfl := Option.some.inj H
    go_enter Tryd.func43, Tryd.ntmps43
    go_wp2
    go_ret
    exact ⟨qa10, qa24⟩
 ·rw [if_neg c2] at H
  have c2b0 : decide (97 ≤ a0) = false := decide_eq_false c2; clear c2
  by_cases c6 : a0 ≥ 65
  ·rw [if_pos c6] at H
   have c6b0 : decide (65 ≤ a0) = true := decide_eq_true c6; clear c6
   by_cases c7 : a0 ≤ 90
   ·rw [if_pos c7] at H
    have c7b0 : decide (a0 ≤ 90) = true := decide_eq_true c7; clear c7; obtain rfl := Option.some.inj H
    go_enter Tryd.func43, Tryd.ntmps43
    go_wp2
    go_ret
    exact ⟨qa10, qa24⟩
   ·rw [if_neg c7] at H
    have c7b0 : decide (a0 ≤ 90) = false := decide_eq_false c7; clear c7; obtain rfl := Option.some.inj H
    go_enter Tryd.func43, Tryd.ntmps43
    go_wp2
    go_ret
    exact ⟨qa10, qa24⟩
  ·rw [if_neg c6] at H
   have c6b0 : decide (65 ≤ a0) = false := decide_eq_false c6; clear c6; obtain rfl := Option.some.inj H
   go_enter Tryd.func43, Tryd.ntmps43
   go_wp2
   go_ret
   exact ⟨qa10, qa24⟩


def impl_isDigit.f (a0 : Int) : Option (Bool) := if a0 ≥ 48 then (some (decide (a0 ≤ 57))) else (some false)
set_option maxHeartbeats 8000000 in
set_option maxRecDepth 100000 in
theorem impl_isDigit.calls (a0 : Int) (r : Bool) (w : World) (h : impl_isDigit.f a0 = some r) :
  Calls Tryd.prog 44 #[.int .u8 a0] w fun e w' => e = .returned (.bool r) ∧ Drawn0 w w' := by
 have H : (if a0 ≥ 48 then (some (decide (a0 ≤ 57))) else (some false)) = some r := h; clear h
 by_cases c2 : a0 ≥ 48
 ·rw [if_pos c2] at H
  have c2b0 : decide (48 ≤ a0) = true := decide_eq_true c2; clear c2; obtain rfl := Option.some.inj H
  go_enter Tryd.func44, Tryd.ntmps44
  go_wp2
  go_ret
  exact ⟨qa10, qa24⟩
 ·rw [if_neg c2] at H
  have c2b0 : decide (48 ≤ a0) = false := decide_eq_false c2; clear c2; obtain rfl := Option.some.inj H
  go_enter Tryd.func44, Tryd.ntmps44
  go_wp2
  go_ret
  exact ⟨qa10, qa24⟩


def impl_NameOK.l0 : Nat → ByteArray → Int → Int → Option (Bool)
 | 0, _, _, _ => none
 | k + 1, x0, x5, x6 => if x6 < x5 then (if 0 ≤ x6 then (if x6 < (x0.size : Int) then ((impl_isLetter.f (bt x0 x6)).bind fun t102 => (if t102 = true then (impl_NameOK.l0 k x0 x5 (wrap64 (x6 + 1))) else (if x6 = 0 then (some false) else ((impl_isDigit.f (bt x0 x6)).bind fun t103 => (if t103 = true then (impl_NameOK.l0 k x0 x5 (wrap64 (x6 + 1))) else (some false)))))) else (none)) else (none)) else ((impl_within.f (x0.size : Int) 1 40).bind fun t101 => (some t101))
def impl_NameOK.f (k : Nat) (a0 : ByteArray) : Option (Bool) := impl_NameOK.l0 k a0 (a0.size : Int) 0
set_option maxHeartbeats 8000000 in
set_option maxRecDepth 100000 in
theorem impl_NameOK.calls (k : Nat) (a0 : ByteArray) (r : Bool) (w : World) (h : impl_NameOK.f k a0 = some r) :
  Calls Tryd.prog 31 #[.string a0] w fun e w' => e = .returned (.bool r) ∧ Drawn0 w w' := by
 have H : (impl_NameOK.l0 k a0 (a0.size : Int) 0) = some r := h; clear h; have H' := qO H; clear H
 go_enter Tryd.func31, Tryd.ntmps31
 go_wp2
 go_loopg [6] k (fun kq v6 w' => ∃ (x6_1 : Int), v6 = .int .i64 x6_1 ∧ Aside0 (impl_NameOK.l0 kq a0 (a0.size : Int) x6_1 = some r) ∧ Aside0 (kq ≤ k) ∧ Drawn0 w w')
 case atStart => exact ⟨(0), qa10, H', ⟨Nat.le_refl _⟩, qa24⟩
 case round =>
  clear H'; obtain ⟨x6_1, rfl, HA, HK1, ⟨m1, rfl⟩⟩ := hrel
  cases gk with
  | zero => exact absurd HA.out (by simp [impl_NameOK.l0])
  | succ k1 =>
   have H := HA.out; clear HA; simp only [impl_NameOK.l0] at H
   by_cases c2 : x6_1 < (a0.size : Int)
   ·rw [if_pos c2] at H
    have c2b0 : decide (x6_1 < (a0.size : Int)) = true := decide_eq_true c2; clear c2
    by_cases c3 : 0 ≤ x6_1
    ·rw [if_pos c3] at H
     have c3b0 : decide (0 ≤ x6_1) = true := decide_eq_true c3; clear c3
     by_cases c4 : x6_1 < (a0.size : Int)
     ·rw [if_pos c4] at H
      have c4b0 : decide (x6_1 < (a0.size : Int)) = true := decide_eq_true c4; clear c4; replace H := Option.bind_eq_some_iff.mp H; obtain ⟨t102, A60, H⟩ := H; replace H : (if t102 = true then (impl_NameOK.l0 k1 a0 (a0.size : Int) (wrap64 (x6_1 + 1))) else (if x6_1 = 0 then (some false) else ((impl_isDigit.f (bt a0 x6_1)).bind fun t103 => (if t103 = true then (impl_NameOK.l0 k1 a0 (a0.size : Int) (wrap64 (x6_1 + 1))) else (some false))))) = some r := H; have A6 := qO A60; clear A60
      by_cases c7 : t102 = true
      ·subst c7
       have H1 : (impl_NameOK.l0 k1 a0 (a0.size : Int) (wrap64 (x6_1 + 1))) = some r := by rw [if_pos rfl] at H; exact H
       clear H; have H := H1; clear H1; have H' := qO H; clear H; have p5 : 0 ≤ (x6_1 : Int) := qT qa6; have q5 : x6_1 < (a0.size : Int) := qT qa6; have hx5 := bt_at a0 x6_1; replace p5 := eq_true p5; replace q5 := eq_true q5
       go_wp2_with (first | ((with_reducible refine gate_callee (f := 43) rfl ?_); refine goesL_ (some 12) rfl rfl Tryd.func43 qa16 rfl #[.int .u8 (bt a0 x6_1)] rfl qa0 ?_; (with_reducible refine (impl_isLetter.calls (bt a0 x6_1) true _ A6.out).mono ?_); rintro e w' ⟨rfl, ⟨nd, rfl⟩⟩; refine ⟨_, rfl, ?_⟩))
       go_roundg k1
       case measure => have := HK1.out; omega
       case rel => exact ⟨(wrap64 (x6_1 + 1)), qa10, H', ⟨qa99⟩, qa24⟩
      ·replace c7 := Bool.eq_false_iff.mpr c7
       subst c7; have H1 : (if x6_1 = 0 then (some false) else ((impl_isDigit.f (bt a0 x6_1)).bind fun t103 => (if t103 = true then (impl_NameOK.l0 k1 a0 (a0.size : Int) (wrap64 (x6_1 + 1))) else (some false)))) = some r := by rw [if_neg (show ¬ (false = true) by decide)] at H; exact H
       clear H; have H := H1; clear H1
       by_cases c8 : x6_1 = 0
       ·rw [if_pos c8] at H
        have c8b0 : (x6_1 == 0) = true := beq_iff_eq.mpr c8; have c8b1 : (x6_1 != 0) = false := bne_eq_false_iff_eq.mpr c8; clear c8; obtain rfl := Option.some.inj H; have p5 : 0 ≤ (x6_1 : Int) := qT qa6; have q5 : x6_1 < (a0.size : Int) := qT qa6; have hx5 := bt_at a0 x6_1; replace p5 := eq_true p5; replace q5 := eq_true q5
        go_wp2_with (first | ((with_reducible refine gate_callee (f := 43) rfl ?_); refine goesL_ (some 12) rfl rfl Tryd.func43 qa16 rfl #[.int .u8 (bt a0 x6_1)] rfl qa0 ?_; (with_reducible refine (impl_isLetter.calls (bt a0 x6_1) false _ A6.out).mono ?_); rintro e w' ⟨rfl, ⟨nd, rfl⟩⟩; refine ⟨_, rfl, ?_⟩))
        go_ret
        exact ⟨qa10, qa24⟩
       ·rw [if_neg c8] at H
        have c8b0 : (x6_1 == 0) = false := beq_eq_false_iff_ne.mpr c8; have c8b1 : (x6_1 != 0) = true := bne_iff_ne.mpr c8; replace H := Option.bind_eq_some_iff.mp H; obtain ⟨t103, A100, H⟩ := H; replace H : (if t103 = true then (impl_NameOK.l0 k1 a0 (a0.size : Int) (wrap64 (x6_1 + 1))) else (some false)) = some r := H; have A10 := qO A100; clear A100
        by_cases c11 : t103 = true
        ·subst c11
         have H1 : (impl_NameOK.l0 k1 a0 (a0.size : Int) (wrap64 (x6_1 + 1))) = some r := by rw [if_pos rfl] at H; exact H
         clear H; have H := H1; clear H1; have H' := qO H; clear H; have p5 : 0 ≤ (x6_1 : Int) := qT qa6; have q5 : x6_1 < (a0.size : Int) := qT qa6; have hx5 := bt_at a0 x6_1; replace p5 := eq_true p5; replace q5 := eq_true q5
         go_wp2_with (first | ((with_reducible refine gate_callee (f := 43) rfl ?_); refine goesL_ (some 12) rfl rfl Tryd.func43 qa16 rfl #[.int .u8 (bt a0 x6_1)] rfl qa0 ?_; (with_reducible refine (impl_isLetter.calls (bt a0 x6_1) false _ A6.out).mono ?_); rintro e w' ⟨rfl, ⟨nd, rfl⟩⟩; refine ⟨_, rfl, ?_⟩; have p9 : 0 ≤ (x6_1 : Int) := qT qa6; have q9 : x6_1 < (a0.size : Int) := qT qa6; have hx9 := bt_at a0 x6_1; replace p9 := eq_true p9; replace q9 := eq_true q9) | (go_at_call 44; (with_reducible refine (impl_isDigit.calls (bt a0 x6_1) true _ A10.out).mono ?_); rintro e w' ⟨rfl, ⟨nd, rfl⟩⟩))
         go_roundg k1
         case measure => have := HK1.out; omega
         case rel => exact ⟨(wrap64 (x6_1 + 1)), qa10, H', ⟨qa99⟩, qa24⟩
        ·replace c11 := Bool.eq_false_iff.mpr c11
         subst c11; have H1 : (some false) = some r := by rw [if_neg (show ¬ (false = true) by decide)] at H; exact H
         clear H; have H := H1; clear H1; obtain rfl := Option.some.inj H; have p5 : 0 ≤ (x6_1 : Int) := qT qa6; have q5 : x6_1 < (a0.size : Int) := qT qa6; have hx5 := bt_at a0 x6_1; replace p5 := eq_true p5; replace q5 := eq_true q5
         go_wp2_with (first | ((with_reducible refine gate_callee (f := 43) rfl ?_); refine goesL_ (some 12) rfl rfl Tryd.func43 qa16 rfl #[.int .u8 (bt a0 x6_1)] rfl qa0 ?_; (with_reducible refine (impl_isLetter.calls (bt a0 x6_1) false _ A6.out).mono ?_); rintro e w' ⟨rfl, ⟨nd, rfl⟩⟩; refine ⟨_, rfl, ?_⟩; have p9 : 0 ≤ (x6_1 : Int) := qT qa6; have q9 : x6_1 < (a0.size : Int) := qT qa6; have hx9 := bt_at a0 x6_1; replace p9 := eq_true p9; replace q9 := eq_true q9) | (go_at_call 44; (with_reducible refine (impl_isDigit.calls (bt a0 x6_1) false _ A10.out).mono ?_); rintro e w' ⟨rfl, ⟨nd, rfl⟩⟩))
         go_ret
         exact ⟨qa10, qa24⟩
     ·rw [if_neg c4] at H
      exact absurd H qa76
    ·rw [if_neg c3] at H
     exact absurd H qa76
   ·rw [if_neg c2] at H
    have c2b0 : decide (x6_1 < (a0.size : Int)) = false := decide_eq_false c2; clear c2; replace H := Option.bind_eq_some_iff.mp H; obtain ⟨t101, A120, H⟩ := H; replace H : (some t101) = some r := H; have A12 := qO A120; clear A120; obtain rfl := Option.some.inj H
    go_wp2_with (first | ((with_reducible refine gate_callee (f := 29) rfl ?_); refine goesL_ (some 28) rfl rfl Tryd.func29 qa16 rfl #[.int .i64 (a0.size : Int), .int .i64 1, .int .i64 40] rfl qa0 ?_; (with_reducible refine (impl_within.calls (a0.size : Int) 1 40 t101 _ A12.out).mono ?_); rintro e w' ⟨rfl, ⟨nd, rfl⟩⟩; refine ⟨_, rfl, ?_⟩))
    go_ret
    exact ⟨qa10, qa24⟩


/-- The first place at which p holds, or -1. -/
def impl_ArgDef.fp (p : (S60) → Bool) (l0 : List (S60)) : Int := match l0.findIdx? p with | some i => (i : Int) | none => -1
theorem impl_ArgDef.hit (p : (S60) → Bool) (l0 : List (S60)) (kk : Nat) (x : (S60)) (hx : l0[kk]? = some x) (hp : p x = true) (hno : ∀ j, j < kk → ∀ x, l0[j]? = some x → p x = false) : impl_ArgDef.fp p l0 = kk := by
 unfold impl_ArgDef.fp
 have h : l0.findIdx? p = some kk := by
  rw [List.findIdx?_eq_some_iff_getElem]; obtain ⟨hl, he⟩ := List.getElem?_eq_some_iff.1 hx
  exact ⟨hl, by rw [he]; exact hp, fun j hj => by rw [hno j hj _ (List.getElem?_eq_getElem (Nat.lt_trans hj hl))]; simp⟩
 rw [h]
theorem impl_ArgDef.miss (p : (S60) → Bool) (l0 : List (S60)) (hno : ∀ j, j < l0.length → ∀ x, l0[j]? = some x → p x = false) : impl_ArgDef.fp p l0 = -1 := by
 unfold impl_ArgDef.fp
 have h : l0.findIdx? p = none := by
  rw [List.findIdx?_eq_none_iff]; intro x hx; obtain ⟨j, hj⟩ := List.getElem?_of_mem hx
  exact hno j (List.getElem?_eq_some_iff.1 hj).1 x hj
 rw [h]
set_option maxHeartbeats 4000000 in
set_option maxRecDepth 100000 in
theorem impl_ArgDef.callsP (A0 : Option Addr) (c0 : Nat) (l0 : List (S60)) (g : Nat) (cb : Array Value) (p : (S60) → Bool) (w : World) (eg : ∀ args w, (callFunc g args).run Tryd.prog w = .ok (.enter g args) w) (hr0 : Kd.C k60 w A0 l0.length l0)
  (hp : ∀ (W : World) (x : (S60)), x ∈ l0 → Below w.heap.size w W → Calls Tryd.prog g (#[.agg #[.string x.f0, .bool x.f1]] ++ cb) W fun e w' => e = .returned (.bool (p x)) ∧ Below w.heap.size w w') :
  Calls Tryd.prog 57 #[.slice A0 l0.length c0, .func (.func g) #[] cb] w fun e w' => e = .returned (.int .i64 (impl_ArgDef.fp p l0)) ∧ Below w.heap.size w w' := by
 have hlen := hr0.2.1; have HR := qO hr0; have HP := qO hp; clear hr0 hp; have isagg := Tryd.isAgg60
 go_enter Tryd.func57, Tryd.ntmps57
 go_wp2
 go_loopg [5, 8] l0.length (fun gg _ s8 wr => ∃ kk : Nat, kk ≤ l0.length ∧ l0.length - kk ≤ gg ∧ s8 = .int .i64 kk ∧ Aside0 (Below w.heap.size w wr) ∧ Aside0 (∀ j, j < kk → ∀ x, l0[j]? = some x → p x = false))
 case atStart => exact ⟨0, Nat.zero_le _, qa25, rfl, ⟨Below.refl _ w⟩, ⟨fun j hj => absurd hj (Nat.not_lt_zero _)⟩⟩
 case round =>
  obtain ⟨kk, hkk, hg, rfl, BW, No⟩ := hrel
  by_cases hlt : kk < l0.length
  ·have hltz : (kk : Int) < (l0.length : Int) := by omega
   obtain ⟨ad, e, hx0, hx1⟩ := at_T60 HR.out (kk : Int) qa25 hltz
   cases e
   replace hx0 := (BW.out.cell (qL w _ hx0)).trans hx0; replace hx1 := (BW.out.cell (qL w _ hx1)).trans hx1; simp only [Int.toNat_natCast] at hx0; simp only [Int.toNat_natCast] at hx1
   have hx : l0[kk]? = some (rd_T60 l0 (kk : Int)) := by
    rw [List.getElem?_eq_getElem hlt]
    show some l0[kk] = some (l0.getD (kk : Int).toNat _)
    rw [Int.toNat_natCast, List.getD_eq_getElem?_getD, List.getElem?_eq_getElem hlt]
    rfl
   skip
   have hcall := HP.out wr (rd_T60 l0 (kk : Int)) (List.mem_of_getElem? hx) BW.out; have HX := qO hx; clear hx; generalize rd_T60 l0 (kk : Int) = x at hcall HX hx0 hx1
   cases hq : p x with
   | true =>
    have HQ := qO hq; rw [hq] at hcall; clear hq
    go_wp2_with (go_at_fn g; refine hcall.mono ?_; rintro e w' ⟨rfl, hb'⟩)
    go_ret
    exact ⟨by rw [impl_ArgDef.hit p l0 kk x HX.out HQ.out No.out]; rfl, hb'⟩
   | false =>
    have HQ := qO hq; rw [hq] at hcall; clear hq
    go_wp2_with (go_at_fn g; refine hcall.mono ?_; rintro e w' ⟨rfl, hb'⟩)
    go_roundg (l0.length - (kk + 1))
    case measure => omega
    case rel =>
     refine ⟨kk + 1, qa25, qa25, by go_num, ⟨hb'⟩, ⟨fun j hj x' hx' => ?_⟩⟩
     by_cases e : j = kk
     ·subst e
      rw [HX.out] at hx'; obtain rfl := Option.some.inj hx'
      exact HQ.out
     ·exact No.out j qa25 x' hx'
  ·have hltz : ¬ (kk : Int) < (l0.length : Int) := by omega
   have hk : kk = l0.length := by omega
   have HK := qO hk; clear hk; go_wp2
   go_ret
   exact ⟨by rw [impl_ArgDef.miss p l0 (fun j hj => No.out j (by rw [HK.out]; exact hj))]; rfl, BW.out⟩


set_option maxHeartbeats 4000000 in
set_option maxRecDepth 100000 in
theorem impl_FieldDef_argAt_1.callsQ (x : S60) (gs : Nat) (y0 : ByteArray) (w : World) (hs : w.heap[gs]? = some (.cells #[.string y0] 9 (0, 0))) :
  Calls Tryd.prog 58 #[.agg #[.string x.f0, .bool x.f1], .pointer (some ⟨gs, 0, none⟩)] w fun e w' => e = .returned (.bool (x.f0.toList == y0.toList)) ∧ Below w.heap.size w w' := by
 have hu := Tryd.underlying60; have HS := qO hs; clear hs
 go_enter Tryd.func58, Tryd.ntmps58
 go_wp2_with (first | ((with_reducible refine gate_dst (N := 2) rfl ?_); refine box_event ?hg (N := 2) ?hd (cs := #[.string x.f0, .bool x.f1]) (t := 60) ?hr ?_; (case hd => rfl); (case hg => rfl); (case hr => exact qa18); intro gb hg w1 hbox hb; have K1 := qO (blk_below (g := gs) HS.out hb); have B1 := qO hb; have hcz0 : w1.cell? ⟨gb, 0, none⟩ = some (.string x.f0) := (blk_cell hbox 0).trans rfl; have hcz1 : w1.cell? ⟨gb, 1, none⟩ = some (.bool x.f1) := (blk_cell hbox 1).trans rfl; have hcw0 : w1.cell? ⟨gs, 0, none⟩ = some (.string y0) := (blk_cell K1.out 0).trans rfl; clear hg hb hbox))
 go_ret
 exact ⟨rfl, B1.out⟩
def clo57_58.f (l0 : List (S60)) (a1_0 : ByteArray) : Option Int := some (impl_ArgDef.fp (fun x => (x.f0.toList == a1_0.toList)) l0)
theorem clo57_58.calls (A0 : Option Addr) (c0 : Nat) (l0 : List (S60)) (a1_0 : ByteArray) (r : Int) (w : World) (hr0 : Kd.C k60 w A0 l0.length l0) (hc0 : l0.length ≤ c0) (h : clo57_58.f l0 a1_0 = some r) (gs : Nat) (hs : w.heap[gs]? = some (.cells #[.string a1_0] 9 (0, 0))) :
  Calls Tryd.prog 57 #[.slice A0 l0.length c0, .func (.func 58) #[] #[.pointer (some ⟨gs, 0, none⟩)]] w fun e w' => e = .returned (.int .i64 r) ∧ Below w.heap.size w w' := by
 obtain rfl := Option.some.inj h; have eg : ∀ args w, (callFunc 58 args).run Tryd.prog w = .ok (.enter 58 args) w := enters_of Tryd.func58 qa16 rfl
 exact impl_ArgDef.callsP A0 c0 l0 58 #[.pointer (some ⟨gs, 0, none⟩)] (fun x => (x.f0.toList == a1_0.toList)) w eg hr0 (fun W x _ hb => (impl_FieldDef_argAt_1.callsQ x gs a1_0 W (blk_below hs hb)).mono qa132)
def impl_FieldDef_argAt.f (a0_0 : ByteArray) (l0_1 : List (S60)) (a0_2 : ByteArray) (a0_3 : Bool) (a0_4 : Bool) (a1 : ByteArray) : Option (Int) := (clo57_58.f l0_1 a1).bind fun t103 => (some t103)
set_option maxHeartbeats 8000000 in
set_option maxRecDepth 100000 in
theorem impl_FieldDef_argAt.calls (a0_0 : ByteArray) (A0_1 : Option Addr) (c0_1 : Nat) (l0_1 : List (S60)) (a0_2 : ByteArray) (a0_3 : Bool) (a0_4 : Bool) (a1 : ByteArray) (r : Int) (w : World) (hr0_1 : Kd.C k60 w A0_1 l0_1.length l0_1) (hc0_1 : l0_1.length ≤ c0_1) (h : impl_FieldDef_argAt.f a0_0 l0_1 a0_2 a0_3 a0_4 a1 = some r) :
  Calls Tryd.prog 45 #[.agg #[.string a0_0, .slice A0_1 l0_1.length c0_1, .string a0_2, .bool a0_3, .bool a0_4], .string a1] w fun e w' => e = .returned (.int .i64 r) ∧ Below w.heap.size w w' := by
 have hu47 := Tryd.underlying47; have hu9 := Tryd.underlying9; have HR0_1 := qO hr0_1; have HC0_1 := qO hc0_1; clear hr0_1 hc0_1; have HB := qO (Below.refl w.heap.size w); have H : ((clo57_58.f l0_1 a1).bind fun t103 => (some t103)) = some r := h; clear h; replace H := Option.bind_eq_some_iff.mp H; obtain ⟨t103, A30, H⟩ := H; replace H : (some t103) = some r := H; have A3 := qO A30; clear A30; obtain rfl := Option.some.inj H
 go_enter Tryd.func45, Tryd.ntmps45
 go_wp2_with (first | ((with_reducible refine gate_dst (N := 2) rfl ?_); refine box_event ?hg (N := 2) ?hd (cs := #[.string a0_0, .slice A0_1 l0_1.length c0_1, .string a0_2, .bool a0_3, .bool a0_4]) (t := 47) ?hr ?_; (case hd => rfl); (case hg => rfl); (case hr => exact qa18); intro gb101 hg w4 hbox hb; have hx_ := qHX HB hb qa1; have n0_ := qO (below_step (below_step HB.out hx_) hb); have n1_ := qO (hbox); have n2_ := qO ((qa14 : w.heap.size ≤ gb101)); have n3_ := n2_; clear HB; have HB := n0_; have BK101 := n1_; have GW101 := n2_; have GE101 := n3_; clear n0_ n1_ n2_ n3_; clear hx_; clear hb hbox hg) | ((with_reducible refine gate_dst (N := 3) rfl ?_); refine box_event ?hg (N := 3) ?hd (cs := #[.string a1]) (t := 9) ?hr ?_; (case hd => rfl); (case hg => rfl); (case hr => exact qa18); intro gb102 hg w5 hbox hb; have hx_ := qHX HB hb qa1; have n0_ := qO (qB BK101.out hx_ hb); have n1_ := qO (below_step (below_step HB.out hx_) hb); have n2_ := qO (hbox); have n3_ := qO ((qa14 : w.heap.size ≤ gb102)); have n4_ := n3_; have n5_ := qO ((qa28 : gb101 ≠ gb102)); have n6_ := qO (Ne.symm n5_.out); clear BK101; clear HB; have BK101 := n0_; have HB := n1_; have BK102 := n2_; have GW102 := n3_; have GE102 := n4_; have NB101_102 := n5_; have NB102_101 := n6_; clear n0_ n1_ n2_ n3_ n4_ n5_ n6_; clear hx_; clear hb hbox hg; have hnb6 := NB101_102.out; have hnc6 := NB102_101.out; have hcz7_0 : w5.cell? ⟨gb101, 0, none⟩ = some (.string a0_0) := (blk_cell BK101.out 0).trans rfl; have hcz7_1 : w5.cell? ⟨gb101, 1, none⟩ = some (.slice A0_1 l0_1.length c0_1) := (blk_cell BK101.out 1).trans rfl; have hcz7_2 : w5.cell? ⟨gb101, 2, none⟩ = some (.string a0_2) := (blk_cell BK101.out 2).trans rfl; have hcz7_3 : w5.cell? ⟨gb101, 3, none⟩ = some (.bool a0_3) := (blk_cell BK101.out 3).trans rfl; have hcz7_4 : w5.cell? ⟨gb101, 4, none⟩ = some (.bool a0_4) := (blk_cell BK101.out 4).trans rfl; have hfz7_0 := blk_frozen BK101.out 0; have hfz7_1 := blk_frozen BK101.out 1; have hfz7_2 := blk_frozen BK101.out 2; have hfz7_3 := blk_frozen BK101.out 3; have hfz7_4 := blk_frozen BK101.out 4; have hcz8_0 : w5.cell? ⟨gb102, 0, none⟩ = some (.string a1) := (blk_cell BK102.out 0).trans rfl; have hfz8_0 := blk_frozen BK102.out 0) | ((with_reducible refine gate_callee (f := 57) rfl ?_); refine goesL_ (some 8) rfl rfl Tryd.func57 qa16 rfl #[.slice A0_1 l0_1.length c0_1, .func (.func 58) #[] #[.pointer (some ⟨gb102, 0, none⟩)]] rfl qa0 ?_; (with_reducible refine (clo57_58.calls _ _ l0_1 a1 t103 _ ?side1 ?side2 A3.out gb102 qa45).mono ?_); (case side1 => exact qa26); (case side2 => exact HC0_1.out); rintro e w9 ⟨rfl, hb⟩; have hx_ := qHX HB hb qa1; refine ⟨_, rfl, ?_⟩; have n0_ := qO (qB BK101.out hx_ hb); have n1_ := qO (qB BK102.out hx_ hb); have n2_ := qO (below_step (below_step HB.out hx_) hb); clear BK101; clear BK102; clear HB; have BK101 := n0_; have BK102 := n1_; have HB := n2_; clear n0_ n1_ n2_; clear hx_; (try clear hb); (try clear hb2); (try clear hk); (try clear hi)))
 go_ret
 exact ⟨qa5, qa17⟩


mutual
def impl_Schema_fieldOK.j0 : Nat → Bool → ByteArray → List (S60) → ByteArray → Bool → Bool → Option (Bool)
 | 0, _, _, _, _, _, _ => none
 | k + 1, x33, x103000, x103001, x103002, x103003, x103004 => if x33 = true then (some false) else (impl_Schema_fieldOK.l0 k x103001 (x103001.length : Int) 0 x103000 x103001 x103002 x103003 x103004)
def impl_Schema_fieldOK.l0 : Nat → List (S60) → Int → Int → ByteArray → List (S60) → ByteArray → Bool → Bool → Option (Bool)
 | 0, _, _, _, _, _, _, _, _ => none
 | k + 1, x35, x36, x37, x103000, x103001, x103002, x103003, x103004 => if x37 < x36 then (if 0 ≤ x37 then (if x37 < (x35.length : Int) then ((impl_NameOK.f k ((rd_T60 x35 x37).f0)).bind fun t107 => (if t107 = true then ((impl_FieldDef_argAt.f x103000 x103001 x103002 x103003 x103004 ((rd_T60 x35 x37).f0)).bind fun t108 => (if t108 = x37 then (impl_Schema_fieldOK.l0 k x35 x36 (wrap64 (x37 + 1)) x103000 x103001 x103002 x103003 x103004) else (some false))) else (some false))) else (none)) else (none)) else (some true)
end
def impl_Schema_fieldOK.f (k : Nat) (l0_0 : List (S41)) (a1_0 : ByteArray) (l1_1 : List (S60)) (a1_2 : ByteArray) (a1_3 : Bool) (a1_4 : Bool) : Option (Bool) := (impl_NameOK.f k a1_0).bind fun t103 => (if t103 = true then (if a1_0.toList = ([95, 95, 116, 121, 112, 101, 110, 97, 109, 101] : List UInt8) then (impl_Schema_fieldOK.j0 k true a1_0 l1_1 a1_2 a1_3 a1_4) else (if a1_2.toList = ([73, 110, 116] : List UInt8) then (impl_Schema_fieldOK.j0 k (decide ((l1_1.length : Int) > 4)) a1_0 l1_1 a1_2 a1_3 a1_4) else ((impl_Schema_typeAt.f l0_0 a1_2).bind fun t104 => (if t104 < 0 then (impl_Schema_fieldOK.j0 k true a1_0 l1_1 a1_2 a1_3 a1_4) else (impl_Schema_fieldOK.j0 k (decide ((l1_1.length : Int) > 4)) a1_0 l1_1 a1_2 a1_3 a1_4))))) else (impl_Schema_fieldOK.j0 k true a1_0 l1_1 a1_2 a1_3 a1_4))
set_option maxHeartbeats 8000000 in
set_option maxRecDepth 100000 in
theorem impl_Schema_fieldOK.calls (k : Nat) (A0_0 : Option Addr) (c0_0 : Nat) (l0_0 : List (S41)) (a1_0 : ByteArray) (A1_1 : Option Addr) (c1_1 : Nat) (l1_1 : List (S60)) (a1_2 : ByteArray) (a1_3 : Bool) (a1_4 : Bool) (r : Bool) (w : World) (hr0_0 : Kd.C k41 w A0_0 l0_0.length l0_0) (hc0_0 : l0_0.length ≤ c0_0) (hr1_1 : Kd.C k60 w A1_1 l1_1.length l1_1) (hc1_1 : l1_1.length ≤ c1_1) (h : impl_Schema_fieldOK.f k l0_0 a1_0 l1_1 a1_2 a1_3 a1_4 = some r) :
  Calls Tryd.prog 32 #[.agg #[.slice A0_0 l0_0.length c0_0], .agg #[.string a1_0, .slice A1_1 l1_1.length c1_1, .string a1_2, .bool a1_3, .bool a1_4]] w fun e w' => e = .returned (.bool r) ∧ Below w.heap.size w w' := by
 have hu30 := Tryd.underlying30; have hu47 := Tryd.underlying47; have hu60 := Tryd.underlying60; have HR0_0 := qO hr0_0; have HC0_0 := qO hc0_0; clear hr0_0 hc0_0; have HR1_1 := qO hr1_1; have HC1_1 := qO hc1_1; clear hr1_1 hc1_1; have HB := qO (Below.refl w.heap.size w); have H : ((impl_NameOK.f k a1_0).bind fun t103 => (if t103 = true then (if a1_0.toList = ([95, 95, 116, 121, 112, 101, 110, 97, 109, 101] : List UInt8) then (impl_Schema_fieldOK.j0 k true a1_0 l1_1 a1_2 a1_3 a1_4) else (if a1_2.toList = ([73, 110, 116] : List UInt8) then (impl_Schema_fieldOK.j0 k (decide ((l1_1.length : Int) > 4)) a1_0 l1_1 a1_2 a1_3 a1_4) else ((impl_Schema_typeAt.f l0_0 a1_2).bind fun t104 => (if t104 < 0 then (impl_Schema_fieldOK.j0 k true a1_0 l1_1 a1_2 a1_3 a1_4) else (impl_Schema_fieldOK.j0 k (decide ((l1_1.length : Int) > 4)) a1_0 l1_1 a1_2 a1_3 a1_4))))) else (impl_Schema_fieldOK.j0 k true a1_0 l1_1 a1_2 a1_3 a1_4))) = some r := h; clear h; have HC3 := qO H; clear H
 go_enter Tryd.func32, Tryd.ntmps32
 go_upto_region 1 with (first | ((with_reducible refine gate_dst (N := 2) rfl ?_); (try (refine gate_guard (by rfl) ?_; dsimp only)); refine box_event ?hg (N := 2) ?hd (cs := #[.slice A0_0 l0_0.length c0_0]) (t := 30) ?hr ?_; (case hd => rfl); (case hg => rfl); (case hr => exact qa18); intro gb101 hg w4 hbox hb; have n0_ := qO (below_step qa11 hb); have n1_ := qO (hbox); have n2_ := qO ((qa43 : w.heap.size ≤ gb101)); have n3_ := qO ((qa43 : w.heap.size ≤ gb101)); clear HB; have HB := n0_; have BK101 := n1_; have GW101 := n2_; have GE101 := n3_; clear n0_ n1_ n2_ n3_; clear hb hbox hg) | ((with_reducible refine gate_dst (N := 3) rfl ?_); (try (refine gate_guard (by rfl) ?_; dsimp only)); refine box_event ?hg (N := 3) ?hd (cs := #[.string a1_0, .slice A1_1 l1_1.length c1_1, .string a1_2, .bool a1_3, .bool a1_4]) (t := 47) ?hr ?_; (case hd => rfl); (case hg => rfl); (case hr => exact qa18); intro gb102 hg w5 hbox hb; have n0_ := qO (blk_below (g := gb101) (o := .cells #[.slice A0_0 l0_0.length c0_0] 30 (0, 0)) qa4 hb); have n1_ := qO (below_step qa2 hb); have n2_ := qO (hbox); have n3_ := qO ((qa37 : w.heap.size ≤ gb102)); have n4_ := qO ((qa37 : w.heap.size ≤ gb102)); have n5_ := qO ((qa33 : gb101 ≠ gb102)); have n6_ := qO ((by rw [hg]; exact Nat.ne_of_gt (blk_lt (g := gb101) (o := .cells #[.slice A0_0 l0_0.length c0_0] 30 (0, 0)) (by (with_reducible repeat (first | refine qkN ?_ _ | refine qkD ?_ | refine qkA ?_ _)); exact BK101.out)) : gb102 ≠ gb101)); clear BK101; clear HB; have BK101 := n0_; have HB := n1_; have BK102 := n2_; have GW102 := n3_; have GE102 := n4_; have NB101_102 := n5_; have NB102_101 := n6_; clear n0_ n1_ n2_ n3_ n4_ n5_ n6_; clear hb hbox hg))
 (try simp only [Act.put, qzA, qzB, qzC])
 go_cut [33] (fun v33 wc => ∃ (kq : Nat) (x33_2 : Bool), v33 = .bool x33_2 ∧ Aside0 (impl_Schema_fieldOK.j0 kq x33_2 a1_0 l1_1 a1_2 a1_3 a1_4 = some r) ∧ Aside0 (kq ≤ k) ∧ Aside0 (wc.heap[gb101]? = some (.cells #[(.slice A0_0 l0_0.length c0_0)] 30 (0, 0))) ∧ Aside0 (wc.heap[gb102]? = some (.cells #[.string a1_0, (.slice A1_1 l1_1.length c1_1), .string a1_2, .bool a1_3, .bool a1_4] 47 (0, 0))) ∧ Aside0 (Below w.heap.size w wc))
 case first =>
  have H := HC3.out; clear HC3; replace H := Option.bind_eq_some_iff.mp H; obtain ⟨t103, A60, H⟩ := H; replace H : (if t103 = true then (if a1_0.toList = ([95, 95, 116, 121, 112, 101, 110, 97, 109, 101] : List UInt8) then (impl_Schema_fieldOK.j0 k true a1_0 l1_1 a1_2 a1_3 a1_4) else (if a1_2.toList = ([73, 110, 116] : List UInt8) then (impl_Schema_fieldOK.j0 k (decide ((l1_1.length : Int) > 4)) a1_0 l1_1 a1_2 a1_3 a1_4) else ((impl_Schema_typeAt.f l0_0 a1_2).bind fun t104 => (if t104 < 0 then (impl_Schema_fieldOK.j0 k true a1_0 l1_1 a1_2 a1_3 a1_4) else (impl_Schema_fieldOK.j0 k (decide ((l1_1.length : Int) > 4)) a1_0 l1_1 a1_2 a1_3 a1_4))))) else (impl_Schema_fieldOK.j0 k true a1_0 l1_1 a1_2 a1_3 a1_4)) = some r := H; have A6 := qO A60; clear A60
  by_cases c7 : t103 = true
  ·subst c7
   have H1 : (if a1_0.toList = ([95, 95, 116, 121, 112, 101, 110, 97, 109, 101] : List UInt8) then (impl_Schema_fieldOK.j0 k true a1_0 l1_1 a1_2 a1_3 a1_4) else (if a1_2.toList = ([73, 110, 116] : List UInt8) then (impl_Schema_fieldOK.j0 k (decide ((l1_1.length : Int) > 4)) a1_0 l1_1 a1_2 a1_3 a1_4) else ((impl_Schema_typeAt.f l0_0 a1_2).bind fun t104 => (if t104 < 0 then (impl_Schema_fieldOK.j0 k true a1_0 l1_1 a1_2 a1_3 a1_4) else (impl_Schema_fieldOK.j0 k (decide ((l1_1.length : Int) > 4)) a1_0 l1_1 a1_2 a1_3 a1_4))))) = some r := by rw [if_pos rfl] at H; exact H
   clear H; have H := H1; clear H1
   by_cases c8 : a1_0.toList = ([95, 95, 116, 121, 112, 101, 110, 97, 109, 101] : List UInt8)
   ·rw [if_pos c8] at H
    have c8b0 : (a1_0.toList == ([95, 95, 116, 121, 112, 101, 110, 97, 109, 101] : List UInt8)) = true := beq_iff_eq.mpr c8; have c8b1 : (a1_0.toList != ([95, 95, 116, 121, 112, 101, 110, 97, 109, 101] : List UInt8)) = false := bne_eq_false_iff_eq.mpr c8; clear c8; (first | rw [c8b0] | (simp only [i64_w, i32_w]; rw [c8b0]) | skip); have H' := qO H; clear H; have hnb9 := NB102_101.out; have hnc9 := NB101_102.out; have hcz10_0 : w5.cell? ⟨gb102, 0, none⟩ = some (.string a1_0) := (blk_cell BK102.out 0).trans rfl; have hcz10_1 : w5.cell? ⟨gb102, 1, none⟩ = some (.slice A1_1 l1_1.length c1_1) := (blk_cell BK102.out 1).trans rfl; have hcz10_2 : w5.cell? ⟨gb102, 2, none⟩ = some (.string a1_2) := (blk_cell BK102.out 2).trans rfl; have hcz10_3 : w5.cell? ⟨gb102, 3, none⟩ = some (.bool a1_3) := (blk_cell BK102.out 3).trans rfl; have hcz10_4 : w5.cell? ⟨gb102, 4, none⟩ = some (.bool a1_4) := (blk_cell BK102.out 4).trans rfl; have hfz10_0 := blk_frozen BK102.out 0; have hfz10_1 := blk_frozen BK102.out 1; have hfz10_2 := blk_frozen BK102.out 2; have hfz10_3 := blk_frozen BK102.out 3; have hfz10_4 := blk_frozen BK102.out 4
    go_wp2_with (first | ((with_reducible refine gate_callee (f := 31) rfl ?_); refine goesL_ (some 9) rfl rfl Tryd.func31 qa16 rfl #[.string a1_0] rfl qa0 ?_; (with_reducible refine (impl_NameOK.calls k a1_0 true _ A6.out).mono ?_); rintro e w' ⟨rfl, ⟨nd, rfl⟩⟩; refine ⟨_, rfl, ?_⟩))
    go_meet
    case rel => exact ⟨_, (true), qa10, H', ⟨qa88⟩, ⟨qa4⟩, ⟨qa45⟩, ⟨qa17⟩⟩
   ·rw [if_neg c8] at H
    have c8b0 : (a1_0.toList == ([95, 95, 116, 121, 112, 101, 110, 97, 109, 101] : List UInt8)) = false := beq_eq_false_iff_ne.mpr c8; have c8b1 : (a1_0.toList != ([95, 95, 116, 121, 112, 101, 110, 97, 109, 101] : List UInt8)) = true := bne_iff_ne.mpr c8; (first | rw [c8b0] | (simp only [i64_w, i32_w]; rw [c8b0]) | skip)
    by_cases c11 : a1_2.toList = ([73, 110, 116] : List UInt8)
    ·rw [if_pos c11] at H
     have c11b0 : (a1_2.toList == ([73, 110, 116] : List UInt8)) = true := beq_iff_eq.mpr c11; have c11b1 : (a1_2.toList != ([73, 110, 116] : List UInt8)) = false := bne_eq_false_iff_eq.mpr c11; clear c11; have H' := qO H; clear H; have hnb12 := NB102_101.out; have hnc12 := NB101_102.out; have hcz13_0 : w5.cell? ⟨gb102, 0, none⟩ = some (.string a1_0) := (blk_cell BK102.out 0).trans rfl; have hcz13_1 : w5.cell? ⟨gb102, 1, none⟩ = some (.slice A1_1 l1_1.length c1_1) := (blk_cell BK102.out 1).trans rfl; have hcz13_2 : w5.cell? ⟨gb102, 2, none⟩ = some (.string a1_2) := (blk_cell BK102.out 2).trans rfl; have hcz13_3 : w5.cell? ⟨gb102, 3, none⟩ = some (.bool a1_3) := (blk_cell BK102.out 3).trans rfl; have hcz13_4 : w5.cell? ⟨gb102, 4, none⟩ = some (.bool a1_4) := (blk_cell BK102.out 4).trans rfl; have hfz13_0 := blk_frozen BK102.out 0; have hfz13_1 := blk_frozen BK102.out 1; have hfz13_2 := blk_frozen BK102.out 2; have hfz13_3 := blk_frozen BK102.out 3; have hfz13_4 := blk_frozen BK102.out 4
     go_wp2_with (first | ((with_reducible refine gate_callee (f := 31) rfl ?_); refine goesL_ (some 9) rfl rfl Tryd.func31 qa16 rfl #[.string a1_0] rfl qa0 ?_; (with_reducible refine (impl_NameOK.calls k a1_0 true _ A6.out).mono ?_); rintro e w' ⟨rfl, ⟨nd, rfl⟩⟩; refine ⟨_, rfl, ?_⟩))
     go_meet
     case rel => exact ⟨_, (decide ((l1_1.length : Int) > 4)), qa10, H', ⟨qa88⟩, ⟨qa4⟩, ⟨qa45⟩, ⟨qa17⟩⟩
    ·rw [if_neg c11] at H
     have c11b0 : (a1_2.toList == ([73, 110, 116] : List UInt8)) = false := beq_eq_false_iff_ne.mpr c11; have c11b1 : (a1_2.toList != ([73, 110, 116] : List UInt8)) = true := bne_iff_ne.mpr c11; replace H := Option.bind_eq_some_iff.mp H; obtain ⟨t104, A140, H⟩ := H; replace H : (if t104 < 0 then (impl_Schema_fieldOK.j0 k true a1_0 l1_1 a1_2 a1_3 a1_4) else (impl_Schema_fieldOK.j0 k (decide ((l1_1.length : Int) > 4)) a1_0 l1_1 a1_2 a1_3 a1_4)) = some r := H; have A14 := qO A140; clear A140
     by_cases c15 : t104 < 0
     ·rw [if_pos c15] at H
      have c15b0 : decide (t104 < 0) = true := decide_eq_true c15; clear c15; have H' := qO H; clear H; have hnb16 := NB102_101.out; have hnc16 := NB101_102.out; have hcz17_0 : w5.cell? ⟨gb102, 0, none⟩ = some (.string a1_0) := (blk_cell BK102.out 0).trans rfl; have hcz17_1 : w5.cell? ⟨gb102, 1, none⟩ = some (.slice A1_1 l1_1.length c1_1) := (blk_cell BK102.out 1).trans rfl; have hcz17_2 : w5.cell? ⟨gb102, 2, none⟩ = some (.string a1_2) := (blk_cell BK102.out 2).trans rfl; have hcz17_3 : w5.cell? ⟨gb102, 3, none⟩ = some (.bool a1_3) := (blk_cell BK102.out 3).trans rfl; have hcz17_4 : w5.cell? ⟨gb102, 4, none⟩ = some (.bool a1_4) := (blk_cell BK102.out 4).trans rfl; have hfz17_0 := blk_frozen BK102.out 0; have hfz17_1 := blk_frozen BK102.out 1; have hfz17_2 := blk_frozen BK102.out 2; have hfz17_3 := blk_frozen BK102.out 3; have hfz17_4 := blk_frozen BK102.out 4
      go_wp2_with (first | ((with_reducible refine gate_callee (f := 31) rfl ?_); refine goesL_ (some 9) rfl rfl Tryd.func31 qa16 rfl #[.string a1_0] rfl qa0 ?_; (with_reducible refine (impl_NameOK.calls k a1_0 true _ A6.out).mono ?_); rintro e w' ⟨rfl, ⟨nd, rfl⟩⟩; refine ⟨_, rfl, ?_⟩; have hcz18_0 : w5.cell? ⟨gb101, 0, none⟩ = some (.slice A0_0 l0_0.length c0_0) := (blk_cell BK101.out 0).trans rfl; have hfz18_0 := blk_frozen BK101.out 0) | (go_at_call 30; (with_reducible refine (impl_Schema_typeAt.calls _ _ l0_0 a1_2 t104 _ ?side1 ?side2 A14.out).mono ?_); (case side1 => exact qa75); (case side2 => exact HC0_0.out); rintro e w19 ⟨rfl, hb⟩; have hx_ := qHX HB hb qa1; have n0_ := qO (qB BK101.out hx_ hb); have n1_ := qO (qB BK102.out hx_ hb); have n2_ := qO (below_step (below_step HB.out hx_) hb); clear BK101; clear BK102; clear HB; have BK101 := n0_; have BK102 := n1_; have HB := n2_; clear n0_ n1_ n2_; clear hx_; (try clear hb); (try clear hb2); (try clear hk); (try clear hi)))
      go_meet
      case rel => exact ⟨_, (true), qa10, H', ⟨qa88⟩, ⟨qa4⟩, ⟨qa45⟩, ⟨qa17⟩⟩
     ·rw [if_neg c15] at H
      have c15b0 : decide (t104 < 0) = false := decide_eq_false c15; clear c15; have H' := qO H; clear H; have hnb20 := NB102_101.out; have hnc20 := NB101_102.out; have hcz21_0 : w5.cell? ⟨gb102, 0, none⟩ = some (.string a1_0) := (blk_cell BK102.out 0).trans rfl; have hcz21_1 : w5.cell? ⟨gb102, 1, none⟩ = some (.slice A1_1 l1_1.length c1_1) := (blk_cell BK102.out 1).trans rfl; have hcz21_2 : w5.cell? ⟨gb102, 2, none⟩ = some (.string a1_2) := (blk_cell BK102.out 2).trans rfl; have hcz21_3 : w5.cell? ⟨gb102, 3, none⟩ = some (.bool a1_3) := (blk_cell BK102.out 3).trans rfl; have hcz21_4 : w5.cell? ⟨gb102, 4, none⟩ = some (.bool a1_4) := (blk_cell BK102.out 4).trans rfl; have hfz21_0 := blk_frozen BK102.out 0; have hfz21_1 := blk_frozen BK102.out 1; have hfz21_2 := blk_frozen BK102.out 2; have hfz21_3 := blk_frozen BK102.out 3; have hfz21_4 := blk_frozen BK102.out 4
      go_wp2_with (first | ((with_reducible refine gate_callee (f := 31) rfl ?_); refine goesL_ (some 9) rfl rfl Tryd.func31 qa16 rfl #[.string a1_0] rfl qa0 ?_; (with_reducible refine (impl_NameOK.calls k a1_0 true _ A6.out).mono ?_); rintro e w' ⟨rfl, ⟨nd, rfl⟩⟩; refine ⟨_, rfl, ?_⟩; have hcz22_0 : w5.cell? ⟨gb101, 0, none⟩ = some (.slice A0_0 l0_0.length c0_0) := (blk_cell BK101.out 0).trans rfl; have hfz22_0 := blk_frozen BK101.out 0) | (go_at_call 30; (with_reducible refine (impl_Schema_typeAt.calls _ _ l0_0 a1_2 t104 _ ?side1 ?side2 A14.out).mono ?_); (case side1 => exact qa75); (case side2 => exact HC0_0.out); rintro e w23 ⟨rfl, hb⟩; have hx_ := qHX HB hb qa1; have n0_ := qO (qB BK101.out hx_ hb); have n1_ := qO (qB BK102.out hx_ hb); have n2_ := qO (below_step (below_step HB.out hx_) hb); clear BK101; clear BK102; clear HB; have BK101 := n0_; have BK102 := n1_; have HB := n2_; clear n0_ n1_ n2_; clear hx_; (try clear hb); (try clear hb2); (try clear hk); (try clear hi); have hcz24_0 : w23.cell? ⟨gb102, 0, none⟩ = some (.string a1_0) := (blk_cell BK102.out 0).trans rfl; have hcz24_1 : w23.cell? ⟨gb102, 1, none⟩ = some (.slice A1_1 l1_1.length c1_1) := (blk_cell BK102.out 1).trans rfl; have hcz24_2 : w23.cell? ⟨gb102, 2, none⟩ = some (.string a1_2) := (blk_cell BK102.out 2).trans rfl; have hcz24_3 : w23.cell? ⟨gb102, 3, none⟩ = some (.bool a1_3) := (blk_cell BK102.out 3).trans rfl; have hcz24_4 : w23.cell? ⟨gb102, 4, none⟩ = some (.bool a1_4) := (blk_cell BK102.out 4).trans rfl; have hfz24_0 := blk_frozen BK102.out 0; have hfz24_1 := blk_frozen BK102.out 1; have hfz24_2 := blk_frozen BK102.out 2; have hfz24_3 := blk_frozen BK102.out 3; have hfz24_4 := blk_frozen BK102.out 4))
      go_meet
      case rel => exact ⟨_, (decide ((l1_1.length : Int) > 4)), qa10, H', ⟨qa88⟩, ⟨qa4⟩, ⟨qa45⟩, ⟨qa17⟩⟩
  ·replace c7 := Bool.eq_false_iff.mpr c7
   subst c7; have H1 : (impl_Schema_fieldOK.j0 k true a1_0 l1_1 a1_2 a1_3 a1_4) = some r := by rw [if_neg (show ¬ (false = true) by decide)] at H; exact H
   clear H; have H := H1; clear H1; have H' := qO H; clear H; have hnb25 := NB102_101.out; have hnc25 := NB101_102.out; have hcz26_0 : w5.cell? ⟨gb102, 0, none⟩ = some (.string a1_0) := (blk_cell BK102.out 0).trans rfl; have hcz26_1 : w5.cell? ⟨gb102, 1, none⟩ = some (.slice A1_1 l1_1.length c1_1) := (blk_cell BK102.out 1).trans rfl; have hcz26_2 : w5.cell? ⟨gb102, 2, none⟩ = some (.string a1_2) := (blk_cell BK102.out 2).trans rfl; have hcz26_3 : w5.cell? ⟨gb102, 3, none⟩ = some (.bool a1_3) := (blk_cell BK102.out 3).trans rfl; have hcz26_4 : w5.cell? ⟨gb102, 4, none⟩ = some (.bool a1_4) := (blk_cell BK102.out 4).trans rfl; have hfz26_0 := blk_frozen BK102.out 0; have hfz26_1 := blk_frozen BK102.out 1; have hfz26_2 := blk_frozen BK102.out 2; have hfz26_3 := blk_frozen BK102.out 3; have hfz26_4 := blk_frozen BK102.out 4
   go_wp2_with (first | ((with_reducible refine gate_callee (f := 31) rfl ?_); refine goesL_ (some 9) rfl rfl Tryd.func31 qa16 rfl #[.string a1_0] rfl qa0 ?_; (with_reducible refine (impl_NameOK.calls k a1_0 false _ A6.out).mono ?_); rintro e w' ⟨rfl, ⟨nd, rfl⟩⟩; refine ⟨_, rfl, ?_⟩))
   go_meet
   case rel => exact ⟨_, (true), qa10, H', ⟨qa88⟩, ⟨qa4⟩, ⟨qa45⟩, ⟨qa17⟩⟩
 case rest =>
  clear HC3
  try clear c1
  try clear c2
  try clear p2
  try clear c3
  try clear c7
  try clear c8
  try clear c8b0
  try clear c8b1
  try clear c9
  try clear c11
  try clear c11b0
  try clear c11b1
  try clear c12
  try clear c15
  try clear c15b0
  try clear c16
  try clear c20
  try clear c25
  try clear hcz10_0
  try clear hcz10_1
  try clear hcz10_2
  try clear hcz10_3
  try clear hcz10_4
  try clear hcz13_0
  try clear hcz13_1
  try clear hcz13_2
  try clear hcz13_3
  try clear hcz13_4
  try clear hcz17_0
  try clear hcz17_1
  try clear hcz17_2
  try clear hcz17_3
  try clear hcz17_4
  try clear hcz18_0
  try clear hcz21_0
  try clear hcz21_1
  try clear hcz21_2
  try clear hcz21_3
  try clear hcz21_4
  try clear hcz22_0
  try clear hcz24_0
  try clear hcz24_1
  try clear hcz24_2
  try clear hcz24_3
  try clear hcz24_4
  try clear hcz26_0
  try clear hcz26_1
  try clear hcz26_2
  try clear hcz26_3
  try clear hcz26_4
  try clear hfz10_0
  try clear hfz10_1
  try clear hfz10_2
  try clear hfz10_3
  try clear hfz10_4
  try clear hfz13_0
  try clear hfz13_1
  try clear hfz13_2
  try clear hfz13_3
  try clear hfz13_4
  try clear hfz17_0
  try clear hfz17_1
  try clear hfz17_2
  try clear hfz17_3
  try clear hfz17_4
  try clear hfz18_0
  try clear hfz21_0
  try clear hfz21_1
  try clear hfz21_2
  try clear hfz21_3
  try clear hfz21_4
  try clear hfz22_0
  try clear hfz24_0
  try clear hfz24_1
  try clear hfz24_2
  try clear hfz24_3
  try clear hfz24_4
  try clear hfz26_0
  try clear hfz26_1
  try clear hfz26_2
  try clear hfz26_3
  try clear hfz26_4
  obtain ⟨kq, x33_2, rfl, HA, HJ2, BK101, BK102, HB⟩ := hcut
  cases kq with
  | zero => exact absurd HA.out (by simp [impl_Schema_fieldOK.j0])
  | succ kj2 =>
   have H := HA.out; clear HA; simp only [impl_Schema_fieldOK.j0] at H
   by_cases c27 : x33_2 = true
   ·subst c27
    have H1 : (some false) = some r := by rw [if_pos rfl] at H; exact H
    clear H; have H := H1; clear H1; obtain rfl := Option.some.inj H; go_wp2
    go_ret
    exact ⟨qa5, qa17⟩
   ·replace c27 := Bool.eq_false_iff.mpr c27
    subst c27; have H1 : (impl_Schema_fieldOK.l0 kj2 l1_1 (l1_1.length : Int) 0 a1_0 l1_1 a1_2 a1_3 a1_4) = some r := by rw [if_neg (show ¬ (false = true) by decide)] at H; exact H
    clear H; have H := H1; clear H1; have H' := qO H; clear H; have hnb28 := NB102_101.out; have hnc28 := NB101_102.out; have hcz29_0 : wc.cell? ⟨gb102, 0, none⟩ = some (.string a1_0) := (blk_cell BK102.out 0).trans rfl; have hcz29_1 : wc.cell? ⟨gb102, 1, none⟩ = some (.slice A1_1 l1_1.length c1_1) := (blk_cell BK102.out 1).trans rfl; have hcz29_2 : wc.cell? ⟨gb102, 2, none⟩ = some (.string a1_2) := (blk_cell BK102.out 2).trans rfl; have hcz29_3 : wc.cell? ⟨gb102, 3, none⟩ = some (.bool a1_3) := (blk_cell BK102.out 3).trans rfl; have hcz29_4 : wc.cell? ⟨gb102, 4, none⟩ = some (.bool a1_4) := (blk_cell BK102.out 4).trans rfl; have hfz29_0 := blk_frozen BK102.out 0; have hfz29_1 := blk_frozen BK102.out 1; have hfz29_2 := blk_frozen BK102.out 2; have hfz29_3 := blk_frozen BK102.out 3; have hfz29_4 := blk_frozen BK102.out 4; go_wp2
    go_loopg [37] kj2 (fun kq v37 w' => ∃ (x37_2 : Int), v37 = .int .i64 x37_2 ∧ Aside0 (impl_Schema_fieldOK.l0 kq l1_1 (l1_1.length : Int) x37_2 a1_0 l1_1 a1_2 a1_3 a1_4 = some r) ∧ Aside0 (kq ≤ kj2) ∧ Aside0 (w'.heap[gb101]? = some (.cells #[(.slice A0_0 l0_0.length c0_0)] 30 (0, 0))) ∧ Aside0 (w'.heap[gb102]? = some (.cells #[.string a1_0, (.slice A1_1 l1_1.length c1_1), .string a1_2, .bool a1_3, .bool a1_4] 47 (0, 0))) ∧ Aside0 (Below w.heap.size w w'))
    case atStart => exact ⟨(0), qa10, H', ⟨Nat.le_refl _⟩, ⟨qa4⟩, ⟨qa45⟩, ⟨qa17⟩⟩
    case round =>
     clear H'
     try clear c1
     try clear c2
     try clear p2
     try clear c3
     try clear c7
     try clear c8
     try clear c8b0
     try clear c8b1
     try clear c9
     try clear c11
     try clear c11b0
     try clear c11b1
     try clear c12
     try clear c15
     try clear c15b0
     try clear c16
     try clear c20
     try clear c25
     try clear c27
     try clear c28
     try clear hcz10_0
     try clear hcz10_1
     try clear hcz10_2
     try clear hcz10_3
     try clear hcz10_4
     try clear hcz13_0
     try clear hcz13_1
     try clear hcz13_2
     try clear hcz13_3
     try clear hcz13_4
     try clear hcz17_0
     try clear hcz17_1
     try clear hcz17_2
     try clear hcz17_3
     try clear hcz17_4
     try clear hcz18_0
     try clear hcz21_0
     try clear hcz21_1
     try clear hcz21_2
     try clear hcz21_3
     try clear hcz21_4
     try clear hcz22_0
     try clear hcz24_0
     try clear hcz24_1
     try clear hcz24_2
     try clear hcz24_3
     try clear hcz24_4
     try clear hcz26_0
     try clear hcz26_1
     try clear hcz26_2
     try clear hcz26_3
     try clear hcz26_4
     try clear hcz29_0
     try clear hcz29_1
     try clear hcz29_2
     try clear hcz29_3
     try clear hcz29_4
     try clear hfz10_0
     try clear hfz10_1
     try clear hfz10_2
     try clear hfz10_3
     try clear hfz10_4
     try clear hfz13_0
     try clear hfz13_1
     try clear hfz13_2
     try clear hfz13_3
     try clear hfz13_4
     try clear hfz17_0
     try clear hfz17_1
     try clear hfz17_2
     try clear hfz17_3
     try clear hfz17_4
     try clear hfz18_0
     try clear hfz21_0
     try clear hfz21_1
     try clear hfz21_2
     try clear hfz21_3
     try clear hfz21_4
     try clear hfz22_0
     try clear hfz24_0
     try clear hfz24_1
     try clear hfz24_2
     try clear hfz24_3
     try clear hfz24_4
     try clear hfz26_0
     try clear hfz26_1
     try clear hfz26_2
     try clear hfz26_3
     try clear hfz26_4
     try clear hfz29_0
     try clear hfz29_1
     try clear hfz29_2
     try clear hfz29_3
     try clear hfz29_4
     try clear p2
     obtain ⟨x37_2, rfl, HA, HK2, BK101, BK102, HB⟩ := hrel
     cases gk with
     | zero => exact absurd HA.out (by simp [impl_Schema_fieldOK.l0])
     | succ k2 =>
      have H := HA.out; clear HA; simp only [impl_Schema_fieldOK.l0] at H
      by_cases c30 : x37_2 < (l1_1.length : Int)
      ·rw [if_pos c30] at H
       have c30b0 : decide (x37_2 < (l1_1.length : Int)) = true := decide_eq_true c30; clear c30
       by_cases c31 : 0 ≤ x37_2
       ·rw [if_pos c31] at H
        have c31b0 : decide (0 ≤ x37_2) = true := decide_eq_true c31; clear c31
        by_cases c32 : x37_2 < (l1_1.length : Int)
        ·rw [if_pos c32] at H
         have c32b0 : decide (x37_2 < (l1_1.length : Int)) = true := decide_eq_true c32; clear c32; replace H := Option.bind_eq_some_iff.mp H; obtain ⟨t107, A330, H⟩ := H; replace H : (if t107 = true then ((impl_FieldDef_argAt.f a1_0 l1_1 a1_2 a1_3 a1_4 ((rd_T60 l1_1 x37_2).f0)).bind fun t108 => (if t108 = x37_2 then (impl_Schema_fieldOK.l0 k2 l1_1 (l1_1.length : Int) (wrap64 (x37_2 + 1)) a1_0 l1_1 a1_2 a1_3 a1_4) else (some false))) else (some false)) = some r := H; have A33 := qO A330; clear A330
         by_cases c34 : t107 = true
         ·subst c34
          have H1 : ((impl_FieldDef_argAt.f a1_0 l1_1 a1_2 a1_3 a1_4 ((rd_T60 l1_1 x37_2).f0)).bind fun t108 => (if t108 = x37_2 then (impl_Schema_fieldOK.l0 k2 l1_1 (l1_1.length : Int) (wrap64 (x37_2 + 1)) a1_0 l1_1 a1_2 a1_3 a1_4) else (some false))) = some r := by rw [if_pos rfl] at H; exact H
          clear H; have H := H1; clear H1; replace H := Option.bind_eq_some_iff.mp H; obtain ⟨t108, A350, H⟩ := H; replace H : (if t108 = x37_2 then (impl_Schema_fieldOK.l0 k2 l1_1 (l1_1.length : Int) (wrap64 (x37_2 + 1)) a1_0 l1_1 a1_2 a1_3 a1_4) else (some false)) = some r := H; have A35 := qO A350; clear A350
          by_cases c36 : t108 = x37_2
          ·rw [if_pos c36] at H
           have c36b0 : (t108 == x37_2) = true := beq_iff_eq.mpr c36; have c36b1 : (t108 != x37_2) = false := bne_eq_false_iff_eq.mpr c36; clear c36; have H' := qO H; clear H; have p105 : 0 ≤ (x37_2 : Int) := qT qa6; have q105 : x37_2 < (l1_1.length : Int) := qT qa6; obtain ⟨ad105, e105, hx105_0, hx105_1⟩ := at_T60 HR1_1.out x37_2 p105 q105
           cases e105
           replace hx105_0 := (HB.out.cell (qL w _ hx105_0)).trans hx105_0; replace hx105_1 := (HB.out.cell (qL w _ hx105_1)).trans hx105_1; replace p105 := eq_true p105; replace q105 := eq_true q105
           go_wp2_with (first | ((with_reducible refine gate_dst (N := 6) rfl ?_); (try (refine gate_guard (by rfl) ?_; dsimp only)); refine box_event ?hg (N := 6) ?hd (cs := #[.string (⟨#[]⟩ : ByteArray), .bool false]) (t := 60) ?hr ?_; (case hd => rfl); (case hg => rfl); (case hr => exact qa18); intro gb106 hg w37 hbox hb; have hx_ := qHX HB hb qa1; have n0_ := qO (qB BK101.out hx_ hb); have n1_ := qO (qB BK102.out hx_ hb); have n2_ := qO (below_step (below_step HB.out hx_) hb); have n3_ := qO (hbox); have n4_ := qO ((qa14 : w.heap.size ≤ gb106)); have n5_ := n4_; have n6_ := qO ((qa33 : gb101 ≠ gb106)); have n7_ := qO (Ne.symm n6_.out); have n8_ := qO ((qa58 : gb102 ≠ gb106)); have n9_ := qO (Ne.symm n8_.out); clear BK101; clear BK102; clear HB; have BK101 := n0_; have BK102 := n1_; have HB := n2_; have BK106 := n3_; have GW106 := n4_; have GE106 := n5_; have NB101_106 := n6_; have NB106_101 := n7_; have NB102_106 := n8_; have NB106_102 := n9_; clear n0_ n1_ n2_ n3_ n4_ n5_ n6_ n7_ n8_ n9_; clear hx_; clear hb hbox hg; have hnb38 := NB106_101.out; have hnc38 := NB101_106.out; have hnb39 := NB106_102.out; have hnc39 := NB102_106.out; have hcz40_0 : w37.cell? ⟨gb106, 0, none⟩ = some (.string (⟨#[]⟩ : ByteArray)) := (blk_cell BK106.out 0).trans rfl; have hcz40_1 : w37.cell? ⟨gb106, 1, none⟩ = some (.bool false) := (blk_cell BK106.out 1).trans rfl; have hfz40_0 := blk_frozen BK106.out 0; have hfz40_1 := blk_frozen BK106.out 1) | ((with_reducible refine gate_callee (f := 31) rfl ?_); refine goesL_ (some 44) rfl rfl Tryd.func31 qa16 rfl #[.string ((rd_T60 l1_1 x37_2).f0)] rfl qa0 ?_; (with_reducible refine (impl_NameOK.calls k2 ((rd_T60 l1_1 x37_2).f0) true _ A33.out).mono ?_); rintro e w' ⟨rfl, ⟨nd, rfl⟩⟩; refine ⟨_, rfl, ?_⟩; have hnb41 := NB102_101.out; have hnc41 := NB101_102.out; have hcz42_0 : w37.cell? ⟨gb102, 0, none⟩ = some (.string a1_0) := (blk_cell BK102.out 0).trans rfl; have hcz42_1 : w37.cell? ⟨gb102, 1, none⟩ = some (.slice (some ad105) l1_1.length c1_1) := (blk_cell BK102.out 1).trans rfl; have hcz42_2 : w37.cell? ⟨gb102, 2, none⟩ = some (.string a1_2) := (blk_cell BK102.out 2).trans rfl; have hcz42_3 : w37.cell? ⟨gb102, 3, none⟩ = some (.bool a1_3) := (blk_cell BK102.out 3).trans rfl; have hcz42_4 : w37.cell? ⟨gb102, 4, none⟩ = some (.bool a1_4) := (blk_cell BK102.out 4).trans rfl; have hfz42_0 := blk_frozen BK102.out 0; have hfz42_1 := blk_frozen BK102.out 1; have hfz42_2 := blk_frozen BK102.out 2; have hfz42_3 := blk_frozen BK102.out 3; have hfz42_4 := blk_frozen BK102.out 4) | (go_at_call 45; (with_reducible refine (impl_FieldDef_argAt.calls a1_0 _ _ l1_1 a1_2 a1_3 a1_4 ((rd_T60 l1_1 x37_2).f0) t108 _ ?side1 ?side2 A35.out).mono ?_); (case side1 => exact qa97); (case side2 => exact HC1_1.out); rintro e w43 ⟨rfl, hb⟩; have n0_ := qO (blk_below (g := gb101) (o := .cells #[.slice A0_0 l0_0.length c0_0] 30 (0, 0)) qa63 hb); have n1_ := qO (blk_below (g := gb102) (o := .cells #[.string a1_0, .slice (some ad105) l1_1.length c1_1, .string a1_2, .bool a1_3, .bool a1_4] 47 (0, 0)) qa64 hb); have n2_ := qO (blk_below (g := gb106) (o := .cells #[.string ((rd_T60 l1_1 x37_2).f0), .bool ((rd_T60 l1_1 x37_2).f1)] 60 (0, 0)) qa54 hb); have n3_ := qO (below_step qa52 hb); clear BK101; clear BK102; clear BK106; clear HB; have BK101 := n0_; have BK102 := n1_; have BK106 := n2_; have HB := n3_; clear n0_ n1_ n2_ n3_; (try clear hb); (try clear hb2); (try clear hk); (try clear hi)))
           go_roundg k2
           case measure => have := HJ2.out; have := HK2.out; omega
           case rel => exact ⟨(wrap64 (x37_2 + 1)), qa10, H', ⟨by have := HJ2.out; have := HK2.out; omega⟩, ⟨qa4⟩, ⟨qa45⟩, ⟨qa52⟩⟩
          ·rw [if_neg c36] at H
           have c36b0 : (t108 == x37_2) = false := beq_eq_false_iff_ne.mpr c36; have c36b1 : (t108 != x37_2) = true := bne_iff_ne.mpr c36; obtain rfl := Option.some.inj H; have p105 : 0 ≤ (x37_2 : Int) := qT qa6; have q105 : x37_2 < (l1_1.length : Int) := qT qa6; obtain ⟨ad105, e105, hx105_0, hx105_1⟩ := at_T60 HR1_1.out x37_2 p105 q105
           cases e105
           replace hx105_0 := (HB.out.cell (qL w _ hx105_0)).trans hx105_0; replace hx105_1 := (HB.out.cell (qL w _ hx105_1)).trans hx105_1; replace p105 := eq_true p105; replace q105 := eq_true q105
           go_wp2_with (first | ((with_reducible refine gate_dst (N := 6) rfl ?_); (try (refine gate_guard (by rfl) ?_; dsimp only)); refine box_event ?hg (N := 6) ?hd (cs := #[.string (⟨#[]⟩ : ByteArray), .bool false]) (t := 60) ?hr ?_; (case hd => rfl); (case hg => rfl); (case hr => exact qa18); intro gb106 hg w44 hbox hb; have hx_ := qHX HB hb qa1; have n0_ := qO (qB BK101.out hx_ hb); have n1_ := qO (qB BK102.out hx_ hb); have n2_ := qO (below_step (below_step HB.out hx_) hb); have n3_ := qO (hbox); have n4_ := qO ((qa14 : w.heap.size ≤ gb106)); have n5_ := n4_; have n6_ := qO ((qa33 : gb101 ≠ gb106)); have n7_ := qO (Ne.symm n6_.out); have n8_ := qO ((qa58 : gb102 ≠ gb106)); have n9_ := qO (Ne.symm n8_.out); clear BK101; clear BK102; clear HB; have BK101 := n0_; have BK102 := n1_; have HB := n2_; have BK106 := n3_; have GW106 := n4_; have GE106 := n5_; have NB101_106 := n6_; have NB106_101 := n7_; have NB102_106 := n8_; have NB106_102 := n9_; clear n0_ n1_ n2_ n3_ n4_ n5_ n6_ n7_ n8_ n9_; clear hx_; clear hb hbox hg; have hnb45 := NB106_101.out; have hnc45 := NB101_106.out; have hnb46 := NB106_102.out; have hnc46 := NB102_106.out; have hcz47_0 : w44.cell? ⟨gb106, 0, none⟩ = some (.string (⟨#[]⟩ : ByteArray)) := (blk_cell BK106.out 0).trans rfl; have hcz47_1 : w44.cell? ⟨gb106, 1, none⟩ = some (.bool false) := (blk_cell BK106.out 1).trans rfl; have hfz47_0 := blk_frozen BK106.out 0; have hfz47_1 := blk_frozen BK106.out 1) | ((with_reducible refine gate_callee (f := 31) rfl ?_); refine goesL_ (some 44) rfl rfl Tryd.func31 qa16 rfl #[.string ((rd_T60 l1_1 x37_2).f0)] rfl qa0 ?_; (with_reducible refine (impl_NameOK.calls k2 ((rd_T60 l1_1 x37_2).f0) true _ A33.out).mono ?_); rintro e w' ⟨rfl, ⟨nd, rfl⟩⟩; refine ⟨_, rfl, ?_⟩; have hnb48 := NB102_101.out; have hnc48 := NB101_102.out; have hcz49_0 : w44.cell? ⟨gb102, 0, none⟩ = some (.string a1_0) := (blk_cell BK102.out 0).trans rfl; have hcz49_1 : w44.cell? ⟨gb102, 1, none⟩ = some (.slice (some ad105) l1_1.length c1_1) := (blk_cell BK102.out 1).trans rfl; have hcz49_2 : w44.cell? ⟨gb102, 2, none⟩ = some (.string a1_2) := (blk_cell BK102.out 2).trans rfl; have hcz49_3 : w44.cell? ⟨gb102, 3, none⟩ = some (.bool a1_3) := (blk_cell BK102.out 3).trans rfl; have hcz49_4 : w44.cell? ⟨gb102, 4, none⟩ = some (.bool a1_4) := (blk_cell BK102.out 4).trans rfl; have hfz49_0 := blk_frozen BK102.out 0; have hfz49_1 := blk_frozen BK102.out 1; have hfz49_2 := blk_frozen BK102.out 2; have hfz49_3 := blk_frozen BK102.out 3; have hfz49_4 := blk_frozen BK102.out 4) | (go_at_call 45; (with_reducible refine (impl_FieldDef_argAt.calls a1_0 _ _ l1_1 a1_2 a1_3 a1_4 ((rd_T60 l1_1 x37_2).f0) t108 _ ?side1 ?side2 A35.out).mono ?_); (case side1 => exact qa97); (case side2 => exact HC1_1.out); rintro e w50 ⟨rfl, hb⟩; have n0_ := qO (blk_below (g := gb101) (o := .cells #[.slice A0_0 l0_0.length c0_0] 30 (0, 0)) qa63 hb); have n1_ := qO (blk_below (g := gb102) (o := .cells #[.string a1_0, .slice (some ad105) l1_1.length c1_1, .string a1_2, .bool a1_3, .bool a1_4] 47 (0, 0)) qa64 hb); have n2_ := qO (blk_below (g := gb106) (o := .cells #[.string ((rd_T60 l1_1 x37_2).f0), .bool ((rd_T60 l1_1 x37_2).f1)] 60 (0, 0)) qa54 hb); have n3_ := qO (below_step qa52 hb); clear BK101; clear BK102; clear BK106; clear HB; have BK101 := n0_; have BK102 := n1_; have BK106 := n2_; have HB := n3_; clear n0_ n1_ n2_ n3_; (try clear hb); (try clear hb2); (try clear hk); (try clear hi)))
           go_ret
           exact ⟨qa5, qa52⟩
         ·replace c34 := Bool.eq_false_iff.mpr c34
          subst c34; have H1 : (some false) = some r := by rw [if_neg (show ¬ (false = true) by decide)] at H; exact H
          clear H; have H := H1; clear H1; obtain rfl := Option.some.inj H; have p105 : 0 ≤ (x37_2 : Int) := qT qa6; have q105 : x37_2 < (l1_1.length : Int) := qT qa6; obtain ⟨ad105, e105, hx105_0, hx105_1⟩ := at_T60 HR1_1.out x37_2 p105 q105
          cases e105
          replace hx105_0 := (HB.out.cell (qL w _ hx105_0)).trans hx105_0; replace hx105_1 := (HB.out.cell (qL w _ hx105_1)).trans hx105_1; replace p105 := eq_true p105; replace q105 := eq_true q105
          go_wp2_with (first | ((with_reducible refine gate_dst (N := 6) rfl ?_); (try (refine gate_guard (by rfl) ?_; dsimp only)); refine box_event ?hg (N := 6) ?hd (cs := #[.string (⟨#[]⟩ : ByteArray), .bool false]) (t := 60) ?hr ?_; (case hd => rfl); (case hg => rfl); (case hr => exact qa18); intro gb106 hg w51 hbox hb; have hx_ := qHX HB hb qa1; have n0_ := qO (qB BK101.out hx_ hb); have n1_ := qO (qB BK102.out hx_ hb); have n2_ := qO (below_step (below_step HB.out hx_) hb); have n3_ := qO (hbox); have n4_ := qO ((qa14 : w.heap.size ≤ gb106)); have n5_ := n4_; have n6_ := qO ((qa33 : gb101 ≠ gb106)); have n7_ := qO (Ne.symm n6_.out); have n8_ := qO ((qa58 : gb102 ≠ gb106)); have n9_ := qO (Ne.symm n8_.out); clear BK101; clear BK102; clear HB; have BK101 := n0_; have BK102 := n1_; have HB := n2_; have BK106 := n3_; have GW106 := n4_; have GE106 := n5_; have NB101_106 := n6_; have NB106_101 := n7_; have NB102_106 := n8_; have NB106_102 := n9_; clear n0_ n1_ n2_ n3_ n4_ n5_ n6_ n7_ n8_ n9_; clear hx_; clear hb hbox hg; have hnb52 := NB106_101.out; have hnc52 := NB101_106.out; have hnb53 := NB106_102.out; have hnc53 := NB102_106.out; have hcz54_0 : w51.cell? ⟨gb106, 0, none⟩ = some (.string (⟨#[]⟩ : ByteArray)) := (blk_cell BK106.out 0).trans rfl; have hcz54_1 : w51.cell? ⟨gb106, 1, none⟩ = some (.bool false) := (blk_cell BK106.out 1).trans rfl; have hfz54_0 := blk_frozen BK106.out 0; have hfz54_1 := blk_frozen BK106.out 1) | ((with_reducible refine gate_callee (f := 31) rfl ?_); refine goesL_ (some 44) rfl rfl Tryd.func31 qa16 rfl #[.string ((rd_T60 l1_1 x37_2).f0)] rfl qa0 ?_; (with_reducible refine (impl_NameOK.calls k2 ((rd_T60 l1_1 x37_2).f0) false _ A33.out).mono ?_); rintro e w' ⟨rfl, ⟨nd, rfl⟩⟩; refine ⟨_, rfl, ?_⟩))
          go_ret
          exact ⟨qa5, qa52⟩
        ·rw [if_neg c32] at H
         exact absurd H qa76
       ·rw [if_neg c31] at H
        exact absurd H qa76
      ·rw [if_neg c30] at H
       have c30b0 : decide (x37_2 < (l1_1.length : Int)) = false := decide_eq_false c30; clear c30; obtain rfl := Option.some.inj H; go_wp2
       go_ret
       exact ⟨qa5, qa17⟩


/-- The first place at which p holds, or -1. -/
def impl_FieldDef.fp (p : (S47) → Bool) (l0 : List (S47)) : Int := match l0.findIdx? p with | some i => (i : Int) | none => -1
theorem impl_FieldDef.hit (p : (S47) → Bool) (l0 : List (S47)) (kk : Nat) (x : (S47)) (hx : l0[kk]? = some x) (hp : p x = true) (hno : ∀ j, j < kk → ∀ x, l0[j]? = some x → p x = false) : impl_FieldDef.fp p l0 = kk := by
 unfold impl_FieldDef.fp
 have h : l0.findIdx? p = some kk := by
  rw [List.findIdx?_eq_some_iff_getElem]; obtain ⟨hl, he⟩ := List.getElem?_eq_some_iff.1 hx
  exact ⟨hl, by rw [he]; exact hp, fun j hj => by rw [hno j hj _ (List.getElem?_eq_getElem (Nat.lt_trans hj hl))]; simp⟩
 rw [h]
theorem impl_FieldDef.miss (p : (S47) → Bool) (l0 : List (S47)) (hno : ∀ j, j < l0.length → ∀ x, l0[j]? = some x → p x = false) : impl_FieldDef.fp p l0 = -1 := by
 unfold impl_FieldDef.fp
 have h : l0.findIdx? p = none := by
  rw [List.findIdx?_eq_none_iff]; intro x hx; obtain ⟨j, hj⟩ := List.getElem?_of_mem hx
  exact hno j (List.getElem?_eq_some_iff.1 hj).1 x hj
 rw [h]
set_option maxHeartbeats 4000000 in
set_option maxRecDepth 100000 in
theorem impl_FieldDef.callsP (A0 : Option Addr) (c0 : Nat) (l0 : List (S47)) (g : Nat) (cb : Array Value) (p : (S47) → Bool) (w : World) (eg : ∀ args w, (callFunc g args).run Tryd.prog w = .ok (.enter g args) w) (hr0 : Kd.C k47 w A0 l0.length l0)
  (hp : ∀ (W : World) (x : (S47)) (E1 : Option Addr) (e1 : Nat), x ∈ l0 → Below w.heap.size w W → Calls Tryd.prog g (#[.agg #[.string x.f0, .slice E1 x.f1.length e1, .string x.f2, .bool x.f3, .bool x.f4]] ++ cb) W fun e w' => e = .returned (.bool (p x)) ∧ Below w.heap.size w w') :
  Calls Tryd.prog 46 #[.slice A0 l0.length c0, .func (.func g) #[] cb] w fun e w' => e = .returned (.int .i64 (impl_FieldDef.fp p l0)) ∧ Below w.heap.size w w' := by
 have hlen := hr0.2.1; have HR := qO hr0; have HP := qO hp; clear hr0 hp; have isagg := Tryd.isAgg47
 go_enter Tryd.func46, Tryd.ntmps46
 go_wp2
 go_loopg [5, 8] l0.length (fun gg _ s8 wr => ∃ kk : Nat, kk ≤ l0.length ∧ l0.length - kk ≤ gg ∧ s8 = .int .i64 kk ∧ Aside0 (Below w.heap.size w wr) ∧ Aside0 (∀ j, j < kk → ∀ x, l0[j]? = some x → p x = false))
 case atStart => exact ⟨0, Nat.zero_le _, qa25, rfl, ⟨Below.refl _ w⟩, ⟨fun j hj => absurd hj (Nat.not_lt_zero _)⟩⟩
 case round =>
  obtain ⟨kk, hkk, hg, rfl, BW, No⟩ := hrel
  by_cases hlt : kk < l0.length
  ·have hltz : (kk : Int) < (l0.length : Int) := by omega
   obtain ⟨ad, E1, e1, e, hx0, hx1, hx2, hx3, hx4, hl1, hi1⟩ := at_T47 HR.out (kk : Int) qa25 hltz
   cases e
   replace hx0 := (BW.out.cell (qL w _ hx0)).trans hx0; replace hx1 := (BW.out.cell (qL w _ hx1)).trans hx1; replace hx2 := (BW.out.cell (qL w _ hx2)).trans hx2; replace hx3 := (BW.out.cell (qL w _ hx3)).trans hx3; replace hx4 := (BW.out.cell (qL w _ hx4)).trans hx4; simp only [Int.toNat_natCast] at hx0; simp only [Int.toNat_natCast] at hx1; simp only [Int.toNat_natCast] at hx2; simp only [Int.toNat_natCast] at hx3; simp only [Int.toNat_natCast] at hx4
   have hx : l0[kk]? = some (rd_T47 l0 (kk : Int)) := by
    rw [List.getElem?_eq_getElem hlt]
    show some l0[kk] = some (l0.getD (kk : Int).toNat _)
    rw [Int.toNat_natCast, List.getD_eq_getElem?_getD, List.getElem?_eq_getElem hlt]
    rfl
   clear hl1 hi1; have hcall := HP.out wr (rd_T47 l0 (kk : Int)) E1 e1 (List.mem_of_getElem? hx) BW.out; have HX := qO hx; clear hx; generalize rd_T47 l0 (kk : Int) = x at hcall HX hx0 hx1 hx2 hx3 hx4
   cases hq : p x with
   | true =>
    have HQ := qO hq; rw [hq] at hcall; clear hq
    go_wp2_with (go_at_fn g; refine hcall.mono ?_; rintro e w' ⟨rfl, hb'⟩)
    go_ret
    exact ⟨by rw [impl_FieldDef.hit p l0 kk x HX.out HQ.out No.out]; rfl, hb'⟩
   | false =>
    have HQ := qO hq; rw [hq] at hcall; clear hq
    go_wp2_with (go_at_fn g; refine hcall.mono ?_; rintro e w' ⟨rfl, hb'⟩)
    go_roundg (l0.length - (kk + 1))
    case measure => omega
    case rel =>
     refine ⟨kk + 1, qa25, qa25, by go_num, ⟨hb'⟩, ⟨fun j hj x' hx' => ?_⟩⟩
     by_cases e : j = kk
     ·subst e
      rw [HX.out] at hx'; obtain rfl := Option.some.inj hx'
      exact HQ.out
     ·exact No.out j qa25 x' hx'
  ·have hltz : ¬ (kk : Int) < (l0.length : Int) := by omega
   have hk : kk = l0.length := by omega
   have HK := qO hk; clear hk; go_wp2
   go_ret
   exact ⟨by rw [impl_FieldDef.miss p l0 (fun j hj => No.out j (by rw [HK.out]; exact hj))]; rfl, BW.out⟩

end Go.Proofs.YtoogmlghfljeiaaDoor.Q
