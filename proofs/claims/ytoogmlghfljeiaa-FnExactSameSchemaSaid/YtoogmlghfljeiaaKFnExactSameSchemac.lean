/- Texts of the claim on FnExactSameSchema, gathered by a program of this session: what the program's functions compute (proved by walks), and the plain part. -/
import Derived.Test.YtoogmlghfljeiaaKFnExactSameSchemab
namespace Go.Proofs.Ytoogmlghfljeiaa.Q
open Go.RowKit Go.Proofs.YtoogmlghfljeiaaW.PrintWords Go.Proofs.YtoogmlghfljeiaaW.PrintLast Go.Proofs.YtoogmlghfljeiaaW.PrintMore
attribute [local go_sem] max2_int min2_int max_two min_two max_three min_three max_four min_four
set_option linter.unusedVariables false
set_option linter.unusedSimpArgs false

mutual
def spec_l03Print.l0 : Nat → List ByteArray → Int → List (S53) → Option (ByteArray)
 | 0, _, _, _ => none
 | k + 1, x3, x4, x102000 => if x4 < (x102000.length : Int) then (if 0 ≤ x4 then (if 5 + ((rd_T53 x102000 x4).f0).size ≤ 9223372036854775807 then (if ((⟨#[116, 121, 112, 101, 32]⟩ : ByteArray) ++ ((rd_T53 x102000 x4).f0)).size + 2 ≤ 9223372036854775807 then (spec_l03Print.l1 k x3 x4 (((⟨#[116, 121, 112, 101, 32]⟩ : ByteArray) ++ ((rd_T53 x102000 x4).f0)) ++ (⟨#[32, 123]⟩ : ByteArray)) 0 x102000) else (none)) else (none)) else (none)) else ((spec_l00Join.f k x3 (⟨#[32]⟩ : ByteArray)).bind fun t105 => (some t105))
def spec_l03Print.l1 : Nat → List ByteArray → Int → ByteArray → Int → List (S53) → Option (ByteArray)
 | 0, _, _, _, _, _ => none
 | k + 1, x3, x4, x5, x6, x102000 => if 0 ≤ x4 then (if x4 < (x102000.length : Int) then (if x6 < (((rd_T53 x102000 x4).f1).length : Int) then (if 0 ≤ x6 then (if 1 + ((rd_T38 ((rd_T53 x102000 x4).f1) x6).f0).size ≤ 9223372036854775807 then (if x5.size + ((⟨#[32]⟩ : ByteArray) ++ ((rd_T38 ((rd_T53 x102000 x4).f1) x6).f0)).size ≤ 9223372036854775807 then (spec_l03Print.l2 k x3 x4 (x5 ++ ((⟨#[32]⟩ : ByteArray) ++ ((rd_T38 ((rd_T53 x102000 x4).f1) x6).f0))) x6 0 x102000 ((rd_T38 ((rd_T53 x102000 x4).f1) x6).f0) ((rd_T38 ((rd_T53 x102000 x4).f1) x6).f1) ((rd_T38 ((rd_T53 x102000 x4).f1) x6).f2) ((rd_T38 ((rd_T53 x102000 x4).f1) x6).f3) ((rd_T38 ((rd_T53 x102000 x4).f1) x6).f4)) else (none)) else (none)) else (none)) else (if x5.size + 2 ≤ 9223372036854775807 then (if x3.length < 8796093022208 then (spec_l03Print.l0 k (x3 ++ [x5 ++ (⟨#[32, 125]⟩ : ByteArray)]) (wrap64 (x4 + 1)) x102000) else (none)) else (none))) else (none)) else (none)
def spec_l03Print.l2 : Nat → List ByteArray → Int → ByteArray → Int → Int → List (S53) → ByteArray → List (S57) → ByteArray → Bool → Bool → Option (ByteArray)
 | 0, _, _, _, _, _, _, _, _, _, _, _ => none
 | k + 1, x3, x4, x5, x6, x8, x102000, x114000, x114001, x114002, x114003, x114004 => if x8 < (x114001.length : Int) then ((some (([(⟨#[32, 40, 32]⟩ : ByteArray), (⟨#[32]⟩ : ByteArray)] : List ByteArray) : List ByteArray)).bind fun y114 => ((spec_l01Bit.f (decide (x8 > 0))).bind fun t117 => (if 0 ≤ t117 then (if t117 < (y114.length : Int) then (if 0 ≤ x8 then (if (rdOf ByteArray.empty y114 t117).size + ((rd_T57 x114001 x8).f0).size ≤ 9223372036854775807 then (if ((rdOf ByteArray.empty y114 t117) ++ ((rd_T57 x114001 x8).f0)).size + 6 ≤ 9223372036854775807 then (if x5.size + (((rdOf ByteArray.empty y114 t117) ++ ((rd_T57 x114001 x8).f0)) ++ (⟨#[32, 58, 32, 73, 110, 116]⟩ : ByteArray)).size ≤ 9223372036854775807 then (if (rd_T57 x114001 x8).f1 = true then (if (x5 ++ (((rdOf ByteArray.empty y114 t117) ++ ((rd_T57 x114001 x8).f0)) ++ (⟨#[32, 58, 32, 73, 110, 116]⟩ : ByteArray))).size + 2 ≤ 9223372036854775807 then (spec_l03Print.l2 k x3 x4 ((x5 ++ (((rdOf ByteArray.empty y114 t117) ++ ((rd_T57 x114001 x8).f0)) ++ (⟨#[32, 58, 32, 73, 110, 116]⟩ : ByteArray))) ++ (⟨#[32, 33]⟩ : ByteArray)) x6 (wrap64 (x8 + 1)) x102000 x114000 x114001 x114002 x114003 x114004) else (none)) else (spec_l03Print.l2 k x3 x4 (x5 ++ (((rdOf ByteArray.empty y114 t117) ++ ((rd_T57 x114001 x8).f0)) ++ (⟨#[32, 58, 32, 73, 110, 116]⟩ : ByteArray))) x6 (wrap64 (x8 + 1)) x102000 x114000 x114001 x114002 x114003 x114004)) else (none)) else (none)) else (none)) else (none)) else (none)) else (none)))) else (if (x114001.length : Int) > 0 then (if x5.size + 2 ≤ 9223372036854775807 then ((spec_l03Type.f x114000 x114001 x114002 x114003 x114004).bind fun t121 => (if 3 + t121.size ≤ 9223372036854775807 then (if (x5 ++ (⟨#[32, 41]⟩ : ByteArray)).size + ((⟨#[32, 58, 32]⟩ : ByteArray) ++ t121).size ≤ 9223372036854775807 then (spec_l03Print.l1 k x3 x4 ((x5 ++ (⟨#[32, 41]⟩ : ByteArray)) ++ ((⟨#[32, 58, 32]⟩ : ByteArray) ++ t121)) (wrap64 (x6 + 1)) x102000) else (none)) else (none))) else (none)) else ((spec_l03Type.f x114000 x114001 x114002 x114003 x114004).bind fun t122 => (if 3 + t122.size ≤ 9223372036854775807 then (if x5.size + ((⟨#[32, 58, 32]⟩ : ByteArray) ++ t122).size ≤ 9223372036854775807 then (spec_l03Print.l1 k x3 x4 (x5 ++ ((⟨#[32, 58, 32]⟩ : ByteArray) ++ t122)) (wrap64 (x6 + 1)) x102000) else (none)) else (none))))
end
def spec_l03Print.f (k : Nat) (l0_0 : List (S53)) : Option (ByteArray) := spec_l03Print.l0 k (([] : List ByteArray)) 0 l0_0
def spec_l03Print.T14 : Bool × List (List Nat × List Nat) := (true, [([], []), ([], []), ([], []), ([2], [2]), ([3], [3]), ([1, 4], [1, 4]), ([5], [5]), ([], []), ([7], [7]), ([], []), ([8, 9], [8, 9]), ([10], [10]), ([11], [11]), ([6, 12], [6, 12]), ([13], [13]), ([0, 14], [0, 14]), ([15, 4, 0, 1, 2, 3, 4, 5, 6, 7, 8, 9, 10, 11, 12, 13, 14, 15], [0, 15])])
def spec_l03Print.B14 : List Nat := [0, 0, 0, 4, 12, 30, 62, 0, 128, 0, 896, 1920, 3968, 8190, 16382, 32767, 65535]
theorem spec_l03Print.tab14 : rtab .any (opsOf Try.f45 14) = spec_l03Print.T14 := by kernel_rfl
theorem spec_l03Print.bits14 : waitsOk spec_l03Print.T14.2 spec_l03Print.B14 = true := by kernel_rfl
def spec_l03Print.y0 : Array Bool := #[false, false, false, false, false, false, false, false, false, false, false, false, false, false, false, false, false]
def spec_l03Print.y1 : Array Bool := #[true, false, false, false, false, false, false, false, false, false, false, false, false, false, false, false, false]
def spec_l03Print.y2 : Array Bool := #[true, false, true, false, false, false, false, false, false, false, false, false, false, false, false, false, false]
def spec_l03Print.y3 : Array Bool := #[true, false, true, true, false, false, false, false, false, false, false, false, false, false, false, false, false]
def spec_l03Print.y4 : Array Bool := #[true, false, true, true, false, false, false, true, false, false, false, false, false, false, false, false, false]
def spec_l03Print.y5 : Array Bool := #[true, false, true, true, false, false, false, true, false, true, false, false, false, false, false, false, false]
def spec_l03Print.y6 : Array Bool := #[true, false, true, true, false, false, false, true, true, true, false, false, false, false, false, false, false]
def spec_l03Print.y7 : Array Bool := #[true, false, true, true, false, false, false, true, true, true, true, false, false, false, false, false, false]
def spec_l03Print.y8 : Array Bool := #[true, false, true, true, false, false, false, true, true, true, true, true, false, false, false, false, false]
def spec_l03Print.y9 : Array Bool := #[true, false, true, true, false, false, false, true, true, true, true, true, true, false, false, false, false]
def spec_l03Print.y10 : Array Bool := #[true, true, true, true, true, false, false, true, true, true, true, true, true, false, false, false, false]
def spec_l03Print.y11 : Array Bool := #[true, true, true, true, false, false, false, true, true, true, true, true, true, false, false, false, false]
def spec_l03Print.y12 : Array Bool := #[true, false, true, true, true, false, false, true, true, true, true, true, true, false, false, false, false]
def spec_l03Print.y13 : Array Bool := #[true, true, true, true, true, true, false, true, true, true, true, true, true, false, false, false, false]
def spec_l03Print.y14 : Array Bool := #[true, true, true, true, true, true, true, true, true, true, true, true, true, false, false, false, false]
def spec_l03Print.y15 : Array Bool := #[true, true, true, true, true, true, true, true, true, true, true, true, true, true, false, false, false]
def spec_l03Print.y16 : Array Bool := #[true, true, true, true, true, true, true, true, true, true, true, true, true, true, true, false, false]
def spec_l03Print.y17 : Array Bool := #[true, true, true, true, true, true, true, true, true, true, true, true, true, true, true, true, false]
def spec_l03Print.y18 : Array Bool := #[true, true, true, true, true, true, true, true, true, true, true, true, true, true, true, true, true]
set_option maxHeartbeats 64000000 in
set_option maxRecDepth 100000 in
theorem spec_l03Print.calls (k : Nat) (A0_0 : Option Addr) (c0_0 : Nat) (l0_0 : List (S53)) (r : ByteArray) (w : World) (hr0_0 : Kd.C k53 w A0_0 l0_0.length l0_0) (hc0_0 : l0_0.length ≤ c0_0) (h : spec_l03Print.f k l0_0 = some r) :
  Calls Try.prog 45 #[.agg #[.slice A0_0 l0_0.length c0_0]] w fun e w' => e = .returned (.string r) ∧ Below w.heap.size w w' := by
 have hu29 := Try.underlying29; have hu38 := Try.underlying38; have HR0_0 := qO hr0_0; have HC0_0 := qO hc0_0; clear hr0_0 hc0_0; have HB := qO (Below.refl w.heap.size w); have H : (spec_l03Print.l0 k (([] : List ByteArray)) 0 l0_0) = some r := h; clear h; obtain ⟨y102, hy102⟩ : ∃ y_ : List ByteArray, y_ = (([] : List ByteArray)) := ⟨_, rfl⟩; replace H : (spec_l03Print.l0 k y102 0 l0_0) = some r := by first | (rw [hy102]; with_reducible exact H) | (have H2_ := (Option.bind_some _ _).symm.trans H; rw [hy102]; with_reducible exact H2_) | (have H2_ := (Option.bind_some _ _).symm.trans H; with_reducible exact H2_) | with_reducible exact H | (rw [hy102]; exact H) | exact H
 have Ny102 := qO hy102; clear hy102; have H' := qO H; clear H
 go_enter Try.func45, Try.ntmps45
 go_wp2_with (first | ((with_reducible refine gate_dst (N := 1) rfl ?_); refine box_event ?hg (N := 1) ?hd (cs := #[.slice A0_0 l0_0.length c0_0]) (t := 29) ?hr ?_; (case hd => rfl); (case hg => rfl); (case hr => exact qa18); intro gb101 hg w2 hbox hb; have hx_ := qHX HB hb qa0; have n0_ := qO (below_step (below_step HB.out hx_) hb); have n1_ := qO (hbox); have n2_ := qO ((qa11 : w.heap.size ≤ gb101)); have n3_ := n2_; clear HB; have HB := n0_; have BK101 := n1_; have GW101 := n2_; have GE101 := n3_; clear n0_ n1_ n2_ n3_; clear hx_; clear hb hbox hg) | ((with_reducible refine gate_dst (N := 9) rfl ?_); refine Kd.R_lit Kd.string _ 9 ?hg (N := 9) ?hd (xs := ([] : List ByteArray)) (inner := []) (ok := fun _ => True) (okp := fun _ => True) ?hr ?hp (fun _ hk => hk) trivial (Below.refl _ _) (Nat.le_refl _) qa79 ?_; (case hd => rfl); (case hg => rfl); (case hr => exact qa18); (case hp => exact (Reps.none _ _)); intro v103 w3 ho4 hb hg_ hnew_; clear hg_ hnew_; (first | rw [← Ny102.out] at ho4 | (simp only [Int.reduceToNat] at ho4; rw [← Ny102.out] at ho4)); have n0_ := qO (Kd.R_lower ho4 (below_size qa9)); have n1_ := qO (blk_below (g := gb101) (o := .cells #[.slice A0_0 l0_0.length c0_0] 29 (0, 0)) qa12 hb); have n2_ := qO (below_step qa9 hb); clear BK101; clear HB; have HO104 := n0_; have BK101 := n1_; have HB := n2_; clear n0_ n1_ n2_; clear hb ho4))
 go_loopg [3, 4] k (fun kq v3 v4 w' => ∃ (x3_1 : List ByteArray) (x4_1 : Int), v4 = .int .i64 x4_1 ∧ Aside0 (spec_l03Print.l0 kq x3_1 x4_1 l0_0 = some r) ∧ Aside0 (kq ≤ k) ∧ Aside0 (Kd.R Kd.string 9 w' w.heap.size (fun _ => True) v3 x3_1) ∧ Aside0 (w'.heap[gb101]? = some (.cells #[(.slice A0_0 l0_0.length c0_0)] 29 (0, 0))) ∧ Aside0 (Below w.heap.size w w'))
 case atStart => exact ⟨(y102), (0), qa10, H', ⟨Nat.le_refl _⟩, ⟨by (with_reducible repeat (first | apply Kd.R_alloc | apply Kd.R_drewN | apply Kd.R_drew)); exact HO104.out⟩, ⟨qa12⟩, ⟨qa9⟩⟩
 case round =>
  clear H'
  try clear p2
  try clear c4
  obtain ⟨x3_1, x4_1, rfl, HA, HK1, HO_3, BK101, HB⟩ := hrel
  cases gk with
  | zero => exact absurd HA.out (by simp [spec_l03Print.l0])
  | succ k1 =>
   have H := HA.out; clear HA; simp only [spec_l03Print.l0] at H
   by_cases c5 : x4_1 < (l0_0.length : Int)
   ·rw [if_pos c5] at H
    have c5b0 : decide (x4_1 < (l0_0.length : Int)) = true := decide_eq_true c5; clear c5
    by_cases c6 : 0 ≤ x4_1
    ·rw [if_pos c6] at H
     have c6b0 : decide (0 ≤ x4_1) = true := decide_eq_true c6; clear c6
     by_cases c7 : 5 + ((rd_T53 l0_0 x4_1).f0).size ≤ 9223372036854775807
     ·rw [if_pos c7] at H
      have c7b0 := eq_true c7; have c7b1 : decide (5 + ((rd_T53 l0_0 x4_1).f0).size ≤ 9223372036854775807) = true := decide_eq_true c7
      try have c7b2 : (9223372036854775807 < 5 + ((rd_T53 l0_0 x4_1).f0).size) = False := eq_false (Nat.not_lt.2 c7)
      by_cases c8 : ((⟨#[116, 121, 112, 101, 32]⟩ : ByteArray) ++ ((rd_T53 l0_0 x4_1).f0)).size + 2 ≤ 9223372036854775807
      ·rw [if_pos c8] at H
       have c8z : 5 + ((rd_T53 l0_0 x4_1).f0).size + 2 ≤ 9223372036854775807 := by (have h_ := c8; (repeat rw [ByteArray.size_append] at h_); exact h_)
       have c8zt := eq_true c8z; have c8zf : (9223372036854775807 < 5 + ((rd_T53 l0_0 x4_1).f0).size + 2) = False := eq_false (Nat.not_lt.2 c8z); have c8b0 := eq_true c8; have c8b1 : decide (((⟨#[116, 121, 112, 101, 32]⟩ : ByteArray) ++ ((rd_T53 l0_0 x4_1).f0)).size + 2 ≤ 9223372036854775807) = true := decide_eq_true c8
       try have c8b2 : (9223372036854775807 < ((⟨#[116, 121, 112, 101, 32]⟩ : ByteArray) ++ ((rd_T53 l0_0 x4_1).f0)).size + 2) = False := eq_false (Nat.not_lt.2 c8)
       have H' := qO H; clear H; have hcz9_0 : wr.cell? ⟨gb101, 0, none⟩ = some (.slice A0_0 l0_0.length c0_0) := (blk_cell BK101.out 0).trans rfl; have hfz9_0 := blk_frozen BK101.out 0; have p106 : 0 ≤ (x4_1 : Int) := qT qa4; have q106 : x4_1 < (l0_0.length : Int) := qT qa4; obtain ⟨ad106, A106_1, c106_1, e106, hx106_0, hx106_1, hl106_1, hi106_1⟩ := at_T53 HR0_0.out x4_1 p106 q106
       cases e106
       replace hx106_0 := (HB.out.cell (qL w _ hx106_0)).trans hx106_0; replace hx106_1 := (HB.out.cell (qL w _ hx106_1)).trans hx106_1; have HR106_1 := qO hi106_1; have HC106_1 := qO hl106_1; clear hi106_1 hl106_1; replace p106 := eq_true p106; replace q106 := eq_true q106; go_wp2
       go_loopg [5, 6] k1 (fun kq v5 v6 w' => ∃ (x5_2 : ByteArray) (x6_2 : Int), v5 = .string x5_2 ∧ v6 = .int .i64 x6_2 ∧ Aside0 (spec_l03Print.l1 kq x3_1 x4_1 x5_2 x6_2 l0_0 = some r) ∧ Aside0 (kq ≤ k1) ∧ Aside0 (Kd.R Kd.string 9 w' w.heap.size (fun _ => True) u3 x3_1) ∧ Aside0 (w'.heap[gb101]? = some (.cells #[(.slice (some ad106) l0_0.length c0_0)] 29 (0, 0))) ∧ Aside0 (Below w.heap.size w w'))
       case atStart => exact ⟨(((⟨#[116, 121, 112, 101, 32]⟩ : ByteArray) ++ ((rd_T53 l0_0 x4_1).f0)) ++ (⟨#[32, 123]⟩ : ByteArray)), (0), qa10, qa10, H', ⟨Nat.le_refl _⟩, ⟨qa27⟩, ⟨qa12⟩, ⟨qa9⟩⟩
       case round =>
        clear H'
        try clear c1
        try clear p1
        try clear q1
        try clear hx1
        try clear p2
        try clear c4
        try clear c5
        try clear c5b0
        try clear c6
        try clear c6b0
        try clear c7
        try clear c7b0
        try clear c7b1
        try clear c7b2
        try clear c8
        try clear c8b0
        try clear c8b1
        try clear c8b2
        try clear hcz9_0
        try clear hfz9_0
        try clear hx106_0
        try clear hx106_1
        try clear p106
        try clear p2
        try clear q106
        obtain ⟨x5_2, x6_2, rfl, rfl, HA, HK2, HO_3, BK101, HB⟩ := hrel
        cases gk with
        | zero => exact absurd HA.out (by simp [spec_l03Print.l1])
        | succ k2 =>
         have H := HA.out; clear HA; simp only [spec_l03Print.l1] at H
         by_cases c10 : 0 ≤ x4_1
         ·rw [if_pos c10] at H
          have c10b0 : decide (0 ≤ x4_1) = true := decide_eq_true c10; clear c10
          by_cases c11 : x4_1 < (l0_0.length : Int)
          ·rw [if_pos c11] at H
           have c11b0 : decide (x4_1 < (l0_0.length : Int)) = true := decide_eq_true c11; clear c11
           by_cases c12 : x6_2 < (((rd_T53 l0_0 x4_1).f1).length : Int)
           ·rw [if_pos c12] at H
            have c12b0 : decide (x6_2 < (((rd_T53 l0_0 x4_1).f1).length : Int)) = true := decide_eq_true c12; clear c12
            by_cases c13 : 0 ≤ x6_2
            ·rw [if_pos c13] at H
             have c13b0 : decide (0 ≤ x6_2) = true := decide_eq_true c13; clear c13
             by_cases c14 : 1 + ((rd_T38 ((rd_T53 l0_0 x4_1).f1) x6_2).f0).size ≤ 9223372036854775807
             ·rw [if_pos c14] at H
              have c14b0 := eq_true c14; have c14b1 : decide (1 + ((rd_T38 ((rd_T53 l0_0 x4_1).f1) x6_2).f0).size ≤ 9223372036854775807) = true := decide_eq_true c14
              try have c14b2 : (9223372036854775807 < 1 + ((rd_T38 ((rd_T53 l0_0 x4_1).f1) x6_2).f0).size) = False := eq_false (Nat.not_lt.2 c14)
              by_cases c15 : x5_2.size + ((⟨#[32]⟩ : ByteArray) ++ ((rd_T38 ((rd_T53 l0_0 x4_1).f1) x6_2).f0)).size ≤ 9223372036854775807
              ·rw [if_pos c15] at H
               have c15z : x5_2.size + (1 + ((rd_T38 ((rd_T53 l0_0 x4_1).f1) x6_2).f0).size) ≤ 9223372036854775807 := by (have h_ := c15; (repeat rw [ByteArray.size_append] at h_); exact h_)
               have c15zt := eq_true c15z; have c15zf : (9223372036854775807 < x5_2.size + (1 + ((rd_T38 ((rd_T53 l0_0 x4_1).f1) x6_2).f0).size)) = False := eq_false (Nat.not_lt.2 c15z); have c15b0 := eq_true c15; have c15b1 : decide (x5_2.size + ((⟨#[32]⟩ : ByteArray) ++ ((rd_T38 ((rd_T53 l0_0 x4_1).f1) x6_2).f0)).size ≤ 9223372036854775807) = true := decide_eq_true c15
               try have c15b2 : (9223372036854775807 < x5_2.size + ((⟨#[32]⟩ : ByteArray) ++ ((rd_T38 ((rd_T53 l0_0 x4_1).f1) x6_2).f0)).size) = False := eq_false (Nat.not_lt.2 c15)
               have H' := qO H; clear H; have hcz16_0 : wr.cell? ⟨gb101, 0, none⟩ = some (.slice (some ad106) l0_0.length c0_0) := (blk_cell BK101.out 0).trans rfl; have hfz16_0 := blk_frozen BK101.out 0; have p107 : 0 ≤ (x4_1 : Int) := qT qa4; have q107 : x4_1 < (l0_0.length : Int) := qT qa4; obtain ⟨ad107, A107_1, c107_1, e107, hx107_0, hx107_1, hl107_1, hi107_1⟩ := at_T53 HR0_0.out x4_1 p107 q107; obtain rfl : ad106 = ad107 := (by injection e107); replace hx107_0 := (HB.out.cell (qL w _ hx107_0)).trans hx107_0; replace hx107_1 := (HB.out.cell (qL w _ hx107_1)).trans hx107_1; have HR107_1 := qO hi107_1; have HC107_1 := qO hl107_1; clear hi107_1 hl107_1; replace p107 := eq_true p107; replace q107 := eq_true q107; have p111 : 0 ≤ (x4_1 : Int) := qT qa4; have q111 : x4_1 < (l0_0.length : Int) := qT qa4; obtain ⟨ad111, A111_1, c111_1, e111, hx111_0, hx111_1, hl111_1, hi111_1⟩ := at_T53 HR0_0.out x4_1 p111 q111; obtain rfl : ad106 = ad111 := (by injection e111); replace hx111_0 := (HB.out.cell (qL w _ hx111_0)).trans hx111_0; replace hx111_1 := (HB.out.cell (qL w _ hx111_1)).trans hx111_1; have HR111_1 := qO hi111_1; have HC111_1 := qO hl111_1; clear hi111_1 hl111_1; replace p111 := eq_true p111; replace q111 := eq_true q111; have ea_ := Option.some.inj (hx107_1.symm.trans hx111_1); injection ea_ with ea_ en_ ec_; subst ea_; subst ec_; clear en_; have p112 : 0 ≤ (x6_2 : Int) := qT qa4; have q112 : x6_2 < (((rd_T53 l0_0 x4_1).f1).length : Int) := qT qa4; obtain ⟨ad112, A112_1, c112_1, e112, hx112_0, hx112_1, hx112_2, hx112_3, hx112_4, hl112_1, hi112_1⟩ := at_T38 HR111_1.out x6_2 p112 q112
               cases e112
               replace hx112_0 := (HB.out.cell (qL w _ hx112_0)).trans hx112_0; replace hx112_1 := (HB.out.cell (qL w _ hx112_1)).trans hx112_1; replace hx112_2 := (HB.out.cell (qL w _ hx112_2)).trans hx112_2; replace hx112_3 := (HB.out.cell (qL w _ hx112_3)).trans hx112_3; replace hx112_4 := (HB.out.cell (qL w _ hx112_4)).trans hx112_4; have HR112_1 := qO hi112_1; have HC112_1 := qO hl112_1; clear hi112_1 hl112_1; replace p112 := eq_true p112; replace q112 := eq_true q112
               go_wp2_with (first | ((with_reducible refine gate_dst (N := 7) rfl ?_); refine box_event ?hg (N := 7) ?hd (cs := #[.string (⟨#[]⟩ : ByteArray), .slice none 0 0, .string (⟨#[]⟩ : ByteArray), .bool false, .bool false]) (t := 38) ?hr ?_; (case hd => rfl); (case hg => rfl); (case hr => exact qa18); intro gb113 hg w17 hbox hb; have hx_ := qHX HB hb qa0; have n0_ := qO (Kd.R_below qa27 hb); have n1_ := qO (qB BK101.out hx_ hb); have n2_ := qO (below_step (below_step HB.out hx_) hb); have n3_ := qO (hbox); have n4_ := qO ((qa11 : w.heap.size ≤ gb113)); have n5_ := n4_; have n6_ := qO ((by rw [hg]; exact Nat.ne_of_lt (blk_lt (g := gb101) (o := .cells #[.slice (some ad106) l0_0.length c0_0] 29 (0, 0)) (by (with_reducible repeat (first | refine qkN ?_ _ | refine qkD ?_ | refine qkA ?_ _)); exact BK101.out)) : gb101 ≠ gb113)); have n7_ := qO (Ne.symm n6_.out); clear HO_3; clear BK101; clear HB; have HO_3 := n0_; have BK101 := n1_; have HB := n2_; have BK113 := n3_; have GW113 := n4_; have GE113 := n5_; have NB101_113 := n6_; have NB113_101 := n7_; clear n0_ n1_ n2_ n3_ n4_ n5_ n6_ n7_; clear hx_; clear hb hbox hg; have hnb18 := NB113_101.out; have hnc18 := NB101_113.out; have hcz19_0 : w17.cell? ⟨gb113, 0, none⟩ = some (.string (⟨#[]⟩ : ByteArray)) := (blk_cell BK113.out 0).trans rfl; have hcz19_1 : w17.cell? ⟨gb113, 1, none⟩ = some (.slice none 0 0) := (blk_cell BK113.out 1).trans rfl; have hcz19_2 : w17.cell? ⟨gb113, 2, none⟩ = some (.string (⟨#[]⟩ : ByteArray)) := (blk_cell BK113.out 2).trans rfl; have hcz19_3 : w17.cell? ⟨gb113, 3, none⟩ = some (.bool false) := (blk_cell BK113.out 3).trans rfl; have hcz19_4 : w17.cell? ⟨gb113, 4, none⟩ = some (.bool false) := (blk_cell BK113.out 4).trans rfl; have hfz19_0 := blk_frozen BK113.out 0; have hfz19_1 := blk_frozen BK113.out 1; have hfz19_2 := blk_frozen BK113.out 2; have hfz19_3 := blk_frozen BK113.out 3; have hfz19_4 := blk_frozen BK113.out 4))
               go_loopg [5, 8] k2 (fun kq v5 v8 w' => ∃ (x5_3 : ByteArray) (x8_3 : Int), v5 = .string x5_3 ∧ v8 = .int .i64 x8_3 ∧ Aside0 (spec_l03Print.l2 kq x3_1 x4_1 x5_3 x6_2 x8_3 l0_0 ((rd_T38 ((rd_T53 l0_0 x4_1).f1) x6_2).f0) ((rd_T38 ((rd_T53 l0_0 x4_1).f1) x6_2).f1) ((rd_T38 ((rd_T53 l0_0 x4_1).f1) x6_2).f2) ((rd_T38 ((rd_T53 l0_0 x4_1).f1) x6_2).f3) ((rd_T38 ((rd_T53 l0_0 x4_1).f1) x6_2).f4) = some r) ∧ Aside0 (kq ≤ k2) ∧ Aside0 (Kd.R Kd.string 9 w' w.heap.size (fun _ => True) u3 x3_1) ∧ Aside0 (w'.heap[gb101]? = some (.cells #[(.slice (some ad106) l0_0.length c0_0)] 29 (0, 0))) ∧ Aside0 (w'.heap[gb113]? = some (.cells #[.string ((rd_T38 ((rd_T53 l0_0 x4_1).f1) x6_2).f0), (.slice A112_1 ((rd_T38 ((rd_T53 l0_0 x4_1).f1) x6_2).f1).length c112_1), .string ((rd_T38 ((rd_T53 l0_0 x4_1).f1) x6_2).f2), .bool ((rd_T38 ((rd_T53 l0_0 x4_1).f1) x6_2).f3), .bool ((rd_T38 ((rd_T53 l0_0 x4_1).f1) x6_2).f4)] 38 (0, 0))) ∧ Aside0 (Below w.heap.size w w'))
               case atStart => exact ⟨(x5_2 ++ ((⟨#[32]⟩ : ByteArray) ++ ((rd_T38 ((rd_T53 l0_0 x4_1).f1) x6_2).f0))), (0), qa10, qa10, H', ⟨Nat.le_refl _⟩, ⟨by (with_reducible repeat (first | apply Kd.R_alloc | apply Kd.R_drewN | apply Kd.R_drew)); exact Kd.R_mono (Kd.R_far (p := ⟨gb113, 4, none⟩) (Kd.R_far (p := ⟨gb113, 3, none⟩) (Kd.R_far (p := ⟨gb113, 2, none⟩) (Kd.R_far (p := ⟨gb113, 1, none⟩) (Kd.R_far (p := ⟨gb113, 0, none⟩) (Kd.R_types HO_3.out BK113.out (by decide)) (fun _ hk => hk.2) (.string ((rd_T38 ((rd_T53 l0_0 x4_1).f1) x6_2).f0))) (fun _ hk => hk.2) (.slice A112_1 ((rd_T38 ((rd_T53 l0_0 x4_1).f1) x6_2).f1).length c112_1)) (fun _ hk => hk.2) (.string ((rd_T38 ((rd_T53 l0_0 x4_1).f1) x6_2).f2))) (fun _ hk => hk.2) (.bool ((rd_T38 ((rd_T53 l0_0 x4_1).f1) x6_2).f3))) (fun _ hk => hk.2) (.bool ((rd_T38 ((rd_T53 l0_0 x4_1).f1) x6_2).f4))) (fun _ hk => trivial)⟩, ⟨by (with_reducible repeat (first | refine qkN ?_ _ | refine qkD ?_ | refine qkA ?_ _)); refine blk_far ?_ NB101_113.out _; (with_reducible repeat (first | refine qkN ?_ _ | refine qkD ?_ | refine qkA ?_ _)); refine blk_far ?_ NB101_113.out _; (with_reducible repeat (first | refine qkN ?_ _ | refine qkD ?_ | refine qkA ?_ _)); refine blk_far ?_ NB101_113.out _; (with_reducible repeat (first | refine qkN ?_ _ | refine qkD ?_ | refine qkA ?_ _)); refine blk_far ?_ NB101_113.out _; (with_reducible repeat (first | refine qkN ?_ _ | refine qkD ?_ | refine qkA ?_ _)); refine blk_far ?_ NB101_113.out _; (with_reducible repeat (first | refine qkN ?_ _ | refine qkD ?_ | refine qkA ?_ _)); exact BK101.out⟩, ⟨by (with_reducible repeat (first | refine qkN ?_ _ | refine qkD ?_ | refine qkA ?_ _)); refine blk_put (cs := #[.string ((rd_T38 ((rd_T53 l0_0 x4_1).f1) x6_2).f0), .slice A112_1 ((rd_T38 ((rd_T53 l0_0 x4_1).f1) x6_2).f1).length c112_1, .string ((rd_T38 ((rd_T53 l0_0 x4_1).f1) x6_2).f2), .bool ((rd_T38 ((rd_T53 l0_0 x4_1).f1) x6_2).f3), .bool false]) ?_ 4 _ rfl; (with_reducible repeat (first | refine qkN ?_ _ | refine qkD ?_ | refine qkA ?_ _)); refine blk_put (cs := #[.string ((rd_T38 ((rd_T53 l0_0 x4_1).f1) x6_2).f0), .slice A112_1 ((rd_T38 ((rd_T53 l0_0 x4_1).f1) x6_2).f1).length c112_1, .string ((rd_T38 ((rd_T53 l0_0 x4_1).f1) x6_2).f2), .bool false, .bool false]) ?_ 3 _ rfl; (with_reducible repeat (first | refine qkN ?_ _ | refine qkD ?_ | refine qkA ?_ _)); refine blk_put (cs := #[.string ((rd_T38 ((rd_T53 l0_0 x4_1).f1) x6_2).f0), .slice A112_1 ((rd_T38 ((rd_T53 l0_0 x4_1).f1) x6_2).f1).length c112_1, .string (⟨#[]⟩ : ByteArray), .bool false, .bool false]) ?_ 2 _ rfl; (with_reducible repeat (first | refine qkN ?_ _ | refine qkD ?_ | refine qkA ?_ _)); refine blk_put (cs := #[.string ((rd_T38 ((rd_T53 l0_0 x4_1).f1) x6_2).f0), .slice none 0 0, .string (⟨#[]⟩ : ByteArray), .bool false, .bool false]) ?_ 1 _ rfl; (with_reducible repeat (first | refine qkN ?_ _ | refine qkD ?_ | refine qkA ?_ _)); refine blk_put (cs := #[.string (⟨#[]⟩ : ByteArray), .slice none 0 0, .string (⟨#[]⟩ : ByteArray), .bool false, .bool false]) ?_ 0 _ rfl; (with_reducible repeat (first | refine qkN ?_ _ | refine qkD ?_ | refine qkA ?_ _)); exact BK113.out⟩, ⟨qa29⟩⟩
               case round =>
                clear H'
                try clear c1
                try clear p1
                try clear q1
                try clear hx1
                try clear p2
                try clear c4
                try clear c5
                try clear c5b0
                try clear c6
                try clear c6b0
                try clear c7
                try clear c7b0
                try clear c7b1
                try clear c7b2
                try clear c8
                try clear c8b0
                try clear c8b1
                try clear c8b2
                try clear c10
                try clear c10b0
                try clear p10
                try clear q10
                try clear hx10
                try clear c11
                try clear c11b0
                try clear p11
                try clear q11
                try clear hx11
                try clear c12
                try clear c12b0
                try clear c13
                try clear c13b0
                try clear c14
                try clear c14b0
                try clear c14b1
                try clear c14b2
                try clear c15
                try clear c15b0
                try clear c15b1
                try clear c15b2
                try clear c18
                try clear hcz16_0
                try clear hcz19_0
                try clear hcz19_1
                try clear hcz19_2
                try clear hcz19_3
                try clear hcz19_4
                try clear hcz9_0
                try clear hfz16_0
                try clear hfz19_0
                try clear hfz19_1
                try clear hfz19_2
                try clear hfz19_3
                try clear hfz19_4
                try clear hfz9_0
                try clear hx106_0
                try clear hx106_1
                try clear hx107_0
                try clear hx107_1
                try clear hx111_0
                try clear hx111_1
                try clear hx112_0
                try clear hx112_1
                try clear hx112_2
                try clear hx112_3
                try clear hx112_4
                try clear p1
                try clear p106
                try clear p107
                try clear p111
                try clear p112
                try clear p2
                try clear q1
                try clear q106
                try clear q107
                try clear q111
                try clear q112
                obtain ⟨x5_3, x8_3, rfl, rfl, HA, HK3, HO_3, BK101, BK113, HB⟩ := hrel
                cases gk with
                | zero => exact absurd HA.out (by simp [spec_l03Print.l2])
                | succ k3 =>
                 have H := HA.out; clear HA; simp only [spec_l03Print.l2] at H
                 by_cases c20 : x8_3 < (((rd_T38 ((rd_T53 l0_0 x4_1).f1) x6_2).f1).length : Int)
                 ·rw [if_pos c20] at H
                  have c20b0 : decide (x8_3 < (((rd_T38 ((rd_T53 l0_0 x4_1).f1) x6_2).f1).length : Int)) = true := decide_eq_true c20; clear c20; obtain ⟨y114, hy114⟩ : ∃ y_ : List ByteArray, y_ = (([(⟨#[32, 40, 32]⟩ : ByteArray), (⟨#[32]⟩ : ByteArray)] : List ByteArray)) := ⟨_, rfl⟩; replace H : ((spec_l01Bit.f (decide (x8_3 > 0))).bind fun t117 => (if 0 ≤ t117 then (if t117 < (y114.length : Int) then (if 0 ≤ x8_3 then (if (rdOf ByteArray.empty y114 t117).size + ((rd_T57 ((rd_T38 ((rd_T53 l0_0 x4_1).f1) x6_2).f1) x8_3).f0).size ≤ 9223372036854775807 then (if ((rdOf ByteArray.empty y114 t117) ++ ((rd_T57 ((rd_T38 ((rd_T53 l0_0 x4_1).f1) x6_2).f1) x8_3).f0)).size + 6 ≤ 9223372036854775807 then (if x5_3.size + (((rdOf ByteArray.empty y114 t117) ++ ((rd_T57 ((rd_T38 ((rd_T53 l0_0 x4_1).f1) x6_2).f1) x8_3).f0)) ++ (⟨#[32, 58, 32, 73, 110, 116]⟩ : ByteArray)).size ≤ 9223372036854775807 then (if (rd_T57 ((rd_T38 ((rd_T53 l0_0 x4_1).f1) x6_2).f1) x8_3).f1 = true then (if (x5_3 ++ (((rdOf ByteArray.empty y114 t117) ++ ((rd_T57 ((rd_T38 ((rd_T53 l0_0 x4_1).f1) x6_2).f1) x8_3).f0)) ++ (⟨#[32, 58, 32, 73, 110, 116]⟩ : ByteArray))).size + 2 ≤ 9223372036854775807 then (spec_l03Print.l2 k3 x3_1 x4_1 ((x5_3 ++ (((rdOf ByteArray.empty y114 t117) ++ ((rd_T57 ((rd_T38 ((rd_T53 l0_0 x4_1).f1) x6_2).f1) x8_3).f0)) ++ (⟨#[32, 58, 32, 73, 110, 116]⟩ : ByteArray))) ++ (⟨#[32, 33]⟩ : ByteArray)) x6_2 (wrap64 (x8_3 + 1)) l0_0 ((rd_T38 ((rd_T53 l0_0 x4_1).f1) x6_2).f0) ((rd_T38 ((rd_T53 l0_0 x4_1).f1) x6_2).f1) ((rd_T38 ((rd_T53 l0_0 x4_1).f1) x6_2).f2) ((rd_T38 ((rd_T53 l0_0 x4_1).f1) x6_2).f3) ((rd_T38 ((rd_T53 l0_0 x4_1).f1) x6_2).f4)) else (none)) else (spec_l03Print.l2 k3 x3_1 x4_1 (x5_3 ++ (((rdOf ByteArray.empty y114 t117) ++ ((rd_T57 ((rd_T38 ((rd_T53 l0_0 x4_1).f1) x6_2).f1) x8_3).f0)) ++ (⟨#[32, 58, 32, 73, 110, 116]⟩ : ByteArray))) x6_2 (wrap64 (x8_3 + 1)) l0_0 ((rd_T38 ((rd_T53 l0_0 x4_1).f1) x6_2).f0) ((rd_T38 ((rd_T53 l0_0 x4_1).f1) x6_2).f1) ((rd_T38 ((rd_T53 l0_0 x4_1).f1) x6_2).f2) ((rd_T38 ((rd_T53 l0_0 x4_1).f1) x6_2).f3) ((rd_T38 ((rd_T53 l0_0 x4_1).f1) x6_2).f4))) else (none)) else (none)) else (none)) else (none)) else (none)) else (none))) = some r := by first | (rw [hy114]; with_reducible exact H) | (have H2_ := (Option.bind_some _ _).symm.trans H; rw [hy114]; with_reducible exact H2_) | (have H2_ := (Option.bind_some _ _).symm.trans H; with_reducible exact H2_) | with_reducible exact H | (rw [hy114]; exact H) | exact H
                  have Ny114 := qO hy114; clear hy114; replace H := Option.bind_eq_some_iff.mp H; obtain ⟨t117, A210, H⟩ := H; replace H : (if 0 ≤ t117 then (if t117 < (y114.length : Int) then (if 0 ≤ x8_3 then (if (rdOf ByteArray.empty y114 t117).size + ((rd_T57 ((rd_T38 ((rd_T53 l0_0 x4_1).f1) x6_2).f1) x8_3).f0).size ≤ 9223372036854775807 then (if ((rdOf ByteArray.empty y114 t117) ++ ((rd_T57 ((rd_T38 ((rd_T53 l0_0 x4_1).f1) x6_2).f1) x8_3).f0)).size + 6 ≤ 9223372036854775807 then (if x5_3.size + (((rdOf ByteArray.empty y114 t117) ++ ((rd_T57 ((rd_T38 ((rd_T53 l0_0 x4_1).f1) x6_2).f1) x8_3).f0)) ++ (⟨#[32, 58, 32, 73, 110, 116]⟩ : ByteArray)).size ≤ 9223372036854775807 then (if (rd_T57 ((rd_T38 ((rd_T53 l0_0 x4_1).f1) x6_2).f1) x8_3).f1 = true then (if (x5_3 ++ (((rdOf ByteArray.empty y114 t117) ++ ((rd_T57 ((rd_T38 ((rd_T53 l0_0 x4_1).f1) x6_2).f1) x8_3).f0)) ++ (⟨#[32, 58, 32, 73, 110, 116]⟩ : ByteArray))).size + 2 ≤ 9223372036854775807 then (spec_l03Print.l2 k3 x3_1 x4_1 ((x5_3 ++ (((rdOf ByteArray.empty y114 t117) ++ ((rd_T57 ((rd_T38 ((rd_T53 l0_0 x4_1).f1) x6_2).f1) x8_3).f0)) ++ (⟨#[32, 58, 32, 73, 110, 116]⟩ : ByteArray))) ++ (⟨#[32, 33]⟩ : ByteArray)) x6_2 (wrap64 (x8_3 + 1)) l0_0 ((rd_T38 ((rd_T53 l0_0 x4_1).f1) x6_2).f0) ((rd_T38 ((rd_T53 l0_0 x4_1).f1) x6_2).f1) ((rd_T38 ((rd_T53 l0_0 x4_1).f1) x6_2).f2) ((rd_T38 ((rd_T53 l0_0 x4_1).f1) x6_2).f3) ((rd_T38 ((rd_T53 l0_0 x4_1).f1) x6_2).f4)) else (none)) else (spec_l03Print.l2 k3 x3_1 x4_1 (x5_3 ++ (((rdOf ByteArray.empty y114 t117) ++ ((rd_T57 ((rd_T38 ((rd_T53 l0_0 x4_1).f1) x6_2).f1) x8_3).f0)) ++ (⟨#[32, 58, 32, 73, 110, 116]⟩ : ByteArray))) x6_2 (wrap64 (x8_3 + 1)) l0_0 ((rd_T38 ((rd_T53 l0_0 x4_1).f1) x6_2).f0) ((rd_T38 ((rd_T53 l0_0 x4_1).f1) x6_2).f1) ((rd_T38 ((rd_T53 l0_0 x4_1).f1) x6_2).f2) ((rd_T38 ((rd_T53 l0_0 x4_1).f1) x6_2).f3) ((rd_T38 ((rd_T53 l0_0 x4_1).f1) x6_2).f4))) else (none)) else (none)) else (none)) else (none)) else (none)) else (none)) = some r := H; have A21 := qO A210; clear A210
                  by_cases c22 : 0 ≤ t117
                  ·rw [if_pos c22] at H
                   have c22b0 : decide (0 ≤ t117) = true := decide_eq_true c22; clear c22
                   by_cases c23 : t117 < (y114.length : Int)
                   ·rw [if_pos c23] at H
                    have c23b0 : decide (t117 < (y114.length : Int)) = true := decide_eq_true c23; clear c23
                    by_cases c24 : 0 ≤ x8_3
                    ·rw [if_pos c24] at H
                     have c24b0 : decide (0 ≤ x8_3) = true := decide_eq_true c24; clear c24
                     by_cases c25 : (rdOf ByteArray.empty y114 t117).size + ((rd_T57 ((rd_T38 ((rd_T53 l0_0 x4_1).f1) x6_2).f1) x8_3).f0).size ≤ 9223372036854775807
                     ·rw [if_pos c25] at H
                      have c25b0 := eq_true c25; have c25b1 : decide ((rdOf ByteArray.empty y114 t117).size + ((rd_T57 ((rd_T38 ((rd_T53 l0_0 x4_1).f1) x6_2).f1) x8_3).f0).size ≤ 9223372036854775807) = true := decide_eq_true c25
                      try have c25b2 : (9223372036854775807 < (rdOf ByteArray.empty y114 t117).size + ((rd_T57 ((rd_T38 ((rd_T53 l0_0 x4_1).f1) x6_2).f1) x8_3).f0).size) = False := eq_false (Nat.not_lt.2 c25)
                      by_cases c26 : ((rdOf ByteArray.empty y114 t117) ++ ((rd_T57 ((rd_T38 ((rd_T53 l0_0 x4_1).f1) x6_2).f1) x8_3).f0)).size + 6 ≤ 9223372036854775807
                      ·rw [if_pos c26] at H
                       have c26z : (rdOf ByteArray.empty y114 t117).size + ((rd_T57 ((rd_T38 ((rd_T53 l0_0 x4_1).f1) x6_2).f1) x8_3).f0).size + 6 ≤ 9223372036854775807 := by (have h_ := c26; (repeat rw [ByteArray.size_append] at h_); exact h_)
                       have c26zt := eq_true c26z; have c26zf : (9223372036854775807 < (rdOf ByteArray.empty y114 t117).size + ((rd_T57 ((rd_T38 ((rd_T53 l0_0 x4_1).f1) x6_2).f1) x8_3).f0).size + 6) = False := eq_false (Nat.not_lt.2 c26z); have c26b0 := eq_true c26; have c26b1 : decide (((rdOf ByteArray.empty y114 t117) ++ ((rd_T57 ((rd_T38 ((rd_T53 l0_0 x4_1).f1) x6_2).f1) x8_3).f0)).size + 6 ≤ 9223372036854775807) = true := decide_eq_true c26
                       try have c26b2 : (9223372036854775807 < ((rdOf ByteArray.empty y114 t117) ++ ((rd_T57 ((rd_T38 ((rd_T53 l0_0 x4_1).f1) x6_2).f1) x8_3).f0)).size + 6) = False := eq_false (Nat.not_lt.2 c26)
                       by_cases c27 : x5_3.size + (((rdOf ByteArray.empty y114 t117) ++ ((rd_T57 ((rd_T38 ((rd_T53 l0_0 x4_1).f1) x6_2).f1) x8_3).f0)) ++ (⟨#[32, 58, 32, 73, 110, 116]⟩ : ByteArray)).size ≤ 9223372036854775807
                       ·rw [if_pos c27] at H
                        have c27z : x5_3.size + ((rdOf ByteArray.empty y114 t117).size + ((rd_T57 ((rd_T38 ((rd_T53 l0_0 x4_1).f1) x6_2).f1) x8_3).f0).size + 6) ≤ 9223372036854775807 := by (have h_ := c27; (repeat rw [ByteArray.size_append] at h_); exact h_)
                        have c27zt := eq_true c27z; have c27zf : (9223372036854775807 < x5_3.size + ((rdOf ByteArray.empty y114 t117).size + ((rd_T57 ((rd_T38 ((rd_T53 l0_0 x4_1).f1) x6_2).f1) x8_3).f0).size + 6)) = False := eq_false (Nat.not_lt.2 c27z); have c27b0 := eq_true c27; have c27b1 : decide (x5_3.size + (((rdOf ByteArray.empty y114 t117) ++ ((rd_T57 ((rd_T38 ((rd_T53 l0_0 x4_1).f1) x6_2).f1) x8_3).f0)) ++ (⟨#[32, 58, 32, 73, 110, 116]⟩ : ByteArray)).size ≤ 9223372036854775807) = true := decide_eq_true c27
                        try have c27b2 : (9223372036854775807 < x5_3.size + (((rdOf ByteArray.empty y114 t117) ++ ((rd_T57 ((rd_T38 ((rd_T53 l0_0 x4_1).f1) x6_2).f1) x8_3).f0)) ++ (⟨#[32, 58, 32, 73, 110, 116]⟩ : ByteArray)).size) = False := eq_false (Nat.not_lt.2 c27)
                        obtain ⟨bq28, hbq28⟩ : ∃ b_ : Bool, b_ = ((rd_T57 ((rd_T38 ((rd_T53 l0_0 x4_1).f1) x6_2).f1) x8_3).f1) := ⟨_, rfl⟩; replace H : (if bq28 = true then (if (x5_3 ++ (((rdOf ByteArray.empty y114 t117) ++ ((rd_T57 ((rd_T38 ((rd_T53 l0_0 x4_1).f1) x6_2).f1) x8_3).f0)) ++ (⟨#[32, 58, 32, 73, 110, 116]⟩ : ByteArray))).size + 2 ≤ 9223372036854775807 then (spec_l03Print.l2 k3 x3_1 x4_1 ((x5_3 ++ (((rdOf ByteArray.empty y114 t117) ++ ((rd_T57 ((rd_T38 ((rd_T53 l0_0 x4_1).f1) x6_2).f1) x8_3).f0)) ++ (⟨#[32, 58, 32, 73, 110, 116]⟩ : ByteArray))) ++ (⟨#[32, 33]⟩ : ByteArray)) x6_2 (wrap64 (x8_3 + 1)) l0_0 ((rd_T38 ((rd_T53 l0_0 x4_1).f1) x6_2).f0) ((rd_T38 ((rd_T53 l0_0 x4_1).f1) x6_2).f1) ((rd_T38 ((rd_T53 l0_0 x4_1).f1) x6_2).f2) ((rd_T38 ((rd_T53 l0_0 x4_1).f1) x6_2).f3) ((rd_T38 ((rd_T53 l0_0 x4_1).f1) x6_2).f4)) else (none)) else (spec_l03Print.l2 k3 x3_1 x4_1 (x5_3 ++ (((rdOf ByteArray.empty y114 t117) ++ ((rd_T57 ((rd_T38 ((rd_T53 l0_0 x4_1).f1) x6_2).f1) x8_3).f0)) ++ (⟨#[32, 58, 32, 73, 110, 116]⟩ : ByteArray))) x6_2 (wrap64 (x8_3 + 1)) l0_0 ((rd_T38 ((rd_T53 l0_0 x4_1).f1) x6_2).f0) ((rd_T38 ((rd_T53 l0_0 x4_1).f1) x6_2).f1) ((rd_T38 ((rd_T53 l0_0 x4_1).f1) x6_2).f2) ((rd_T38 ((rd_T53 l0_0 x4_1).f1) x6_2).f3) ((rd_T38 ((rd_T53 l0_0 x4_1).f1) x6_2).f4))) = some r := by rw [← hbq28] at H; exact H
                        have Nbq28 := qO hbq28; clear hbq28
                        by_cases c29 : bq28 = true
                        ·subst c29
                         have H1 : (if (x5_3 ++ (((rdOf ByteArray.empty y114 t117) ++ ((rd_T57 ((rd_T38 ((rd_T53 l0_0 x4_1).f1) x6_2).f1) x8_3).f0)) ++ (⟨#[32, 58, 32, 73, 110, 116]⟩ : ByteArray))).size + 2 ≤ 9223372036854775807 then (spec_l03Print.l2 k3 x3_1 x4_1 ((x5_3 ++ (((rdOf ByteArray.empty y114 t117) ++ ((rd_T57 ((rd_T38 ((rd_T53 l0_0 x4_1).f1) x6_2).f1) x8_3).f0)) ++ (⟨#[32, 58, 32, 73, 110, 116]⟩ : ByteArray))) ++ (⟨#[32, 33]⟩ : ByteArray)) x6_2 (wrap64 (x8_3 + 1)) l0_0 ((rd_T38 ((rd_T53 l0_0 x4_1).f1) x6_2).f0) ((rd_T38 ((rd_T53 l0_0 x4_1).f1) x6_2).f1) ((rd_T38 ((rd_T53 l0_0 x4_1).f1) x6_2).f2) ((rd_T38 ((rd_T53 l0_0 x4_1).f1) x6_2).f3) ((rd_T38 ((rd_T53 l0_0 x4_1).f1) x6_2).f4)) else (none)) = some r := by rw [if_pos rfl] at H; exact H
                         clear H; have H := H1; clear H1
                         by_cases c30 : (x5_3 ++ (((rdOf ByteArray.empty y114 t117) ++ ((rd_T57 ((rd_T38 ((rd_T53 l0_0 x4_1).f1) x6_2).f1) x8_3).f0)) ++ (⟨#[32, 58, 32, 73, 110, 116]⟩ : ByteArray))).size + 2 ≤ 9223372036854775807
                         ·rw [if_pos c30] at H
                          have c30z : x5_3.size + ((rdOf ByteArray.empty y114 t117).size + ((rd_T57 ((rd_T38 ((rd_T53 l0_0 x4_1).f1) x6_2).f1) x8_3).f0).size + 6) + 2 ≤ 9223372036854775807 := by (have h_ := c30; (repeat rw [ByteArray.size_append] at h_); exact h_)
                          have c30zt := eq_true c30z; have c30zf : (9223372036854775807 < x5_3.size + ((rdOf ByteArray.empty y114 t117).size + ((rd_T57 ((rd_T38 ((rd_T53 l0_0 x4_1).f1) x6_2).f1) x8_3).f0).size + 6) + 2) = False := eq_false (Nat.not_lt.2 c30z); have c30b0 := eq_true c30; have c30b1 : decide ((x5_3 ++ (((rdOf ByteArray.empty y114 t117) ++ ((rd_T57 ((rd_T38 ((rd_T53 l0_0 x4_1).f1) x6_2).f1) x8_3).f0)) ++ (⟨#[32, 58, 32, 73, 110, 116]⟩ : ByteArray))).size + 2 ≤ 9223372036854775807) = true := decide_eq_true c30
                          try have c30b2 : (9223372036854775807 < (x5_3 ++ (((rdOf ByteArray.empty y114 t117) ++ ((rd_T57 ((rd_T38 ((rd_T53 l0_0 x4_1).f1) x6_2).f1) x8_3).f0)) ++ (⟨#[32, 58, 32, 73, 110, 116]⟩ : ByteArray))).size + 2) = False := eq_false (Nat.not_lt.2 c30)
                          have H' := qO H; clear H; have hnb31 := NB113_101.out; have hnc31 := NB101_113.out; have hcz32_0 : wr.cell? ⟨gb113, 0, none⟩ = some (.string ((rd_T38 ((rd_T53 l0_0 x4_1).f1) x6_2).f0)) := (blk_cell BK113.out 0).trans rfl; have hcz32_1 : wr.cell? ⟨gb113, 1, none⟩ = some (.slice A112_1 ((rd_T38 ((rd_T53 l0_0 x4_1).f1) x6_2).f1).length c112_1) := (blk_cell BK113.out 1).trans rfl; have hcz32_2 : wr.cell? ⟨gb113, 2, none⟩ = some (.string ((rd_T38 ((rd_T53 l0_0 x4_1).f1) x6_2).f2)) := (blk_cell BK113.out 2).trans rfl; have hcz32_3 : wr.cell? ⟨gb113, 3, none⟩ = some (.bool ((rd_T38 ((rd_T53 l0_0 x4_1).f1) x6_2).f3)) := (blk_cell BK113.out 3).trans rfl; have hcz32_4 : wr.cell? ⟨gb113, 4, none⟩ = some (.bool ((rd_T38 ((rd_T53 l0_0 x4_1).f1) x6_2).f4)) := (blk_cell BK113.out 4).trans rfl; have hfz32_0 := blk_frozen BK113.out 0; have hfz32_1 := blk_frozen BK113.out 1; have hfz32_2 := blk_frozen BK113.out 2; have hfz32_3 := blk_frozen BK113.out 3; have hfz32_4 := blk_frozen BK113.out 4
                          try go_wp2
                          have pi118 : (0 ≤ (t117 : Int)) = True := eq_true (qT qa4); have qi118 : (t117 < (y114.length : Int)) = True := eq_true (qT qa4); have n0_ := qO (Kd.R_drew HO_3.out); have n1_ := qO (qkD BK101.out); have n2_ := qO (qkD BK113.out); have n3_ := qO (qbD HB.out); clear HO_3; clear BK101; clear BK113; clear HB; have HO_3 := n0_; have BK101 := n1_; have BK113 := n2_; have HB := n3_; clear n0_ n1_ n2_ n3_; have p119 : 0 ≤ (x8_3 : Int) := qT qa4; have q119 : x8_3 < (((rd_T38 ((rd_T53 l0_0 x4_1).f1) x6_2).f1).length : Int) := qT qa4; obtain ⟨ad119, e119, hx119_0, hx119_1⟩ := at_T57 HR112_1.out x8_3 p119 q119; have hw119_1 := hx119_1; have hw119_0 := hx119_0; (try rw [← Nbq28.out] at hx119_1); (try rw [← Nbq28.out] at hw119_1)
                          cases e119
                          replace hx119_0 := (HB.out.cell (qL w _ hx119_0)).trans hx119_0; replace hx119_1 := (HB.out.cell (qL w _ hx119_1)).trans hx119_1; replace p119 := eq_true p119; replace q119 := eq_true q119; refine start_ (n := 17) (S := fun w' => w'.cell? ⟨gb113, 0, none⟩ = some (.string ((rd_T38 ((rd_T53 l0_0 x4_1).f1) x6_2).f0)) ∧ w'.cell? ⟨gb113, 1, none⟩ = some (.slice (some ad119) ((rd_T38 ((rd_T53 l0_0 x4_1).f1) x6_2).f1).length c112_1) ∧ w'.cell? ⟨gb113, 2, none⟩ = some (.string ((rd_T38 ((rd_T53 l0_0 x4_1).f1) x6_2).f2)) ∧ w'.cell? ⟨gb113, 3, none⟩ = some (.bool ((rd_T38 ((rd_T53 l0_0 x4_1).f1) x6_2).f3)) ∧ w'.cell? ⟨gb113, 4, none⟩ = some (.bool ((rd_T38 ((rd_T53 l0_0 x4_1).f1) x6_2).f4)) ∧ w'.cell? (ad119.add ((x8_3).toNat * 2)) = some (.string ((rd_T57 ((rd_T38 ((rd_T53 l0_0 x4_1).f1) x6_2).f1) x8_3).f0)) ∧ w'.cell? ⟨(ad119.add ((x8_3).toNat * 2)).block, (ad119.add ((x8_3).toNat * 2)).off + 1, none⟩ = some (.bool true)) (ds := []) spec_l03Print.y0 qa16 rfl rfl ⟨(blk_cell BK113.out 0).trans rfl, (blk_cell BK113.out 1).trans rfl, (blk_cell BK113.out 2).trans rfl, (blk_cell BK113.out 3).trans rfl, (blk_cell BK113.out 4).trans rfl, ((HB.out.cell (qL w _ hw119_0)).trans hw119_0), ((HB.out.cell (qL w _ hw119_1)).trans hw119_1)⟩ (fun hHeld => ?_); refine with_tabW spec_l03Print.tab14 spec_l03Print.bits14 (fun HT_ HW_ => ?_); generalize wr.drew = w33 at HO_3 BK101 BK113 HB hx119_0 hx119_1 hHeld ⊢; refine pure_ (i := 0) (N := some 57) (v := ?_) (a' := ?_) spec_l03Print.y1 rfl rfl (any_of HT_.out qa16) (fun _ _ _ h => h) (Or.inl ⟨by rfl, ?_⟩) ?_ ?_; rotate_left; exact qa19; rotate_left; exact qa5; refine pure_ (i := 2) (N := some 59) (v := ?_) (a' := ?_) spec_l03Print.y2 rfl rfl (any_of HT_.out qa16) (fun _ _ _ h => h) (Or.inl ⟨by rfl, ?_⟩) ?_ ?_; rotate_left; exact qa19; rotate_left; exact qa5; refine pure_ (i := 3) (N := some 60) (v := ?_) (a' := ?_) spec_l03Print.y3 rfl rfl (any_of HT_.out qa16) (fun _ _ _ h => h) (Or.inl ⟨by rfl, ?_⟩) ?_ ?_; rotate_left; exact qa19; rotate_left; exact qa5; refine pure_ (i := 7) (N := some 64) (v := ?_) (a' := ?_) spec_l03Print.y4 rfl rfl (any_of HT_.out qa16) (fun _ _ _ h => h) (Or.inl ⟨by rfl, ?_⟩) ?_ ?_; rotate_left; exact qa19; rotate_left; exact qa5; refine pure_ (i := 9) (N := some 66) (v := ?_) (a' := ?_) spec_l03Print.y5 rfl rfl (any_of HT_.out qa16) (fun _ _ _ h => h) (Or.inl ⟨by rfl, ?_⟩) ?_ ?_; rotate_left; exact qa19; rotate_left; exact qa5; refine take_ (i := 8) (N := some 65) (v := ?_) (a' := ?_) spec_l03Print.y6 rfl rfl (take_ofW HT_.out HW_.out qa16) (fun _ _ _ h => h) (Or.inl ⟨by rfl, ?_⟩) hHeld ?_ ?_; rotate_left; exact qa91; rotate_left; exact qa5; refine pure_ (i := 10) (N := some 67) (v := ?_) (a' := ?_) spec_l03Print.y7 rfl rfl (any_of HT_.out qa16) (fun _ _ _ h => h) (Or.inl ⟨by rfl, ?_⟩) ?_ ?_; rotate_left; exact qa19; rotate_left; exact qa5; refine pure_ (i := 11) (N := some 68) (v := ?_) (a' := ?_) spec_l03Print.y8 rfl rfl (any_of HT_.out qa16) (fun _ _ _ h => h) (Or.inl ⟨by rfl, ?_⟩) ?_ ?_; rotate_left; exact qa19; rotate_left; exact qa5; refine take_ (i := 12) (N := some 69) (v := ?_) (a' := ?_) spec_l03Print.y9 rfl rfl (take_ofW HT_.out HW_.out qa16) (fun _ _ _ h => h) (Or.inl ⟨by rfl, ?_⟩) hHeld ?_ ?_; rotate_left; exact qa91; rotate_left; exact qa5; refine join_ (σ := Value × Addr) 6 spec_l03Print.y10 (fun s_ => [(58, s_.1), (61, .int .i64 t117)]) (fun s_ w' => (w'.cell? ⟨gb113, 0, none⟩ = some (.string ((rd_T38 ((rd_T53 l0_0 x4_1).f1) x6_2).f0)) ∧ w'.cell? ⟨gb113, 1, none⟩ = some (.slice (some ad119) ((rd_T38 ((rd_T53 l0_0 x4_1).f1) x6_2).f1).length c112_1) ∧ w'.cell? ⟨gb113, 2, none⟩ = some (.string ((rd_T38 ((rd_T53 l0_0 x4_1).f1) x6_2).f2)) ∧ w'.cell? ⟨gb113, 3, none⟩ = some (.bool ((rd_T38 ((rd_T53 l0_0 x4_1).f1) x6_2).f3)) ∧ w'.cell? ⟨gb113, 4, none⟩ = some (.bool ((rd_T38 ((rd_T53 l0_0 x4_1).f1) x6_2).f4)) ∧ w'.cell? (ad119.add ((x8_3).toNat * 2)) = some (.string ((rd_T57 ((rd_T38 ((rd_T53 l0_0 x4_1).f1) x6_2).f1) x8_3).f0)) ∧ w'.cell? ⟨(ad119.add ((x8_3).toNat * 2)).block, (ad119.add ((x8_3).toNat * 2)).off + 1, none⟩ = some (.bool true)) ∧ (Kd.R Kd.string 9 w' w.heap.size (fun k_ => some k_ ≠ (u3 : Value).ownBlock) s_.1 y114) ∧ (Kd.R Kd.string 9 w' w.heap.size (fun k_ => some k_ ≠ (s_.1 : Value).ownBlock) u3 x3_1) ∧ (∃ c_, (s_.1 : Value) = .slice (some s_.2) y114.length c_) ∧ (w'.heap[gb101]? = some (.cells #[.slice (some ad106) l0_0.length c0_0] 29 (0, 0))) ∧ (w'.heap[gb113]? = some (.cells #[.string ((rd_T38 ((rd_T53 l0_0 x4_1).f1) x6_2).f0), .slice (some ad119) ((rd_T38 ((rd_T53 l0_0 x4_1).f1) x6_2).f1).length c112_1, .string ((rd_T38 ((rd_T53 l0_0 x4_1).f1) x6_2).f2), .bool ((rd_T38 ((rd_T53 l0_0 x4_1).f1) x6_2).f3), .bool ((rd_T38 ((rd_T53 l0_0 x4_1).f1) x6_2).f4)] 38 (0, 0))) ∧ (Below w.heap.size w w')) ?_ ?_; rotate_left
                          ·intro hCont
                           refine two_ (i := 1) (j := 4) (Ni := some 58) (Nj := some 61) spec_l03Print.y11 spec_l03Print.y12 rfl rfl rfl rfl (two_of HT_.out qa16) qa78 qa78 (fun K hK => ?_) (fun K hK => ?_)
                           ·skip
                            refine Kd.R_lit_step Kd.string _ 9 ?hg (N := 58) ?hd (xs := ([(⟨#[32, 40, 32]⟩ : ByteArray), (⟨#[32]⟩ : ByteArray)] : List ByteArray)) (inner := [.string (⟨#[32, 40, 32]⟩ : ByteArray), .string (⟨#[32]⟩ : ByteArray)]) (ok := fun _ => True) (okp := fun _ => True) ?hr ?hp (fun _ hk => hk) trivial (Below.refl _ _) (Nat.le_refl _) qa79 ?_; (case hd => rfl); (case hg => rfl); (case hr => exact qa18); (case hp => exact qa45); intro v115 w34 ho35 hb hg_ hnew_; clear hg_ hnew_; (first | rw [← Ny114.out] at ho35 | (simp only [Int.reduceToNat] at ho35; rw [← Ny114.out] at ho35)); have n0_ := qO (Kd.R_elder' qa27 (Kd.R_base ho35) hb); have n1_ := qO (Kd.R_lower (Kd.R_new' ho35 (Kd.R_lt qa27)) (below_size qa29)); have n2_ := qO (blk_below (g := gb101) (o := .cells #[.slice (some ad106) l0_0.length c0_0] 29 (0, 0)) qa12 hb); have n3_ := qO (blk_below (g := gb113) (o := .cells #[.string ((rd_T38 ((rd_T53 l0_0 x4_1).f1) x6_2).f0), .slice (some ad119) ((rd_T38 ((rd_T53 l0_0 x4_1).f1) x6_2).f1).length c112_1, .string ((rd_T38 ((rd_T53 l0_0 x4_1).f1) x6_2).f2), .bool ((rd_T38 ((rd_T53 l0_0 x4_1).f1) x6_2).f3), .bool ((rd_T38 ((rd_T53 l0_0 x4_1).f1) x6_2).f4)] 38 (0, 0)) qa53 hb); have n4_ := qO (below_step qa29 hb); clear HO_3; clear BK101; clear BK113; clear HB; have HO_3 := n0_; have HO116 := n1_; have BK101 := n2_; have BK113 := n3_; have HB := n4_; clear n0_ n1_ n2_ n3_ n4_; clear hb ho35; obtain ⟨Ao36, co36, eo36⟩ := Kd.R_slice HO116.out; subst eo36; obtain ⟨ado36, fo36, _⟩ := Kd.at_string (Kd.R_reads' HO116.out).2.2 0 qa78 (by rw [Ny114.out]; simp)
                            cases fo36
                            refine hK.out _ _ ⟨(blk_cell BK113.out 0).trans rfl, (blk_cell BK113.out 1).trans rfl, (blk_cell BK113.out 2).trans rfl, (blk_cell BK113.out 3).trans rfl, (blk_cell BK113.out 4).trans rfl, ((HB.out.cell (qL w _ hw119_0)).trans hw119_0), ((HB.out.cell (qL w _ hw119_1)).trans hw119_1)⟩ (fun hHeld => ?_); clear hK K; refine norm_ (a' := ?_) ?_ ?_; rotate_left
                            ·exact qa17
                            refine one_ (i := 4) (N := some 61) spec_l03Print.y10 rfl rfl (one_of HT_.out qa16) qa78 (fun K hK => ?_); refine goes_ Try.func70 qa16 rfl #[.bool (decide (x8_3 > 0))] (by rfl) rfl rfl qa1 ?_; (with_reducible refine (spec_l01Bit.calls (decide (x8_3 > 0)) t117 _ A21.out).mono ?_); rintro e w' ⟨rfl, ⟨nd, rfl⟩⟩; refine ⟨_, rfl, ?_⟩; refine hK.out _ _ ⟨(blk_cell BK113.out 0).trans rfl, (blk_cell BK113.out 1).trans rfl, (blk_cell BK113.out 2).trans rfl, (blk_cell BK113.out 3).trans rfl, (blk_cell BK113.out 4).trans rfl, ((HB.out.cell (qL w _ hw119_0)).trans hw119_0), ((HB.out.cell (qL w _ hw119_1)).trans hw119_1)⟩ (fun hHeld => ?_); clear hK K; refine norm_ (a' := ?_) ?_ ?_; rotate_left
                            ·exact qa17
                            exact norm_ (by simp only [putAll, Act.put, qzA, qzB, qzC]) (hCont (.slice (some ado36) y114.length co36, ado36) _ ⟨hHeld, (by (with_reducible repeat (first | apply Kd.R_alloc | apply Kd.R_drewN | apply Kd.R_drew)); exact Kd.R_mono HO116.out (fun _ hk => hk.2)), (by (with_reducible repeat (first | apply Kd.R_alloc | apply Kd.R_drewN | apply Kd.R_drew)); exact Kd.R_mono HO_3.out (fun _ hk => hk.2)), ⟨_, rfl⟩, (by (with_reducible repeat (first | refine qkN ?_ _ | refine qkD ?_ | refine qkA ?_ _)); exact BK101.out), (by (with_reducible repeat (first | refine qkN ?_ _ | refine qkD ?_ | refine qkA ?_ _)); exact BK113.out), (by repeat (first | (with_reducible first | exact HB.out | apply qbA | apply qbN | apply qbD | refine qbS ?_ GE101.out | refine qbS ?_ GE113.out) | exact HB.out))⟩)
                           ·skip
                            refine goes_ Try.func70 qa16 rfl #[.bool (decide (x8_3 > 0))] (by rfl) rfl rfl qa1 ?_; (with_reducible refine (spec_l01Bit.calls (decide (x8_3 > 0)) t117 _ A21.out).mono ?_); rintro e w' ⟨rfl, ⟨nd, rfl⟩⟩; refine ⟨_, rfl, ?_⟩; refine hK.out _ _ ⟨(blk_cell BK113.out 0).trans rfl, (blk_cell BK113.out 1).trans rfl, (blk_cell BK113.out 2).trans rfl, (blk_cell BK113.out 3).trans rfl, (blk_cell BK113.out 4).trans rfl, ((HB.out.cell (qL w _ hw119_0)).trans hw119_0), ((HB.out.cell (qL w _ hw119_1)).trans hw119_1)⟩ (fun hHeld => ?_); clear hK K; refine norm_ (a' := ?_) ?_ ?_; rotate_left
                            ·exact qa17
                            refine one_ (i := 1) (N := some 58) spec_l03Print.y10 rfl rfl (one_of HT_.out qa16) qa78 (fun K hK => ?_); refine Kd.R_lit_step Kd.string _ 9 ?hg (N := 58) ?hd (xs := ([(⟨#[32, 40, 32]⟩ : ByteArray), (⟨#[32]⟩ : ByteArray)] : List ByteArray)) (inner := [.string (⟨#[32, 40, 32]⟩ : ByteArray), .string (⟨#[32]⟩ : ByteArray)]) (ok := fun _ => True) (okp := fun _ => True) ?hr ?hp (fun _ hk => hk) trivial (Below.refl _ _) (Nat.le_refl _) qa79 ?_; (case hd => rfl); (case hg => rfl); (case hr => exact qa18); (case hp => exact qa45); intro v115 w34 ho35 hb hg_ hnew_; clear hg_ hnew_; (first | rw [← Ny114.out] at ho35 | (simp only [Int.reduceToNat] at ho35; rw [← Ny114.out] at ho35)); have n0_ := qO (Kd.R_elder' qa27 (Kd.R_base ho35) hb); have n1_ := qO (Kd.R_lower (Kd.R_new' ho35 (Kd.R_lt qa27)) (below_size qa29)); have n2_ := qO (blk_below (g := gb101) (o := .cells #[.slice (some ad106) l0_0.length c0_0] 29 (0, 0)) qa12 hb); have n3_ := qO (blk_below (g := gb113) (o := .cells #[.string ((rd_T38 ((rd_T53 l0_0 x4_1).f1) x6_2).f0), .slice (some ad119) ((rd_T38 ((rd_T53 l0_0 x4_1).f1) x6_2).f1).length c112_1, .string ((rd_T38 ((rd_T53 l0_0 x4_1).f1) x6_2).f2), .bool ((rd_T38 ((rd_T53 l0_0 x4_1).f1) x6_2).f3), .bool ((rd_T38 ((rd_T53 l0_0 x4_1).f1) x6_2).f4)] 38 (0, 0)) qa53 hb); have n4_ := qO (below_step qa29 hb); clear HO_3; clear BK101; clear BK113; clear HB; have HO_3 := n0_; have HO116 := n1_; have BK101 := n2_; have BK113 := n3_; have HB := n4_; clear n0_ n1_ n2_ n3_ n4_; clear hb ho35; obtain ⟨Ao36, co36, eo36⟩ := Kd.R_slice HO116.out; subst eo36; obtain ⟨ado36, fo36, _⟩ := Kd.at_string (Kd.R_reads' HO116.out).2.2 0 qa78 (by rw [Ny114.out]; simp)
                            cases fo36
                            refine hK.out _ _ ⟨(blk_cell BK113.out 0).trans rfl, (blk_cell BK113.out 1).trans rfl, (blk_cell BK113.out 2).trans rfl, (blk_cell BK113.out 3).trans rfl, (blk_cell BK113.out 4).trans rfl, ((HB.out.cell (qL w _ hw119_0)).trans hw119_0), ((HB.out.cell (qL w _ hw119_1)).trans hw119_1)⟩ (fun hHeld => ?_); clear hK K; refine norm_ (a' := ?_) ?_ ?_; rotate_left
                            ·exact qa17
                            exact norm_ (by simp only [putAll, Act.put, qzA, qzB, qzC]) (hCont (.slice (some ado36) y114.length co36, ado36) _ ⟨hHeld, (by (with_reducible repeat (first | apply Kd.R_alloc | apply Kd.R_drewN | apply Kd.R_drew)); exact Kd.R_mono HO116.out (fun _ hk => hk.2)), (by (with_reducible repeat (first | apply Kd.R_alloc | apply Kd.R_drewN | apply Kd.R_drew)); exact Kd.R_mono HO_3.out (fun _ hk => hk.2)), ⟨_, rfl⟩, (by (with_reducible repeat (first | refine qkN ?_ _ | refine qkD ?_ | refine qkA ?_ _)); exact BK101.out), (by (with_reducible repeat (first | refine qkN ?_ _ | refine qkD ?_ | refine qkA ?_ _)); exact BK113.out), (by repeat (first | (with_reducible first | exact HB.out | apply qbA | apply qbN | apply qbD | refine qbS ?_ GE101.out | refine qbS ?_ GE113.out) | exact HB.out))⟩)
                          rintro ⟨v115, adz_v115⟩ w37 ⟨hS_, h0_, h1_, h2_, h3_, h4_, h5_⟩; have n0_ : Aside0 (Kd.R Kd.string 9 w37 w.heap.size (fun k_ => some k_ ≠ (u3 : Value).ownBlock) v115 y114) := ⟨h0_⟩; have n1_ : Aside0 (Kd.R Kd.string 9 w37 w.heap.size (fun k_ => some k_ ≠ (v115 : Value).ownBlock) u3 x3_1) := ⟨h1_⟩; have n2_ : Aside0 (∃ c_, (v115 : Value) = .slice (some adz_v115) y114.length c_) := ⟨h2_⟩; have n3_ : Aside0 (w37.heap[gb101]? = some (.cells #[.slice (some ad106) l0_0.length c0_0] 29 (0, 0))) := ⟨h3_⟩; have n4_ : Aside0 (w37.heap[gb113]? = some (.cells #[.string ((rd_T38 ((rd_T53 l0_0 x4_1).f1) x6_2).f0), .slice (some ad119) ((rd_T38 ((rd_T53 l0_0 x4_1).f1) x6_2).f1).length c112_1, .string ((rd_T38 ((rd_T53 l0_0 x4_1).f1) x6_2).f2), .bool ((rd_T38 ((rd_T53 l0_0 x4_1).f1) x6_2).f3), .bool ((rd_T38 ((rd_T53 l0_0 x4_1).f1) x6_2).f4)] 38 (0, 0))) := ⟨h4_⟩; have n5_ : Aside0 (Below w.heap.size w w37) := ⟨h5_⟩; clear HO_3; clear BK101; clear BK113; clear HB; clear h0_ h1_ h2_ h3_ h4_ h5_; have HO116 := n0_; have HO_3 := n1_; have HA_HO116 := n2_; have BK101 := n3_; have BK113 := n4_; have HB := n5_; clear n0_ n1_ n2_ n3_ n4_ n5_; have hHeld : w37.cell? ⟨gb113, 0, none⟩ = some (.string ((rd_T38 ((rd_T53 l0_0 x4_1).f1) x6_2).f0)) ∧ w37.cell? ⟨gb113, 1, none⟩ = some (.slice (some ad119) ((rd_T38 ((rd_T53 l0_0 x4_1).f1) x6_2).f1).length c112_1) ∧ w37.cell? ⟨gb113, 2, none⟩ = some (.string ((rd_T38 ((rd_T53 l0_0 x4_1).f1) x6_2).f2)) ∧ w37.cell? ⟨gb113, 3, none⟩ = some (.bool ((rd_T38 ((rd_T53 l0_0 x4_1).f1) x6_2).f3)) ∧ w37.cell? ⟨gb113, 4, none⟩ = some (.bool ((rd_T38 ((rd_T53 l0_0 x4_1).f1) x6_2).f4)) ∧ w37.cell? (ad119.add ((x8_3).toNat * 2)) = some (.string ((rd_T57 ((rd_T38 ((rd_T53 l0_0 x4_1).f1) x6_2).f1) x8_3).f0)) ∧ w37.cell? ⟨(ad119.add ((x8_3).toNat * 2)).block, (ad119.add ((x8_3).toNat * 2)).off + 1, none⟩ = some (.bool true) := hS_; obtain ⟨co38, eo38⟩ := HA_HO116.out; clear HA_HO116; subst eo38; refine norm_ (a' := ?_) ?_ ?_; rotate_left
                          ·simp only [putAll, Act.put, qzA, qzB, qzC]
                           rfl
                          refine pure_ (i := 5) (N := some 62) (v := ?_) (a' := ?_) spec_l03Print.y13 rfl rfl (any_of HT_.out qa16) (fun _ _ _ h => h) (Or.inl ⟨by rfl, ?_⟩) ?_ ?_; rotate_left; exact qa19; rotate_left; exact qa5; refine one_ (i := 6) (N := some 63) spec_l03Print.y14 rfl rfl (one_of HT_.out qa16) qa78 (fun K hK => ?_); (have p118 : 0 ≤ (t117 : Int) := qT qa4; have q118 : t117 < (y114.length : Int) := qT qa4; obtain ⟨ad118, e118, hx118_0⟩ := Kd.at_string (Kd.R_reads' HO116.out).2.2 t117 p118 q118; obtain rfl : adz_v115 = ad118 := (by injection e118)); refine value_ (w1 := ?_) (v := ?_) (by rfl) rfl ?_ ?_; rotate_left 2
                          ·go_simp
                           constructor
                           ·rfl
                           ·rfl
                          clear hx118_0; refine hK.out _ _ ⟨(blk_cell BK113.out 0).trans rfl, (blk_cell BK113.out 1).trans rfl, (blk_cell BK113.out 2).trans rfl, (blk_cell BK113.out 3).trans rfl, (blk_cell BK113.out 4).trans rfl, ((HB.out.cell (qL w _ hw119_0)).trans hw119_0), ((HB.out.cell (qL w _ hw119_1)).trans hw119_1)⟩ (fun hHeld => ?_); clear hK K; refine norm_ (a' := ?_) ?_ ?_; rotate_left
                          ·exact qa17
                          refine pure_ (i := 13) (N := some 70) (v := ?_) (a' := ?_) spec_l03Print.y15 rfl rfl (any_of HT_.out qa16) (fun _ _ _ h => h) (Or.inl ⟨by rfl, ?_⟩) ?_ ?_; rotate_left; exact qa19; rotate_left; exact qa5; refine pure_ (i := 14) (N := some 71) (v := ?_) (a' := ?_) spec_l03Print.y16 rfl rfl (any_of HT_.out qa16) (fun _ _ _ h => h) (Or.inl ⟨by rfl, ?_⟩) ?_ ?_; rotate_left; exact qa19; rotate_left; exact qa5; refine pure_ (i := 15) (N := some 72) (v := ?_) (a' := ?_) spec_l03Print.y17 rfl rfl (any_of HT_.out qa16) (fun _ _ _ h => h) (Or.inl ⟨by rfl, ?_⟩) ?_ ?_; rotate_left; exact qa19; rotate_left; exact qa5; refine pure_ (i := 16) (N := some 5) (v := ?_) (a' := ?_) spec_l03Print.y18 rfl rfl (any_of HT_.out qa16) (fun _ _ _ h => h) (Or.inl ⟨by rfl, ?_⟩) ?_ ?_; rotate_left; exact qa19; rotate_left; exact qa5; refine done_ (done_of HT_.out qa16) ?_; have hcz39_0 : w37.cell? ⟨gb113, 0, none⟩ = some (.string ((rd_T38 ((rd_T53 l0_0 x4_1).f1) x6_2).f0)) := (blk_cell BK113.out 0).trans rfl; have hcz39_1 : w37.cell? ⟨gb113, 1, none⟩ = some (.slice (some ad119) ((rd_T38 ((rd_T53 l0_0 x4_1).f1) x6_2).f1).length c112_1) := (blk_cell BK113.out 1).trans rfl; have hcz39_2 : w37.cell? ⟨gb113, 2, none⟩ = some (.string ((rd_T38 ((rd_T53 l0_0 x4_1).f1) x6_2).f2)) := (blk_cell BK113.out 2).trans rfl; have hcz39_3 : w37.cell? ⟨gb113, 3, none⟩ = some (.bool ((rd_T38 ((rd_T53 l0_0 x4_1).f1) x6_2).f3)) := (blk_cell BK113.out 3).trans rfl; have hcz39_4 : w37.cell? ⟨gb113, 4, none⟩ = some (.bool ((rd_T38 ((rd_T53 l0_0 x4_1).f1) x6_2).f4)) := (blk_cell BK113.out 4).trans rfl; have hfz39_0 := blk_frozen BK113.out 0; have hfz39_1 := blk_frozen BK113.out 1; have hfz39_2 := blk_frozen BK113.out 2; have hfz39_3 := blk_frozen BK113.out 3; have hfz39_4 := blk_frozen BK113.out 4; have p120 : 0 ≤ (x8_3 : Int) := qT qa4; have q120 : x8_3 < (((rd_T38 ((rd_T53 l0_0 x4_1).f1) x6_2).f1).length : Int) := qT qa4; obtain ⟨ad120, e120, hx120_0, hx120_1⟩ := at_T57 HR112_1.out x8_3 p120 q120; (try rw [← Nbq28.out] at hx120_1); (try rw [← Nbq28.out] at hw120_1); obtain rfl : ad119 = ad120 := (by injection e120); replace hx120_0 := (HB.out.cell (qL w _ hx120_0)).trans hx120_0; replace hx120_1 := (HB.out.cell (qL w _ hx120_1)).trans hx120_1; replace p120 := eq_true p120; replace q120 := eq_true q120
                          try go_wp2
                          go_roundg k3
                          case measure => have := HK1.out; have := HK2.out; have := HK3.out; omega
                          case rel => exact ⟨((x5_3 ++ (((rdOf ByteArray.empty y114 t117) ++ ((rd_T57 ((rd_T38 ((rd_T53 l0_0 x4_1).f1) x6_2).f1) x8_3).f0)) ++ (⟨#[32, 58, 32, 73, 110, 116]⟩ : ByteArray))) ++ (⟨#[32, 33]⟩ : ByteArray)), (wrap64 (x8_3 + 1)), qa10, qa10, H', ⟨qa96⟩, ⟨qa86⟩, ⟨qa12⟩, ⟨qa53⟩, ⟨qa29⟩⟩
                         ·rw [if_neg c30] at H
                          exact absurd H qa79
                        ·replace c29 := Bool.eq_false_iff.mpr c29
                         subst c29; have H1 : (spec_l03Print.l2 k3 x3_1 x4_1 (x5_3 ++ (((rdOf ByteArray.empty y114 t117) ++ ((rd_T57 ((rd_T38 ((rd_T53 l0_0 x4_1).f1) x6_2).f1) x8_3).f0)) ++ (⟨#[32, 58, 32, 73, 110, 116]⟩ : ByteArray))) x6_2 (wrap64 (x8_3 + 1)) l0_0 ((rd_T38 ((rd_T53 l0_0 x4_1).f1) x6_2).f0) ((rd_T38 ((rd_T53 l0_0 x4_1).f1) x6_2).f1) ((rd_T38 ((rd_T53 l0_0 x4_1).f1) x6_2).f2) ((rd_T38 ((rd_T53 l0_0 x4_1).f1) x6_2).f3) ((rd_T38 ((rd_T53 l0_0 x4_1).f1) x6_2).f4)) = some r := by rw [if_neg (show ¬ (false = true) by decide)] at H; exact H
                         clear H; have H := H1; clear H1; have H' := qO H; clear H; have hnb40 := NB113_101.out; have hnc40 := NB101_113.out; have hcz41_0 : wr.cell? ⟨gb113, 0, none⟩ = some (.string ((rd_T38 ((rd_T53 l0_0 x4_1).f1) x6_2).f0)) := (blk_cell BK113.out 0).trans rfl; have hcz41_1 : wr.cell? ⟨gb113, 1, none⟩ = some (.slice A112_1 ((rd_T38 ((rd_T53 l0_0 x4_1).f1) x6_2).f1).length c112_1) := (blk_cell BK113.out 1).trans rfl; have hcz41_2 : wr.cell? ⟨gb113, 2, none⟩ = some (.string ((rd_T38 ((rd_T53 l0_0 x4_1).f1) x6_2).f2)) := (blk_cell BK113.out 2).trans rfl; have hcz41_3 : wr.cell? ⟨gb113, 3, none⟩ = some (.bool ((rd_T38 ((rd_T53 l0_0 x4_1).f1) x6_2).f3)) := (blk_cell BK113.out 3).trans rfl; have hcz41_4 : wr.cell? ⟨gb113, 4, none⟩ = some (.bool ((rd_T38 ((rd_T53 l0_0 x4_1).f1) x6_2).f4)) := (blk_cell BK113.out 4).trans rfl; have hfz41_0 := blk_frozen BK113.out 0; have hfz41_1 := blk_frozen BK113.out 1; have hfz41_2 := blk_frozen BK113.out 2; have hfz41_3 := blk_frozen BK113.out 3; have hfz41_4 := blk_frozen BK113.out 4
                         try go_wp2
                         have pi118 : (0 ≤ (t117 : Int)) = True := eq_true (qT qa4); have qi118 : (t117 < (y114.length : Int)) = True := eq_true (qT qa4); have n0_ := qO (Kd.R_drew HO_3.out); have n1_ := qO (qkD BK101.out); have n2_ := qO (qkD BK113.out); have n3_ := qO (qbD HB.out); clear HO_3; clear BK101; clear BK113; clear HB; have HO_3 := n0_; have BK101 := n1_; have BK113 := n2_; have HB := n3_; clear n0_ n1_ n2_ n3_; have p119 : 0 ≤ (x8_3 : Int) := qT qa4; have q119 : x8_3 < (((rd_T38 ((rd_T53 l0_0 x4_1).f1) x6_2).f1).length : Int) := qT qa4; obtain ⟨ad119, e119, hx119_0, hx119_1⟩ := at_T57 HR112_1.out x8_3 p119 q119; have hw119_1 := hx119_1; have hw119_0 := hx119_0; (try rw [← Nbq28.out] at hx119_1); (try rw [← Nbq28.out] at hw119_1)
                         cases e119
                         replace hx119_0 := (HB.out.cell (qL w _ hx119_0)).trans hx119_0; replace hx119_1 := (HB.out.cell (qL w _ hx119_1)).trans hx119_1; replace p119 := eq_true p119; replace q119 := eq_true q119; refine start_ (n := 17) (S := fun w' => w'.cell? ⟨gb113, 0, none⟩ = some (.string ((rd_T38 ((rd_T53 l0_0 x4_1).f1) x6_2).f0)) ∧ w'.cell? ⟨gb113, 1, none⟩ = some (.slice (some ad119) ((rd_T38 ((rd_T53 l0_0 x4_1).f1) x6_2).f1).length c112_1) ∧ w'.cell? ⟨gb113, 2, none⟩ = some (.string ((rd_T38 ((rd_T53 l0_0 x4_1).f1) x6_2).f2)) ∧ w'.cell? ⟨gb113, 3, none⟩ = some (.bool ((rd_T38 ((rd_T53 l0_0 x4_1).f1) x6_2).f3)) ∧ w'.cell? ⟨gb113, 4, none⟩ = some (.bool ((rd_T38 ((rd_T53 l0_0 x4_1).f1) x6_2).f4)) ∧ w'.cell? (ad119.add ((x8_3).toNat * 2)) = some (.string ((rd_T57 ((rd_T38 ((rd_T53 l0_0 x4_1).f1) x6_2).f1) x8_3).f0)) ∧ w'.cell? ⟨(ad119.add ((x8_3).toNat * 2)).block, (ad119.add ((x8_3).toNat * 2)).off + 1, none⟩ = some (.bool false)) (ds := []) spec_l03Print.y0 qa16 rfl rfl ⟨(blk_cell BK113.out 0).trans rfl, (blk_cell BK113.out 1).trans rfl, (blk_cell BK113.out 2).trans rfl, (blk_cell BK113.out 3).trans rfl, (blk_cell BK113.out 4).trans rfl, ((HB.out.cell (qL w _ hw119_0)).trans hw119_0), ((HB.out.cell (qL w _ hw119_1)).trans hw119_1)⟩ (fun hHeld => ?_); refine with_tabW spec_l03Print.tab14 spec_l03Print.bits14 (fun HT_ HW_ => ?_); generalize wr.drew = w42 at HO_3 BK101 BK113 HB hx119_0 hx119_1 hHeld ⊢; refine pure_ (i := 0) (N := some 57) (v := ?_) (a' := ?_) spec_l03Print.y1 rfl rfl (any_of HT_.out qa16) (fun _ _ _ h => h) (Or.inl ⟨by rfl, ?_⟩) ?_ ?_; rotate_left; exact qa19; rotate_left; exact qa5; refine pure_ (i := 2) (N := some 59) (v := ?_) (a' := ?_) spec_l03Print.y2 rfl rfl (any_of HT_.out qa16) (fun _ _ _ h => h) (Or.inl ⟨by rfl, ?_⟩) ?_ ?_; rotate_left; exact qa19; rotate_left; exact qa5; refine pure_ (i := 3) (N := some 60) (v := ?_) (a' := ?_) spec_l03Print.y3 rfl rfl (any_of HT_.out qa16) (fun _ _ _ h => h) (Or.inl ⟨by rfl, ?_⟩) ?_ ?_; rotate_left; exact qa19; rotate_left; exact qa5; refine pure_ (i := 7) (N := some 64) (v := ?_) (a' := ?_) spec_l03Print.y4 rfl rfl (any_of HT_.out qa16) (fun _ _ _ h => h) (Or.inl ⟨by rfl, ?_⟩) ?_ ?_; rotate_left; exact qa19; rotate_left; exact qa5; refine pure_ (i := 9) (N := some 66) (v := ?_) (a' := ?_) spec_l03Print.y5 rfl rfl (any_of HT_.out qa16) (fun _ _ _ h => h) (Or.inl ⟨by rfl, ?_⟩) ?_ ?_; rotate_left; exact qa19; rotate_left; exact qa5; refine take_ (i := 8) (N := some 65) (v := ?_) (a' := ?_) spec_l03Print.y6 rfl rfl (take_ofW HT_.out HW_.out qa16) (fun _ _ _ h => h) (Or.inl ⟨by rfl, ?_⟩) hHeld ?_ ?_; rotate_left; exact qa91; rotate_left; exact qa5; refine pure_ (i := 10) (N := some 67) (v := ?_) (a' := ?_) spec_l03Print.y7 rfl rfl (any_of HT_.out qa16) (fun _ _ _ h => h) (Or.inl ⟨by rfl, ?_⟩) ?_ ?_; rotate_left; exact qa19; rotate_left; exact qa5; refine pure_ (i := 11) (N := some 68) (v := ?_) (a' := ?_) spec_l03Print.y8 rfl rfl (any_of HT_.out qa16) (fun _ _ _ h => h) (Or.inl ⟨by rfl, ?_⟩) ?_ ?_; rotate_left; exact qa19; rotate_left; exact qa5; refine take_ (i := 12) (N := some 69) (v := ?_) (a' := ?_) spec_l03Print.y9 rfl rfl (take_ofW HT_.out HW_.out qa16) (fun _ _ _ h => h) (Or.inl ⟨by rfl, ?_⟩) hHeld ?_ ?_; rotate_left; exact qa91; rotate_left; exact qa5; refine join_ (σ := Value × Addr) 6 spec_l03Print.y10 (fun s_ => [(58, s_.1), (61, .int .i64 t117)]) (fun s_ w' => (w'.cell? ⟨gb113, 0, none⟩ = some (.string ((rd_T38 ((rd_T53 l0_0 x4_1).f1) x6_2).f0)) ∧ w'.cell? ⟨gb113, 1, none⟩ = some (.slice (some ad119) ((rd_T38 ((rd_T53 l0_0 x4_1).f1) x6_2).f1).length c112_1) ∧ w'.cell? ⟨gb113, 2, none⟩ = some (.string ((rd_T38 ((rd_T53 l0_0 x4_1).f1) x6_2).f2)) ∧ w'.cell? ⟨gb113, 3, none⟩ = some (.bool ((rd_T38 ((rd_T53 l0_0 x4_1).f1) x6_2).f3)) ∧ w'.cell? ⟨gb113, 4, none⟩ = some (.bool ((rd_T38 ((rd_T53 l0_0 x4_1).f1) x6_2).f4)) ∧ w'.cell? (ad119.add ((x8_3).toNat * 2)) = some (.string ((rd_T57 ((rd_T38 ((rd_T53 l0_0 x4_1).f1) x6_2).f1) x8_3).f0)) ∧ w'.cell? ⟨(ad119.add ((x8_3).toNat * 2)).block, (ad119.add ((x8_3).toNat * 2)).off + 1, none⟩ = some (.bool false)) ∧ (Kd.R Kd.string 9 w' w.heap.size (fun k_ => some k_ ≠ (u3 : Value).ownBlock) s_.1 y114) ∧ (Kd.R Kd.string 9 w' w.heap.size (fun k_ => some k_ ≠ (s_.1 : Value).ownBlock) u3 x3_1) ∧ (∃ c_, (s_.1 : Value) = .slice (some s_.2) y114.length c_) ∧ (w'.heap[gb101]? = some (.cells #[.slice (some ad106) l0_0.length c0_0] 29 (0, 0))) ∧ (w'.heap[gb113]? = some (.cells #[.string ((rd_T38 ((rd_T53 l0_0 x4_1).f1) x6_2).f0), .slice (some ad119) ((rd_T38 ((rd_T53 l0_0 x4_1).f1) x6_2).f1).length c112_1, .string ((rd_T38 ((rd_T53 l0_0 x4_1).f1) x6_2).f2), .bool ((rd_T38 ((rd_T53 l0_0 x4_1).f1) x6_2).f3), .bool ((rd_T38 ((rd_T53 l0_0 x4_1).f1) x6_2).f4)] 38 (0, 0))) ∧ (Below w.heap.size w w')) ?_ ?_; rotate_left
                         ·intro hCont
                          refine two_ (i := 1) (j := 4) (Ni := some 58) (Nj := some 61) spec_l03Print.y11 spec_l03Print.y12 rfl rfl rfl rfl (two_of HT_.out qa16) qa78 qa78 (fun K hK => ?_) (fun K hK => ?_)
                          ·skip
                           refine Kd.R_lit_step Kd.string _ 9 ?hg (N := 58) ?hd (xs := ([(⟨#[32, 40, 32]⟩ : ByteArray), (⟨#[32]⟩ : ByteArray)] : List ByteArray)) (inner := [.string (⟨#[32, 40, 32]⟩ : ByteArray), .string (⟨#[32]⟩ : ByteArray)]) (ok := fun _ => True) (okp := fun _ => True) ?hr ?hp (fun _ hk => hk) trivial (Below.refl _ _) (Nat.le_refl _) qa79 ?_; (case hd => rfl); (case hg => rfl); (case hr => exact qa18); (case hp => exact qa45); intro v115 w43 ho44 hb hg_ hnew_; clear hg_ hnew_; (first | rw [← Ny114.out] at ho44 | (simp only [Int.reduceToNat] at ho44; rw [← Ny114.out] at ho44)); have n0_ := qO (Kd.R_elder' qa27 (Kd.R_base ho44) hb); have n1_ := qO (Kd.R_lower (Kd.R_new' ho44 (Kd.R_lt qa27)) (below_size qa29)); have n2_ := qO (blk_below (g := gb101) (o := .cells #[.slice (some ad106) l0_0.length c0_0] 29 (0, 0)) qa12 hb); have n3_ := qO (blk_below (g := gb113) (o := .cells #[.string ((rd_T38 ((rd_T53 l0_0 x4_1).f1) x6_2).f0), .slice (some ad119) ((rd_T38 ((rd_T53 l0_0 x4_1).f1) x6_2).f1).length c112_1, .string ((rd_T38 ((rd_T53 l0_0 x4_1).f1) x6_2).f2), .bool ((rd_T38 ((rd_T53 l0_0 x4_1).f1) x6_2).f3), .bool ((rd_T38 ((rd_T53 l0_0 x4_1).f1) x6_2).f4)] 38 (0, 0)) qa53 hb); have n4_ := qO (below_step qa29 hb); clear HO_3; clear BK101; clear BK113; clear HB; have HO_3 := n0_; have HO116 := n1_; have BK101 := n2_; have BK113 := n3_; have HB := n4_; clear n0_ n1_ n2_ n3_ n4_; clear hb ho44; obtain ⟨Ao45, co45, eo45⟩ := Kd.R_slice HO116.out; subst eo45; obtain ⟨ado45, fo45, _⟩ := Kd.at_string (Kd.R_reads' HO116.out).2.2 0 qa78 (by rw [Ny114.out]; simp)
                           cases fo45
                           refine hK.out _ _ ⟨(blk_cell BK113.out 0).trans rfl, (blk_cell BK113.out 1).trans rfl, (blk_cell BK113.out 2).trans rfl, (blk_cell BK113.out 3).trans rfl, (blk_cell BK113.out 4).trans rfl, ((HB.out.cell (qL w _ hw119_0)).trans hw119_0), ((HB.out.cell (qL w _ hw119_1)).trans hw119_1)⟩ (fun hHeld => ?_); clear hK K; refine norm_ (a' := ?_) ?_ ?_; rotate_left
                           ·exact qa17
                           refine one_ (i := 4) (N := some 61) spec_l03Print.y10 rfl rfl (one_of HT_.out qa16) qa78 (fun K hK => ?_); refine goes_ Try.func70 qa16 rfl #[.bool (decide (x8_3 > 0))] (by rfl) rfl rfl qa1 ?_; (with_reducible refine (spec_l01Bit.calls (decide (x8_3 > 0)) t117 _ A21.out).mono ?_); rintro e w' ⟨rfl, ⟨nd, rfl⟩⟩; refine ⟨_, rfl, ?_⟩; refine hK.out _ _ ⟨(blk_cell BK113.out 0).trans rfl, (blk_cell BK113.out 1).trans rfl, (blk_cell BK113.out 2).trans rfl, (blk_cell BK113.out 3).trans rfl, (blk_cell BK113.out 4).trans rfl, ((HB.out.cell (qL w _ hw119_0)).trans hw119_0), ((HB.out.cell (qL w _ hw119_1)).trans hw119_1)⟩ (fun hHeld => ?_); clear hK K; refine norm_ (a' := ?_) ?_ ?_; rotate_left
                           ·exact qa17
                           exact norm_ (by simp only [putAll, Act.put, qzA, qzB, qzC]) (hCont (.slice (some ado45) y114.length co45, ado45) _ ⟨hHeld, (by (with_reducible repeat (first | apply Kd.R_alloc | apply Kd.R_drewN | apply Kd.R_drew)); exact Kd.R_mono HO116.out (fun _ hk => hk.2)), (by (with_reducible repeat (first | apply Kd.R_alloc | apply Kd.R_drewN | apply Kd.R_drew)); exact Kd.R_mono HO_3.out (fun _ hk => hk.2)), ⟨_, rfl⟩, (by (with_reducible repeat (first | refine qkN ?_ _ | refine qkD ?_ | refine qkA ?_ _)); exact BK101.out), (by (with_reducible repeat (first | refine qkN ?_ _ | refine qkD ?_ | refine qkA ?_ _)); exact BK113.out), (by repeat (first | (with_reducible first | exact HB.out | apply qbA | apply qbN | apply qbD | refine qbS ?_ GE101.out | refine qbS ?_ GE113.out) | exact HB.out))⟩)
                          ·skip
                           refine goes_ Try.func70 qa16 rfl #[.bool (decide (x8_3 > 0))] (by rfl) rfl rfl qa1 ?_; (with_reducible refine (spec_l01Bit.calls (decide (x8_3 > 0)) t117 _ A21.out).mono ?_); rintro e w' ⟨rfl, ⟨nd, rfl⟩⟩; refine ⟨_, rfl, ?_⟩; refine hK.out _ _ ⟨(blk_cell BK113.out 0).trans rfl, (blk_cell BK113.out 1).trans rfl, (blk_cell BK113.out 2).trans rfl, (blk_cell BK113.out 3).trans rfl, (blk_cell BK113.out 4).trans rfl, ((HB.out.cell (qL w _ hw119_0)).trans hw119_0), ((HB.out.cell (qL w _ hw119_1)).trans hw119_1)⟩ (fun hHeld => ?_); clear hK K; refine norm_ (a' := ?_) ?_ ?_; rotate_left
                           ·exact qa17
                           refine one_ (i := 1) (N := some 58) spec_l03Print.y10 rfl rfl (one_of HT_.out qa16) qa78 (fun K hK => ?_); refine Kd.R_lit_step Kd.string _ 9 ?hg (N := 58) ?hd (xs := ([(⟨#[32, 40, 32]⟩ : ByteArray), (⟨#[32]⟩ : ByteArray)] : List ByteArray)) (inner := [.string (⟨#[32, 40, 32]⟩ : ByteArray), .string (⟨#[32]⟩ : ByteArray)]) (ok := fun _ => True) (okp := fun _ => True) ?hr ?hp (fun _ hk => hk) trivial (Below.refl _ _) (Nat.le_refl _) qa79 ?_; (case hd => rfl); (case hg => rfl); (case hr => exact qa18); (case hp => exact qa45); intro v115 w43 ho44 hb hg_ hnew_; clear hg_ hnew_; (first | rw [← Ny114.out] at ho44 | (simp only [Int.reduceToNat] at ho44; rw [← Ny114.out] at ho44)); have n0_ := qO (Kd.R_elder' qa27 (Kd.R_base ho44) hb); have n1_ := qO (Kd.R_lower (Kd.R_new' ho44 (Kd.R_lt qa27)) (below_size qa29)); have n2_ := qO (blk_below (g := gb101) (o := .cells #[.slice (some ad106) l0_0.length c0_0] 29 (0, 0)) qa12 hb); have n3_ := qO (blk_below (g := gb113) (o := .cells #[.string ((rd_T38 ((rd_T53 l0_0 x4_1).f1) x6_2).f0), .slice (some ad119) ((rd_T38 ((rd_T53 l0_0 x4_1).f1) x6_2).f1).length c112_1, .string ((rd_T38 ((rd_T53 l0_0 x4_1).f1) x6_2).f2), .bool ((rd_T38 ((rd_T53 l0_0 x4_1).f1) x6_2).f3), .bool ((rd_T38 ((rd_T53 l0_0 x4_1).f1) x6_2).f4)] 38 (0, 0)) qa53 hb); have n4_ := qO (below_step qa29 hb); clear HO_3; clear BK101; clear BK113; clear HB; have HO_3 := n0_; have HO116 := n1_; have BK101 := n2_; have BK113 := n3_; have HB := n4_; clear n0_ n1_ n2_ n3_ n4_; clear hb ho44; obtain ⟨Ao45, co45, eo45⟩ := Kd.R_slice HO116.out; subst eo45; obtain ⟨ado45, fo45, _⟩ := Kd.at_string (Kd.R_reads' HO116.out).2.2 0 qa78 (by rw [Ny114.out]; simp)
                           cases fo45
                           refine hK.out _ _ ⟨(blk_cell BK113.out 0).trans rfl, (blk_cell BK113.out 1).trans rfl, (blk_cell BK113.out 2).trans rfl, (blk_cell BK113.out 3).trans rfl, (blk_cell BK113.out 4).trans rfl, ((HB.out.cell (qL w _ hw119_0)).trans hw119_0), ((HB.out.cell (qL w _ hw119_1)).trans hw119_1)⟩ (fun hHeld => ?_); clear hK K; refine norm_ (a' := ?_) ?_ ?_; rotate_left
                           ·exact qa17
                           exact norm_ (by simp only [putAll, Act.put, qzA, qzB, qzC]) (hCont (.slice (some ado45) y114.length co45, ado45) _ ⟨hHeld, (by (with_reducible repeat (first | apply Kd.R_alloc | apply Kd.R_drewN | apply Kd.R_drew)); exact Kd.R_mono HO116.out (fun _ hk => hk.2)), (by (with_reducible repeat (first | apply Kd.R_alloc | apply Kd.R_drewN | apply Kd.R_drew)); exact Kd.R_mono HO_3.out (fun _ hk => hk.2)), ⟨_, rfl⟩, (by (with_reducible repeat (first | refine qkN ?_ _ | refine qkD ?_ | refine qkA ?_ _)); exact BK101.out), (by (with_reducible repeat (first | refine qkN ?_ _ | refine qkD ?_ | refine qkA ?_ _)); exact BK113.out), (by repeat (first | (with_reducible first | exact HB.out | apply qbA | apply qbN | apply qbD | refine qbS ?_ GE101.out | refine qbS ?_ GE113.out) | exact HB.out))⟩)
                         rintro ⟨v115, adz_v115⟩ w46 ⟨hS_, h0_, h1_, h2_, h3_, h4_, h5_⟩; have n0_ : Aside0 (Kd.R Kd.string 9 w46 w.heap.size (fun k_ => some k_ ≠ (u3 : Value).ownBlock) v115 y114) := ⟨h0_⟩; have n1_ : Aside0 (Kd.R Kd.string 9 w46 w.heap.size (fun k_ => some k_ ≠ (v115 : Value).ownBlock) u3 x3_1) := ⟨h1_⟩; have n2_ : Aside0 (∃ c_, (v115 : Value) = .slice (some adz_v115) y114.length c_) := ⟨h2_⟩; have n3_ : Aside0 (w46.heap[gb101]? = some (.cells #[.slice (some ad106) l0_0.length c0_0] 29 (0, 0))) := ⟨h3_⟩; have n4_ : Aside0 (w46.heap[gb113]? = some (.cells #[.string ((rd_T38 ((rd_T53 l0_0 x4_1).f1) x6_2).f0), .slice (some ad119) ((rd_T38 ((rd_T53 l0_0 x4_1).f1) x6_2).f1).length c112_1, .string ((rd_T38 ((rd_T53 l0_0 x4_1).f1) x6_2).f2), .bool ((rd_T38 ((rd_T53 l0_0 x4_1).f1) x6_2).f3), .bool ((rd_T38 ((rd_T53 l0_0 x4_1).f1) x6_2).f4)] 38 (0, 0))) := ⟨h4_⟩; have n5_ : Aside0 (Below w.heap.size w w46) := ⟨h5_⟩; clear HO_3; clear BK101; clear BK113; clear HB; clear h0_ h1_ h2_ h3_ h4_ h5_; have HO116 := n0_; have HO_3 := n1_; have HA_HO116 := n2_; have BK101 := n3_; have BK113 := n4_; have HB := n5_; clear n0_ n1_ n2_ n3_ n4_ n5_; have hHeld : w46.cell? ⟨gb113, 0, none⟩ = some (.string ((rd_T38 ((rd_T53 l0_0 x4_1).f1) x6_2).f0)) ∧ w46.cell? ⟨gb113, 1, none⟩ = some (.slice (some ad119) ((rd_T38 ((rd_T53 l0_0 x4_1).f1) x6_2).f1).length c112_1) ∧ w46.cell? ⟨gb113, 2, none⟩ = some (.string ((rd_T38 ((rd_T53 l0_0 x4_1).f1) x6_2).f2)) ∧ w46.cell? ⟨gb113, 3, none⟩ = some (.bool ((rd_T38 ((rd_T53 l0_0 x4_1).f1) x6_2).f3)) ∧ w46.cell? ⟨gb113, 4, none⟩ = some (.bool ((rd_T38 ((rd_T53 l0_0 x4_1).f1) x6_2).f4)) ∧ w46.cell? (ad119.add ((x8_3).toNat * 2)) = some (.string ((rd_T57 ((rd_T38 ((rd_T53 l0_0 x4_1).f1) x6_2).f1) x8_3).f0)) ∧ w46.cell? ⟨(ad119.add ((x8_3).toNat * 2)).block, (ad119.add ((x8_3).toNat * 2)).off + 1, none⟩ = some (.bool false) := hS_; obtain ⟨co47, eo47⟩ := HA_HO116.out; clear HA_HO116; subst eo47; refine norm_ (a' := ?_) ?_ ?_; rotate_left
                         ·simp only [putAll, Act.put, qzA, qzB, qzC]
                          rfl
                         refine pure_ (i := 5) (N := some 62) (v := ?_) (a' := ?_) spec_l03Print.y13 rfl rfl (any_of HT_.out qa16) (fun _ _ _ h => h) (Or.inl ⟨by rfl, ?_⟩) ?_ ?_; rotate_left; exact qa19; rotate_left; exact qa5; refine one_ (i := 6) (N := some 63) spec_l03Print.y14 rfl rfl (one_of HT_.out qa16) qa78 (fun K hK => ?_); (have p118 : 0 ≤ (t117 : Int) := qT qa4; have q118 : t117 < (y114.length : Int) := qT qa4; obtain ⟨ad118, e118, hx118_0⟩ := Kd.at_string (Kd.R_reads' HO116.out).2.2 t117 p118 q118; obtain rfl : adz_v115 = ad118 := (by injection e118)); refine value_ (w1 := ?_) (v := ?_) (by rfl) rfl ?_ ?_; rotate_left 2
                         ·go_simp
                          constructor
                          ·rfl
                          ·rfl
                         clear hx118_0; refine hK.out _ _ ⟨(blk_cell BK113.out 0).trans rfl, (blk_cell BK113.out 1).trans rfl, (blk_cell BK113.out 2).trans rfl, (blk_cell BK113.out 3).trans rfl, (blk_cell BK113.out 4).trans rfl, ((HB.out.cell (qL w _ hw119_0)).trans hw119_0), ((HB.out.cell (qL w _ hw119_1)).trans hw119_1)⟩ (fun hHeld => ?_); clear hK K; refine norm_ (a' := ?_) ?_ ?_; rotate_left
                         ·exact qa17
                         refine pure_ (i := 13) (N := some 70) (v := ?_) (a' := ?_) spec_l03Print.y15 rfl rfl (any_of HT_.out qa16) (fun _ _ _ h => h) (Or.inl ⟨by rfl, ?_⟩) ?_ ?_; rotate_left; exact qa19; rotate_left; exact qa5; refine pure_ (i := 14) (N := some 71) (v := ?_) (a' := ?_) spec_l03Print.y16 rfl rfl (any_of HT_.out qa16) (fun _ _ _ h => h) (Or.inl ⟨by rfl, ?_⟩) ?_ ?_; rotate_left; exact qa19; rotate_left; exact qa5; refine pure_ (i := 15) (N := some 72) (v := ?_) (a' := ?_) spec_l03Print.y17 rfl rfl (any_of HT_.out qa16) (fun _ _ _ h => h) (Or.inl ⟨by rfl, ?_⟩) ?_ ?_; rotate_left; exact qa19; rotate_left; exact qa5; refine pure_ (i := 16) (N := some 5) (v := ?_) (a' := ?_) spec_l03Print.y18 rfl rfl (any_of HT_.out qa16) (fun _ _ _ h => h) (Or.inl ⟨by rfl, ?_⟩) ?_ ?_; rotate_left; exact qa19; rotate_left; exact qa5; refine done_ (done_of HT_.out qa16) ?_; have hcz48_0 : w46.cell? ⟨gb113, 0, none⟩ = some (.string ((rd_T38 ((rd_T53 l0_0 x4_1).f1) x6_2).f0)) := (blk_cell BK113.out 0).trans rfl; have hcz48_1 : w46.cell? ⟨gb113, 1, none⟩ = some (.slice (some ad119) ((rd_T38 ((rd_T53 l0_0 x4_1).f1) x6_2).f1).length c112_1) := (blk_cell BK113.out 1).trans rfl; have hcz48_2 : w46.cell? ⟨gb113, 2, none⟩ = some (.string ((rd_T38 ((rd_T53 l0_0 x4_1).f1) x6_2).f2)) := (blk_cell BK113.out 2).trans rfl; have hcz48_3 : w46.cell? ⟨gb113, 3, none⟩ = some (.bool ((rd_T38 ((rd_T53 l0_0 x4_1).f1) x6_2).f3)) := (blk_cell BK113.out 3).trans rfl; have hcz48_4 : w46.cell? ⟨gb113, 4, none⟩ = some (.bool ((rd_T38 ((rd_T53 l0_0 x4_1).f1) x6_2).f4)) := (blk_cell BK113.out 4).trans rfl; have hfz48_0 := blk_frozen BK113.out 0; have hfz48_1 := blk_frozen BK113.out 1; have hfz48_2 := blk_frozen BK113.out 2; have hfz48_3 := blk_frozen BK113.out 3; have hfz48_4 := blk_frozen BK113.out 4; have p120 : 0 ≤ (x8_3 : Int) := qT qa4; have q120 : x8_3 < (((rd_T38 ((rd_T53 l0_0 x4_1).f1) x6_2).f1).length : Int) := qT qa4; obtain ⟨ad120, e120, hx120_0, hx120_1⟩ := at_T57 HR112_1.out x8_3 p120 q120; (try rw [← Nbq28.out] at hx120_1); (try rw [← Nbq28.out] at hw120_1); obtain rfl : ad119 = ad120 := (by injection e120); replace hx120_0 := (HB.out.cell (qL w _ hx120_0)).trans hx120_0; replace hx120_1 := (HB.out.cell (qL w _ hx120_1)).trans hx120_1; replace p120 := eq_true p120; replace q120 := eq_true q120
                         try go_wp2
                         go_roundg k3
                         case measure => have := HK1.out; have := HK2.out; have := HK3.out; omega
                         case rel => exact ⟨(x5_3 ++ (((rdOf ByteArray.empty y114 t117) ++ ((rd_T57 ((rd_T38 ((rd_T53 l0_0 x4_1).f1) x6_2).f1) x8_3).f0)) ++ (⟨#[32, 58, 32, 73, 110, 116]⟩ : ByteArray))), (wrap64 (x8_3 + 1)), qa10, qa10, H', ⟨qa96⟩, ⟨qa86⟩, ⟨qa12⟩, ⟨qa53⟩, ⟨qa29⟩⟩
                       ·rw [if_neg c27] at H
                        exact absurd H qa79
                      ·rw [if_neg c26] at H
                       exact absurd H qa79
                     ·rw [if_neg c25] at H
                      exact absurd H qa79
                    ·rw [if_neg c24] at H
                     exact absurd H qa79
                   ·rw [if_neg c23] at H
                    exact absurd H qa79
                  ·rw [if_neg c22] at H
                   exact absurd H qa79
                 ·rw [if_neg c20] at H
                  have c20b0 : decide (x8_3 < (((rd_T38 ((rd_T53 l0_0 x4_1).f1) x6_2).f1).length : Int)) = false := decide_eq_false c20; clear c20
                  by_cases c49 : (((rd_T38 ((rd_T53 l0_0 x4_1).f1) x6_2).f1).length : Int) > 0
                  ·rw [if_pos c49] at H
                   have c49b0 : decide (0 < (((rd_T38 ((rd_T53 l0_0 x4_1).f1) x6_2).f1).length : Int)) = true := decide_eq_true c49; have c49b1 : decide (0 < ((rd_T38 ((rd_T53 l0_0 x4_1).f1) x6_2).f1).length) = true := decide_eq_true qa28; clear c49
                   by_cases c50 : x5_3.size + 2 ≤ 9223372036854775807
                   ·rw [if_pos c50] at H
                    have c50b0 := eq_true c50; have c50b1 : decide (x5_3.size + 2 ≤ 9223372036854775807) = true := decide_eq_true c50
                    try have c50b2 : (9223372036854775807 < x5_3.size + 2) = False := eq_false (Nat.not_lt.2 c50)
                    replace H := Option.bind_eq_some_iff.mp H; obtain ⟨t121, A510, H⟩ := H; replace H : (if 3 + t121.size ≤ 9223372036854775807 then (if (x5_3 ++ (⟨#[32, 41]⟩ : ByteArray)).size + ((⟨#[32, 58, 32]⟩ : ByteArray) ++ t121).size ≤ 9223372036854775807 then (spec_l03Print.l1 k3 x3_1 x4_1 ((x5_3 ++ (⟨#[32, 41]⟩ : ByteArray)) ++ ((⟨#[32, 58, 32]⟩ : ByteArray) ++ t121)) (wrap64 (x6_2 + 1)) l0_0) else (none)) else (none)) = some r := H; have A51 := qO A510; clear A510
                    by_cases c52 : 3 + t121.size ≤ 9223372036854775807
                    ·rw [if_pos c52] at H
                     have c52b0 := eq_true c52; have c52b1 : decide (3 + t121.size ≤ 9223372036854775807) = true := decide_eq_true c52
                     try have c52b2 : (9223372036854775807 < 3 + t121.size) = False := eq_false (Nat.not_lt.2 c52)
                     by_cases c53 : (x5_3 ++ (⟨#[32, 41]⟩ : ByteArray)).size + ((⟨#[32, 58, 32]⟩ : ByteArray) ++ t121).size ≤ 9223372036854775807
                     ·rw [if_pos c53] at H
                      have c53z : x5_3.size + 2 + (3 + t121.size) ≤ 9223372036854775807 := by (have h_ := c53; (repeat rw [ByteArray.size_append] at h_); exact h_)
                      have c53zt := eq_true c53z; have c53zf : (9223372036854775807 < x5_3.size + 2 + (3 + t121.size)) = False := eq_false (Nat.not_lt.2 c53z); have c53b0 := eq_true c53; have c53b1 : decide ((x5_3 ++ (⟨#[32, 41]⟩ : ByteArray)).size + ((⟨#[32, 58, 32]⟩ : ByteArray) ++ t121).size ≤ 9223372036854775807) = true := decide_eq_true c53
                      try have c53b2 : (9223372036854775807 < (x5_3 ++ (⟨#[32, 41]⟩ : ByteArray)).size + ((⟨#[32, 58, 32]⟩ : ByteArray) ++ t121).size) = False := eq_false (Nat.not_lt.2 c53)
                      have H' := qO H; clear H; have hnb54 := NB113_101.out; have hnc54 := NB101_113.out; have hcz55_0 : wr.cell? ⟨gb113, 0, none⟩ = some (.string ((rd_T38 ((rd_T53 l0_0 x4_1).f1) x6_2).f0)) := (blk_cell BK113.out 0).trans rfl; have hcz55_1 : wr.cell? ⟨gb113, 1, none⟩ = some (.slice A112_1 ((rd_T38 ((rd_T53 l0_0 x4_1).f1) x6_2).f1).length c112_1) := (blk_cell BK113.out 1).trans rfl; have hcz55_2 : wr.cell? ⟨gb113, 2, none⟩ = some (.string ((rd_T38 ((rd_T53 l0_0 x4_1).f1) x6_2).f2)) := (blk_cell BK113.out 2).trans rfl; have hcz55_3 : wr.cell? ⟨gb113, 3, none⟩ = some (.bool ((rd_T38 ((rd_T53 l0_0 x4_1).f1) x6_2).f3)) := (blk_cell BK113.out 3).trans rfl; have hcz55_4 : wr.cell? ⟨gb113, 4, none⟩ = some (.bool ((rd_T38 ((rd_T53 l0_0 x4_1).f1) x6_2).f4)) := (blk_cell BK113.out 4).trans rfl; have hfz55_0 := blk_frozen BK113.out 0; have hfz55_1 := blk_frozen BK113.out 1; have hfz55_2 := blk_frozen BK113.out 2; have hfz55_3 := blk_frozen BK113.out 3; have hfz55_4 := blk_frozen BK113.out 4
                      go_wp2_with (first | ((with_reducible refine gate_callee (f := 71) rfl ?_); refine goesL_ (some 89) rfl rfl Try.func71 qa16 rfl #[.agg #[.string ((rd_T38 ((rd_T53 l0_0 x4_1).f1) x6_2).f0), .slice A112_1 ((rd_T38 ((rd_T53 l0_0 x4_1).f1) x6_2).f1).length c112_1, .string ((rd_T38 ((rd_T53 l0_0 x4_1).f1) x6_2).f2), .bool ((rd_T38 ((rd_T53 l0_0 x4_1).f1) x6_2).f3), .bool ((rd_T38 ((rd_T53 l0_0 x4_1).f1) x6_2).f4)]] rfl qa1 ?_; (with_reducible refine (spec_l03Type.calls ((rd_T38 ((rd_T53 l0_0 x4_1).f1) x6_2).f0) _ _ ((rd_T38 ((rd_T53 l0_0 x4_1).f1) x6_2).f1) ((rd_T38 ((rd_T53 l0_0 x4_1).f1) x6_2).f2) ((rd_T38 ((rd_T53 l0_0 x4_1).f1) x6_2).f3) ((rd_T38 ((rd_T53 l0_0 x4_1).f1) x6_2).f4) t121 _ ?side1 ?side2 A51.out).mono ?_); (case side1 => exact qa95); (case side2 => exact HC112_1.out); rintro e w56 ⟨rfl, hb⟩; have hx_ := qHX HB hb qa0; refine ⟨_, rfl, ?_⟩; have n0_ := qO (Kd.R_below qa27 hb); have n1_ := qO (qB BK101.out hx_ hb); have n2_ := qO (blk_below (g := gb113) (o := .cells #[.string ((rd_T38 ((rd_T53 l0_0 x4_1).f1) x6_2).f0), .slice A112_1 ((rd_T38 ((rd_T53 l0_0 x4_1).f1) x6_2).f1).length c112_1, .string ((rd_T38 ((rd_T53 l0_0 x4_1).f1) x6_2).f2), .bool ((rd_T38 ((rd_T53 l0_0 x4_1).f1) x6_2).f3), .bool ((rd_T38 ((rd_T53 l0_0 x4_1).f1) x6_2).f4)] 38 (0, 0)) qa53 hb); have n3_ := qO (below_step (below_step HB.out hx_) hb); clear HO_3; clear BK101; clear BK113; clear HB; have HO_3 := n0_; have BK101 := n1_; have BK113 := n2_; have HB := n3_; clear n0_ n1_ n2_ n3_; clear hx_; (try clear hb); (try clear hb2); (try clear hk); (try clear hi)))
                      go_roundg k3
                      case measure => have := HK1.out; have := HK2.out; have := HK3.out; omega
                      case rel => exact ⟨((x5_3 ++ (⟨#[32, 41]⟩ : ByteArray)) ++ ((⟨#[32, 58, 32]⟩ : ByteArray) ++ t121)), (wrap64 (x6_2 + 1)), qa10, qa10, H', ⟨qa96⟩, ⟨qa27⟩, ⟨qa12⟩, ⟨qa29⟩⟩
                     ·rw [if_neg c53] at H
                      exact absurd H qa79
                    ·rw [if_neg c52] at H
                     exact absurd H qa79
                   ·rw [if_neg c50] at H
                    exact absurd H qa79
                  ·rw [if_neg c49] at H
                   have c49b0 : decide (0 < (((rd_T38 ((rd_T53 l0_0 x4_1).f1) x6_2).f1).length : Int)) = false := decide_eq_false c49; have c49b1 : decide (0 < ((rd_T38 ((rd_T53 l0_0 x4_1).f1) x6_2).f1).length) = false := decide_eq_false qa28; clear c49; replace H := Option.bind_eq_some_iff.mp H; obtain ⟨t122, A570, H⟩ := H; replace H : (if 3 + t122.size ≤ 9223372036854775807 then (if x5_3.size + ((⟨#[32, 58, 32]⟩ : ByteArray) ++ t122).size ≤ 9223372036854775807 then (spec_l03Print.l1 k3 x3_1 x4_1 (x5_3 ++ ((⟨#[32, 58, 32]⟩ : ByteArray) ++ t122)) (wrap64 (x6_2 + 1)) l0_0) else (none)) else (none)) = some r := H; have A57 := qO A570; clear A570
                   by_cases c58 : 3 + t122.size ≤ 9223372036854775807
                   ·rw [if_pos c58] at H
                    have c58b0 := eq_true c58; have c58b1 : decide (3 + t122.size ≤ 9223372036854775807) = true := decide_eq_true c58
                    try have c58b2 : (9223372036854775807 < 3 + t122.size) = False := eq_false (Nat.not_lt.2 c58)
                    by_cases c59 : x5_3.size + ((⟨#[32, 58, 32]⟩ : ByteArray) ++ t122).size ≤ 9223372036854775807
                    ·rw [if_pos c59] at H
                     have c59z : x5_3.size + (3 + t122.size) ≤ 9223372036854775807 := by (have h_ := c59; (repeat rw [ByteArray.size_append] at h_); exact h_)
                     have c59zt := eq_true c59z; have c59zf : (9223372036854775807 < x5_3.size + (3 + t122.size)) = False := eq_false (Nat.not_lt.2 c59z); have c59b0 := eq_true c59; have c59b1 : decide (x5_3.size + ((⟨#[32, 58, 32]⟩ : ByteArray) ++ t122).size ≤ 9223372036854775807) = true := decide_eq_true c59
                     try have c59b2 : (9223372036854775807 < x5_3.size + ((⟨#[32, 58, 32]⟩ : ByteArray) ++ t122).size) = False := eq_false (Nat.not_lt.2 c59)
                     have H' := qO H; clear H; have hnb60 := NB113_101.out; have hnc60 := NB101_113.out; have hcz61_0 : wr.cell? ⟨gb113, 0, none⟩ = some (.string ((rd_T38 ((rd_T53 l0_0 x4_1).f1) x6_2).f0)) := (blk_cell BK113.out 0).trans rfl; have hcz61_1 : wr.cell? ⟨gb113, 1, none⟩ = some (.slice A112_1 ((rd_T38 ((rd_T53 l0_0 x4_1).f1) x6_2).f1).length c112_1) := (blk_cell BK113.out 1).trans rfl; have hcz61_2 : wr.cell? ⟨gb113, 2, none⟩ = some (.string ((rd_T38 ((rd_T53 l0_0 x4_1).f1) x6_2).f2)) := (blk_cell BK113.out 2).trans rfl; have hcz61_3 : wr.cell? ⟨gb113, 3, none⟩ = some (.bool ((rd_T38 ((rd_T53 l0_0 x4_1).f1) x6_2).f3)) := (blk_cell BK113.out 3).trans rfl; have hcz61_4 : wr.cell? ⟨gb113, 4, none⟩ = some (.bool ((rd_T38 ((rd_T53 l0_0 x4_1).f1) x6_2).f4)) := (blk_cell BK113.out 4).trans rfl; have hfz61_0 := blk_frozen BK113.out 0; have hfz61_1 := blk_frozen BK113.out 1; have hfz61_2 := blk_frozen BK113.out 2; have hfz61_3 := blk_frozen BK113.out 3; have hfz61_4 := blk_frozen BK113.out 4
                     go_wp2_with (first | ((with_reducible refine gate_callee (f := 71) rfl ?_); refine goesL_ (some 89) rfl rfl Try.func71 qa16 rfl #[.agg #[.string ((rd_T38 ((rd_T53 l0_0 x4_1).f1) x6_2).f0), .slice A112_1 ((rd_T38 ((rd_T53 l0_0 x4_1).f1) x6_2).f1).length c112_1, .string ((rd_T38 ((rd_T53 l0_0 x4_1).f1) x6_2).f2), .bool ((rd_T38 ((rd_T53 l0_0 x4_1).f1) x6_2).f3), .bool ((rd_T38 ((rd_T53 l0_0 x4_1).f1) x6_2).f4)]] rfl qa1 ?_; (with_reducible refine (spec_l03Type.calls ((rd_T38 ((rd_T53 l0_0 x4_1).f1) x6_2).f0) _ _ ((rd_T38 ((rd_T53 l0_0 x4_1).f1) x6_2).f1) ((rd_T38 ((rd_T53 l0_0 x4_1).f1) x6_2).f2) ((rd_T38 ((rd_T53 l0_0 x4_1).f1) x6_2).f3) ((rd_T38 ((rd_T53 l0_0 x4_1).f1) x6_2).f4) t122 _ ?side1 ?side2 A57.out).mono ?_); (case side1 => exact qa95); (case side2 => exact HC112_1.out); rintro e w62 ⟨rfl, hb⟩; have hx_ := qHX HB hb qa0; refine ⟨_, rfl, ?_⟩; have n0_ := qO (Kd.R_below qa27 hb); have n1_ := qO (qB BK101.out hx_ hb); have n2_ := qO (blk_below (g := gb113) (o := .cells #[.string ((rd_T38 ((rd_T53 l0_0 x4_1).f1) x6_2).f0), .slice A112_1 ((rd_T38 ((rd_T53 l0_0 x4_1).f1) x6_2).f1).length c112_1, .string ((rd_T38 ((rd_T53 l0_0 x4_1).f1) x6_2).f2), .bool ((rd_T38 ((rd_T53 l0_0 x4_1).f1) x6_2).f3), .bool ((rd_T38 ((rd_T53 l0_0 x4_1).f1) x6_2).f4)] 38 (0, 0)) qa53 hb); have n3_ := qO (below_step (below_step HB.out hx_) hb); clear HO_3; clear BK101; clear BK113; clear HB; have HO_3 := n0_; have BK101 := n1_; have BK113 := n2_; have HB := n3_; clear n0_ n1_ n2_ n3_; clear hx_; (try clear hb); (try clear hb2); (try clear hk); (try clear hi)))
                     go_roundg k3
                     case measure => have := HK1.out; have := HK2.out; have := HK3.out; omega
                     case rel => exact ⟨(x5_3 ++ ((⟨#[32, 58, 32]⟩ : ByteArray) ++ t122)), (wrap64 (x6_2 + 1)), qa10, qa10, H', ⟨qa96⟩, ⟨qa27⟩, ⟨qa12⟩, ⟨qa29⟩⟩
                    ·rw [if_neg c59] at H
                     exact absurd H qa79
                   ·rw [if_neg c58] at H
                    exact absurd H qa79
              ·rw [if_neg c15] at H
               exact absurd H qa79
             ·rw [if_neg c14] at H
              exact absurd H qa79
            ·rw [if_neg c13] at H
             exact absurd H qa79
           ·rw [if_neg c12] at H
            have c12b0 : decide (x6_2 < (((rd_T53 l0_0 x4_1).f1).length : Int)) = false := decide_eq_false c12; clear c12
            by_cases c63 : x5_2.size + 2 ≤ 9223372036854775807
            ·rw [if_pos c63] at H
             have c63b0 := eq_true c63; have c63b1 : decide (x5_2.size + 2 ≤ 9223372036854775807) = true := decide_eq_true c63
             try have c63b2 : (9223372036854775807 < x5_2.size + 2) = False := eq_false (Nat.not_lt.2 c63)
             by_cases c64 : x3_1.length < 8796093022208
             ·rw [if_pos c64] at H
              have LMc64 := qO c64; clear c64; obtain ⟨y108, hy108⟩ : ∃ y_ : List ByteArray, y_ = (x3_1 ++ [x5_2 ++ (⟨#[32, 125]⟩ : ByteArray)]) := ⟨_, rfl⟩; replace H : (spec_l03Print.l0 k2 y108 (wrap64 (x4_1 + 1)) l0_0) = some r := by first | (rw [hy108]; with_reducible exact H) | (have H2_ := (Option.bind_some _ _).symm.trans H; rw [hy108]; with_reducible exact H2_) | (have H2_ := (Option.bind_some _ _).symm.trans H; with_reducible exact H2_) | with_reducible exact H | (rw [hy108]; exact H) | exact H
              have Ny108 := qO hy108; clear hy108; have H' := qO H; clear H; have hcz65_0 : wr.cell? ⟨gb101, 0, none⟩ = some (.slice (some ad106) l0_0.length c0_0) := (blk_cell BK101.out 0).trans rfl; have hfz65_0 := blk_frozen BK101.out 0; have p107 : 0 ≤ (x4_1 : Int) := qT qa4; have q107 : x4_1 < (l0_0.length : Int) := qT qa4; obtain ⟨ad107, A107_1, c107_1, e107, hx107_0, hx107_1, hl107_1, hi107_1⟩ := at_T53 HR0_0.out x4_1 p107 q107; obtain rfl : ad106 = ad107 := (by injection e107); replace hx107_0 := (HB.out.cell (qL w _ hx107_0)).trans hx107_0; replace hx107_1 := (HB.out.cell (qL w _ hx107_1)).trans hx107_1; have HR107_1 := qO hi107_1; have HC107_1 := qO hl107_1; clear hi107_1 hl107_1; replace p107 := eq_true p107; replace q107 := eq_true q107
              go_wp2_with (first | ((with_reducible refine gate_builtin (b := .append) (xs := #[.tmp 92, .tmp 95]) rfl ?_); at_builtin; refine Kd.R_append Kd.string (w0 := w) w.heap.size rfl (.tmp 92) (.tmp 95) 83 9 (.string ⟨#[]⟩) 16 rfl Try.underlying83 info9 rfl qa78 qa28 u3 x3_1 (x5_2 ++ (⟨#[32, 125]⟩ : ByteArray)) [.string (x5_2 ++ (⟨#[32, 125]⟩ : ByteArray))] (fun _ => True) (fun _ => False) rfl rfl ?aP (fun _ hk => hk.elim) ?aF ?aO ?aB ?aS ?aL ?_; (case aP => exact rfl); (case aB => exact (by repeat (first | (with_reducible first | exact HB.out | apply qbA | apply qbN | apply qbD | refine qbS ?_ GE101.out) | exact HB.out))); (case aF => exact (fun _ _ => trivial)); (case aO => exact (by (with_reducible repeat (first | apply Kd.R_alloc | apply Kd.R_drewN | apply Kd.R_drew)); exact HO_3.out)); (case aS => exact (below_size (by repeat (first | (with_reducible first | exact HB.out | apply qbA | apply qbN | apply qbD | refine qbS ?_ GE101.out) | exact HB.out)))); (case aL => have := LMc64.out; omega); intro v109 w66 ho hb hg hat; rw [← Ny108.out] at ho; have n0_ := qO (blk_grown (g := gb101) (o := .cells #[.slice (some ad106) l0_0.length c0_0] 29 (0, 0)) qa12 hg (Kd.R_ne HO_3.out BK101.out qa78)); have n1_ := qO (hb); have n2_ := qO (ho); clear BK101; clear HB; clear HO_3; have BK101 := n0_; have HB := n1_; have HO110 := n2_; clear n0_ n1_ n2_; clear ho hb hg hat))
              go_roundg k2
              case measure => have := HK1.out; have := HK2.out; omega
              case rel => exact ⟨(y108), (wrap64 (x4_1 + 1)), qa10, H', ⟨by have := HK1.out; have := HK2.out; omega⟩, ⟨qa40⟩, ⟨qa12⟩, ⟨qa9⟩⟩
             ·rw [if_neg c64] at H
              exact absurd H qa79
            ·rw [if_neg c63] at H
             exact absurd H qa79
          ·rw [if_neg c11] at H
           exact absurd H qa79
         ·rw [if_neg c10] at H
          exact absurd H qa79
      ·rw [if_neg c8] at H
       exact absurd H qa79
     ·rw [if_neg c7] at H
      exact absurd H qa79
    ·rw [if_neg c6] at H
     exact absurd H qa79
   ·rw [if_neg c5] at H
    have c5b0 : decide (x4_1 < (l0_0.length : Int)) = false := decide_eq_false c5; clear c5; replace H := Option.bind_eq_some_iff.mp H; obtain ⟨t105, A670, H⟩ := H; replace H : (some t105) = some r := H; have A67 := qO A670; clear A670; obtain rfl := Option.some.inj H; have hcz68_0 : wr.cell? ⟨gb101, 0, none⟩ = some (.slice A0_0 l0_0.length c0_0) := (blk_cell BK101.out 0).trans rfl; have hfz68_0 := blk_frozen BK101.out 0; obtain ⟨Ao69, co69, eo69⟩ := Kd.R_slice HO_3.out; subst eo69
    go_wp2_with (first | ((with_reducible refine gate_callee (f := 72) rfl ?_); refine goesL_ (some 98) rfl rfl Try.func72 qa16 rfl #[.slice Ao69 x3_1.length co69, .string (⟨#[32]⟩ : ByteArray)] rfl qa1 ?_; (with_reducible refine (spec_l00Join.calls k1 _ _ x3_1 (⟨#[32]⟩ : ByteArray) t105 _ ?side1 ?side2 A67.out).mono ?_); (case side1 => repeat (first | exact (Kd.R_reads' HO_3.out).2.2 | with_reducible first | refine Kd.C_alloc ?_ _ | refine Kd.C_drewN ?_ _ | refine Kd.C_drew ?_)); (case side2 => exact (Kd.R_reads' HO_3.out).2.1); rintro e w' ⟨rfl, ⟨nd, rfl⟩⟩; refine ⟨_, rfl, ?_⟩))
    go_ret
    exact ⟨qa3, qa9⟩


def spec_SameSchema.f (k : Nat) (l0_0 : List (S53)) (l1_0 : List (S53)) : Option (Bool) := (spec_SchemaOK.f k l0_0).bind fun t103 => (if t103 = true then ((spec_SchemaOK.f k l1_0).bind fun t104 => (if t104 = true then ((spec_l03Print.f k l0_0).bind fun t105 => ((spec_l03Print.f k l1_0).bind fun t106 => (some (t105.toList == t106.toList)))) else (some false))) else (some false))
def spec_SameSchema.T1 : Bool × List (List Nat × List Nat) := (true, [([], []), ([0], [0]), ([1, 1], [1]), ([2], [2]), ([3, 2, 2], [2, 3]), ([2, 4], [2, 4]), ([5, 4], [5]), ([6], [6]), ([7, 6, 6], [6, 7]), ([6], [6]), ([9, 8, 6], [6, 9]), ([8, 10, 6], [6, 8, 10]), ([6, 11], [6, 11]), ([12, 10, 0, 1, 2, 3, 4, 5, 6, 7, 8, 9, 10, 11, 12], [12])])
def spec_SameSchema.B1 : List Nat := [0, 1, 3, 7, 15, 31, 63, 127, 255, 127, 1023, 2047, 4095, 8191]
theorem spec_SameSchema.tab1 : rtab .any (opsOf Try.f21 1) = spec_SameSchema.T1 := by kernel_rfl
theorem spec_SameSchema.bits1 : waitsOk spec_SameSchema.T1.2 spec_SameSchema.B1 = true := by kernel_rfl
def spec_SameSchema.y0 : Array Bool := #[false, false, false, false, false, false, false, false, false, false, false, false, false, false]
def spec_SameSchema.y1 : Array Bool := #[true, false, false, false, false, false, false, false, false, false, false, false, false, false]
def spec_SameSchema.y2 : Array Bool := #[true, true, false, false, false, false, false, false, false, false, false, false, false, false]
def spec_SameSchema.y3 : Array Bool := #[true, true, true, false, false, false, false, false, false, false, false, false, false, false]
def spec_SameSchema.y4 : Array Bool := #[true, true, true, true, false, false, false, false, false, false, false, false, false, false]
def spec_SameSchema.y5 : Array Bool := #[true, true, true, true, true, false, false, false, false, false, false, false, false, false]
def spec_SameSchema.y6 : Array Bool := #[true, true, true, true, true, true, false, false, false, false, false, false, false, false]
def spec_SameSchema.y7 : Array Bool := #[true, true, true, true, true, true, true, false, false, false, false, false, false, false]
def spec_SameSchema.y8 : Array Bool := #[true, true, true, true, true, true, true, true, false, false, false, false, false, false]
def spec_SameSchema.y9 : Array Bool := #[true, true, true, true, true, true, true, true, false, true, false, false, false, false]
def spec_SameSchema.y10 : Array Bool := #[true, true, true, true, true, true, true, true, true, true, false, false, false, false]
def spec_SameSchema.y11 : Array Bool := #[true, true, true, true, true, true, true, true, true, true, true, false, false, false]
def spec_SameSchema.y12 : Array Bool := #[true, true, true, true, true, true, true, true, true, true, true, true, false, false]
def spec_SameSchema.y13 : Array Bool := #[true, true, true, true, true, true, true, true, true, true, true, true, true, false]
def spec_SameSchema.y14 : Array Bool := #[true, true, true, true, true, true, true, true, true, true, true, true, true, true]
def spec_SameSchema.y15 : Array Bool := #[true, true, true, true, true, true, true, true, true, false, false, false, false, false]
set_option maxHeartbeats 8000000 in
set_option maxRecDepth 100000 in
theorem spec_SameSchema.calls (k : Nat) (A0_0 : Option Addr) (c0_0 : Nat) (l0_0 : List (S53)) (A1_0 : Option Addr) (c1_0 : Nat) (l1_0 : List (S53)) (r : Bool) (w : World) (hr0_0 : Kd.C k53 w A0_0 l0_0.length l0_0) (hc0_0 : l0_0.length ≤ c0_0) (hr1_0 : Kd.C k53 w A1_0 l1_0.length l1_0) (hc1_0 : l1_0.length ≤ c1_0) (h : spec_SameSchema.f k l0_0 l1_0 = some r) :
  Calls Try.prog 21 #[.agg #[.slice A0_0 l0_0.length c0_0], .agg #[.slice A1_0 l1_0.length c1_0]] w fun e w' => e = .returned (.bool r) ∧ Below w.heap.size w w' := by
 have hu29 := Try.underlying29; have HR0_0 := qO hr0_0; have HC0_0 := qO hc0_0; clear hr0_0 hc0_0; have HR1_0 := qO hr1_0; have HC1_0 := qO hc1_0; clear hr1_0 hc1_0; have HB := qO (Below.refl w.heap.size w); have H : ((spec_SchemaOK.f k l0_0).bind fun t103 => (if t103 = true then ((spec_SchemaOK.f k l1_0).bind fun t104 => (if t104 = true then ((spec_l03Print.f k l0_0).bind fun t105 => ((spec_l03Print.f k l1_0).bind fun t106 => (some (t105.toList == t106.toList)))) else (some false))) else (some false))) = some r := h; clear h; replace H := Option.bind_eq_some_iff.mp H; obtain ⟨t103, A30, H⟩ := H; replace H : (if t103 = true then ((spec_SchemaOK.f k l1_0).bind fun t104 => (if t104 = true then ((spec_l03Print.f k l0_0).bind fun t105 => ((spec_l03Print.f k l1_0).bind fun t106 => (some (t105.toList == t106.toList)))) else (some false))) else (some false)) = some r := H; have A3 := qO A30; clear A30
 by_cases c4 : t103 = true
 ·subst c4
  have H1 : ((spec_SchemaOK.f k l1_0).bind fun t104 => (if t104 = true then ((spec_l03Print.f k l0_0).bind fun t105 => ((spec_l03Print.f k l1_0).bind fun t106 => (some (t105.toList == t106.toList)))) else (some false))) = some r := by rw [if_pos rfl] at H; exact H
  clear H; have H := H1; clear H1; replace H := Option.bind_eq_some_iff.mp H; obtain ⟨t104, A50, H⟩ := H; replace H : (if t104 = true then ((spec_l03Print.f k l0_0).bind fun t105 => ((spec_l03Print.f k l1_0).bind fun t106 => (some (t105.toList == t106.toList)))) else (some false)) = some r := H; have A5 := qO A50; clear A50
  by_cases c6 : t104 = true
  ·subst c6
   have H1 : ((spec_l03Print.f k l0_0).bind fun t105 => ((spec_l03Print.f k l1_0).bind fun t106 => (some (t105.toList == t106.toList)))) = some r := by rw [if_pos rfl] at H; exact H
   clear H; have H := H1; clear H1; replace H := Option.bind_eq_some_iff.mp H; obtain ⟨t105, A70, H⟩ := H; replace H : ((spec_l03Print.f k l1_0).bind fun t106 => (some (t105.toList == t106.toList))) = some r := H; have A7 := qO A70; clear A70; replace H := Option.bind_eq_some_iff.mp H; obtain ⟨t106, A80, H⟩ := H; replace H : (some (t105.toList == t106.toList)) = some r := H; have A8 := qO A80; clear A80; obtain rfl := Option.some.inj H
   go_enter Try.func21, Try.ntmps21
   try go_wp2_with (first | ((with_reducible refine gate_dst (N := 2) rfl ?_); refine box_event ?hg (N := 2) ?hd (cs := #[.slice A0_0 l0_0.length c0_0]) (t := 29) ?hr ?_; (case hd => rfl); (case hg => rfl); (case hr => exact qa18); intro gb101 hg w9 hbox hb; have hx_ := qHX HB hb qa0; have n0_ := qO (below_step (below_step HB.out hx_) hb); have n1_ := qO (hbox); have n2_ := qO ((qa11 : w.heap.size ≤ gb101)); have n3_ := n2_; clear HB; have HB := n0_; have BK101 := n1_; have GW101 := n2_; have GE101 := n3_; clear n0_ n1_ n2_ n3_; clear hx_; clear hb hbox hg) | ((with_reducible refine gate_dst (N := 3) rfl ?_); refine box_event ?hg (N := 3) ?hd (cs := #[.slice A1_0 l1_0.length c1_0]) (t := 29) ?hr ?_; (case hd => rfl); (case hg => rfl); (case hr => exact qa18); intro gb102 hg w10 hbox hb; have hx_ := qHX HB hb qa0; have n0_ := qO (qB BK101.out hx_ hb); have n1_ := qO (below_step (below_step HB.out hx_) hb); have n2_ := qO (hbox); have n3_ := qO ((qa11 : w.heap.size ≤ gb102)); have n4_ := n3_; have n5_ := qO ((qa23 : gb101 ≠ gb102)); have n6_ := qO (Ne.symm n5_.out); clear BK101; clear HB; have BK101 := n0_; have HB := n1_; have BK102 := n2_; have GW102 := n3_; have GE102 := n4_; have NB101_102 := n5_; have NB102_101 := n6_; clear n0_ n1_ n2_ n3_ n4_ n5_ n6_; clear hx_; clear hb hbox hg))
   have n0_ := qO (qkD BK101.out); have n1_ := qO (qkD BK102.out); have n2_ := qO (qbD HB.out); clear BK101; clear BK102; clear HB; have BK101 := n0_; have BK102 := n1_; have HB := n2_; clear n0_ n1_ n2_; refine start_ (n := 14) (S := fun w' => w'.cell? ⟨gb101, 0, none⟩ = some (.slice A0_0 l0_0.length c0_0) ∧ w'.cell? ⟨gb102, 0, none⟩ = some (.slice A1_0 l1_0.length c1_0)) (ds := []) spec_SameSchema.y0 qa16 rfl rfl ⟨(blk_cell BK101.out 0).trans rfl, (blk_cell BK102.out 0).trans rfl⟩ (fun hHeld => ?_); refine with_tabW spec_SameSchema.tab1 spec_SameSchema.bits1 (fun HT_ HW_ => ?_); generalize w10.drew = w11 at BK101 BK102 HB hHeld ⊢; refine take_ (i := 0) (N := some 5) (v := ?_) (a' := ?_) spec_SameSchema.y1 rfl rfl (take_ofW HT_.out HW_.out qa16) (fun _ _ _ h => h) (Or.inl ⟨by rfl, ?_⟩) hHeld ?_ ?_; rotate_left; exact qa74; rotate_left; exact qa5; refine one_ (i := 1) (N := some 6) spec_SameSchema.y2 rfl rfl (one_of HT_.out qa16) qa78 (fun K hK => ?_); refine goes_ Try.func9 qa16 rfl #[.agg #[.slice A0_0 l0_0.length c0_0]] (by rfl) rfl rfl qa1 ?_; (with_reducible refine (spec_SchemaOK.calls k _ _ l0_0 true _ ?side1 ?side2 A3.out).mono ?_); (case side1 => exact qa21); (case side2 => exact HC0_0.out); rintro e w12 ⟨rfl, hb⟩; have hx_ := qHX HB hb qa0; refine ⟨_, rfl, ?_⟩; have n0_ := qO (qB BK101.out hx_ hb); have n1_ := qO (qB BK102.out hx_ hb); have n2_ := qO (below_step (below_step HB.out hx_) hb); clear BK101; clear BK102; clear HB; have BK101 := n0_; have BK102 := n1_; have HB := n2_; clear n0_ n1_ n2_; clear hx_; (try clear hb); (try clear hb2); (try clear hk); (try clear hi); refine hK.out _ _ ⟨(blk_cell BK101.out 0).trans rfl, (blk_cell BK102.out 0).trans rfl⟩ (fun hHeld => ?_); clear hK K; refine norm_ (a' := ?_) ?_ ?_; rotate_left
   ·exact qa17
   refine pure_ (i := 2) (N := some 7) (v := ?_) (a' := ?_) spec_SameSchema.y3 rfl rfl (any_of HT_.out qa16) (fun _ _ _ h => h) (Or.inl ⟨by rfl, ?_⟩) ?_ ?_; rotate_left; exact qa19; rotate_left; exact qa5; refine take_ (i := 3) (N := some 8) (v := ?_) (a' := ?_) spec_SameSchema.y4 rfl rfl (take_ofW HT_.out HW_.out qa16) (fun _ _ _ h => h) (Or.inl ⟨by rfl, ?_⟩) hHeld ?_ ?_; rotate_left; exact qa74; rotate_left; exact qa5; refine one_ (i := 4) (N := some 9) spec_SameSchema.y5 rfl rfl (one_of HT_.out qa16) qa78 (fun K hK => ?_); refine goes_ Try.func9 qa16 rfl #[.agg #[.slice A1_0 l1_0.length c1_0]] (by rfl) rfl rfl qa1 ?_; (with_reducible refine (spec_SchemaOK.calls k _ _ l1_0 true _ ?side1 ?side2 A5.out).mono ?_); (case side1 => exact qa33); (case side2 => exact HC1_0.out); rintro e w13 ⟨rfl, hb⟩; have hx_ := qHX HB hb qa0; refine ⟨_, rfl, ?_⟩; have n0_ := qO (qB BK101.out hx_ hb); have n1_ := qO (qB BK102.out hx_ hb); have n2_ := qO (below_step (below_step HB.out hx_) hb); clear BK101; clear BK102; clear HB; have BK101 := n0_; have BK102 := n1_; have HB := n2_; clear n0_ n1_ n2_; clear hx_; (try clear hb); (try clear hb2); (try clear hk); (try clear hi); refine hK.out _ _ ⟨(blk_cell BK101.out 0).trans rfl, (blk_cell BK102.out 0).trans rfl⟩ (fun hHeld => ?_); clear hK K; refine norm_ (a' := ?_) ?_ ?_; rotate_left
   ·exact qa17
   refine pure_ (i := 5) (N := some 10) (v := ?_) (a' := ?_) spec_SameSchema.y6 rfl rfl (any_of HT_.out qa16) (fun _ _ _ h => h) (Or.inl ⟨by rfl, ?_⟩) ?_ ?_; rotate_left; exact qa19; rotate_left; exact qa5; refine pure_ (i := 6) (N := some 11) (v := ?_) (a' := ?_) spec_SameSchema.y7 rfl rfl (any_of HT_.out qa16) (fun _ _ _ h => h) (Or.inl ⟨by rfl, ?_⟩) ?_ ?_; rotate_left; exact qa19; rotate_left; exact qa5; refine take_ (i := 7) (N := some 12) (v := ?_) (a' := ?_) spec_SameSchema.y8 rfl rfl (take_ofW HT_.out HW_.out qa16) (fun _ _ _ h => h) (Or.inl ⟨by rfl, ?_⟩) hHeld ?_ ?_; rotate_left; exact qa74; rotate_left; exact qa5; refine take_ (i := 9) (N := some 14) (v := ?_) (a' := ?_) spec_SameSchema.y9 rfl rfl (take_ofW HT_.out HW_.out qa16) (fun _ _ _ h => h) (Or.inl ⟨by rfl, ?_⟩) hHeld ?_ ?_; rotate_left; exact qa74; rotate_left; exact qa5; refine one_ (i := 8) (N := some 13) spec_SameSchema.y10 rfl rfl (one_of HT_.out qa16) qa78 (fun K hK => ?_); refine goes_ Try.func45 qa16 rfl #[.agg #[.slice A0_0 l0_0.length c0_0]] (by rfl) rfl rfl qa1 ?_; (with_reducible refine (spec_l03Print.calls k _ _ l0_0 t105 _ ?side1 ?side2 A7.out).mono ?_); (case side1 => exact qa21); (case side2 => exact HC0_0.out); rintro e w14 ⟨rfl, hb⟩; have hx_ := qHX HB hb qa0; refine ⟨_, rfl, ?_⟩; have n0_ := qO (qB BK101.out hx_ hb); have n1_ := qO (qB BK102.out hx_ hb); have n2_ := qO (below_step (below_step HB.out hx_) hb); clear BK101; clear BK102; clear HB; have BK101 := n0_; have BK102 := n1_; have HB := n2_; clear n0_ n1_ n2_; clear hx_; (try clear hb); (try clear hb2); (try clear hk); (try clear hi); refine hK.out _ _ ⟨(blk_cell BK101.out 0).trans rfl, (blk_cell BK102.out 0).trans rfl⟩ (fun hHeld => ?_); clear hK K; refine norm_ (a' := ?_) ?_ ?_; rotate_left
   ·exact qa17
   refine one_ (i := 10) (N := some 15) spec_SameSchema.y11 rfl rfl (one_of HT_.out qa16) qa78 (fun K hK => ?_); refine goes_ Try.func45 qa16 rfl #[.agg #[.slice A1_0 l1_0.length c1_0]] (by rfl) rfl rfl qa1 ?_; (with_reducible refine (spec_l03Print.calls k _ _ l1_0 t106 _ ?side1 ?side2 A8.out).mono ?_); (case side1 => exact qa33); (case side2 => exact HC1_0.out); rintro e w15 ⟨rfl, hb⟩; have hx_ := qHX HB hb qa0; refine ⟨_, rfl, ?_⟩; have n0_ := qO (qB BK101.out hx_ hb); have n1_ := qO (qB BK102.out hx_ hb); have n2_ := qO (below_step (below_step HB.out hx_) hb); clear BK101; clear BK102; clear HB; have BK101 := n0_; have BK102 := n1_; have HB := n2_; clear n0_ n1_ n2_; clear hx_; (try clear hb); (try clear hb2); (try clear hk); (try clear hi); refine hK.out _ _ ⟨(blk_cell BK101.out 0).trans rfl, (blk_cell BK102.out 0).trans rfl⟩ (fun hHeld => ?_); clear hK K; refine norm_ (a' := ?_) ?_ ?_; rotate_left
   ·exact qa17
   refine pure_ (i := 11) (N := some 16) (v := ?_) (a' := ?_) spec_SameSchema.y12 rfl rfl (any_of HT_.out qa16) (fun _ _ _ h => h) (Or.inl ⟨by rfl, ?_⟩) ?_ ?_; rotate_left; exact qa19; rotate_left; exact qa5; refine pure_ (i := 12) (N := some 17) (v := ?_) (a' := ?_) spec_SameSchema.y13 rfl rfl (any_of HT_.out qa16) (fun _ _ _ h => h) (Or.inl ⟨by rfl, ?_⟩) ?_ ?_; rotate_left; exact qa19; rotate_left; exact qa5; refine pure_ (i := 13) (N := some 4) (v := ?_) (a' := ?_) spec_SameSchema.y14 rfl rfl (any_of HT_.out qa16) (fun _ _ _ h => h) (Or.inl ⟨by rfl, ?_⟩) ?_ ?_; rotate_left; exact qa19; rotate_left; exact qa5; refine done_ (done_of HT_.out qa16) ?_
   try go_wp2
   go_ret
   exact ⟨qa3, qa8⟩
  ·replace c6 := Bool.eq_false_iff.mpr c6
   subst c6; have H1 : (some false) = some r := by rw [if_neg (show ¬ (false = true) by decide)] at H; exact H
   clear H; have H := H1; clear H1; obtain rfl := Option.some.inj H
   go_enter Try.func21, Try.ntmps21
   try go_wp2_with (first | ((with_reducible refine gate_dst (N := 2) rfl ?_); refine box_event ?hg (N := 2) ?hd (cs := #[.slice A0_0 l0_0.length c0_0]) (t := 29) ?hr ?_; (case hd => rfl); (case hg => rfl); (case hr => exact qa18); intro gb101 hg w16 hbox hb; have hx_ := qHX HB hb qa0; have n0_ := qO (below_step (below_step HB.out hx_) hb); have n1_ := qO (hbox); have n2_ := qO ((qa11 : w.heap.size ≤ gb101)); have n3_ := n2_; clear HB; have HB := n0_; have BK101 := n1_; have GW101 := n2_; have GE101 := n3_; clear n0_ n1_ n2_ n3_; clear hx_; clear hb hbox hg) | ((with_reducible refine gate_dst (N := 3) rfl ?_); refine box_event ?hg (N := 3) ?hd (cs := #[.slice A1_0 l1_0.length c1_0]) (t := 29) ?hr ?_; (case hd => rfl); (case hg => rfl); (case hr => exact qa18); intro gb102 hg w17 hbox hb; have hx_ := qHX HB hb qa0; have n0_ := qO (qB BK101.out hx_ hb); have n1_ := qO (below_step (below_step HB.out hx_) hb); have n2_ := qO (hbox); have n3_ := qO ((qa11 : w.heap.size ≤ gb102)); have n4_ := n3_; have n5_ := qO ((qa23 : gb101 ≠ gb102)); have n6_ := qO (Ne.symm n5_.out); clear BK101; clear HB; have BK101 := n0_; have HB := n1_; have BK102 := n2_; have GW102 := n3_; have GE102 := n4_; have NB101_102 := n5_; have NB102_101 := n6_; clear n0_ n1_ n2_ n3_ n4_ n5_ n6_; clear hx_; clear hb hbox hg))
   have n0_ := qO (qkD BK101.out); have n1_ := qO (qkD BK102.out); have n2_ := qO (qbD HB.out); clear BK101; clear BK102; clear HB; have BK101 := n0_; have BK102 := n1_; have HB := n2_; clear n0_ n1_ n2_; refine start_ (n := 14) (S := fun w' => w'.cell? ⟨gb101, 0, none⟩ = some (.slice A0_0 l0_0.length c0_0) ∧ w'.cell? ⟨gb102, 0, none⟩ = some (.slice A1_0 l1_0.length c1_0)) (ds := []) spec_SameSchema.y0 qa16 rfl rfl ⟨(blk_cell BK101.out 0).trans rfl, (blk_cell BK102.out 0).trans rfl⟩ (fun hHeld => ?_); refine with_tabW spec_SameSchema.tab1 spec_SameSchema.bits1 (fun HT_ HW_ => ?_); generalize w17.drew = w18 at BK101 BK102 HB hHeld ⊢; refine take_ (i := 0) (N := some 5) (v := ?_) (a' := ?_) spec_SameSchema.y1 rfl rfl (take_ofW HT_.out HW_.out qa16) (fun _ _ _ h => h) (Or.inl ⟨by rfl, ?_⟩) hHeld ?_ ?_; rotate_left; exact qa74; rotate_left; exact qa5; refine one_ (i := 1) (N := some 6) spec_SameSchema.y2 rfl rfl (one_of HT_.out qa16) qa78 (fun K hK => ?_); refine goes_ Try.func9 qa16 rfl #[.agg #[.slice A0_0 l0_0.length c0_0]] (by rfl) rfl rfl qa1 ?_; (with_reducible refine (spec_SchemaOK.calls k _ _ l0_0 true _ ?side1 ?side2 A3.out).mono ?_); (case side1 => exact qa21); (case side2 => exact HC0_0.out); rintro e w19 ⟨rfl, hb⟩; have hx_ := qHX HB hb qa0; refine ⟨_, rfl, ?_⟩; have n0_ := qO (qB BK101.out hx_ hb); have n1_ := qO (qB BK102.out hx_ hb); have n2_ := qO (below_step (below_step HB.out hx_) hb); clear BK101; clear BK102; clear HB; have BK101 := n0_; have BK102 := n1_; have HB := n2_; clear n0_ n1_ n2_; clear hx_; (try clear hb); (try clear hb2); (try clear hk); (try clear hi); refine hK.out _ _ ⟨(blk_cell BK101.out 0).trans rfl, (blk_cell BK102.out 0).trans rfl⟩ (fun hHeld => ?_); clear hK K; refine norm_ (a' := ?_) ?_ ?_; rotate_left
   ·exact qa17
   refine pure_ (i := 2) (N := some 7) (v := ?_) (a' := ?_) spec_SameSchema.y3 rfl rfl (any_of HT_.out qa16) (fun _ _ _ h => h) (Or.inl ⟨by rfl, ?_⟩) ?_ ?_; rotate_left; exact qa19; rotate_left; exact qa5; refine take_ (i := 3) (N := some 8) (v := ?_) (a' := ?_) spec_SameSchema.y4 rfl rfl (take_ofW HT_.out HW_.out qa16) (fun _ _ _ h => h) (Or.inl ⟨by rfl, ?_⟩) hHeld ?_ ?_; rotate_left; exact qa74; rotate_left; exact qa5; refine one_ (i := 4) (N := some 9) spec_SameSchema.y5 rfl rfl (one_of HT_.out qa16) qa78 (fun K hK => ?_); refine goes_ Try.func9 qa16 rfl #[.agg #[.slice A1_0 l1_0.length c1_0]] (by rfl) rfl rfl qa1 ?_; (with_reducible refine (spec_SchemaOK.calls k _ _ l1_0 false _ ?side1 ?side2 A5.out).mono ?_); (case side1 => exact qa33); (case side2 => exact HC1_0.out); rintro e w20 ⟨rfl, hb⟩; have hx_ := qHX HB hb qa0; refine ⟨_, rfl, ?_⟩; have n0_ := qO (qB BK101.out hx_ hb); have n1_ := qO (qB BK102.out hx_ hb); have n2_ := qO (below_step (below_step HB.out hx_) hb); clear BK101; clear BK102; clear HB; have BK101 := n0_; have BK102 := n1_; have HB := n2_; clear n0_ n1_ n2_; clear hx_; (try clear hb); (try clear hb2); (try clear hk); (try clear hi); refine hK.out _ _ ⟨(blk_cell BK101.out 0).trans rfl, (blk_cell BK102.out 0).trans rfl⟩ (fun hHeld => ?_); clear hK K; refine norm_ (a' := ?_) ?_ ?_; rotate_left
   ·exact qa17
   refine pure_ (i := 5) (N := some 10) (v := ?_) (a' := ?_) spec_SameSchema.y6 rfl rfl (any_of HT_.out qa16) (fun _ _ _ h => h) (Or.inl ⟨by rfl, ?_⟩) ?_ ?_; rotate_left; exact qa19; rotate_left; exact qa5; refine pure_ (i := 6) (N := some 11) (v := ?_) (a' := ?_) spec_SameSchema.y7 rfl rfl (any_of HT_.out qa16) (fun _ _ _ h => h) (Or.inl ⟨by rfl, ?_⟩) ?_ ?_; rotate_left; exact qa19; rotate_left; exact qa5; refine pure_ (i := 7) (N := some 12) (v := undef) (a' := ?_) spec_SameSchema.y8 rfl rfl (any_of HT_.out qa16) (fun _ _ _ h => h) (Or.inr ⟨by rfl, rfl⟩) ?_ ?_; rotate_left
   ·simp only [Act.put, qzA, qzB, qzC, i64_w, i32_w]
    rfl
   refine pure_ (i := 8) (N := some 13) (v := undef) (a' := ?_) spec_SameSchema.y15 rfl rfl (any_of HT_.out qa16) (fun _ _ _ h => h) (Or.inr ⟨by rfl, rfl⟩) ?_ ?_; rotate_left
   ·simp only [Act.put, qzA, qzB, qzC, i64_w, i32_w]
    rfl
   refine pure_ (i := 9) (N := some 14) (v := undef) (a' := ?_) spec_SameSchema.y10 rfl rfl (any_of HT_.out qa16) (fun _ _ _ h => h) (Or.inr ⟨by rfl, rfl⟩) ?_ ?_; rotate_left
   ·simp only [Act.put, qzA, qzB, qzC, i64_w, i32_w]
    rfl
   refine pure_ (i := 10) (N := some 15) (v := undef) (a' := ?_) spec_SameSchema.y11 rfl rfl (any_of HT_.out qa16) (fun _ _ _ h => h) (Or.inr ⟨by rfl, rfl⟩) ?_ ?_; rotate_left
   ·simp only [Act.put, qzA, qzB, qzC, i64_w, i32_w]
    rfl
   refine pure_ (i := 11) (N := some 16) (v := undef) (a' := ?_) spec_SameSchema.y12 rfl rfl (any_of HT_.out qa16) (fun _ _ _ h => h) (Or.inr ⟨by rfl, rfl⟩) ?_ ?_; rotate_left
   ·simp only [Act.put, qzA, qzB, qzC, i64_w, i32_w]
    rfl
   refine pure_ (i := 12) (N := some 17) (v := ?_) (a' := ?_) spec_SameSchema.y13 rfl rfl (any_of HT_.out qa16) (fun _ _ _ h => h) (Or.inl ⟨by rfl, ?_⟩) ?_ ?_; rotate_left; exact qa19; rotate_left; exact qa5; refine pure_ (i := 13) (N := some 4) (v := ?_) (a' := ?_) spec_SameSchema.y14 rfl rfl (any_of HT_.out qa16) (fun _ _ _ h => h) (Or.inl ⟨by rfl, ?_⟩) ?_ ?_; rotate_left; exact qa19; rotate_left; exact qa5; refine done_ (done_of HT_.out qa16) ?_
   try go_wp2
   go_ret
   exact ⟨qa3, qa8⟩
 ·replace c4 := Bool.eq_false_iff.mpr c4
  subst c4; have H1 : (some false) = some r := by rw [if_neg (show ¬ (false = true) by decide)] at H; exact H
  clear H; have H := H1; clear H1; obtain rfl := Option.some.inj H
  go_enter Try.func21, Try.ntmps21
  try go_wp2_with (first | ((with_reducible refine gate_dst (N := 2) rfl ?_); refine box_event ?hg (N := 2) ?hd (cs := #[.slice A0_0 l0_0.length c0_0]) (t := 29) ?hr ?_; (case hd => rfl); (case hg => rfl); (case hr => exact qa18); intro gb101 hg w21 hbox hb; have hx_ := qHX HB hb qa0; have n0_ := qO (below_step (below_step HB.out hx_) hb); have n1_ := qO (hbox); have n2_ := qO ((qa11 : w.heap.size ≤ gb101)); have n3_ := n2_; clear HB; have HB := n0_; have BK101 := n1_; have GW101 := n2_; have GE101 := n3_; clear n0_ n1_ n2_ n3_; clear hx_; clear hb hbox hg) | ((with_reducible refine gate_dst (N := 3) rfl ?_); refine box_event ?hg (N := 3) ?hd (cs := #[.slice A1_0 l1_0.length c1_0]) (t := 29) ?hr ?_; (case hd => rfl); (case hg => rfl); (case hr => exact qa18); intro gb102 hg w22 hbox hb; have hx_ := qHX HB hb qa0; have n0_ := qO (qB BK101.out hx_ hb); have n1_ := qO (below_step (below_step HB.out hx_) hb); have n2_ := qO (hbox); have n3_ := qO ((qa11 : w.heap.size ≤ gb102)); have n4_ := n3_; have n5_ := qO ((qa23 : gb101 ≠ gb102)); have n6_ := qO (Ne.symm n5_.out); clear BK101; clear HB; have BK101 := n0_; have HB := n1_; have BK102 := n2_; have GW102 := n3_; have GE102 := n4_; have NB101_102 := n5_; have NB102_101 := n6_; clear n0_ n1_ n2_ n3_ n4_ n5_ n6_; clear hx_; clear hb hbox hg))
  have n0_ := qO (qkD BK101.out); have n1_ := qO (qkD BK102.out); have n2_ := qO (qbD HB.out); clear BK101; clear BK102; clear HB; have BK101 := n0_; have BK102 := n1_; have HB := n2_; clear n0_ n1_ n2_; refine start_ (n := 14) (S := fun w' => w'.cell? ⟨gb101, 0, none⟩ = some (.slice A0_0 l0_0.length c0_0)) (ds := []) spec_SameSchema.y0 qa16 rfl rfl ((blk_cell BK101.out 0).trans rfl) (fun hHeld => ?_); refine with_tabW spec_SameSchema.tab1 spec_SameSchema.bits1 (fun HT_ HW_ => ?_); generalize w22.drew = w23 at BK101 BK102 HB hHeld ⊢; refine take_ (i := 0) (N := some 5) (v := ?_) (a' := ?_) spec_SameSchema.y1 rfl rfl (take_ofW HT_.out HW_.out qa16) (fun _ _ _ h => h) (Or.inl ⟨by rfl, ?_⟩) hHeld ?_ ?_; rotate_left
  ·intro w' s0
   go_simp; (with_reducible rfl)
  rotate_left
  ·simp only [Act.put, qzA, qzB, qzC, i64_w, i32_w]
   rfl
  refine one_ (i := 1) (N := some 6) spec_SameSchema.y2 rfl rfl (one_of HT_.out qa16) qa78 (fun K hK => ?_); refine goes_ Try.func9 qa16 rfl #[.agg #[.slice A0_0 l0_0.length c0_0]] (by rfl) rfl rfl qa1 ?_; (with_reducible refine (spec_SchemaOK.calls k _ _ l0_0 false _ ?side1 ?side2 A3.out).mono ?_); (case side1 => exact qa21); (case side2 => exact HC0_0.out); rintro e w24 ⟨rfl, hb⟩; have hx_ := qHX HB hb qa0; refine ⟨_, rfl, ?_⟩; have n0_ := qO (qB BK101.out hx_ hb); have n1_ := qO (qB BK102.out hx_ hb); have n2_ := qO (below_step (below_step HB.out hx_) hb); clear BK101; clear BK102; clear HB; have BK101 := n0_; have BK102 := n1_; have HB := n2_; clear n0_ n1_ n2_; clear hx_; (try clear hb); (try clear hb2); (try clear hk); (try clear hi); refine hK.out _ _ ((blk_cell BK101.out 0).trans rfl) (fun hHeld => ?_); clear hK K; refine norm_ (a' := ?_) ?_ ?_; rotate_left
  ·exact qa17
  refine pure_ (i := 2) (N := some 7) (v := ?_) (a' := ?_) spec_SameSchema.y3 rfl rfl (any_of HT_.out qa16) (fun _ _ _ h => h) (Or.inl ⟨by rfl, ?_⟩) ?_ ?_; rotate_left; exact qa19; rotate_left; exact qa5; refine pure_ (i := 3) (N := some 8) (v := undef) (a' := ?_) spec_SameSchema.y4 rfl rfl (any_of HT_.out qa16) (fun _ _ _ h => h) (Or.inr ⟨by rfl, rfl⟩) ?_ ?_; rotate_left
  ·simp only [Act.put, qzA, qzB, qzC, i64_w, i32_w]
   rfl
  refine pure_ (i := 4) (N := some 9) (v := undef) (a' := ?_) spec_SameSchema.y5 rfl rfl (any_of HT_.out qa16) (fun _ _ _ h => h) (Or.inr ⟨by rfl, rfl⟩) ?_ ?_; rotate_left
  ·simp only [Act.put, qzA, qzB, qzC, i64_w, i32_w]
   rfl
  refine pure_ (i := 5) (N := some 10) (v := ?_) (a' := ?_) spec_SameSchema.y6 rfl rfl (any_of HT_.out qa16) (fun _ _ _ h => h) (Or.inl ⟨by rfl, ?_⟩) ?_ ?_; rotate_left; exact qa19; rotate_left; exact qa5; refine pure_ (i := 6) (N := some 11) (v := ?_) (a' := ?_) spec_SameSchema.y7 rfl rfl (any_of HT_.out qa16) (fun _ _ _ h => h) (Or.inl ⟨by rfl, ?_⟩) ?_ ?_; rotate_left; exact qa19; rotate_left; exact qa5; refine pure_ (i := 7) (N := some 12) (v := undef) (a' := ?_) spec_SameSchema.y8 rfl rfl (any_of HT_.out qa16) (fun _ _ _ h => h) (Or.inr ⟨by rfl, rfl⟩) ?_ ?_; rotate_left
  ·simp only [Act.put, qzA, qzB, qzC, i64_w, i32_w]
   rfl
  refine pure_ (i := 8) (N := some 13) (v := undef) (a' := ?_) spec_SameSchema.y15 rfl rfl (any_of HT_.out qa16) (fun _ _ _ h => h) (Or.inr ⟨by rfl, rfl⟩) ?_ ?_; rotate_left
  ·simp only [Act.put, qzA, qzB, qzC, i64_w, i32_w]
   rfl
  refine pure_ (i := 9) (N := some 14) (v := undef) (a' := ?_) spec_SameSchema.y10 rfl rfl (any_of HT_.out qa16) (fun _ _ _ h => h) (Or.inr ⟨by rfl, rfl⟩) ?_ ?_; rotate_left
  ·simp only [Act.put, qzA, qzB, qzC, i64_w, i32_w]
   rfl
  refine pure_ (i := 10) (N := some 15) (v := undef) (a' := ?_) spec_SameSchema.y11 rfl rfl (any_of HT_.out qa16) (fun _ _ _ h => h) (Or.inr ⟨by rfl, rfl⟩) ?_ ?_; rotate_left
  ·simp only [Act.put, qzA, qzB, qzC, i64_w, i32_w]
   rfl
  refine pure_ (i := 11) (N := some 16) (v := undef) (a' := ?_) spec_SameSchema.y12 rfl rfl (any_of HT_.out qa16) (fun _ _ _ h => h) (Or.inr ⟨by rfl, rfl⟩) ?_ ?_; rotate_left
  ·simp only [Act.put, qzA, qzB, qzC, i64_w, i32_w]
   rfl
  refine pure_ (i := 12) (N := some 17) (v := ?_) (a' := ?_) spec_SameSchema.y13 rfl rfl (any_of HT_.out qa16) (fun _ _ _ h => h) (Or.inl ⟨by rfl, ?_⟩) ?_ ?_; rotate_left; exact qa19; rotate_left; exact qa5; refine pure_ (i := 13) (N := some 4) (v := ?_) (a' := ?_) spec_SameSchema.y14 rfl rfl (any_of HT_.out qa16) (fun _ _ _ h => h) (Or.inl ⟨by rfl, ?_⟩) ?_ ?_; rotate_left; exact qa19; rotate_left; exact qa5; refine done_ (done_of HT_.out qa16) ?_
  try go_wp2
  go_ret
  exact ⟨qa3, qa8⟩


def impl_within.f (a0 : Int) (a1 : Int) (a2 : Int) : Option (Bool) := if a0 ≥ a1 then (some (decide (a0 ≤ a2))) else (some false)
set_option maxHeartbeats 8000000 in
set_option maxRecDepth 100000 in
theorem impl_within.calls (a0 : Int) (a1 : Int) (a2 : Int) (r : Bool) (w : World) (h : impl_within.f a0 a1 a2 = some r) :
  Calls Try.prog 33 #[.int .i64 a0, .int .i64 a1, .int .i64 a2] w fun e w' => e = .returned (.bool r) ∧ Drawn0 w w' := by
 have H : (if a0 ≥ a1 then (some (decide (a0 ≤ a2))) else (some false)) = some r := h; clear h
 by_cases c4 : a0 ≥ a1
 ·rw [if_pos c4] at H
  have c4b0 : decide (a1 ≤ a0) = true := decide_eq_true c4; clear c4; obtain rfl := Option.some.inj H
  go_enter Try.func33, Try.ntmps33
  go_wp2
  go_ret
  exact ⟨qa10, qa25⟩
 ·rw [if_neg c4] at H
  have c4b0 : decide (a1 ≤ a0) = false := decide_eq_false c4; clear c4; obtain rfl := Option.some.inj H
  go_enter Try.func33, Try.ntmps33
  go_wp2
  go_ret
  exact ⟨qa10, qa25⟩


/-- The first place at which p holds, or -1. -/
def impl_TypeDef_57.fp (p : (S53) → Bool) (l0 : List (S53)) : Int := match l0.findIdx? p with | some i => (i : Int) | none => -1
theorem impl_TypeDef_57.hit (p : (S53) → Bool) (l0 : List (S53)) (kk : Nat) (x : (S53)) (hx : l0[kk]? = some x) (hp : p x = true) (hno : ∀ j, j < kk → ∀ x, l0[j]? = some x → p x = false) : impl_TypeDef_57.fp p l0 = kk := by
 unfold impl_TypeDef_57.fp
 have h : l0.findIdx? p = some kk := by
  rw [List.findIdx?_eq_some_iff_getElem]; obtain ⟨hl, he⟩ := List.getElem?_eq_some_iff.1 hx
  exact ⟨hl, by rw [he]; exact hp, fun j hj => by rw [hno j hj _ (List.getElem?_eq_getElem (Nat.lt_trans hj hl))]; simp⟩
 rw [h]
theorem impl_TypeDef_57.miss (p : (S53) → Bool) (l0 : List (S53)) (hno : ∀ j, j < l0.length → ∀ x, l0[j]? = some x → p x = false) : impl_TypeDef_57.fp p l0 = -1 := by
 unfold impl_TypeDef_57.fp
 have h : l0.findIdx? p = none := by
  rw [List.findIdx?_eq_none_iff]; intro x hx; obtain ⟨j, hj⟩ := List.getElem?_of_mem hx
  exact hno j (List.getElem?_eq_some_iff.1 hj).1 x hj
 rw [h]
set_option maxHeartbeats 4000000 in
set_option maxRecDepth 100000 in
theorem impl_TypeDef_57.callsP (A0 : Option Addr) (c0 : Nat) (l0 : List (S53)) (g : Nat) (cb : Array Value) (p : (S53) → Bool) (w : World) (eg : ∀ args w, (callFunc g args).run Try.prog w = .ok (.enter g args) w) (hr0 : Kd.C k53 w A0 l0.length l0)
  (hp : ∀ (W : World) (x : (S53)) (E1 : Option Addr) (e1 : Nat), x ∈ l0 → Below w.heap.size w W → Calls Try.prog g (#[.agg #[.string x.f0, .slice E1 x.f1.length e1]] ++ cb) W fun e w' => e = .returned (.bool (p x)) ∧ Below w.heap.size w w') :
  Calls Try.prog 57 #[.slice A0 l0.length c0, .func (.func g) #[] cb] w fun e w' => e = .returned (.int .i64 (impl_TypeDef_57.fp p l0)) ∧ Below w.heap.size w w' := by
 have hlen := hr0.2.1; have HR := qO hr0; have HP := qO hp; clear hr0 hp; have isagg := Try.isAgg53
 go_enter Try.func57, Try.ntmps57
 go_wp2
 go_loopg [5, 8] l0.length (fun gg _ s8 wr => ∃ kk : Nat, kk ≤ l0.length ∧ l0.length - kk ≤ gg ∧ s8 = .int .i64 kk ∧ Aside0 (Below w.heap.size w wr) ∧ Aside0 (∀ j, j < kk → ∀ x, l0[j]? = some x → p x = false))
 case atStart => exact ⟨0, Nat.zero_le _, qa28, rfl, ⟨Below.refl _ w⟩, ⟨fun j hj => absurd hj (Nat.not_lt_zero _)⟩⟩
 case round =>
  obtain ⟨kk, hkk, hg, rfl, BW, No⟩ := hrel
  by_cases hlt : kk < l0.length
  ·have hltz : (kk : Int) < (l0.length : Int) := by omega
   obtain ⟨ad, E1, e1, e, hx0, hx1, hl1, hi1⟩ := at_T53 HR.out (kk : Int) qa28 hltz
   cases e
   replace hx0 := (BW.out.cell (qL w _ hx0)).trans hx0; replace hx1 := (BW.out.cell (qL w _ hx1)).trans hx1; simp only [Int.toNat_natCast] at hx0; simp only [Int.toNat_natCast] at hx1
   have hx : l0[kk]? = some (rd_T53 l0 (kk : Int)) := by
    rw [List.getElem?_eq_getElem hlt]
    show some l0[kk] = some (l0.getD (kk : Int).toNat _)
    rw [Int.toNat_natCast, List.getD_eq_getElem?_getD, List.getElem?_eq_getElem hlt]
    rfl
   clear hl1 hi1; have hcall := HP.out wr (rd_T53 l0 (kk : Int)) E1 e1 (List.mem_of_getElem? hx) BW.out; have HX := qO hx; clear hx; generalize rd_T53 l0 (kk : Int) = x at hcall HX hx0 hx1
   cases hq : p x with
   | true =>
    have HQ := qO hq; rw [hq] at hcall; clear hq
    go_wp2_with (go_at_fn g; refine hcall.mono ?_; rintro e w' ⟨rfl, hb'⟩)
    go_ret
    exact ⟨by rw [impl_TypeDef_57.hit p l0 kk x HX.out HQ.out No.out]; rfl, hb'⟩
   | false =>
    have HQ := qO hq; rw [hq] at hcall; clear hq
    go_wp2_with (go_at_fn g; refine hcall.mono ?_; rintro e w' ⟨rfl, hb'⟩)
    go_roundg (l0.length - (kk + 1))
    case measure => omega
    case rel =>
     refine ⟨kk + 1, qa28, qa28, by go_num, ⟨hb'⟩, ⟨fun j hj x' hx' => ?_⟩⟩
     by_cases e : j = kk
     ·subst e
      rw [HX.out] at hx'; obtain rfl := Option.some.inj hx'
      exact HQ.out
     ·exact No.out j qa28 x' hx'
  ·have hltz : ¬ (kk : Int) < (l0.length : Int) := by omega
   have hk : kk = l0.length := by omega
   have HK := qO hk; clear hk; go_wp2
   go_ret
   exact ⟨by rw [impl_TypeDef_57.miss p l0 (fun j hj => No.out j (by rw [HK.out]; exact hj))]; rfl, BW.out⟩


set_option maxHeartbeats 4000000 in
set_option maxRecDepth 100000 in
theorem impl_Schema_typeAt_1.callsQ (x : S53) (E1 : Option Addr) (e1 : Nat) (gs : Nat) (y0 : ByteArray) (w : World) (hs : w.heap[gs]? = some (.cells #[.string y0] 9 (0, 0))) :
  Calls Try.prog 58 #[.agg #[.string x.f0, .slice E1 x.f1.length e1], .pointer (some ⟨gs, 0, none⟩)] w fun e w' => e = .returned (.bool (x.f0.toList == y0.toList)) ∧ Below w.heap.size w w' := by
 have hu := Try.underlying53; have HS := qO hs; clear hs
 go_enter Try.func58, Try.ntmps58
 go_wp2_with (first | ((with_reducible refine gate_dst (N := 2) rfl ?_); refine box_event ?hg (N := 2) ?hd (cs := #[.string x.f0, .slice E1 x.f1.length e1]) (t := 53) ?hr ?_; (case hd => rfl); (case hg => rfl); (case hr => exact qa18); intro gb hg w1 hbox hb; have K1 := qO (blk_below (g := gs) HS.out hb); have B1 := qO hb; have hcz0 : w1.cell? ⟨gb, 0, none⟩ = some (.string x.f0) := (blk_cell hbox 0).trans rfl; have hcz1 : w1.cell? ⟨gb, 1, none⟩ = some (.slice E1 x.f1.length e1) := (blk_cell hbox 1).trans rfl; have hcw0 : w1.cell? ⟨gs, 0, none⟩ = some (.string y0) := (blk_cell K1.out 0).trans rfl; clear hg hb hbox))
 go_ret
 exact ⟨rfl, B1.out⟩
def clo57_58.f (l0 : List (S53)) (a1_0 : ByteArray) : Option Int := some (impl_TypeDef_57.fp (fun x => (x.f0.toList == a1_0.toList)) l0)
theorem clo57_58.calls (A0 : Option Addr) (c0 : Nat) (l0 : List (S53)) (a1_0 : ByteArray) (r : Int) (w : World) (hr0 : Kd.C k53 w A0 l0.length l0) (hc0 : l0.length ≤ c0) (h : clo57_58.f l0 a1_0 = some r) (gs : Nat) (hs : w.heap[gs]? = some (.cells #[.string a1_0] 9 (0, 0))) :
  Calls Try.prog 57 #[.slice A0 l0.length c0, .func (.func 58) #[] #[.pointer (some ⟨gs, 0, none⟩)]] w fun e w' => e = .returned (.int .i64 r) ∧ Below w.heap.size w w' := by
 obtain rfl := Option.some.inj h; have eg : ∀ args w, (callFunc 58 args).run Try.prog w = .ok (.enter 58 args) w := enters_of Try.func58 qa16 rfl
 exact impl_TypeDef_57.callsP A0 c0 l0 58 #[.pointer (some ⟨gs, 0, none⟩)] (fun x => (x.f0.toList == a1_0.toList)) w eg hr0 (fun W x E1 e1 _ hb => (impl_Schema_typeAt_1.callsQ x E1 e1 gs a1_0 W (blk_below hs hb)).mono qa100)
def impl_Schema_typeAt.f (l0_0 : List (S53)) (a1 : ByteArray) : Option (Int) := (clo57_58.f l0_0 a1).bind fun t103 => (some t103)
set_option maxHeartbeats 8000000 in
set_option maxRecDepth 100000 in
theorem impl_Schema_typeAt.calls (A0_0 : Option Addr) (c0_0 : Nat) (l0_0 : List (S53)) (a1 : ByteArray) (r : Int) (w : World) (hr0_0 : Kd.C k53 w A0_0 l0_0.length l0_0) (hc0_0 : l0_0.length ≤ c0_0) (h : impl_Schema_typeAt.f l0_0 a1 = some r) :
  Calls Try.prog 34 #[.agg #[.slice A0_0 l0_0.length c0_0], .string a1] w fun e w' => e = .returned (.int .i64 r) ∧ Below w.heap.size w w' := by
 have hu29 := Try.underlying29; have hu9 := Try.underlying9; have HR0_0 := qO hr0_0; have HC0_0 := qO hc0_0; clear hr0_0 hc0_0; have HB := qO (Below.refl w.heap.size w); have H : ((clo57_58.f l0_0 a1).bind fun t103 => (some t103)) = some r := h; clear h; replace H := Option.bind_eq_some_iff.mp H; obtain ⟨t103, A30, H⟩ := H; replace H : (some t103) = some r := H; have A3 := qO A30; clear A30; obtain rfl := Option.some.inj H
 go_enter Try.func34, Try.ntmps34
 go_wp2_with (first | ((with_reducible refine gate_dst (N := 2) rfl ?_); refine box_event ?hg (N := 2) ?hd (cs := #[.slice A0_0 l0_0.length c0_0]) (t := 29) ?hr ?_; (case hd => rfl); (case hg => rfl); (case hr => exact qa18); intro gb101 hg w4 hbox hb; have hx_ := qHX HB hb qa0; have n0_ := qO (below_step (below_step HB.out hx_) hb); have n1_ := qO (hbox); have n2_ := qO ((qa11 : w.heap.size ≤ gb101)); have n3_ := n2_; clear HB; have HB := n0_; have BK101 := n1_; have GW101 := n2_; have GE101 := n3_; clear n0_ n1_ n2_ n3_; clear hx_; clear hb hbox hg) | ((with_reducible refine gate_dst (N := 3) rfl ?_); refine box_event ?hg (N := 3) ?hd (cs := #[.string a1]) (t := 9) ?hr ?_; (case hd => rfl); (case hg => rfl); (case hr => exact qa18); intro gb102 hg w5 hbox hb; have hx_ := qHX HB hb qa0; have n0_ := qO (qB BK101.out hx_ hb); have n1_ := qO (below_step (below_step HB.out hx_) hb); have n2_ := qO (hbox); have n3_ := qO ((qa11 : w.heap.size ≤ gb102)); have n4_ := n3_; have n5_ := qO ((qa23 : gb101 ≠ gb102)); have n6_ := qO (Ne.symm n5_.out); clear BK101; clear HB; have BK101 := n0_; have HB := n1_; have BK102 := n2_; have GW102 := n3_; have GE102 := n4_; have NB101_102 := n5_; have NB102_101 := n6_; clear n0_ n1_ n2_ n3_ n4_ n5_ n6_; clear hx_; clear hb hbox hg; have hnb6 := NB101_102.out; have hnc6 := NB102_101.out; have hcz7_0 : w5.cell? ⟨gb101, 0, none⟩ = some (.slice A0_0 l0_0.length c0_0) := (blk_cell BK101.out 0).trans rfl; have hfz7_0 := blk_frozen BK101.out 0; have hcz8_0 : w5.cell? ⟨gb102, 0, none⟩ = some (.string a1) := (blk_cell BK102.out 0).trans rfl; have hfz8_0 := blk_frozen BK102.out 0) | ((with_reducible refine gate_callee (f := 57) rfl ?_); refine goesL_ (some 8) rfl rfl Try.func57 qa16 rfl #[.slice A0_0 l0_0.length c0_0, .func (.func 58) #[] #[.pointer (some ⟨gb102, 0, none⟩)]] rfl qa1 ?_; (with_reducible refine (clo57_58.calls _ _ l0_0 a1 t103 _ ?side1 ?side2 A3.out gb102 qa43).mono ?_); (case side1 => exact qa21); (case side2 => exact HC0_0.out); rintro e w9 ⟨rfl, hb⟩; have hx_ := qHX HB hb qa0; refine ⟨_, rfl, ?_⟩; have n0_ := qO (qB BK101.out hx_ hb); have n1_ := qO (qB BK102.out hx_ hb); have n2_ := qO (below_step (below_step HB.out hx_) hb); clear BK101; clear BK102; clear HB; have BK101 := n0_; have BK102 := n1_; have HB := n2_; clear n0_ n1_ n2_; clear hx_; (try clear hb); (try clear hb2); (try clear hk); (try clear hi)))
 go_ret
 exact ⟨qa3, qa8⟩


def impl_isLetter.f (a0 : Int) : Option (Bool) := if a0 ≥ 97 then (if a0 ≤ 122 then (some true) else (if a0 ≥ 65 then (if a0 ≤ 90 then (some true) else (some (a0 == 95))) else (some (a0 == 95)))) else (if a0 ≥ 65 then (if a0 ≤ 90 then (some true) else (some (a0 == 95))) else (some (a0 == 95)))
set_option maxHeartbeats 8000000 in
set_option maxRecDepth 100000 in
theorem impl_isLetter.calls (a0 : Int) (r : Bool) (w : World) (h : impl_isLetter.f a0 = some r) :
  Calls Try.prog 59 #[.int .u8 a0] w fun e w' => e = .returned (.bool r) ∧ Drawn0 w w' := by
 have H : (if a0 ≥ 97 then (if a0 ≤ 122 then (some true) else (if a0 ≥ 65 then (if a0 ≤ 90 then (some true) else (some (a0 == 95))) else (some (a0 == 95)))) else (if a0 ≥ 65 then (if a0 ≤ 90 then (some true) else (some (a0 == 95))) else (some (a0 == 95)))) = some r := h; clear h
 by_cases c2 : a0 ≥ 97
 ·rw [if_pos c2] at H
  have c2b0 : decide (97 ≤ a0) = true := decide_eq_true c2; clear c2
  by_cases c3 : a0 ≤ 122
  ·rw [if_pos c3] at H
   have c3b0 : decide (a0 ≤ 122) = true := decide_eq_true c3; clear c3; obtain rfl := Option.some.inj H
   go_enter Try.func59, Try.ntmps59
   go_wp2
   go_ret
   exact ⟨qa10, qa25⟩
  ·rw [if_neg c3] at H
   have c3b0 : decide (a0 ≤ 122) = false := decide_eq_false c3; clear c3
   by_cases c4 : a0 ≥ 65
   ·rw [if_pos c4] at H
    have c4b0 : decide (65 ≤ a0) = true := decide_eq_true c4; clear c4
    by_cases c5 : a0 ≤ 90
    ·rw [if_pos c5] at H
     have c5b0 : decide (a0 ≤ 90) = true := decide_eq_true c5; clear c5; obtain rfl := Option.some.inj H
     go_enter Try.func59, Try.ntmps59
     go_wp2
     go_ret
     exact ⟨qa10, qa25⟩
    ·rw [if_neg c5] at H
     have c5b0 : decide (a0 ≤ 90) = false := decide_eq_false c5; clear c5; obtain rfl := Option.some.inj H
     go_enter Try.func59, Try.ntmps59
     go_wp2
     go_ret
     exact ⟨qa10, qa25⟩
   ·rw [if_neg c4] at H
    have c4b0 : decide (65 ≤ a0) = false := decide_eq_false c4; clear c4; obtain rfl := Option.some.inj H
    go_enter Try.func59, Try.ntmps59
    go_wp2
    go_ret
    exact ⟨qa10, qa25⟩
 ·rw [if_neg c2] at H
  have c2b0 : decide (97 ≤ a0) = false := decide_eq_false c2; clear c2
  by_cases c6 : a0 ≥ 65
  ·rw [if_pos c6] at H
   have c6b0 : decide (65 ≤ a0) = true := decide_eq_true c6; clear c6
   by_cases c7 : a0 ≤ 90
   ·rw [if_pos c7] at H
    have c7b0 : decide (a0 ≤ 90) = true := decide_eq_true c7; clear c7; obtain rfl := Option.some.inj H
    go_enter Try.func59, Try.ntmps59
    go_wp2
    go_ret
    exact ⟨qa10, qa25⟩
   ·rw [if_neg c7] at H
    have c7b0 : decide (a0 ≤ 90) = false := decide_eq_false c7; clear c7; obtain rfl := Option.some.inj H
    go_enter Try.func59, Try.ntmps59
    go_wp2
    go_ret
    exact ⟨qa10, qa25⟩
  ·rw [if_neg c6] at H
   have c6b0 : decide (65 ≤ a0) = false := decide_eq_false c6; clear c6; obtain rfl := Option.some.inj H
   go_enter Try.func59, Try.ntmps59
   go_wp2
   go_ret
   exact ⟨qa10, qa25⟩


def impl_isDigit.f (a0 : Int) : Option (Bool) := if a0 ≥ 48 then (some (decide (a0 ≤ 57))) else (some false)
set_option maxHeartbeats 8000000 in
set_option maxRecDepth 100000 in
theorem impl_isDigit.calls (a0 : Int) (r : Bool) (w : World) (h : impl_isDigit.f a0 = some r) :
  Calls Try.prog 60 #[.int .u8 a0] w fun e w' => e = .returned (.bool r) ∧ Drawn0 w w' := by
 have H : (if a0 ≥ 48 then (some (decide (a0 ≤ 57))) else (some false)) = some r := h; clear h
 by_cases c2 : a0 ≥ 48
 ·rw [if_pos c2] at H
  have c2b0 : decide (48 ≤ a0) = true := decide_eq_true c2; clear c2; obtain rfl := Option.some.inj H
  go_enter Try.func60, Try.ntmps60
  go_wp2
  go_ret
  exact ⟨qa10, qa25⟩
 ·rw [if_neg c2] at H
  have c2b0 : decide (48 ≤ a0) = false := decide_eq_false c2; clear c2; obtain rfl := Option.some.inj H
  go_enter Try.func60, Try.ntmps60
  go_wp2
  go_ret
  exact ⟨qa10, qa25⟩


def impl_NameOK.l0 : Nat → ByteArray → Int → Int → Option (Bool)
 | 0, _, _, _ => none
 | k + 1, x0, x5, x6 => if x6 < x5 then (if 0 ≤ x6 then (if x6 < (x0.size : Int) then ((impl_isLetter.f (bt x0 x6)).bind fun t102 => (if t102 = true then (impl_NameOK.l0 k x0 x5 (wrap64 (x6 + 1))) else (if x6 = 0 then (some false) else ((impl_isDigit.f (bt x0 x6)).bind fun t103 => (if t103 = true then (impl_NameOK.l0 k x0 x5 (wrap64 (x6 + 1))) else (some false)))))) else (none)) else (none)) else ((impl_within.f (x0.size : Int) 1 40).bind fun t101 => (some t101))
def impl_NameOK.f (k : Nat) (a0 : ByteArray) : Option (Bool) := impl_NameOK.l0 k a0 (a0.size : Int) 0
set_option maxHeartbeats 8000000 in
set_option maxRecDepth 100000 in
theorem impl_NameOK.calls (k : Nat) (a0 : ByteArray) (r : Bool) (w : World) (h : impl_NameOK.f k a0 = some r) :
  Calls Try.prog 35 #[.string a0] w fun e w' => e = .returned (.bool r) ∧ Drawn0 w w' := by
 have H : (impl_NameOK.l0 k a0 (a0.size : Int) 0) = some r := h; clear h; have H' := qO H; clear H
 go_enter Try.func35, Try.ntmps35
 go_wp2
 go_loopg [6] k (fun kq v6 w' => ∃ (x6_1 : Int), v6 = .int .i64 x6_1 ∧ Aside0 (impl_NameOK.l0 kq a0 (a0.size : Int) x6_1 = some r) ∧ Aside0 (kq ≤ k) ∧ Drawn0 w w')
 case atStart => exact ⟨(0), qa10, H', ⟨Nat.le_refl _⟩, qa25⟩
 case round =>
  clear H'; obtain ⟨x6_1, rfl, HA, HK1, ⟨m1, rfl⟩⟩ := hrel
  cases gk with
  | zero => exact absurd HA.out (by simp [impl_NameOK.l0])
  | succ k1 =>
   have H := HA.out; clear HA; simp only [impl_NameOK.l0] at H
   by_cases c2 : x6_1 < (a0.size : Int)
   ·rw [if_pos c2] at H
    have c2b0 : decide (x6_1 < (a0.size : Int)) = true := decide_eq_true c2; clear c2
    by_cases c3 : 0 ≤ x6_1
    ·rw [if_pos c3] at H
     have c3b0 : decide (0 ≤ x6_1) = true := decide_eq_true c3; clear c3
     by_cases c4 : x6_1 < (a0.size : Int)
     ·rw [if_pos c4] at H
      have c4b0 : decide (x6_1 < (a0.size : Int)) = true := decide_eq_true c4; clear c4; replace H := Option.bind_eq_some_iff.mp H; obtain ⟨t102, A60, H⟩ := H; replace H : (if t102 = true then (impl_NameOK.l0 k1 a0 (a0.size : Int) (wrap64 (x6_1 + 1))) else (if x6_1 = 0 then (some false) else ((impl_isDigit.f (bt a0 x6_1)).bind fun t103 => (if t103 = true then (impl_NameOK.l0 k1 a0 (a0.size : Int) (wrap64 (x6_1 + 1))) else (some false))))) = some r := H; have A6 := qO A60; clear A60
      by_cases c7 : t102 = true
      ·subst c7
       have H1 : (impl_NameOK.l0 k1 a0 (a0.size : Int) (wrap64 (x6_1 + 1))) = some r := by rw [if_pos rfl] at H; exact H
       clear H; have H := H1; clear H1; have H' := qO H; clear H; have p5 : 0 ≤ (x6_1 : Int) := qT qa4; have q5 : x6_1 < (a0.size : Int) := qT qa4; have hx5 := bt_at a0 x6_1; replace p5 := eq_true p5; replace q5 := eq_true q5
       go_wp2_with (first | ((with_reducible refine gate_callee (f := 59) rfl ?_); refine goesL_ (some 12) rfl rfl Try.func59 qa16 rfl #[.int .u8 (bt a0 x6_1)] rfl qa1 ?_; (with_reducible refine (impl_isLetter.calls (bt a0 x6_1) true _ A6.out).mono ?_); rintro e w' ⟨rfl, ⟨nd, rfl⟩⟩; refine ⟨_, rfl, ?_⟩))
       go_roundg k1
       case measure => have := HK1.out; omega
       case rel => exact ⟨(wrap64 (x6_1 + 1)), qa10, H', ⟨qa92⟩, qa25⟩
      ·replace c7 := Bool.eq_false_iff.mpr c7
       subst c7; have H1 : (if x6_1 = 0 then (some false) else ((impl_isDigit.f (bt a0 x6_1)).bind fun t103 => (if t103 = true then (impl_NameOK.l0 k1 a0 (a0.size : Int) (wrap64 (x6_1 + 1))) else (some false)))) = some r := by rw [if_neg (show ¬ (false = true) by decide)] at H; exact H
       clear H; have H := H1; clear H1
       by_cases c8 : x6_1 = 0
       ·rw [if_pos c8] at H
        have c8b0 : (x6_1 == 0) = true := beq_iff_eq.mpr c8; have c8b1 : (x6_1 != 0) = false := bne_eq_false_iff_eq.mpr c8; clear c8; obtain rfl := Option.some.inj H; have p5 : 0 ≤ (x6_1 : Int) := qT qa4; have q5 : x6_1 < (a0.size : Int) := qT qa4; have hx5 := bt_at a0 x6_1; replace p5 := eq_true p5; replace q5 := eq_true q5
        go_wp2_with (first | ((with_reducible refine gate_callee (f := 59) rfl ?_); refine goesL_ (some 12) rfl rfl Try.func59 qa16 rfl #[.int .u8 (bt a0 x6_1)] rfl qa1 ?_; (with_reducible refine (impl_isLetter.calls (bt a0 x6_1) false _ A6.out).mono ?_); rintro e w' ⟨rfl, ⟨nd, rfl⟩⟩; refine ⟨_, rfl, ?_⟩))
        go_ret
        exact ⟨qa10, qa25⟩
       ·rw [if_neg c8] at H
        have c8b0 : (x6_1 == 0) = false := beq_eq_false_iff_ne.mpr c8; have c8b1 : (x6_1 != 0) = true := bne_iff_ne.mpr c8; replace H := Option.bind_eq_some_iff.mp H; obtain ⟨t103, A100, H⟩ := H; replace H : (if t103 = true then (impl_NameOK.l0 k1 a0 (a0.size : Int) (wrap64 (x6_1 + 1))) else (some false)) = some r := H; have A10 := qO A100; clear A100
        by_cases c11 : t103 = true
        ·subst c11
         have H1 : (impl_NameOK.l0 k1 a0 (a0.size : Int) (wrap64 (x6_1 + 1))) = some r := by rw [if_pos rfl] at H; exact H
         clear H; have H := H1; clear H1; have H' := qO H; clear H; have p5 : 0 ≤ (x6_1 : Int) := qT qa4; have q5 : x6_1 < (a0.size : Int) := qT qa4; have hx5 := bt_at a0 x6_1; replace p5 := eq_true p5; replace q5 := eq_true q5
         go_wp2_with (first | ((with_reducible refine gate_callee (f := 59) rfl ?_); refine goesL_ (some 12) rfl rfl Try.func59 qa16 rfl #[.int .u8 (bt a0 x6_1)] rfl qa1 ?_; (with_reducible refine (impl_isLetter.calls (bt a0 x6_1) false _ A6.out).mono ?_); rintro e w' ⟨rfl, ⟨nd, rfl⟩⟩; refine ⟨_, rfl, ?_⟩; have p9 : 0 ≤ (x6_1 : Int) := qT qa4; have q9 : x6_1 < (a0.size : Int) := qT qa4; have hx9 := bt_at a0 x6_1; replace p9 := eq_true p9; replace q9 := eq_true q9) | (go_at_call 60; (with_reducible refine (impl_isDigit.calls (bt a0 x6_1) true _ A10.out).mono ?_); rintro e w' ⟨rfl, ⟨nd, rfl⟩⟩))
         go_roundg k1
         case measure => have := HK1.out; omega
         case rel => exact ⟨(wrap64 (x6_1 + 1)), qa10, H', ⟨qa92⟩, qa25⟩
        ·replace c11 := Bool.eq_false_iff.mpr c11
         subst c11; have H1 : (some false) = some r := by rw [if_neg (show ¬ (false = true) by decide)] at H; exact H
         clear H; have H := H1; clear H1; obtain rfl := Option.some.inj H; have p5 : 0 ≤ (x6_1 : Int) := qT qa4; have q5 : x6_1 < (a0.size : Int) := qT qa4; have hx5 := bt_at a0 x6_1; replace p5 := eq_true p5; replace q5 := eq_true q5
         go_wp2_with (first | ((with_reducible refine gate_callee (f := 59) rfl ?_); refine goesL_ (some 12) rfl rfl Try.func59 qa16 rfl #[.int .u8 (bt a0 x6_1)] rfl qa1 ?_; (with_reducible refine (impl_isLetter.calls (bt a0 x6_1) false _ A6.out).mono ?_); rintro e w' ⟨rfl, ⟨nd, rfl⟩⟩; refine ⟨_, rfl, ?_⟩; have p9 : 0 ≤ (x6_1 : Int) := qT qa4; have q9 : x6_1 < (a0.size : Int) := qT qa4; have hx9 := bt_at a0 x6_1; replace p9 := eq_true p9; replace q9 := eq_true q9) | (go_at_call 60; (with_reducible refine (impl_isDigit.calls (bt a0 x6_1) false _ A10.out).mono ?_); rintro e w' ⟨rfl, ⟨nd, rfl⟩⟩))
         go_ret
         exact ⟨qa10, qa25⟩
     ·rw [if_neg c4] at H
      exact absurd H qa79
    ·rw [if_neg c3] at H
     exact absurd H qa79
   ·rw [if_neg c2] at H
    have c2b0 : decide (x6_1 < (a0.size : Int)) = false := decide_eq_false c2; clear c2; replace H := Option.bind_eq_some_iff.mp H; obtain ⟨t101, A120, H⟩ := H; replace H : (some t101) = some r := H; have A12 := qO A120; clear A120; obtain rfl := Option.some.inj H
    go_wp2_with (first | ((with_reducible refine gate_callee (f := 33) rfl ?_); refine goesL_ (some 28) rfl rfl Try.func33 qa16 rfl #[.int .i64 (a0.size : Int), .int .i64 1, .int .i64 40] rfl qa1 ?_; (with_reducible refine (impl_within.calls (a0.size : Int) 1 40 t101 _ A12.out).mono ?_); rintro e w' ⟨rfl, ⟨nd, rfl⟩⟩; refine ⟨_, rfl, ?_⟩))
    go_ret
    exact ⟨qa10, qa25⟩


/-- The first place at which p holds, or -1. -/
def impl_ArgDef_78.fp (p : (S57) → Bool) (l0 : List (S57)) : Int := match l0.findIdx? p with | some i => (i : Int) | none => -1
theorem impl_ArgDef_78.hit (p : (S57) → Bool) (l0 : List (S57)) (kk : Nat) (x : (S57)) (hx : l0[kk]? = some x) (hp : p x = true) (hno : ∀ j, j < kk → ∀ x, l0[j]? = some x → p x = false) : impl_ArgDef_78.fp p l0 = kk := by
 unfold impl_ArgDef_78.fp
 have h : l0.findIdx? p = some kk := by
  rw [List.findIdx?_eq_some_iff_getElem]; obtain ⟨hl, he⟩ := List.getElem?_eq_some_iff.1 hx
  exact ⟨hl, by rw [he]; exact hp, fun j hj => by rw [hno j hj _ (List.getElem?_eq_getElem (Nat.lt_trans hj hl))]; simp⟩
 rw [h]
theorem impl_ArgDef_78.miss (p : (S57) → Bool) (l0 : List (S57)) (hno : ∀ j, j < l0.length → ∀ x, l0[j]? = some x → p x = false) : impl_ArgDef_78.fp p l0 = -1 := by
 unfold impl_ArgDef_78.fp
 have h : l0.findIdx? p = none := by
  rw [List.findIdx?_eq_none_iff]; intro x hx; obtain ⟨j, hj⟩ := List.getElem?_of_mem hx
  exact hno j (List.getElem?_eq_some_iff.1 hj).1 x hj
 rw [h]
set_option maxHeartbeats 4000000 in
set_option maxRecDepth 100000 in
theorem impl_ArgDef_78.callsP (A0 : Option Addr) (c0 : Nat) (l0 : List (S57)) (g : Nat) (cb : Array Value) (p : (S57) → Bool) (w : World) (eg : ∀ args w, (callFunc g args).run Try.prog w = .ok (.enter g args) w) (hr0 : Kd.C k57 w A0 l0.length l0)
  (hp : ∀ (W : World) (x : (S57)), x ∈ l0 → Below w.heap.size w W → Calls Try.prog g (#[.agg #[.string x.f0, .bool x.f1]] ++ cb) W fun e w' => e = .returned (.bool (p x)) ∧ Below w.heap.size w w') :
  Calls Try.prog 78 #[.slice A0 l0.length c0, .func (.func g) #[] cb] w fun e w' => e = .returned (.int .i64 (impl_ArgDef_78.fp p l0)) ∧ Below w.heap.size w w' := by
 have hlen := hr0.2.1; have HR := qO hr0; have HP := qO hp; clear hr0 hp; have isagg := Try.isAgg57
 go_enter Try.func78, Try.ntmps78
 go_wp2
 go_loopg [5, 8] l0.length (fun gg _ s8 wr => ∃ kk : Nat, kk ≤ l0.length ∧ l0.length - kk ≤ gg ∧ s8 = .int .i64 kk ∧ Aside0 (Below w.heap.size w wr) ∧ Aside0 (∀ j, j < kk → ∀ x, l0[j]? = some x → p x = false))
 case atStart => exact ⟨0, Nat.zero_le _, qa28, rfl, ⟨Below.refl _ w⟩, ⟨fun j hj => absurd hj (Nat.not_lt_zero _)⟩⟩
 case round =>
  obtain ⟨kk, hkk, hg, rfl, BW, No⟩ := hrel
  by_cases hlt : kk < l0.length
  ·have hltz : (kk : Int) < (l0.length : Int) := by omega
   obtain ⟨ad, e, hx0, hx1⟩ := at_T57 HR.out (kk : Int) qa28 hltz
   cases e
   replace hx0 := (BW.out.cell (qL w _ hx0)).trans hx0; replace hx1 := (BW.out.cell (qL w _ hx1)).trans hx1; simp only [Int.toNat_natCast] at hx0; simp only [Int.toNat_natCast] at hx1
   have hx : l0[kk]? = some (rd_T57 l0 (kk : Int)) := by
    rw [List.getElem?_eq_getElem hlt]
    show some l0[kk] = some (l0.getD (kk : Int).toNat _)
    rw [Int.toNat_natCast, List.getD_eq_getElem?_getD, List.getElem?_eq_getElem hlt]
    rfl
   skip
   have hcall := HP.out wr (rd_T57 l0 (kk : Int)) (List.mem_of_getElem? hx) BW.out; have HX := qO hx; clear hx; generalize rd_T57 l0 (kk : Int) = x at hcall HX hx0 hx1
   cases hq : p x with
   | true =>
    have HQ := qO hq; rw [hq] at hcall; clear hq
    go_wp2_with (go_at_fn g; refine hcall.mono ?_; rintro e w' ⟨rfl, hb'⟩)
    go_ret
    exact ⟨by rw [impl_ArgDef_78.hit p l0 kk x HX.out HQ.out No.out]; rfl, hb'⟩
   | false =>
    have HQ := qO hq; rw [hq] at hcall; clear hq
    go_wp2_with (go_at_fn g; refine hcall.mono ?_; rintro e w' ⟨rfl, hb'⟩)
    go_roundg (l0.length - (kk + 1))
    case measure => omega
    case rel =>
     refine ⟨kk + 1, qa28, qa28, by go_num, ⟨hb'⟩, ⟨fun j hj x' hx' => ?_⟩⟩
     by_cases e : j = kk
     ·subst e
      rw [HX.out] at hx'; obtain rfl := Option.some.inj hx'
      exact HQ.out
     ·exact No.out j qa28 x' hx'
  ·have hltz : ¬ (kk : Int) < (l0.length : Int) := by omega
   have hk : kk = l0.length := by omega
   have HK := qO hk; clear hk; go_wp2
   go_ret
   exact ⟨by rw [impl_ArgDef_78.miss p l0 (fun j hj => No.out j (by rw [HK.out]; exact hj))]; rfl, BW.out⟩


set_option maxHeartbeats 4000000 in
set_option maxRecDepth 100000 in
theorem impl_FieldDef_argAt_1.callsQ (x : S57) (gs : Nat) (y0 : ByteArray) (w : World) (hs : w.heap[gs]? = some (.cells #[.string y0] 9 (0, 0))) :
  Calls Try.prog 79 #[.agg #[.string x.f0, .bool x.f1], .pointer (some ⟨gs, 0, none⟩)] w fun e w' => e = .returned (.bool (x.f0.toList == y0.toList)) ∧ Below w.heap.size w w' := by
 have hu := Try.underlying57; have HS := qO hs; clear hs
 go_enter Try.func79, Try.ntmps79
 go_wp2_with (first | ((with_reducible refine gate_dst (N := 2) rfl ?_); refine box_event ?hg (N := 2) ?hd (cs := #[.string x.f0, .bool x.f1]) (t := 57) ?hr ?_; (case hd => rfl); (case hg => rfl); (case hr => exact qa18); intro gb hg w1 hbox hb; have K1 := qO (blk_below (g := gs) HS.out hb); have B1 := qO hb; have hcz0 : w1.cell? ⟨gb, 0, none⟩ = some (.string x.f0) := (blk_cell hbox 0).trans rfl; have hcz1 : w1.cell? ⟨gb, 1, none⟩ = some (.bool x.f1) := (blk_cell hbox 1).trans rfl; have hcw0 : w1.cell? ⟨gs, 0, none⟩ = some (.string y0) := (blk_cell K1.out 0).trans rfl; clear hg hb hbox))
 go_ret
 exact ⟨rfl, B1.out⟩
def clo78_79.f (l0 : List (S57)) (a1_0 : ByteArray) : Option Int := some (impl_ArgDef_78.fp (fun x => (x.f0.toList == a1_0.toList)) l0)
theorem clo78_79.calls (A0 : Option Addr) (c0 : Nat) (l0 : List (S57)) (a1_0 : ByteArray) (r : Int) (w : World) (hr0 : Kd.C k57 w A0 l0.length l0) (hc0 : l0.length ≤ c0) (h : clo78_79.f l0 a1_0 = some r) (gs : Nat) (hs : w.heap[gs]? = some (.cells #[.string a1_0] 9 (0, 0))) :
  Calls Try.prog 78 #[.slice A0 l0.length c0, .func (.func 79) #[] #[.pointer (some ⟨gs, 0, none⟩)]] w fun e w' => e = .returned (.int .i64 r) ∧ Below w.heap.size w w' := by
 obtain rfl := Option.some.inj h; have eg : ∀ args w, (callFunc 79 args).run Try.prog w = .ok (.enter 79 args) w := enters_of Try.func79 qa16 rfl
 exact impl_ArgDef_78.callsP A0 c0 l0 79 #[.pointer (some ⟨gs, 0, none⟩)] (fun x => (x.f0.toList == a1_0.toList)) w eg hr0 (fun W x _ hb => (impl_FieldDef_argAt_1.callsQ x gs a1_0 W (blk_below hs hb)).mono qa100)
def impl_FieldDef_argAt.f (a0_0 : ByteArray) (l0_1 : List (S57)) (a0_2 : ByteArray) (a0_3 : Bool) (a0_4 : Bool) (a1 : ByteArray) : Option (Int) := (clo78_79.f l0_1 a1).bind fun t103 => (some t103)
set_option maxHeartbeats 8000000 in
set_option maxRecDepth 100000 in
theorem impl_FieldDef_argAt.calls (a0_0 : ByteArray) (A0_1 : Option Addr) (c0_1 : Nat) (l0_1 : List (S57)) (a0_2 : ByteArray) (a0_3 : Bool) (a0_4 : Bool) (a1 : ByteArray) (r : Int) (w : World) (hr0_1 : Kd.C k57 w A0_1 l0_1.length l0_1) (hc0_1 : l0_1.length ≤ c0_1) (h : impl_FieldDef_argAt.f a0_0 l0_1 a0_2 a0_3 a0_4 a1 = some r) :
  Calls Try.prog 61 #[.agg #[.string a0_0, .slice A0_1 l0_1.length c0_1, .string a0_2, .bool a0_3, .bool a0_4], .string a1] w fun e w' => e = .returned (.int .i64 r) ∧ Below w.heap.size w w' := by
 have hu38 := Try.underlying38; have hu9 := Try.underlying9; have HR0_1 := qO hr0_1; have HC0_1 := qO hc0_1; clear hr0_1 hc0_1; have HB := qO (Below.refl w.heap.size w); have H : ((clo78_79.f l0_1 a1).bind fun t103 => (some t103)) = some r := h; clear h; replace H := Option.bind_eq_some_iff.mp H; obtain ⟨t103, A30, H⟩ := H; replace H : (some t103) = some r := H; have A3 := qO A30; clear A30; obtain rfl := Option.some.inj H
 go_enter Try.func61, Try.ntmps61
 go_wp2_with (first | ((with_reducible refine gate_dst (N := 2) rfl ?_); refine box_event ?hg (N := 2) ?hd (cs := #[.string a0_0, .slice A0_1 l0_1.length c0_1, .string a0_2, .bool a0_3, .bool a0_4]) (t := 38) ?hr ?_; (case hd => rfl); (case hg => rfl); (case hr => exact qa18); intro gb101 hg w4 hbox hb; have hx_ := qHX HB hb qa0; have n0_ := qO (below_step (below_step HB.out hx_) hb); have n1_ := qO (hbox); have n2_ := qO ((qa11 : w.heap.size ≤ gb101)); have n3_ := n2_; clear HB; have HB := n0_; have BK101 := n1_; have GW101 := n2_; have GE101 := n3_; clear n0_ n1_ n2_ n3_; clear hx_; clear hb hbox hg) | ((with_reducible refine gate_dst (N := 3) rfl ?_); refine box_event ?hg (N := 3) ?hd (cs := #[.string a1]) (t := 9) ?hr ?_; (case hd => rfl); (case hg => rfl); (case hr => exact qa18); intro gb102 hg w5 hbox hb; have hx_ := qHX HB hb qa0; have n0_ := qO (qB BK101.out hx_ hb); have n1_ := qO (below_step (below_step HB.out hx_) hb); have n2_ := qO (hbox); have n3_ := qO ((qa11 : w.heap.size ≤ gb102)); have n4_ := n3_; have n5_ := qO ((qa20 : gb101 ≠ gb102)); have n6_ := qO (Ne.symm n5_.out); clear BK101; clear HB; have BK101 := n0_; have HB := n1_; have BK102 := n2_; have GW102 := n3_; have GE102 := n4_; have NB101_102 := n5_; have NB102_101 := n6_; clear n0_ n1_ n2_ n3_ n4_ n5_ n6_; clear hx_; clear hb hbox hg; have hnb6 := NB101_102.out; have hnc6 := NB102_101.out; have hcz7_0 : w5.cell? ⟨gb101, 0, none⟩ = some (.string a0_0) := (blk_cell BK101.out 0).trans rfl; have hcz7_1 : w5.cell? ⟨gb101, 1, none⟩ = some (.slice A0_1 l0_1.length c0_1) := (blk_cell BK101.out 1).trans rfl; have hcz7_2 : w5.cell? ⟨gb101, 2, none⟩ = some (.string a0_2) := (blk_cell BK101.out 2).trans rfl; have hcz7_3 : w5.cell? ⟨gb101, 3, none⟩ = some (.bool a0_3) := (blk_cell BK101.out 3).trans rfl; have hcz7_4 : w5.cell? ⟨gb101, 4, none⟩ = some (.bool a0_4) := (blk_cell BK101.out 4).trans rfl; have hfz7_0 := blk_frozen BK101.out 0; have hfz7_1 := blk_frozen BK101.out 1; have hfz7_2 := blk_frozen BK101.out 2; have hfz7_3 := blk_frozen BK101.out 3; have hfz7_4 := blk_frozen BK101.out 4; have hcz8_0 : w5.cell? ⟨gb102, 0, none⟩ = some (.string a1) := (blk_cell BK102.out 0).trans rfl; have hfz8_0 := blk_frozen BK102.out 0) | ((with_reducible refine gate_callee (f := 78) rfl ?_); refine goesL_ (some 8) rfl rfl Try.func78 qa16 rfl #[.slice A0_1 l0_1.length c0_1, .func (.func 79) #[] #[.pointer (some ⟨gb102, 0, none⟩)]] rfl qa1 ?_; (with_reducible refine (clo78_79.calls _ _ l0_1 a1 t103 _ ?side1 ?side2 A3.out gb102 qa43).mono ?_); (case side1 => exact qa26); (case side2 => exact HC0_1.out); rintro e w9 ⟨rfl, hb⟩; have hx_ := qHX HB hb qa0; refine ⟨_, rfl, ?_⟩; have n0_ := qO (qB BK101.out hx_ hb); have n1_ := qO (qB BK102.out hx_ hb); have n2_ := qO (below_step (below_step HB.out hx_) hb); clear BK101; clear BK102; clear HB; have BK101 := n0_; have BK102 := n1_; have HB := n2_; clear n0_ n1_ n2_; clear hx_; (try clear hb); (try clear hb2); (try clear hk); (try clear hi)))
 go_ret
 exact ⟨qa3, qa8⟩


mutual
def impl_Schema_fieldOK.j0 : Nat → Bool → ByteArray → List (S57) → ByteArray → Bool → Bool → Option (Bool)
 | 0, _, _, _, _, _, _ => none
 | k + 1, x33, x103000, x103001, x103002, x103003, x103004 => if x33 = true then (some false) else (impl_Schema_fieldOK.l0 k x103001 (x103001.length : Int) 0 x103000 x103001 x103002 x103003 x103004)
def impl_Schema_fieldOK.l0 : Nat → List (S57) → Int → Int → ByteArray → List (S57) → ByteArray → Bool → Bool → Option (Bool)
 | 0, _, _, _, _, _, _, _, _ => none
 | k + 1, x35, x36, x37, x103000, x103001, x103002, x103003, x103004 => if x37 < x36 then (if 0 ≤ x37 then (if x37 < (x35.length : Int) then ((impl_NameOK.f k ((rd_T57 x35 x37).f0)).bind fun t107 => (if t107 = true then ((impl_FieldDef_argAt.f x103000 x103001 x103002 x103003 x103004 ((rd_T57 x35 x37).f0)).bind fun t108 => (if t108 = x37 then (impl_Schema_fieldOK.l0 k x35 x36 (wrap64 (x37 + 1)) x103000 x103001 x103002 x103003 x103004) else (some false))) else (some false))) else (none)) else (none)) else (some true)
end
def impl_Schema_fieldOK.f (k : Nat) (l0_0 : List (S53)) (a1_0 : ByteArray) (l1_1 : List (S57)) (a1_2 : ByteArray) (a1_3 : Bool) (a1_4 : Bool) : Option (Bool) := (impl_NameOK.f k a1_0).bind fun t103 => (if t103 = true then (if a1_0.toList = ([95, 95, 116, 121, 112, 101, 110, 97, 109, 101] : List UInt8) then (impl_Schema_fieldOK.j0 k true a1_0 l1_1 a1_2 a1_3 a1_4) else (if a1_2.toList = ([73, 110, 116] : List UInt8) then (impl_Schema_fieldOK.j0 k (decide ((l1_1.length : Int) > 4)) a1_0 l1_1 a1_2 a1_3 a1_4) else ((impl_Schema_typeAt.f l0_0 a1_2).bind fun t104 => (if t104 < 0 then (impl_Schema_fieldOK.j0 k true a1_0 l1_1 a1_2 a1_3 a1_4) else (impl_Schema_fieldOK.j0 k (decide ((l1_1.length : Int) > 4)) a1_0 l1_1 a1_2 a1_3 a1_4))))) else (impl_Schema_fieldOK.j0 k true a1_0 l1_1 a1_2 a1_3 a1_4))
set_option maxHeartbeats 8000000 in
set_option maxRecDepth 100000 in
theorem impl_Schema_fieldOK.calls (k : Nat) (A0_0 : Option Addr) (c0_0 : Nat) (l0_0 : List (S53)) (a1_0 : ByteArray) (A1_1 : Option Addr) (c1_1 : Nat) (l1_1 : List (S57)) (a1_2 : ByteArray) (a1_3 : Bool) (a1_4 : Bool) (r : Bool) (w : World) (hr0_0 : Kd.C k53 w A0_0 l0_0.length l0_0) (hc0_0 : l0_0.length ≤ c0_0) (hr1_1 : Kd.C k57 w A1_1 l1_1.length l1_1) (hc1_1 : l1_1.length ≤ c1_1) (h : impl_Schema_fieldOK.f k l0_0 a1_0 l1_1 a1_2 a1_3 a1_4 = some r) :
  Calls Try.prog 36 #[.agg #[.slice A0_0 l0_0.length c0_0], .agg #[.string a1_0, .slice A1_1 l1_1.length c1_1, .string a1_2, .bool a1_3, .bool a1_4]] w fun e w' => e = .returned (.bool r) ∧ Below w.heap.size w w' := by
 have hu29 := Try.underlying29; have hu38 := Try.underlying38; have hu57 := Try.underlying57; have HR0_0 := qO hr0_0; have HC0_0 := qO hc0_0; clear hr0_0 hc0_0; have HR1_1 := qO hr1_1; have HC1_1 := qO hc1_1; clear hr1_1 hc1_1; have HB := qO (Below.refl w.heap.size w); have H : ((impl_NameOK.f k a1_0).bind fun t103 => (if t103 = true then (if a1_0.toList = ([95, 95, 116, 121, 112, 101, 110, 97, 109, 101] : List UInt8) then (impl_Schema_fieldOK.j0 k true a1_0 l1_1 a1_2 a1_3 a1_4) else (if a1_2.toList = ([73, 110, 116] : List UInt8) then (impl_Schema_fieldOK.j0 k (decide ((l1_1.length : Int) > 4)) a1_0 l1_1 a1_2 a1_3 a1_4) else ((impl_Schema_typeAt.f l0_0 a1_2).bind fun t104 => (if t104 < 0 then (impl_Schema_fieldOK.j0 k true a1_0 l1_1 a1_2 a1_3 a1_4) else (impl_Schema_fieldOK.j0 k (decide ((l1_1.length : Int) > 4)) a1_0 l1_1 a1_2 a1_3 a1_4))))) else (impl_Schema_fieldOK.j0 k true a1_0 l1_1 a1_2 a1_3 a1_4))) = some r := h; clear h; have HC3 := qO H; clear H
 go_enter Try.func36, Try.ntmps36
 go_upto_region 1 with (first | ((with_reducible refine gate_dst (N := 2) rfl ?_); (try (refine gate_guard (by rfl) ?_; dsimp only)); refine box_event ?hg (N := 2) ?hd (cs := #[.slice A0_0 l0_0.length c0_0]) (t := 29) ?hr ?_; (case hd => rfl); (case hg => rfl); (case hr => exact qa18); intro gb101 hg w4 hbox hb; have n0_ := qO (below_step qa13 hb); have n1_ := qO (hbox); have n2_ := qO ((qa51 : w.heap.size ≤ gb101)); have n3_ := qO ((qa51 : w.heap.size ≤ gb101)); clear HB; have HB := n0_; have BK101 := n1_; have GW101 := n2_; have GE101 := n3_; clear n0_ n1_ n2_ n3_; clear hb hbox hg) | ((with_reducible refine gate_dst (N := 3) rfl ?_); (try (refine gate_guard (by rfl) ?_; dsimp only)); refine box_event ?hg (N := 3) ?hd (cs := #[.string a1_0, .slice A1_1 l1_1.length c1_1, .string a1_2, .bool a1_3, .bool a1_4]) (t := 38) ?hr ?_; (case hd => rfl); (case hg => rfl); (case hr => exact qa18); intro gb102 hg w5 hbox hb; have n0_ := qO (blk_below (g := gb101) (o := .cells #[.slice A0_0 l0_0.length c0_0] 29 (0, 0)) qa12 hb); have n1_ := qO (below_step qa9 hb); have n2_ := qO (hbox); have n3_ := qO ((qa44 : w.heap.size ≤ gb102)); have n4_ := qO ((qa44 : w.heap.size ≤ gb102)); have n5_ := qO ((qa23 : gb101 ≠ gb102)); have n6_ := qO ((by rw [hg]; exact Nat.ne_of_gt (blk_lt (g := gb101) (o := .cells #[.slice A0_0 l0_0.length c0_0] 29 (0, 0)) (by (with_reducible repeat (first | refine qkN ?_ _ | refine qkD ?_ | refine qkA ?_ _)); exact BK101.out)) : gb102 ≠ gb101)); clear BK101; clear HB; have BK101 := n0_; have HB := n1_; have BK102 := n2_; have GW102 := n3_; have GE102 := n4_; have NB101_102 := n5_; have NB102_101 := n6_; clear n0_ n1_ n2_ n3_ n4_ n5_ n6_; clear hb hbox hg))
 (try simp only [Act.put, qzA, qzB, qzC])
 go_cut [33] (fun v33 wc => ∃ (kq : Nat) (x33_2 : Bool), v33 = .bool x33_2 ∧ Aside0 (impl_Schema_fieldOK.j0 kq x33_2 a1_0 l1_1 a1_2 a1_3 a1_4 = some r) ∧ Aside0 (kq ≤ k) ∧ Aside0 (wc.heap[gb101]? = some (.cells #[(.slice A0_0 l0_0.length c0_0)] 29 (0, 0))) ∧ Aside0 (wc.heap[gb102]? = some (.cells #[.string a1_0, (.slice A1_1 l1_1.length c1_1), .string a1_2, .bool a1_3, .bool a1_4] 38 (0, 0))) ∧ Aside0 (Below w.heap.size w wc))
 case first =>
  have H := HC3.out; clear HC3; replace H := Option.bind_eq_some_iff.mp H; obtain ⟨t103, A60, H⟩ := H; replace H : (if t103 = true then (if a1_0.toList = ([95, 95, 116, 121, 112, 101, 110, 97, 109, 101] : List UInt8) then (impl_Schema_fieldOK.j0 k true a1_0 l1_1 a1_2 a1_3 a1_4) else (if a1_2.toList = ([73, 110, 116] : List UInt8) then (impl_Schema_fieldOK.j0 k (decide ((l1_1.length : Int) > 4)) a1_0 l1_1 a1_2 a1_3 a1_4) else ((impl_Schema_typeAt.f l0_0 a1_2).bind fun t104 => (if t104 < 0 then (impl_Schema_fieldOK.j0 k true a1_0 l1_1 a1_2 a1_3 a1_4) else (impl_Schema_fieldOK.j0 k (decide ((l1_1.length : Int) > 4)) a1_0 l1_1 a1_2 a1_3 a1_4))))) else (impl_Schema_fieldOK.j0 k true a1_0 l1_1 a1_2 a1_3 a1_4)) = some r := H; have A6 := qO A60; clear A60
  by_cases c7 : t103 = true
  ·subst c7
   have H1 : (if a1_0.toList = ([95, 95, 116, 121, 112, 101, 110, 97, 109, 101] : List UInt8) then (impl_Schema_fieldOK.j0 k true a1_0 l1_1 a1_2 a1_3 a1_4) else (if a1_2.toList = ([73, 110, 116] : List UInt8) then (impl_Schema_fieldOK.j0 k (decide ((l1_1.length : Int) > 4)) a1_0 l1_1 a1_2 a1_3 a1_4) else ((impl_Schema_typeAt.f l0_0 a1_2).bind fun t104 => (if t104 < 0 then (impl_Schema_fieldOK.j0 k true a1_0 l1_1 a1_2 a1_3 a1_4) else (impl_Schema_fieldOK.j0 k (decide ((l1_1.length : Int) > 4)) a1_0 l1_1 a1_2 a1_3 a1_4))))) = some r := by rw [if_pos rfl] at H; exact H
   clear H; have H := H1; clear H1
   by_cases c8 : a1_0.toList = ([95, 95, 116, 121, 112, 101, 110, 97, 109, 101] : List UInt8)
   ·rw [if_pos c8] at H
    have c8b0 : (a1_0.toList == ([95, 95, 116, 121, 112, 101, 110, 97, 109, 101] : List UInt8)) = true := beq_iff_eq.mpr c8; have c8b1 : (a1_0.toList != ([95, 95, 116, 121, 112, 101, 110, 97, 109, 101] : List UInt8)) = false := bne_eq_false_iff_eq.mpr c8; clear c8; (first | rw [c8b0] | (simp only [i64_w, i32_w]; rw [c8b0]) | skip); have H' := qO H; clear H; have hnb9 := NB102_101.out; have hnc9 := NB101_102.out; have hcz10_0 : w5.cell? ⟨gb102, 0, none⟩ = some (.string a1_0) := (blk_cell BK102.out 0).trans rfl; have hcz10_1 : w5.cell? ⟨gb102, 1, none⟩ = some (.slice A1_1 l1_1.length c1_1) := (blk_cell BK102.out 1).trans rfl; have hcz10_2 : w5.cell? ⟨gb102, 2, none⟩ = some (.string a1_2) := (blk_cell BK102.out 2).trans rfl; have hcz10_3 : w5.cell? ⟨gb102, 3, none⟩ = some (.bool a1_3) := (blk_cell BK102.out 3).trans rfl; have hcz10_4 : w5.cell? ⟨gb102, 4, none⟩ = some (.bool a1_4) := (blk_cell BK102.out 4).trans rfl; have hfz10_0 := blk_frozen BK102.out 0; have hfz10_1 := blk_frozen BK102.out 1; have hfz10_2 := blk_frozen BK102.out 2; have hfz10_3 := blk_frozen BK102.out 3; have hfz10_4 := blk_frozen BK102.out 4
    go_wp2_with (first | ((with_reducible refine gate_callee (f := 35) rfl ?_); refine goesL_ (some 9) rfl rfl Try.func35 qa16 rfl #[.string a1_0] rfl qa1 ?_; (with_reducible refine (impl_NameOK.calls k a1_0 true _ A6.out).mono ?_); rintro e w' ⟨rfl, ⟨nd, rfl⟩⟩; refine ⟨_, rfl, ?_⟩))
    go_meet
    case rel => exact ⟨_, (true), qa10, H', ⟨qa87⟩, ⟨qa12⟩, ⟨qa43⟩, ⟨qa8⟩⟩
   ·rw [if_neg c8] at H
    have c8b0 : (a1_0.toList == ([95, 95, 116, 121, 112, 101, 110, 97, 109, 101] : List UInt8)) = false := beq_eq_false_iff_ne.mpr c8; have c8b1 : (a1_0.toList != ([95, 95, 116, 121, 112, 101, 110, 97, 109, 101] : List UInt8)) = true := bne_iff_ne.mpr c8; (first | rw [c8b0] | (simp only [i64_w, i32_w]; rw [c8b0]) | skip)
    by_cases c11 : a1_2.toList = ([73, 110, 116] : List UInt8)
    ·rw [if_pos c11] at H
     have c11b0 : (a1_2.toList == ([73, 110, 116] : List UInt8)) = true := beq_iff_eq.mpr c11; have c11b1 : (a1_2.toList != ([73, 110, 116] : List UInt8)) = false := bne_eq_false_iff_eq.mpr c11; clear c11; have H' := qO H; clear H; have hnb12 := NB102_101.out; have hnc12 := NB101_102.out; have hcz13_0 : w5.cell? ⟨gb102, 0, none⟩ = some (.string a1_0) := (blk_cell BK102.out 0).trans rfl; have hcz13_1 : w5.cell? ⟨gb102, 1, none⟩ = some (.slice A1_1 l1_1.length c1_1) := (blk_cell BK102.out 1).trans rfl; have hcz13_2 : w5.cell? ⟨gb102, 2, none⟩ = some (.string a1_2) := (blk_cell BK102.out 2).trans rfl; have hcz13_3 : w5.cell? ⟨gb102, 3, none⟩ = some (.bool a1_3) := (blk_cell BK102.out 3).trans rfl; have hcz13_4 : w5.cell? ⟨gb102, 4, none⟩ = some (.bool a1_4) := (blk_cell BK102.out 4).trans rfl; have hfz13_0 := blk_frozen BK102.out 0; have hfz13_1 := blk_frozen BK102.out 1; have hfz13_2 := blk_frozen BK102.out 2; have hfz13_3 := blk_frozen BK102.out 3; have hfz13_4 := blk_frozen BK102.out 4
     go_wp2_with (first | ((with_reducible refine gate_callee (f := 35) rfl ?_); refine goesL_ (some 9) rfl rfl Try.func35 qa16 rfl #[.string a1_0] rfl qa1 ?_; (with_reducible refine (impl_NameOK.calls k a1_0 true _ A6.out).mono ?_); rintro e w' ⟨rfl, ⟨nd, rfl⟩⟩; refine ⟨_, rfl, ?_⟩))
     go_meet
     case rel => exact ⟨_, (decide ((l1_1.length : Int) > 4)), qa10, H', ⟨qa87⟩, ⟨qa12⟩, ⟨qa43⟩, ⟨qa8⟩⟩
    ·rw [if_neg c11] at H
     have c11b0 : (a1_2.toList == ([73, 110, 116] : List UInt8)) = false := beq_eq_false_iff_ne.mpr c11; have c11b1 : (a1_2.toList != ([73, 110, 116] : List UInt8)) = true := bne_iff_ne.mpr c11; replace H := Option.bind_eq_some_iff.mp H; obtain ⟨t104, A140, H⟩ := H; replace H : (if t104 < 0 then (impl_Schema_fieldOK.j0 k true a1_0 l1_1 a1_2 a1_3 a1_4) else (impl_Schema_fieldOK.j0 k (decide ((l1_1.length : Int) > 4)) a1_0 l1_1 a1_2 a1_3 a1_4)) = some r := H; have A14 := qO A140; clear A140
     by_cases c15 : t104 < 0
     ·rw [if_pos c15] at H
      have c15b0 : decide (t104 < 0) = true := decide_eq_true c15; clear c15; have H' := qO H; clear H; have hnb16 := NB102_101.out; have hnc16 := NB101_102.out; have hcz17_0 : w5.cell? ⟨gb102, 0, none⟩ = some (.string a1_0) := (blk_cell BK102.out 0).trans rfl; have hcz17_1 : w5.cell? ⟨gb102, 1, none⟩ = some (.slice A1_1 l1_1.length c1_1) := (blk_cell BK102.out 1).trans rfl; have hcz17_2 : w5.cell? ⟨gb102, 2, none⟩ = some (.string a1_2) := (blk_cell BK102.out 2).trans rfl; have hcz17_3 : w5.cell? ⟨gb102, 3, none⟩ = some (.bool a1_3) := (blk_cell BK102.out 3).trans rfl; have hcz17_4 : w5.cell? ⟨gb102, 4, none⟩ = some (.bool a1_4) := (blk_cell BK102.out 4).trans rfl; have hfz17_0 := blk_frozen BK102.out 0; have hfz17_1 := blk_frozen BK102.out 1; have hfz17_2 := blk_frozen BK102.out 2; have hfz17_3 := blk_frozen BK102.out 3; have hfz17_4 := blk_frozen BK102.out 4
      go_wp2_with (first | ((with_reducible refine gate_callee (f := 35) rfl ?_); refine goesL_ (some 9) rfl rfl Try.func35 qa16 rfl #[.string a1_0] rfl qa1 ?_; (with_reducible refine (impl_NameOK.calls k a1_0 true _ A6.out).mono ?_); rintro e w' ⟨rfl, ⟨nd, rfl⟩⟩; refine ⟨_, rfl, ?_⟩; have hcz18_0 : w5.cell? ⟨gb101, 0, none⟩ = some (.slice A0_0 l0_0.length c0_0) := (blk_cell BK101.out 0).trans rfl; have hfz18_0 := blk_frozen BK101.out 0) | (go_at_call 34; (with_reducible refine (impl_Schema_typeAt.calls _ _ l0_0 a1_2 t104 _ ?side1 ?side2 A14.out).mono ?_); (case side1 => exact qa65); (case side2 => exact HC0_0.out); rintro e w19 ⟨rfl, hb⟩; have hx_ := qHX HB hb qa0; have n0_ := qO (qB BK101.out hx_ hb); have n1_ := qO (qB BK102.out hx_ hb); have n2_ := qO (below_step (below_step HB.out hx_) hb); clear BK101; clear BK102; clear HB; have BK101 := n0_; have BK102 := n1_; have HB := n2_; clear n0_ n1_ n2_; clear hx_; (try clear hb); (try clear hb2); (try clear hk); (try clear hi)))
      go_meet
      case rel => exact ⟨_, (true), qa10, H', ⟨qa87⟩, ⟨qa12⟩, ⟨qa43⟩, ⟨qa8⟩⟩
     ·rw [if_neg c15] at H
      have c15b0 : decide (t104 < 0) = false := decide_eq_false c15; clear c15; have H' := qO H; clear H; have hnb20 := NB102_101.out; have hnc20 := NB101_102.out; have hcz21_0 : w5.cell? ⟨gb102, 0, none⟩ = some (.string a1_0) := (blk_cell BK102.out 0).trans rfl; have hcz21_1 : w5.cell? ⟨gb102, 1, none⟩ = some (.slice A1_1 l1_1.length c1_1) := (blk_cell BK102.out 1).trans rfl; have hcz21_2 : w5.cell? ⟨gb102, 2, none⟩ = some (.string a1_2) := (blk_cell BK102.out 2).trans rfl; have hcz21_3 : w5.cell? ⟨gb102, 3, none⟩ = some (.bool a1_3) := (blk_cell BK102.out 3).trans rfl; have hcz21_4 : w5.cell? ⟨gb102, 4, none⟩ = some (.bool a1_4) := (blk_cell BK102.out 4).trans rfl; have hfz21_0 := blk_frozen BK102.out 0; have hfz21_1 := blk_frozen BK102.out 1; have hfz21_2 := blk_frozen BK102.out 2; have hfz21_3 := blk_frozen BK102.out 3; have hfz21_4 := blk_frozen BK102.out 4
      go_wp2_with (first | ((with_reducible refine gate_callee (f := 35) rfl ?_); refine goesL_ (some 9) rfl rfl Try.func35 qa16 rfl #[.string a1_0] rfl qa1 ?_; (with_reducible refine (impl_NameOK.calls k a1_0 true _ A6.out).mono ?_); rintro e w' ⟨rfl, ⟨nd, rfl⟩⟩; refine ⟨_, rfl, ?_⟩; have hcz22_0 : w5.cell? ⟨gb101, 0, none⟩ = some (.slice A0_0 l0_0.length c0_0) := (blk_cell BK101.out 0).trans rfl; have hfz22_0 := blk_frozen BK101.out 0) | (go_at_call 34; (with_reducible refine (impl_Schema_typeAt.calls _ _ l0_0 a1_2 t104 _ ?side1 ?side2 A14.out).mono ?_); (case side1 => exact qa65); (case side2 => exact HC0_0.out); rintro e w23 ⟨rfl, hb⟩; have hx_ := qHX HB hb qa0; have n0_ := qO (qB BK101.out hx_ hb); have n1_ := qO (qB BK102.out hx_ hb); have n2_ := qO (below_step (below_step HB.out hx_) hb); clear BK101; clear BK102; clear HB; have BK101 := n0_; have BK102 := n1_; have HB := n2_; clear n0_ n1_ n2_; clear hx_; (try clear hb); (try clear hb2); (try clear hk); (try clear hi); have hcz24_0 : w23.cell? ⟨gb102, 0, none⟩ = some (.string a1_0) := (blk_cell BK102.out 0).trans rfl; have hcz24_1 : w23.cell? ⟨gb102, 1, none⟩ = some (.slice A1_1 l1_1.length c1_1) := (blk_cell BK102.out 1).trans rfl; have hcz24_2 : w23.cell? ⟨gb102, 2, none⟩ = some (.string a1_2) := (blk_cell BK102.out 2).trans rfl; have hcz24_3 : w23.cell? ⟨gb102, 3, none⟩ = some (.bool a1_3) := (blk_cell BK102.out 3).trans rfl; have hcz24_4 : w23.cell? ⟨gb102, 4, none⟩ = some (.bool a1_4) := (blk_cell BK102.out 4).trans rfl; have hfz24_0 := blk_frozen BK102.out 0; have hfz24_1 := blk_frozen BK102.out 1; have hfz24_2 := blk_frozen BK102.out 2; have hfz24_3 := blk_frozen BK102.out 3; have hfz24_4 := blk_frozen BK102.out 4))
      go_meet
      case rel => exact ⟨_, (decide ((l1_1.length : Int) > 4)), qa10, H', ⟨qa87⟩, ⟨qa12⟩, ⟨qa43⟩, ⟨qa8⟩⟩
  ·replace c7 := Bool.eq_false_iff.mpr c7
   subst c7; have H1 : (impl_Schema_fieldOK.j0 k true a1_0 l1_1 a1_2 a1_3 a1_4) = some r := by rw [if_neg (show ¬ (false = true) by decide)] at H; exact H
   clear H; have H := H1; clear H1; have H' := qO H; clear H; have hnb25 := NB102_101.out; have hnc25 := NB101_102.out; have hcz26_0 : w5.cell? ⟨gb102, 0, none⟩ = some (.string a1_0) := (blk_cell BK102.out 0).trans rfl; have hcz26_1 : w5.cell? ⟨gb102, 1, none⟩ = some (.slice A1_1 l1_1.length c1_1) := (blk_cell BK102.out 1).trans rfl; have hcz26_2 : w5.cell? ⟨gb102, 2, none⟩ = some (.string a1_2) := (blk_cell BK102.out 2).trans rfl; have hcz26_3 : w5.cell? ⟨gb102, 3, none⟩ = some (.bool a1_3) := (blk_cell BK102.out 3).trans rfl; have hcz26_4 : w5.cell? ⟨gb102, 4, none⟩ = some (.bool a1_4) := (blk_cell BK102.out 4).trans rfl; have hfz26_0 := blk_frozen BK102.out 0; have hfz26_1 := blk_frozen BK102.out 1; have hfz26_2 := blk_frozen BK102.out 2; have hfz26_3 := blk_frozen BK102.out 3; have hfz26_4 := blk_frozen BK102.out 4
   go_wp2_with (first | ((with_reducible refine gate_callee (f := 35) rfl ?_); refine goesL_ (some 9) rfl rfl Try.func35 qa16 rfl #[.string a1_0] rfl qa1 ?_; (with_reducible refine (impl_NameOK.calls k a1_0 false _ A6.out).mono ?_); rintro e w' ⟨rfl, ⟨nd, rfl⟩⟩; refine ⟨_, rfl, ?_⟩))
   go_meet
   case rel => exact ⟨_, (true), qa10, H', ⟨qa87⟩, ⟨qa12⟩, ⟨qa43⟩, ⟨qa8⟩⟩
 case rest =>
  clear HC3
  try clear c1
  try clear c2
  try clear p2
  try clear c3
  try clear c7
  try clear c8
  try clear c8b0
  try clear c8b1
  try clear c9
  try clear c11
  try clear c11b0
  try clear c11b1
  try clear c12
  try clear c15
  try clear c15b0
  try clear c16
  try clear c20
  try clear c25
  try clear hcz10_0
  try clear hcz10_1
  try clear hcz10_2
  try clear hcz10_3
  try clear hcz10_4
  try clear hcz13_0
  try clear hcz13_1
  try clear hcz13_2
  try clear hcz13_3
  try clear hcz13_4
  try clear hcz17_0
  try clear hcz17_1
  try clear hcz17_2
  try clear hcz17_3
  try clear hcz17_4
  try clear hcz18_0
  try clear hcz21_0
  try clear hcz21_1
  try clear hcz21_2
  try clear hcz21_3
  try clear hcz21_4
  try clear hcz22_0
  try clear hcz24_0
  try clear hcz24_1
  try clear hcz24_2
  try clear hcz24_3
  try clear hcz24_4
  try clear hcz26_0
  try clear hcz26_1
  try clear hcz26_2
  try clear hcz26_3
  try clear hcz26_4
  try clear hfz10_0
  try clear hfz10_1
  try clear hfz10_2
  try clear hfz10_3
  try clear hfz10_4
  try clear hfz13_0
  try clear hfz13_1
  try clear hfz13_2
  try clear hfz13_3
  try clear hfz13_4
  try clear hfz17_0
  try clear hfz17_1
  try clear hfz17_2
  try clear hfz17_3
  try clear hfz17_4
  try clear hfz18_0
  try clear hfz21_0
  try clear hfz21_1
  try clear hfz21_2
  try clear hfz21_3
  try clear hfz21_4
  try clear hfz22_0
  try clear hfz24_0
  try clear hfz24_1
  try clear hfz24_2
  try clear hfz24_3
  try clear hfz24_4
  try clear hfz26_0
  try clear hfz26_1
  try clear hfz26_2
  try clear hfz26_3
  try clear hfz26_4
  obtain ⟨kq, x33_2, rfl, HA, HJ2, BK101, BK102, HB⟩ := hcut
  cases kq with
  | zero => exact absurd HA.out (by simp [impl_Schema_fieldOK.j0])
  | succ kj2 =>
   have H := HA.out; clear HA; simp only [impl_Schema_fieldOK.j0] at H
   by_cases c27 : x33_2 = true
   ·subst c27
    have H1 : (some false) = some r := by rw [if_pos rfl] at H; exact H
    clear H; have H := H1; clear H1; obtain rfl := Option.some.inj H; go_wp2
    go_ret
    exact ⟨qa3, qa8⟩
   ·replace c27 := Bool.eq_false_iff.mpr c27
    subst c27; have H1 : (impl_Schema_fieldOK.l0 kj2 l1_1 (l1_1.length : Int) 0 a1_0 l1_1 a1_2 a1_3 a1_4) = some r := by rw [if_neg (show ¬ (false = true) by decide)] at H; exact H
    clear H; have H := H1; clear H1; have H' := qO H; clear H; have hnb28 := NB102_101.out; have hnc28 := NB101_102.out; have hcz29_0 : wc.cell? ⟨gb102, 0, none⟩ = some (.string a1_0) := (blk_cell BK102.out 0).trans rfl; have hcz29_1 : wc.cell? ⟨gb102, 1, none⟩ = some (.slice A1_1 l1_1.length c1_1) := (blk_cell BK102.out 1).trans rfl; have hcz29_2 : wc.cell? ⟨gb102, 2, none⟩ = some (.string a1_2) := (blk_cell BK102.out 2).trans rfl; have hcz29_3 : wc.cell? ⟨gb102, 3, none⟩ = some (.bool a1_3) := (blk_cell BK102.out 3).trans rfl; have hcz29_4 : wc.cell? ⟨gb102, 4, none⟩ = some (.bool a1_4) := (blk_cell BK102.out 4).trans rfl; have hfz29_0 := blk_frozen BK102.out 0; have hfz29_1 := blk_frozen BK102.out 1; have hfz29_2 := blk_frozen BK102.out 2; have hfz29_3 := blk_frozen BK102.out 3; have hfz29_4 := blk_frozen BK102.out 4; go_wp2
    go_loopg [37] kj2 (fun kq v37 w' => ∃ (x37_2 : Int), v37 = .int .i64 x37_2 ∧ Aside0 (impl_Schema_fieldOK.l0 kq l1_1 (l1_1.length : Int) x37_2 a1_0 l1_1 a1_2 a1_3 a1_4 = some r) ∧ Aside0 (kq ≤ kj2) ∧ Aside0 (w'.heap[gb101]? = some (.cells #[(.slice A0_0 l0_0.length c0_0)] 29 (0, 0))) ∧ Aside0 (w'.heap[gb102]? = some (.cells #[.string a1_0, (.slice A1_1 l1_1.length c1_1), .string a1_2, .bool a1_3, .bool a1_4] 38 (0, 0))) ∧ Aside0 (Below w.heap.size w w'))
    case atStart => exact ⟨(0), qa10, H', ⟨Nat.le_refl _⟩, ⟨qa12⟩, ⟨qa43⟩, ⟨qa8⟩⟩
    case round =>
     clear H'
     try clear c1
     try clear c2
     try clear p2
     try clear c3
     try clear c7
     try clear c8
     try clear c8b0
     try clear c8b1
     try clear c9
     try clear c11
     try clear c11b0
     try clear c11b1
     try clear c12
     try clear c15
     try clear c15b0
     try clear c16
     try clear c20
     try clear c25
     try clear c27
     try clear c28
     try clear hcz10_0
     try clear hcz10_1
     try clear hcz10_2
     try clear hcz10_3
     try clear hcz10_4
     try clear hcz13_0
     try clear hcz13_1
     try clear hcz13_2
     try clear hcz13_3
     try clear hcz13_4
     try clear hcz17_0
     try clear hcz17_1
     try clear hcz17_2
     try clear hcz17_3
     try clear hcz17_4
     try clear hcz18_0
     try clear hcz21_0
     try clear hcz21_1
     try clear hcz21_2
     try clear hcz21_3
     try clear hcz21_4
     try clear hcz22_0
     try clear hcz24_0
     try clear hcz24_1
     try clear hcz24_2
     try clear hcz24_3
     try clear hcz24_4
     try clear hcz26_0
     try clear hcz26_1
     try clear hcz26_2
     try clear hcz26_3
     try clear hcz26_4
     try clear hcz29_0
     try clear hcz29_1
     try clear hcz29_2
     try clear hcz29_3
     try clear hcz29_4
     try clear hfz10_0
     try clear hfz10_1
     try clear hfz10_2
     try clear hfz10_3
     try clear hfz10_4
     try clear hfz13_0
     try clear hfz13_1
     try clear hfz13_2
     try clear hfz13_3
     try clear hfz13_4
     try clear hfz17_0
     try clear hfz17_1
     try clear hfz17_2
     try clear hfz17_3
     try clear hfz17_4
     try clear hfz18_0
     try clear hfz21_0
     try clear hfz21_1
     try clear hfz21_2
     try clear hfz21_3
     try clear hfz21_4
     try clear hfz22_0
     try clear hfz24_0
     try clear hfz24_1
     try clear hfz24_2
     try clear hfz24_3
     try clear hfz24_4
     try clear hfz26_0
     try clear hfz26_1
     try clear hfz26_2
     try clear hfz26_3
     try clear hfz26_4
     try clear hfz29_0
     try clear hfz29_1
     try clear hfz29_2
     try clear hfz29_3
     try clear hfz29_4
     try clear p2
     obtain ⟨x37_2, rfl, HA, HK2, BK101, BK102, HB⟩ := hrel
     cases gk with
     | zero => exact absurd HA.out (by simp [impl_Schema_fieldOK.l0])
     | succ k2 =>
      have H := HA.out; clear HA; simp only [impl_Schema_fieldOK.l0] at H
      by_cases c30 : x37_2 < (l1_1.length : Int)
      ·rw [if_pos c30] at H
       have c30b0 : decide (x37_2 < (l1_1.length : Int)) = true := decide_eq_true c30; clear c30
       by_cases c31 : 0 ≤ x37_2
       ·rw [if_pos c31] at H
        have c31b0 : decide (0 ≤ x37_2) = true := decide_eq_true c31; clear c31
        by_cases c32 : x37_2 < (l1_1.length : Int)
        ·rw [if_pos c32] at H
         have c32b0 : decide (x37_2 < (l1_1.length : Int)) = true := decide_eq_true c32; clear c32; replace H := Option.bind_eq_some_iff.mp H; obtain ⟨t107, A330, H⟩ := H; replace H : (if t107 = true then ((impl_FieldDef_argAt.f a1_0 l1_1 a1_2 a1_3 a1_4 ((rd_T57 l1_1 x37_2).f0)).bind fun t108 => (if t108 = x37_2 then (impl_Schema_fieldOK.l0 k2 l1_1 (l1_1.length : Int) (wrap64 (x37_2 + 1)) a1_0 l1_1 a1_2 a1_3 a1_4) else (some false))) else (some false)) = some r := H; have A33 := qO A330; clear A330
         by_cases c34 : t107 = true
         ·subst c34
          have H1 : ((impl_FieldDef_argAt.f a1_0 l1_1 a1_2 a1_3 a1_4 ((rd_T57 l1_1 x37_2).f0)).bind fun t108 => (if t108 = x37_2 then (impl_Schema_fieldOK.l0 k2 l1_1 (l1_1.length : Int) (wrap64 (x37_2 + 1)) a1_0 l1_1 a1_2 a1_3 a1_4) else (some false))) = some r := by rw [if_pos rfl] at H; exact H
          clear H; have H := H1; clear H1; replace H := Option.bind_eq_some_iff.mp H; obtain ⟨t108, A350, H⟩ := H; replace H : (if t108 = x37_2 then (impl_Schema_fieldOK.l0 k2 l1_1 (l1_1.length : Int) (wrap64 (x37_2 + 1)) a1_0 l1_1 a1_2 a1_3 a1_4) else (some false)) = some r := H; have A35 := qO A350; clear A350
          by_cases c36 : t108 = x37_2
          ·rw [if_pos c36] at H
           have c36b0 : (t108 == x37_2) = true := beq_iff_eq.mpr c36; have c36b1 : (t108 != x37_2) = false := bne_eq_false_iff_eq.mpr c36; clear c36; have H' := qO H; clear H; have p105 : 0 ≤ (x37_2 : Int) := qT qa4; have q105 : x37_2 < (l1_1.length : Int) := qT qa4; obtain ⟨ad105, e105, hx105_0, hx105_1⟩ := at_T57 HR1_1.out x37_2 p105 q105
           cases e105
           replace hx105_0 := (HB.out.cell (qL w _ hx105_0)).trans hx105_0; replace hx105_1 := (HB.out.cell (qL w _ hx105_1)).trans hx105_1; replace p105 := eq_true p105; replace q105 := eq_true q105
           go_wp2_with (first | ((with_reducible refine gate_dst (N := 6) rfl ?_); (try (refine gate_guard (by rfl) ?_; dsimp only)); refine box_event ?hg (N := 6) ?hd (cs := #[.string (⟨#[]⟩ : ByteArray), .bool false]) (t := 57) ?hr ?_; (case hd => rfl); (case hg => rfl); (case hr => exact qa18); intro gb106 hg w37 hbox hb; have hx_ := qHX HB hb qa0; have n0_ := qO (qB BK101.out hx_ hb); have n1_ := qO (qB BK102.out hx_ hb); have n2_ := qO (below_step (below_step HB.out hx_) hb); have n3_ := qO (hbox); have n4_ := qO ((qa11 : w.heap.size ≤ gb106)); have n5_ := n4_; have n6_ := qO ((qa23 : gb101 ≠ gb106)); have n7_ := qO (Ne.symm n6_.out); have n8_ := qO ((qa52 : gb102 ≠ gb106)); have n9_ := qO (Ne.symm n8_.out); clear BK101; clear BK102; clear HB; have BK101 := n0_; have BK102 := n1_; have HB := n2_; have BK106 := n3_; have GW106 := n4_; have GE106 := n5_; have NB101_106 := n6_; have NB106_101 := n7_; have NB102_106 := n8_; have NB106_102 := n9_; clear n0_ n1_ n2_ n3_ n4_ n5_ n6_ n7_ n8_ n9_; clear hx_; clear hb hbox hg; have hnb38 := NB106_101.out; have hnc38 := NB101_106.out; have hnb39 := NB106_102.out; have hnc39 := NB102_106.out; have hcz40_0 : w37.cell? ⟨gb106, 0, none⟩ = some (.string (⟨#[]⟩ : ByteArray)) := (blk_cell BK106.out 0).trans rfl; have hcz40_1 : w37.cell? ⟨gb106, 1, none⟩ = some (.bool false) := (blk_cell BK106.out 1).trans rfl; have hfz40_0 := blk_frozen BK106.out 0; have hfz40_1 := blk_frozen BK106.out 1) | ((with_reducible refine gate_callee (f := 35) rfl ?_); refine goesL_ (some 44) rfl rfl Try.func35 qa16 rfl #[.string ((rd_T57 l1_1 x37_2).f0)] rfl qa1 ?_; (with_reducible refine (impl_NameOK.calls k2 ((rd_T57 l1_1 x37_2).f0) true _ A33.out).mono ?_); rintro e w' ⟨rfl, ⟨nd, rfl⟩⟩; refine ⟨_, rfl, ?_⟩; have hnb41 := NB102_101.out; have hnc41 := NB101_102.out; have hcz42_0 : w37.cell? ⟨gb102, 0, none⟩ = some (.string a1_0) := (blk_cell BK102.out 0).trans rfl; have hcz42_1 : w37.cell? ⟨gb102, 1, none⟩ = some (.slice (some ad105) l1_1.length c1_1) := (blk_cell BK102.out 1).trans rfl; have hcz42_2 : w37.cell? ⟨gb102, 2, none⟩ = some (.string a1_2) := (blk_cell BK102.out 2).trans rfl; have hcz42_3 : w37.cell? ⟨gb102, 3, none⟩ = some (.bool a1_3) := (blk_cell BK102.out 3).trans rfl; have hcz42_4 : w37.cell? ⟨gb102, 4, none⟩ = some (.bool a1_4) := (blk_cell BK102.out 4).trans rfl; have hfz42_0 := blk_frozen BK102.out 0; have hfz42_1 := blk_frozen BK102.out 1; have hfz42_2 := blk_frozen BK102.out 2; have hfz42_3 := blk_frozen BK102.out 3; have hfz42_4 := blk_frozen BK102.out 4) | (go_at_call 61; (with_reducible refine (impl_FieldDef_argAt.calls a1_0 _ _ l1_1 a1_2 a1_3 a1_4 ((rd_T57 l1_1 x37_2).f0) t108 _ ?side1 ?side2 A35.out).mono ?_); (case side1 => exact qa85); (case side2 => exact HC1_1.out); rintro e w43 ⟨rfl, hb⟩; have n0_ := qO (blk_below (g := gb101) (o := .cells #[.slice A0_0 l0_0.length c0_0] 29 (0, 0)) qa56 hb); have n1_ := qO (blk_below (g := gb102) (o := .cells #[.string a1_0, .slice (some ad105) l1_1.length c1_1, .string a1_2, .bool a1_3, .bool a1_4] 38 (0, 0)) qa57 hb); have n2_ := qO (blk_below (g := gb106) (o := .cells #[.string ((rd_T57 l1_1 x37_2).f0), .bool ((rd_T57 l1_1 x37_2).f1)] 57 (0, 0)) qa47 hb); have n3_ := qO (below_step qa46 hb); clear BK101; clear BK102; clear BK106; clear HB; have BK101 := n0_; have BK102 := n1_; have BK106 := n2_; have HB := n3_; clear n0_ n1_ n2_ n3_; (try clear hb); (try clear hb2); (try clear hk); (try clear hi)))
           go_roundg k2
           case measure => have := HJ2.out; have := HK2.out; omega
           case rel => exact ⟨(wrap64 (x37_2 + 1)), qa10, H', ⟨by have := HJ2.out; have := HK2.out; omega⟩, ⟨qa12⟩, ⟨qa43⟩, ⟨qa46⟩⟩
          ·rw [if_neg c36] at H
           have c36b0 : (t108 == x37_2) = false := beq_eq_false_iff_ne.mpr c36; have c36b1 : (t108 != x37_2) = true := bne_iff_ne.mpr c36; obtain rfl := Option.some.inj H; have p105 : 0 ≤ (x37_2 : Int) := qT qa4; have q105 : x37_2 < (l1_1.length : Int) := qT qa4; obtain ⟨ad105, e105, hx105_0, hx105_1⟩ := at_T57 HR1_1.out x37_2 p105 q105
           cases e105
           replace hx105_0 := (HB.out.cell (qL w _ hx105_0)).trans hx105_0; replace hx105_1 := (HB.out.cell (qL w _ hx105_1)).trans hx105_1; replace p105 := eq_true p105; replace q105 := eq_true q105
           go_wp2_with (first | ((with_reducible refine gate_dst (N := 6) rfl ?_); (try (refine gate_guard (by rfl) ?_; dsimp only)); refine box_event ?hg (N := 6) ?hd (cs := #[.string (⟨#[]⟩ : ByteArray), .bool false]) (t := 57) ?hr ?_; (case hd => rfl); (case hg => rfl); (case hr => exact qa18); intro gb106 hg w44 hbox hb; have hx_ := qHX HB hb qa0; have n0_ := qO (qB BK101.out hx_ hb); have n1_ := qO (qB BK102.out hx_ hb); have n2_ := qO (below_step (below_step HB.out hx_) hb); have n3_ := qO (hbox); have n4_ := qO ((qa11 : w.heap.size ≤ gb106)); have n5_ := n4_; have n6_ := qO ((qa23 : gb101 ≠ gb106)); have n7_ := qO (Ne.symm n6_.out); have n8_ := qO ((qa52 : gb102 ≠ gb106)); have n9_ := qO (Ne.symm n8_.out); clear BK101; clear BK102; clear HB; have BK101 := n0_; have BK102 := n1_; have HB := n2_; have BK106 := n3_; have GW106 := n4_; have GE106 := n5_; have NB101_106 := n6_; have NB106_101 := n7_; have NB102_106 := n8_; have NB106_102 := n9_; clear n0_ n1_ n2_ n3_ n4_ n5_ n6_ n7_ n8_ n9_; clear hx_; clear hb hbox hg; have hnb45 := NB106_101.out; have hnc45 := NB101_106.out; have hnb46 := NB106_102.out; have hnc46 := NB102_106.out; have hcz47_0 : w44.cell? ⟨gb106, 0, none⟩ = some (.string (⟨#[]⟩ : ByteArray)) := (blk_cell BK106.out 0).trans rfl; have hcz47_1 : w44.cell? ⟨gb106, 1, none⟩ = some (.bool false) := (blk_cell BK106.out 1).trans rfl; have hfz47_0 := blk_frozen BK106.out 0; have hfz47_1 := blk_frozen BK106.out 1) | ((with_reducible refine gate_callee (f := 35) rfl ?_); refine goesL_ (some 44) rfl rfl Try.func35 qa16 rfl #[.string ((rd_T57 l1_1 x37_2).f0)] rfl qa1 ?_; (with_reducible refine (impl_NameOK.calls k2 ((rd_T57 l1_1 x37_2).f0) true _ A33.out).mono ?_); rintro e w' ⟨rfl, ⟨nd, rfl⟩⟩; refine ⟨_, rfl, ?_⟩; have hnb48 := NB102_101.out; have hnc48 := NB101_102.out; have hcz49_0 : w44.cell? ⟨gb102, 0, none⟩ = some (.string a1_0) := (blk_cell BK102.out 0).trans rfl; have hcz49_1 : w44.cell? ⟨gb102, 1, none⟩ = some (.slice (some ad105) l1_1.length c1_1) := (blk_cell BK102.out 1).trans rfl; have hcz49_2 : w44.cell? ⟨gb102, 2, none⟩ = some (.string a1_2) := (blk_cell BK102.out 2).trans rfl; have hcz49_3 : w44.cell? ⟨gb102, 3, none⟩ = some (.bool a1_3) := (blk_cell BK102.out 3).trans rfl; have hcz49_4 : w44.cell? ⟨gb102, 4, none⟩ = some (.bool a1_4) := (blk_cell BK102.out 4).trans rfl; have hfz49_0 := blk_frozen BK102.out 0; have hfz49_1 := blk_frozen BK102.out 1; have hfz49_2 := blk_frozen BK102.out 2; have hfz49_3 := blk_frozen BK102.out 3; have hfz49_4 := blk_frozen BK102.out 4) | (go_at_call 61; (with_reducible refine (impl_FieldDef_argAt.calls a1_0 _ _ l1_1 a1_2 a1_3 a1_4 ((rd_T57 l1_1 x37_2).f0) t108 _ ?side1 ?side2 A35.out).mono ?_); (case side1 => exact qa85); (case side2 => exact HC1_1.out); rintro e w50 ⟨rfl, hb⟩; have n0_ := qO (blk_below (g := gb101) (o := .cells #[.slice A0_0 l0_0.length c0_0] 29 (0, 0)) qa56 hb); have n1_ := qO (blk_below (g := gb102) (o := .cells #[.string a1_0, .slice (some ad105) l1_1.length c1_1, .string a1_2, .bool a1_3, .bool a1_4] 38 (0, 0)) qa57 hb); have n2_ := qO (blk_below (g := gb106) (o := .cells #[.string ((rd_T57 l1_1 x37_2).f0), .bool ((rd_T57 l1_1 x37_2).f1)] 57 (0, 0)) qa47 hb); have n3_ := qO (below_step qa46 hb); clear BK101; clear BK102; clear BK106; clear HB; have BK101 := n0_; have BK102 := n1_; have BK106 := n2_; have HB := n3_; clear n0_ n1_ n2_ n3_; (try clear hb); (try clear hb2); (try clear hk); (try clear hi)))
           go_ret
           exact ⟨qa3, qa46⟩
         ·replace c34 := Bool.eq_false_iff.mpr c34
          subst c34; have H1 : (some false) = some r := by rw [if_neg (show ¬ (false = true) by decide)] at H; exact H
          clear H; have H := H1; clear H1; obtain rfl := Option.some.inj H; have p105 : 0 ≤ (x37_2 : Int) := qT qa4; have q105 : x37_2 < (l1_1.length : Int) := qT qa4; obtain ⟨ad105, e105, hx105_0, hx105_1⟩ := at_T57 HR1_1.out x37_2 p105 q105
          cases e105
          replace hx105_0 := (HB.out.cell (qL w _ hx105_0)).trans hx105_0; replace hx105_1 := (HB.out.cell (qL w _ hx105_1)).trans hx105_1; replace p105 := eq_true p105; replace q105 := eq_true q105
          go_wp2_with (first | ((with_reducible refine gate_dst (N := 6) rfl ?_); (try (refine gate_guard (by rfl) ?_; dsimp only)); refine box_event ?hg (N := 6) ?hd (cs := #[.string (⟨#[]⟩ : ByteArray), .bool false]) (t := 57) ?hr ?_; (case hd => rfl); (case hg => rfl); (case hr => exact qa18); intro gb106 hg w51 hbox hb; have hx_ := qHX HB hb qa0; have n0_ := qO (qB BK101.out hx_ hb); have n1_ := qO (qB BK102.out hx_ hb); have n2_ := qO (below_step (below_step HB.out hx_) hb); have n3_ := qO (hbox); have n4_ := qO ((qa11 : w.heap.size ≤ gb106)); have n5_ := n4_; have n6_ := qO ((qa23 : gb101 ≠ gb106)); have n7_ := qO (Ne.symm n6_.out); have n8_ := qO ((qa52 : gb102 ≠ gb106)); have n9_ := qO (Ne.symm n8_.out); clear BK101; clear BK102; clear HB; have BK101 := n0_; have BK102 := n1_; have HB := n2_; have BK106 := n3_; have GW106 := n4_; have GE106 := n5_; have NB101_106 := n6_; have NB106_101 := n7_; have NB102_106 := n8_; have NB106_102 := n9_; clear n0_ n1_ n2_ n3_ n4_ n5_ n6_ n7_ n8_ n9_; clear hx_; clear hb hbox hg; have hnb52 := NB106_101.out; have hnc52 := NB101_106.out; have hnb53 := NB106_102.out; have hnc53 := NB102_106.out; have hcz54_0 : w51.cell? ⟨gb106, 0, none⟩ = some (.string (⟨#[]⟩ : ByteArray)) := (blk_cell BK106.out 0).trans rfl; have hcz54_1 : w51.cell? ⟨gb106, 1, none⟩ = some (.bool false) := (blk_cell BK106.out 1).trans rfl; have hfz54_0 := blk_frozen BK106.out 0; have hfz54_1 := blk_frozen BK106.out 1) | ((with_reducible refine gate_callee (f := 35) rfl ?_); refine goesL_ (some 44) rfl rfl Try.func35 qa16 rfl #[.string ((rd_T57 l1_1 x37_2).f0)] rfl qa1 ?_; (with_reducible refine (impl_NameOK.calls k2 ((rd_T57 l1_1 x37_2).f0) false _ A33.out).mono ?_); rintro e w' ⟨rfl, ⟨nd, rfl⟩⟩; refine ⟨_, rfl, ?_⟩))
          go_ret
          exact ⟨qa3, qa46⟩
        ·rw [if_neg c32] at H
         exact absurd H qa79
       ·rw [if_neg c31] at H
        exact absurd H qa79
      ·rw [if_neg c30] at H
       have c30b0 : decide (x37_2 < (l1_1.length : Int)) = false := decide_eq_false c30; clear c30; obtain rfl := Option.some.inj H; go_wp2
       go_ret
       exact ⟨qa3, qa8⟩


/-- The first place at which p holds, or -1. -/
def impl_FieldDef_62.fp (p : (S38) → Bool) (l0 : List (S38)) : Int := match l0.findIdx? p with | some i => (i : Int) | none => -1
theorem impl_FieldDef_62.hit (p : (S38) → Bool) (l0 : List (S38)) (kk : Nat) (x : (S38)) (hx : l0[kk]? = some x) (hp : p x = true) (hno : ∀ j, j < kk → ∀ x, l0[j]? = some x → p x = false) : impl_FieldDef_62.fp p l0 = kk := by
 unfold impl_FieldDef_62.fp
 have h : l0.findIdx? p = some kk := by
  rw [List.findIdx?_eq_some_iff_getElem]; obtain ⟨hl, he⟩ := List.getElem?_eq_some_iff.1 hx
  exact ⟨hl, by rw [he]; exact hp, fun j hj => by rw [hno j hj _ (List.getElem?_eq_getElem (Nat.lt_trans hj hl))]; simp⟩
 rw [h]
theorem impl_FieldDef_62.miss (p : (S38) → Bool) (l0 : List (S38)) (hno : ∀ j, j < l0.length → ∀ x, l0[j]? = some x → p x = false) : impl_FieldDef_62.fp p l0 = -1 := by
 unfold impl_FieldDef_62.fp
 have h : l0.findIdx? p = none := by
  rw [List.findIdx?_eq_none_iff]; intro x hx; obtain ⟨j, hj⟩ := List.getElem?_of_mem hx
  exact hno j (List.getElem?_eq_some_iff.1 hj).1 x hj
 rw [h]
set_option maxHeartbeats 4000000 in
set_option maxRecDepth 100000 in
theorem impl_FieldDef_62.callsP (A0 : Option Addr) (c0 : Nat) (l0 : List (S38)) (g : Nat) (cb : Array Value) (p : (S38) → Bool) (w : World) (eg : ∀ args w, (callFunc g args).run Try.prog w = .ok (.enter g args) w) (hr0 : Kd.C k38 w A0 l0.length l0)
  (hp : ∀ (W : World) (x : (S38)) (E1 : Option Addr) (e1 : Nat), x ∈ l0 → Below w.heap.size w W → Calls Try.prog g (#[.agg #[.string x.f0, .slice E1 x.f1.length e1, .string x.f2, .bool x.f3, .bool x.f4]] ++ cb) W fun e w' => e = .returned (.bool (p x)) ∧ Below w.heap.size w w') :
  Calls Try.prog 62 #[.slice A0 l0.length c0, .func (.func g) #[] cb] w fun e w' => e = .returned (.int .i64 (impl_FieldDef_62.fp p l0)) ∧ Below w.heap.size w w' := by
 have hlen := hr0.2.1; have HR := qO hr0; have HP := qO hp; clear hr0 hp; have isagg := Try.isAgg38
 go_enter Try.func62, Try.ntmps62
 go_wp2
 go_loopg [5, 8] l0.length (fun gg _ s8 wr => ∃ kk : Nat, kk ≤ l0.length ∧ l0.length - kk ≤ gg ∧ s8 = .int .i64 kk ∧ Aside0 (Below w.heap.size w wr) ∧ Aside0 (∀ j, j < kk → ∀ x, l0[j]? = some x → p x = false))
 case atStart => exact ⟨0, Nat.zero_le _, qa28, rfl, ⟨Below.refl _ w⟩, ⟨fun j hj => absurd hj (Nat.not_lt_zero _)⟩⟩
 case round =>
  obtain ⟨kk, hkk, hg, rfl, BW, No⟩ := hrel
  by_cases hlt : kk < l0.length
  ·have hltz : (kk : Int) < (l0.length : Int) := by omega
   obtain ⟨ad, E1, e1, e, hx0, hx1, hx2, hx3, hx4, hl1, hi1⟩ := at_T38 HR.out (kk : Int) qa28 hltz
   cases e
   replace hx0 := (BW.out.cell (qL w _ hx0)).trans hx0; replace hx1 := (BW.out.cell (qL w _ hx1)).trans hx1; replace hx2 := (BW.out.cell (qL w _ hx2)).trans hx2; replace hx3 := (BW.out.cell (qL w _ hx3)).trans hx3; replace hx4 := (BW.out.cell (qL w _ hx4)).trans hx4; simp only [Int.toNat_natCast] at hx0; simp only [Int.toNat_natCast] at hx1; simp only [Int.toNat_natCast] at hx2; simp only [Int.toNat_natCast] at hx3; simp only [Int.toNat_natCast] at hx4
   have hx : l0[kk]? = some (rd_T38 l0 (kk : Int)) := by
    rw [List.getElem?_eq_getElem hlt]
    show some l0[kk] = some (l0.getD (kk : Int).toNat _)
    rw [Int.toNat_natCast, List.getD_eq_getElem?_getD, List.getElem?_eq_getElem hlt]
    rfl
   clear hl1 hi1; have hcall := HP.out wr (rd_T38 l0 (kk : Int)) E1 e1 (List.mem_of_getElem? hx) BW.out; have HX := qO hx; clear hx; generalize rd_T38 l0 (kk : Int) = x at hcall HX hx0 hx1 hx2 hx3 hx4
   cases hq : p x with
   | true =>
    have HQ := qO hq; rw [hq] at hcall; clear hq
    go_wp2_with (go_at_fn g; refine hcall.mono ?_; rintro e w' ⟨rfl, hb'⟩)
    go_ret
    exact ⟨by rw [impl_FieldDef_62.hit p l0 kk x HX.out HQ.out No.out]; rfl, hb'⟩
   | false =>
    have HQ := qO hq; rw [hq] at hcall; clear hq
    go_wp2_with (go_at_fn g; refine hcall.mono ?_; rintro e w' ⟨rfl, hb'⟩)
    go_roundg (l0.length - (kk + 1))
    case measure => omega
    case rel =>
     refine ⟨kk + 1, qa28, qa28, by go_num, ⟨hb'⟩, ⟨fun j hj x' hx' => ?_⟩⟩
     by_cases e : j = kk
     ·subst e
      rw [HX.out] at hx'; obtain rfl := Option.some.inj hx'
      exact HQ.out
     ·exact No.out j qa28 x' hx'
  ·have hltz : ¬ (kk : Int) < (l0.length : Int) := by omega
   have hk : kk = l0.length := by omega
   have HK := qO hk; clear hk; go_wp2
   go_ret
   exact ⟨by rw [impl_FieldDef_62.miss p l0 (fun j hj => No.out j (by rw [HK.out]; exact hj))]; rfl, BW.out⟩


set_option maxHeartbeats 4000000 in
set_option maxRecDepth 100000 in
theorem impl_TypeDef_fieldAt_1.callsQ (x : S38) (E1 : Option Addr) (e1 : Nat) (gs : Nat) (y0 : ByteArray) (w : World) (hs : w.heap[gs]? = some (.cells #[.string y0] 9 (0, 0))) :
  Calls Try.prog 63 #[.agg #[.string x.f0, .slice E1 x.f1.length e1, .string x.f2, .bool x.f3, .bool x.f4], .pointer (some ⟨gs, 0, none⟩)] w fun e w' => e = .returned (.bool (x.f0.toList == y0.toList)) ∧ Below w.heap.size w w' := by
 have hu := Try.underlying38; have HS := qO hs; clear hs
 go_enter Try.func63, Try.ntmps63
 go_wp2_with (first | ((with_reducible refine gate_dst (N := 2) rfl ?_); refine box_event ?hg (N := 2) ?hd (cs := #[.string x.f0, .slice E1 x.f1.length e1, .string x.f2, .bool x.f3, .bool x.f4]) (t := 38) ?hr ?_; (case hd => rfl); (case hg => rfl); (case hr => exact qa18); intro gb hg w1 hbox hb; have K1 := qO (blk_below (g := gs) HS.out hb); have B1 := qO hb; have hcz0 : w1.cell? ⟨gb, 0, none⟩ = some (.string x.f0) := (blk_cell hbox 0).trans rfl; have hcz1 : w1.cell? ⟨gb, 1, none⟩ = some (.slice E1 x.f1.length e1) := (blk_cell hbox 1).trans rfl; have hcz2 : w1.cell? ⟨gb, 2, none⟩ = some (.string x.f2) := (blk_cell hbox 2).trans rfl; have hcz3 : w1.cell? ⟨gb, 3, none⟩ = some (.bool x.f3) := (blk_cell hbox 3).trans rfl; have hcz4 : w1.cell? ⟨gb, 4, none⟩ = some (.bool x.f4) := (blk_cell hbox 4).trans rfl; have hcw0 : w1.cell? ⟨gs, 0, none⟩ = some (.string y0) := (blk_cell K1.out 0).trans rfl; clear hg hb hbox))
 go_ret
 exact ⟨rfl, B1.out⟩
def clo62_63.f (l0 : List (S38)) (a1_0 : ByteArray) : Option Int := some (impl_FieldDef_62.fp (fun x => (x.f0.toList == a1_0.toList)) l0)
theorem clo62_63.calls (A0 : Option Addr) (c0 : Nat) (l0 : List (S38)) (a1_0 : ByteArray) (r : Int) (w : World) (hr0 : Kd.C k38 w A0 l0.length l0) (hc0 : l0.length ≤ c0) (h : clo62_63.f l0 a1_0 = some r) (gs : Nat) (hs : w.heap[gs]? = some (.cells #[.string a1_0] 9 (0, 0))) :
  Calls Try.prog 62 #[.slice A0 l0.length c0, .func (.func 63) #[] #[.pointer (some ⟨gs, 0, none⟩)]] w fun e w' => e = .returned (.int .i64 r) ∧ Below w.heap.size w w' := by
 obtain rfl := Option.some.inj h; have eg : ∀ args w, (callFunc 63 args).run Try.prog w = .ok (.enter 63 args) w := enters_of Try.func63 qa16 rfl
 exact impl_FieldDef_62.callsP A0 c0 l0 63 #[.pointer (some ⟨gs, 0, none⟩)] (fun x => (x.f0.toList == a1_0.toList)) w eg hr0 (fun W x E1 e1 _ hb => (impl_TypeDef_fieldAt_1.callsQ x E1 e1 gs a1_0 W (blk_below hs hb)).mono qa100)
def impl_TypeDef_fieldAt.f (a0_0 : ByteArray) (l0_1 : List (S38)) (a1 : ByteArray) : Option (Int) := (clo62_63.f l0_1 a1).bind fun t103 => (some t103)
set_option maxHeartbeats 8000000 in
set_option maxRecDepth 100000 in
theorem impl_TypeDef_fieldAt.calls (a0_0 : ByteArray) (A0_1 : Option Addr) (c0_1 : Nat) (l0_1 : List (S38)) (a1 : ByteArray) (r : Int) (w : World) (hr0_1 : Kd.C k38 w A0_1 l0_1.length l0_1) (hc0_1 : l0_1.length ≤ c0_1) (h : impl_TypeDef_fieldAt.f a0_0 l0_1 a1 = some r) :
  Calls Try.prog 37 #[.agg #[.string a0_0, .slice A0_1 l0_1.length c0_1], .string a1] w fun e w' => e = .returned (.int .i64 r) ∧ Below w.heap.size w w' := by
 have hu53 := Try.underlying53; have hu9 := Try.underlying9; have HR0_1 := qO hr0_1; have HC0_1 := qO hc0_1; clear hr0_1 hc0_1; have HB := qO (Below.refl w.heap.size w); have H : ((clo62_63.f l0_1 a1).bind fun t103 => (some t103)) = some r := h; clear h; replace H := Option.bind_eq_some_iff.mp H; obtain ⟨t103, A30, H⟩ := H; replace H : (some t103) = some r := H; have A3 := qO A30; clear A30; obtain rfl := Option.some.inj H
 go_enter Try.func37, Try.ntmps37
 go_wp2_with (first | ((with_reducible refine gate_dst (N := 2) rfl ?_); refine box_event ?hg (N := 2) ?hd (cs := #[.string a0_0, .slice A0_1 l0_1.length c0_1]) (t := 53) ?hr ?_; (case hd => rfl); (case hg => rfl); (case hr => exact qa18); intro gb101 hg w4 hbox hb; have hx_ := qHX HB hb qa0; have n0_ := qO (below_step (below_step HB.out hx_) hb); have n1_ := qO (hbox); have n2_ := qO ((qa11 : w.heap.size ≤ gb101)); have n3_ := n2_; clear HB; have HB := n0_; have BK101 := n1_; have GW101 := n2_; have GE101 := n3_; clear n0_ n1_ n2_ n3_; clear hx_; clear hb hbox hg) | ((with_reducible refine gate_dst (N := 3) rfl ?_); refine box_event ?hg (N := 3) ?hd (cs := #[.string a1]) (t := 9) ?hr ?_; (case hd => rfl); (case hg => rfl); (case hr => exact qa18); intro gb102 hg w5 hbox hb; have hx_ := qHX HB hb qa0; have n0_ := qO (qB BK101.out hx_ hb); have n1_ := qO (below_step (below_step HB.out hx_) hb); have n2_ := qO (hbox); have n3_ := qO ((qa11 : w.heap.size ≤ gb102)); have n4_ := n3_; have n5_ := qO ((qa38 : gb101 ≠ gb102)); have n6_ := qO (Ne.symm n5_.out); clear BK101; clear HB; have BK101 := n0_; have HB := n1_; have BK102 := n2_; have GW102 := n3_; have GE102 := n4_; have NB101_102 := n5_; have NB102_101 := n6_; clear n0_ n1_ n2_ n3_ n4_ n5_ n6_; clear hx_; clear hb hbox hg; have hnb6 := NB101_102.out; have hnc6 := NB102_101.out; have hcz7_0 : w5.cell? ⟨gb101, 0, none⟩ = some (.string a0_0) := (blk_cell BK101.out 0).trans rfl; have hcz7_1 : w5.cell? ⟨gb101, 1, none⟩ = some (.slice A0_1 l0_1.length c0_1) := (blk_cell BK101.out 1).trans rfl; have hfz7_0 := blk_frozen BK101.out 0; have hfz7_1 := blk_frozen BK101.out 1; have hcz8_0 : w5.cell? ⟨gb102, 0, none⟩ = some (.string a1) := (blk_cell BK102.out 0).trans rfl; have hfz8_0 := blk_frozen BK102.out 0) | ((with_reducible refine gate_callee (f := 62) rfl ?_); refine goesL_ (some 8) rfl rfl Try.func62 qa16 rfl #[.slice A0_1 l0_1.length c0_1, .func (.func 63) #[] #[.pointer (some ⟨gb102, 0, none⟩)]] rfl qa1 ?_; (with_reducible refine (clo62_63.calls _ _ l0_1 a1 t103 _ ?side1 ?side2 A3.out gb102 qa43).mono ?_); (case side1 => exact qa26); (case side2 => exact HC0_1.out); rintro e w9 ⟨rfl, hb⟩; have hx_ := qHX HB hb qa0; refine ⟨_, rfl, ?_⟩; have n0_ := qO (qB BK101.out hx_ hb); have n1_ := qO (qB BK102.out hx_ hb); have n2_ := qO (below_step (below_step HB.out hx_) hb); clear BK101; clear BK102; clear HB; have BK101 := n0_; have BK102 := n1_; have HB := n2_; clear n0_ n1_ n2_; clear hx_; (try clear hb); (try clear hb2); (try clear hk); (try clear hi)))
 go_ret
 exact ⟨qa3, qa8⟩


mutual
def impl_SchemaOK.j0 : Nat → Bool → List (S53) → Option (Bool)
 | 0, _, _ => none
 | k + 1, x16, x102000 => if x16 = true then (some false) else (impl_SchemaOK.l0 k x102000 (x102000.length : Int) 0 x102000)
def impl_SchemaOK.l0 : Nat → List (S53) → Int → Int → List (S53) → Option (Bool)
 | 0, _, _, _, _ => none
 | k + 1, x18, x19, x20, x102000 => if x20 < x19 then (if 0 ≤ x20 then (if x20 < (x18.length : Int) then ((impl_NameOK.f k ((rd_T53 x18 x20).f0)).bind fun t106 => (if t106 = true then (if ((rd_T53 x18 x20).f0).toList = ([73, 110, 116] : List UInt8) then (impl_SchemaOK.j2 k x18 x19 x20 true x102000 ((rd_T53 x18 x20).f0) ((rd_T53 x18 x20).f1)) else ((impl_Schema_typeAt.f x102000 ((rd_T53 x18 x20).f0)).bind fun t107 => (if t107 = x20 then ((impl_within.f (((rd_T53 x18 x20).f1).length : Int) 1 10).bind fun t108 => (impl_SchemaOK.j2 k x18 x19 x20 (!t108) x102000 ((rd_T53 x18 x20).f0) ((rd_T53 x18 x20).f1))) else (impl_SchemaOK.j2 k x18 x19 x20 true x102000 ((rd_T53 x18 x20).f0) ((rd_T53 x18 x20).f1))))) else (impl_SchemaOK.j2 k x18 x19 x20 true x102000 ((rd_T53 x18 x20).f0) ((rd_T53 x18 x20).f1)))) else (none)) else (none)) else (some true)
def impl_SchemaOK.j2 : Nat → List (S53) → Int → Int → Bool → List (S53) → ByteArray → List (S38) → Option (Bool)
 | 0, _, _, _, _, _, _, _ => none
 | k + 1, x18, x19, x20, x48, x102000, x106000, x106001 => if x48 = true then (some false) else (impl_SchemaOK.l1 k x18 x19 x20 x106001 (x106001.length : Int) 0 x102000 x106000 x106001)
def impl_SchemaOK.l1 : Nat → List (S53) → Int → Int → List (S38) → Int → Int → List (S53) → ByteArray → List (S38) → Option (Bool)
 | 0, _, _, _, _, _, _, _, _, _ => none
 | k + 1, x18, x19, x20, x50, x51, x52, x102000, x106000, x106001 => if x52 < x51 then (if 0 ≤ x52 then (if x52 < (x50.length : Int) then ((impl_Schema_fieldOK.f k x102000 ((rd_T38 x50 x52).f0) ((rd_T38 x50 x52).f1) ((rd_T38 x50 x52).f2) ((rd_T38 x50 x52).f3) ((rd_T38 x50 x52).f4)).bind fun t111 => (if t111 = true then ((impl_TypeDef_fieldAt.f x106000 x106001 ((rd_T38 x50 x52).f0)).bind fun t112 => (if t112 = x52 then (impl_SchemaOK.l1 k x18 x19 x20 x50 x51 (wrap64 (x52 + 1)) x102000 x106000 x106001) else (some false))) else (some false))) else (none)) else (none)) else (impl_SchemaOK.l0 k x18 x19 (wrap64 (x20 + 1)) x102000)
end
def impl_SchemaOK.f (k : Nat) (l0_0 : List (S53)) : Option (Bool) := (impl_within.f (l0_0.length : Int) 1 8).bind fun t102 => (if t102 = true then ((impl_Schema_typeAt.f l0_0 (⟨#[81, 117, 101, 114, 121]⟩ : ByteArray)).bind fun t103 => (impl_SchemaOK.j0 k (decide (t103 < 0)) l0_0)) else (impl_SchemaOK.j0 k true l0_0))
set_option maxHeartbeats 8000000 in
set_option maxRecDepth 100000 in
theorem impl_SchemaOK.calls (k : Nat) (A0_0 : Option Addr) (c0_0 : Nat) (l0_0 : List (S53)) (r : Bool) (w : World) (hr0_0 : Kd.C k53 w A0_0 l0_0.length l0_0) (hc0_0 : l0_0.length ≤ c0_0) (h : impl_SchemaOK.f k l0_0 = some r) :
  Calls Try.prog 11 #[.agg #[.slice A0_0 l0_0.length c0_0]] w fun e w' => e = .returned (.bool r) ∧ Below w.heap.size w w' := by
 have hu29 := Try.underlying29; have hu53 := Try.underlying53; have hu38 := Try.underlying38; have HR0_0 := qO hr0_0; have HC0_0 := qO hc0_0; clear hr0_0 hc0_0; have HB := qO (Below.refl w.heap.size w); have H : ((impl_within.f (l0_0.length : Int) 1 8).bind fun t102 => (if t102 = true then ((impl_Schema_typeAt.f l0_0 (⟨#[81, 117, 101, 114, 121]⟩ : ByteArray)).bind fun t103 => (impl_SchemaOK.j0 k (decide (t103 < 0)) l0_0)) else (impl_SchemaOK.j0 k true l0_0))) = some r := h; clear h; have HC2 := qO H; clear H
 go_enter Try.func11, Try.ntmps11
 go_upto_region 1 with (first | ((with_reducible refine gate_dst (N := 1) rfl ?_); (try (refine gate_guard (by rfl) ?_; dsimp only)); refine box_event ?hg (N := 1) ?hd (cs := #[.slice A0_0 l0_0.length c0_0]) (t := 29) ?hr ?_; (case hd => rfl); (case hg => rfl); (case hr => exact qa18); intro gb101 hg w3 hbox hb; have n0_ := qO (below_step qa13 hb); have n1_ := qO (hbox); have n2_ := qO ((qa51 : w.heap.size ≤ gb101)); have n3_ := qO ((qa51 : w.heap.size ≤ gb101)); clear HB; have HB := n0_; have BK101 := n1_; have GW101 := n2_; have GE101 := n3_; clear n0_ n1_ n2_ n3_; clear hb hbox hg))
 (try simp only [Act.put, qzA, qzB, qzC])
 go_cut [16] (fun v16 wc => ∃ (kq : Nat) (x16_1 : Bool), v16 = .bool x16_1 ∧ Aside0 (impl_SchemaOK.j0 kq x16_1 l0_0 = some r) ∧ Aside0 (kq ≤ k) ∧ Aside0 (wc.heap[gb101]? = some (.cells #[(.slice A0_0 l0_0.length c0_0)] 29 (0, 0))) ∧ Aside0 (Below w.heap.size w wc))
 case first =>
  have H := HC2.out; clear HC2; replace H := Option.bind_eq_some_iff.mp H; obtain ⟨t102, A40, H⟩ := H; replace H : (if t102 = true then ((impl_Schema_typeAt.f l0_0 (⟨#[81, 117, 101, 114, 121]⟩ : ByteArray)).bind fun t103 => (impl_SchemaOK.j0 k (decide (t103 < 0)) l0_0)) else (impl_SchemaOK.j0 k true l0_0)) = some r := H; have A4 := qO A40; clear A40
  by_cases c5 : t102 = true
  ·subst c5
   have H1 : ((impl_Schema_typeAt.f l0_0 (⟨#[81, 117, 101, 114, 121]⟩ : ByteArray)).bind fun t103 => (impl_SchemaOK.j0 k (decide (t103 < 0)) l0_0)) = some r := by rw [if_pos rfl] at H; exact H
   clear H; have H := H1; clear H1; replace H := Option.bind_eq_some_iff.mp H; obtain ⟨t103, A60, H⟩ := H; replace H : (impl_SchemaOK.j0 k (decide (t103 < 0)) l0_0) = some r := H; have A6 := qO A60; clear A60; have H' := qO H; clear H; have hcz7_0 : w3.cell? ⟨gb101, 0, none⟩ = some (.slice A0_0 l0_0.length c0_0) := (blk_cell BK101.out 0).trans rfl; have hfz7_0 := blk_frozen BK101.out 0
   go_wp2_with (first | ((with_reducible refine gate_callee (f := 33) rfl ?_); refine goesL_ (some 10) rfl rfl Try.func33 qa16 rfl #[.int .i64 (l0_0.length : Int), .int .i64 1, .int .i64 8] rfl qa1 ?_; (with_reducible refine (impl_within.calls (l0_0.length : Int) 1 8 true _ A4.out).mono ?_); rintro e w' ⟨rfl, ⟨nd, rfl⟩⟩; refine ⟨_, rfl, ?_⟩) | (go_at_call 34; (with_reducible refine (impl_Schema_typeAt.calls _ _ l0_0 (⟨#[81, 117, 101, 114, 121]⟩ : ByteArray) t103 _ ?side1 ?side2 A6.out).mono ?_); (case side1 => exact qa69); (case side2 => exact HC0_0.out); rintro e w8 ⟨rfl, hb⟩; have hx_ := qHX HB hb qa0; have n0_ := qO (qB BK101.out hx_ hb); have n1_ := qO (below_step (below_step HB.out hx_) hb); clear BK101; clear HB; have BK101 := n0_; have HB := n1_; clear n0_ n1_; clear hx_; (try clear hb); (try clear hb2); (try clear hk); (try clear hi)))
   go_meet
   case rel => exact ⟨_, (decide (t103 < 0)), qa10, H', ⟨qa87⟩, ⟨qa12⟩, ⟨qa9⟩⟩
  ·replace c5 := Bool.eq_false_iff.mpr c5
   subst c5; have H1 : (impl_SchemaOK.j0 k true l0_0) = some r := by rw [if_neg (show ¬ (false = true) by decide)] at H; exact H
   clear H; have H := H1; clear H1; have H' := qO H; clear H; have hcz9_0 : w3.cell? ⟨gb101, 0, none⟩ = some (.slice A0_0 l0_0.length c0_0) := (blk_cell BK101.out 0).trans rfl; have hfz9_0 := blk_frozen BK101.out 0
   go_wp2_with (first | ((with_reducible refine gate_callee (f := 33) rfl ?_); refine goesL_ (some 10) rfl rfl Try.func33 qa16 rfl #[.int .i64 (l0_0.length : Int), .int .i64 1, .int .i64 8] rfl qa1 ?_; (with_reducible refine (impl_within.calls (l0_0.length : Int) 1 8 false _ A4.out).mono ?_); rintro e w' ⟨rfl, ⟨nd, rfl⟩⟩; refine ⟨_, rfl, ?_⟩))
   go_meet
   case rel => exact ⟨_, (true), qa10, H', ⟨qa87⟩, ⟨qa12⟩, ⟨qa9⟩⟩
 case rest =>
  clear HC2
  try clear c1
  try clear p2
  try clear c3
  try clear c5
  try clear hcz7_0
  try clear hcz9_0
  try clear hfz7_0
  try clear hfz9_0
  obtain ⟨kq, x16_1, rfl, HA, HJ1, BK101, HB⟩ := hcut
  cases kq with
  | zero => exact absurd HA.out (by simp [impl_SchemaOK.j0])
  | succ kj1 =>
   have H := HA.out; clear HA; simp only [impl_SchemaOK.j0] at H
   by_cases c10 : x16_1 = true
   ·subst c10
    have H1 : (some false) = some r := by rw [if_pos rfl] at H; exact H
    clear H; have H := H1; clear H1; obtain rfl := Option.some.inj H; go_wp2
    go_ret
    exact ⟨qa3, qa9⟩
   ·replace c10 := Bool.eq_false_iff.mpr c10
    subst c10; have H1 : (impl_SchemaOK.l0 kj1 l0_0 (l0_0.length : Int) 0 l0_0) = some r := by rw [if_neg (show ¬ (false = true) by decide)] at H; exact H
    clear H; have H := H1; clear H1; have H' := qO H; clear H; have hcz11_0 : wc.cell? ⟨gb101, 0, none⟩ = some (.slice A0_0 l0_0.length c0_0) := (blk_cell BK101.out 0).trans rfl; have hfz11_0 := blk_frozen BK101.out 0; go_wp2
    go_loopg [20] kj1 (fun kq v20 w' => ∃ (x20_2 : Int), v20 = .int .i64 x20_2 ∧ Aside0 (impl_SchemaOK.l0 kq l0_0 (l0_0.length : Int) x20_2 l0_0 = some r) ∧ Aside0 (kq ≤ kj1) ∧ Aside0 (w'.heap[gb101]? = some (.cells #[(.slice A0_0 l0_0.length c0_0)] 29 (0, 0))) ∧ Aside0 (Below w.heap.size w w'))
    case atStart => exact ⟨(0), qa10, H', ⟨Nat.le_refl _⟩, ⟨qa12⟩, ⟨qa9⟩⟩
    case round =>
     clear H'
     try clear c1
     try clear p2
     try clear c3
     try clear c5
     try clear c10
     try clear c11
     try clear hcz11_0
     try clear hcz7_0
     try clear hcz9_0
     try clear hfz11_0
     try clear hfz7_0
     try clear hfz9_0
     try clear p2
     obtain ⟨x20_2, rfl, HA, HK2, BK101, HB⟩ := hrel
     cases gk with
     | zero => exact absurd HA.out (by simp [impl_SchemaOK.l0])
     | succ k2 =>
      have H := HA.out; clear HA; simp only [impl_SchemaOK.l0] at H
      by_cases c12 : x20_2 < (l0_0.length : Int)
      ·rw [if_pos c12] at H
       have c12b0 : decide (x20_2 < (l0_0.length : Int)) = true := decide_eq_true c12; clear c12
       by_cases c13 : 0 ≤ x20_2
       ·rw [if_pos c13] at H
        have c13b0 : decide (0 ≤ x20_2) = true := decide_eq_true c13; clear c13
        by_cases c14 : x20_2 < (l0_0.length : Int)
        ·rw [if_pos c14] at H
         have c14b0 : decide (x20_2 < (l0_0.length : Int)) = true := decide_eq_true c14; clear c14; have HC15 := qO H; clear H; have p104 : 0 ≤ (x20_2 : Int) := qT qa4; have q104 : x20_2 < (l0_0.length : Int) := qT qa4; obtain ⟨ad104, A104_1, c104_1, e104, hx104_0, hx104_1, hl104_1, hi104_1⟩ := at_T53 HR0_0.out x20_2 p104 q104
         cases e104
         replace hx104_0 := (HB.out.cell (qL w _ hx104_0)).trans hx104_0; replace hx104_1 := (HB.out.cell (qL w _ hx104_1)).trans hx104_1; have HR104_1 := qO hi104_1; have HC104_1 := qO hl104_1; clear hi104_1 hl104_1; replace p104 := eq_true p104; replace q104 := eq_true q104
         go_upto_region 6 with (first | ((with_reducible refine gate_dst (N := 4) rfl ?_); (try (refine gate_guard (by rfl) ?_; dsimp only)); refine box_event ?hg (N := 4) ?hd (cs := #[.string (⟨#[]⟩ : ByteArray), .slice none 0 0]) (t := 53) ?hr ?_; (case hd => rfl); (case hg => rfl); (case hr => exact qa18); intro gb105 hg w16 hbox hb; have n0_ := qO (blk_below (g := gb101) (o := .cells #[.slice (some ad104) l0_0.length c0_0] 29 (0, 0)) qa12 hb); have n1_ := qO (below_step qa9 hb); have n2_ := qO (hbox); have n3_ := qO ((qa44 : w.heap.size ≤ gb105)); have n4_ := qO ((qa44 : w.heap.size ≤ gb105)); have n5_ := qO ((qa39 : gb101 ≠ gb105)); have n6_ := qO ((qa59 : gb105 ≠ gb101)); clear BK101; clear HB; have BK101 := n0_; have HB := n1_; have BK105 := n2_; have GW105 := n3_; have GE105 := n4_; have NB101_105 := n5_; have NB105_101 := n6_; clear n0_ n1_ n2_ n3_ n4_ n5_ n6_; clear hb hbox hg; have hnb17 := NB105_101.out; have hnc17 := NB101_105.out; have hcz18_0 : w16.cell? ⟨gb105, 0, none⟩ = some (.string (⟨#[]⟩ : ByteArray)) := (blk_cell BK105.out 0).trans rfl; have hcz18_1 : w16.cell? ⟨gb105, 1, none⟩ = some (.slice none 0 0) := (blk_cell BK105.out 1).trans rfl; have hfz18_0 := blk_frozen BK105.out 0; have hfz18_1 := blk_frozen BK105.out 1))
         (try simp only [Act.put, qzA, qzB, qzC])
         go_cut [48] (fun v48 wc => ∃ (kq : Nat) (x48_14 : Bool), v48 = .bool x48_14 ∧ Aside0 (impl_SchemaOK.j2 kq l0_0 (l0_0.length : Int) x20_2 x48_14 l0_0 ((rd_T53 l0_0 x20_2).f0) ((rd_T53 l0_0 x20_2).f1) = some r) ∧ Aside0 (kq ≤ k2) ∧ Aside0 (wc.heap[gb101]? = some (.cells #[(.slice (some ad104) l0_0.length c0_0)] 29 (0, 0))) ∧ Aside0 (wc.heap[gb105]? = some (.cells #[.string ((rd_T53 l0_0 x20_2).f0), (.slice A104_1 ((rd_T53 l0_0 x20_2).f1).length c104_1)] 53 (0, 0))) ∧ Aside0 (Below w.heap.size w wc))
         case first =>
          have H := HC15.out; clear HC15; replace H := Option.bind_eq_some_iff.mp H; obtain ⟨t106, A190, H⟩ := H; replace H : (if t106 = true then (if ((rd_T53 l0_0 x20_2).f0).toList = ([73, 110, 116] : List UInt8) then (impl_SchemaOK.j2 k2 l0_0 (l0_0.length : Int) x20_2 true l0_0 ((rd_T53 l0_0 x20_2).f0) ((rd_T53 l0_0 x20_2).f1)) else ((impl_Schema_typeAt.f l0_0 ((rd_T53 l0_0 x20_2).f0)).bind fun t107 => (if t107 = x20_2 then ((impl_within.f (((rd_T53 l0_0 x20_2).f1).length : Int) 1 10).bind fun t108 => (impl_SchemaOK.j2 k2 l0_0 (l0_0.length : Int) x20_2 (!t108) l0_0 ((rd_T53 l0_0 x20_2).f0) ((rd_T53 l0_0 x20_2).f1))) else (impl_SchemaOK.j2 k2 l0_0 (l0_0.length : Int) x20_2 true l0_0 ((rd_T53 l0_0 x20_2).f0) ((rd_T53 l0_0 x20_2).f1))))) else (impl_SchemaOK.j2 k2 l0_0 (l0_0.length : Int) x20_2 true l0_0 ((rd_T53 l0_0 x20_2).f0) ((rd_T53 l0_0 x20_2).f1))) = some r := H; have A19 := qO A190; clear A190
          by_cases c20 : t106 = true
          ·subst c20
           have H1 : (if ((rd_T53 l0_0 x20_2).f0).toList = ([73, 110, 116] : List UInt8) then (impl_SchemaOK.j2 k2 l0_0 (l0_0.length : Int) x20_2 true l0_0 ((rd_T53 l0_0 x20_2).f0) ((rd_T53 l0_0 x20_2).f1)) else ((impl_Schema_typeAt.f l0_0 ((rd_T53 l0_0 x20_2).f0)).bind fun t107 => (if t107 = x20_2 then ((impl_within.f (((rd_T53 l0_0 x20_2).f1).length : Int) 1 10).bind fun t108 => (impl_SchemaOK.j2 k2 l0_0 (l0_0.length : Int) x20_2 (!t108) l0_0 ((rd_T53 l0_0 x20_2).f0) ((rd_T53 l0_0 x20_2).f1))) else (impl_SchemaOK.j2 k2 l0_0 (l0_0.length : Int) x20_2 true l0_0 ((rd_T53 l0_0 x20_2).f0) ((rd_T53 l0_0 x20_2).f1))))) = some r := by rw [if_pos rfl] at H; exact H
           clear H; have H := H1; clear H1
           by_cases c21 : ((rd_T53 l0_0 x20_2).f0).toList = ([73, 110, 116] : List UInt8)
           ·rw [if_pos c21] at H
            have c21b0 : (((rd_T53 l0_0 x20_2).f0).toList == ([73, 110, 116] : List UInt8)) = true := beq_iff_eq.mpr c21; have c21b1 : (((rd_T53 l0_0 x20_2).f0).toList != ([73, 110, 116] : List UInt8)) = false := bne_eq_false_iff_eq.mpr c21; clear c21; (first | rw [c21b0] | (simp only [i64_w, i32_w]; rw [c21b0]) | skip); have H' := qO H; clear H; have hnb22 := NB105_101.out; have hnc22 := NB101_105.out; have hcz23_0 : w16.cell? ⟨gb105, 0, none⟩ = some (.string (⟨#[]⟩ : ByteArray)) := (blk_cell BK105.out 0).trans rfl; have hcz23_1 : w16.cell? ⟨gb105, 1, none⟩ = some (.slice none 0 0) := (blk_cell BK105.out 1).trans rfl; have hfz23_0 := blk_frozen BK105.out 0; have hfz23_1 := blk_frozen BK105.out 1
            go_wp2_with (first | ((with_reducible refine gate_callee (f := 35) rfl ?_); refine goesL_ (some 27) rfl rfl Try.func35 qa16 rfl #[.string ((rd_T53 l0_0 x20_2).f0)] rfl qa1 ?_; (with_reducible refine (impl_NameOK.calls k2 ((rd_T53 l0_0 x20_2).f0) true _ A19.out).mono ?_); rintro e w' ⟨rfl, ⟨nd, rfl⟩⟩; refine ⟨_, rfl, ?_⟩))
            go_meet
            case rel => exact ⟨_, (true), qa10, H', ⟨qa68⟩, ⟨qa24⟩, ⟨qa30⟩, ⟨qa22⟩⟩
           ·rw [if_neg c21] at H
            have c21b0 : (((rd_T53 l0_0 x20_2).f0).toList == ([73, 110, 116] : List UInt8)) = false := beq_eq_false_iff_ne.mpr c21; have c21b1 : (((rd_T53 l0_0 x20_2).f0).toList != ([73, 110, 116] : List UInt8)) = true := bne_iff_ne.mpr c21; (first | rw [c21b0] | (simp only [i64_w, i32_w]; rw [c21b0]) | skip); replace H := Option.bind_eq_some_iff.mp H; obtain ⟨t107, A240, H⟩ := H; replace H : (if t107 = x20_2 then ((impl_within.f (((rd_T53 l0_0 x20_2).f1).length : Int) 1 10).bind fun t108 => (impl_SchemaOK.j2 k2 l0_0 (l0_0.length : Int) x20_2 (!t108) l0_0 ((rd_T53 l0_0 x20_2).f0) ((rd_T53 l0_0 x20_2).f1))) else (impl_SchemaOK.j2 k2 l0_0 (l0_0.length : Int) x20_2 true l0_0 ((rd_T53 l0_0 x20_2).f0) ((rd_T53 l0_0 x20_2).f1))) = some r := H; have A24 := qO A240; clear A240
            by_cases c25 : t107 = x20_2
            ·rw [if_pos c25] at H
             have c25b0 : (t107 == x20_2) = true := beq_iff_eq.mpr c25; have c25b1 : (t107 != x20_2) = false := bne_eq_false_iff_eq.mpr c25; clear c25; replace H := Option.bind_eq_some_iff.mp H; obtain ⟨t108, A260, H⟩ := H; replace H : (impl_SchemaOK.j2 k2 l0_0 (l0_0.length : Int) x20_2 (!t108) l0_0 ((rd_T53 l0_0 x20_2).f0) ((rd_T53 l0_0 x20_2).f1)) = some r := H; have A26 := qO A260; clear A260; have H' := qO H; clear H; have hnb27 := NB105_101.out; have hnc27 := NB101_105.out; have hcz28_0 : w16.cell? ⟨gb105, 0, none⟩ = some (.string (⟨#[]⟩ : ByteArray)) := (blk_cell BK105.out 0).trans rfl; have hcz28_1 : w16.cell? ⟨gb105, 1, none⟩ = some (.slice none 0 0) := (blk_cell BK105.out 1).trans rfl; have hfz28_0 := blk_frozen BK105.out 0; have hfz28_1 := blk_frozen BK105.out 1
             go_wp2_with (first | ((with_reducible refine gate_callee (f := 35) rfl ?_); refine goesL_ (some 27) rfl rfl Try.func35 qa16 rfl #[.string ((rd_T53 l0_0 x20_2).f0)] rfl qa1 ?_; (with_reducible refine (impl_NameOK.calls k2 ((rd_T53 l0_0 x20_2).f0) true _ A19.out).mono ?_); rintro e w' ⟨rfl, ⟨nd, rfl⟩⟩; refine ⟨_, rfl, ?_⟩; have hcz29_0 : w16.cell? ⟨gb101, 0, none⟩ = some (.slice (some ad104) l0_0.length c0_0) := (blk_cell BK101.out 0).trans rfl; have hfz29_0 := blk_frozen BK101.out 0) | (go_at_call 34; (with_reducible refine (impl_Schema_typeAt.calls _ _ l0_0 ((rd_T53 l0_0 x20_2).f0) t107 _ ?side1 ?side2 A24.out).mono ?_); (case side1 => exact qa55); (case side2 => exact HC0_0.out); rintro e w30 ⟨rfl, hb⟩; have n0_ := qO (blk_below (g := gb101) (o := .cells #[.slice (some ad104) l0_0.length c0_0] 29 (0, 0)) qa24 hb); have n1_ := qO (blk_below (g := gb105) (o := .cells #[.string ((rd_T53 l0_0 x20_2).f0), .slice A104_1 ((rd_T53 l0_0 x20_2).f1).length c104_1] 53 (0, 0)) qa30 hb); have n2_ := qO (below_step qa22 hb); clear BK101; clear BK105; clear HB; have BK101 := n0_; have BK105 := n1_; have HB := n2_; clear n0_ n1_ n2_; (try clear hb); (try clear hb2); (try clear hk); (try clear hi); have hcz31_0 : w30.cell? ⟨gb105, 0, none⟩ = some (.string ((rd_T53 l0_0 x20_2).f0)) := (blk_cell BK105.out 0).trans rfl; have hcz31_1 : w30.cell? ⟨gb105, 1, none⟩ = some (.slice A104_1 ((rd_T53 l0_0 x20_2).f1).length c104_1) := (blk_cell BK105.out 1).trans rfl; have hfz31_0 := blk_frozen BK105.out 0; have hfz31_1 := blk_frozen BK105.out 1) | (go_at_call 33; (with_reducible refine (impl_within.calls (((rd_T53 l0_0 x20_2).f1).length : Int) 1 10 t108 _ A26.out).mono ?_); rintro e w' ⟨rfl, ⟨nd, rfl⟩⟩))
             go_meet
             case rel => exact ⟨_, (!t108), qa10, H', ⟨qa68⟩, ⟨qa12⟩, ⟨qa34⟩, ⟨qa22⟩⟩
            ·rw [if_neg c25] at H
             have c25b0 : (t107 == x20_2) = false := beq_eq_false_iff_ne.mpr c25; have c25b1 : (t107 != x20_2) = true := bne_iff_ne.mpr c25; have H' := qO H; clear H; have hnb32 := NB105_101.out; have hnc32 := NB101_105.out; have hcz33_0 : w16.cell? ⟨gb105, 0, none⟩ = some (.string (⟨#[]⟩ : ByteArray)) := (blk_cell BK105.out 0).trans rfl; have hcz33_1 : w16.cell? ⟨gb105, 1, none⟩ = some (.slice none 0 0) := (blk_cell BK105.out 1).trans rfl; have hfz33_0 := blk_frozen BK105.out 0; have hfz33_1 := blk_frozen BK105.out 1
             go_wp2_with (first | ((with_reducible refine gate_callee (f := 35) rfl ?_); refine goesL_ (some 27) rfl rfl Try.func35 qa16 rfl #[.string ((rd_T53 l0_0 x20_2).f0)] rfl qa1 ?_; (with_reducible refine (impl_NameOK.calls k2 ((rd_T53 l0_0 x20_2).f0) true _ A19.out).mono ?_); rintro e w' ⟨rfl, ⟨nd, rfl⟩⟩; refine ⟨_, rfl, ?_⟩; have hcz34_0 : w16.cell? ⟨gb101, 0, none⟩ = some (.slice (some ad104) l0_0.length c0_0) := (blk_cell BK101.out 0).trans rfl; have hfz34_0 := blk_frozen BK101.out 0) | (go_at_call 34; (with_reducible refine (impl_Schema_typeAt.calls _ _ l0_0 ((rd_T53 l0_0 x20_2).f0) t107 _ ?side1 ?side2 A24.out).mono ?_); (case side1 => exact qa55); (case side2 => exact HC0_0.out); rintro e w35 ⟨rfl, hb⟩; have n0_ := qO (blk_below (g := gb101) (o := .cells #[.slice (some ad104) l0_0.length c0_0] 29 (0, 0)) qa24 hb); have n1_ := qO (blk_below (g := gb105) (o := .cells #[.string ((rd_T53 l0_0 x20_2).f0), .slice A104_1 ((rd_T53 l0_0 x20_2).f1).length c104_1] 53 (0, 0)) qa30 hb); have n2_ := qO (below_step qa22 hb); clear BK101; clear BK105; clear HB; have BK101 := n0_; have BK105 := n1_; have HB := n2_; clear n0_ n1_ n2_; (try clear hb); (try clear hb2); (try clear hk); (try clear hi)))
             go_meet
             case rel => exact ⟨_, (true), qa10, H', ⟨qa68⟩, ⟨qa12⟩, ⟨qa34⟩, ⟨qa22⟩⟩
          ·replace c20 := Bool.eq_false_iff.mpr c20
           subst c20; have H1 : (impl_SchemaOK.j2 k2 l0_0 (l0_0.length : Int) x20_2 true l0_0 ((rd_T53 l0_0 x20_2).f0) ((rd_T53 l0_0 x20_2).f1)) = some r := by rw [if_neg (show ¬ (false = true) by decide)] at H; exact H
           clear H; have H := H1; clear H1; have H' := qO H; clear H; have hnb36 := NB105_101.out; have hnc36 := NB101_105.out; have hcz37_0 : w16.cell? ⟨gb105, 0, none⟩ = some (.string (⟨#[]⟩ : ByteArray)) := (blk_cell BK105.out 0).trans rfl; have hcz37_1 : w16.cell? ⟨gb105, 1, none⟩ = some (.slice none 0 0) := (blk_cell BK105.out 1).trans rfl; have hfz37_0 := blk_frozen BK105.out 0; have hfz37_1 := blk_frozen BK105.out 1
           go_wp2_with (first | ((with_reducible refine gate_callee (f := 35) rfl ?_); refine goesL_ (some 27) rfl rfl Try.func35 qa16 rfl #[.string ((rd_T53 l0_0 x20_2).f0)] rfl qa1 ?_; (with_reducible refine (impl_NameOK.calls k2 ((rd_T53 l0_0 x20_2).f0) false _ A19.out).mono ?_); rintro e w' ⟨rfl, ⟨nd, rfl⟩⟩; refine ⟨_, rfl, ?_⟩))
           go_meet
           case rel => exact ⟨_, (true), qa10, H', ⟨qa68⟩, ⟨qa24⟩, ⟨qa30⟩, ⟨qa22⟩⟩
         case rest =>
          clear HC15
          try clear c1
          try clear p1
          try clear q1
          try clear hx1
          try clear c2
          try clear p2
          try clear c3
          try clear c5
          try clear c10
          try clear p10
          try clear q10
          try clear hx10
          try clear c11
          try clear c12
          try clear c12b0
          try clear c13
          try clear c13b0
          try clear c14
          try clear c14b0
          try clear c17
          try clear c20
          try clear c21
          try clear c21b0
          try clear c21b1
          try clear c22
          try clear c25
          try clear c25b0
          try clear c25b1
          try clear c27
          try clear c32
          try clear c33
          try clear c35
          try clear c36
          try clear hcz11_0
          try clear hcz18_0
          try clear hcz18_1
          try clear hcz23_0
          try clear hcz23_1
          try clear hcz28_0
          try clear hcz28_1
          try clear hcz29_0
          try clear hcz31_0
          try clear hcz31_1
          try clear hcz33_0
          try clear hcz33_1
          try clear hcz34_0
          try clear hcz37_0
          try clear hcz37_1
          try clear hcz7_0
          try clear hcz9_0
          try clear hfz11_0
          try clear hfz18_0
          try clear hfz18_1
          try clear hfz23_0
          try clear hfz23_1
          try clear hfz28_0
          try clear hfz28_1
          try clear hfz29_0
          try clear hfz31_0
          try clear hfz31_1
          try clear hfz33_0
          try clear hfz33_1
          try clear hfz34_0
          try clear hfz37_0
          try clear hfz37_1
          try clear hfz7_0
          try clear hfz9_0
          try clear hx104_0
          try clear hx104_1
          try clear p104
          try clear p2
          try clear q104
          obtain ⟨kq, x48_14, rfl, HA, HJ14, BK101, BK105, HB⟩ := hcut
          cases kq with
          | zero => exact absurd HA.out (by simp [impl_SchemaOK.j2])
          | succ kj14 =>
           have H := HA.out; clear HA; simp only [impl_SchemaOK.j2] at H
           by_cases c38 : x48_14 = true
           ·subst c38
            have H1 : (some false) = some r := by rw [if_pos rfl] at H; exact H
            clear H; have H := H1; clear H1; obtain rfl := Option.some.inj H; go_wp2
            go_ret
            exact ⟨qa3, qa22⟩
           ·replace c38 := Bool.eq_false_iff.mpr c38
            subst c38; have H1 : (impl_SchemaOK.l1 kj14 l0_0 (l0_0.length : Int) x20_2 ((rd_T53 l0_0 x20_2).f1) (((rd_T53 l0_0 x20_2).f1).length : Int) 0 l0_0 ((rd_T53 l0_0 x20_2).f0) ((rd_T53 l0_0 x20_2).f1)) = some r := by rw [if_neg (show ¬ (false = true) by decide)] at H; exact H
            clear H; have H := H1; clear H1; have H' := qO H; clear H; have hnb39 := NB105_101.out; have hnc39 := NB101_105.out; have hcz40_0 : wc.cell? ⟨gb105, 0, none⟩ = some (.string ((rd_T53 l0_0 x20_2).f0)) := (blk_cell BK105.out 0).trans rfl; have hcz40_1 : wc.cell? ⟨gb105, 1, none⟩ = some (.slice A104_1 ((rd_T53 l0_0 x20_2).f1).length c104_1) := (blk_cell BK105.out 1).trans rfl; have hfz40_0 := blk_frozen BK105.out 0; have hfz40_1 := blk_frozen BK105.out 1; go_wp2
            go_loopg [52] kj14 (fun kq v52 w' => ∃ (x52_4 : Int), v52 = .int .i64 x52_4 ∧ Aside0 (impl_SchemaOK.l1 kq l0_0 (l0_0.length : Int) x20_2 ((rd_T53 l0_0 x20_2).f1) (((rd_T53 l0_0 x20_2).f1).length : Int) x52_4 l0_0 ((rd_T53 l0_0 x20_2).f0) ((rd_T53 l0_0 x20_2).f1) = some r) ∧ Aside0 (kq ≤ kj14) ∧ Aside0 (w'.heap[gb101]? = some (.cells #[(.slice (some ad104) l0_0.length c0_0)] 29 (0, 0))) ∧ Aside0 (w'.heap[gb105]? = some (.cells #[.string ((rd_T53 l0_0 x20_2).f0), (.slice A104_1 ((rd_T53 l0_0 x20_2).f1).length c104_1)] 53 (0, 0))) ∧ Aside0 (Below w.heap.size w w'))
            case atStart => exact ⟨(0), qa10, H', ⟨Nat.le_refl _⟩, ⟨qa12⟩, ⟨qa34⟩, ⟨qa22⟩⟩
            case round =>
             clear H'
             try clear c1
             try clear p1
             try clear q1
             try clear hx1
             try clear c2
             try clear p2
             try clear c3
             try clear c5
             try clear c10
             try clear p10
             try clear q10
             try clear hx10
             try clear c11
             try clear c12
             try clear c12b0
             try clear c13
             try clear c13b0
             try clear c14
             try clear c14b0
             try clear c17
             try clear c20
             try clear c21
             try clear c21b0
             try clear c21b1
             try clear c22
             try clear c25
             try clear c25b0
             try clear c25b1
             try clear c27
             try clear c32
             try clear c33
             try clear c35
             try clear c36
             try clear c38
             try clear c39
             try clear hcz11_0
             try clear hcz18_0
             try clear hcz18_1
             try clear hcz23_0
             try clear hcz23_1
             try clear hcz28_0
             try clear hcz28_1
             try clear hcz29_0
             try clear hcz31_0
             try clear hcz31_1
             try clear hcz33_0
             try clear hcz33_1
             try clear hcz34_0
             try clear hcz37_0
             try clear hcz37_1
             try clear hcz40_0
             try clear hcz40_1
             try clear hcz7_0
             try clear hcz9_0
             try clear hfz11_0
             try clear hfz18_0
             try clear hfz18_1
             try clear hfz23_0
             try clear hfz23_1
             try clear hfz28_0
             try clear hfz28_1
             try clear hfz29_0
             try clear hfz31_0
             try clear hfz31_1
             try clear hfz33_0
             try clear hfz33_1
             try clear hfz34_0
             try clear hfz37_0
             try clear hfz37_1
             try clear hfz40_0
             try clear hfz40_1
             try clear hfz7_0
             try clear hfz9_0
             try clear hx104_0
             try clear hx104_1
             try clear p1
             try clear p10
             try clear p104
             try clear p2
             try clear q1
             try clear q10
             try clear q104
             obtain ⟨x52_4, rfl, HA, HK4, BK101, BK105, HB⟩ := hrel
             cases gk with
             | zero => exact absurd HA.out (by simp [impl_SchemaOK.l1])
             | succ k4 =>
              have H := HA.out; clear HA; simp only [impl_SchemaOK.l1] at H
              by_cases c41 : x52_4 < (((rd_T53 l0_0 x20_2).f1).length : Int)
              ·rw [if_pos c41] at H
               have c41b0 : decide (x52_4 < (((rd_T53 l0_0 x20_2).f1).length : Int)) = true := decide_eq_true c41; clear c41
               by_cases c42 : 0 ≤ x52_4
               ·rw [if_pos c42] at H
                have c42b0 : decide (0 ≤ x52_4) = true := decide_eq_true c42; clear c42
                by_cases c43 : x52_4 < (((rd_T53 l0_0 x20_2).f1).length : Int)
                ·rw [if_pos c43] at H
                 have c43b0 : decide (x52_4 < (((rd_T53 l0_0 x20_2).f1).length : Int)) = true := decide_eq_true c43; clear c43; replace H := Option.bind_eq_some_iff.mp H; obtain ⟨t111, A440, H⟩ := H; replace H : (if t111 = true then ((impl_TypeDef_fieldAt.f ((rd_T53 l0_0 x20_2).f0) ((rd_T53 l0_0 x20_2).f1) ((rd_T38 ((rd_T53 l0_0 x20_2).f1) x52_4).f0)).bind fun t112 => (if t112 = x52_4 then (impl_SchemaOK.l1 k4 l0_0 (l0_0.length : Int) x20_2 ((rd_T53 l0_0 x20_2).f1) (((rd_T53 l0_0 x20_2).f1).length : Int) (wrap64 (x52_4 + 1)) l0_0 ((rd_T53 l0_0 x20_2).f0) ((rd_T53 l0_0 x20_2).f1)) else (some false))) else (some false)) = some r := H; have A44 := qO A440; clear A440
                 by_cases c45 : t111 = true
                 ·subst c45
                  have H1 : ((impl_TypeDef_fieldAt.f ((rd_T53 l0_0 x20_2).f0) ((rd_T53 l0_0 x20_2).f1) ((rd_T38 ((rd_T53 l0_0 x20_2).f1) x52_4).f0)).bind fun t112 => (if t112 = x52_4 then (impl_SchemaOK.l1 k4 l0_0 (l0_0.length : Int) x20_2 ((rd_T53 l0_0 x20_2).f1) (((rd_T53 l0_0 x20_2).f1).length : Int) (wrap64 (x52_4 + 1)) l0_0 ((rd_T53 l0_0 x20_2).f0) ((rd_T53 l0_0 x20_2).f1)) else (some false))) = some r := by rw [if_pos rfl] at H; exact H
                  clear H; have H := H1; clear H1; replace H := Option.bind_eq_some_iff.mp H; obtain ⟨t112, A460, H⟩ := H; replace H : (if t112 = x52_4 then (impl_SchemaOK.l1 k4 l0_0 (l0_0.length : Int) x20_2 ((rd_T53 l0_0 x20_2).f1) (((rd_T53 l0_0 x20_2).f1).length : Int) (wrap64 (x52_4 + 1)) l0_0 ((rd_T53 l0_0 x20_2).f0) ((rd_T53 l0_0 x20_2).f1)) else (some false)) = some r := H; have A46 := qO A460; clear A460
                  by_cases c47 : t112 = x52_4
                  ·rw [if_pos c47] at H
                   have c47b0 : (t112 == x52_4) = true := beq_iff_eq.mpr c47; have c47b1 : (t112 != x52_4) = false := bne_eq_false_iff_eq.mpr c47; clear c47; have H' := qO H; clear H; have p109 : 0 ≤ (x52_4 : Int) := qT qa4; have q109 : x52_4 < (((rd_T53 l0_0 x20_2).f1).length : Int) := qT qa4; obtain ⟨ad109, A109_1, c109_1, e109, hx109_0, hx109_1, hx109_2, hx109_3, hx109_4, hl109_1, hi109_1⟩ := at_T38 HR104_1.out x52_4 p109 q109
                   cases e109
                   replace hx109_0 := (HB.out.cell (qL w _ hx109_0)).trans hx109_0; replace hx109_1 := (HB.out.cell (qL w _ hx109_1)).trans hx109_1; replace hx109_2 := (HB.out.cell (qL w _ hx109_2)).trans hx109_2; replace hx109_3 := (HB.out.cell (qL w _ hx109_3)).trans hx109_3; replace hx109_4 := (HB.out.cell (qL w _ hx109_4)).trans hx109_4; have HR109_1 := qO hi109_1; have HC109_1 := qO hl109_1; clear hi109_1 hl109_1; replace p109 := eq_true p109; replace q109 := eq_true q109
                   go_wp2_with (first | ((with_reducible refine gate_dst (N := 6) rfl ?_); (try (refine gate_guard (by rfl) ?_; dsimp only)); refine box_event ?hg (N := 6) ?hd (cs := #[.string (⟨#[]⟩ : ByteArray), .slice none 0 0, .string (⟨#[]⟩ : ByteArray), .bool false, .bool false]) (t := 38) ?hr ?_; (case hd => rfl); (case hg => rfl); (case hr => exact qa18); intro gb110 hg w48 hbox hb; have hx_ := qHX HB hb qa0; have n0_ := qO (qB BK101.out hx_ hb); have n1_ := qO (qB BK105.out hx_ hb); have n2_ := qO (below_step (below_step HB.out hx_) hb); have n3_ := qO (hbox); have n4_ := qO ((qa11 : w.heap.size ≤ gb110)); have n5_ := n4_; have n6_ := qO ((qa39 : gb101 ≠ gb110)); have n7_ := qO (Ne.symm n6_.out); have n8_ := qO ((qa50 : gb105 ≠ gb110)); have n9_ := qO (Ne.symm n8_.out); clear BK101; clear BK105; clear HB; have BK101 := n0_; have BK105 := n1_; have HB := n2_; have BK110 := n3_; have GW110 := n4_; have GE110 := n5_; have NB101_110 := n6_; have NB110_101 := n7_; have NB105_110 := n8_; have NB110_105 := n9_; clear n0_ n1_ n2_ n3_ n4_ n5_ n6_ n7_ n8_ n9_; clear hx_; clear hb hbox hg; have hnb49 := NB110_101.out; have hnc49 := NB101_110.out; have hnb50 := NB110_105.out; have hnc50 := NB105_110.out; have hcz51_0 : w48.cell? ⟨gb110, 0, none⟩ = some (.string (⟨#[]⟩ : ByteArray)) := (blk_cell BK110.out 0).trans rfl; have hcz51_1 : w48.cell? ⟨gb110, 1, none⟩ = some (.slice none 0 0) := (blk_cell BK110.out 1).trans rfl; have hcz51_2 : w48.cell? ⟨gb110, 2, none⟩ = some (.string (⟨#[]⟩ : ByteArray)) := (blk_cell BK110.out 2).trans rfl; have hcz51_3 : w48.cell? ⟨gb110, 3, none⟩ = some (.bool false) := (blk_cell BK110.out 3).trans rfl; have hcz51_4 : w48.cell? ⟨gb110, 4, none⟩ = some (.bool false) := (blk_cell BK110.out 4).trans rfl; have hfz51_0 := blk_frozen BK110.out 0; have hfz51_1 := blk_frozen BK110.out 1; have hfz51_2 := blk_frozen BK110.out 2; have hfz51_3 := blk_frozen BK110.out 3; have hfz51_4 := blk_frozen BK110.out 4; have hnb52 := NB101_105.out; have hnc52 := NB105_101.out; have hcz53_0 : w48.cell? ⟨gb101, 0, none⟩ = some (.slice (some ad104) l0_0.length c0_0) := (blk_cell BK101.out 0).trans rfl; have hfz53_0 := blk_frozen BK101.out 0) | ((with_reducible refine gate_callee (f := 36) rfl ?_); refine goesL_ (some 59) rfl rfl Try.func36 qa16 rfl #[.agg #[.slice (some ad104) l0_0.length c0_0], .agg #[.string ((rd_T38 ((rd_T53 l0_0 x20_2).f1) x52_4).f0), .slice A109_1 ((rd_T38 ((rd_T53 l0_0 x20_2).f1) x52_4).f1).length c109_1, .string ((rd_T38 ((rd_T53 l0_0 x20_2).f1) x52_4).f2), .bool ((rd_T38 ((rd_T53 l0_0 x20_2).f1) x52_4).f3), .bool ((rd_T38 ((rd_T53 l0_0 x20_2).f1) x52_4).f4)]] rfl qa1 ?_; (with_reducible refine (impl_Schema_fieldOK.calls k4 _ _ l0_0 ((rd_T38 ((rd_T53 l0_0 x20_2).f1) x52_4).f0) _ _ ((rd_T38 ((rd_T53 l0_0 x20_2).f1) x52_4).f1) ((rd_T38 ((rd_T53 l0_0 x20_2).f1) x52_4).f2) ((rd_T38 ((rd_T53 l0_0 x20_2).f1) x52_4).f3) ((rd_T38 ((rd_T53 l0_0 x20_2).f1) x52_4).f4) true _ ?side1 ?side2 ?side3 ?side4 A44.out).mono ?_); (case side1 => exact qa64); (case side2 => exact HC0_0.out); (case side3 => exact qa61); (case side4 => exact HC109_1.out); rintro e w54 ⟨rfl, hb⟩; refine ⟨_, rfl, ?_⟩; have n0_ := qO (blk_below (g := gb101) (o := .cells #[.slice (some ad104) l0_0.length c0_0] 29 (0, 0)) qa6 hb); have n1_ := qO (blk_below (g := gb105) (o := .cells #[.string ((rd_T53 l0_0 x20_2).f0), .slice (some ad109) ((rd_T53 l0_0 x20_2).f1).length c104_1] 53 (0, 0)) qa7 hb); have n2_ := qO (blk_below (g := gb110) (o := .cells #[.string ((rd_T38 ((rd_T53 l0_0 x20_2).f1) x52_4).f0), .slice A109_1 ((rd_T38 ((rd_T53 l0_0 x20_2).f1) x52_4).f1).length c109_1, .string ((rd_T38 ((rd_T53 l0_0 x20_2).f1) x52_4).f2), .bool ((rd_T38 ((rd_T53 l0_0 x20_2).f1) x52_4).f3), .bool ((rd_T38 ((rd_T53 l0_0 x20_2).f1) x52_4).f4)] 38 (0, 0)) qa14 hb); have n3_ := qO (below_step qa15 hb); clear BK101; clear BK105; clear BK110; clear HB; have BK101 := n0_; have BK105 := n1_; have BK110 := n2_; have HB := n3_; clear n0_ n1_ n2_ n3_; (try clear hb); (try clear hb2); (try clear hk); (try clear hi); have hcz55_0 : w54.cell? ⟨gb105, 0, none⟩ = some (.string ((rd_T53 l0_0 x20_2).f0)) := (blk_cell BK105.out 0).trans rfl; have hcz55_1 : w54.cell? ⟨gb105, 1, none⟩ = some (.slice (some ad109) ((rd_T53 l0_0 x20_2).f1).length c104_1) := (blk_cell BK105.out 1).trans rfl; have hfz55_0 := blk_frozen BK105.out 0; have hfz55_1 := blk_frozen BK105.out 1; have hcz56_0 : w54.cell? ⟨gb110, 0, none⟩ = some (.string ((rd_T38 ((rd_T53 l0_0 x20_2).f1) x52_4).f0)) := (blk_cell BK110.out 0).trans rfl; have hcz56_1 : w54.cell? ⟨gb110, 1, none⟩ = some (.slice A109_1 ((rd_T38 ((rd_T53 l0_0 x20_2).f1) x52_4).f1).length c109_1) := (blk_cell BK110.out 1).trans rfl; have hcz56_2 : w54.cell? ⟨gb110, 2, none⟩ = some (.string ((rd_T38 ((rd_T53 l0_0 x20_2).f1) x52_4).f2)) := (blk_cell BK110.out 2).trans rfl; have hcz56_3 : w54.cell? ⟨gb110, 3, none⟩ = some (.bool ((rd_T38 ((rd_T53 l0_0 x20_2).f1) x52_4).f3)) := (blk_cell BK110.out 3).trans rfl; have hcz56_4 : w54.cell? ⟨gb110, 4, none⟩ = some (.bool ((rd_T38 ((rd_T53 l0_0 x20_2).f1) x52_4).f4)) := (blk_cell BK110.out 4).trans rfl; have hfz56_0 := blk_frozen BK110.out 0; have hfz56_1 := blk_frozen BK110.out 1; have hfz56_2 := blk_frozen BK110.out 2; have hfz56_3 := blk_frozen BK110.out 3; have hfz56_4 := blk_frozen BK110.out 4) | (go_at_call 37; (with_reducible refine (impl_TypeDef_fieldAt.calls ((rd_T53 l0_0 x20_2).f0) _ _ ((rd_T53 l0_0 x20_2).f1) ((rd_T38 ((rd_T53 l0_0 x20_2).f1) x52_4).f0) t112 _ ?side1 ?side2 A46.out).mono ?_); (case side1 => exact qa66); (case side2 => exact HC104_1.out); rintro e w57 ⟨rfl, hb⟩; have hx_ := qHX HB hb qa0; have n0_ := qO (qB BK101.out hx_ hb); have n1_ := qO (qB BK105.out hx_ hb); have n2_ := qO (blk_below (g := gb110) (o := .cells #[.string ((rd_T38 ((rd_T53 l0_0 x20_2).f1) x52_4).f0), .slice A109_1 ((rd_T38 ((rd_T53 l0_0 x20_2).f1) x52_4).f1).length c109_1, .string ((rd_T38 ((rd_T53 l0_0 x20_2).f1) x52_4).f2), .bool ((rd_T38 ((rd_T53 l0_0 x20_2).f1) x52_4).f3), .bool ((rd_T38 ((rd_T53 l0_0 x20_2).f1) x52_4).f4)] 38 (0, 0)) qa41 hb); have n3_ := qO (below_step (below_step HB.out hx_) hb); clear BK101; clear BK105; clear BK110; clear HB; have BK101 := n0_; have BK105 := n1_; have BK110 := n2_; have HB := n3_; clear n0_ n1_ n2_ n3_; clear hx_; (try clear hb); (try clear hb2); (try clear hk); (try clear hi)))
                   go_roundg k4
                   case measure => have := HJ1.out; have := HK2.out; have := HJ14.out; have := HK4.out; omega
                   case rel => exact ⟨(wrap64 (x52_4 + 1)), qa10, H', ⟨qa101⟩, ⟨qa12⟩, ⟨qa34⟩, ⟨qa15⟩⟩
                  ·rw [if_neg c47] at H
                   have c47b0 : (t112 == x52_4) = false := beq_eq_false_iff_ne.mpr c47; have c47b1 : (t112 != x52_4) = true := bne_iff_ne.mpr c47; obtain rfl := Option.some.inj H; have p109 : 0 ≤ (x52_4 : Int) := qT qa4; have q109 : x52_4 < (((rd_T53 l0_0 x20_2).f1).length : Int) := qT qa4; obtain ⟨ad109, A109_1, c109_1, e109, hx109_0, hx109_1, hx109_2, hx109_3, hx109_4, hl109_1, hi109_1⟩ := at_T38 HR104_1.out x52_4 p109 q109
                   cases e109
                   replace hx109_0 := (HB.out.cell (qL w _ hx109_0)).trans hx109_0; replace hx109_1 := (HB.out.cell (qL w _ hx109_1)).trans hx109_1; replace hx109_2 := (HB.out.cell (qL w _ hx109_2)).trans hx109_2; replace hx109_3 := (HB.out.cell (qL w _ hx109_3)).trans hx109_3; replace hx109_4 := (HB.out.cell (qL w _ hx109_4)).trans hx109_4; have HR109_1 := qO hi109_1; have HC109_1 := qO hl109_1; clear hi109_1 hl109_1; replace p109 := eq_true p109; replace q109 := eq_true q109
                   go_wp2_with (first | ((with_reducible refine gate_dst (N := 6) rfl ?_); (try (refine gate_guard (by rfl) ?_; dsimp only)); refine box_event ?hg (N := 6) ?hd (cs := #[.string (⟨#[]⟩ : ByteArray), .slice none 0 0, .string (⟨#[]⟩ : ByteArray), .bool false, .bool false]) (t := 38) ?hr ?_; (case hd => rfl); (case hg => rfl); (case hr => exact qa18); intro gb110 hg w58 hbox hb; have hx_ := qHX HB hb qa0; have n0_ := qO (qB BK101.out hx_ hb); have n1_ := qO (qB BK105.out hx_ hb); have n2_ := qO (below_step (below_step HB.out hx_) hb); have n3_ := qO (hbox); have n4_ := qO ((qa11 : w.heap.size ≤ gb110)); have n5_ := n4_; have n6_ := qO ((qa39 : gb101 ≠ gb110)); have n7_ := qO (Ne.symm n6_.out); have n8_ := qO ((qa50 : gb105 ≠ gb110)); have n9_ := qO (Ne.symm n8_.out); clear BK101; clear BK105; clear HB; have BK101 := n0_; have BK105 := n1_; have HB := n2_; have BK110 := n3_; have GW110 := n4_; have GE110 := n5_; have NB101_110 := n6_; have NB110_101 := n7_; have NB105_110 := n8_; have NB110_105 := n9_; clear n0_ n1_ n2_ n3_ n4_ n5_ n6_ n7_ n8_ n9_; clear hx_; clear hb hbox hg; have hnb59 := NB110_101.out; have hnc59 := NB101_110.out; have hnb60 := NB110_105.out; have hnc60 := NB105_110.out; have hcz61_0 : w58.cell? ⟨gb110, 0, none⟩ = some (.string (⟨#[]⟩ : ByteArray)) := (blk_cell BK110.out 0).trans rfl; have hcz61_1 : w58.cell? ⟨gb110, 1, none⟩ = some (.slice none 0 0) := (blk_cell BK110.out 1).trans rfl; have hcz61_2 : w58.cell? ⟨gb110, 2, none⟩ = some (.string (⟨#[]⟩ : ByteArray)) := (blk_cell BK110.out 2).trans rfl; have hcz61_3 : w58.cell? ⟨gb110, 3, none⟩ = some (.bool false) := (blk_cell BK110.out 3).trans rfl; have hcz61_4 : w58.cell? ⟨gb110, 4, none⟩ = some (.bool false) := (blk_cell BK110.out 4).trans rfl; have hfz61_0 := blk_frozen BK110.out 0; have hfz61_1 := blk_frozen BK110.out 1; have hfz61_2 := blk_frozen BK110.out 2; have hfz61_3 := blk_frozen BK110.out 3; have hfz61_4 := blk_frozen BK110.out 4; have hnb62 := NB101_105.out; have hnc62 := NB105_101.out; have hcz63_0 : w58.cell? ⟨gb101, 0, none⟩ = some (.slice (some ad104) l0_0.length c0_0) := (blk_cell BK101.out 0).trans rfl; have hfz63_0 := blk_frozen BK101.out 0) | ((with_reducible refine gate_callee (f := 36) rfl ?_); refine goesL_ (some 59) rfl rfl Try.func36 qa16 rfl #[.agg #[.slice (some ad104) l0_0.length c0_0], .agg #[.string ((rd_T38 ((rd_T53 l0_0 x20_2).f1) x52_4).f0), .slice A109_1 ((rd_T38 ((rd_T53 l0_0 x20_2).f1) x52_4).f1).length c109_1, .string ((rd_T38 ((rd_T53 l0_0 x20_2).f1) x52_4).f2), .bool ((rd_T38 ((rd_T53 l0_0 x20_2).f1) x52_4).f3), .bool ((rd_T38 ((rd_T53 l0_0 x20_2).f1) x52_4).f4)]] rfl qa1 ?_; (with_reducible refine (impl_Schema_fieldOK.calls k4 _ _ l0_0 ((rd_T38 ((rd_T53 l0_0 x20_2).f1) x52_4).f0) _ _ ((rd_T38 ((rd_T53 l0_0 x20_2).f1) x52_4).f1) ((rd_T38 ((rd_T53 l0_0 x20_2).f1) x52_4).f2) ((rd_T38 ((rd_T53 l0_0 x20_2).f1) x52_4).f3) ((rd_T38 ((rd_T53 l0_0 x20_2).f1) x52_4).f4) true _ ?side1 ?side2 ?side3 ?side4 A44.out).mono ?_); (case side1 => exact qa64); (case side2 => exact HC0_0.out); (case side3 => exact qa61); (case side4 => exact HC109_1.out); rintro e w64 ⟨rfl, hb⟩; refine ⟨_, rfl, ?_⟩; have n0_ := qO (blk_below (g := gb101) (o := .cells #[.slice (some ad104) l0_0.length c0_0] 29 (0, 0)) qa6 hb); have n1_ := qO (blk_below (g := gb105) (o := .cells #[.string ((rd_T53 l0_0 x20_2).f0), .slice (some ad109) ((rd_T53 l0_0 x20_2).f1).length c104_1] 53 (0, 0)) qa7 hb); have n2_ := qO (blk_below (g := gb110) (o := .cells #[.string ((rd_T38 ((rd_T53 l0_0 x20_2).f1) x52_4).f0), .slice A109_1 ((rd_T38 ((rd_T53 l0_0 x20_2).f1) x52_4).f1).length c109_1, .string ((rd_T38 ((rd_T53 l0_0 x20_2).f1) x52_4).f2), .bool ((rd_T38 ((rd_T53 l0_0 x20_2).f1) x52_4).f3), .bool ((rd_T38 ((rd_T53 l0_0 x20_2).f1) x52_4).f4)] 38 (0, 0)) qa14 hb); have n3_ := qO (below_step qa15 hb); clear BK101; clear BK105; clear BK110; clear HB; have BK101 := n0_; have BK105 := n1_; have BK110 := n2_; have HB := n3_; clear n0_ n1_ n2_ n3_; (try clear hb); (try clear hb2); (try clear hk); (try clear hi); have hcz65_0 : w64.cell? ⟨gb105, 0, none⟩ = some (.string ((rd_T53 l0_0 x20_2).f0)) := (blk_cell BK105.out 0).trans rfl; have hcz65_1 : w64.cell? ⟨gb105, 1, none⟩ = some (.slice (some ad109) ((rd_T53 l0_0 x20_2).f1).length c104_1) := (blk_cell BK105.out 1).trans rfl; have hfz65_0 := blk_frozen BK105.out 0; have hfz65_1 := blk_frozen BK105.out 1; have hcz66_0 : w64.cell? ⟨gb110, 0, none⟩ = some (.string ((rd_T38 ((rd_T53 l0_0 x20_2).f1) x52_4).f0)) := (blk_cell BK110.out 0).trans rfl; have hcz66_1 : w64.cell? ⟨gb110, 1, none⟩ = some (.slice A109_1 ((rd_T38 ((rd_T53 l0_0 x20_2).f1) x52_4).f1).length c109_1) := (blk_cell BK110.out 1).trans rfl; have hcz66_2 : w64.cell? ⟨gb110, 2, none⟩ = some (.string ((rd_T38 ((rd_T53 l0_0 x20_2).f1) x52_4).f2)) := (blk_cell BK110.out 2).trans rfl; have hcz66_3 : w64.cell? ⟨gb110, 3, none⟩ = some (.bool ((rd_T38 ((rd_T53 l0_0 x20_2).f1) x52_4).f3)) := (blk_cell BK110.out 3).trans rfl; have hcz66_4 : w64.cell? ⟨gb110, 4, none⟩ = some (.bool ((rd_T38 ((rd_T53 l0_0 x20_2).f1) x52_4).f4)) := (blk_cell BK110.out 4).trans rfl; have hfz66_0 := blk_frozen BK110.out 0; have hfz66_1 := blk_frozen BK110.out 1; have hfz66_2 := blk_frozen BK110.out 2; have hfz66_3 := blk_frozen BK110.out 3; have hfz66_4 := blk_frozen BK110.out 4) | (go_at_call 37; (with_reducible refine (impl_TypeDef_fieldAt.calls ((rd_T53 l0_0 x20_2).f0) _ _ ((rd_T53 l0_0 x20_2).f1) ((rd_T38 ((rd_T53 l0_0 x20_2).f1) x52_4).f0) t112 _ ?side1 ?side2 A46.out).mono ?_); (case side1 => exact qa66); (case side2 => exact HC104_1.out); rintro e w67 ⟨rfl, hb⟩; have hx_ := qHX HB hb qa0; have n0_ := qO (qB BK101.out hx_ hb); have n1_ := qO (qB BK105.out hx_ hb); have n2_ := qO (blk_below (g := gb110) (o := .cells #[.string ((rd_T38 ((rd_T53 l0_0 x20_2).f1) x52_4).f0), .slice A109_1 ((rd_T38 ((rd_T53 l0_0 x20_2).f1) x52_4).f1).length c109_1, .string ((rd_T38 ((rd_T53 l0_0 x20_2).f1) x52_4).f2), .bool ((rd_T38 ((rd_T53 l0_0 x20_2).f1) x52_4).f3), .bool ((rd_T38 ((rd_T53 l0_0 x20_2).f1) x52_4).f4)] 38 (0, 0)) qa41 hb); have n3_ := qO (below_step (below_step HB.out hx_) hb); clear BK101; clear BK105; clear BK110; clear HB; have BK101 := n0_; have BK105 := n1_; have BK110 := n2_; have HB := n3_; clear n0_ n1_ n2_ n3_; clear hx_; (try clear hb); (try clear hb2); (try clear hk); (try clear hi)))
                   go_ret
                   exact ⟨qa3, qa15⟩
                 ·replace c45 := Bool.eq_false_iff.mpr c45
                  subst c45; have H1 : (some false) = some r := by rw [if_neg (show ¬ (false = true) by decide)] at H; exact H
                  clear H; have H := H1; clear H1; obtain rfl := Option.some.inj H; have p109 : 0 ≤ (x52_4 : Int) := qT qa4; have q109 : x52_4 < (((rd_T53 l0_0 x20_2).f1).length : Int) := qT qa4; obtain ⟨ad109, A109_1, c109_1, e109, hx109_0, hx109_1, hx109_2, hx109_3, hx109_4, hl109_1, hi109_1⟩ := at_T38 HR104_1.out x52_4 p109 q109
                  cases e109
                  replace hx109_0 := (HB.out.cell (qL w _ hx109_0)).trans hx109_0; replace hx109_1 := (HB.out.cell (qL w _ hx109_1)).trans hx109_1; replace hx109_2 := (HB.out.cell (qL w _ hx109_2)).trans hx109_2; replace hx109_3 := (HB.out.cell (qL w _ hx109_3)).trans hx109_3; replace hx109_4 := (HB.out.cell (qL w _ hx109_4)).trans hx109_4; have HR109_1 := qO hi109_1; have HC109_1 := qO hl109_1; clear hi109_1 hl109_1; replace p109 := eq_true p109; replace q109 := eq_true q109
                  go_wp2_with (first | ((with_reducible refine gate_dst (N := 6) rfl ?_); (try (refine gate_guard (by rfl) ?_; dsimp only)); refine box_event ?hg (N := 6) ?hd (cs := #[.string (⟨#[]⟩ : ByteArray), .slice none 0 0, .string (⟨#[]⟩ : ByteArray), .bool false, .bool false]) (t := 38) ?hr ?_; (case hd => rfl); (case hg => rfl); (case hr => exact qa18); intro gb110 hg w68 hbox hb; have hx_ := qHX HB hb qa0; have n0_ := qO (qB BK101.out hx_ hb); have n1_ := qO (qB BK105.out hx_ hb); have n2_ := qO (below_step (below_step HB.out hx_) hb); have n3_ := qO (hbox); have n4_ := qO ((qa11 : w.heap.size ≤ gb110)); have n5_ := n4_; have n6_ := qO ((qa39 : gb101 ≠ gb110)); have n7_ := qO (Ne.symm n6_.out); have n8_ := qO ((qa50 : gb105 ≠ gb110)); have n9_ := qO (Ne.symm n8_.out); clear BK101; clear BK105; clear HB; have BK101 := n0_; have BK105 := n1_; have HB := n2_; have BK110 := n3_; have GW110 := n4_; have GE110 := n5_; have NB101_110 := n6_; have NB110_101 := n7_; have NB105_110 := n8_; have NB110_105 := n9_; clear n0_ n1_ n2_ n3_ n4_ n5_ n6_ n7_ n8_ n9_; clear hx_; clear hb hbox hg; have hnb69 := NB110_101.out; have hnc69 := NB101_110.out; have hnb70 := NB110_105.out; have hnc70 := NB105_110.out; have hcz71_0 : w68.cell? ⟨gb110, 0, none⟩ = some (.string (⟨#[]⟩ : ByteArray)) := (blk_cell BK110.out 0).trans rfl; have hcz71_1 : w68.cell? ⟨gb110, 1, none⟩ = some (.slice none 0 0) := (blk_cell BK110.out 1).trans rfl; have hcz71_2 : w68.cell? ⟨gb110, 2, none⟩ = some (.string (⟨#[]⟩ : ByteArray)) := (blk_cell BK110.out 2).trans rfl; have hcz71_3 : w68.cell? ⟨gb110, 3, none⟩ = some (.bool false) := (blk_cell BK110.out 3).trans rfl; have hcz71_4 : w68.cell? ⟨gb110, 4, none⟩ = some (.bool false) := (blk_cell BK110.out 4).trans rfl; have hfz71_0 := blk_frozen BK110.out 0; have hfz71_1 := blk_frozen BK110.out 1; have hfz71_2 := blk_frozen BK110.out 2; have hfz71_3 := blk_frozen BK110.out 3; have hfz71_4 := blk_frozen BK110.out 4; have hnb72 := NB101_105.out; have hnc72 := NB105_101.out; have hcz73_0 : w68.cell? ⟨gb101, 0, none⟩ = some (.slice (some ad104) l0_0.length c0_0) := (blk_cell BK101.out 0).trans rfl; have hfz73_0 := blk_frozen BK101.out 0) | ((with_reducible refine gate_callee (f := 36) rfl ?_); refine goesL_ (some 59) rfl rfl Try.func36 qa16 rfl #[.agg #[.slice (some ad104) l0_0.length c0_0], .agg #[.string ((rd_T38 ((rd_T53 l0_0 x20_2).f1) x52_4).f0), .slice A109_1 ((rd_T38 ((rd_T53 l0_0 x20_2).f1) x52_4).f1).length c109_1, .string ((rd_T38 ((rd_T53 l0_0 x20_2).f1) x52_4).f2), .bool ((rd_T38 ((rd_T53 l0_0 x20_2).f1) x52_4).f3), .bool ((rd_T38 ((rd_T53 l0_0 x20_2).f1) x52_4).f4)]] rfl qa1 ?_; (with_reducible refine (impl_Schema_fieldOK.calls k4 _ _ l0_0 ((rd_T38 ((rd_T53 l0_0 x20_2).f1) x52_4).f0) _ _ ((rd_T38 ((rd_T53 l0_0 x20_2).f1) x52_4).f1) ((rd_T38 ((rd_T53 l0_0 x20_2).f1) x52_4).f2) ((rd_T38 ((rd_T53 l0_0 x20_2).f1) x52_4).f3) ((rd_T38 ((rd_T53 l0_0 x20_2).f1) x52_4).f4) false _ ?side1 ?side2 ?side3 ?side4 A44.out).mono ?_); (case side1 => exact qa64); (case side2 => exact HC0_0.out); (case side3 => exact qa61); (case side4 => exact HC109_1.out); rintro e w74 ⟨rfl, hb⟩; refine ⟨_, rfl, ?_⟩; have n0_ := qO (blk_below (g := gb101) (o := .cells #[.slice (some ad104) l0_0.length c0_0] 29 (0, 0)) qa6 hb); have n1_ := qO (blk_below (g := gb105) (o := .cells #[.string ((rd_T53 l0_0 x20_2).f0), .slice (some ad109) ((rd_T53 l0_0 x20_2).f1).length c104_1] 53 (0, 0)) qa7 hb); have n2_ := qO (blk_below (g := gb110) (o := .cells #[.string ((rd_T38 ((rd_T53 l0_0 x20_2).f1) x52_4).f0), .slice A109_1 ((rd_T38 ((rd_T53 l0_0 x20_2).f1) x52_4).f1).length c109_1, .string ((rd_T38 ((rd_T53 l0_0 x20_2).f1) x52_4).f2), .bool ((rd_T38 ((rd_T53 l0_0 x20_2).f1) x52_4).f3), .bool ((rd_T38 ((rd_T53 l0_0 x20_2).f1) x52_4).f4)] 38 (0, 0)) qa14 hb); have n3_ := qO (below_step qa15 hb); clear BK101; clear BK105; clear BK110; clear HB; have BK101 := n0_; have BK105 := n1_; have BK110 := n2_; have HB := n3_; clear n0_ n1_ n2_ n3_; (try clear hb); (try clear hb2); (try clear hk); (try clear hi)))
                  go_ret
                  exact ⟨qa3, qa15⟩
                ·rw [if_neg c43] at H
                 exact absurd H qa79
               ·rw [if_neg c42] at H
                exact absurd H qa79
              ·rw [if_neg c41] at H
               have c41b0 : decide (x52_4 < (((rd_T53 l0_0 x20_2).f1).length : Int)) = false := decide_eq_false c41; clear c41; have H' := qO H; clear H; go_wp2
               go_roundg k4
               case measure => have := HJ1.out; have := HK2.out; have := HJ14.out; have := HK4.out; omega
               case rel => exact ⟨(wrap64 (x20_2 + 1)), qa10, H', ⟨qa101⟩, ⟨qa12⟩, ⟨qa22⟩⟩
        ·rw [if_neg c14] at H
         exact absurd H qa79
       ·rw [if_neg c13] at H
        exact absurd H qa79
      ·rw [if_neg c12] at H
       have c12b0 : decide (x20_2 < (l0_0.length : Int)) = false := decide_eq_false c12; clear c12; obtain rfl := Option.some.inj H; go_wp2
       go_ret
       exact ⟨qa3, qa9⟩


/-- Two lists held against each other, place by place. -/
def impl_TypeDef_46.all (q : (S53) → (S53) → Option Bool) : List (S53) → List (S53) → Option Bool
 | x :: xs, y :: ys => (q x y).bind fun b => if b = true then impl_TypeDef_46.all q xs ys else some false
 | _, _ => some true
def impl_TypeDef_46.fq (q : (S53) → (S53) → Option Bool) (l0 l1 : List (S53)) : Option Bool := if l0.length = l1.length then impl_TypeDef_46.all q l0 l1 else some false
theorem impl_TypeDef_46.all_le (q q' : (S53) → (S53) → Option Bool) (hq : ∀ x y, LeO (q x y) (q' x y)) : ∀ l0 l1, LeO (impl_TypeDef_46.all q l0 l1) (impl_TypeDef_46.all q' l0 l1)
 | [], _ => fun r h => by simpa [impl_TypeDef_46.all] using h
 | _ :: _, [] => fun r h => by simpa [impl_TypeDef_46.all] using h
 | x :: xs, y :: ys => fun r h => by
  simp only [impl_TypeDef_46.all] at h ⊢; obtain ⟨b, hb, h⟩ := Option.bind_eq_some_iff.mp h; refine Option.bind_eq_some_iff.mpr ⟨b, hq x y b hb, ?_⟩
  cases b
  ·simpa using h
  ·simpa using impl_TypeDef_46.all_le q q' hq xs ys r (by simpa using h)
theorem impl_TypeDef_46.fq_le (q q' : (S53) → (S53) → Option Bool) (hq : ∀ x y, LeO (q x y) (q' x y)) (l0 l1 : List (S53)) : LeO (impl_TypeDef_46.fq q l0 l1) (impl_TypeDef_46.fq q' l0 l1) := by
 unfold impl_TypeDef_46.fq
 by_cases e : l0.length = l1.length
 ·rw [if_pos e, if_pos e]; exact impl_TypeDef_46.all_le q q' hq l0 l1
 ·rw [if_neg e, if_neg e]; exact fun r h => h
theorem impl_TypeDef_46.step (q : (S53) → (S53) → Option Bool) (l0 l1 : List (S53)) (kk : Nat) (r : Bool) (h0 : kk < l0.length) (h1 : kk < l1.length) (x y : (S53)) (hx : l0[kk]? = some x) (hy : l1[kk]? = some y) (h : impl_TypeDef_46.all q (l0.drop kk) (l1.drop kk) = some r) :
  ∃ b, q x y = some b ∧ (b = true → impl_TypeDef_46.all q (l0.drop (kk + 1)) (l1.drop (kk + 1)) = some r) ∧ (b = false → r = false) := by
 have ex : l0.drop kk = x :: l0.drop (kk + 1) := by rw [List.drop_eq_getElem_cons h0]; rw [List.getElem?_eq_getElem h0] at hx; rw [Option.some.inj hx]
 have ey : l1.drop kk = y :: l1.drop (kk + 1) := by rw [List.drop_eq_getElem_cons h1]; rw [List.getElem?_eq_getElem h1] at hy; rw [Option.some.inj hy]
 rw [ex, ey] at h; simp only [impl_TypeDef_46.all] at h; obtain ⟨b, hb, h⟩ := Option.bind_eq_some_iff.mp h; refine ⟨b, hb, fun e => ?_, fun e => ?_⟩
 ·subst e; simpa using h
 ·subst e; simpa using h.symm
theorem impl_TypeDef_46.last (q : (S53) → (S53) → Option Bool) (l0 l1 : List (S53)) (kk : Nat) (r : Bool) (h0 : ¬ kk < l0.length) (h : impl_TypeDef_46.all q (l0.drop kk) (l1.drop kk) = some r) : r = true := by
 rw [List.drop_of_length_le qa28] at h
 simpa [impl_TypeDef_46.all] using h.symm
set_option maxHeartbeats 4000000 in
set_option maxRecDepth 100000 in
theorem impl_TypeDef_46.callsP (A0 : Option Addr) (c0 : Nat) (l0 : List (S53)) (A1 : Option Addr) (c1 : Nat) (l1 : List (S53)) (g : Nat) (cb : Array Value) (q : (S53) → (S53) → Option Bool) (r : Bool) (w : World) (eg : ∀ args w, (callFunc g args).run Try.prog w = .ok (.enter g args) w) (hr0 : Kd.C k53 w A0 l0.length l0) (hr1 : Kd.C k53 w A1 l1.length l1)
  (hp : ∀ (W : World) (x y : (S53)) (E1 : Option Addr) (e1 : Nat) (F1 : Option Addr) (f1 : Nat) (b : Bool), Below w.heap.size w W → x.f1.length ≤ e1 → Kd.C k38 W E1 x.f1.length x.f1 → y.f1.length ≤ f1 → Kd.C k38 W F1 y.f1.length y.f1 → q x y = some b → Calls Try.prog g (#[.agg #[.string x.f0, .slice E1 x.f1.length e1], .agg #[.string y.f0, .slice F1 y.f1.length f1]] ++ cb) W fun e w' => e = .returned (.bool b) ∧ Below W.heap.size W w') (h : impl_TypeDef_46.fq q l0 l1 = some r) :
  Calls Try.prog 46 #[.slice A0 l0.length c0, .slice A1 l1.length c1, .func (.func g) #[] cb] w fun e w' => e = .returned (.bool r) ∧ Below w.heap.size w w' := by
 have hlen := hr0.2.1; have hlen1 := hr1.2.1; have HR := qO hr0; have HS := qO hr1; have HP := qO hp
 unfold impl_TypeDef_46.fq at h
 clear hr0 hr1 hp; have isagg := Try.isAgg53
 by_cases hll : l0.length = l1.length
 ·rw [if_pos hll] at h
  have HA := qO h; have HL := qO hll; have hb0 : ((l0.length : Int) == (l1.length : Int)) = true := by rw [hll]; simp
  have hb1 : ((l0.length : Int) != (l1.length : Int)) = false := by rw [hll]; simp
  clear h hll
  go_enter Try.func46, Try.ntmps46
  go_wp2
  go_loopg [17] l0.length (fun gg s17 wr => ∃ kk : Nat, kk ≤ l0.length ∧ l0.length - kk ≤ gg ∧ s17 = .int .i64 kk ∧ Aside0 (Below w.heap.size w wr) ∧ Aside0 (impl_TypeDef_46.all q (l0.drop kk) (l1.drop kk) = some r))
  case atStart => exact ⟨0, Nat.zero_le _, qa28, rfl, ⟨Below.refl _ w⟩, HA⟩
  case round =>
   clear HA hb0 hb1; obtain ⟨kk, hkk, hg, rfl, BW, HA⟩ := hrel
   by_cases hlt : kk < l0.length
   ·have hlt1 : kk < l1.length := by have := HL.out; omega
    have hltz : (kk : Int) < (l0.length : Int) := by omega
    have hlty : (kk : Int) < (l1.length : Int) := by omega
    obtain ⟨adE, E1, e1, eE, hx0, hx1, hxl1, hxi1⟩ := at_T53 HR.out (kk : Int) qa28 hltz; obtain ⟨adF, F1, f1, eF, hy0, hy1, hyl1, hyi1⟩ := at_T53 HS.out (kk : Int) qa28 hlty
    cases eE
    cases eF
    replace hx0 := (BW.out.cell (qL w _ hx0)).trans hx0; simp only [Int.toNat_natCast] at hx0; replace hx1 := (BW.out.cell (qL w _ hx1)).trans hx1; simp only [Int.toNat_natCast] at hx1; replace hy0 := (BW.out.cell (qL w _ hy0)).trans hy0; simp only [Int.toNat_natCast] at hy0; replace hy1 := (BW.out.cell (qL w _ hy1)).trans hy1; simp only [Int.toNat_natCast] at hy1
    have hx : l0[kk]? = some (rd_T53 l0 (kk : Int)) := by
     rw [List.getElem?_eq_getElem hlt]
     show some l0[kk] = some (l0.getD (kk : Int).toNat _)
     rw [Int.toNat_natCast, List.getD_eq_getElem?_getD, List.getElem?_eq_getElem hlt]
     rfl
    have hy : l1[kk]? = some (rd_T53 l1 (kk : Int)) := by
     rw [List.getElem?_eq_getElem hlt1]
     show some l1[kk] = some (l1.getD (kk : Int).toNat _)
     rw [Int.toNat_natCast, List.getD_eq_getElem?_getD, List.getElem?_eq_getElem hlt1]
     rfl
    obtain ⟨b, hq, hs1, hs2⟩ := impl_TypeDef_46.step q l0 l1 kk r hlt hlt1 _ _ hx hy HA.out; have hcall := fun W (hb : Below w.heap.size w W) => HP.out W (rd_T53 l0 (kk : Int)) (rd_T53 l1 (kk : Int)) E1 e1 F1 f1 b hb hxl1 (Kd.C_below hxi1 hb) hyl1 (Kd.C_below hyi1 hb) hq
    have HC := qO hcall; have HT := qO hs1; have HF := qO hs2; clear hcall hs1 hs2 hq hx hy; clear hxl1 hxi1 hyl1 hyi1; generalize rd_T53 l0 (kk : Int) = x at HC hx0 hx1; generalize rd_T53 l1 (kk : Int) = y at HC hy0 hy1; clear HA; have fy0 := fun o : Obj => pw_cell_below (qbA (Below.refl wr.heap.size wr) o) hy0
    have fy1 := fun o : Obj => pw_cell_below (qbA (Below.refl wr.heap.size wr) o) hy1
    cases b with
    | true =>
     have HT1 := qO (HT.out rfl); clear HT HF
     go_wp2_with (go_at_fn g; refine (HC.out _ (qbA (qbA BW.out _) _)).mono ?_; rintro e w' ⟨rfl, hb'⟩)
     go_roundg (l0.length - (kk + 1))
     case measure => omega
     case rel => exact ⟨kk + 1, qa28, qa28, by go_num, ⟨below_step (qbA (qbA BW.out _) _) hb'⟩, HT1⟩
    | false =>
     have HF1 := qO (HF.out rfl); clear HT HF
     go_wp2_with (go_at_fn g; refine (HC.out _ (qbA (qbA BW.out _) _)).mono ?_; rintro e w' ⟨rfl, hb'⟩)
     go_ret
     exact ⟨by rw [HF1.out]; rfl, below_step (qbA (qbA BW.out _) _) hb'⟩
   ·have hltz : ¬ (kk : Int) < (l0.length : Int) := by omega
    have HA2 := qO (impl_TypeDef_46.last q l0 l1 kk r hlt HA.out); clear HA; go_wp2
    go_ret
    exact ⟨by rw [HA2.out]; rfl, BW.out⟩
 ·rw [if_neg hll] at h
  obtain rfl := Option.some.inj h; have hll2 : ¬ (l0.length : Int) = (l1.length : Int) := by omega
  have hb0 : ((l0.length : Int) == (l1.length : Int)) = false := beq_eq_false_iff_ne.mpr hll2; have hb1 : ((l0.length : Int) != (l1.length : Int)) = true := bne_iff_ne.mpr hll2; clear h hll hll2
  go_enter Try.func46, Try.ntmps46
  go_wp2
  go_ret
  exact ⟨rfl, Below.refl _ _⟩

end Go.Proofs.Ytoogmlghfljeiaa.Q
