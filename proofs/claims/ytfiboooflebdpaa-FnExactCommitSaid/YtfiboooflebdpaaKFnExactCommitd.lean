/- Texts of the claim on FnExactCommit, gathered by a program of this session: what the program's functions compute (proved by walks), and the plain part. -/
import Derived.Test.YtfiboooflebdpaaKFnExactCommitc
namespace Go.Proofs.Ytfiboooflebdpaa.Q
open Go.RowKit Go.Proofs.YtfiboooflebdpaaW.PrintWords Go.Proofs.YtfiboooflebdpaaW.PrintLast Go.Proofs.YtfiboooflebdpaaW.PrintMore
attribute [local go_sem] max2_int min2_int max_two min_two max_three min_three max_four min_four
set_option linter.unusedVariables false
set_option linter.unusedSimpArgs false

mutual
def impl_StoreOK.j0 : Nat → Bool → List (List (S43)) → Int → Option (Bool)
 | 0, _, _, _ => none
 | k + 1, x16, x102000, x102001 => if x16 = true then (some false) else (impl_StoreOK.l0 k x102000 (x102000.length : Int) 0 x102000 x102001)
def impl_StoreOK.l0 : Nat → List (List (S43)) → Int → Int → List (List (S43)) → Int → Option (Bool)
 | 0, _, _, _, _, _ => none
 | k + 1, x18, x19, x20, x102000, x102001 => if x20 < x19 then (if 0 ≤ x20 then (if x20 < (x18.length : Int) then (impl_StoreOK.l1 k x20 (rd_L4 x18 x20) x18 x19 x20 (rd_L4 x18 x20) ((rd_L4 x18 x20).length : Int) 0 x102000 x102001) else (none)) else (none)) else (some true)
def impl_StoreOK.l1 : Nat → Int → List (S43) → List (List (S43)) → Int → Int → List (S43) → Int → Int → List (List (S43)) → Int → Option (Bool)
 | 0, _, _, _, _, _, _, _, _, _, _ => none
 | k + 1, x3, x4, x18, x19, x20, x25, x26, x27, x102000, x102001 => if x27 < x26 then (if 0 ≤ x27 then (if x27 < (x25.length : Int) then ((impl_within.f ((rd_T43 x25 x27).f0) 1 x102001).bind fun t106 => (if t106 = true then (if x27 > 0 then (if 0 ≤ (wrap64 (x27 - 1)) then (if (wrap64 (x27 - 1)) < (x4.length : Int) then (if ((rd_T43 x4 (wrap64 (x27 - 1))).f0) ≥ ((rd_T43 x25 x27).f0) then (some false) else ((impl_fits.f x3 ((rd_T43 x25 x27).f1)).bind fun t108 => (if t108 = true then (impl_StoreOK.l1 k x3 x4 x18 x19 x20 x25 x26 (wrap64 (x27 + 1)) x102000 x102001) else (some false)))) else (none)) else (none)) else ((impl_fits.f x3 ((rd_T43 x25 x27).f1)).bind fun t109 => (if t109 = true then (impl_StoreOK.l1 k x3 x4 x18 x19 x20 x25 x26 (wrap64 (x27 + 1)) x102000 x102001) else (some false)))) else (some false))) else (none)) else (none)) else (impl_StoreOK.l0 k x18 x19 (wrap64 (x20 + 1)) x102000 x102001)
end
def impl_StoreOK.f (k : Nat) (l0_0 : List (List (S43))) (a0_1 : Int) : Option (Bool) := if (l0_0.length : Int) = 16 then ((impl_within.f a0_1 0 100000).bind fun t102 => (impl_StoreOK.j0 k (!t102) l0_0 a0_1)) else (impl_StoreOK.j0 k true l0_0 a0_1)
set_option maxHeartbeats 8000000 in
set_option maxRecDepth 100000 in
theorem impl_StoreOK.calls (k : Nat) (A0_0 : Option Addr) (c0_0 : Nat) (l0_0 : List (List (S43))) (a0_1 : Int) (r : Bool) (w : World) (hr0_0 : Kd.C (Kd.slice 43 k43) w A0_0 l0_0.length l0_0) (hc0_0 : l0_0.length ≤ c0_0) (h : impl_StoreOK.f k l0_0 a0_1 = some r) :
  Calls Try.prog 22 #[.agg #[.slice A0_0 l0_0.length c0_0, .int .i64 a0_1]] w fun e w' => e = .returned (.bool r) ∧ Below w.heap.size w w' := by
 have hu28 := Try.underlying28; have hu43 := Try.underlying43; have HR0_0 := qO hr0_0; have HC0_0 := qO hc0_0; clear hr0_0 hc0_0; have HB := qO (Below.refl w.heap.size w); have H : (if (l0_0.length : Int) = 16 then ((impl_within.f a0_1 0 100000).bind fun t102 => (impl_StoreOK.j0 k (!t102) l0_0 a0_1)) else (impl_StoreOK.j0 k true l0_0 a0_1)) = some r := h; clear h; have HC2 := qO H; clear H
 go_enter Try.func22, Try.ntmps22
 go_upto_region 1 with (first | ((with_reducible refine gate_dst (N := 1) rfl ?_); refine qX 1 #[.slice A0_0 l0_0.length c0_0, .int .i64 a0_1] 28 ?_; intro gb101 hg w3 hbox hb; have BK101 := qO (hbox); have GW101 := qO ((qa46 : w.heap.size ≤ gb101)); have GE101 := qO ((qa46 : w.heap.size ≤ gb101)); replace HB := qO (below_step qa16 hb); clear hb hbox hg))
 repeat (go_quiet (first | ((with_reducible refine gate_dst (N := 1) rfl ?_); refine qX 1 #[.slice A0_0 l0_0.length c0_0, .int .i64 a0_1] 28 ?_; intro gb101 hg w3 hbox hb; have BK101 := qO (hbox); have GW101 := qO ((qa46 : w.heap.size ≤ gb101)); have GE101 := qO ((qa46 : w.heap.size ≤ gb101)); replace HB := qO (below_step qa16 hb); clear hb hbox hg)); go_upto_region 1 with (first | ((with_reducible refine gate_dst (N := 1) rfl ?_); refine qX 1 #[.slice A0_0 l0_0.length c0_0, .int .i64 a0_1] 28 ?_; intro gb101 hg w3 hbox hb; have BK101 := qO (hbox); have GW101 := qO ((qa46 : w.heap.size ≤ gb101)); have GE101 := qO ((qa46 : w.heap.size ≤ gb101)); replace HB := qO (below_step qa16 hb); clear hb hbox hg)))
 (try simp only [Act.put, qzA, qzB, qzC])
 go_cut [16] (fun v16 wc => ∃ (kq : Nat) (x16_1 : Bool), v16 = .bool x16_1 ∧ Aside0 (impl_StoreOK.j0 kq x16_1 l0_0 a0_1 = some r) ∧ Aside0 (kq ≤ k) ∧ Aside0 (wc.heap[gb101]? = some (.cells #[(.slice A0_0 l0_0.length c0_0), .int .i64 a0_1] 28 (0, 0))) ∧ Aside0 (Below w.heap.size w wc))
 case first =>
  have H := HC2.out; clear HC2
  by_cases c4 : (l0_0.length : Int) = 16
  ·rw [if_pos c4] at H
   have c4b0 : ((l0_0.length : Int) == 16) = true := beq_iff_eq.mpr c4; have c4b1 : ((l0_0.length : Int) != 16) = false := bne_eq_false_iff_eq.mpr c4; clear c4; (first | rw [c4b0] | (simp only [i64_w, i32_w]; rw [c4b0]) | skip); replace H := Option.bind_eq_some_iff.mp H; obtain ⟨t102, A50, H⟩ := H; replace H : (impl_StoreOK.j0 k (!t102) l0_0 a0_1) = some r := H; have A5 := qO A50; clear A50; have H' := qO H; clear H; obtain ⟨hcz6_0, hcz6_1, hfz6_0, hfz6_1⟩ := qb2 BK101.out
   go_wp2_with (first | (go_at_call 65; (with_reducible refine (impl_within.calls a0_1 0 100000 t102 _ A5.out).mono ?_); rintro e w' ⟨rfl, ⟨nd, rfl⟩⟩; (try first | exact ⟨rfl, _, World.drewN_drewN _ _ _⟩ | exact ⟨rfl, _, Eq.trans (World.drewN_drewN _ _ _) (congrArg (World.drewN _) (Nat.add_assoc _ _ _))⟩)))
   repeat (go_quiet (first | (go_at_call 65; (with_reducible refine (impl_within.calls a0_1 0 100000 t102 _ A5.out).mono ?_); rintro e w' ⟨rfl, ⟨nd, rfl⟩⟩; (try first | exact ⟨rfl, _, World.drewN_drewN _ _ _⟩ | exact ⟨rfl, _, Eq.trans (World.drewN_drewN _ _ _) (congrArg (World.drewN _) (Nat.add_assoc _ _ _))⟩))); try go_wp2_with (first | (go_at_call 65; (with_reducible refine (impl_within.calls a0_1 0 100000 t102 _ A5.out).mono ?_); rintro e w' ⟨rfl, ⟨nd, rfl⟩⟩; (try first | exact ⟨rfl, _, World.drewN_drewN _ _ _⟩ | exact ⟨rfl, _, Eq.trans (World.drewN_drewN _ _ _) (congrArg (World.drewN _) (Nat.add_assoc _ _ _))⟩))))
   go_meet
   case rel => exact ⟨_, (!t102), qa12, H', ⟨qa148⟩, ⟨qa17⟩, ⟨qa14⟩⟩
  ·rw [if_neg c4] at H
   have c4b0 : ((l0_0.length : Int) == 16) = false := beq_eq_false_iff_ne.mpr c4; have c4b1 : ((l0_0.length : Int) != 16) = true := bne_iff_ne.mpr c4; (first | rw [c4b0] | (simp only [i64_w, i32_w]; rw [c4b0]) | skip); have H' := qO H; clear H; obtain ⟨hcz7_0, hcz7_1, hfz7_0, hfz7_1⟩ := qb2 BK101.out; go_wp2
   repeat (go_quiet (fail); try go_wp2)
   go_meet
   case rel => exact ⟨_, (true), qa12, H', ⟨qa148⟩, ⟨qa17⟩, ⟨qa14⟩⟩
 case rest =>
  clear HC2
  try clear c2
  try clear p2
  try clear c4
  try clear c4b0
  try clear c4b1
  try clear hcz6_0
  try clear hcz6_1
  try clear hcz7_0
  try clear hcz7_1
  try clear hfz6_0
  try clear hfz6_1
  try clear hfz7_0
  try clear hfz7_1
  obtain ⟨kq, x16_1, rfl, HA, HJ1, BK101, HB⟩ := hcut
  cases kq with
  | zero => exact absurd HA.out (by simp [impl_StoreOK.j0])
  | succ kj1 =>
   have H := HA.out; clear HA; simp only [impl_StoreOK.j0] at H
   by_cases c8 : x16_1 = true
   ·subst c8
    have H1 : (some false) = some r := by rw [if_pos rfl] at H; exact H
    clear H; have H := H1; clear H1; obtain rfl := Option.some.inj H; go_wp2
    repeat (go_quiet (fail); try go_wp2)
    go_ret
    exact ⟨qa7, qa14⟩
   ·replace c8 := Bool.eq_false_iff.mpr c8
    subst c8; have H1 : (impl_StoreOK.l0 kj1 l0_0 (l0_0.length : Int) 0 l0_0 a0_1) = some r := by rw [if_neg (show ¬ (false = true) by decide)] at H; exact H
    clear H; have H := H1; clear H1; have H' := qO H; clear H; obtain ⟨hcz9_0, hcz9_1, hfz9_0, hfz9_1⟩ := qb2 BK101.out; go_wp2
    repeat (go_quiet (fail); try go_wp2)
    go_loopg [20] kj1 (fun kq v20 w' => ∃ (x20_2 : Int), v20 = .int .i64 x20_2 ∧ Aside0 (impl_StoreOK.l0 kq l0_0 (l0_0.length : Int) x20_2 l0_0 a0_1 = some r) ∧ Aside0 (kq ≤ kj1) ∧ Aside0 (w'.heap[gb101]? = some (.cells #[(.slice A0_0 l0_0.length c0_0), .int .i64 a0_1] 28 (0, 0))) ∧ Aside0 (Below w.heap.size w w'))
    case atStart => exact ⟨(0), qa12, H', ⟨Nat.le_refl _⟩, ⟨qa17⟩, ⟨qa14⟩⟩
    case round =>
     clear H'
     try clear c2
     try clear p2
     try clear c4
     try clear c4b0
     try clear c4b1
     try clear c8
     try clear hcz6_0
     try clear hcz6_1
     try clear hcz7_0
     try clear hcz7_1
     try clear hcz9_0
     try clear hcz9_1
     try clear hfz6_0
     try clear hfz6_1
     try clear hfz7_0
     try clear hfz7_1
     try clear hfz9_0
     try clear hfz9_1
     try clear p2
     obtain ⟨x20_2, rfl, HA, HK2, BK101, HB⟩ := hrel
     cases gk with
     | zero => exact absurd HA.out (by simp [impl_StoreOK.l0])
     | succ k2 =>
      have H := HA.out; clear HA; simp only [impl_StoreOK.l0] at H
      by_cases c10 : x20_2 < (l0_0.length : Int)
      ·rw [if_pos c10] at H
       have c10b0 : decide (x20_2 < (l0_0.length : Int)) = true := decide_eq_true c10; clear c10
       by_cases c11 : 0 ≤ x20_2
       ·rw [if_pos c11] at H
        have c11b0 : decide (0 ≤ x20_2) = true := decide_eq_true c11; clear c11
        by_cases c12 : x20_2 < (l0_0.length : Int)
        ·rw [if_pos c12] at H
         have c12b0 : decide (x20_2 < (l0_0.length : Int)) = true := decide_eq_true c12; clear c12; have H' := qO H; clear H; have p103 : 0 ≤ (x20_2 : Int) := qT qa1; have q103 : x20_2 < (l0_0.length : Int) := qT qa1; obtain ⟨ad103, A103_0, c103_0, e103, hx103_0, hl103_0, hi103_0⟩ := at_L4 HR0_0.out x20_2 p103 q103
         cases e103
         replace hx103_0 := (HB.out.cell (qL w _ hx103_0)).trans hx103_0; have HR103_0 := qO hi103_0; have HC103_0 := qO hl103_0; clear hi103_0 hl103_0; replace p103 := eq_true p103; replace q103 := eq_true q103; go_wp2
         repeat (go_quiet (fail); try go_wp2)
         go_loopg [27] k2 (fun kq v27 w' => ∃ (x27_3 : Int), v27 = .int .i64 x27_3 ∧ Aside0 (impl_StoreOK.l1 kq x20_2 (rd_L4 l0_0 x20_2) l0_0 (l0_0.length : Int) x20_2 (rd_L4 l0_0 x20_2) ((rd_L4 l0_0 x20_2).length : Int) x27_3 l0_0 a0_1 = some r) ∧ Aside0 (kq ≤ k2) ∧ Aside0 (w'.heap[gb101]? = some (.cells #[(.slice (some ad103) l0_0.length c0_0), .int .i64 a0_1] 28 (0, 0))) ∧ Aside0 (Below w.heap.size w w'))
         case atStart => exact ⟨(0), qa12, H', ⟨Nat.le_refl _⟩, ⟨qa17⟩, ⟨qa14⟩⟩
         case round =>
          clear H'
          try clear c1
          try clear p1
          try clear q1
          try clear hx1
          try clear c2
          try clear p2
          try clear c4
          try clear c4b0
          try clear c4b1
          try clear c8
          try clear c10
          try clear c10b0
          try clear p10
          try clear q10
          try clear hx10
          try clear c11
          try clear c11b0
          try clear c12
          try clear c12b0
          try clear hcz6_0
          try clear hcz6_1
          try clear hcz7_0
          try clear hcz7_1
          try clear hcz9_0
          try clear hcz9_1
          try clear hfz6_0
          try clear hfz6_1
          try clear hfz7_0
          try clear hfz7_1
          try clear hfz9_0
          try clear hfz9_1
          try clear hx103_0
          try clear p103
          try clear p2
          try clear q103
          obtain ⟨x27_3, rfl, HA, HK3, BK101, HB⟩ := hrel
          cases gk with
          | zero => exact absurd HA.out (by simp [impl_StoreOK.l1])
          | succ k3 =>
           have H := HA.out; clear HA; simp only [impl_StoreOK.l1] at H
           by_cases c13 : x27_3 < ((rd_L4 l0_0 x20_2).length : Int)
           ·rw [if_pos c13] at H
            have c13b0 : decide (x27_3 < ((rd_L4 l0_0 x20_2).length : Int)) = true := decide_eq_true c13; clear c13
            by_cases c14 : 0 ≤ x27_3
            ·rw [if_pos c14] at H
             have c14b0 : decide (0 ≤ x27_3) = true := decide_eq_true c14; clear c14
             by_cases c15 : x27_3 < ((rd_L4 l0_0 x20_2).length : Int)
             ·rw [if_pos c15] at H
              have c15b0 : decide (x27_3 < ((rd_L4 l0_0 x20_2).length : Int)) = true := decide_eq_true c15; clear c15; replace H := Option.bind_eq_some_iff.mp H; obtain ⟨t106, A160, H⟩ := H; replace H : (if t106 = true then (if x27_3 > 0 then (if 0 ≤ (wrap64 (x27_3 - 1)) then (if (wrap64 (x27_3 - 1)) < ((rd_L4 l0_0 x20_2).length : Int) then (if ((rd_T43 (rd_L4 l0_0 x20_2) (wrap64 (x27_3 - 1))).f0) ≥ ((rd_T43 (rd_L4 l0_0 x20_2) x27_3).f0) then (some false) else ((impl_fits.f x20_2 ((rd_T43 (rd_L4 l0_0 x20_2) x27_3).f1)).bind fun t108 => (if t108 = true then (impl_StoreOK.l1 k3 x20_2 (rd_L4 l0_0 x20_2) l0_0 (l0_0.length : Int) x20_2 (rd_L4 l0_0 x20_2) ((rd_L4 l0_0 x20_2).length : Int) (wrap64 (x27_3 + 1)) l0_0 a0_1) else (some false)))) else (none)) else (none)) else ((impl_fits.f x20_2 ((rd_T43 (rd_L4 l0_0 x20_2) x27_3).f1)).bind fun t109 => (if t109 = true then (impl_StoreOK.l1 k3 x20_2 (rd_L4 l0_0 x20_2) l0_0 (l0_0.length : Int) x20_2 (rd_L4 l0_0 x20_2) ((rd_L4 l0_0 x20_2).length : Int) (wrap64 (x27_3 + 1)) l0_0 a0_1) else (some false)))) else (some false)) = some r := H; have A16 := qO A160; clear A160
              by_cases c17 : t106 = true
              ·subst c17
               have H1 : (if x27_3 > 0 then (if 0 ≤ (wrap64 (x27_3 - 1)) then (if (wrap64 (x27_3 - 1)) < ((rd_L4 l0_0 x20_2).length : Int) then (if ((rd_T43 (rd_L4 l0_0 x20_2) (wrap64 (x27_3 - 1))).f0) ≥ ((rd_T43 (rd_L4 l0_0 x20_2) x27_3).f0) then (some false) else ((impl_fits.f x20_2 ((rd_T43 (rd_L4 l0_0 x20_2) x27_3).f1)).bind fun t108 => (if t108 = true then (impl_StoreOK.l1 k3 x20_2 (rd_L4 l0_0 x20_2) l0_0 (l0_0.length : Int) x20_2 (rd_L4 l0_0 x20_2) ((rd_L4 l0_0 x20_2).length : Int) (wrap64 (x27_3 + 1)) l0_0 a0_1) else (some false)))) else (none)) else (none)) else ((impl_fits.f x20_2 ((rd_T43 (rd_L4 l0_0 x20_2) x27_3).f1)).bind fun t109 => (if t109 = true then (impl_StoreOK.l1 k3 x20_2 (rd_L4 l0_0 x20_2) l0_0 (l0_0.length : Int) x20_2 (rd_L4 l0_0 x20_2) ((rd_L4 l0_0 x20_2).length : Int) (wrap64 (x27_3 + 1)) l0_0 a0_1) else (some false)))) = some r := by rw [if_pos rfl] at H; exact H
               clear H; have H := H1; clear H1
               by_cases c18 : x27_3 > 0
               ·rw [if_pos c18] at H
                have c18b0 : decide (0 < x27_3) = true := decide_eq_true c18; clear c18; obtain ⟨ji19, hji19⟩ : ∃ j_ : Int, (wrap64 (x27_3 - 1)) = j_ := ⟨_, rfl⟩; replace H : (if 0 ≤ (ji19) then (if (ji19) < ((rd_L4 l0_0 x20_2).length : Int) then (if ((rd_T43 (rd_L4 l0_0 x20_2) (ji19)).f0) ≥ ((rd_T43 (rd_L4 l0_0 x20_2) x27_3).f0) then (some false) else ((impl_fits.f x20_2 ((rd_T43 (rd_L4 l0_0 x20_2) x27_3).f1)).bind fun t108 => (if t108 = true then (impl_StoreOK.l1 k3 x20_2 (rd_L4 l0_0 x20_2) l0_0 (l0_0.length : Int) x20_2 (rd_L4 l0_0 x20_2) ((rd_L4 l0_0 x20_2).length : Int) (wrap64 (x27_3 + 1)) l0_0 a0_1) else (some false)))) else (none)) else (none)) = some r := by first | (rw [hji19] at H; exact H) | (simp only [hji19] at H ⊢; exact H)
                (try rw [hji19] at A16); have hji19w : (IntKind.i64.wrap (x27_3 - 1)) = ji19 := (i64_w _).trans hji19
                by_cases c20 : 0 ≤ (ji19)
                ·rw [if_pos c20] at H
                 have c20b0 : decide (0 ≤ (ji19)) = true := decide_eq_true c20; clear c20
                 by_cases c21 : (ji19) < ((rd_L4 l0_0 x20_2).length : Int)
                 ·rw [if_pos c21] at H
                  have c21b0 : decide ((ji19) < ((rd_L4 l0_0 x20_2).length : Int)) = true := decide_eq_true c21; clear c21
                  by_cases c22 : ((rd_T43 (rd_L4 l0_0 x20_2) (ji19)).f0) ≥ ((rd_T43 (rd_L4 l0_0 x20_2) x27_3).f0)
                  ·rw [if_pos c22] at H
                   have c22b0 : decide (((rd_T43 (rd_L4 l0_0 x20_2) x27_3).f0) ≤ ((rd_T43 (rd_L4 l0_0 x20_2) (ji19)).f0)) = true := decide_eq_true c22; clear c22; obtain rfl := Option.some.inj H; have p104 : 0 ≤ (x27_3 : Int) := qT qa1; have q104 : x27_3 < ((rd_L4 l0_0 x20_2).length : Int) := qT qa1; obtain ⟨ad104, e104, hx104_0, hx104_1⟩ := at_T43 HR103_0.out x27_3 p104 q104
                   cases e104
                   replace hx104_0 := (HB.out.cell (qL w _ hx104_0)).trans hx104_0; replace hx104_1 := (HB.out.cell (qL w _ hx104_1)).trans hx104_1; replace p104 := eq_true p104; replace q104 := eq_true q104
                   go_wp2_with (first | ((with_reducible refine gate_dst (N := 6) rfl ?_); refine qX 6 #[.int .i64 0, .int .i64 0] 43 ?_; intro gb105 hg w23 hbox hb; have hx_ := qHX HB hb qa0; have BK105 := qO (hbox); have GW105 := qO ((qa9 : w.heap.size ≤ gb105)); have GE105 := GW105; have NB101_105 := qO ((qa15 : gb101 ≠ gb105)); have NB105_101 := qO (Ne.symm NB101_105.out); replace BK101 := qO (qB BK101.out hx_ hb); replace HB := qO (below_step (below_step HB.out hx_) hb); clear hx_ hb hbox hg; have hnb24 := NB105_101.out; have hnc24 := NB101_105.out; obtain ⟨hcz25_0, hcz25_1, hfz25_0, hfz25_1⟩ := qb2 BK105.out; obtain ⟨hcz26_0, hcz26_1, hfz26_0, hfz26_1⟩ := qb2 BK101.out) | (go_at_call 65; (with_reducible refine (impl_within.calls ((rd_T43 (rd_L4 l0_0 x20_2) x27_3).f0) 1 a0_1 true _ A16.out).mono ?_); rintro e w' ⟨rfl, ⟨nd, rfl⟩⟩; (try first | exact ⟨rfl, _, World.drewN_drewN _ _ _⟩ | exact ⟨rfl, _, Eq.trans (World.drewN_drewN _ _ _) (congrArg (World.drewN _) (Nat.add_assoc _ _ _))⟩); have p107 : 0 ≤ ((ji19) : Int) := qT qa1; have q107 : (ji19) < ((rd_L4 l0_0 x20_2).length : Int) := qT qa1; obtain ⟨ad107, e107, hx107_0, hx107_1⟩ := at_T43 HR103_0.out (ji19) p107 q107; obtain rfl : ad104 = ad107 := qa185; have hn107_0 : ad104.block ≠ gb105 := Nat.ne_of_lt (Nat.lt_of_lt_of_le qa55 GW105.out); have hn107_1 : ad104.block ≠ gb105 := Nat.ne_of_lt (Nat.lt_of_lt_of_le qa55 GW105.out); replace hx107_0 := (HB.out.cell (qL w _ hx107_0)).trans hx107_0; replace hx107_1 := (HB.out.cell (qL w _ hx107_1)).trans hx107_1; replace hx107_0 := (cell_far (p := ⟨gb105, 0, none⟩) qa33 (.int .i64 ((rd_T43 (rd_L4 l0_0 x20_2) x27_3).f0))).trans hx107_0; replace hx107_1 := (cell_far (p := ⟨gb105, 0, none⟩) qa33 (.int .i64 ((rd_T43 (rd_L4 l0_0 x20_2) x27_3).f0))).trans hx107_1; replace hx107_0 := (cell_far (p := ⟨gb105, 1, none⟩) qa34 (.int .i64 ((rd_T43 (rd_L4 l0_0 x20_2) x27_3).f1))).trans hx107_0; replace hx107_1 := (cell_far (p := ⟨gb105, 1, none⟩) qa34 (.int .i64 ((rd_T43 (rd_L4 l0_0 x20_2) x27_3).f1))).trans hx107_1; (try have hy107_0 := fun (n_ : Nat) => (show ((((w23.drewN n_).setCell ⟨gb105, 0, none⟩ (.int .i64 ((rd_T43 (rd_L4 l0_0 x20_2) x27_3).f0))).setCell ⟨gb105, 1, none⟩ (.int .i64 ((rd_T43 (rd_L4 l0_0 x20_2) x27_3).f1)))).cell? _ = some _ from hx107_0)); (try have hy107_1 := fun (n_ : Nat) => (show ((((w23.drewN n_).setCell ⟨gb105, 0, none⟩ (.int .i64 ((rd_T43 (rd_L4 l0_0 x20_2) x27_3).f0))).setCell ⟨gb105, 1, none⟩ (.int .i64 ((rd_T43 (rd_L4 l0_0 x20_2) x27_3).f1)))).cell? _ = some _ from hx107_1)); clear hn107_0 hn107_1; replace p107 := eq_true p107; replace q107 := eq_true q107))
                   repeat (go_quiet (first | ((with_reducible refine gate_dst (N := 6) rfl ?_); refine qX 6 #[.int .i64 0, .int .i64 0] 43 ?_; intro gb105 hg w23 hbox hb; have BK105 := qO (hbox); have GW105 := qO ((qa30 : w.heap.size ≤ gb105)); have GE105 := qO ((qa30 : w.heap.size ≤ gb105)); have NB101_105 := qO ((qa15 : gb101 ≠ gb105)); have NB105_101 := qO ((qa49 : gb105 ≠ gb101)); replace BK101 := qO (blk_below (g := gb101) (o := .cells #[.slice (some ad103) l0_0.length c0_0, .int .i64 a0_1] 28 (0, 0)) qa17 hb); replace HB := qO (below_step qa14 hb); clear hb hbox hg; have hnb24 := NB105_101.out; have hnc24 := NB101_105.out; obtain ⟨hcz25_0, hcz25_1, hfz25_0, hfz25_1⟩ := qb2 BK105.out; obtain ⟨hcz26_0, hcz26_1, hfz26_0, hfz26_1⟩ := qb2 BK101.out) | (go_at_call 65; (with_reducible refine (impl_within.calls ((rd_T43 (rd_L4 l0_0 x20_2) x27_3).f0) 1 a0_1 true _ A16.out).mono ?_); rintro e w' ⟨rfl, ⟨nd, rfl⟩⟩; (try first | exact ⟨rfl, _, World.drewN_drewN _ _ _⟩ | exact ⟨rfl, _, Eq.trans (World.drewN_drewN _ _ _) (congrArg (World.drewN _) (Nat.add_assoc _ _ _))⟩); have p107 : 0 ≤ ((ji19) : Int) := qT qa1; have q107 : (ji19) < ((rd_L4 l0_0 x20_2).length : Int) := qT qa1; obtain ⟨ad107, e107, hx107_0, hx107_1⟩ := at_T43 HR103_0.out (ji19) p107 q107; obtain rfl : ad104 = ad107 := qa185; have hn107_0 : ad104.block ≠ gb105 := Nat.ne_of_lt (Nat.lt_of_lt_of_le qa55 GW105.out); have hn107_1 : ad104.block ≠ gb105 := Nat.ne_of_lt (Nat.lt_of_lt_of_le qa55 GW105.out); replace hx107_0 := (HB.out.cell (qL w _ hx107_0)).trans hx107_0; replace hx107_1 := (HB.out.cell (qL w _ hx107_1)).trans hx107_1; replace hx107_0 := (cell_far (p := ⟨gb105, 0, none⟩) qa33 (.int .i64 ((rd_T43 (rd_L4 l0_0 x20_2) x27_3).f0))).trans hx107_0; replace hx107_1 := (cell_far (p := ⟨gb105, 0, none⟩) qa33 (.int .i64 ((rd_T43 (rd_L4 l0_0 x20_2) x27_3).f0))).trans hx107_1; replace hx107_0 := (cell_far (p := ⟨gb105, 1, none⟩) qa34 (.int .i64 ((rd_T43 (rd_L4 l0_0 x20_2) x27_3).f1))).trans hx107_0; replace hx107_1 := (cell_far (p := ⟨gb105, 1, none⟩) qa34 (.int .i64 ((rd_T43 (rd_L4 l0_0 x20_2) x27_3).f1))).trans hx107_1; (try have hy107_0 := fun (n_ : Nat) => (show ((((w23.drewN n_).setCell ⟨gb105, 0, none⟩ (.int .i64 ((rd_T43 (rd_L4 l0_0 x20_2) x27_3).f0))).setCell ⟨gb105, 1, none⟩ (.int .i64 ((rd_T43 (rd_L4 l0_0 x20_2) x27_3).f1)))).cell? _ = some _ from hx107_0)); (try have hy107_1 := fun (n_ : Nat) => (show ((((w23.drewN n_).setCell ⟨gb105, 0, none⟩ (.int .i64 ((rd_T43 (rd_L4 l0_0 x20_2) x27_3).f0))).setCell ⟨gb105, 1, none⟩ (.int .i64 ((rd_T43 (rd_L4 l0_0 x20_2) x27_3).f1)))).cell? _ = some _ from hx107_1)); clear hn107_0 hn107_1; replace p107 := eq_true p107; replace q107 := eq_true q107)); try go_wp2_with (first | ((with_reducible refine gate_dst (N := 6) rfl ?_); refine qX 6 #[.int .i64 0, .int .i64 0] 43 ?_; intro gb105 hg w23 hbox hb; have hx_ := qHX HB hb qa0; have BK105 := qO (hbox); have GW105 := qO ((qa9 : w.heap.size ≤ gb105)); have GE105 := GW105; have NB101_105 := qO ((qa15 : gb101 ≠ gb105)); have NB105_101 := qO (Ne.symm NB101_105.out); replace BK101 := qO (qB BK101.out hx_ hb); replace HB := qO (below_step (below_step HB.out hx_) hb); clear hx_ hb hbox hg; have hnb24 := NB105_101.out; have hnc24 := NB101_105.out; obtain ⟨hcz25_0, hcz25_1, hfz25_0, hfz25_1⟩ := qb2 BK105.out; obtain ⟨hcz26_0, hcz26_1, hfz26_0, hfz26_1⟩ := qb2 BK101.out) | (go_at_call 65; (with_reducible refine (impl_within.calls ((rd_T43 (rd_L4 l0_0 x20_2) x27_3).f0) 1 a0_1 true _ A16.out).mono ?_); rintro e w' ⟨rfl, ⟨nd, rfl⟩⟩; (try first | exact ⟨rfl, _, World.drewN_drewN _ _ _⟩ | exact ⟨rfl, _, Eq.trans (World.drewN_drewN _ _ _) (congrArg (World.drewN _) (Nat.add_assoc _ _ _))⟩); have p107 : 0 ≤ ((ji19) : Int) := qT qa1; have q107 : (ji19) < ((rd_L4 l0_0 x20_2).length : Int) := qT qa1; obtain ⟨ad107, e107, hx107_0, hx107_1⟩ := at_T43 HR103_0.out (ji19) p107 q107; obtain rfl : ad104 = ad107 := qa185; have hn107_0 : ad104.block ≠ gb105 := Nat.ne_of_lt (Nat.lt_of_lt_of_le qa55 GW105.out); have hn107_1 : ad104.block ≠ gb105 := Nat.ne_of_lt (Nat.lt_of_lt_of_le qa55 GW105.out); replace hx107_0 := (HB.out.cell (qL w _ hx107_0)).trans hx107_0; replace hx107_1 := (HB.out.cell (qL w _ hx107_1)).trans hx107_1; replace hx107_0 := (cell_far (p := ⟨gb105, 0, none⟩) qa33 (.int .i64 ((rd_T43 (rd_L4 l0_0 x20_2) x27_3).f0))).trans hx107_0; replace hx107_1 := (cell_far (p := ⟨gb105, 0, none⟩) qa33 (.int .i64 ((rd_T43 (rd_L4 l0_0 x20_2) x27_3).f0))).trans hx107_1; replace hx107_0 := (cell_far (p := ⟨gb105, 1, none⟩) qa34 (.int .i64 ((rd_T43 (rd_L4 l0_0 x20_2) x27_3).f1))).trans hx107_0; replace hx107_1 := (cell_far (p := ⟨gb105, 1, none⟩) qa34 (.int .i64 ((rd_T43 (rd_L4 l0_0 x20_2) x27_3).f1))).trans hx107_1; (try have hy107_0 := fun (n_ : Nat) => (show ((((w23.drewN n_).setCell ⟨gb105, 0, none⟩ (.int .i64 ((rd_T43 (rd_L4 l0_0 x20_2) x27_3).f0))).setCell ⟨gb105, 1, none⟩ (.int .i64 ((rd_T43 (rd_L4 l0_0 x20_2) x27_3).f1)))).cell? _ = some _ from hx107_0)); (try have hy107_1 := fun (n_ : Nat) => (show ((((w23.drewN n_).setCell ⟨gb105, 0, none⟩ (.int .i64 ((rd_T43 (rd_L4 l0_0 x20_2) x27_3).f0))).setCell ⟨gb105, 1, none⟩ (.int .i64 ((rd_T43 (rd_L4 l0_0 x20_2) x27_3).f1)))).cell? _ = some _ from hx107_1)); clear hn107_0 hn107_1; replace p107 := eq_true p107; replace q107 := eq_true q107)))
                   go_ret
                   exact ⟨qa113, qa72⟩
                  ·rw [if_neg c22] at H
                   have c22b0 : decide (((rd_T43 (rd_L4 l0_0 x20_2) x27_3).f0) ≤ ((rd_T43 (rd_L4 l0_0 x20_2) (ji19)).f0)) = false := decide_eq_false c22; clear c22; replace H := Option.bind_eq_some_iff.mp H; obtain ⟨t108, A270, H⟩ := H; replace H : (if t108 = true then (impl_StoreOK.l1 k3 x20_2 (rd_L4 l0_0 x20_2) l0_0 (l0_0.length : Int) x20_2 (rd_L4 l0_0 x20_2) ((rd_L4 l0_0 x20_2).length : Int) (wrap64 (x27_3 + 1)) l0_0 a0_1) else (some false)) = some r := H; have A27 := qO A270; clear A270
                   by_cases c28 : t108 = true
                   ·subst c28
                    have H1 : (impl_StoreOK.l1 k3 x20_2 (rd_L4 l0_0 x20_2) l0_0 (l0_0.length : Int) x20_2 (rd_L4 l0_0 x20_2) ((rd_L4 l0_0 x20_2).length : Int) (wrap64 (x27_3 + 1)) l0_0 a0_1) = some r := by rw [if_pos rfl] at H; exact H
                    clear H; have H := H1; clear H1; have H' := qO H; clear H; have p104 : 0 ≤ (x27_3 : Int) := qT qa1; have q104 : x27_3 < ((rd_L4 l0_0 x20_2).length : Int) := qT qa1; obtain ⟨ad104, e104, hx104_0, hx104_1⟩ := at_T43 HR103_0.out x27_3 p104 q104
                    cases e104
                    replace hx104_0 := (HB.out.cell (qL w _ hx104_0)).trans hx104_0; replace hx104_1 := (HB.out.cell (qL w _ hx104_1)).trans hx104_1; replace p104 := eq_true p104; replace q104 := eq_true q104
                    go_wp2_with (first | ((with_reducible refine gate_dst (N := 6) rfl ?_); refine qX 6 #[.int .i64 0, .int .i64 0] 43 ?_; intro gb105 hg w29 hbox hb; have hx_ := qHX HB hb qa0; have BK105 := qO (hbox); have GW105 := qO ((qa9 : w.heap.size ≤ gb105)); have GE105 := GW105; have NB101_105 := qO ((qa15 : gb101 ≠ gb105)); have NB105_101 := qO (Ne.symm NB101_105.out); replace BK101 := qO (qB BK101.out hx_ hb); replace HB := qO (below_step (below_step HB.out hx_) hb); clear hx_ hb hbox hg; have hnb30 := NB105_101.out; have hnc30 := NB101_105.out; obtain ⟨hcz31_0, hcz31_1, hfz31_0, hfz31_1⟩ := qb2 BK105.out; obtain ⟨hcz32_0, hcz32_1, hfz32_0, hfz32_1⟩ := qb2 BK101.out) | (go_at_call 65; (with_reducible refine (impl_within.calls ((rd_T43 (rd_L4 l0_0 x20_2) x27_3).f0) 1 a0_1 true _ A16.out).mono ?_); rintro e w' ⟨rfl, ⟨nd, rfl⟩⟩; (try first | exact ⟨rfl, _, World.drewN_drewN _ _ _⟩ | exact ⟨rfl, _, Eq.trans (World.drewN_drewN _ _ _) (congrArg (World.drewN _) (Nat.add_assoc _ _ _))⟩); have p107 : 0 ≤ ((ji19) : Int) := qT qa1; have q107 : (ji19) < ((rd_L4 l0_0 x20_2).length : Int) := qT qa1; obtain ⟨ad107, e107, hx107_0, hx107_1⟩ := at_T43 HR103_0.out (ji19) p107 q107; obtain rfl : ad104 = ad107 := qa185; have hn107_0 : ad104.block ≠ gb105 := Nat.ne_of_lt (Nat.lt_of_lt_of_le qa55 GW105.out); have hn107_1 : ad104.block ≠ gb105 := Nat.ne_of_lt (Nat.lt_of_lt_of_le qa55 GW105.out); replace hx107_0 := (HB.out.cell (qL w _ hx107_0)).trans hx107_0; replace hx107_1 := (HB.out.cell (qL w _ hx107_1)).trans hx107_1; replace hx107_0 := (cell_far (p := ⟨gb105, 0, none⟩) qa33 (.int .i64 ((rd_T43 (rd_L4 l0_0 x20_2) x27_3).f0))).trans hx107_0; replace hx107_1 := (cell_far (p := ⟨gb105, 0, none⟩) qa33 (.int .i64 ((rd_T43 (rd_L4 l0_0 x20_2) x27_3).f0))).trans hx107_1; replace hx107_0 := (cell_far (p := ⟨gb105, 1, none⟩) qa34 (.int .i64 ((rd_T43 (rd_L4 l0_0 x20_2) x27_3).f1))).trans hx107_0; replace hx107_1 := (cell_far (p := ⟨gb105, 1, none⟩) qa34 (.int .i64 ((rd_T43 (rd_L4 l0_0 x20_2) x27_3).f1))).trans hx107_1; (try have hy107_0 := fun (n_ : Nat) => (show ((((w29.drewN n_).setCell ⟨gb105, 0, none⟩ (.int .i64 ((rd_T43 (rd_L4 l0_0 x20_2) x27_3).f0))).setCell ⟨gb105, 1, none⟩ (.int .i64 ((rd_T43 (rd_L4 l0_0 x20_2) x27_3).f1)))).cell? _ = some _ from hx107_0)); (try have hy107_1 := fun (n_ : Nat) => (show ((((w29.drewN n_).setCell ⟨gb105, 0, none⟩ (.int .i64 ((rd_T43 (rd_L4 l0_0 x20_2) x27_3).f0))).setCell ⟨gb105, 1, none⟩ (.int .i64 ((rd_T43 (rd_L4 l0_0 x20_2) x27_3).f1)))).cell? _ = some _ from hx107_1)); clear hn107_0 hn107_1; replace p107 := eq_true p107; replace q107 := eq_true q107) | (go_at_call 66; (with_reducible refine (impl_fits.calls x20_2 ((rd_T43 (rd_L4 l0_0 x20_2) x27_3).f1) true _ A27.out).mono ?_); rintro e w' ⟨rfl, ⟨nd, rfl⟩⟩; (try first | exact ⟨rfl, _, World.drewN_drewN _ _ _⟩ | exact ⟨rfl, _, Eq.trans (World.drewN_drewN _ _ _) (congrArg (World.drewN _) (Nat.add_assoc _ _ _))⟩)))
                    repeat (go_quiet (first | ((with_reducible refine gate_dst (N := 6) rfl ?_); refine qX 6 #[.int .i64 0, .int .i64 0] 43 ?_; intro gb105 hg w29 hbox hb; have BK105 := qO (hbox); have GW105 := qO ((qa30 : w.heap.size ≤ gb105)); have GE105 := qO ((qa30 : w.heap.size ≤ gb105)); have NB101_105 := qO ((qa15 : gb101 ≠ gb105)); have NB105_101 := qO ((qa49 : gb105 ≠ gb101)); replace BK101 := qO (blk_below (g := gb101) (o := .cells #[.slice (some ad103) l0_0.length c0_0, .int .i64 a0_1] 28 (0, 0)) qa17 hb); replace HB := qO (below_step qa14 hb); clear hb hbox hg; have hnb30 := NB105_101.out; have hnc30 := NB101_105.out; obtain ⟨hcz31_0, hcz31_1, hfz31_0, hfz31_1⟩ := qb2 BK105.out; obtain ⟨hcz32_0, hcz32_1, hfz32_0, hfz32_1⟩ := qb2 BK101.out) | (go_at_call 65; (with_reducible refine (impl_within.calls ((rd_T43 (rd_L4 l0_0 x20_2) x27_3).f0) 1 a0_1 true _ A16.out).mono ?_); rintro e w' ⟨rfl, ⟨nd, rfl⟩⟩; (try first | exact ⟨rfl, _, World.drewN_drewN _ _ _⟩ | exact ⟨rfl, _, Eq.trans (World.drewN_drewN _ _ _) (congrArg (World.drewN _) (Nat.add_assoc _ _ _))⟩); have p107 : 0 ≤ ((ji19) : Int) := qT qa1; have q107 : (ji19) < ((rd_L4 l0_0 x20_2).length : Int) := qT qa1; obtain ⟨ad107, e107, hx107_0, hx107_1⟩ := at_T43 HR103_0.out (ji19) p107 q107; obtain rfl : ad104 = ad107 := qa185; have hn107_0 : ad104.block ≠ gb105 := Nat.ne_of_lt (Nat.lt_of_lt_of_le qa55 GW105.out); have hn107_1 : ad104.block ≠ gb105 := Nat.ne_of_lt (Nat.lt_of_lt_of_le qa55 GW105.out); replace hx107_0 := (HB.out.cell (qL w _ hx107_0)).trans hx107_0; replace hx107_1 := (HB.out.cell (qL w _ hx107_1)).trans hx107_1; replace hx107_0 := (cell_far (p := ⟨gb105, 0, none⟩) qa33 (.int .i64 ((rd_T43 (rd_L4 l0_0 x20_2) x27_3).f0))).trans hx107_0; replace hx107_1 := (cell_far (p := ⟨gb105, 0, none⟩) qa33 (.int .i64 ((rd_T43 (rd_L4 l0_0 x20_2) x27_3).f0))).trans hx107_1; replace hx107_0 := (cell_far (p := ⟨gb105, 1, none⟩) qa34 (.int .i64 ((rd_T43 (rd_L4 l0_0 x20_2) x27_3).f1))).trans hx107_0; replace hx107_1 := (cell_far (p := ⟨gb105, 1, none⟩) qa34 (.int .i64 ((rd_T43 (rd_L4 l0_0 x20_2) x27_3).f1))).trans hx107_1; (try have hy107_0 := fun (n_ : Nat) => (show ((((w29.drewN n_).setCell ⟨gb105, 0, none⟩ (.int .i64 ((rd_T43 (rd_L4 l0_0 x20_2) x27_3).f0))).setCell ⟨gb105, 1, none⟩ (.int .i64 ((rd_T43 (rd_L4 l0_0 x20_2) x27_3).f1)))).cell? _ = some _ from hx107_0)); (try have hy107_1 := fun (n_ : Nat) => (show ((((w29.drewN n_).setCell ⟨gb105, 0, none⟩ (.int .i64 ((rd_T43 (rd_L4 l0_0 x20_2) x27_3).f0))).setCell ⟨gb105, 1, none⟩ (.int .i64 ((rd_T43 (rd_L4 l0_0 x20_2) x27_3).f1)))).cell? _ = some _ from hx107_1)); clear hn107_0 hn107_1; replace p107 := eq_true p107; replace q107 := eq_true q107) | (go_at_call 66; (with_reducible refine (impl_fits.calls x20_2 ((rd_T43 (rd_L4 l0_0 x20_2) x27_3).f1) true _ A27.out).mono ?_); rintro e w' ⟨rfl, ⟨nd, rfl⟩⟩; (try first | exact ⟨rfl, _, World.drewN_drewN _ _ _⟩ | exact ⟨rfl, _, Eq.trans (World.drewN_drewN _ _ _) (congrArg (World.drewN _) (Nat.add_assoc _ _ _))⟩))); try go_wp2_with (first | ((with_reducible refine gate_dst (N := 6) rfl ?_); refine qX 6 #[.int .i64 0, .int .i64 0] 43 ?_; intro gb105 hg w29 hbox hb; have hx_ := qHX HB hb qa0; have BK105 := qO (hbox); have GW105 := qO ((qa9 : w.heap.size ≤ gb105)); have GE105 := GW105; have NB101_105 := qO ((qa15 : gb101 ≠ gb105)); have NB105_101 := qO (Ne.symm NB101_105.out); replace BK101 := qO (qB BK101.out hx_ hb); replace HB := qO (below_step (below_step HB.out hx_) hb); clear hx_ hb hbox hg; have hnb30 := NB105_101.out; have hnc30 := NB101_105.out; obtain ⟨hcz31_0, hcz31_1, hfz31_0, hfz31_1⟩ := qb2 BK105.out; obtain ⟨hcz32_0, hcz32_1, hfz32_0, hfz32_1⟩ := qb2 BK101.out) | (go_at_call 65; (with_reducible refine (impl_within.calls ((rd_T43 (rd_L4 l0_0 x20_2) x27_3).f0) 1 a0_1 true _ A16.out).mono ?_); rintro e w' ⟨rfl, ⟨nd, rfl⟩⟩; (try first | exact ⟨rfl, _, World.drewN_drewN _ _ _⟩ | exact ⟨rfl, _, Eq.trans (World.drewN_drewN _ _ _) (congrArg (World.drewN _) (Nat.add_assoc _ _ _))⟩); have p107 : 0 ≤ ((ji19) : Int) := qT qa1; have q107 : (ji19) < ((rd_L4 l0_0 x20_2).length : Int) := qT qa1; obtain ⟨ad107, e107, hx107_0, hx107_1⟩ := at_T43 HR103_0.out (ji19) p107 q107; obtain rfl : ad104 = ad107 := qa185; have hn107_0 : ad104.block ≠ gb105 := Nat.ne_of_lt (Nat.lt_of_lt_of_le qa55 GW105.out); have hn107_1 : ad104.block ≠ gb105 := Nat.ne_of_lt (Nat.lt_of_lt_of_le qa55 GW105.out); replace hx107_0 := (HB.out.cell (qL w _ hx107_0)).trans hx107_0; replace hx107_1 := (HB.out.cell (qL w _ hx107_1)).trans hx107_1; replace hx107_0 := (cell_far (p := ⟨gb105, 0, none⟩) qa33 (.int .i64 ((rd_T43 (rd_L4 l0_0 x20_2) x27_3).f0))).trans hx107_0; replace hx107_1 := (cell_far (p := ⟨gb105, 0, none⟩) qa33 (.int .i64 ((rd_T43 (rd_L4 l0_0 x20_2) x27_3).f0))).trans hx107_1; replace hx107_0 := (cell_far (p := ⟨gb105, 1, none⟩) qa34 (.int .i64 ((rd_T43 (rd_L4 l0_0 x20_2) x27_3).f1))).trans hx107_0; replace hx107_1 := (cell_far (p := ⟨gb105, 1, none⟩) qa34 (.int .i64 ((rd_T43 (rd_L4 l0_0 x20_2) x27_3).f1))).trans hx107_1; (try have hy107_0 := fun (n_ : Nat) => (show ((((w29.drewN n_).setCell ⟨gb105, 0, none⟩ (.int .i64 ((rd_T43 (rd_L4 l0_0 x20_2) x27_3).f0))).setCell ⟨gb105, 1, none⟩ (.int .i64 ((rd_T43 (rd_L4 l0_0 x20_2) x27_3).f1)))).cell? _ = some _ from hx107_0)); (try have hy107_1 := fun (n_ : Nat) => (show ((((w29.drewN n_).setCell ⟨gb105, 0, none⟩ (.int .i64 ((rd_T43 (rd_L4 l0_0 x20_2) x27_3).f0))).setCell ⟨gb105, 1, none⟩ (.int .i64 ((rd_T43 (rd_L4 l0_0 x20_2) x27_3).f1)))).cell? _ = some _ from hx107_1)); clear hn107_0 hn107_1; replace p107 := eq_true p107; replace q107 := eq_true q107) | (go_at_call 66; (with_reducible refine (impl_fits.calls x20_2 ((rd_T43 (rd_L4 l0_0 x20_2) x27_3).f1) true _ A27.out).mono ?_); rintro e w' ⟨rfl, ⟨nd, rfl⟩⟩; (try first | exact ⟨rfl, _, World.drewN_drewN _ _ _⟩ | exact ⟨rfl, _, Eq.trans (World.drewN_drewN _ _ _) (congrArg (World.drewN _) (Nat.add_assoc _ _ _))⟩))))
                    go_roundg k3
                    case measure => have := HJ1.out; have := HK2.out; have := HK3.out; omega
                    case rel => exact ⟨(wrap64 (x27_3 + 1)), qa12, H', ⟨qa139⟩, ⟨qa83⟩, ⟨qa72⟩⟩
                   ·replace c28 := Bool.eq_false_iff.mpr c28
                    subst c28; have H1 : (some false) = some r := by rw [if_neg (show ¬ (false = true) by decide)] at H; exact H
                    clear H; have H := H1; clear H1; obtain rfl := Option.some.inj H; have p104 : 0 ≤ (x27_3 : Int) := qT qa1; have q104 : x27_3 < ((rd_L4 l0_0 x20_2).length : Int) := qT qa1; obtain ⟨ad104, e104, hx104_0, hx104_1⟩ := at_T43 HR103_0.out x27_3 p104 q104
                    cases e104
                    replace hx104_0 := (HB.out.cell (qL w _ hx104_0)).trans hx104_0; replace hx104_1 := (HB.out.cell (qL w _ hx104_1)).trans hx104_1; replace p104 := eq_true p104; replace q104 := eq_true q104
                    go_wp2_with (first | ((with_reducible refine gate_dst (N := 6) rfl ?_); refine qX 6 #[.int .i64 0, .int .i64 0] 43 ?_; intro gb105 hg w33 hbox hb; have hx_ := qHX HB hb qa0; have BK105 := qO (hbox); have GW105 := qO ((qa9 : w.heap.size ≤ gb105)); have GE105 := GW105; have NB101_105 := qO ((qa15 : gb101 ≠ gb105)); have NB105_101 := qO (Ne.symm NB101_105.out); replace BK101 := qO (qB BK101.out hx_ hb); replace HB := qO (below_step (below_step HB.out hx_) hb); clear hx_ hb hbox hg; have hnb34 := NB105_101.out; have hnc34 := NB101_105.out; obtain ⟨hcz35_0, hcz35_1, hfz35_0, hfz35_1⟩ := qb2 BK105.out; obtain ⟨hcz36_0, hcz36_1, hfz36_0, hfz36_1⟩ := qb2 BK101.out) | (go_at_call 65; (with_reducible refine (impl_within.calls ((rd_T43 (rd_L4 l0_0 x20_2) x27_3).f0) 1 a0_1 true _ A16.out).mono ?_); rintro e w' ⟨rfl, ⟨nd, rfl⟩⟩; (try first | exact ⟨rfl, _, World.drewN_drewN _ _ _⟩ | exact ⟨rfl, _, Eq.trans (World.drewN_drewN _ _ _) (congrArg (World.drewN _) (Nat.add_assoc _ _ _))⟩); have p107 : 0 ≤ ((ji19) : Int) := qT qa1; have q107 : (ji19) < ((rd_L4 l0_0 x20_2).length : Int) := qT qa1; obtain ⟨ad107, e107, hx107_0, hx107_1⟩ := at_T43 HR103_0.out (ji19) p107 q107; obtain rfl : ad104 = ad107 := qa185; have hn107_0 : ad104.block ≠ gb105 := Nat.ne_of_lt (Nat.lt_of_lt_of_le qa55 GW105.out); have hn107_1 : ad104.block ≠ gb105 := Nat.ne_of_lt (Nat.lt_of_lt_of_le qa55 GW105.out); replace hx107_0 := (HB.out.cell (qL w _ hx107_0)).trans hx107_0; replace hx107_1 := (HB.out.cell (qL w _ hx107_1)).trans hx107_1; replace hx107_0 := (cell_far (p := ⟨gb105, 0, none⟩) qa33 (.int .i64 ((rd_T43 (rd_L4 l0_0 x20_2) x27_3).f0))).trans hx107_0; replace hx107_1 := (cell_far (p := ⟨gb105, 0, none⟩) qa33 (.int .i64 ((rd_T43 (rd_L4 l0_0 x20_2) x27_3).f0))).trans hx107_1; replace hx107_0 := (cell_far (p := ⟨gb105, 1, none⟩) qa34 (.int .i64 ((rd_T43 (rd_L4 l0_0 x20_2) x27_3).f1))).trans hx107_0; replace hx107_1 := (cell_far (p := ⟨gb105, 1, none⟩) qa34 (.int .i64 ((rd_T43 (rd_L4 l0_0 x20_2) x27_3).f1))).trans hx107_1; (try have hy107_0 := fun (n_ : Nat) => (show ((((w33.drewN n_).setCell ⟨gb105, 0, none⟩ (.int .i64 ((rd_T43 (rd_L4 l0_0 x20_2) x27_3).f0))).setCell ⟨gb105, 1, none⟩ (.int .i64 ((rd_T43 (rd_L4 l0_0 x20_2) x27_3).f1)))).cell? _ = some _ from hx107_0)); (try have hy107_1 := fun (n_ : Nat) => (show ((((w33.drewN n_).setCell ⟨gb105, 0, none⟩ (.int .i64 ((rd_T43 (rd_L4 l0_0 x20_2) x27_3).f0))).setCell ⟨gb105, 1, none⟩ (.int .i64 ((rd_T43 (rd_L4 l0_0 x20_2) x27_3).f1)))).cell? _ = some _ from hx107_1)); clear hn107_0 hn107_1; replace p107 := eq_true p107; replace q107 := eq_true q107) | (go_at_call 66; (with_reducible refine (impl_fits.calls x20_2 ((rd_T43 (rd_L4 l0_0 x20_2) x27_3).f1) false _ A27.out).mono ?_); rintro e w' ⟨rfl, ⟨nd, rfl⟩⟩; (try first | exact ⟨rfl, _, World.drewN_drewN _ _ _⟩ | exact ⟨rfl, _, Eq.trans (World.drewN_drewN _ _ _) (congrArg (World.drewN _) (Nat.add_assoc _ _ _))⟩)))
                    repeat (go_quiet (first | ((with_reducible refine gate_dst (N := 6) rfl ?_); refine qX 6 #[.int .i64 0, .int .i64 0] 43 ?_; intro gb105 hg w33 hbox hb; have BK105 := qO (hbox); have GW105 := qO ((qa30 : w.heap.size ≤ gb105)); have GE105 := qO ((qa30 : w.heap.size ≤ gb105)); have NB101_105 := qO ((qa15 : gb101 ≠ gb105)); have NB105_101 := qO ((qa49 : gb105 ≠ gb101)); replace BK101 := qO (blk_below (g := gb101) (o := .cells #[.slice (some ad103) l0_0.length c0_0, .int .i64 a0_1] 28 (0, 0)) qa17 hb); replace HB := qO (below_step qa14 hb); clear hb hbox hg; have hnb34 := NB105_101.out; have hnc34 := NB101_105.out; obtain ⟨hcz35_0, hcz35_1, hfz35_0, hfz35_1⟩ := qb2 BK105.out; obtain ⟨hcz36_0, hcz36_1, hfz36_0, hfz36_1⟩ := qb2 BK101.out) | (go_at_call 65; (with_reducible refine (impl_within.calls ((rd_T43 (rd_L4 l0_0 x20_2) x27_3).f0) 1 a0_1 true _ A16.out).mono ?_); rintro e w' ⟨rfl, ⟨nd, rfl⟩⟩; (try first | exact ⟨rfl, _, World.drewN_drewN _ _ _⟩ | exact ⟨rfl, _, Eq.trans (World.drewN_drewN _ _ _) (congrArg (World.drewN _) (Nat.add_assoc _ _ _))⟩); have p107 : 0 ≤ ((ji19) : Int) := qT qa1; have q107 : (ji19) < ((rd_L4 l0_0 x20_2).length : Int) := qT qa1; obtain ⟨ad107, e107, hx107_0, hx107_1⟩ := at_T43 HR103_0.out (ji19) p107 q107; obtain rfl : ad104 = ad107 := qa185; have hn107_0 : ad104.block ≠ gb105 := Nat.ne_of_lt (Nat.lt_of_lt_of_le qa55 GW105.out); have hn107_1 : ad104.block ≠ gb105 := Nat.ne_of_lt (Nat.lt_of_lt_of_le qa55 GW105.out); replace hx107_0 := (HB.out.cell (qL w _ hx107_0)).trans hx107_0; replace hx107_1 := (HB.out.cell (qL w _ hx107_1)).trans hx107_1; replace hx107_0 := (cell_far (p := ⟨gb105, 0, none⟩) qa33 (.int .i64 ((rd_T43 (rd_L4 l0_0 x20_2) x27_3).f0))).trans hx107_0; replace hx107_1 := (cell_far (p := ⟨gb105, 0, none⟩) qa33 (.int .i64 ((rd_T43 (rd_L4 l0_0 x20_2) x27_3).f0))).trans hx107_1; replace hx107_0 := (cell_far (p := ⟨gb105, 1, none⟩) qa34 (.int .i64 ((rd_T43 (rd_L4 l0_0 x20_2) x27_3).f1))).trans hx107_0; replace hx107_1 := (cell_far (p := ⟨gb105, 1, none⟩) qa34 (.int .i64 ((rd_T43 (rd_L4 l0_0 x20_2) x27_3).f1))).trans hx107_1; (try have hy107_0 := fun (n_ : Nat) => (show ((((w33.drewN n_).setCell ⟨gb105, 0, none⟩ (.int .i64 ((rd_T43 (rd_L4 l0_0 x20_2) x27_3).f0))).setCell ⟨gb105, 1, none⟩ (.int .i64 ((rd_T43 (rd_L4 l0_0 x20_2) x27_3).f1)))).cell? _ = some _ from hx107_0)); (try have hy107_1 := fun (n_ : Nat) => (show ((((w33.drewN n_).setCell ⟨gb105, 0, none⟩ (.int .i64 ((rd_T43 (rd_L4 l0_0 x20_2) x27_3).f0))).setCell ⟨gb105, 1, none⟩ (.int .i64 ((rd_T43 (rd_L4 l0_0 x20_2) x27_3).f1)))).cell? _ = some _ from hx107_1)); clear hn107_0 hn107_1; replace p107 := eq_true p107; replace q107 := eq_true q107) | (go_at_call 66; (with_reducible refine (impl_fits.calls x20_2 ((rd_T43 (rd_L4 l0_0 x20_2) x27_3).f1) false _ A27.out).mono ?_); rintro e w' ⟨rfl, ⟨nd, rfl⟩⟩; (try first | exact ⟨rfl, _, World.drewN_drewN _ _ _⟩ | exact ⟨rfl, _, Eq.trans (World.drewN_drewN _ _ _) (congrArg (World.drewN _) (Nat.add_assoc _ _ _))⟩))); try go_wp2_with (first | ((with_reducible refine gate_dst (N := 6) rfl ?_); refine qX 6 #[.int .i64 0, .int .i64 0] 43 ?_; intro gb105 hg w33 hbox hb; have hx_ := qHX HB hb qa0; have BK105 := qO (hbox); have GW105 := qO ((qa9 : w.heap.size ≤ gb105)); have GE105 := GW105; have NB101_105 := qO ((qa15 : gb101 ≠ gb105)); have NB105_101 := qO (Ne.symm NB101_105.out); replace BK101 := qO (qB BK101.out hx_ hb); replace HB := qO (below_step (below_step HB.out hx_) hb); clear hx_ hb hbox hg; have hnb34 := NB105_101.out; have hnc34 := NB101_105.out; obtain ⟨hcz35_0, hcz35_1, hfz35_0, hfz35_1⟩ := qb2 BK105.out; obtain ⟨hcz36_0, hcz36_1, hfz36_0, hfz36_1⟩ := qb2 BK101.out) | (go_at_call 65; (with_reducible refine (impl_within.calls ((rd_T43 (rd_L4 l0_0 x20_2) x27_3).f0) 1 a0_1 true _ A16.out).mono ?_); rintro e w' ⟨rfl, ⟨nd, rfl⟩⟩; (try first | exact ⟨rfl, _, World.drewN_drewN _ _ _⟩ | exact ⟨rfl, _, Eq.trans (World.drewN_drewN _ _ _) (congrArg (World.drewN _) (Nat.add_assoc _ _ _))⟩); have p107 : 0 ≤ ((ji19) : Int) := qT qa1; have q107 : (ji19) < ((rd_L4 l0_0 x20_2).length : Int) := qT qa1; obtain ⟨ad107, e107, hx107_0, hx107_1⟩ := at_T43 HR103_0.out (ji19) p107 q107; obtain rfl : ad104 = ad107 := qa185; have hn107_0 : ad104.block ≠ gb105 := Nat.ne_of_lt (Nat.lt_of_lt_of_le qa55 GW105.out); have hn107_1 : ad104.block ≠ gb105 := Nat.ne_of_lt (Nat.lt_of_lt_of_le qa55 GW105.out); replace hx107_0 := (HB.out.cell (qL w _ hx107_0)).trans hx107_0; replace hx107_1 := (HB.out.cell (qL w _ hx107_1)).trans hx107_1; replace hx107_0 := (cell_far (p := ⟨gb105, 0, none⟩) qa33 (.int .i64 ((rd_T43 (rd_L4 l0_0 x20_2) x27_3).f0))).trans hx107_0; replace hx107_1 := (cell_far (p := ⟨gb105, 0, none⟩) qa33 (.int .i64 ((rd_T43 (rd_L4 l0_0 x20_2) x27_3).f0))).trans hx107_1; replace hx107_0 := (cell_far (p := ⟨gb105, 1, none⟩) qa34 (.int .i64 ((rd_T43 (rd_L4 l0_0 x20_2) x27_3).f1))).trans hx107_0; replace hx107_1 := (cell_far (p := ⟨gb105, 1, none⟩) qa34 (.int .i64 ((rd_T43 (rd_L4 l0_0 x20_2) x27_3).f1))).trans hx107_1; (try have hy107_0 := fun (n_ : Nat) => (show ((((w33.drewN n_).setCell ⟨gb105, 0, none⟩ (.int .i64 ((rd_T43 (rd_L4 l0_0 x20_2) x27_3).f0))).setCell ⟨gb105, 1, none⟩ (.int .i64 ((rd_T43 (rd_L4 l0_0 x20_2) x27_3).f1)))).cell? _ = some _ from hx107_0)); (try have hy107_1 := fun (n_ : Nat) => (show ((((w33.drewN n_).setCell ⟨gb105, 0, none⟩ (.int .i64 ((rd_T43 (rd_L4 l0_0 x20_2) x27_3).f0))).setCell ⟨gb105, 1, none⟩ (.int .i64 ((rd_T43 (rd_L4 l0_0 x20_2) x27_3).f1)))).cell? _ = some _ from hx107_1)); clear hn107_0 hn107_1; replace p107 := eq_true p107; replace q107 := eq_true q107) | (go_at_call 66; (with_reducible refine (impl_fits.calls x20_2 ((rd_T43 (rd_L4 l0_0 x20_2) x27_3).f1) false _ A27.out).mono ?_); rintro e w' ⟨rfl, ⟨nd, rfl⟩⟩; (try first | exact ⟨rfl, _, World.drewN_drewN _ _ _⟩ | exact ⟨rfl, _, Eq.trans (World.drewN_drewN _ _ _) (congrArg (World.drewN _) (Nat.add_assoc _ _ _))⟩))))
                    go_ret
                    exact ⟨qa113, qa72⟩
                 ·rw [if_neg c21] at H
                  exact absurd H qa117
                ·rw [if_neg c20] at H
                 exact absurd H qa117
               ·rw [if_neg c18] at H
                have c18b0 : decide (0 < x27_3) = false := decide_eq_false c18; clear c18; replace H := Option.bind_eq_some_iff.mp H; obtain ⟨t109, A370, H⟩ := H; replace H : (if t109 = true then (impl_StoreOK.l1 k3 x20_2 (rd_L4 l0_0 x20_2) l0_0 (l0_0.length : Int) x20_2 (rd_L4 l0_0 x20_2) ((rd_L4 l0_0 x20_2).length : Int) (wrap64 (x27_3 + 1)) l0_0 a0_1) else (some false)) = some r := H; have A37 := qO A370; clear A370
                by_cases c38 : t109 = true
                ·subst c38
                 have H1 : (impl_StoreOK.l1 k3 x20_2 (rd_L4 l0_0 x20_2) l0_0 (l0_0.length : Int) x20_2 (rd_L4 l0_0 x20_2) ((rd_L4 l0_0 x20_2).length : Int) (wrap64 (x27_3 + 1)) l0_0 a0_1) = some r := by rw [if_pos rfl] at H; exact H
                 clear H; have H := H1; clear H1; have H' := qO H; clear H; have p104 : 0 ≤ (x27_3 : Int) := qT qa1; have q104 : x27_3 < ((rd_L4 l0_0 x20_2).length : Int) := qT qa1; obtain ⟨ad104, e104, hx104_0, hx104_1⟩ := at_T43 HR103_0.out x27_3 p104 q104
                 cases e104
                 replace hx104_0 := (HB.out.cell (qL w _ hx104_0)).trans hx104_0; replace hx104_1 := (HB.out.cell (qL w _ hx104_1)).trans hx104_1; replace p104 := eq_true p104; replace q104 := eq_true q104
                 go_wp2_with (first | ((with_reducible refine gate_dst (N := 6) rfl ?_); refine qX 6 #[.int .i64 0, .int .i64 0] 43 ?_; intro gb105 hg w39 hbox hb; have hx_ := qHX HB hb qa0; have BK105 := qO (hbox); have GW105 := qO ((qa9 : w.heap.size ≤ gb105)); have GE105 := GW105; have NB101_105 := qO ((qa15 : gb101 ≠ gb105)); have NB105_101 := qO (Ne.symm NB101_105.out); replace BK101 := qO (qB BK101.out hx_ hb); replace HB := qO (below_step (below_step HB.out hx_) hb); clear hx_ hb hbox hg; have hnb40 := NB105_101.out; have hnc40 := NB101_105.out; obtain ⟨hcz41_0, hcz41_1, hfz41_0, hfz41_1⟩ := qb2 BK105.out; obtain ⟨hcz42_0, hcz42_1, hfz42_0, hfz42_1⟩ := qb2 BK101.out) | (go_at_call 65; (with_reducible refine (impl_within.calls ((rd_T43 (rd_L4 l0_0 x20_2) x27_3).f0) 1 a0_1 true _ A16.out).mono ?_); rintro e w' ⟨rfl, ⟨nd, rfl⟩⟩; (try first | exact ⟨rfl, _, World.drewN_drewN _ _ _⟩ | exact ⟨rfl, _, Eq.trans (World.drewN_drewN _ _ _) (congrArg (World.drewN _) (Nat.add_assoc _ _ _))⟩)) | (go_at_call 66; (with_reducible refine (impl_fits.calls x20_2 ((rd_T43 (rd_L4 l0_0 x20_2) x27_3).f1) true _ A37.out).mono ?_); rintro e w' ⟨rfl, ⟨nd, rfl⟩⟩; (try first | exact ⟨rfl, _, World.drewN_drewN _ _ _⟩ | exact ⟨rfl, _, Eq.trans (World.drewN_drewN _ _ _) (congrArg (World.drewN _) (Nat.add_assoc _ _ _))⟩)))
                 repeat (go_quiet (first | ((with_reducible refine gate_dst (N := 6) rfl ?_); refine qX 6 #[.int .i64 0, .int .i64 0] 43 ?_; intro gb105 hg w39 hbox hb; have BK105 := qO (hbox); have GW105 := qO ((qa30 : w.heap.size ≤ gb105)); have GE105 := qO ((qa30 : w.heap.size ≤ gb105)); have NB101_105 := qO ((qa15 : gb101 ≠ gb105)); have NB105_101 := qO ((qa49 : gb105 ≠ gb101)); replace BK101 := qO (blk_below (g := gb101) (o := .cells #[.slice (some ad103) l0_0.length c0_0, .int .i64 a0_1] 28 (0, 0)) qa17 hb); replace HB := qO (below_step qa14 hb); clear hb hbox hg; have hnb40 := NB105_101.out; have hnc40 := NB101_105.out; obtain ⟨hcz41_0, hcz41_1, hfz41_0, hfz41_1⟩ := qb2 BK105.out; obtain ⟨hcz42_0, hcz42_1, hfz42_0, hfz42_1⟩ := qb2 BK101.out) | (go_at_call 65; (with_reducible refine (impl_within.calls ((rd_T43 (rd_L4 l0_0 x20_2) x27_3).f0) 1 a0_1 true _ A16.out).mono ?_); rintro e w' ⟨rfl, ⟨nd, rfl⟩⟩; (try first | exact ⟨rfl, _, World.drewN_drewN _ _ _⟩ | exact ⟨rfl, _, Eq.trans (World.drewN_drewN _ _ _) (congrArg (World.drewN _) (Nat.add_assoc _ _ _))⟩)) | (go_at_call 66; (with_reducible refine (impl_fits.calls x20_2 ((rd_T43 (rd_L4 l0_0 x20_2) x27_3).f1) true _ A37.out).mono ?_); rintro e w' ⟨rfl, ⟨nd, rfl⟩⟩; (try first | exact ⟨rfl, _, World.drewN_drewN _ _ _⟩ | exact ⟨rfl, _, Eq.trans (World.drewN_drewN _ _ _) (congrArg (World.drewN _) (Nat.add_assoc _ _ _))⟩))); try go_wp2_with (first | ((with_reducible refine gate_dst (N := 6) rfl ?_); refine qX 6 #[.int .i64 0, .int .i64 0] 43 ?_; intro gb105 hg w39 hbox hb; have hx_ := qHX HB hb qa0; have BK105 := qO (hbox); have GW105 := qO ((qa9 : w.heap.size ≤ gb105)); have GE105 := GW105; have NB101_105 := qO ((qa15 : gb101 ≠ gb105)); have NB105_101 := qO (Ne.symm NB101_105.out); replace BK101 := qO (qB BK101.out hx_ hb); replace HB := qO (below_step (below_step HB.out hx_) hb); clear hx_ hb hbox hg; have hnb40 := NB105_101.out; have hnc40 := NB101_105.out; obtain ⟨hcz41_0, hcz41_1, hfz41_0, hfz41_1⟩ := qb2 BK105.out; obtain ⟨hcz42_0, hcz42_1, hfz42_0, hfz42_1⟩ := qb2 BK101.out) | (go_at_call 65; (with_reducible refine (impl_within.calls ((rd_T43 (rd_L4 l0_0 x20_2) x27_3).f0) 1 a0_1 true _ A16.out).mono ?_); rintro e w' ⟨rfl, ⟨nd, rfl⟩⟩; (try first | exact ⟨rfl, _, World.drewN_drewN _ _ _⟩ | exact ⟨rfl, _, Eq.trans (World.drewN_drewN _ _ _) (congrArg (World.drewN _) (Nat.add_assoc _ _ _))⟩)) | (go_at_call 66; (with_reducible refine (impl_fits.calls x20_2 ((rd_T43 (rd_L4 l0_0 x20_2) x27_3).f1) true _ A37.out).mono ?_); rintro e w' ⟨rfl, ⟨nd, rfl⟩⟩; (try first | exact ⟨rfl, _, World.drewN_drewN _ _ _⟩ | exact ⟨rfl, _, Eq.trans (World.drewN_drewN _ _ _) (congrArg (World.drewN _) (Nat.add_assoc _ _ _))⟩))))
                 go_roundg k3
                 case measure => have := HJ1.out; have := HK2.out; have := HK3.out; omega
                 case rel => exact ⟨(wrap64 (x27_3 + 1)), qa12, H', ⟨qa139⟩, ⟨qa83⟩, ⟨qa72⟩⟩
                ·replace c38 := Bool.eq_false_iff.mpr c38
                 subst c38; have H1 : (some false) = some r := by rw [if_neg (show ¬ (false = true) by decide)] at H; exact H
                 clear H; have H := H1; clear H1; obtain rfl := Option.some.inj H; have p104 : 0 ≤ (x27_3 : Int) := qT qa1; have q104 : x27_3 < ((rd_L4 l0_0 x20_2).length : Int) := qT qa1; obtain ⟨ad104, e104, hx104_0, hx104_1⟩ := at_T43 HR103_0.out x27_3 p104 q104
                 cases e104
                 replace hx104_0 := (HB.out.cell (qL w _ hx104_0)).trans hx104_0; replace hx104_1 := (HB.out.cell (qL w _ hx104_1)).trans hx104_1; replace p104 := eq_true p104; replace q104 := eq_true q104
                 go_wp2_with (first | ((with_reducible refine gate_dst (N := 6) rfl ?_); refine qX 6 #[.int .i64 0, .int .i64 0] 43 ?_; intro gb105 hg w43 hbox hb; have hx_ := qHX HB hb qa0; have BK105 := qO (hbox); have GW105 := qO ((qa9 : w.heap.size ≤ gb105)); have GE105 := GW105; have NB101_105 := qO ((qa15 : gb101 ≠ gb105)); have NB105_101 := qO (Ne.symm NB101_105.out); replace BK101 := qO (qB BK101.out hx_ hb); replace HB := qO (below_step (below_step HB.out hx_) hb); clear hx_ hb hbox hg; have hnb44 := NB105_101.out; have hnc44 := NB101_105.out; obtain ⟨hcz45_0, hcz45_1, hfz45_0, hfz45_1⟩ := qb2 BK105.out; obtain ⟨hcz46_0, hcz46_1, hfz46_0, hfz46_1⟩ := qb2 BK101.out) | (go_at_call 65; (with_reducible refine (impl_within.calls ((rd_T43 (rd_L4 l0_0 x20_2) x27_3).f0) 1 a0_1 true _ A16.out).mono ?_); rintro e w' ⟨rfl, ⟨nd, rfl⟩⟩; (try first | exact ⟨rfl, _, World.drewN_drewN _ _ _⟩ | exact ⟨rfl, _, Eq.trans (World.drewN_drewN _ _ _) (congrArg (World.drewN _) (Nat.add_assoc _ _ _))⟩)) | (go_at_call 66; (with_reducible refine (impl_fits.calls x20_2 ((rd_T43 (rd_L4 l0_0 x20_2) x27_3).f1) false _ A37.out).mono ?_); rintro e w' ⟨rfl, ⟨nd, rfl⟩⟩; (try first | exact ⟨rfl, _, World.drewN_drewN _ _ _⟩ | exact ⟨rfl, _, Eq.trans (World.drewN_drewN _ _ _) (congrArg (World.drewN _) (Nat.add_assoc _ _ _))⟩)))
                 repeat (go_quiet (first | ((with_reducible refine gate_dst (N := 6) rfl ?_); refine qX 6 #[.int .i64 0, .int .i64 0] 43 ?_; intro gb105 hg w43 hbox hb; have BK105 := qO (hbox); have GW105 := qO ((qa30 : w.heap.size ≤ gb105)); have GE105 := qO ((qa30 : w.heap.size ≤ gb105)); have NB101_105 := qO ((qa15 : gb101 ≠ gb105)); have NB105_101 := qO ((qa49 : gb105 ≠ gb101)); replace BK101 := qO (blk_below (g := gb101) (o := .cells #[.slice (some ad103) l0_0.length c0_0, .int .i64 a0_1] 28 (0, 0)) qa17 hb); replace HB := qO (below_step qa14 hb); clear hb hbox hg; have hnb44 := NB105_101.out; have hnc44 := NB101_105.out; obtain ⟨hcz45_0, hcz45_1, hfz45_0, hfz45_1⟩ := qb2 BK105.out; obtain ⟨hcz46_0, hcz46_1, hfz46_0, hfz46_1⟩ := qb2 BK101.out) | (go_at_call 65; (with_reducible refine (impl_within.calls ((rd_T43 (rd_L4 l0_0 x20_2) x27_3).f0) 1 a0_1 true _ A16.out).mono ?_); rintro e w' ⟨rfl, ⟨nd, rfl⟩⟩; (try first | exact ⟨rfl, _, World.drewN_drewN _ _ _⟩ | exact ⟨rfl, _, Eq.trans (World.drewN_drewN _ _ _) (congrArg (World.drewN _) (Nat.add_assoc _ _ _))⟩)) | (go_at_call 66; (with_reducible refine (impl_fits.calls x20_2 ((rd_T43 (rd_L4 l0_0 x20_2) x27_3).f1) false _ A37.out).mono ?_); rintro e w' ⟨rfl, ⟨nd, rfl⟩⟩; (try first | exact ⟨rfl, _, World.drewN_drewN _ _ _⟩ | exact ⟨rfl, _, Eq.trans (World.drewN_drewN _ _ _) (congrArg (World.drewN _) (Nat.add_assoc _ _ _))⟩))); try go_wp2_with (first | ((with_reducible refine gate_dst (N := 6) rfl ?_); refine qX 6 #[.int .i64 0, .int .i64 0] 43 ?_; intro gb105 hg w43 hbox hb; have hx_ := qHX HB hb qa0; have BK105 := qO (hbox); have GW105 := qO ((qa9 : w.heap.size ≤ gb105)); have GE105 := GW105; have NB101_105 := qO ((qa15 : gb101 ≠ gb105)); have NB105_101 := qO (Ne.symm NB101_105.out); replace BK101 := qO (qB BK101.out hx_ hb); replace HB := qO (below_step (below_step HB.out hx_) hb); clear hx_ hb hbox hg; have hnb44 := NB105_101.out; have hnc44 := NB101_105.out; obtain ⟨hcz45_0, hcz45_1, hfz45_0, hfz45_1⟩ := qb2 BK105.out; obtain ⟨hcz46_0, hcz46_1, hfz46_0, hfz46_1⟩ := qb2 BK101.out) | (go_at_call 65; (with_reducible refine (impl_within.calls ((rd_T43 (rd_L4 l0_0 x20_2) x27_3).f0) 1 a0_1 true _ A16.out).mono ?_); rintro e w' ⟨rfl, ⟨nd, rfl⟩⟩; (try first | exact ⟨rfl, _, World.drewN_drewN _ _ _⟩ | exact ⟨rfl, _, Eq.trans (World.drewN_drewN _ _ _) (congrArg (World.drewN _) (Nat.add_assoc _ _ _))⟩)) | (go_at_call 66; (with_reducible refine (impl_fits.calls x20_2 ((rd_T43 (rd_L4 l0_0 x20_2) x27_3).f1) false _ A37.out).mono ?_); rintro e w' ⟨rfl, ⟨nd, rfl⟩⟩; (try first | exact ⟨rfl, _, World.drewN_drewN _ _ _⟩ | exact ⟨rfl, _, Eq.trans (World.drewN_drewN _ _ _) (congrArg (World.drewN _) (Nat.add_assoc _ _ _))⟩))))
                 go_ret
                 exact ⟨qa7, qa72⟩
              ·replace c17 := Bool.eq_false_iff.mpr c17
               subst c17; have H1 : (some false) = some r := by rw [if_neg (show ¬ (false = true) by decide)] at H; exact H
               clear H; have H := H1; clear H1; obtain rfl := Option.some.inj H; have p104 : 0 ≤ (x27_3 : Int) := qT qa1; have q104 : x27_3 < ((rd_L4 l0_0 x20_2).length : Int) := qT qa1; obtain ⟨ad104, e104, hx104_0, hx104_1⟩ := at_T43 HR103_0.out x27_3 p104 q104
               cases e104
               replace hx104_0 := (HB.out.cell (qL w _ hx104_0)).trans hx104_0; replace hx104_1 := (HB.out.cell (qL w _ hx104_1)).trans hx104_1; replace p104 := eq_true p104; replace q104 := eq_true q104
               go_wp2_with (first | ((with_reducible refine gate_dst (N := 6) rfl ?_); refine qX 6 #[.int .i64 0, .int .i64 0] 43 ?_; intro gb105 hg w47 hbox hb; have hx_ := qHX HB hb qa0; have BK105 := qO (hbox); have GW105 := qO ((qa9 : w.heap.size ≤ gb105)); have GE105 := GW105; have NB101_105 := qO ((qa15 : gb101 ≠ gb105)); have NB105_101 := qO (Ne.symm NB101_105.out); replace BK101 := qO (qB BK101.out hx_ hb); replace HB := qO (below_step (below_step HB.out hx_) hb); clear hx_ hb hbox hg; have hnb48 := NB105_101.out; have hnc48 := NB101_105.out; obtain ⟨hcz49_0, hcz49_1, hfz49_0, hfz49_1⟩ := qb2 BK105.out; obtain ⟨hcz50_0, hcz50_1, hfz50_0, hfz50_1⟩ := qb2 BK101.out) | (go_at_call 65; (with_reducible refine (impl_within.calls ((rd_T43 (rd_L4 l0_0 x20_2) x27_3).f0) 1 a0_1 false _ A16.out).mono ?_); rintro e w' ⟨rfl, ⟨nd, rfl⟩⟩; (try first | exact ⟨rfl, _, World.drewN_drewN _ _ _⟩ | exact ⟨rfl, _, Eq.trans (World.drewN_drewN _ _ _) (congrArg (World.drewN _) (Nat.add_assoc _ _ _))⟩)))
               repeat (go_quiet (first | ((with_reducible refine gate_dst (N := 6) rfl ?_); refine qX 6 #[.int .i64 0, .int .i64 0] 43 ?_; intro gb105 hg w47 hbox hb; have BK105 := qO (hbox); have GW105 := qO ((qa30 : w.heap.size ≤ gb105)); have GE105 := qO ((qa30 : w.heap.size ≤ gb105)); have NB101_105 := qO ((qa15 : gb101 ≠ gb105)); have NB105_101 := qO ((qa49 : gb105 ≠ gb101)); replace BK101 := qO (blk_below (g := gb101) (o := .cells #[.slice (some ad103) l0_0.length c0_0, .int .i64 a0_1] 28 (0, 0)) qa17 hb); replace HB := qO (below_step qa14 hb); clear hb hbox hg; have hnb48 := NB105_101.out; have hnc48 := NB101_105.out; obtain ⟨hcz49_0, hcz49_1, hfz49_0, hfz49_1⟩ := qb2 BK105.out; obtain ⟨hcz50_0, hcz50_1, hfz50_0, hfz50_1⟩ := qb2 BK101.out) | (go_at_call 65; (with_reducible refine (impl_within.calls ((rd_T43 (rd_L4 l0_0 x20_2) x27_3).f0) 1 a0_1 false _ A16.out).mono ?_); rintro e w' ⟨rfl, ⟨nd, rfl⟩⟩; (try first | exact ⟨rfl, _, World.drewN_drewN _ _ _⟩ | exact ⟨rfl, _, Eq.trans (World.drewN_drewN _ _ _) (congrArg (World.drewN _) (Nat.add_assoc _ _ _))⟩))); try go_wp2_with (first | ((with_reducible refine gate_dst (N := 6) rfl ?_); refine qX 6 #[.int .i64 0, .int .i64 0] 43 ?_; intro gb105 hg w47 hbox hb; have hx_ := qHX HB hb qa0; have BK105 := qO (hbox); have GW105 := qO ((qa9 : w.heap.size ≤ gb105)); have GE105 := GW105; have NB101_105 := qO ((qa15 : gb101 ≠ gb105)); have NB105_101 := qO (Ne.symm NB101_105.out); replace BK101 := qO (qB BK101.out hx_ hb); replace HB := qO (below_step (below_step HB.out hx_) hb); clear hx_ hb hbox hg; have hnb48 := NB105_101.out; have hnc48 := NB101_105.out; obtain ⟨hcz49_0, hcz49_1, hfz49_0, hfz49_1⟩ := qb2 BK105.out; obtain ⟨hcz50_0, hcz50_1, hfz50_0, hfz50_1⟩ := qb2 BK101.out) | (go_at_call 65; (with_reducible refine (impl_within.calls ((rd_T43 (rd_L4 l0_0 x20_2) x27_3).f0) 1 a0_1 false _ A16.out).mono ?_); rintro e w' ⟨rfl, ⟨nd, rfl⟩⟩; (try first | exact ⟨rfl, _, World.drewN_drewN _ _ _⟩ | exact ⟨rfl, _, Eq.trans (World.drewN_drewN _ _ _) (congrArg (World.drewN _) (Nat.add_assoc _ _ _))⟩))))
               go_ret
               exact ⟨qa7, qa72⟩
             ·rw [if_neg c15] at H
              exact absurd H qa117
            ·rw [if_neg c14] at H
             exact absurd H qa117
           ·rw [if_neg c13] at H
            have c13b0 : decide (x27_3 < ((rd_L4 l0_0 x20_2).length : Int)) = false := decide_eq_false c13; clear c13; have H' := qO H; clear H; go_wp2
            repeat (go_quiet (fail); try go_wp2)
            go_roundg k3
            case measure => have := HJ1.out; have := HK2.out; have := HK3.out; omega
            case rel => exact ⟨(wrap64 (x20_2 + 1)), qa12, H', ⟨qa139⟩, ⟨qa17⟩, ⟨qa14⟩⟩
        ·rw [if_neg c12] at H
         exact absurd H qa117
       ·rw [if_neg c11] at H
        exact absurd H qa117
      ·rw [if_neg c10] at H
       have c10b0 : decide (x20_2 < (l0_0.length : Int)) = false := decide_eq_false c10; clear c10; obtain rfl := Option.some.inj H; go_wp2
       repeat (go_quiet (fail); try go_wp2)
       go_ret
       exact ⟨qa7, qa14⟩


def impl_Store_isHour.f (l0_0 : List (List (S43))) (a0_1 : Int) (a1 : Int) : Option (Bool) := (impl_within.f a1 0 a0_1).bind fun t102 => (some t102)
set_option maxHeartbeats 8000000 in
set_option maxRecDepth 100000 in
theorem impl_Store_isHour.calls (A0_0 : Option Addr) (c0_0 : Nat) (l0_0 : List (List (S43))) (a0_1 : Int) (a1 : Int) (r : Bool) (w : World) (hr0_0 : Kd.C (Kd.slice 43 k43) w A0_0 l0_0.length l0_0) (hc0_0 : l0_0.length ≤ c0_0) (h : impl_Store_isHour.f l0_0 a0_1 a1 = some r) :
  Calls Try.prog 57 #[.agg #[.slice A0_0 l0_0.length c0_0, .int .i64 a0_1], .int .i64 a1] w fun e w' => e = .returned (.bool r) ∧ Below w.heap.size w w' := by
 have hu28 := Try.underlying28; have HR0_0 := qO hr0_0; have HC0_0 := qO hc0_0; clear hr0_0 hc0_0; have HB := qO (Below.refl w.heap.size w); have H : ((impl_within.f a1 0 a0_1).bind fun t102 => (some t102)) = some r := h; clear h; replace H := Option.bind_eq_some_iff.mp H; obtain ⟨t102, A30, H⟩ := H; replace H : (some t102) = some r := H; have A3 := qO A30; clear A30; obtain rfl := Option.some.inj H
 go_enter Try.func57, Try.ntmps57
 go_wp2_with (first | ((with_reducible refine gate_dst (N := 2) rfl ?_); refine qX 2 #[.slice A0_0 l0_0.length c0_0, .int .i64 a0_1] 28 ?_; intro gb101 hg w4 hbox hb; have hx_ := qHX HB hb qa0; have BK101 := qO (hbox); have GW101 := qO ((qa9 : w.heap.size ≤ gb101)); have GE101 := GW101; replace HB := qO (below_step (below_step HB.out hx_) hb); clear hx_ hb hbox hg; obtain ⟨hcz5_0, hcz5_1, hfz5_0, hfz5_1⟩ := qb2 BK101.out) | ((with_reducible refine gate_callee (f := 65) rfl ?_); refine goesL_ (some 8) rfl rfl Try.func65 qa5 rfl #[.int .i64 a1, .int .i64 0, .int .i64 a0_1] rfl qa3 ?_; (with_reducible refine (impl_within.calls a1 0 a0_1 t102 _ A3.out).mono ?_); rintro e w' ⟨rfl, ⟨nd, rfl⟩⟩; refine ⟨_, rfl, ?_⟩))
 go_ret
 exact ⟨qa7, qa14⟩


def impl_isKey.f (a0 : Int) : Option (Bool) := (impl_within.f a0 0 15).bind fun t101 => (some t101)
set_option maxHeartbeats 8000000 in
set_option maxRecDepth 100000 in
theorem impl_isKey.calls (a0 : Int) (r : Bool) (w : World) (h : impl_isKey.f a0 = some r) :
  Calls Try.prog 67 #[.int .i64 a0] w fun e w' => e = .returned (.bool r) ∧ Drawn0 w w' := by
 have H : ((impl_within.f a0 0 15).bind fun t101 => (some t101)) = some r := h; clear h; replace H := Option.bind_eq_some_iff.mp H; obtain ⟨t101, A20, H⟩ := H; replace H : (some t101) = some r := H; have A2 := qO A20; clear A20; obtain rfl := Option.some.inj H
 go_enter Try.func67, Try.ntmps67
 go_wp2_with (first | ((with_reducible refine gate_callee (f := 65) rfl ?_); refine goesL_ (some 4) rfl rfl Try.func65 qa5 rfl #[.int .i64 a0, .int .i64 0, .int .i64 15] rfl qa3 ?_; (with_reducible refine (impl_within.calls a0 0 15 t101 _ A2.out).mono ?_); rintro e w' ⟨rfl, ⟨nd, rfl⟩⟩; refine ⟨_, rfl, ?_⟩))
 go_ret
 exact ⟨qa12, qa22⟩


/-- The first place at which p holds, or -1. -/
def impl_Put_132.fp (p : (S58) → Bool) (l0 : List (S58)) : Int := match l0.findIdx? p with | some i => (i : Int) | none => -1
theorem impl_Put_132.hit (p : (S58) → Bool) (l0 : List (S58)) (kk : Nat) (x : (S58)) (hx : l0[kk]? = some x) (hp : p x = true) (hno : ∀ j, j < kk → ∀ x, l0[j]? = some x → p x = false) : impl_Put_132.fp p l0 = kk := by
 unfold impl_Put_132.fp
 have h : l0.findIdx? p = some kk := by
  rw [List.findIdx?_eq_some_iff_getElem]; obtain ⟨hl, he⟩ := List.getElem?_eq_some_iff.1 hx
  exact ⟨hl, by rw [he]; exact hp, fun j hj => by rw [hno j hj _ (List.getElem?_eq_getElem (Nat.lt_trans hj hl))]; simp⟩
 rw [h]
theorem impl_Put_132.miss (p : (S58) → Bool) (l0 : List (S58)) (hno : ∀ j, j < l0.length → ∀ x, l0[j]? = some x → p x = false) : impl_Put_132.fp p l0 = -1 := by
 unfold impl_Put_132.fp
 have h : l0.findIdx? p = none := by
  rw [List.findIdx?_eq_none_iff]; intro x hx; obtain ⟨j, hj⟩ := List.getElem?_of_mem hx
  exact hno j (List.getElem?_eq_some_iff.1 hj).1 x hj
 rw [h]
set_option maxHeartbeats 4000000 in
set_option maxRecDepth 100000 in
theorem impl_Put_132.callsP (A0 : Option Addr) (c0 : Nat) (l0 : List (S58)) (g : Nat) (cb : Array Value) (p : (S58) → Bool) (w : World) (eg : ∀ args w, (callFunc g args).run Try.prog w = .ok (.enter g args) w) (hr0 : Kd.C k58 w A0 l0.length l0)
  (hp : ∀ (W : World) (x : (S58)), x ∈ l0 → Below w.heap.size w W → Calls Try.prog g (#[.agg #[.int .i64 x.f0, .int .i64 x.f1]] ++ cb) W fun e w' => e = .returned (.bool (p x)) ∧ Below w.heap.size w w') :
  Calls Try.prog 132 #[.slice A0 l0.length c0, .func (.func g) #[] cb] w fun e w' => e = .returned (.int .i64 (impl_Put_132.fp p l0)) ∧ Below w.heap.size w w' := by
 have hlen := hr0.2.1; have HR := qO hr0; have HP := qO hp; clear hr0 hp; have isagg := Try.isAgg58
 go_enter Try.func132, Try.ntmps132
 go_wp2
 go_loopg [5, 8] l0.length (fun gg _ s8 wr => ∃ kk : Nat, kk ≤ l0.length ∧ l0.length - kk ≤ gg ∧ s8 = .int .i64 kk ∧ Aside0 (Below w.heap.size w wr) ∧ Aside0 (∀ j, j < kk → ∀ x, l0[j]? = some x → p x = false))
 case atStart => exact ⟨0, Nat.zero_le _, qa29, rfl, ⟨Below.refl _ w⟩, ⟨fun j hj => absurd hj (Nat.not_lt_zero _)⟩⟩
 case round =>
  obtain ⟨kk, hkk, hg, rfl, BW, No⟩ := hrel
  by_cases hlt : kk < l0.length
  ·have hltz : (kk : Int) < (l0.length : Int) := by omega
   obtain ⟨ad, e, hx0, hx1⟩ := at_T58 HR.out (kk : Int) qa29 hltz
   cases e
   replace hx0 := (BW.out.cell (qL w _ hx0)).trans hx0; replace hx1 := (BW.out.cell (qL w _ hx1)).trans hx1; simp only [Int.toNat_natCast] at hx0; simp only [Int.toNat_natCast] at hx1
   have hx : l0[kk]? = some (rd_T58 l0 (kk : Int)) := by
    rw [List.getElem?_eq_getElem hlt]
    show some l0[kk] = some (l0.getD (kk : Int).toNat _)
    rw [Int.toNat_natCast, List.getD_eq_getElem?_getD, List.getElem?_eq_getElem hlt]
    rfl
   skip
   have hcall := HP.out wr (rd_T58 l0 (kk : Int)) (List.mem_of_getElem? hx) BW.out; have HX := qO hx; clear hx; generalize rd_T58 l0 (kk : Int) = x at hcall HX hx0 hx1
   cases hq : p x with
   | true =>
    have HQ := qO hq; rw [hq] at hcall; clear hq
    go_wp2_with (go_at_fn g; refine hcall.mono ?_; rintro e w' ⟨rfl, hb'⟩)
    go_ret
    exact ⟨by rw [impl_Put_132.hit p l0 kk x HX.out HQ.out No.out]; rfl, hb'⟩
   | false =>
    have HQ := qO hq; rw [hq] at hcall; clear hq
    go_wp2_with (go_at_fn g; refine hcall.mono ?_; rintro e w' ⟨rfl, hb'⟩)
    go_roundg (l0.length - (kk + 1))
    case measure => omega
    case rel =>
     refine ⟨kk + 1, qa29, qa29, by go_num, ⟨hb'⟩, ⟨fun j hj x' hx' => ?_⟩⟩
     by_cases e : j = kk
     ·subst e
      rw [HX.out] at hx'; obtain rfl := Option.some.inj hx'
      exact HQ.out
     ·exact No.out j qa29 x' hx'
  ·have hltz : ¬ (kk : Int) < (l0.length : Int) := by omega
   have hk : kk = l0.length := by omega
   have HK := qO hk; clear hk; go_wp2
   go_ret
   exact ⟨by rw [impl_Put_132.miss p l0 (fun j hj => No.out j (by rw [HK.out]; exact hj))]; rfl, BW.out⟩


set_option maxHeartbeats 4000000 in
set_option maxRecDepth 100000 in
theorem impl_Put_114.callsP (A0 : Option Addr) (c0 : Nat) (l0 : List (S58)) (g : Nat) (cb : Array Value) (p : (S58) → Bool) (w : World) (eg : ∀ args w, (callFunc g args).run Try.prog w = .ok (.enter g args) w) (hr0 : Kd.C k58 w A0 l0.length l0)
  (hp : ∀ (W : World) (x : (S58)), x ∈ l0 → Below w.heap.size w W → Calls Try.prog g (#[.agg #[.int .i64 x.f0, .int .i64 x.f1]] ++ cb) W fun e w' => e = .returned (.bool (p x)) ∧ Below w.heap.size w w') :
  Calls Try.prog 114 #[.slice A0 l0.length c0, .func (.func g) #[] cb] w fun e w' => e = .returned (.bool (l0.any p)) ∧ Below w.heap.size w w' := by
 have hc := impl_Put_132.callsP A0 c0 l0 g cb p w eg hr0 hp
 have hany : decide (0 ≤ impl_Put_132.fp p l0) = l0.any p := by
  unfold impl_Put_132.fp
  cases hf : l0.findIdx? p with
  | none =>
   have h := List.findIdx?_eq_none_iff.1 hf
   have h2 : l0.any p = false := by
    rw [List.any_eq_false]; intro x hx; rw [h x hx]
    simp
   rw [h2]
   rfl
  | some i =>
   obtain ⟨hl, hi, _⟩ := List.findIdx?_eq_some_iff_getElem.1 hf; have h2 : l0.any p = true := List.any_eq_true.2 ⟨l0[i], List.getElem_mem hl, hi⟩; rw [h2]
   simp
 have HA := qO hany; clear hany hp; generalize impl_Put_132.fp p l0 = q at hc HA
 go_enter Try.func114, Try.ntmps114
 go_wp2_with (go_at_call 132; refine hc.mono ?_; rintro e w' ⟨rfl, hb'⟩)
 go_ret
 exact ⟨by rw [← HA.out]; rfl, hb'⟩


def impl_isPut.f (a0_0 : Int) (a0_1 : Int) : Option (Bool) := (impl_isKey.f a0_0).bind fun t102 => (if t102 = true then ((impl_fits.f a0_0 a0_1).bind fun t103 => (some t103)) else (some false))
set_option maxHeartbeats 8000000 in
set_option maxRecDepth 100000 in
theorem impl_isPut.calls (a0_0 : Int) (a0_1 : Int) (r : Bool) (w : World) (h : impl_isPut.f a0_0 a0_1 = some r) :
  Calls Try.prog 84 #[.agg #[.int .i64 a0_0, .int .i64 a0_1]] w fun e w' => e = .returned (.bool r) ∧ Below w.heap.size w w' := by
 have hu58 := Try.underlying58; have HB := qO (Below.refl w.heap.size w); have H : ((impl_isKey.f a0_0).bind fun t102 => (if t102 = true then ((impl_fits.f a0_0 a0_1).bind fun t103 => (some t103)) else (some false))) = some r := h; clear h; replace H := Option.bind_eq_some_iff.mp H; obtain ⟨t102, A20, H⟩ := H; replace H : (if t102 = true then ((impl_fits.f a0_0 a0_1).bind fun t103 => (some t103)) else (some false)) = some r := H; have A2 := qO A20; clear A20
 by_cases c3 : t102 = true
 ·subst c3
  have H1 : ((impl_fits.f a0_0 a0_1).bind fun t103 => (some t103)) = some r := by rw [if_pos rfl] at H; exact H
  clear H; have H := H1; clear H1; replace H := Option.bind_eq_some_iff.mp H; obtain ⟨t103, A40, H⟩ := H; replace H : (some t103) = some r := H; have A4 := qO A40; clear A40; obtain rfl := Option.some.inj H
  go_enter Try.func84, Try.ntmps84
  go_wp2_with (first | ((with_reducible refine gate_dst (N := 1) rfl ?_); refine qX 1 #[.int .i64 a0_0, .int .i64 a0_1] 58 ?_; intro gb101 hg w5 hbox hb; have hx_ := qHX HB hb qa0; have BK101 := qO (hbox); have GW101 := qO ((qa9 : w.heap.size ≤ gb101)); have GE101 := GW101; replace HB := qO (below_step (below_step HB.out hx_) hb); clear hx_ hb hbox hg; obtain ⟨hcz6_0, hcz6_1, hfz6_0, hfz6_1⟩ := qb2 BK101.out) | ((with_reducible refine gate_callee (f := 67) rfl ?_); refine goesL_ (some 5) rfl rfl Try.func67 qa5 rfl #[.int .i64 a0_0] rfl qa3 ?_; (with_reducible refine (impl_isKey.calls a0_0 true _ A2.out).mono ?_); rintro e w' ⟨rfl, ⟨nd, rfl⟩⟩; refine ⟨_, rfl, ?_⟩) | (go_at_call 66; (with_reducible refine (impl_fits.calls a0_0 a0_1 t103 _ A4.out).mono ?_); rintro e w' ⟨rfl, ⟨nd, rfl⟩⟩))
  go_ret
  exact ⟨qa7, qa14⟩
 ·replace c3 := Bool.eq_false_iff.mpr c3
  subst c3; have H1 : (some false) = some r := by rw [if_neg (show ¬ (false = true) by decide)] at H; exact H
  clear H; have H := H1; clear H1; obtain rfl := Option.some.inj H
  go_enter Try.func84, Try.ntmps84
  go_wp2_with (first | ((with_reducible refine gate_dst (N := 1) rfl ?_); refine qX 1 #[.int .i64 a0_0, .int .i64 a0_1] 58 ?_; intro gb101 hg w7 hbox hb; have hx_ := qHX HB hb qa0; have BK101 := qO (hbox); have GW101 := qO ((qa9 : w.heap.size ≤ gb101)); have GE101 := GW101; replace HB := qO (below_step (below_step HB.out hx_) hb); clear hx_ hb hbox hg; obtain ⟨hcz8_0, hcz8_1, hfz8_0, hfz8_1⟩ := qb2 BK101.out) | ((with_reducible refine gate_callee (f := 67) rfl ?_); refine goesL_ (some 5) rfl rfl Try.func67 qa5 rfl #[.int .i64 a0_0] rfl qa3 ?_; (with_reducible refine (impl_isKey.calls a0_0 false _ A2.out).mono ?_); rintro e w' ⟨rfl, ⟨nd, rfl⟩⟩; refine ⟨_, rfl, ?_⟩))
  go_ret
  exact ⟨qa7, qa14⟩


def impl_arePuts_1.f (a0_0 : Int) (a0_1 : Int) : Option (Bool) := (impl_isPut.f a0_0 a0_1).bind fun t102 => (some (!t102))
set_option maxHeartbeats 8000000 in
set_option maxRecDepth 100000 in
theorem impl_arePuts_1.calls (a0_0 : Int) (a0_1 : Int) (r : Bool) (w : World) (h : impl_arePuts_1.f a0_0 a0_1 = some r) :
  Calls Try.prog 115 #[.agg #[.int .i64 a0_0, .int .i64 a0_1]] w fun e w' => e = .returned (.bool r) ∧ Below w.heap.size w w' := by
 have hu58 := Try.underlying58; have HB := qO (Below.refl w.heap.size w); have H : ((impl_isPut.f a0_0 a0_1).bind fun t102 => (some (!t102))) = some r := h; clear h; replace H := Option.bind_eq_some_iff.mp H; obtain ⟨t102, A20, H⟩ := H; replace H : (some (!t102)) = some r := H; have A2 := qO A20; clear A20; obtain rfl := Option.some.inj H
 go_enter Try.func115, Try.ntmps115
 go_wp2_with (first | ((with_reducible refine gate_dst (N := 1) rfl ?_); refine qX 1 #[.int .i64 a0_0, .int .i64 a0_1] 58 ?_; intro gb101 hg w3 hbox hb; have hx_ := qHX HB hb qa0; have BK101 := qO (hbox); have GW101 := qO ((qa9 : w.heap.size ≤ gb101)); have GE101 := GW101; replace HB := qO (below_step (below_step HB.out hx_) hb); clear hx_ hb hbox hg; obtain ⟨hcz4_0, hcz4_1, hfz4_0, hfz4_1⟩ := qb2 BK101.out) | ((with_reducible refine gate_callee (f := 84) rfl ?_); refine goesL_ (some 4) rfl rfl Try.func84 qa5 rfl #[.agg #[.int .i64 a0_0, .int .i64 a0_1]] rfl qa3 ?_; (with_reducible refine (impl_isPut.calls a0_0 a0_1 t102 _ A2.out).mono ?_); rintro e w5 ⟨rfl, hb⟩; have hx_ := qHX HB hb qa0; refine ⟨_, rfl, ?_⟩; replace BK101 := qO (qB BK101.out hx_ hb); replace HB := qO (below_step (below_step HB.out hx_) hb); clear hx_; (try clear hb); (try clear hb2); (try clear hk); (try clear hi)))
 go_ret
 exact ⟨qa7, qa14⟩


def impl_arePuts.p (x : S58) : Bool := match impl_arePuts_1.f x.f0 x.f1 with | some b => b | none => false
theorem impl_arePuts.pe (x : S58) : impl_arePuts_1.f x.f0 x.f1 = some (impl_arePuts.p x) := by
 have h1 : ∀ a b c, ∃ r, impl_within.f a b c = some r := by
  intro a b c
  unfold impl_within.f
  split <;> exact ⟨_, rfl⟩
 have h2 : ∀ a, ∃ r, impl_isKey.f a = some r := by
  intro a; obtain ⟨r, h⟩ := h1 a 0 15
  exact ⟨r, by unfold impl_isKey.f; rw [h]; rfl⟩
 have h3 : ∀ a b, ∃ r, impl_fits.f a b = some r := by
  intro a b
  unfold impl_fits.f impl_IsInt.f
  split
  ·obtain ⟨r, h⟩ := h1 b 0 8
   exact ⟨r, by rw [h]; rfl⟩
  ·obtain ⟨r, h⟩ := h1 b (-2147483648) 2147483647
   exact ⟨r, by rw [h]; rfl⟩
 have h4 : ∃ r, impl_arePuts_1.f x.f0 x.f1 = some r := by
  obtain ⟨a, ha⟩ := h2 x.f0; obtain ⟨b, hb⟩ := h3 x.f0 x.f1
  unfold impl_arePuts_1.f impl_isPut.f
  rw [ha]
  cases a
  ·exact ⟨_, rfl⟩
  ·simp only [Option.bind_some, if_true]
   rw [hb]
   exact ⟨_, rfl⟩
 obtain ⟨r, h⟩ := h4
 unfold impl_arePuts.p
 rw [h]
def impl_arePuts.f (l0 : List (S58)) : Option Bool := if (l0.length : Int) ≤ 400 then some (!(l0.any impl_arePuts.p)) else some false
set_option maxHeartbeats 4000000 in
set_option maxRecDepth 100000 in
theorem impl_arePuts.calls (A0 : Option Addr) (c0 : Nat) (l0 : List (S58)) (r : Bool) (w : World) (hr0 : Kd.C k58 w A0 l0.length l0) (hc0 : l0.length ≤ c0) (h : impl_arePuts.f l0 = some r) :
  Calls Try.prog 75 #[.slice A0 l0.length c0] w fun e w' => e = .returned (.bool r) ∧ Below w.heap.size w w' := by
 unfold impl_arePuts.f at h
 have eg : ∀ args w, (callFunc 115 args).run Try.prog w = .ok (.enter 115 args) w := enters_of Try.func115 qa5 rfl; have hcon := impl_Put_114.callsP A0 c0 l0 115 #[] impl_arePuts.p w eg hr0 (fun W x _ hb => (impl_arePuts_1.calls x.f0 x.f1 (impl_arePuts.p x) W (impl_arePuts.pe x)).mono (by rintro e w' ⟨rfl, h2⟩; exact ⟨rfl, below_step hb h2⟩)); clear hr0 hc0 eg; generalize l0.any impl_arePuts.p = q at h hcon
 by_cases hle : (l0.length : Int) ≤ 400
 ·rw [if_pos hle] at h
  obtain rfl := Option.some.inj h; have hd : decide ((l0.length : Int) ≤ 400) = true := decide_eq_true hle; have hd2 : decide (l0.length ≤ 400) = true := decide_eq_true qa29; clear hle h
  go_enter Try.func75, Try.ntmps75
  go_wp2_with (go_at_call 114; refine hcon.mono ?_; rintro e w' ⟨rfl, hb'⟩)
  go_ret
  exact ⟨rfl, hb'⟩
 ·rw [if_neg hle] at h
  obtain rfl := Option.some.inj h; have hd : decide ((l0.length : Int) ≤ 400) = false := decide_eq_false hle; have hd2 : decide (l0.length ≤ 400) = false := decide_eq_false qa29; clear hle h hcon
  go_enter Try.func75, Try.ntmps75
  go_wp2
  go_ret
  exact ⟨rfl, Below.refl _ _⟩


def slices_Index_int_int.l0 : Nat → List Int → Int → Int → Int → Option (Int)
 | 0, _, _, _, _ => none
 | k + 1, x0, x1, x7, x8 => if x8 < x7 then (if 0 ≤ x8 then (if x8 < (x0.length : Int) then (if x1 = (rd x0 x8) then (some x8) else (slices_Index_int_int.l0 k x0 x1 x7 (wrap64 (x8 + 1)))) else (none)) else (none)) else (some (-1))
def slices_Index_int_int.f (k : Nat) (l0 : List Int) (a1 : Int) : Option (Int) := slices_Index_int_int.l0 k l0 a1 (l0.length : Int) 0
set_option maxHeartbeats 8000000 in
set_option maxRecDepth 100000 in
theorem slices_Index_int_int.calls (k : Nat) (A0 : Option Addr) (c0 : Nat) (l0 : List Int) (a1 : Int) (r : Int) (w : World) (hr0 : Kd.C (Kd.int .i64) w A0 l0.length l0) (hc0 : l0.length ≤ c0) (h : slices_Index_int_int.f k l0 a1 = some r) :
  Calls Try.prog 120 #[.slice A0 l0.length c0, .int .i64 a1] w fun e w' => e = .returned (.int .i64 r) ∧ Drawn0 w w' := by
 have HR0 := qO hr0; have HC0 := qO hc0; clear hr0 hc0; have H : (slices_Index_int_int.l0 k l0 a1 (l0.length : Int) 0) = some r := h; clear h; have H' := qO H; clear H
 go_enter Try.func120, Try.ntmps120
 go_wp2
 go_loopg [8] k (fun kq v8 w' => ∃ (x8_1 : Int), v8 = .int .i64 x8_1 ∧ Aside0 (slices_Index_int_int.l0 kq l0 a1 (l0.length : Int) x8_1 = some r) ∧ Aside0 (kq ≤ k) ∧ Drawn0 w w')
 case atStart => exact ⟨(0), qa12, H', ⟨Nat.le_refl _⟩, qa22⟩
 case round =>
  clear H'
  try clear c1
  try clear p2
  obtain ⟨x8_1, rfl, HA, HK1, ⟨m1, rfl⟩⟩ := hrel
  cases gk with
  | zero => exact absurd HA.out (by simp [slices_Index_int_int.l0])
  | succ k1 =>
   have H := HA.out; clear HA; simp only [slices_Index_int_int.l0] at H
   by_cases c3 : x8_1 < (l0.length : Int)
   ·rw [if_pos c3] at H
    have c3b0 : decide (x8_1 < (l0.length : Int)) = true := decide_eq_true c3; clear c3
    by_cases c4 : 0 ≤ x8_1
    ·rw [if_pos c4] at H
     have c4b0 : decide (0 ≤ x8_1) = true := decide_eq_true c4; clear c4
     by_cases c5 : x8_1 < (l0.length : Int)
     ·rw [if_pos c5] at H
      have c5b0 : decide (x8_1 < (l0.length : Int)) = true := decide_eq_true c5; clear c5
      by_cases c6 : a1 = (rd l0 x8_1)
      ·rw [if_pos c6] at H
       have c6b0 : (a1 == (rd l0 x8_1)) = true := beq_iff_eq.mpr c6; have c6b1 : (a1 != (rd l0 x8_1)) = false := bne_eq_false_iff_eq.mpr c6; clear c6; obtain rfl := Option.some.inj H; have p101 : 0 ≤ (x8_1 : Int) := qT qa1; have q101 : x8_1 < (l0.length : Int) := qT qa1; obtain ⟨ad101, e101, hx101_0⟩ := Kd.at_int HR0.out x8_1 p101 q101
       cases e101
       replace p101 := eq_true p101; replace q101 := eq_true q101; go_wp2
       go_ret
       exact ⟨qa12, qa22⟩
      ·rw [if_neg c6] at H
       have c6b0 : (a1 == (rd l0 x8_1)) = false := beq_eq_false_iff_ne.mpr c6; have c6b1 : (a1 != (rd l0 x8_1)) = true := bne_iff_ne.mpr c6; have H' := qO H; clear H; have p101 : 0 ≤ (x8_1 : Int) := qT qa1; have q101 : x8_1 < (l0.length : Int) := qT qa1; obtain ⟨ad101, e101, hx101_0⟩ := Kd.at_int HR0.out x8_1 p101 q101
       cases e101
       replace p101 := eq_true p101; replace q101 := eq_true q101; go_wp2
       go_roundg k1
       case measure => have := HK1.out; omega
       case rel => exact ⟨(wrap64 (x8_1 + 1)), qa12, H', ⟨qa103⟩, qa22⟩
     ·rw [if_neg c5] at H
      exact absurd H qa117
    ·rw [if_neg c4] at H
     exact absurd H qa117
   ·rw [if_neg c3] at H
    have c3b0 : decide (x8_1 < (l0.length : Int)) = false := decide_eq_false c3; clear c3; obtain rfl := Option.some.inj H; go_wp2
    go_ret
    exact ⟨qa12, qa22⟩


def slices_Contains_int_int.f (k : Nat) (l0 : List Int) (a1 : Int) : Option (Bool) := (slices_Index_int_int.f k l0 a1).bind fun t101 => (some (decide (t101 ≥ 0)))
set_option maxHeartbeats 8000000 in
set_option maxRecDepth 100000 in
theorem slices_Contains_int_int.calls (k : Nat) (A0 : Option Addr) (c0 : Nat) (l0 : List Int) (a1 : Int) (r : Bool) (w : World) (hr0 : Kd.C (Kd.int .i64) w A0 l0.length l0) (hc0 : l0.length ≤ c0) (h : slices_Contains_int_int.f k l0 a1 = some r) :
  Calls Try.prog 83 #[.slice A0 l0.length c0, .int .i64 a1] w fun e w' => e = .returned (.bool r) ∧ Drawn0 w w' := by
 have HR0 := qO hr0; have HC0 := qO hc0; clear hr0 hc0; have H : ((slices_Index_int_int.f k l0 a1).bind fun t101 => (some (decide (t101 ≥ 0)))) = some r := h; clear h; replace H := Option.bind_eq_some_iff.mp H; obtain ⟨t101, A30, H⟩ := H; replace H : (some (decide (t101 ≥ 0))) = some r := H; have A3 := qO A30; clear A30; obtain rfl := Option.some.inj H
 go_enter Try.func83, Try.ntmps83
 go_wp2_with (first | ((with_reducible refine gate_callee (f := 120) rfl ?_); refine goesL_ (some 7) rfl rfl Try.func120 qa5 rfl #[.slice A0 l0.length c0, .int .i64 a1] rfl qa3 ?_; (with_reducible refine (slices_Index_int_int.calls k _ _ l0 a1 t101 _ ?side1 ?side2 A3.out).mono ?_); (case side1 => repeat (first | exact HR0.out | with_reducible first | refine Kd.C_alloc ?_ _ | refine Kd.C_drewN ?_ _ | refine Kd.C_drew ?_)); (case side2 => exact HC0.out); rintro e w' ⟨rfl, ⟨nd, rfl⟩⟩; refine ⟨_, rfl, ?_⟩))
 go_ret
 exact ⟨qa12, qa22⟩


mutual
def impl_TxnOK.j0 : Nat → Bool → Int → List Int → List (S58) → Option (Bool)
 | 0, _, _, _, _ => none
 | k + 1, x22, x103000, x103001, x103002 => if x22 = true then (some false) else (impl_TxnOK.l0 k x103001 (x103001.length : Int) 0 x103000 x103001 x103002)
def impl_TxnOK.l0 : Nat → List Int → Int → Int → Int → List Int → List (S58) → Option (Bool)
 | 0, _, _, _, _, _, _ => none
 | k + 1, x24, x25, x26, x103000, x103001, x103002 => if x26 < x25 then (if 0 ≤ x26 then (if x26 < (x24.length : Int) then ((impl_isKey.f (rd x24 x26)).bind fun t107 => (if t107 = true then (if x26 ≤ (x103001.length : Int) then ((slices_Contains_int_int.f k (x103001.take (x26 : Int).toNat) (rd x24 x26)).bind fun t109 => (if t109 = true then (some false) else (impl_TxnOK.l0 k x24 x25 (wrap64 (x26 + 1)) x103000 x103001 x103002))) else (none)) else (some false))) else (none)) else (none)) else (some true)
end
def impl_TxnOK.f (k : Nat) (l0_0 : List (List (S43))) (a0_1 : Int) (a1_0 : Int) (l1_1 : List Int) (l1_2 : List (S58)) : Option (Bool) := (impl_StoreOK.f k l0_0 a0_1).bind fun t103 => (if t103 = true then ((impl_Store_isHour.f l0_0 a0_1 a1_0).bind fun t104 => (if t104 = true then ((impl_arePuts.f l1_2).bind fun t105 => (impl_TxnOK.j0 k (!t105) a1_0 l1_1 l1_2)) else (impl_TxnOK.j0 k true a1_0 l1_1 l1_2))) else (impl_TxnOK.j0 k true a1_0 l1_1 l1_2))
set_option maxHeartbeats 8000000 in
set_option maxRecDepth 100000 in
theorem impl_TxnOK.calls (k : Nat) (A0_0 : Option Addr) (c0_0 : Nat) (l0_0 : List (List (S43))) (a0_1 : Int) (a1_0 : Int) (A1_1 : Option Addr) (c1_1 : Nat) (l1_1 : List Int) (A1_2 : Option Addr) (c1_2 : Nat) (l1_2 : List (S58)) (r : Bool) (w : World) (hr0_0 : Kd.C (Kd.slice 43 k43) w A0_0 l0_0.length l0_0) (hc0_0 : l0_0.length ≤ c0_0) (hr1_1 : Kd.C (Kd.int .i64) w A1_1 l1_1.length l1_1) (hc1_1 : l1_1.length ≤ c1_1) (hr1_2 : Kd.C k58 w A1_2 l1_2.length l1_2) (hc1_2 : l1_2.length ≤ c1_2) (h : impl_TxnOK.f k l0_0 a0_1 a1_0 l1_1 l1_2 = some r) :
  Calls Try.prog 42 #[.agg #[.slice A0_0 l0_0.length c0_0, .int .i64 a0_1], .agg #[.int .i64 a1_0, .slice A1_1 l1_1.length c1_1, .slice A1_2 l1_2.length c1_2]] w fun e w' => e = .returned (.bool r) ∧ Below w.heap.size w w' := by
 have hu28 := Try.underlying28; have hu65 := Try.underlying65; have HR0_0 := qO hr0_0; have HC0_0 := qO hc0_0; clear hr0_0 hc0_0; have HR1_1 := qO hr1_1; have HC1_1 := qO hc1_1; clear hr1_1 hc1_1; have HR1_2 := qO hr1_2; have HC1_2 := qO hc1_2; clear hr1_2 hc1_2; have HB := qO (Below.refl w.heap.size w); have H : ((impl_StoreOK.f k l0_0 a0_1).bind fun t103 => (if t103 = true then ((impl_Store_isHour.f l0_0 a0_1 a1_0).bind fun t104 => (if t104 = true then ((impl_arePuts.f l1_2).bind fun t105 => (impl_TxnOK.j0 k (!t105) a1_0 l1_1 l1_2)) else (impl_TxnOK.j0 k true a1_0 l1_1 l1_2))) else (impl_TxnOK.j0 k true a1_0 l1_1 l1_2))) = some r := h; clear h; have HC3 := qO H; clear H
 go_enter Try.func42, Try.ntmps42
 go_upto_region 1 with (first | ((with_reducible refine gate_dst (N := 2) rfl ?_); refine qX 2 #[.slice A0_0 l0_0.length c0_0, .int .i64 a0_1] 28 ?_; intro gb101 hg w4 hbox hb; have BK101 := qO (hbox); have GW101 := qO ((qa46 : w.heap.size ≤ gb101)); have GE101 := qO ((qa46 : w.heap.size ≤ gb101)); replace HB := qO (below_step qa16 hb); clear hb hbox hg) | ((with_reducible refine gate_dst (N := 3) rfl ?_); refine qX 3 #[.int .i64 a1_0, .slice A1_1 l1_1.length c1_1, .slice A1_2 l1_2.length c1_2] 65 ?_; intro gb102 hg w5 hbox hb; have BK102 := qO (hbox); have GW102 := qO ((qa30 : w.heap.size ≤ gb102)); have GE102 := qO ((qa30 : w.heap.size ≤ gb102)); have NB101_102 := qO ((qa4 : gb101 ≠ gb102)); have NB102_101 := qO ((qa121 : gb102 ≠ gb101)); replace BK101 := qO (blk_below (g := gb101) (o := .cells #[.slice A0_0 l0_0.length c0_0, .int .i64 a0_1] 28 (0, 0)) qa17 hb); replace HB := qO (below_step qa14 hb); clear hb hbox hg))
 (try simp only [Act.put, qzA, qzB, qzC])
 go_cut [22] (fun v22 wc => ∃ (kq : Nat) (x22_2 : Bool), v22 = .bool x22_2 ∧ Aside0 (impl_TxnOK.j0 kq x22_2 a1_0 l1_1 l1_2 = some r) ∧ Aside0 (kq ≤ k) ∧ Aside0 (wc.heap[gb101]? = some (.cells #[(.slice A0_0 l0_0.length c0_0), .int .i64 a0_1] 28 (0, 0))) ∧ Aside0 (wc.heap[gb102]? = some (.cells #[.int .i64 a1_0, (.slice A1_1 l1_1.length c1_1), (.slice A1_2 l1_2.length c1_2)] 65 (0, 0))) ∧ Aside0 (Below w.heap.size w wc))
 case first =>
  have H := HC3.out; clear HC3; replace H := Option.bind_eq_some_iff.mp H; obtain ⟨t103, A60, H⟩ := H; replace H : (if t103 = true then ((impl_Store_isHour.f l0_0 a0_1 a1_0).bind fun t104 => (if t104 = true then ((impl_arePuts.f l1_2).bind fun t105 => (impl_TxnOK.j0 k (!t105) a1_0 l1_1 l1_2)) else (impl_TxnOK.j0 k true a1_0 l1_1 l1_2))) else (impl_TxnOK.j0 k true a1_0 l1_1 l1_2)) = some r := H; have A6 := qO A60; clear A60
  by_cases c7 : t103 = true
  ·subst c7
   have H1 : ((impl_Store_isHour.f l0_0 a0_1 a1_0).bind fun t104 => (if t104 = true then ((impl_arePuts.f l1_2).bind fun t105 => (impl_TxnOK.j0 k (!t105) a1_0 l1_1 l1_2)) else (impl_TxnOK.j0 k true a1_0 l1_1 l1_2))) = some r := by rw [if_pos rfl] at H; exact H
   clear H; have H := H1; clear H1; replace H := Option.bind_eq_some_iff.mp H; obtain ⟨t104, A80, H⟩ := H; replace H : (if t104 = true then ((impl_arePuts.f l1_2).bind fun t105 => (impl_TxnOK.j0 k (!t105) a1_0 l1_1 l1_2)) else (impl_TxnOK.j0 k true a1_0 l1_1 l1_2)) = some r := H; have A8 := qO A80; clear A80
   by_cases c9 : t104 = true
   ·subst c9
    have H1 : ((impl_arePuts.f l1_2).bind fun t105 => (impl_TxnOK.j0 k (!t105) a1_0 l1_1 l1_2)) = some r := by rw [if_pos rfl] at H; exact H
    clear H; have H := H1; clear H1; replace H := Option.bind_eq_some_iff.mp H; obtain ⟨t105, A100, H⟩ := H; replace H : (impl_TxnOK.j0 k (!t105) a1_0 l1_1 l1_2) = some r := H; have A10 := qO A100; clear A100; have H' := qO H; clear H; have hnb11 := NB101_102.out; have hnc11 := NB102_101.out; obtain ⟨hcz12_0, hcz12_1, hfz12_0, hfz12_1⟩ := qb2 BK101.out
    go_wp2_with (first | ((with_reducible refine gate_callee (f := 22) rfl ?_); refine goesL_ (some 8) rfl rfl Try.func22 qa5 rfl #[.agg #[.slice A0_0 l0_0.length c0_0, .int .i64 a0_1]] rfl qa3 ?_; (with_reducible refine (impl_StoreOK.calls k _ _ l0_0 a0_1 true _ ?side1 ?side2 A6.out).mono ?_); (case side1 => exact qa18); (case side2 => exact HC0_0.out); rintro e w13 ⟨rfl, hb⟩; have hx_ := qHX HB hb qa0; refine ⟨_, rfl, ?_⟩; replace BK101 := qO (qB BK101.out hx_ hb); replace BK102 := qO (qB BK102.out hx_ hb); replace HB := qO (below_step (below_step HB.out hx_) hb); clear hx_; (try clear hb); (try clear hb2); (try clear hk); (try clear hi); obtain ⟨hcz14_0, hcz14_1, hfz14_0, hfz14_1⟩ := qb2 BK101.out; obtain ⟨hcz15_0, hcz15_1, hcz15_2, hfz15_0, hfz15_1, hfz15_2⟩ := qb3 BK102.out) | (go_at_call 57; (with_reducible refine (impl_Store_isHour.calls _ _ l0_0 a0_1 a1_0 true _ ?side1 ?side2 A8.out).mono ?_); (case side1 => exact qa18); (case side2 => exact HC0_0.out); rintro e w16 ⟨rfl, hb⟩; have hx_ := qHX HB hb qa0; replace BK101 := qO (qB BK101.out hx_ hb); replace BK102 := qO (qB BK102.out hx_ hb); replace HB := qO (below_step (below_step HB.out hx_) hb); clear hx_; (try clear hb); (try clear hb2); (try clear hk); (try clear hi); obtain ⟨hcz17_0, hcz17_1, hcz17_2, hfz17_0, hfz17_1, hfz17_2⟩ := qb3 BK102.out) | (go_at_call 75; (with_reducible refine (impl_arePuts.calls _ _ l1_2 t105 _ ?side1 ?side2 A10.out).mono ?_); (case side1 => exact qa38); (case side2 => exact HC1_2.out); rintro e w18 ⟨rfl, hb⟩; have hx_ := qHX HB hb qa0; replace BK101 := qO (qB BK101.out hx_ hb); replace BK102 := qO (qB BK102.out hx_ hb); replace HB := qO (below_step (below_step HB.out hx_) hb); clear hx_; (try clear hb); (try clear hb2); (try clear hk); (try clear hi)))
    go_meet
    case rel => exact ⟨_, (!t105), qa12, H', ⟨qa148⟩, ⟨qa17⟩, ⟨qa28⟩, ⟨qa13⟩⟩
   ·replace c9 := Bool.eq_false_iff.mpr c9
    subst c9; have H1 : (impl_TxnOK.j0 k true a1_0 l1_1 l1_2) = some r := by rw [if_neg (show ¬ (false = true) by decide)] at H; exact H
    clear H; have H := H1; clear H1; have H' := qO H; clear H; have hnb19 := NB101_102.out; have hnc19 := NB102_101.out; obtain ⟨hcz20_0, hcz20_1, hfz20_0, hfz20_1⟩ := qb2 BK101.out
    go_wp2_with (first | ((with_reducible refine gate_callee (f := 22) rfl ?_); refine goesL_ (some 8) rfl rfl Try.func22 qa5 rfl #[.agg #[.slice A0_0 l0_0.length c0_0, .int .i64 a0_1]] rfl qa3 ?_; (with_reducible refine (impl_StoreOK.calls k _ _ l0_0 a0_1 true _ ?side1 ?side2 A6.out).mono ?_); (case side1 => exact qa18); (case side2 => exact HC0_0.out); rintro e w21 ⟨rfl, hb⟩; have hx_ := qHX HB hb qa0; refine ⟨_, rfl, ?_⟩; replace BK101 := qO (qB BK101.out hx_ hb); replace BK102 := qO (qB BK102.out hx_ hb); replace HB := qO (below_step (below_step HB.out hx_) hb); clear hx_; (try clear hb); (try clear hb2); (try clear hk); (try clear hi); obtain ⟨hcz22_0, hcz22_1, hfz22_0, hfz22_1⟩ := qb2 BK101.out; obtain ⟨hcz23_0, hcz23_1, hcz23_2, hfz23_0, hfz23_1, hfz23_2⟩ := qb3 BK102.out) | (go_at_call 57; (with_reducible refine (impl_Store_isHour.calls _ _ l0_0 a0_1 a1_0 false _ ?side1 ?side2 A8.out).mono ?_); (case side1 => exact qa18); (case side2 => exact HC0_0.out); rintro e w24 ⟨rfl, hb⟩; have hx_ := qHX HB hb qa0; replace BK101 := qO (qB BK101.out hx_ hb); replace BK102 := qO (qB BK102.out hx_ hb); replace HB := qO (below_step (below_step HB.out hx_) hb); clear hx_; (try clear hb); (try clear hb2); (try clear hk); (try clear hi)))
    go_meet
    case rel => exact ⟨_, (true), qa12, H', ⟨qa148⟩, ⟨qa17⟩, ⟨qa28⟩, ⟨qa13⟩⟩
  ·replace c7 := Bool.eq_false_iff.mpr c7
   subst c7; have H1 : (impl_TxnOK.j0 k true a1_0 l1_1 l1_2) = some r := by rw [if_neg (show ¬ (false = true) by decide)] at H; exact H
   clear H; have H := H1; clear H1; have H' := qO H; clear H; have hnb25 := NB101_102.out; have hnc25 := NB102_101.out; obtain ⟨hcz26_0, hcz26_1, hfz26_0, hfz26_1⟩ := qb2 BK101.out
   go_wp2_with (first | ((with_reducible refine gate_callee (f := 22) rfl ?_); refine goesL_ (some 8) rfl rfl Try.func22 qa5 rfl #[.agg #[.slice A0_0 l0_0.length c0_0, .int .i64 a0_1]] rfl qa3 ?_; (with_reducible refine (impl_StoreOK.calls k _ _ l0_0 a0_1 false _ ?side1 ?side2 A6.out).mono ?_); (case side1 => exact qa18); (case side2 => exact HC0_0.out); rintro e w27 ⟨rfl, hb⟩; have hx_ := qHX HB hb qa0; refine ⟨_, rfl, ?_⟩; replace BK101 := qO (qB BK101.out hx_ hb); replace BK102 := qO (qB BK102.out hx_ hb); replace HB := qO (below_step (below_step HB.out hx_) hb); clear hx_; (try clear hb); (try clear hb2); (try clear hk); (try clear hi)))
   go_meet
   case rel => exact ⟨_, (true), qa12, H', ⟨qa148⟩, ⟨qa17⟩, ⟨qa28⟩, ⟨qa13⟩⟩
 case rest =>
  clear HC3
  try clear c1
  try clear c2
  try clear p2
  try clear c4
  try clear c7
  try clear c9
  try clear c11
  try clear c19
  try clear c22
  try clear c25
  try clear hcz12_0
  try clear hcz12_1
  try clear hcz14_0
  try clear hcz14_1
  try clear hcz15_0
  try clear hcz15_1
  try clear hcz15_2
  try clear hcz17_0
  try clear hcz17_1
  try clear hcz17_2
  try clear hcz20_0
  try clear hcz20_1
  try clear hcz22_0
  try clear hcz22_1
  try clear hcz23_0
  try clear hcz23_1
  try clear hcz23_2
  try clear hcz26_0
  try clear hcz26_1
  try clear hfz12_0
  try clear hfz12_1
  try clear hfz14_0
  try clear hfz14_1
  try clear hfz15_0
  try clear hfz15_1
  try clear hfz15_2
  try clear hfz17_0
  try clear hfz17_1
  try clear hfz17_2
  try clear hfz20_0
  try clear hfz20_1
  try clear hfz22_0
  try clear hfz22_1
  try clear hfz23_0
  try clear hfz23_1
  try clear hfz23_2
  try clear hfz26_0
  try clear hfz26_1
  obtain ⟨kq, x22_2, rfl, HA, HJ2, BK101, BK102, HB⟩ := hcut
  cases kq with
  | zero => exact absurd HA.out (by simp [impl_TxnOK.j0])
  | succ kj2 =>
   have H := HA.out; clear HA; simp only [impl_TxnOK.j0] at H
   by_cases c28 : x22_2 = true
   ·subst c28
    have H1 : (some false) = some r := by rw [if_pos rfl] at H; exact H
    clear H; have H := H1; clear H1; obtain rfl := Option.some.inj H; go_wp2
    go_ret
    exact ⟨qa7, qa13⟩
   ·replace c28 := Bool.eq_false_iff.mpr c28
    subst c28; have H1 : (impl_TxnOK.l0 kj2 l1_1 (l1_1.length : Int) 0 a1_0 l1_1 l1_2) = some r := by rw [if_neg (show ¬ (false = true) by decide)] at H; exact H
    clear H; have H := H1; clear H1; have H' := qO H; clear H; have hnb29 := NB102_101.out; have hnc29 := NB101_102.out; obtain ⟨hcz30_0, hcz30_1, hcz30_2, hfz30_0, hfz30_1, hfz30_2⟩ := qb3 BK102.out; go_wp2
    go_loopg [26] kj2 (fun kq v26 w' => ∃ (x26_2 : Int), v26 = .int .i64 x26_2 ∧ Aside0 (impl_TxnOK.l0 kq l1_1 (l1_1.length : Int) x26_2 a1_0 l1_1 l1_2 = some r) ∧ Aside0 (kq ≤ kj2) ∧ Aside0 (w'.heap[gb101]? = some (.cells #[(.slice A0_0 l0_0.length c0_0), .int .i64 a0_1] 28 (0, 0))) ∧ Aside0 (w'.heap[gb102]? = some (.cells #[.int .i64 a1_0, (.slice A1_1 l1_1.length c1_1), (.slice A1_2 l1_2.length c1_2)] 65 (0, 0))) ∧ Aside0 (Below w.heap.size w w'))
    case atStart => exact ⟨(0), qa12, H', ⟨Nat.le_refl _⟩, ⟨qa17⟩, ⟨qa28⟩, ⟨qa13⟩⟩
    case round =>
     clear H'
     try clear c1
     try clear c2
     try clear p2
     try clear c4
     try clear c7
     try clear c9
     try clear c11
     try clear c19
     try clear c22
     try clear c25
     try clear c28
     try clear c29
     try clear hcz12_0
     try clear hcz12_1
     try clear hcz14_0
     try clear hcz14_1
     try clear hcz15_0
     try clear hcz15_1
     try clear hcz15_2
     try clear hcz17_0
     try clear hcz17_1
     try clear hcz17_2
     try clear hcz20_0
     try clear hcz20_1
     try clear hcz22_0
     try clear hcz22_1
     try clear hcz23_0
     try clear hcz23_1
     try clear hcz23_2
     try clear hcz26_0
     try clear hcz26_1
     try clear hcz30_0
     try clear hcz30_1
     try clear hcz30_2
     try clear hfz12_0
     try clear hfz12_1
     try clear hfz14_0
     try clear hfz14_1
     try clear hfz15_0
     try clear hfz15_1
     try clear hfz15_2
     try clear hfz17_0
     try clear hfz17_1
     try clear hfz17_2
     try clear hfz20_0
     try clear hfz20_1
     try clear hfz22_0
     try clear hfz22_1
     try clear hfz23_0
     try clear hfz23_1
     try clear hfz23_2
     try clear hfz26_0
     try clear hfz26_1
     try clear hfz30_0
     try clear hfz30_1
     try clear hfz30_2
     try clear p2
     obtain ⟨x26_2, rfl, HA, HK2, BK101, BK102, HB⟩ := hrel
     cases gk with
     | zero => exact absurd HA.out (by simp [impl_TxnOK.l0])
     | succ k2 =>
      have H := HA.out; clear HA; simp only [impl_TxnOK.l0] at H
      by_cases c31 : x26_2 < (l1_1.length : Int)
      ·rw [if_pos c31] at H
       have c31b0 : decide (x26_2 < (l1_1.length : Int)) = true := decide_eq_true c31; clear c31
       by_cases c32 : 0 ≤ x26_2
       ·rw [if_pos c32] at H
        have c32b0 : decide (0 ≤ x26_2) = true := decide_eq_true c32; clear c32
        by_cases c33 : x26_2 < (l1_1.length : Int)
        ·rw [if_pos c33] at H
         have c33b0 : decide (x26_2 < (l1_1.length : Int)) = true := decide_eq_true c33; clear c33; replace H := Option.bind_eq_some_iff.mp H; obtain ⟨t107, A340, H⟩ := H; replace H : (if t107 = true then (if x26_2 ≤ (l1_1.length : Int) then ((slices_Contains_int_int.f k2 (l1_1.take (x26_2 : Int).toNat) (rd l1_1 x26_2)).bind fun t109 => (if t109 = true then (some false) else (impl_TxnOK.l0 k2 l1_1 (l1_1.length : Int) (wrap64 (x26_2 + 1)) a1_0 l1_1 l1_2))) else (none)) else (some false)) = some r := H; have A34 := qO A340; clear A340
         by_cases c35 : t107 = true
         ·subst c35
          have H1 : (if x26_2 ≤ (l1_1.length : Int) then ((slices_Contains_int_int.f k2 (l1_1.take (x26_2 : Int).toNat) (rd l1_1 x26_2)).bind fun t109 => (if t109 = true then (some false) else (impl_TxnOK.l0 k2 l1_1 (l1_1.length : Int) (wrap64 (x26_2 + 1)) a1_0 l1_1 l1_2))) else (none)) = some r := by rw [if_pos rfl] at H; exact H
          clear H; have H := H1; clear H1; have c36b0 := eq_true (qT qa1 : 0 ≤ x26_2)
          by_cases c37 : x26_2 ≤ (l1_1.length : Int)
          ·rw [if_pos c37] at H
           have c37b0 := eq_true c37; have c37b1 : decide (x26_2 ≤ (l1_1.length : Int)) = true := decide_eq_true c37; clear c37; replace H := Option.bind_eq_some_iff.mp H; obtain ⟨t109, A380, H⟩ := H; replace H : (if t109 = true then (some false) else (impl_TxnOK.l0 k2 l1_1 (l1_1.length : Int) (wrap64 (x26_2 + 1)) a1_0 l1_1 l1_2)) = some r := H; have A38 := qO A380; clear A380
           by_cases c39 : t109 = true
           ·subst c39
            have H1 : (some false) = some r := by rw [if_pos rfl] at H; exact H
            clear H; have H := H1; clear H1; obtain rfl := Option.some.inj H; have p106 : 0 ≤ (x26_2 : Int) := qT qa1; have q106 : x26_2 < (l1_1.length : Int) := qT qa1; obtain ⟨ad106, e106, hx106_0⟩ := Kd.at_int HR1_1.out x26_2 p106 q106
            cases e106
            replace hx106_0 := (HB.out.cell (qL w _ hx106_0)).trans hx106_0; replace p106 := eq_true p106; replace q106 := eq_true q106
            go_wp2_with (first | ((with_reducible refine gate_callee (f := 67) rfl ?_); refine goesL_ (some 32) rfl rfl Try.func67 qa5 rfl #[.int .i64 (rd l1_1 x26_2)] rfl qa3 ?_; (with_reducible refine (impl_isKey.calls (rd l1_1 x26_2) true _ A34.out).mono ?_); rintro e w' ⟨rfl, ⟨nd, rfl⟩⟩; refine ⟨_, rfl, ?_⟩; have hnb40 := NB102_101.out; have hnc40 := NB101_102.out; obtain ⟨hcz41_0, hcz41_1, hcz41_2, hfz41_0, hfz41_1, hfz41_2⟩ := qb3 BK102.out; obtain ⟨i042, hi042, _, hsz42, _⟩ := info_parts info3; obtain ⟨hcut42, hA42, hC42⟩ := print_take_of (P := Try.prog) (Value.int .i64) 0 60 3 .i64 Try.underlying60 hi042 hsz42 (some ad106) c1_1 l1_1 x26_2 (qT qa1) (qT qa1) HC1_1.out; have HR108 := qO (Kd.C_of_reads (h1 := fun _ => rfl) (hA42 _ (Kd.reads_of_C HR1_1.out))); have HC108 := qO hC42; clear hA42 hC42 hi042 hsz42) | (go_at_call 83; (try rw [show (x26_2 : Int).toNat = (l1_1.take (x26_2 : Int).toNat).length from (by have h_ : (x26_2 : Int) ≤ (l1_1.length : Int) := qT qa1; rw [List.length_take]; omega)]); (with_reducible refine (slices_Contains_int_int.calls k2 _ _ (l1_1.take (x26_2 : Int).toNat) (rd l1_1 x26_2) true _ ?side1 ?side2 A38.out).mono ?_); (case side1 => exact qa100); (case side2 => exact HC108.out); rintro e w' ⟨rfl, ⟨nd, rfl⟩⟩))
            go_ret
            exact ⟨qa7, qa13⟩
           ·replace c39 := Bool.eq_false_iff.mpr c39
            subst c39; have H1 : (impl_TxnOK.l0 k2 l1_1 (l1_1.length : Int) (wrap64 (x26_2 + 1)) a1_0 l1_1 l1_2) = some r := by rw [if_neg (show ¬ (false = true) by decide)] at H; exact H
            clear H; have H := H1; clear H1; have H' := qO H; clear H; have p106 : 0 ≤ (x26_2 : Int) := qT qa1; have q106 : x26_2 < (l1_1.length : Int) := qT qa1; obtain ⟨ad106, e106, hx106_0⟩ := Kd.at_int HR1_1.out x26_2 p106 q106
            cases e106
            replace hx106_0 := (HB.out.cell (qL w _ hx106_0)).trans hx106_0; replace p106 := eq_true p106; replace q106 := eq_true q106
            go_wp2_with (first | ((with_reducible refine gate_callee (f := 67) rfl ?_); refine goesL_ (some 32) rfl rfl Try.func67 qa5 rfl #[.int .i64 (rd l1_1 x26_2)] rfl qa3 ?_; (with_reducible refine (impl_isKey.calls (rd l1_1 x26_2) true _ A34.out).mono ?_); rintro e w' ⟨rfl, ⟨nd, rfl⟩⟩; refine ⟨_, rfl, ?_⟩; have hnb43 := NB102_101.out; have hnc43 := NB101_102.out; obtain ⟨hcz44_0, hcz44_1, hcz44_2, hfz44_0, hfz44_1, hfz44_2⟩ := qb3 BK102.out; obtain ⟨i045, hi045, _, hsz45, _⟩ := info_parts info3; obtain ⟨hcut45, hA45, hC45⟩ := print_take_of (P := Try.prog) (Value.int .i64) 0 60 3 .i64 Try.underlying60 hi045 hsz45 (some ad106) c1_1 l1_1 x26_2 (qT qa1) (qT qa1) HC1_1.out; have HR108 := qO (Kd.C_of_reads (h1 := fun _ => rfl) (hA45 _ (Kd.reads_of_C HR1_1.out))); have HC108 := qO hC45; clear hA45 hC45 hi045 hsz45) | (go_at_call 83; (try rw [show (x26_2 : Int).toNat = (l1_1.take (x26_2 : Int).toNat).length from (by have h_ : (x26_2 : Int) ≤ (l1_1.length : Int) := qT qa1; rw [List.length_take]; omega)]); (with_reducible refine (slices_Contains_int_int.calls k2 _ _ (l1_1.take (x26_2 : Int).toNat) (rd l1_1 x26_2) false _ ?side1 ?side2 A38.out).mono ?_); (case side1 => exact qa100); (case side2 => exact HC108.out); rintro e w' ⟨rfl, ⟨nd, rfl⟩⟩))
            go_roundg k2
            case measure => have := HJ2.out; have := HK2.out; omega
            case rel => exact ⟨(wrap64 (x26_2 + 1)), qa12, H', ⟨by have := HJ2.out; have := HK2.out; omega⟩, ⟨qa17⟩, ⟨qa28⟩, ⟨qa13⟩⟩
          ·rw [if_neg c37] at H
           exact absurd H qa117
         ·replace c35 := Bool.eq_false_iff.mpr c35
          subst c35; have H1 : (some false) = some r := by rw [if_neg (show ¬ (false = true) by decide)] at H; exact H
          clear H; have H := H1; clear H1; obtain rfl := Option.some.inj H; have p106 : 0 ≤ (x26_2 : Int) := qT qa1; have q106 : x26_2 < (l1_1.length : Int) := qT qa1; obtain ⟨ad106, e106, hx106_0⟩ := Kd.at_int HR1_1.out x26_2 p106 q106
          cases e106
          replace hx106_0 := (HB.out.cell (qL w _ hx106_0)).trans hx106_0; replace p106 := eq_true p106; replace q106 := eq_true q106
          go_wp2_with (first | ((with_reducible refine gate_callee (f := 67) rfl ?_); refine goesL_ (some 32) rfl rfl Try.func67 qa5 rfl #[.int .i64 (rd l1_1 x26_2)] rfl qa3 ?_; (with_reducible refine (impl_isKey.calls (rd l1_1 x26_2) false _ A34.out).mono ?_); rintro e w' ⟨rfl, ⟨nd, rfl⟩⟩; refine ⟨_, rfl, ?_⟩))
          go_ret
          exact ⟨qa7, qa13⟩
        ·rw [if_neg c33] at H
         exact absurd H qa117
       ·rw [if_neg c32] at H
        exact absurd H qa117
      ·rw [if_neg c31] at H
       have c31b0 : decide (x26_2 < (l1_1.length : Int)) = false := decide_eq_false c31; clear c31; obtain rfl := Option.some.inj H; go_wp2
       go_ret
       exact ⟨qa7, qa13⟩


def impl_Version.f (l0 : List (S43)) : Option (List (S43)) := if l0.length < 8796093022208 then some l0 else none
set_option maxHeartbeats 4000000 in
set_option maxRecDepth 100000 in
theorem impl_Version.calls (A0 : Option Addr) (c0 : Nat) (l0 : List (S43)) (r : List (S43)) (w : World) (hr0 : Kd.C k43 w A0 l0.length l0) (hc0 : l0.length ≤ c0) (h : impl_Version.f l0 = some r) :
  Calls Try.prog 103 #[.slice A0 l0.length c0] w fun e w' => ∃ v0_ : Value, e = .returned (v0_) ∧ Kd.R k43 43 w' w.heap.size (fun _ => True) v0_ r ∧ Below w.heap.size w w' := by
 unfold impl_Version.f at h
 by_cases hl : l0.length < 8796093022208
 ·rw [if_pos hl] at h
  obtain rfl := Option.some.inj h; have LM := qO hl; have HR0 := qO hr0; have HB := qO (Below.refl w.heap.size w)
  cases A0 with
  | none =>
   have hz : l0.length = 0 := by
    rcases Nat.eq_zero_or_pos l0.length with h0 | h0
    ·exact h0
    ·obtain ⟨ad, e, _⟩ := hr0.2.2 h0
     cases e
   obtain rfl := List.eq_nil_of_length_eq_zero hz; have heq := fun w => Lib.run_eql_slice_nil (P := Try.prog) w 41 43 none 0 c0 0 0 Try.underlying41
   clear hr0 hc0 hl LM HR0 hz
   go_enter Try.func103, Try.ntmps103
   go_wp2
   go_ret
   exact ⟨_, rfl, Kd.R_nil _ _ _ _ _, HB.out⟩
  | some a0 =>
   have heq := fun w => Lib.run_eql_slice_nil (P := Try.prog) w 41 43 (some a0) l0.length c0 0 0 Try.underlying41
   clear hr0 hc0 hl
   go_enter Try.func103, Try.ntmps103
   go_wp2_with (first | ((with_reducible refine gate_dst (N := 5) rfl ?_); refine Kd.R_lit k43 _ 43 ?hg (N := 5) ?hd (xs := ([] : List (S43))) (inner := []) (ok := fun _ => True) (okp := fun _ => True) ?hr ?hp (fun _ hk => hk) trivial (Below.refl _ _) (Nat.le_refl _) qa117 ?_; (case hd => rfl); (case hg => rfl); (case hr => exact qa10); (case hp => exact qa190); intro v104 w6 ho7 hb hg_ hnew_; clear hg_ hnew_; have n0_ := qO ho7; have n1_ := qO hb; clear HB; have HO := n0_; have HB := n1_; clear n0_ n1_ hb ho7) | ((with_reducible refine gate_builtin (b := .append) (xs := #[.tmp 5, .tmp 6]) rfl ?_); at_builtin; refine Kd.R_append_rows k43 (w0 := w) w.heap.size rfl (.tmp 5) (.tmp 6) 41 43 (.agg #[(.int .i64 0), (.int .i64 0)]) 16 rfl Try.underlying41 info43 rfl qa51 qa29 v104 [] l0 _ _ _ (fun _ => True) (fun _ => False) rfl rfl ?aO ?aR (fun _ _ h => h) (fun _ h => h.elim) ?aF ?aB ?aS ?aL ?_; (case aR => repeat (first | exact (Kd.C_below HR0.out HB.out) | with_reducible first | refine Kd.C_alloc ?_ _ | refine Kd.C_drewN ?_ _ | refine Kd.C_drew ?_)); (case aB => exact HB.out); (case aF => exact (fun _ _ => trivial)); (case aO => exact HO.out); (case aS => exact (below_size HB.out)); (case aL => have := LM.out; simp only [List.length_nil]; omega); intro v107 w10 ho hb hg hat; have n0_ := qO hb; have n1_ := qO ho; clear HB HO; have HB := n0_; have HO := n1_; clear n0_ n1_ ho hb hg hat))
   go_ret
   exact ⟨_, rfl, by simpa using HO.out, HB.out⟩
 ·rw [if_neg hl] at h
  cases h


def impl_copyStore.l0 : Nat → List (List (S43)) → Int → Int → List (List (S43)) → Int → Option ((List (List (S43))) × Int)
 | 0, _, _, _, _, _ => none
 | k + 1, x10, x11, x12, x104000, x104001 => if x12 < x11 then (if 0 ≤ x12 then (if x12 < (x10.length : Int) then ((impl_Version.f (rd_L4 x10 x12)).bind fun t105 => (if x104000.length < 5864062014805 then (impl_copyStore.l0 k x10 x11 (wrap64 (x12 + 1)) (x104000 ++ [t105]) x104001) else (none))) else (none)) else (none)) else (some (x104000, x104001))
def impl_copyStore.f (k : Nat) (l0_0 : List (List (S43))) (a0_1 : Int) : Option ((List (List (S43))) × Int) := impl_copyStore.l0 k l0_0 (l0_0.length : Int) 0 ([] : List (List (S43))) a0_1
def impl_copyStore.T5 : Bool × List (List Nat × List Nat) := (true, [([], []), ([0], [0]), ([], []), ([2], [2]), ([3], [3]), ([1, 4, 3], [1, 4]), ([0, 1, 2, 3, 4, 5], []), ([6, 5, 5, 0, 1, 2, 3, 4, 5], [5, 6])])
def impl_copyStore.B5 : List Nat := [0, 1, 0, 4, 12, 31, 63, 127]
theorem impl_copyStore.tab5 : rtab .any (opsOf Try.f102 5) = impl_copyStore.T5 := by kernel_rfl
theorem impl_copyStore.bits5 : waitsOk impl_copyStore.T5.2 impl_copyStore.B5 = true := by kernel_rfl
def impl_copyStore.y0 := #[qf,qf,qf,qf,qf,qf,qf,qf]
def impl_copyStore.y1 := #[qt,qf,qf,qf,qf,qf,qf,qf]
def impl_copyStore.y2 := #[qt,qf,qt,qf,qf,qf,qf,qf]
def impl_copyStore.y3 := #[qt,qt,qt,qf,qf,qf,qf,qf]
def impl_copyStore.y4 := #[qt,qt,qt,qt,qf,qf,qf,qf]
def impl_copyStore.y5 := #[qt,qt,qt,qt,qt,qf,qf,qf]
def impl_copyStore.y6 := #[qt,qt,qt,qt,qt,qt,qf,qf]
def impl_copyStore.y7 := #[qt,qt,qt,qt,qt,qt,qt,qf]
def impl_copyStore.y8 := #[qt,qt,qt,qt,qt,qt,qt,qt]
set_option maxHeartbeats 8000000 in
set_option maxRecDepth 100000 in
theorem impl_copyStore.calls (k : Nat) (A0_0 : Option Addr) (c0_0 : Nat) (l0_0 : List (List (S43))) (a0_1 : Int) (r1 : List (List (S43))) (r2 : Int) (w : World) (hr0_0 : Kd.C (Kd.slice 43 k43) w A0_0 l0_0.length l0_0) (hc0_0 : l0_0.length ≤ c0_0) (h : impl_copyStore.f k l0_0 a0_1 = some (r1, r2)) :
  Calls Try.prog 102 #[.agg #[.slice A0_0 l0_0.length c0_0, .int .i64 a0_1]] w fun e w' => ∃ v0_ : Value, e = .returned (.agg #[v0_, .int .i64 r2]) ∧ Kd.S (Kd.slice 43 k43) 41 w' w.heap.size (fun _ => True) v0_ r1 ∧ Below w.heap.size w w' := by
 have hu28 := Try.underlying28; have HR0_0 := qO hr0_0; have HC0_0 := qO hc0_0; clear hr0_0 hc0_0; have HB := qO (Below.refl w.heap.size w); have H : (impl_copyStore.l0 k l0_0 (l0_0.length : Int) 0 ([] : List (List (S43))) a0_1) = some (r1, r2) := h; clear h; have H' := qO H; clear H
 go_enter Try.func102, Try.ntmps102
 go_wp2_with (first | ((with_reducible refine gate_dst (N := 1) rfl ?_); refine qX 1 #[.slice A0_0 l0_0.length c0_0, .int .i64 a0_1] 28 ?_; intro gb101 hg w2 hbox hb; have hx_ := qHX HB hb qa0; have BK101 := qO (hbox); have GW101 := qO ((qa9 : w.heap.size ≤ gb101)); have GE101 := GW101; replace HB := qO (below_step (below_step HB.out hx_) hb); clear hx_ hb hbox hg) | ((with_reducible refine gate_dst (N := 2) rfl ?_); refine qX 2 #[.slice none 0 0, .int .i64 0] 28 ?_; intro gb102 hg w3 hbox hb; have hx_ := qHX HB hb qa0; have BK102 := qO (hbox); have GW102 := qO ((qa9 : w.heap.size ≤ gb102)); have GE102 := GW102; have NB101_102 := qO ((qa4 : gb101 ≠ gb102)); have NB102_101 := qO (Ne.symm NB101_102.out); replace BK101 := qO (qB BK101.out hx_ hb); replace HB := qO (below_step (below_step HB.out hx_) hb); clear hx_ hb hbox hg; have hnb4 := NB101_102.out; have hnc4 := NB102_101.out; obtain ⟨hcz5_0, hcz5_1, hfz5_0, hfz5_1⟩ := qb2 BK101.out) | ((with_reducible refine gate_dst (N := 3) rfl ?_); refine qX 3 #[.slice none 0 0, .int .i64 0] 28 ?_; intro gb103 hg w6 hbox hb; have hx_ := qHX HB hb qa0; have BK103 := qO (hbox); have GW103 := qO ((qa9 : w.heap.size ≤ gb103)); have GE103 := GW103; have NB101_103 := qO ((qa4 : gb101 ≠ gb103)); have NB103_101 := qO (Ne.symm NB101_103.out); have NB102_103 := qO ((qa42 : gb102 ≠ gb103)); have NB103_102 := qO (Ne.symm NB102_103.out); replace BK101 := qO (qB BK101.out hx_ hb); replace BK102 := qO (qB BK102.out hx_ hb); replace HB := qO (below_step (below_step HB.out hx_) hb); clear hx_ hb hbox hg; have hnb7 := NB103_101.out; have hnc7 := NB101_103.out; have hnb8 := NB103_102.out; have hnc8 := NB102_103.out; obtain ⟨hcz9_0, hcz9_1, hfz9_0, hfz9_1⟩ := qb2 BK103.out; obtain ⟨hcz10_0, hcz10_1, hfz10_0, hfz10_1⟩ := qb2 BK101.out))
 go_loopg [12] k (fun kq v12 w' => ∃ (x12_1 : Int) (x104000_1 : List (List (S43))) (u104000 : Value), v12 = .int .i64 x12_1 ∧ Aside0 (impl_copyStore.l0 kq l0_0 (l0_0.length : Int) x12_1 x104000_1 a0_1 = some (r1, r2)) ∧ Aside0 (kq ≤ k) ∧ Aside0 (Kd.S (Kd.slice 43 k43) 41 w' w.heap.size (fun _ => True) u104000 x104000_1) ∧ Aside0 (w'.heap[gb101]? = some (.cells #[(.slice A0_0 l0_0.length c0_0), .int .i64 a0_1] 28 (0, 0))) ∧ Aside0 (w'.heap[gb102]? = some (.cells #[(.slice none 0 0), .int .i64 0] 28 (0, 0))) ∧ Aside0 (w'.heap[gb103]? = some (.cells #[u104000, .int .i64 a0_1] 28 (0, 0))) ∧ Aside0 (Below w.heap.size w w'))
 case atStart => exact ⟨(0), (([] : List (List (S43)))), (.slice none 0 0), qa12, H', ⟨Nat.le_refl _⟩, ⟨qa129⟩, ⟨by (with_reducible repeat (first | refine qkN ?_ _ | refine qkD ?_ | refine qkA ?_ _)); refine blk_far ?_ NB101_103.out _; (with_reducible repeat (first | refine qkN ?_ _ | refine qkD ?_ | refine qkA ?_ _)); refine blk_far ?_ NB101_103.out _; (with_reducible repeat (first | refine qkN ?_ _ | refine qkD ?_ | refine qkA ?_ _)); exact BK101.out⟩, ⟨by (with_reducible repeat (first | refine qkN ?_ _ | refine qkD ?_ | refine qkA ?_ _)); refine blk_far ?_ NB102_103.out _; (with_reducible repeat (first | refine qkN ?_ _ | refine qkD ?_ | refine qkA ?_ _)); refine blk_far ?_ NB102_103.out _; (with_reducible repeat (first | refine qkN ?_ _ | refine qkD ?_ | refine qkA ?_ _)); exact BK102.out⟩, ⟨qa56⟩, ⟨qa19⟩⟩
 case round =>
  clear H'
  try clear c1
  try clear p2
  try clear c4
  try clear c7
  try clear c8
  try clear c10
  try clear hcz10_0
  try clear hcz10_1
  try clear hcz5_0
  try clear hcz5_1
  try clear hcz9_0
  try clear hcz9_1
  try clear hfz10_0
  try clear hfz10_1
  try clear hfz5_0
  try clear hfz5_1
  try clear hfz9_0
  try clear hfz9_1
  obtain ⟨x12_1, x104000_1, u104000, rfl, HA, HK1, HO_104000, BK101, BK102, BK103, HB⟩ := hrel
  cases gk with
  | zero => exact absurd HA.out (by simp [impl_copyStore.l0])
  | succ k1 =>
   have H := HA.out; clear HA; simp only [impl_copyStore.l0] at H
   by_cases c11 : x12_1 < (l0_0.length : Int)
   ·rw [if_pos c11] at H
    have c11b0 : decide (x12_1 < (l0_0.length : Int)) = true := decide_eq_true c11; clear c11
    by_cases c12 : 0 ≤ x12_1
    ·rw [if_pos c12] at H
     have c12b0 : decide (0 ≤ x12_1) = true := decide_eq_true c12; clear c12
     by_cases c13 : x12_1 < (l0_0.length : Int)
     ·rw [if_pos c13] at H
      have c13b0 : decide (x12_1 < (l0_0.length : Int)) = true := decide_eq_true c13; clear c13; replace H := Option.bind_eq_some_iff.mp H; obtain ⟨t105, A140, H⟩ := H; replace H : (if x104000_1.length < 5864062014805 then (impl_copyStore.l0 k1 l0_0 (l0_0.length : Int) (wrap64 (x12_1 + 1)) (x104000_1 ++ [t105]) a0_1) else (none)) = some (r1, r2) := H; have A14 := qO A140; clear A140
      by_cases c15 : x104000_1.length < 5864062014805
      ·rw [if_pos c15] at H
       have LMc15 := qO c15; clear c15; obtain ⟨y108, hy108⟩ : ∃ y_ : List (List (S43)), y_ = (x104000_1 ++ [t105]) := ⟨_, rfl⟩; replace H : (impl_copyStore.l0 k1 l0_0 (l0_0.length : Int) (wrap64 (x12_1 + 1)) y108 a0_1) = some (r1, r2) := by first | (rw [hy108]; with_reducible exact H) | (have H2_ := (Option.bind_some _ _).symm.trans H; rw [hy108]; with_reducible exact H2_) | (have H2_ := (Option.bind_some _ _).symm.trans H; with_reducible exact H2_) | with_reducible exact H | (rw [hy108]; exact H) | exact H
       have Ny108 := qO hy108; clear hy108; have H' := qO H; clear H; have p104 : 0 ≤ (x12_1 : Int) := qT qa1; have q104 : x12_1 < (l0_0.length : Int) := qT qa1; obtain ⟨ad104, A104_0, c104_0, e104, hx104_0, hl104_0, hi104_0⟩ := at_L4 HR0_0.out x12_1 p104 q104
       cases e104
       replace hx104_0 := (HB.out.cell (qL w _ hx104_0)).trans hx104_0; have HR104_0 := qO hi104_0; have HC104_0 := qO hl104_0; clear hi104_0 hl104_0; replace p104 := eq_true p104; replace q104 := eq_true q104
       try go_wp2
       replace HO_104000 := qO (Kd.S_drew HO_104000.out); replace BK101 := qO (qkD BK101.out); replace BK102 := qO (qkD BK102.out); replace BK103 := qO (qkD BK103.out); replace HB := qO (qbD HB.out); refine start_ (n := 8) (S := fun w' => w'.cell? ⟨gb103, 0, none⟩ = some (u104000) ∧ w'.cell? ⟨gb103, 1, none⟩ = some (.int .i64 a0_1)) (ds := [7]) impl_copyStore.y0 qa5 rfl rfl ⟨qc0 BK103.out, qc1 BK103.out⟩ (fun hHeld => ?_); refine with_tabW impl_copyStore.tab5 impl_copyStore.bits5 (fun HT_ HW_ => ?_); generalize wr.drew = w16 at HO_104000 BK101 BK102 BK103 HB hHeld ⊢; refine qPu 0 16 impl_copyStore.y1 rfl rfl (any_of HT_.out qa5) qa8 qa2 ?_; refine qPu 2 18 impl_copyStore.y2 rfl rfl (any_of HT_.out qa5) qa8 qa2 ?_; refine qTk 1 17 impl_copyStore.y3 rfl rfl (take_ofW HT_.out HW_.out qa5) qa125 hHeld qa2 ?_; refine one_ (i := 3) (N := some 19) impl_copyStore.y4 rfl rfl (one_of HT_.out qa5) qa51 (fun K hK => ?_); refine goes_ Try.func103 qa5 rfl #[.slice A104_0 (rd_L4 l0_0 x12_1).length c104_0] (by rfl) rfl rfl qa3 ?_; (with_reducible refine (impl_Version.calls _ _ (rd_L4 l0_0 x12_1) t105 _ ?side1 ?side2 A14.out).mono ?_); (case side1 => exact qa162); (case side2 => exact HC104_0.out); rintro e w17 ⟨v106, rfl, ho0, hb⟩; have hx_ := qHX HB hb qa0; refine ⟨_, rfl, ?_⟩; have HO107 := qO (Kd.R_lower ho0 (below_size (below_step HB.out hx_))); replace HO_104000 := qO (Kd.S_elder' (by (with_reducible repeat (first | apply Kd.S_alloc | apply Kd.S_drewN | apply Kd.S_drew)); exact HO_104000.out) (Kd.R_base ho0) hb); replace BK101 := qO (qB BK101.out hx_ hb); replace BK102 := qO (qB BK102.out hx_ hb); replace BK103 := qO (qB BK103.out hx_ hb); replace HB := qO (below_step (below_step HB.out hx_) hb); clear hx_; (try clear hb); (try clear hb2); (try clear hk); (try clear hi); (try clear ho0); obtain ⟨Ao19, co19, eo19⟩ := Kd.R_slice HO107.out; (first | subst eo19 | (injection eo19 with f1_ f2_ f3_; have f4_ := f1_.symm; have f5_ := f3_.symm; clear f1_ f2_ f3_; subst f4_; subst f5_)); refine hK.out _ _ ⟨qc0 BK103.out, qc1 BK103.out⟩ (fun hHeld => ?_); clear hK K; refine norm_ (a' := ?_) ?_ ?_; rotate_left
       ·exact qa11
       refine one_ (i := 4) (N := some 20) impl_copyStore.y5 rfl rfl (one_of HT_.out qa5) qa51 (fun K hK => ?_); refine value_ (w1 := ?_) (v := ?_) (by rfl) rfl ?_ ?_; rotate_left 2
       ·go_simp
        constructor
        ·rfl
        ·rfl
       refine hK.out _ _ ⟨(blk_cell (qkA BK103.out _) 0).trans rfl, (blk_cell (qkA BK103.out _) 1).trans rfl⟩ (fun hHeld => ?_); clear hK K; refine norm_ (a' := ?_) ?_ ?_; rotate_left
       ·exact qa11
       refine one_ (i := 5) (N := some 21) impl_copyStore.y6 rfl rfl (one_of HT_.out qa5) qa51 (fun K hK => ?_); refine Kd.S_append_step (Kd.slice 43 k43) (w0 := w) w.heap.size (by rfl) (.tmp 17) (.tmp 20) 26 41 (.slice none 0 0) 24 rfl Try.underlying26 info41 rfl qa51 qa29 u104000 x104000_1 t105 [.slice Ao19 t105.length co19] (fun _ => True) (fun k_ => some k_ = (.slice Ao19 t105.length co19 : Value).ownBlock) rfl rfl ?aP (fun k_ hk_ => ((Kd.R_mono (ok' := fun k_ => ((fun _ => True)) k_ ∧ some k_ ≠ (u104000 : Value).ownBlock) (Kd.R_apart' (HO107.out) (Kd.S_typed HO_104000.out) qa51) (fun k_ hk => ⟨trivial, hk.2⟩))).1 k_ hk_.symm) ?aF ?aO ?aB ?aS ?aL ?_; (case aP => exact Kd.M_row (Kd.R_mono (Kd.R_tight rfl (Kd.R_mono (ok' := fun k_ => ((fun _ => True)) k_ ∧ some k_ ≠ (u104000 : Value).ownBlock) (Kd.R_apart' (HO107.out) (Kd.S_typed HO_104000.out) (by decide)) (fun k_ hk => ⟨trivial, hk.2⟩))) (fun _ h_ => h_))); (case aB => exact (by repeat (first | (with_reducible first | exact HB.out | apply qbA | apply qbN | apply qbD | refine qbS ?_ GE101.out | refine qbS ?_ GE102.out | refine qbS ?_ GE103.out) | exact HB.out))); (case aF => exact (fun _ _ => trivial)); (case aO => exact (by (with_reducible repeat (first | apply Kd.S_alloc | apply Kd.S_drewN | apply Kd.S_drew)); exact Kd.S_mono HO_104000.out (fun k_ hk => ⟨trivial, fun e_ => hk.2 e_⟩))); (case aS => exact (below_size (by repeat (first | (with_reducible first | exact HB.out | apply qbA | apply qbN | apply qbD | refine qbS ?_ GE101.out | refine qbS ?_ GE102.out | refine qbS ?_ GE103.out) | exact HB.out)))); (case aL => have := LMc15.out; omega); intro v109 w18 ho hb hg hat; rw [← Ny108.out] at ho; have n0_ := qO (blk_grown (g := gb101) (o := .cells #[.slice (some ad104) l0_0.length c0_0, .int .i64 a0_1] 28 (0, 0)) qa17 hg (Kd.S_ne HO_104000.out BK101.out qa51)); have n1_ := qO (blk_grown (g := gb102) (o := .cells #[.slice none 0 0, .int .i64 0] 28 (0, 0)) qa28 hg (Kd.S_ne HO_104000.out BK102.out qa51)); have n2_ := qO (blk_grown (g := gb103) (o := .cells #[u104000, .int .i64 a0_1] 28 (0, 0)) qa147 hg (Kd.S_ne HO_104000.out BK103.out qa51)); have n3_ := qO (hb); have n4_ := qO (ho); clear BK101 BK102 BK103 HB HO_104000 HO107; have BK101 := n0_; have BK102 := n1_; have BK103 := n2_; have HB := n3_; have HO110 := n4_; clear n0_ n1_ n2_ n3_ n4_ ho hb hg hat; obtain ⟨Ao20, co20, eo20⟩ := Kd.S_slice HO110.out; (first | subst eo20 | (injection eo20 with f1_ f2_ f3_; have f4_ := f1_.symm; have f5_ := f3_.symm; clear f1_ f2_ f3_; subst f4_; subst f5_)); refine hK.out _ _ ⟨qc0 BK103.out, qc1 BK103.out⟩ (fun hHeld => ?_); clear hK K; refine norm_ (a' := ?_) ?_ ?_; rotate_left
       ·exact qa11
       refine qPu 6 22 impl_copyStore.y7 rfl rfl (any_of HT_.out qa5) qa8 qa2 ?_; refine last_ (i := 7) (N := none) impl_copyStore.y8 rfl rfl (one_of HT_.out qa5) qa51 (fun K hK => ?_); have hs21 := qc0 BK103.out; have hfs21 := blk_frozen BK103.out 0; have hns21_0 := NB101_103.out; have hns21_1 := NB102_103.out; have hms21_0 := NB103_101.out; have hms21_1 := NB103_102.out; refine skip_ (w1 := ?_) (by rfl) rfl ?_ ?_; rotate_left
       ·go_simp
        rfl
       refine hK.out _ _ ?_; clear hK K; refine done_ (done_of HT_.out qa5) ?_
       try go_wp2
       go_roundg k1
       case measure => have := HK1.out; omega
       case rel => exact ⟨(wrap64 (x12_1 + 1)), (y108), (.slice Ao20 y108.length co20), qa12, H', ⟨qa103⟩, ⟨by (with_reducible repeat (first | apply Kd.S_alloc | apply Kd.S_drewN | apply Kd.S_drew)); exact Kd.S_mono (Kd.S_far (p := ⟨gb103, 0, none⟩) (Kd.S_types HO110.out BK103.out (by decide)) (fun _ hk => hk.2) (.slice Ao20 y108.length co20)) (fun _ hk => trivial)⟩, ⟨qa84⟩, ⟨qa85⟩, ⟨by (with_reducible repeat (first | refine qkN ?_ _ | refine qkD ?_ | refine qkA ?_ _)); refine blk_put (cs := #[u104000, .int .i64 a0_1]) ?_ 0 _ rfl; (with_reducible repeat (first | refine qkN ?_ _ | refine qkD ?_ | refine qkA ?_ _)); exact BK103.out⟩, ⟨qa19⟩⟩
      ·rw [if_neg c15] at H
       exact absurd H qa117
     ·rw [if_neg c13] at H
      exact absurd H qa117
    ·rw [if_neg c12] at H
     exact absurd H qa117
   ·rw [if_neg c11] at H
    have c11b0 : decide (x12_1 < (l0_0.length : Int)) = false := decide_eq_false c11; clear c11; simp only [Option.some.injEq, Prod.mk.injEq] at H; obtain ⟨rfl, rfl⟩ := H; have hnb22 := NB103_101.out; have hnc22 := NB101_103.out; have hnb23 := NB103_102.out; have hnc23 := NB102_103.out; obtain ⟨hcz24_0, hcz24_1, hfz24_0, hfz24_1⟩ := qb2 BK103.out; obtain ⟨Ao25, co25, eo25⟩ := Kd.S_slice HO_104000.out; subst eo25; have hnb26 := NB102_101.out; have hnc26 := NB101_102.out; obtain ⟨hcz27_0, hcz27_1, hfz27_0, hfz27_1⟩ := qb2 BK102.out; go_wp2; refine bodyPost_ret (results_cell_row rfl _ _ gb102 28 #[.slice Ao25 x104000_1.length co25, .int .i64 a0_1] (0, 0) _ rfl (by (with_reducible repeat (first | refine qkN ?_ _ | refine qkD ?_ | refine qkA ?_ _)); refine blk_put (cs := #[.slice Ao25 x104000_1.length co25, .int .i64 0]) ?_ 1 _ rfl; (with_reducible repeat (first | refine qkN ?_ _ | refine qkD ?_ | refine qkA ?_ _)); refine blk_put (cs := #[.slice none 0 0, .int .i64 0]) ?_ 0 _ rfl; (with_reducible repeat (first | refine qkN ?_ _ | refine qkD ?_ | refine qkA ?_ _)); exact BK102.out) Try.underlying28 rfl qa5) rfl ?_
    exact ⟨_, qa7, by (with_reducible repeat (first | apply Kd.S_alloc | apply Kd.S_drewN | apply Kd.S_drew)); exact Kd.S_mono (Kd.S_far (p := ⟨gb102, 1, none⟩) (Kd.S_far (p := ⟨gb102, 0, none⟩) (Kd.S_types HO_104000.out BK102.out (by decide)) (fun _ hk => hk.2) (.slice Ao25 x104000_1.length co25)) (fun _ hk => hk.2) (.int .i64 a0_1)) (fun _ hk => trivial), qa19⟩


def impl_Store_writeAll.l0 : Nat → List (S58) → Int → Int → List (List (S43)) → Int → Option ((List (List (S43))) × Int × Int × Int)
 | 0, _, _, _, _, _ => none
 | k + 1, x30, x31, x32, x108000, x108001 => if x32 < x31 then (if 0 ≤ x32 then (if x32 < (x30.length : Int) then (if 0 ≤ ((rd_T58 x30 x32).f0) then (if ((rd_T58 x30 x32).f0) < (x108000.length : Int) then (if (wrap64 (((rd_L4 x108000 ((rd_T58 x30 x32).f0)).length : Int) - 1)) ≥ 0 then (if 0 ≤ (wrap64 (((rd_L4 x108000 ((rd_T58 x30 x32).f0)).length : Int) - 1)) then (if (wrap64 (((rd_L4 x108000 ((rd_T58 x30 x32).f0)).length : Int) - 1)) < ((rd_L4 x108000 ((rd_T58 x30 x32).f0)).length : Int) then (if ((rd_T43 (rd_L4 x108000 ((rd_T58 x30 x32).f0)) (wrap64 (((rd_L4 x108000 ((rd_T58 x30 x32).f0)).length : Int) - 1))).f0) = x108001 then (if (wrap64 (((rd_L4 x108000 ((rd_T58 x30 x32).f0)).length : Int) - 1)) ≤ ((rd_L4 x108000 ((rd_T58 x30 x32).f0)).length : Int) then (if (rd_L4 x108000 ((rd_T58 x30 x32).f0)).length < 8796093022208 then (impl_Store_writeAll.l0 k x30 x31 (wrap64 (x32 + 1)) (x108000.set (((rd_T58 x30 x32).f0) : Int).toNat (((rd_L4 x108000 ((rd_T58 x30 x32).f0)).take ((wrap64 (((rd_L4 x108000 ((rd_T58 x30 x32).f0)).length : Int) - 1)) : Int).toNat) ++ [(⟨x108001, (rd_T58 x30 x32).f1⟩ : S43)])) x108001) else (none)) else (none)) else (if (rd_L4 x108000 ((rd_T58 x30 x32).f0)).length < 8796093022208 then (impl_Store_writeAll.l0 k x30 x31 (wrap64 (x32 + 1)) (x108000.set (((rd_T58 x30 x32).f0) : Int).toNat ((rd_L4 x108000 ((rd_T58 x30 x32).f0)) ++ [(⟨x108001, (rd_T58 x30 x32).f1⟩ : S43)])) x108001) else (none))) else (none)) else (none)) else (if (rd_L4 x108000 ((rd_T58 x30 x32).f0)).length < 8796093022208 then (impl_Store_writeAll.l0 k x30 x31 (wrap64 (x32 + 1)) (x108000.set (((rd_T58 x30 x32).f0) : Int).toNat ((rd_L4 x108000 ((rd_T58 x30 x32).f0)) ++ [(⟨x108001, (rd_T58 x30 x32).f1⟩ : S43)])) x108001) else (none))) else (none)) else (none)) else (none)) else (none)) else (some (x108000, x108001, x108001, 0))
def impl_Store_writeAll.f (k : Nat) (l0_0 : List (List (S43))) (a0_1 : Int) (l1 : List (S58)) : Option ((List (List (S43))) × Int × Int × Int) := (impl_copyStore.f k l0_0 a0_1).bind fun bt103 => (if a0_1 = 100000 then (some (bt103.1, bt103.2, 0, 7)) else (if (l1.length : Int) = 0 then (some (bt103.1, bt103.2, bt103.2, 0)) else (impl_Store_writeAll.l0 k l1 (l1.length : Int) 0 bt103.1 (wrap64 (bt103.2 + 1)))))
def impl_Store_writeAll.T12 : Bool × List (List Nat × List Nat) := (true, [([], []), ([0], [0]), ([1], [1]), ([2], [2]), ([2], [2]), ([3, 4, 2], [2, 3, 4]), ([5, 2], [2, 5]), ([6, 2], [2, 6]), ([2], [2]), ([8, 2], [2, 8]), ([7, 9, 2], [2, 7, 9]), ([2, 10], [2, 10])])
def impl_Store_writeAll.B12 : List Nat := [0, 1, 3, 7, 7, 31, 63, 127, 7, 263, 1023, 2047]
theorem impl_Store_writeAll.tab12 : rtab .any (opsOf Try.f76 12) = impl_Store_writeAll.T12 := by kernel_rfl
theorem impl_Store_writeAll.bits12 : waitsOk impl_Store_writeAll.T12.2 impl_Store_writeAll.B12 = true := by kernel_rfl
def impl_Store_writeAll.y0 := #[qf,qf,qf,qf,qf,qf]
def impl_Store_writeAll.y1 := #[qf,qt,qf,qf,qf,qf]
def impl_Store_writeAll.y2 := #[qt,qt,qf,qf,qf,qf]
def impl_Store_writeAll.y3 := #[qt,qt,qt,qf,qf,qf]
def impl_Store_writeAll.y4 := #[qt,qt,qt,qt,qf,qf]
def impl_Store_writeAll.y5 := #[qt,qt,qt,qt,qt,qf]
def impl_Store_writeAll.y6 := #[qt,qt,qt,qt,qt,qt]
def impl_Store_writeAll.y7 := #[qf,qf,qf,qf,qf,qf,qf,qf,qf,qf,qf,qf]
def impl_Store_writeAll.y8 := #[qt,qf,qf,qf,qf,qf,qf,qf,qf,qf,qf,qf]
def impl_Store_writeAll.y9 := #[qt,qt,qf,qf,qf,qf,qf,qf,qf,qf,qf,qf]
def impl_Store_writeAll.y10 := #[qt,qt,qt,qf,qf,qf,qf,qf,qf,qf,qf,qf]
def impl_Store_writeAll.y11 := #[qt,qt,qt,qt,qf,qf,qf,qf,qf,qf,qf,qf]
def impl_Store_writeAll.y12 := #[qt,qt,qt,qt,qt,qf,qf,qf,qf,qf,qf,qf]
def impl_Store_writeAll.y13 := #[qt,qt,qt,qt,qt,qt,qf,qf,qf,qf,qf,qf]
def impl_Store_writeAll.y14 := #[qt,qt,qt,qt,qt,qt,qt,qf,qf,qf,qf,qf]
def impl_Store_writeAll.y15 := #[qt,qt,qt,qt,qt,qt,qt,qf,qt,qf,qf,qf]
def impl_Store_writeAll.y16 := #[qt,qt,qt,qt,qt,qt,qt,qt,qt,qf,qf,qf]
def impl_Store_writeAll.y17 := #[qt,qt,qt,qt,qt,qt,qt,qt,qt,qt,qf,qf]
def impl_Store_writeAll.y18 := #[qt,qt,qt,qt,qt,qt,qt,qt,qt,qt,qt,qf]
def impl_Store_writeAll.y19 := #[qt,qt,qt,qt,qt,qt,qt,qt,qt,qt,qt,qt]
def impl_Store_writeAll.y20 := #[qt,qt,qt,qt,qt,qt,qt,qt,qf,qf,qf,qf]
def impl_Store_writeAll.T14 : Bool × List (List Nat × List Nat) := (true, [([], []), ([0], [0]), ([], []), ([2], [2]), ([], []), ([], []), ([5], [5]), ([], []), ([7], [7]), ([6, 8], [6, 8]), ([9], [9]), ([4, 10], [4, 10]), ([1, 3, 0, 1, 2, 3, 4, 5, 6, 7, 8, 9, 10, 11], [1, 3]), ([12, 11, 11, 0, 1, 2, 3, 4, 5, 6, 7, 8, 9, 10, 11], [11, 12])])
def impl_Store_writeAll.B14 : List Nat := [0, 1, 0, 4, 0, 0, 32, 0, 128, 480, 992, 2032, 4095, 8191]
theorem impl_Store_writeAll.tab14 : rtab .any (opsOf Try.f76 14) = impl_Store_writeAll.T14 := by kernel_rfl
theorem impl_Store_writeAll.bits14 : waitsOk impl_Store_writeAll.T14.2 impl_Store_writeAll.B14 = true := by kernel_rfl
set_option maxHeartbeats 8000000 in
set_option maxRecDepth 100000 in
theorem impl_Store_writeAll.calls (k : Nat) (A0_0 : Option Addr) (c0_0 : Nat) (l0_0 : List (List (S43))) (a0_1 : Int) (A1 : Option Addr) (c1 : Nat) (l1 : List (S58)) (r1 : List (List (S43))) (r2 : Int) (r3 : Int) (r4 : Int) (w : World) (hr0_0 : Kd.C (Kd.slice 43 k43) w A0_0 l0_0.length l0_0) (hc0_0 : l0_0.length ≤ c0_0) (hr1 : Kd.C k58 w A1 l1.length l1) (hc1 : l1.length ≤ c1) (h : impl_Store_writeAll.f k l0_0 a0_1 l1 = some (r1, r2, r3, r4)) :
  Calls Try.prog 76 #[.agg #[.slice A0_0 l0_0.length c0_0, .int .i64 a0_1], .slice A1 l1.length c1] w fun e w' => ∃ v0_ : Value, e = .returned (.tuple #[.agg #[v0_, .int .i64 r2], .int .i64 r3, .int .i64 r4]) ∧ Kd.S (Kd.slice 43 k43) 41 w' w.heap.size (fun _ => True) v0_ r1 ∧ Below w.heap.size w w' := by
 have hu28 := Try.underlying28; have hu58 := Try.underlying58; have hu43 := Try.underlying43; have HR0_0 := qO hr0_0; have HC0_0 := qO hc0_0; clear hr0_0 hc0_0; have HR1 := qO hr1; have HC1 := qO hc1; clear hr1 hc1; have HB := qO (Below.refl w.heap.size w); have H : ((impl_copyStore.f k l0_0 a0_1).bind fun bt103 => (if a0_1 = 100000 then (some (bt103.1, bt103.2, 0, 7)) else (if (l1.length : Int) = 0 then (some (bt103.1, bt103.2, bt103.2, 0)) else (impl_Store_writeAll.l0 k l1 (l1.length : Int) 0 bt103.1 (wrap64 (bt103.2 + 1)))))) = some (r1, r2, r3, r4) := h; clear h; replace H := Option.bind_eq_some_iff.mp H; obtain ⟨⟨t103, t106⟩, A30, H⟩ := H; replace H : (if a0_1 = 100000 then (some (t103, t106, 0, 7)) else (if (l1.length : Int) = 0 then (some (t103, t106, t106, 0)) else (impl_Store_writeAll.l0 k l1 (l1.length : Int) 0 t103 (wrap64 (t106 + 1))))) = some (r1, r2, r3, r4) := H; have A3 := qO A30; clear A30
 by_cases c4 : a0_1 = 100000
 ·rw [if_pos c4] at H
  have c4b0 : (a0_1 == 100000) = true := beq_iff_eq.mpr c4; have c4b1 : (a0_1 != 100000) = false := bne_eq_false_iff_eq.mpr c4; clear c4; simp only [Option.some.injEq, Prod.mk.injEq] at H; obtain ⟨rfl, rfl, rfl, rfl⟩ := H
  go_enter Try.func76, Try.ntmps76
  go_wp2_with (first | ((with_reducible refine gate_dst (N := 2) rfl ?_); refine qX 2 #[.slice A0_0 l0_0.length c0_0, .int .i64 a0_1] 28 ?_; intro gb101 hg w5 hbox hb; have hx_ := qHX HB hb qa0; have BK101 := qO (hbox); have GW101 := qO ((qa9 : w.heap.size ≤ gb101)); have GE101 := GW101; replace HB := qO (below_step (below_step HB.out hx_) hb); clear hx_ hb hbox hg) | ((with_reducible refine gate_dst (N := 4) rfl ?_); refine qX 4 #[.slice none 0 0, .int .i64 0] 28 ?_; intro gb102 hg w6 hbox hb; have hx_ := qHX HB hb qa0; have BK102 := qO (hbox); have GW102 := qO ((qa9 : w.heap.size ≤ gb102)); have GE102 := GW102; have NB101_102 := qO ((qa4 : gb101 ≠ gb102)); have NB102_101 := qO (Ne.symm NB101_102.out); replace BK101 := qO (qB BK101.out hx_ hb); replace HB := qO (below_step (below_step HB.out hx_) hb); clear hx_ hb hbox hg; have hnb7 := NB101_102.out; have hnc7 := NB102_101.out; obtain ⟨hcz8_0, hcz8_1, hfz8_0, hfz8_1⟩ := qb2 BK101.out) | ((with_reducible refine gate_callee (f := 102) rfl ?_); refine goesL_ (some 13) rfl rfl Try.func102 qa5 rfl #[.agg #[.slice A0_0 l0_0.length c0_0, .int .i64 a0_1]] rfl qa3 ?_; (with_reducible refine (impl_copyStore.calls k _ _ l0_0 a0_1 t103 t106 _ ?side1 ?side2 A3.out).mono ?_); (case side1 => exact qa18); (case side2 => exact HC0_0.out); rintro e w9 ⟨v104, rfl, ho0, hb⟩; have hx_ := qHX HB hb qa0; refine ⟨_, rfl, ?_⟩; have HO105 := qO (Kd.S_lower ho0 (below_size (below_step HB.out hx_))); replace BK101 := qO (qB BK101.out hx_ hb); replace BK102 := qO (qB BK102.out hx_ hb); replace HB := qO (below_step (below_step HB.out hx_) hb); clear hx_; (try clear hb); (try clear hb2); (try clear hk); (try clear hi); (try clear ho0)) | ((with_reducible refine gate_dst (N := 7) rfl ?_); refine qX 7 #[.slice none 0 0, .int .i64 0] 28 ?_; intro gb107 hg w10 hbox hb; have hx_ := qHX HB hb qa0; have BK107 := qO (hbox); have GW107 := qO ((qa9 : w.heap.size ≤ gb107)); have GE107 := GW107; have NB101_107 := qO ((qa4 : gb101 ≠ gb107)); have NB107_101 := qO (Ne.symm NB101_107.out); have NB102_107 := qO ((qa42 : gb102 ≠ gb107)); have NB107_102 := qO (Ne.symm NB102_107.out); replace HO105 := qO (Kd.S_below qa127 hb); replace BK101 := qO (qB BK101.out hx_ hb); replace BK102 := qO (qB BK102.out hx_ hb); replace HB := qO (below_step (below_step HB.out hx_) hb); clear hx_ hb hbox hg; obtain ⟨Ao11, co11, eo11⟩ := Kd.S_slice HO105.out; subst eo11; have hnb12 := NB107_101.out; have hnc12 := NB101_107.out; have hnb13 := NB107_102.out; have hnc13 := NB102_107.out; obtain ⟨hcz14_0, hcz14_1, hfz14_0, hfz14_1⟩ := qb2 BK107.out; obtain ⟨hcz15_0, hcz15_1, hfz15_0, hfz15_1⟩ := qb2 BK101.out; obtain ⟨hcz16_0, hcz16_1, hfz16_0, hfz16_1⟩ := qb2 BK102.out))
  refine bodyPost_ret (results_ctt rfl _ _ gb102 28 #[.slice Ao11 t103.length co11, .int .i64 t106] (0, 0) _ rfl (by (with_reducible repeat (first | refine qkN ?_ _ | refine qkD ?_ | refine qkA ?_ _)); refine blk_put (cs := #[.slice Ao11 t103.length co11, .int .i64 0]) ?_ 1 _ rfl; (with_reducible repeat (first | refine qkN ?_ _ | refine qkD ?_ | refine qkA ?_ _)); refine blk_put (cs := #[.slice none 0 0, .int .i64 0]) ?_ 0 _ rfl; (with_reducible repeat (first | refine qkN ?_ _ | refine qkD ?_ | refine qkA ?_ _)); refine blk_far ?_ NB102_107.out _; (with_reducible repeat (first | refine qkN ?_ _ | refine qkD ?_ | refine qkA ?_ _)); refine blk_far ?_ NB102_107.out _; (with_reducible repeat (first | refine qkN ?_ _ | refine qkD ?_ | refine qkA ?_ _)); exact BK102.out) Try.underlying28 rfl qa5) rfl ?_
  exact ⟨_, qa7, by (with_reducible repeat (first | apply Kd.S_alloc | apply Kd.S_drewN | apply Kd.S_drew)); exact Kd.S_mono (Kd.S_far (p := ⟨gb102, 1, none⟩) (Kd.S_far (p := ⟨gb102, 0, none⟩) (Kd.S_far (p := ⟨gb107, 1, none⟩) (Kd.S_far (p := ⟨gb107, 0, none⟩) (Kd.S_types (Kd.S_types HO105.out BK107.out (by decide)) BK102.out (by decide)) (fun _ hk => hk.1.2) (.slice Ao11 t103.length co11)) (fun _ hk => hk.1.2) (.int .i64 t106)) (fun _ hk => hk.2) (.slice Ao11 t103.length co11)) (fun _ hk => hk.2) (.int .i64 t106)) (fun _ hk => trivial), qa74⟩
 ·rw [if_neg c4] at H
  have c4b0 : (a0_1 == 100000) = false := beq_eq_false_iff_ne.mpr c4; have c4b1 : (a0_1 != 100000) = true := bne_iff_ne.mpr c4
  by_cases c17 : (l1.length : Int) = 0
  ·rw [if_pos c17] at H
   have c17b0 : ((l1.length : Int) == 0) = true := beq_iff_eq.mpr c17; have c17b1 : ((l1.length : Int) != 0) = false := bne_eq_false_iff_eq.mpr c17; clear c17; simp only [Option.some.injEq, Prod.mk.injEq] at H; obtain ⟨rfl, rfl, rfl, rfl⟩ := H
   go_enter Try.func76, Try.ntmps76
   try go_wp2_with (first | ((with_reducible refine gate_dst (N := 2) rfl ?_); refine qX 2 #[.slice A0_0 l0_0.length c0_0, .int .i64 a0_1] 28 ?_; intro gb101 hg w18 hbox hb; have hx_ := qHX HB hb qa0; have BK101 := qO (hbox); have GW101 := qO ((qa9 : w.heap.size ≤ gb101)); have GE101 := GW101; replace HB := qO (below_step (below_step HB.out hx_) hb); clear hx_ hb hbox hg) | ((with_reducible refine gate_dst (N := 4) rfl ?_); refine qX 4 #[.slice none 0 0, .int .i64 0] 28 ?_; intro gb102 hg w19 hbox hb; have hx_ := qHX HB hb qa0; have BK102 := qO (hbox); have GW102 := qO ((qa9 : w.heap.size ≤ gb102)); have GE102 := GW102; have NB101_102 := qO ((qa4 : gb101 ≠ gb102)); have NB102_101 := qO (Ne.symm NB101_102.out); replace BK101 := qO (qB BK101.out hx_ hb); replace HB := qO (below_step (below_step HB.out hx_) hb); clear hx_ hb hbox hg; have hnb20 := NB101_102.out; have hnc20 := NB102_101.out; obtain ⟨hcz21_0, hcz21_1, hfz21_0, hfz21_1⟩ := qb2 BK101.out) | ((with_reducible refine gate_callee (f := 102) rfl ?_); refine goesL_ (some 13) rfl rfl Try.func102 qa5 rfl #[.agg #[.slice A0_0 l0_0.length c0_0, .int .i64 a0_1]] rfl qa3 ?_; (with_reducible refine (impl_copyStore.calls k _ _ l0_0 a0_1 t103 t106 _ ?side1 ?side2 A3.out).mono ?_); (case side1 => exact qa18); (case side2 => exact HC0_0.out); rintro e w22 ⟨v104, rfl, ho0, hb⟩; have hx_ := qHX HB hb qa0; refine ⟨_, rfl, ?_⟩; have HO105 := qO (Kd.S_lower ho0 (below_size (below_step HB.out hx_))); replace BK101 := qO (qB BK101.out hx_ hb); replace BK102 := qO (qB BK102.out hx_ hb); replace HB := qO (below_step (below_step HB.out hx_) hb); clear hx_; (try clear hb); (try clear hb2); (try clear hk); (try clear hi); (try clear ho0)) | ((with_reducible refine gate_dst (N := 7) rfl ?_); refine qX 7 #[.slice none 0 0, .int .i64 0] 28 ?_; intro gb107 hg w23 hbox hb; have hx_ := qHX HB hb qa0; have BK107 := qO (hbox); have GW107 := qO ((qa9 : w.heap.size ≤ gb107)); have GE107 := GW107; have NB101_107 := qO ((qa4 : gb101 ≠ gb107)); have NB107_101 := qO (Ne.symm NB101_107.out); have NB102_107 := qO ((qa42 : gb102 ≠ gb107)); have NB107_102 := qO (Ne.symm NB102_107.out); replace HO105 := qO (Kd.S_below qa127 hb); replace BK101 := qO (qB BK101.out hx_ hb); replace BK102 := qO (qB BK102.out hx_ hb); replace HB := qO (below_step (below_step HB.out hx_) hb); clear hx_ hb hbox hg; obtain ⟨Ao24, co24, eo24⟩ := Kd.S_slice HO105.out; subst eo24; have hnb25 := NB107_101.out; have hnc25 := NB101_107.out; have hnb26 := NB107_102.out; have hnc26 := NB102_107.out; obtain ⟨hcz27_0, hcz27_1, hfz27_0, hfz27_1⟩ := qb2 BK107.out; obtain ⟨hcz28_0, hcz28_1, hfz28_0, hfz28_1⟩ := qb2 BK101.out))
   have n0_ : Aside0 (Kd.S (Kd.slice 43 k43) 41 ((w23.setCell ⟨gb107, 0, none⟩ (.slice Ao24 t103.length co24)).setCell ⟨gb107, 1, none⟩ (.int .i64 t106)) w.heap.size (fun _ => True) (.slice Ao24 t103.length co24) t103) := ⟨by (with_reducible repeat (first | apply Kd.S_alloc | apply Kd.S_drewN | apply Kd.S_drew)); exact Kd.S_mono (Kd.S_far (p := ⟨gb107, 1, none⟩) (Kd.S_far (p := ⟨gb107, 0, none⟩) (Kd.S_types HO105.out BK107.out (by decide)) (fun _ hk => hk.2) (.slice Ao24 t103.length co24)) (fun _ hk => hk.2) (.int .i64 t106)) (fun _ hk => trivial)⟩; have n1_ : Aside0 (((w23.setCell ⟨gb107, 0, none⟩ (.slice Ao24 t103.length co24)).setCell ⟨gb107, 1, none⟩ (.int .i64 t106)).heap[gb101]? = some (.cells #[.slice A0_0 l0_0.length c0_0, .int .i64 a0_1] 28 (0, 0))) := ⟨by (with_reducible repeat (first | refine qkN ?_ _ | refine qkD ?_ | refine qkA ?_ _)); refine blk_far ?_ NB101_107.out _; (with_reducible repeat (first | refine qkN ?_ _ | refine qkD ?_ | refine qkA ?_ _)); refine blk_far ?_ NB101_107.out _; (with_reducible repeat (first | refine qkN ?_ _ | refine qkD ?_ | refine qkA ?_ _)); exact BK101.out⟩; have n2_ : Aside0 (((w23.setCell ⟨gb107, 0, none⟩ (.slice Ao24 t103.length co24)).setCell ⟨gb107, 1, none⟩ (.int .i64 t106)).heap[gb102]? = some (.cells #[.slice none 0 0, .int .i64 0] 28 (0, 0))) := ⟨by (with_reducible repeat (first | refine qkN ?_ _ | refine qkD ?_ | refine qkA ?_ _)); refine blk_far ?_ NB102_107.out _; (with_reducible repeat (first | refine qkN ?_ _ | refine qkD ?_ | refine qkA ?_ _)); refine blk_far ?_ NB102_107.out _; (with_reducible repeat (first | refine qkN ?_ _ | refine qkD ?_ | refine qkA ?_ _)); exact BK102.out⟩; have n3_ : Aside0 (((w23.setCell ⟨gb107, 0, none⟩ (.slice Ao24 t103.length co24)).setCell ⟨gb107, 1, none⟩ (.int .i64 t106)).heap[gb107]? = some (.cells #[.slice Ao24 t103.length co24, .int .i64 t106] 28 (0, 0))) := ⟨by (with_reducible repeat (first | refine qkN ?_ _ | refine qkD ?_ | refine qkA ?_ _)); refine blk_put (cs := #[.slice Ao24 t103.length co24, .int .i64 0]) ?_ 1 _ rfl; (with_reducible repeat (first | refine qkN ?_ _ | refine qkD ?_ | refine qkA ?_ _)); refine blk_put (cs := #[.slice none 0 0, .int .i64 0]) ?_ 0 _ rfl; (with_reducible repeat (first | refine qkN ?_ _ | refine qkD ?_ | refine qkA ?_ _)); exact BK107.out⟩; have n4_ : Aside0 (Below w.heap.size w ((w23.setCell ⟨gb107, 0, none⟩ (.slice Ao24 t103.length co24)).setCell ⟨gb107, 1, none⟩ (.int .i64 t106))) := ⟨qa74⟩; (try clear HO105); (try clear BK101); (try clear BK102); (try clear BK107); (try clear HB); generalize ((w23.setCell ⟨gb107, 0, none⟩ (.slice Ao24 t103.length co24)).setCell ⟨gb107, 1, none⟩ (.int .i64 t106)) = w29 at n0_ n1_ n2_ n3_ n4_ ⊢; have HO105 := n0_; have BK101 := n1_; have BK102 := n2_; have BK107 := n3_; have HB := n4_; clear n0_ n1_ n2_ n3_ n4_; replace HO105 := qO (Kd.S_drew HO105.out); replace BK101 := qO (qkD BK101.out); replace BK102 := qO (qkD BK102.out); replace BK107 := qO (qkD BK107.out); replace HB := qO (qbD HB.out); refine start_ (n := 6) (S := fun w' => w'.cell? ⟨gb107, 0, none⟩ = some (.slice Ao24 t103.length co24) ∧ w'.cell? ⟨gb107, 1, none⟩ = some (.int .i64 t106)) (ds := []) impl_Store_writeAll.y0 qa5 rfl rfl ⟨qc0 BK107.out, qc1 BK107.out⟩ (fun hHeld => ?_); generalize w29.drew = w30 at HO105 BK101 BK102 BK107 HB hHeld ⊢; refine qPu 1 24 impl_Store_writeAll.y1 rfl rfl qa5 qa8 qa2 ?_; refine qTk 0 23 impl_Store_writeAll.y2 rfl rfl qa5 qa125 hHeld qa2 ?_; refine qTk 2 25 impl_Store_writeAll.y3 rfl rfl qa5 qa125 hHeld qa2 ?_; refine one_ (i := 3) (N := none) impl_Store_writeAll.y4 rfl rfl qa5 qa51 (fun K hK => ?_); have hs31 := qc0 BK102.out; have hfs31 := blk_frozen BK102.out 0; have hns31_0 := NB101_102.out; have hns31_2 := NB107_102.out; have hms31_0 := NB102_101.out; have hms31_2 := NB102_107.out; have hs32 := qc1 BK102.out; have hfs32 := blk_frozen BK102.out 1; have hns32_0 := NB101_102.out; have hns32_2 := NB107_102.out; have hms32_0 := NB102_101.out; have hms32_2 := NB102_107.out; refine skip_ (w1 := ?_) (by rfl) rfl ?_ ?_; rotate_left
   ·go_simp
    rfl
   refine hK.out _ _ ⟨((cell_far (p := ⟨gb102, _, none⟩) NB107_102.out _).trans (((cell_far (p := ⟨gb102, _, none⟩) NB107_102.out _).trans (hHeld.1)))), ((cell_far (p := ⟨gb102, _, none⟩) NB107_102.out _).trans (((cell_far (p := ⟨gb102, _, none⟩) NB107_102.out _).trans (hHeld.2))))⟩ (fun hHeld => ?_); clear hK K; refine qPu 4 5 impl_Store_writeAll.y5 rfl rfl qa5 qa8 qa2 ?_; refine qPu 5 6 impl_Store_writeAll.y6 rfl rfl qa5 qa8 qa2 ?_; refine done_ qa5 ?_
   try go_wp2
   refine bodyPost_ret (results_ctt rfl _ _ gb102 28 #[.slice Ao24 t103.length co24, .int .i64 t106] (0, 0) _ rfl (by (with_reducible repeat (first | refine qkN ?_ _ | refine qkD ?_ | refine qkA ?_ _)); refine blk_put (cs := #[.slice Ao24 t103.length co24, .int .i64 0]) ?_ 1 _ rfl; (with_reducible repeat (first | refine qkN ?_ _ | refine qkD ?_ | refine qkA ?_ _)); refine blk_put (cs := #[.slice none 0 0, .int .i64 0]) ?_ 0 _ rfl; (with_reducible repeat (first | refine qkN ?_ _ | refine qkD ?_ | refine qkA ?_ _)); exact BK102.out) Try.underlying28 rfl qa5) rfl ?_
   exact ⟨_, qa7, by (with_reducible repeat (first | apply Kd.S_alloc | apply Kd.S_drewN | apply Kd.S_drew)); exact Kd.S_mono (Kd.S_far (p := ⟨gb102, 1, none⟩) (Kd.S_far (p := ⟨gb102, 0, none⟩) (Kd.S_types HO105.out BK102.out (by decide)) (fun _ hk => hk.2) (.slice Ao24 t103.length co24)) (fun _ hk => hk.2) (.int .i64 t106)) (fun _ hk => trivial), qa74⟩
  ·rw [if_neg c17] at H
   have c17b0 : ((l1.length : Int) == 0) = false := beq_eq_false_iff_ne.mpr c17; have c17b1 : ((l1.length : Int) != 0) = true := bne_iff_ne.mpr c17; have c17b2 : ¬ (l1 = []) := fun h_ => c17 (by rw [h_]; rfl)
   have H' := qO H; clear H
   go_enter Try.func76, Try.ntmps76
   go_wp2_with (first | ((with_reducible refine gate_dst (N := 2) rfl ?_); refine qX 2 #[.slice A0_0 l0_0.length c0_0, .int .i64 a0_1] 28 ?_; intro gb101 hg w33 hbox hb; have hx_ := qHX HB hb qa0; have BK101 := qO (hbox); have GW101 := qO ((qa9 : w.heap.size ≤ gb101)); have GE101 := GW101; replace HB := qO (below_step (below_step HB.out hx_) hb); clear hx_ hb hbox hg) | ((with_reducible refine gate_dst (N := 4) rfl ?_); refine qX 4 #[.slice none 0 0, .int .i64 0] 28 ?_; intro gb102 hg w34 hbox hb; have hx_ := qHX HB hb qa0; have BK102 := qO (hbox); have GW102 := qO ((qa9 : w.heap.size ≤ gb102)); have GE102 := GW102; have NB101_102 := qO ((qa4 : gb101 ≠ gb102)); have NB102_101 := qO (Ne.symm NB101_102.out); replace BK101 := qO (qB BK101.out hx_ hb); replace HB := qO (below_step (below_step HB.out hx_) hb); clear hx_ hb hbox hg; have hnb35 := NB101_102.out; have hnc35 := NB102_101.out; obtain ⟨hcz36_0, hcz36_1, hfz36_0, hfz36_1⟩ := qb2 BK101.out) | ((with_reducible refine gate_callee (f := 102) rfl ?_); refine goesL_ (some 13) rfl rfl Try.func102 qa5 rfl #[.agg #[.slice A0_0 l0_0.length c0_0, .int .i64 a0_1]] rfl qa3 ?_; (with_reducible refine (impl_copyStore.calls k _ _ l0_0 a0_1 t103 t106 _ ?side1 ?side2 A3.out).mono ?_); (case side1 => exact qa18); (case side2 => exact HC0_0.out); rintro e w37 ⟨v104, rfl, ho0, hb⟩; have hx_ := qHX HB hb qa0; refine ⟨_, rfl, ?_⟩; have HO105 := qO (Kd.S_lower ho0 (below_size (below_step HB.out hx_))); replace BK101 := qO (qB BK101.out hx_ hb); replace BK102 := qO (qB BK102.out hx_ hb); replace HB := qO (below_step (below_step HB.out hx_) hb); clear hx_; (try clear hb); (try clear hb2); (try clear hk); (try clear hi); (try clear ho0)) | ((with_reducible refine gate_dst (N := 7) rfl ?_); refine qX 7 #[.slice none 0 0, .int .i64 0] 28 ?_; intro gb107 hg w38 hbox hb; have hx_ := qHX HB hb qa0; have BK107 := qO (hbox); have GW107 := qO ((qa9 : w.heap.size ≤ gb107)); have GE107 := GW107; have NB101_107 := qO ((qa4 : gb101 ≠ gb107)); have NB107_101 := qO (Ne.symm NB101_107.out); have NB102_107 := qO ((qa42 : gb102 ≠ gb107)); have NB107_102 := qO (Ne.symm NB102_107.out); replace HO105 := qO (Kd.S_below qa127 hb); replace BK101 := qO (qB BK101.out hx_ hb); replace BK102 := qO (qB BK102.out hx_ hb); replace HB := qO (below_step (below_step HB.out hx_) hb); clear hx_ hb hbox hg; obtain ⟨Ao39, co39, eo39⟩ := Kd.S_slice HO105.out; subst eo39; have hnb40 := NB107_101.out; have hnc40 := NB101_107.out; have hnb41 := NB107_102.out; have hnc41 := NB102_107.out; obtain ⟨hcz42_0, hcz42_1, hfz42_0, hfz42_1⟩ := qb2 BK107.out; obtain ⟨hcz43_0, hcz43_1, hfz43_0, hfz43_1⟩ := qb2 BK101.out))
   go_loopg [32] k (fun kq v32 w' => ∃ (x32_1 : Int) (x108000_1 : List (List (S43))) (u108000 : Value), v32 = .int .i64 x32_1 ∧ Aside0 (impl_Store_writeAll.l0 kq l1 (l1.length : Int) x32_1 x108000_1 (wrap64 (t106 + 1)) = some (r1, r2, r3, r4)) ∧ Aside0 (kq ≤ k) ∧ Aside0 (Kd.S (Kd.slice 43 k43) 41 w' w.heap.size (fun _ => True) u108000 x108000_1) ∧ Aside0 (w'.heap[gb101]? = some (.cells #[(.slice A0_0 l0_0.length c0_0), .int .i64 a0_1] 28 (0, 0))) ∧ Aside0 (w'.heap[gb102]? = some (.cells #[(.slice none 0 0), .int .i64 0] 28 (0, 0))) ∧ Aside0 (w'.heap[gb107]? = some (.cells #[u108000, .int .i64 (wrap64 (t106 + 1))] 28 (0, 0))) ∧ Aside0 (Below w.heap.size w w'))
   case atStart => exact ⟨(0), (t103), (.slice Ao39 t103.length co39), qa12, H', ⟨Nat.le_refl _⟩, ⟨by (with_reducible repeat (first | apply Kd.S_alloc | apply Kd.S_drewN | apply Kd.S_drew)); exact Kd.S_mono (Kd.S_far (p := ⟨gb107, 1, none⟩) (Kd.S_far (p := ⟨gb107, 1, none⟩) (Kd.S_far (p := ⟨gb107, 0, none⟩) (Kd.S_types HO105.out BK107.out (by decide)) (fun _ hk => hk.2) (.slice Ao39 t103.length co39)) (fun _ hk => hk.2) (.int .i64 t106)) (fun _ hk => hk.2) (.int .i64 (wrap64 (t106 + 1)))) (fun _ hk => trivial)⟩, ⟨by (with_reducible repeat (first | refine qkN ?_ _ | refine qkD ?_ | refine qkA ?_ _)); refine blk_far ?_ NB101_107.out _; (with_reducible repeat (first | refine qkN ?_ _ | refine qkD ?_ | refine qkA ?_ _)); refine blk_far ?_ NB101_107.out _; (with_reducible repeat (first | refine qkN ?_ _ | refine qkD ?_ | refine qkA ?_ _)); refine blk_far ?_ NB101_107.out _; (with_reducible repeat (first | refine qkN ?_ _ | refine qkD ?_ | refine qkA ?_ _)); exact BK101.out⟩, ⟨by (with_reducible repeat (first | refine qkN ?_ _ | refine qkD ?_ | refine qkA ?_ _)); refine blk_far ?_ NB102_107.out _; (with_reducible repeat (first | refine qkN ?_ _ | refine qkD ?_ | refine qkA ?_ _)); refine blk_far ?_ NB102_107.out _; (with_reducible repeat (first | refine qkN ?_ _ | refine qkD ?_ | refine qkA ?_ _)); refine blk_far ?_ NB102_107.out _; (with_reducible repeat (first | refine qkN ?_ _ | refine qkD ?_ | refine qkA ?_ _)); exact BK102.out⟩, ⟨by (with_reducible repeat (first | refine qkN ?_ _ | refine qkD ?_ | refine qkA ?_ _)); refine blk_put (cs := #[.slice Ao39 t103.length co39, .int .i64 t106]) ?_ 1 _ rfl; (with_reducible repeat (first | refine qkN ?_ _ | refine qkD ?_ | refine qkA ?_ _)); refine blk_put (cs := #[.slice Ao39 t103.length co39, .int .i64 0]) ?_ 1 _ rfl; (with_reducible repeat (first | refine qkN ?_ _ | refine qkD ?_ | refine qkA ?_ _)); refine blk_put (cs := #[.slice none 0 0, .int .i64 0]) ?_ 0 _ rfl; (with_reducible repeat (first | refine qkN ?_ _ | refine qkD ?_ | refine qkA ?_ _)); exact BK107.out⟩, ⟨qa74⟩⟩
   case round =>
    clear H'
    try clear c1
    try clear c2
    try clear p2
    try clear c3
    try clear c4
    try clear c4b0
    try clear c4b1
    try clear p6
    try clear c7
    try clear c10
    try clear c12
    try clear c13
    try clear c17
    try clear c17b0
    try clear c17b1
    try clear c17b2
    try clear c20
    try clear c25
    try clear c26
    try clear c35
    try clear c40
    try clear c41
    try clear hcz14_0
    try clear hcz14_1
    try clear hcz15_0
    try clear hcz15_1
    try clear hcz16_0
    try clear hcz16_1
    try clear hcz21_0
    try clear hcz21_1
    try clear hcz27_0
    try clear hcz27_1
    try clear hcz28_0
    try clear hcz28_1
    try clear hcz36_0
    try clear hcz36_1
    try clear hcz42_0
    try clear hcz42_1
    try clear hcz43_0
    try clear hcz43_1
    try clear hcz8_0
    try clear hcz8_1
    try clear hfz14_0
    try clear hfz14_1
    try clear hfz15_0
    try clear hfz15_1
    try clear hfz16_0
    try clear hfz16_1
    try clear hfz21_0
    try clear hfz21_1
    try clear hfz27_0
    try clear hfz27_1
    try clear hfz28_0
    try clear hfz28_1
    try clear hfz36_0
    try clear hfz36_1
    try clear hfz42_0
    try clear hfz42_1
    try clear hfz43_0
    try clear hfz43_1
    try clear hfz8_0
    try clear hfz8_1
    obtain ⟨x32_1, x108000_1, u108000, rfl, HA, HK1, HO_108000, BK101, BK102, BK107, HB⟩ := hrel
    cases gk with
    | zero => exact absurd HA.out (by simp [impl_Store_writeAll.l0])
    | succ k1 =>
     have H := HA.out; clear HA; simp only [impl_Store_writeAll.l0] at H
     by_cases c44 : x32_1 < (l1.length : Int)
     ·rw [if_pos c44] at H
      have c44b0 : decide (x32_1 < (l1.length : Int)) = true := decide_eq_true c44; clear c44
      by_cases c45 : 0 ≤ x32_1
      ·rw [if_pos c45] at H
       have c45b0 : decide (0 ≤ x32_1) = true := decide_eq_true c45; clear c45
       by_cases c46 : x32_1 < (l1.length : Int)
       ·rw [if_pos c46] at H
        have c46b0 : decide (x32_1 < (l1.length : Int)) = true := decide_eq_true c46; clear c46
        by_cases c47 : 0 ≤ ((rd_T58 l1 x32_1).f0)
        ·rw [if_pos c47] at H
         have c47b0 : decide (0 ≤ ((rd_T58 l1 x32_1).f0)) = true := decide_eq_true c47; clear c47
         by_cases c48 : ((rd_T58 l1 x32_1).f0) < (x108000_1.length : Int)
         ·rw [if_pos c48] at H
          have c48b0 : decide (((rd_T58 l1 x32_1).f0) < (x108000_1.length : Int)) = true := decide_eq_true c48; clear c48
          by_cases c49 : (wrap64 (((rd_L4 x108000_1 ((rd_T58 l1 x32_1).f0)).length : Int) - 1)) ≥ 0
          ·rw [if_pos c49] at H
           have c49b0 : decide (0 ≤ (wrap64 (((rd_L4 x108000_1 ((rd_T58 l1 x32_1).f0)).length : Int) - 1))) = true := decide_eq_true c49; clear c49; obtain ⟨ji50, hji50⟩ : ∃ j_ : Int, (wrap64 (((rd_L4 x108000_1 ((rd_T58 l1 x32_1).f0)).length : Int) - 1)) = j_ := ⟨_, rfl⟩; replace H : (if 0 ≤ (ji50) then (if (ji50) < ((rd_L4 x108000_1 ((rd_T58 l1 x32_1).f0)).length : Int) then (if ((rd_T43 (rd_L4 x108000_1 ((rd_T58 l1 x32_1).f0)) (ji50)).f0) = (wrap64 (t106 + 1)) then (if (ji50) ≤ ((rd_L4 x108000_1 ((rd_T58 l1 x32_1).f0)).length : Int) then (if (rd_L4 x108000_1 ((rd_T58 l1 x32_1).f0)).length < 8796093022208 then (impl_Store_writeAll.l0 k1 l1 (l1.length : Int) (wrap64 (x32_1 + 1)) (x108000_1.set (((rd_T58 l1 x32_1).f0) : Int).toNat (((rd_L4 x108000_1 ((rd_T58 l1 x32_1).f0)).take ((ji50) : Int).toNat) ++ [(⟨(wrap64 (t106 + 1)), (rd_T58 l1 x32_1).f1⟩ : S43)])) (wrap64 (t106 + 1))) else (none)) else (none)) else (if (rd_L4 x108000_1 ((rd_T58 l1 x32_1).f0)).length < 8796093022208 then (impl_Store_writeAll.l0 k1 l1 (l1.length : Int) (wrap64 (x32_1 + 1)) (x108000_1.set (((rd_T58 l1 x32_1).f0) : Int).toNat ((rd_L4 x108000_1 ((rd_T58 l1 x32_1).f0)) ++ [(⟨(wrap64 (t106 + 1)), (rd_T58 l1 x32_1).f1⟩ : S43)])) (wrap64 (t106 + 1))) else (none))) else (none)) else (none)) = some (r1, r2, r3, r4) := by first | (rw [hji50] at H; exact H) | (simp only [hji50] at H ⊢; exact H)
           (try rw [hji50] at c49b0); have hji50w : (IntKind.i64.wrap (((rd_L4 x108000_1 ((rd_T58 l1 x32_1).f0)).length : Int) - 1)) = ji50 := (i64_w _).trans hji50
           by_cases c51 : 0 ≤ (ji50)
           ·rw [if_pos c51] at H
            have c51b0 : decide (0 ≤ (ji50)) = true := decide_eq_true c51; clear c51
            by_cases c52 : (ji50) < ((rd_L4 x108000_1 ((rd_T58 l1 x32_1).f0)).length : Int)
            ·rw [if_pos c52] at H
             have c52b0 : decide ((ji50) < ((rd_L4 x108000_1 ((rd_T58 l1 x32_1).f0)).length : Int)) = true := decide_eq_true c52; clear c52
             by_cases c53 : ((rd_T43 (rd_L4 x108000_1 ((rd_T58 l1 x32_1).f0)) (ji50)).f0) = (wrap64 (t106 + 1))
             ·rw [if_pos c53] at H
              have c53b0 : (((rd_T43 (rd_L4 x108000_1 ((rd_T58 l1 x32_1).f0)) (ji50)).f0) == (wrap64 (t106 + 1))) = true := beq_iff_eq.mpr c53; have c53b1 : (((rd_T43 (rd_L4 x108000_1 ((rd_T58 l1 x32_1).f0)) (ji50)).f0) != (wrap64 (t106 + 1))) = false := bne_eq_false_iff_eq.mpr c53; clear c53; have c54b0 := eq_true (qT qa1 : 0 ≤ (ji50))
              by_cases c55 : (ji50) ≤ ((rd_L4 x108000_1 ((rd_T58 l1 x32_1).f0)).length : Int)
              ·rw [if_pos c55] at H
               have c55b0 := eq_true c55; have c55b1 : decide ((ji50) ≤ ((rd_L4 x108000_1 ((rd_T58 l1 x32_1).f0)).length : Int)) = true := decide_eq_true c55; clear c55; obtain ⟨y112, hy112⟩ : ∃ y_ : List (S43), y_ = ((rd_L4 x108000_1 ((rd_T58 l1 x32_1).f0)).take ((ji50) : Int).toNat) := ⟨_, rfl⟩; replace H : (if (rd_L4 x108000_1 ((rd_T58 l1 x32_1).f0)).length < 8796093022208 then (impl_Store_writeAll.l0 k1 l1 (l1.length : Int) (wrap64 (x32_1 + 1)) (x108000_1.set (((rd_T58 l1 x32_1).f0) : Int).toNat (y112 ++ [(⟨(wrap64 (t106 + 1)), (rd_T58 l1 x32_1).f1⟩ : S43)])) (wrap64 (t106 + 1))) else (none)) = some (r1, r2, r3, r4) := by first | (rw [hy112]; with_reducible exact H) | (have H2_ := (Option.bind_some _ _).symm.trans H; rw [hy112]; with_reducible exact H2_) | (have H2_ := (Option.bind_some _ _).symm.trans H; with_reducible exact H2_) | with_reducible exact H | (rw [hy112]; exact H) | exact H
               have Ny112 := qO hy112; clear hy112
               by_cases c56 : (rd_L4 x108000_1 ((rd_T58 l1 x32_1).f0)).length < 8796093022208
               ·rw [if_pos c56] at H
                have LMc56 := qO c56; clear c56; obtain ⟨y117, hy117⟩ : ∃ y_ : List (S43), y_ = (y112 ++ [(⟨(wrap64 (t106 + 1)), (rd_T58 l1 x32_1).f1⟩ : S43)]) := ⟨_, rfl⟩; replace H : (impl_Store_writeAll.l0 k1 l1 (l1.length : Int) (wrap64 (x32_1 + 1)) (x108000_1.set (((rd_T58 l1 x32_1).f0) : Int).toNat y117) (wrap64 (t106 + 1))) = some (r1, r2, r3, r4) := by first | (rw [hy117]; with_reducible exact H) | (have H2_ := (Option.bind_some _ _).symm.trans H; rw [hy117]; with_reducible exact H2_) | (have H2_ := (Option.bind_some _ _).symm.trans H; with_reducible exact H2_) | with_reducible exact H | (rw [hy117]; exact H) | exact H
                have Ny117 := qO hy117; clear hy117; obtain ⟨y120, hy120⟩ : ∃ y_ : List (List (S43)), y_ = (x108000_1.set (((rd_T58 l1 x32_1).f0) : Int).toNat y117) := ⟨_, rfl⟩; replace H : (impl_Store_writeAll.l0 k1 l1 (l1.length : Int) (wrap64 (x32_1 + 1)) y120 (wrap64 (t106 + 1))) = some (r1, r2, r3, r4) := by first | (rw [hy120]; with_reducible exact H) | (have H2_ := (Option.bind_some _ _).symm.trans H; rw [hy120]; with_reducible exact H2_) | (have H2_ := (Option.bind_some _ _).symm.trans H; with_reducible exact H2_) | with_reducible exact H | (rw [hy120]; exact H) | exact H
                have Ny120 := qO hy120; clear hy120; have H' := qO H; clear H; have p108 : 0 ≤ (x32_1 : Int) := qT qa1; have q108 : x32_1 < (l1.length : Int) := qT qa1; obtain ⟨ad108, e108, hx108_0, hx108_1⟩ := at_T58 HR1.out x32_1 p108 q108
                cases e108
                replace hx108_0 := (HB.out.cell (qL w _ hx108_0)).trans hx108_0; replace hx108_1 := (HB.out.cell (qL w _ hx108_1)).trans hx108_1; replace p108 := eq_true p108; replace q108 := eq_true q108
                try go_wp2_with (first | ((with_reducible refine gate_dst (N := 9) rfl ?_); refine qX 9 #[.int .i64 0, .int .i64 0] 58 ?_; intro gb109 hg w58 hbox hb; have hx_ := qHX HB hb qa0; have BK109 := qO (hbox); have GW109 := qO ((qa9 : w.heap.size ≤ gb109)); have GE109 := GW109; have NB101_109 := qO ((qa4 : gb101 ≠ gb109)); have NB109_101 := qO (Ne.symm NB101_109.out); have NB102_109 := qO ((qa42 : gb102 ≠ gb109)); have NB109_102 := qO (Ne.symm NB102_109.out); have NB107_109 := qO ((qa86 : gb107 ≠ gb109)); have NB109_107 := qO (Ne.symm NB107_109.out); replace HO_108000 := qO (Kd.S_below qa88 hb); replace BK101 := qO (qB BK101.out hx_ hb); replace BK102 := qO (qB BK102.out hx_ hb); replace BK107 := qO (qB BK107.out hx_ hb); replace HB := qO (below_step (below_step HB.out hx_) hb); clear hx_ hb hbox hg; have hnb59 := NB109_101.out; have hnc59 := NB101_109.out; have hnb60 := NB109_102.out; have hnc60 := NB102_109.out; have hnb61 := NB109_107.out; have hnc61 := NB107_109.out; obtain ⟨hcz62_0, hcz62_1, hfz62_0, hfz62_1⟩ := qb2 BK109.out) | ((with_reducible refine gate_store (t := 58) (p := 9) rfl ?_); refine store_event (t := 58) (p := 9) (v := ?vo_w63) (w1 := ((w58.setCell ⟨gb109, 0, none⟩ (.int .i64 ((rd_T58 l1 x32_1).f0))).setCell ⟨gb109, 1, none⟩ (.int .i64 ((rd_T58 l1 x32_1).f1)))) ?hg ?ho ?hn ?hr ?_; (case ho => rfl); (case hg => rfl); (case hn => rfl); (case hr => exact qa10); intro w63 hw; have n0_ : Aside0 (Kd.S (Kd.slice 43 k43) 41 w63 w.heap.size (fun _ => True) u108000 x108000_1) := ⟨qa57⟩; have n1_ : Aside0 (w63.heap[gb101]? = some (.cells #[.slice A0_0 l0_0.length c0_0, .int .i64 a0_1] 28 (0, 0))) := ⟨qa58⟩; have n2_ : Aside0 (w63.heap[gb102]? = some (.cells #[.slice none 0 0, .int .i64 0] 28 (0, 0))) := ⟨qa59⟩; have n3_ : Aside0 (w63.heap[gb107]? = some (.cells #[u108000, .int .i64 (wrap64 (t106 + 1))] 28 (0, 0))) := ⟨qa60⟩; have n4_ : Aside0 (w63.heap[gb109]? = some (.cells #[.int .i64 ((rd_T58 l1 x32_1).f0), .int .i64 ((rd_T58 l1 x32_1).f1)] 58 (0, 0))) := ⟨qa50⟩; have n5_ : Aside0 (Below w.heap.size w w63) := ⟨qa81⟩; clear hw HO_108000 BK101 BK102 BK107 BK109 HB; have HO_108000 := n0_; have BK101 := n1_; have BK102 := n2_; have BK107 := n3_; have BK109 := n4_; have HB := n5_; clear n0_ n1_ n2_ n3_ n4_ n5_; have hnb64 := NB107_101.out; have hnc64 := NB101_107.out; have hnb65 := NB107_102.out; have hnc65 := NB102_107.out; obtain ⟨hcz66_0, hcz66_1, hfz66_0, hfz66_1⟩ := qb2 BK107.out; obtain ⟨hcz67_0, hcz67_1, hfz67_0, hfz67_1⟩ := qb2 BK109.out; obtain ⟨Ao68, co68, eo68⟩ := Kd.S_slice HO_108000.out; subst eo68; have p110 : 0 ≤ (((rd_T58 l1 x32_1).f0) : Int) := qT qa1; have q110 : ((rd_T58 l1 x32_1).f0) < (x108000_1.length : Int) := qT qa1; obtain ⟨ad110, A110_0, c110_0, e110, hx110_0, hl110_0, hi110_0⟩ := at_L4 (Kd.S_reads' HO_108000.out).2.2 ((rd_T58 l1 x32_1).f0) p110 q110; cases e110; obtain ⟨ce110, hce110, hMe110, hcc110⟩ := Kd.S_get HO_108000.out [] ((rd_T58 l1 x32_1).f0) p110 qa132; obtain ⟨ve110_0, rfl, ge110_0⟩ := hMe110; have hv110_0 := hcc110 0 _ rfl; rw [Nat.add_zero, show ((Kd.slice 43 k43)).sz = 1 from rfl, Nat.mul_one] at hv110_0; replace hv110_0 := Option.some.inj (hv110_0.symm.trans hx110_0); rw [hv110_0] at ge110_0; have HL110_0 := qO (show Kd.R k43 43 _ _ _ _ (rd_L4 x108000_1 ((rd_T58 l1 x32_1).f0)) from ge110_0); clear hv110_0 ge110_0; have HX110_0 := qO hx110_0; clear hcc110 hce110; have HR110_0 := qO hi110_0; have HC110_0 := qO hl110_0; clear hi110_0 hl110_0; replace p110 := eq_true p110; replace q110 := eq_true q110))
                replace HO_108000 := qO (Kd.S_drew HO_108000.out); replace HL110_0 := qO (Kd.R_drew HL110_0.out); replace BK101 := qO (qkD BK101.out); replace BK102 := qO (qkD BK102.out); replace BK107 := qO (qkD BK107.out); replace BK109 := qO (qkD BK109.out); replace HR110_0 := qO (Kd.C_drew HR110_0.out); replace HB := qO (qbD HB.out); have p111 : 0 ≤ ((ji50) : Int) := qT qa1; have q111 : (ji50) < ((rd_L4 x108000_1 ((rd_T58 l1 x32_1).f0)).length : Int) := qT qa1; obtain ⟨ad111, e111, hx111_0, hx111_1⟩ := at_T43 qa102 (ji50) p111 q111
                cases e111
                replace p111 := eq_true p111; replace q111 := eq_true q111; have hx110d : w63.drew.cell? (ad110.add (((rd_T58 l1 x32_1).f0)).toNat) = some (.slice (some ad111) (rd_L4 x108000_1 ((rd_T58 l1 x32_1).f0)).length c110_0) := hx110_0; refine start_ (n := 12) (S := fun w' => w'.cell? ⟨gb107, 0, none⟩ = some (.slice (some ad110) x108000_1.length co68) ∧ w'.cell? ⟨gb107, 1, none⟩ = some (.int .i64 (wrap64 (t106 + 1))) ∧ w'.cell? (ad111.add (((ji50)).toNat * 2)) = some (.int .i64 ((rd_T43 (rd_L4 x108000_1 ((rd_T58 l1 x32_1).f0)) (ji50)).f0)) ∧ w'.cell? ⟨(ad111.add (((ji50)).toNat * 2)).block, (ad111.add (((ji50)).toNat * 2)).off + 1, none⟩ = some (.int .i64 ((rd_T43 (rd_L4 x108000_1 ((rd_T58 l1 x32_1).f0)) (ji50)).f1))) (ds := []) impl_Store_writeAll.y7 qa5 rfl rfl ⟨qc0 BK107.out, qc1 BK107.out, hx111_0, hx111_1⟩ (fun hHeld => ?_); refine with_tabW impl_Store_writeAll.tab12 impl_Store_writeAll.bits12 (fun HT_ HW_ => ?_); generalize w63.drew = w69 at HO_108000 HL110_0 BK101 BK102 BK107 BK109 HR110_0 HB hx111_0 hx111_1 hx110d hHeld ⊢; refine qPu 0 45 impl_Store_writeAll.y8 rfl rfl (any_of HT_.out qa5) qa8 qa2 ?_; refine qPu 1 46 impl_Store_writeAll.y9 rfl rfl (any_of HT_.out qa5) qa8 qa2 ?_; refine qPu 2 47 impl_Store_writeAll.y10 rfl rfl (any_of HT_.out qa5) qa8 qa2 ?_; refine qPu 3 48 impl_Store_writeAll.y11 rfl rfl (any_of HT_.out qa5) qa8 qa2 ?_; refine qPu 4 49 impl_Store_writeAll.y12 rfl rfl (any_of HT_.out qa5) qa8 qa2 ?_; refine qPu 5 50 impl_Store_writeAll.y13 rfl rfl (any_of HT_.out qa5) qa8 qa2 ?_; refine qPu 6 51 impl_Store_writeAll.y14 rfl rfl (any_of HT_.out qa5) qa8 qa2 ?_; refine qPu 8 53 impl_Store_writeAll.y15 rfl rfl (any_of HT_.out qa5) qa8 qa2 ?_; refine qTk 7 52 impl_Store_writeAll.y16 rfl rfl (take_ofW HT_.out HW_.out qa5) qa45 hHeld qa2 ?_; refine qTk 9 54 impl_Store_writeAll.y17 rfl rfl (take_ofW HT_.out HW_.out qa5) qa45 hHeld qa2 ?_; refine qPu 10 55 impl_Store_writeAll.y18 rfl rfl (any_of HT_.out qa5) qa8 qa2 ?_; refine qPu 11 56 impl_Store_writeAll.y19 rfl rfl (any_of HT_.out qa5) qa8 qa2 ?_; refine done_ (done_of HT_.out qa5) ?_; have q70 : ((ji50) : Int) ≤ (((rd_L4 x108000_1 ((rd_T58 l1 x32_1).f0)).length : Int) : Int) := qT qa1; obtain ⟨i070, hi070, _, hsz70, _⟩ := info_parts info43; have hroom70 : (rd_L4 x108000_1 ((rd_T58 l1 x32_1).f0)).length ≤ c110_0 := HC110_0.out; have hC70 : Kd.C k43 _ (some ad111) (rd_L4 x108000_1 ((rd_T58 l1 x32_1).f0)).length (rd_L4 x108000_1 ((rd_T58 l1 x32_1).f0)) := qa102; have hcut70 := cut_to (P := Try.prog) 41 43 .i64 Try.underlying41 hi070 (some ad111) (rd_L4 x108000_1 ((rd_T58 l1 x32_1).f0)).length c110_0 (ji50) (qT qa1) q70 hroom70; have hr70 := Kd.C_take (m := ((ji50) : Int).toNat) hC70 qa29; have hy70 : y112.length = ((ji50) : Int).toNat := (by rw [Ny112.out, List.length_take]; omega); rw [← Ny112.out] at hr70; rw [← hy70] at hcut70; have HR115 := qO hr70; have HC115 := qO (show y112.length ≤ c110_0 from by omega); clear hr70 hC70 hroom70 hi070 hsz70; have KY70 := qO hy70; clear hy70; replace q70 := eq_true q70; obtain ⟨hcz71_0, hcz71_1, hfz71_0, hfz71_1⟩ := qb2 BK107.out; obtain ⟨hcz72_0, hcz72_1, hfz72_0, hfz72_1⟩ := qb2 BK109.out; have p116 : 0 ≤ (((rd_T58 l1 x32_1).f0) : Int) := qT qa1; have q116 : ((rd_T58 l1 x32_1).f0) < (x108000_1.length : Int) := qT qa1; obtain ⟨ad116, A116_0, c116_0, e116, hx116_0, hl116_0, hi116_0⟩ := at_L4 (Kd.S_reads' HO_108000.out).2.2 ((rd_T58 l1 x32_1).f0) p116 q116; obtain rfl : ad110 = ad116 := (by injection e116); have ea_ := Option.some.inj (hx110d.symm.trans hx116_0); injection ea_ with ea_ en_ ec_; subst ea_; subst ec_; clear en_ hx110d; obtain ⟨ce116, hce116, hMe116, hcc116⟩ := Kd.S_get HO_108000.out [] ((rd_T58 l1 x32_1).f0) p116 (by first | exact q116 | exact qT (by first | (with_reducible assumption) | assumption) | (have e_ := (Kd.S_reads' HO_108000.out).1; omega)); obtain ⟨ve116_0, rfl, ge116_0⟩ := hMe116; have hv116_0 := hcc116 0 _ rfl; rw [Nat.add_zero, show ((Kd.slice 43 k43)).sz = 1 from rfl, Nat.mul_one] at hv116_0; replace hv116_0 := Option.some.inj (hv116_0.symm.trans hx116_0); rw [hv116_0] at ge116_0; have HL116_0 := qO (show Kd.R k43 43 _ _ _ _ (rd_L4 x108000_1 ((rd_T58 l1 x32_1).f0)) from ge116_0); clear hv116_0 ge116_0; have HX116_0 := qO hx116_0; clear hcc116 hce116; have HR116_0 := qO hi116_0; have HC116_0 := qO hl116_0; clear hi116_0 hl116_0; replace p116 := eq_true p116; replace q116 := eq_true q116; obtain ⟨go73, co73, eo73, gb73, gl73, cl73, HG73⟩ := Kd.S_form HO_108000.out (by have h_ : (((rd_T58 l1 x32_1).f0) : Int) < ((x108000_1.length : Int) : Int) := qT qa1; have h2_ : 0 ≤ (((rd_T58 l1 x32_1).f0) : Int) := (qT qa1); omega); (first | cases eo73 | (injection eo73 with ea_ en_ ec_; (first | subst ea_ | (injection ea_ with ea_; subst ea_)); subst ec_; clear en_)); have GB73 := qO gb73; have GG73 := qO HG73; clear gb73 gl73 HG73; (first | simp only [add_plain] at hx110_0 | skip); (first | simp only [add_plain] at hx116_0 | skip); obtain ⟨oki73, ce73, hcl73, hM73, hcc73, _, _, hH73⟩ := Kd.S_elem HO_108000.out [] (((rd_T58 l1 x32_1).f0) : Int) (qT qa1) (by have h_ : (((rd_T58 l1 x32_1).f0) : Int) < ((x108000_1.length : Int) : Int) := qT qa1; first | exact h_ | (have e_ := (Kd.S_reads' HO_108000.out).1; omega) | simpa using h_); obtain ⟨ve73_0, rfl, ge73_0⟩ := hM73; have hv73 := hcc73 0 _ rfl; have hX73 := HX116_0.out; (try simp only [add_plain] at hX73); (try simp only [Nat.add_zero] at hv73); (try rw [show ((Kd.slice 43 k43)).sz = 1 from rfl, Nat.mul_one] at hv73); replace hv73 := Option.some.inj (hv73.symm.trans hX73); subst hv73; clear hX73 hcc73 hcl73; have UU73 := qO (show Kd.R k43 43 _ w.heap.size oki73 (.slice (some ad111) (rd_L4 x108000_1 ((rd_T58 l1 x32_1).f0)).length c110_0) (rd_L4 x108000_1 ((rd_T58 l1 x32_1).f0)) from ge73_0); have HH73 := qO hH73; have HN73 := qO (Kd.S_reads' HO_108000.out).1; clear hH73 ge73_0
                have UC_ : Kd.R k43 43 w69 w.heap.size oki73 (.slice (some ad111) y112.length c110_0) y112 := by
                 have h_ := Kd.R_take (m := y112.length) UU73.out (by rw [Ny112.out, List.length_take]; omega); have e_ : (rd_L4 x108000_1 ((rd_T58 l1 x32_1).f0)).take y112.length = y112 := by rw [Ny112.out, List.length_take, ← List.take_eq_take_min]
                 rw [e_] at h_
                 exact h_
                clear UU73; have UU73 := qO UC_; clear UC_; have LY_ : y112.length ≤ (rd_L4 x108000_1 ((rd_T58 l1 x32_1).f0)).length := by rw [Ny112.out, List.length_take]; omega
                have LYA_ := qO LY_; clear LY_
                try go_wp2
                replace HH73 := qO (Kd.H_drew HH73.out); replace UU73 := qO (Kd.R_drew UU73.out); replace HL110_0 := qO (Kd.R_drew HL110_0.out); replace HL116_0 := qO (Kd.R_drew HL116_0.out); replace BK101 := qO (qkD BK101.out); replace BK102 := qO (qkD BK102.out); replace BK107 := qO (qkD BK107.out); replace BK109 := qO (qkD BK109.out); replace HB := qO (qbD HB.out); refine start_ (n := 14) (S := fun w' => w'.cell? ⟨gb107, 0, none⟩ = some (.slice (some ⟨go73, 0, none⟩) x108000_1.length co68) ∧ w'.cell? ⟨gb107, 1, none⟩ = some (.int .i64 (wrap64 (t106 + 1))) ∧ w'.cell? ⟨gb109, 0, none⟩ = some (.int .i64 ((rd_T58 l1 x32_1).f0)) ∧ w'.cell? ⟨gb109, 1, none⟩ = some (.int .i64 ((rd_T58 l1 x32_1).f1))) (ds := [13]) #[qf,qf,qf,qf,qf,qf,qf,qf,qf,qf,qf,qf,qf,qf] qa5 rfl rfl ⟨qc0 BK107.out, qc1 BK107.out, qc0 BK109.out, qc1 BK109.out⟩ (fun hHeld => ?_); refine with_tabW impl_Store_writeAll.tab14 impl_Store_writeAll.bits14 (fun HT_ HW_ => ?_); generalize w69.drew = w14a_ at HH73 UU73 HL110_0 HL116_0 BK101 BK102 BK107 BK109 HB hHeld ⊢; refine qPu 0 60 #[qt,qf,qf,qf,qf,qf,qf,qf,qf,qf,qf,qf,qf,qf] rfl rfl (any_of HT_.out qa5) qa8 qa2 ?_; refine qPu 2 62 #[qt,qf,qt,qf,qf,qf,qf,qf,qf,qf,qf,qf,qf,qf] rfl rfl (any_of HT_.out qa5) qa8 qa2 ?_; refine qPu 5 65 #[qt,qf,qt,qf,qf,qt,qf,qf,qf,qf,qf,qf,qf,qf] rfl rfl (any_of HT_.out qa5) qa8 qa2 ?_; refine qPu 7 67 #[qt,qf,qt,qf,qf,qt,qf,qt,qf,qf,qf,qf,qf,qf] rfl rfl (any_of HT_.out qa5) qa8 qa2 ?_; refine qPu 4 64 #[qt,qf,qt,qf,qt,qt,qf,qt,qf,qf,qf,qf,qf,qf] rfl rfl (any_of HT_.out qa5) qa8 qa2 ?_; refine qTk 1 61 #[qt,qt,qt,qf,qt,qt,qf,qt,qf,qf,qf,qf,qf,qf] rfl rfl (take_ofW HT_.out HW_.out qa5) qa45 hHeld qa2 ?_; refine qTk 3 63 #[qt,qt,qt,qt,qt,qt,qf,qt,qf,qf,qf,qf,qf,qf] rfl rfl (take_ofW HT_.out HW_.out qa5) qa45 hHeld qa2 ?_; refine qTk 6 66 #[qt,qt,qt,qt,qt,qt,qt,qt,qf,qf,qf,qf,qf,qf] rfl rfl (take_ofW HT_.out HW_.out qa5) qa45 hHeld qa2 ?_; refine qTk 8 68 #[qt,qt,qt,qt,qt,qt,qt,qt,qt,qf,qf,qf,qf,qf] rfl rfl (take_ofW HT_.out HW_.out qa5) qa45 hHeld qa2 ?_; refine qPu 9 69 #[qt,qt,qt,qt,qt,qt,qt,qt,qt,qt,qf,qf,qf,qf] rfl rfl (any_of HT_.out qa5) qa8 qa2 ?_; refine one_ (i := 10) (N := some 70) #[qt,qt,qt,qt,qt,qt,qt,qt,qt,qt,qt,qf,qf,qf] rfl rfl (one_of HT_.out qa5) qa51 (fun K hK => ?_); refine Kd.R_lit_step k43 _ 43 ?hg (N := 70) ?hd (xs := ([(⟨(wrap64 (t106 + 1)), (rd_T58 l1 x32_1).f1⟩ : S43)] : List (S43))) (inner := [.int .i64 (wrap64 (t106 + 1)), .int .i64 ((rd_T58 l1 x32_1).f1)]) (ok := fun _ => True) (okp := fun _ => True) ?hr ?hp (fun _ hk => hk) trivial (Below.refl _ _) (Nat.le_refl _) qa117 ?_; (case hd => rfl); (case hg => rfl); (case hr => exact qa10); (case hp => exact qa80); intro v14_ w14b_ hol_ hb hg_ hnew_; clear hg_ hnew_; have hsz_ := hb.size; obtain ⟨Al_, cl_, el_⟩ := Kd.R_slice hol_; subst el_; have HOL_ := qO hol_; have HSZ_ := qO hsz_; clear hsz_ hol_; replace HH73 := qO (Kd.H_below (Kd.H_widen HH73.out) hb); replace UU73 := qO (Kd.R_below UU73.out hb); replace HL110_0 := qO (Kd.R_below HL110_0.out hb); replace HL116_0 := qO (Kd.R_below HL116_0.out hb); replace BK101 := qO (blk_below (g := gb101) BK101.out hb); replace BK102 := qO (blk_below (g := gb102) BK102.out hb); replace BK107 := qO (blk_below (g := gb107) BK107.out hb); replace BK109 := qO (blk_below (g := gb109) BK109.out hb); replace HB := qO (below_step HB.out hb); clear hb; refine hK.out _ _ ⟨qc0 BK107.out, qc1 BK107.out, qc0 BK109.out, qc1 BK109.out⟩ (fun hHeld => ?_); clear hK K; refine norm_ (a' := ?_) ?_ ?_; rotate_left
                ·exact qa11
                refine one_ (i := 11) (N := some 71) #[qt,qt,qt,qt,qt,qt,qt,qt,qt,qt,qt,qt,qf,qf] rfl rfl (one_of HT_.out qa5) qa51 (fun K hK => ?_); refine Kd.R_append_rows_step k43 (w0 := w) w.heap.size (by rfl) (.tmp 64) (.tmp 70) 41 43 (.agg #[(.int .i64 0), (.int .i64 0)]) 16 rfl Try.underlying41 info43 rfl qa51 qa29 (.slice (some ad111) y112.length c110_0) y112 [(⟨(wrap64 (t106 + 1)), (rd_T58 l1 x32_1).f1⟩ : S43)] _ _ _ (fun k_ => oki73 k_ ∨ ((fun _ => True)) k_ ∧ w14a_.heap.size ≤ k_) (fun _ => False) rfl rfl ?aO ?aR (fun _ _ h => h) (fun _ h => h.elim) ?aF ?aB ?aS ?aL ?_; (case aR => exact (Kd.R_reads' HOL_.out).2.2); (case aB => exact HB.out); (case aF => exact qa184); (case aO => exact Kd.R_mono UU73.out (fun _ hk => .inl hk)); (case aS => exact below_size HB.out); (case aL => simp only [List.length_cons, List.length_nil]; have := LMc56.out; have := LYA_.out; omega); intro v118 w74 ho hb hg hat; rw [← Ny117.out] at ho; have n0_ := qO (blk_grown (g := gb101) (o := .cells #[.slice A0_0 l0_0.length c0_0, .int .i64 a0_1] 28 (0, 0)) qa17 hg (Kd.R_ne UU73.out BK101.out qa51)); have n1_ := qO (blk_grown (g := gb102) (o := .cells #[.slice none 0 0, .int .i64 0] 28 (0, 0)) qa28 hg (Kd.R_ne UU73.out BK102.out qa51)); have n2_ := qO (blk_grown (g := gb107) (o := .cells #[.slice (some ⟨go73, 0, none⟩) x108000_1.length co68, .int .i64 (wrap64 (t106 + 1))] 28 (0, 0)) qa75 hg (Kd.R_ne UU73.out BK107.out qa51)); have n3_ := qO (blk_grown (g := gb109) (o := .cells #[.int .i64 ((rd_T58 l1 x32_1).f0), .int .i64 ((rd_T58 l1 x32_1).f1)] 58 (0, 0)) qa97 hg (Kd.R_ne UU73.out BK109.out qa51)); have n4_ := qO (hb); have n5_ := qO (Kd.H_grown HH73.out hg (fun k_ e_ => .inl (UU73.out.1 k_ e_))); have n6_ := qO (ho); clear BK101 BK102 BK107 BK109 HB HH73 HO_108000 UU73 HL110_0 HL116_0; have BK101 := n0_; have BK102 := n1_; have BK107 := n2_; have BK109 := n3_; have HB := n4_; have HH73 := n5_; have HO119 := n6_; clear n0_ n1_ n2_ n3_ n4_ n5_ n6_ ho hb hg hat; have p57 : 0 ≤ (((rd_T58 l1 x32_1).f0) : Int) := qT qa1; have q57 : (((rd_T58 l1 x32_1).f0) : Int) < ((x108000_1.length : Int) : Int) := qT qa1; replace p57 := eq_true p57; replace q57 := eq_true q57; obtain ⟨Ao77, co77, eo77⟩ := Kd.R_slice HO119.out; subst eo77; obtain ⟨_, _, hraw75, _, _, hcc75, _⟩ := Kd.H_raw HH73.out (qT qa1) (by have h_ : (((rd_T58 l1 x32_1).f0) : Int) < ((x108000_1.length : Int) : Int) := qT qa1; first | exact h_ | (have e_ := (HN73.out); omega) | simpa using h_); obtain ⟨_, hfr75⟩ := Kd.H_at HH73.out (qT qa1) (by have h_ : (((rd_T58 l1 x32_1).f0) : Int) < ((x108000_1.length : Int) : Int) := qT qa1; first | exact h_ | (have e_ := (HN73.out); omega) | simpa using h_); have hx75_0 := hcc75 0 _ rfl; have hf75_0 := hfr75 0; (try simp only [Nat.add_zero] at hx75_0 hf75_0); (try rw [show ((Kd.slice 43 k43)).sz = 1 from rfl, Nat.mul_one] at hx75_0); (try rw [show ((Kd.slice 43 k43)).sz = 1 from rfl, Nat.mul_one] at hf75_0); have HP75 := Kd.S_seg0 HH73.out (qT qa1) (by have h_ : (((rd_T58 l1 x32_1).f0) : Int) < ((x108000_1.length : Int) : Int) := qT qa1; first | exact h_ | (have e_ := (HN73.out); omega) | simpa using h_) (seg := [.slice Ao77 y117.length co77]) (j := 0) (show 1 ≤ 1 from by decide) (x' := y117) (Kd.M_row HO119.out) (fun _ hk => hk); (try simp only [show ((Kd.slice 43 k43)).sz = 1 from rfl, Nat.mul_one, Nat.add_zero] at HP75); clear hcc75 hfr75; refine hK.out _ _ ⟨qc0 BK107.out, qc1 BK107.out, qc0 BK109.out, qc1 BK109.out⟩ (fun hHeld => ?_); clear hK K; refine norm_ (a' := ?_) ?_ ?_; rotate_left
                ·exact qa11
                refine qPu 12 72 #[qt,qt,qt,qt,qt,qt,qt,qt,qt,qt,qt,qt,qt,qf] rfl rfl (any_of HT_.out qa5) qa8 qa2 ?_; refine last_ (i := 13) (N := none) #[qt,qt,qt,qt,qt,qt,qt,qt,qt,qt,qt,qt,qt,qt] rfl rfl (one_of HT_.out qa5) qa51 (fun K hK => ?_); refine skip_ (w1 := (w74.setCell ⟨go73, (((rd_T58 l1 x32_1).f0) : Int).toNat, none⟩ (.slice Ao77 y117.length co77))) (by rfl) rfl ?hr ?_; (case hr => exact qa10); obtain ⟨w76, hw⟩ : ∃ x_, x_ = (w74.setCell ⟨go73, (((rd_T58 l1 x32_1).f0) : Int).toNat, none⟩ (.slice Ao77 y117.length co77)) := ⟨_, rfl⟩; rw [← hw]; have hg : w74.grownBy w76 (some go73) := (by rw [hw]; exact HP75.2); have hp_ : Kd.S (Kd.slice 43 k43) 41 w76 w.heap.size (fun _ => True) (.slice (some ⟨go73, 0, none⟩) x108000_1.length co68) y120 := (by rw [hw, Ny120.out]; exact HP75.1); clear HP75; have n0_ := qO (blk_grown (g := gb101) (o := .cells #[.slice A0_0 l0_0.length c0_0, .int .i64 a0_1] 28 (0, 0)) qa17 hg (Kd.R_ne hraw75 BK101.out qa51)); have n1_ := qO (blk_grown (g := gb102) (o := .cells #[.slice none 0 0, .int .i64 0] 28 (0, 0)) qa28 hg (Kd.R_ne hraw75 BK102.out qa51)); have n2_ := qO (blk_grown (g := gb107) (o := .cells #[.slice (some ⟨go73, 0, none⟩) x108000_1.length co68, .int .i64 (wrap64 (t106 + 1))] 28 (0, 0)) qa75 hg (Kd.R_ne hraw75 BK107.out qa51)); have n3_ := qO (blk_grown (g := gb109) (o := .cells #[.int .i64 ((rd_T58 l1 x32_1).f0), .int .i64 ((rd_T58 l1 x32_1).f1)] 58 (0, 0)) qa97 hg (Kd.R_ne hraw75 BK109.out qa51)); have n4_ := qO ((by rw [hw]; exact qbS HB.out GB73.out : Below w.heap.size w w76)); have n5_ := qO (hp_); clear BK101 BK102 BK107 BK109 HB HO119 HH73; have BK101 := n0_; have BK102 := n1_; have BK107 := n2_; have BK109 := n3_; have HB := n4_; have HO_108000 := n5_; clear n0_ n1_ n2_ n3_ n4_ n5_ hg hw hp_ hraw75; refine hK.out _ _ ?_; clear hK K; refine done_ (done_of HT_.out qa5) ?_
                try go_wp2
                go_roundg k1
                case measure => have := HK1.out; omega
                case rel => exact ⟨(wrap64 (x32_1 + 1)), (y120), (.slice (some ⟨go73, 0, none⟩) x108000_1.length co68), qa12, H', ⟨qa103⟩, ⟨qa88⟩, ⟨qa17⟩, ⟨qa28⟩, ⟨qa75⟩, ⟨qa93⟩⟩
               ·rw [if_neg c56] at H
                exact absurd H qa117
              ·rw [if_neg c55] at H
               exact absurd H qa117
             ·rw [if_neg c53] at H
              have c53b0 : (((rd_T43 (rd_L4 x108000_1 ((rd_T58 l1 x32_1).f0)) (ji50)).f0) == (wrap64 (t106 + 1))) = false := beq_eq_false_iff_ne.mpr c53; have c53b1 : (((rd_T43 (rd_L4 x108000_1 ((rd_T58 l1 x32_1).f0)) (ji50)).f0) != (wrap64 (t106 + 1))) = true := bne_iff_ne.mpr c53
              by_cases c78 : (rd_L4 x108000_1 ((rd_T58 l1 x32_1).f0)).length < 8796093022208
              ·rw [if_pos c78] at H
               have LMc78 := qO c78; clear c78; obtain ⟨y122, hy122⟩ : ∃ y_ : List (S43), y_ = ((rd_L4 x108000_1 ((rd_T58 l1 x32_1).f0)) ++ [(⟨(wrap64 (t106 + 1)), (rd_T58 l1 x32_1).f1⟩ : S43)]) := ⟨_, rfl⟩; replace H : (impl_Store_writeAll.l0 k1 l1 (l1.length : Int) (wrap64 (x32_1 + 1)) (x108000_1.set (((rd_T58 l1 x32_1).f0) : Int).toNat y122) (wrap64 (t106 + 1))) = some (r1, r2, r3, r4) := by first | (rw [hy122]; with_reducible exact H) | (have H2_ := (Option.bind_some _ _).symm.trans H; rw [hy122]; with_reducible exact H2_) | (have H2_ := (Option.bind_some _ _).symm.trans H; with_reducible exact H2_) | with_reducible exact H | (rw [hy122]; exact H) | exact H
               have Ny122 := qO hy122; clear hy122; obtain ⟨y125, hy125⟩ : ∃ y_ : List (List (S43)), y_ = (x108000_1.set (((rd_T58 l1 x32_1).f0) : Int).toNat y122) := ⟨_, rfl⟩; replace H : (impl_Store_writeAll.l0 k1 l1 (l1.length : Int) (wrap64 (x32_1 + 1)) y125 (wrap64 (t106 + 1))) = some (r1, r2, r3, r4) := by first | (rw [hy125]; with_reducible exact H) | (have H2_ := (Option.bind_some _ _).symm.trans H; rw [hy125]; with_reducible exact H2_) | (have H2_ := (Option.bind_some _ _).symm.trans H; with_reducible exact H2_) | with_reducible exact H | (rw [hy125]; exact H) | exact H
               have Ny125 := qO hy125; clear hy125; have H' := qO H; clear H; have p108 : 0 ≤ (x32_1 : Int) := qT qa1; have q108 : x32_1 < (l1.length : Int) := qT qa1; obtain ⟨ad108, e108, hx108_0, hx108_1⟩ := at_T58 HR1.out x32_1 p108 q108
               cases e108
               replace hx108_0 := (HB.out.cell (qL w _ hx108_0)).trans hx108_0; replace hx108_1 := (HB.out.cell (qL w _ hx108_1)).trans hx108_1; replace p108 := eq_true p108; replace q108 := eq_true q108
               try go_wp2_with (first | ((with_reducible refine gate_dst (N := 9) rfl ?_); refine qX 9 #[.int .i64 0, .int .i64 0] 58 ?_; intro gb109 hg w80 hbox hb; have hx_ := qHX HB hb qa0; have BK109 := qO (hbox); have GW109 := qO ((qa9 : w.heap.size ≤ gb109)); have GE109 := GW109; have NB101_109 := qO ((qa4 : gb101 ≠ gb109)); have NB109_101 := qO (Ne.symm NB101_109.out); have NB102_109 := qO ((qa42 : gb102 ≠ gb109)); have NB109_102 := qO (Ne.symm NB102_109.out); have NB107_109 := qO ((qa86 : gb107 ≠ gb109)); have NB109_107 := qO (Ne.symm NB107_109.out); replace HO_108000 := qO (Kd.S_below qa88 hb); replace BK101 := qO (qB BK101.out hx_ hb); replace BK102 := qO (qB BK102.out hx_ hb); replace BK107 := qO (qB BK107.out hx_ hb); replace HB := qO (below_step (below_step HB.out hx_) hb); clear hx_ hb hbox hg; have hnb81 := NB109_101.out; have hnc81 := NB101_109.out; have hnb82 := NB109_102.out; have hnc82 := NB102_109.out; have hnb83 := NB109_107.out; have hnc83 := NB107_109.out; obtain ⟨hcz84_0, hcz84_1, hfz84_0, hfz84_1⟩ := qb2 BK109.out) | ((with_reducible refine gate_store (t := 58) (p := 9) rfl ?_); refine store_event (t := 58) (p := 9) (v := ?vo_w85) (w1 := ((w80.setCell ⟨gb109, 0, none⟩ (.int .i64 ((rd_T58 l1 x32_1).f0))).setCell ⟨gb109, 1, none⟩ (.int .i64 ((rd_T58 l1 x32_1).f1)))) ?hg ?ho ?hn ?hr ?_; (case ho => rfl); (case hg => rfl); (case hn => rfl); (case hr => exact qa10); intro w85 hw; have n0_ : Aside0 (Kd.S (Kd.slice 43 k43) 41 w85 w.heap.size (fun _ => True) u108000 x108000_1) := ⟨qa57⟩; have n1_ : Aside0 (w85.heap[gb101]? = some (.cells #[.slice A0_0 l0_0.length c0_0, .int .i64 a0_1] 28 (0, 0))) := ⟨qa58⟩; have n2_ : Aside0 (w85.heap[gb102]? = some (.cells #[.slice none 0 0, .int .i64 0] 28 (0, 0))) := ⟨qa59⟩; have n3_ : Aside0 (w85.heap[gb107]? = some (.cells #[u108000, .int .i64 (wrap64 (t106 + 1))] 28 (0, 0))) := ⟨qa60⟩; have n4_ : Aside0 (w85.heap[gb109]? = some (.cells #[.int .i64 ((rd_T58 l1 x32_1).f0), .int .i64 ((rd_T58 l1 x32_1).f1)] 58 (0, 0))) := ⟨qa50⟩; have n5_ : Aside0 (Below w.heap.size w w85) := ⟨qa81⟩; clear hw HO_108000 BK101 BK102 BK107 BK109 HB; have HO_108000 := n0_; have BK101 := n1_; have BK102 := n2_; have BK107 := n3_; have BK109 := n4_; have HB := n5_; clear n0_ n1_ n2_ n3_ n4_ n5_; have hnb86 := NB107_101.out; have hnc86 := NB101_107.out; have hnb87 := NB107_102.out; have hnc87 := NB102_107.out; obtain ⟨hcz88_0, hcz88_1, hfz88_0, hfz88_1⟩ := qb2 BK107.out; obtain ⟨hcz89_0, hcz89_1, hfz89_0, hfz89_1⟩ := qb2 BK109.out; obtain ⟨Ao90, co90, eo90⟩ := Kd.S_slice HO_108000.out; subst eo90; have p110 : 0 ≤ (((rd_T58 l1 x32_1).f0) : Int) := qT qa1; have q110 : ((rd_T58 l1 x32_1).f0) < (x108000_1.length : Int) := qT qa1; obtain ⟨ad110, A110_0, c110_0, e110, hx110_0, hl110_0, hi110_0⟩ := at_L4 (Kd.S_reads' HO_108000.out).2.2 ((rd_T58 l1 x32_1).f0) p110 q110; cases e110; obtain ⟨ce110, hce110, hMe110, hcc110⟩ := Kd.S_get HO_108000.out [] ((rd_T58 l1 x32_1).f0) p110 qa132; obtain ⟨ve110_0, rfl, ge110_0⟩ := hMe110; have hv110_0 := hcc110 0 _ rfl; rw [Nat.add_zero, show ((Kd.slice 43 k43)).sz = 1 from rfl, Nat.mul_one] at hv110_0; replace hv110_0 := Option.some.inj (hv110_0.symm.trans hx110_0); rw [hv110_0] at ge110_0; have HL110_0 := qO (show Kd.R k43 43 _ _ _ _ (rd_L4 x108000_1 ((rd_T58 l1 x32_1).f0)) from ge110_0); clear hv110_0 ge110_0; have HX110_0 := qO hx110_0; clear hcc110 hce110; have HR110_0 := qO hi110_0; have HC110_0 := qO hl110_0; clear hi110_0 hl110_0; replace p110 := eq_true p110; replace q110 := eq_true q110))
               replace HO_108000 := qO (Kd.S_drew HO_108000.out); replace HL110_0 := qO (Kd.R_drew HL110_0.out); replace BK101 := qO (qkD BK101.out); replace BK102 := qO (qkD BK102.out); replace BK107 := qO (qkD BK107.out); replace BK109 := qO (qkD BK109.out); replace HR110_0 := qO (Kd.C_drew HR110_0.out); replace HB := qO (qbD HB.out); have p111 : 0 ≤ ((ji50) : Int) := qT qa1; have q111 : (ji50) < ((rd_L4 x108000_1 ((rd_T58 l1 x32_1).f0)).length : Int) := qT qa1; obtain ⟨ad111, e111, hx111_0, hx111_1⟩ := at_T43 qa102 (ji50) p111 q111
               cases e111
               replace p111 := eq_true p111; replace q111 := eq_true q111; have hx110d : w85.drew.cell? (ad110.add (((rd_T58 l1 x32_1).f0)).toNat) = some (.slice (some ad111) (rd_L4 x108000_1 ((rd_T58 l1 x32_1).f0)).length c110_0) := hx110_0; refine start_ (n := 12) (S := fun w' => w'.cell? ⟨gb107, 0, none⟩ = some (.slice (some ad110) x108000_1.length co90) ∧ w'.cell? ⟨gb107, 1, none⟩ = some (.int .i64 (wrap64 (t106 + 1))) ∧ w'.cell? (ad111.add (((ji50)).toNat * 2)) = some (.int .i64 ((rd_T43 (rd_L4 x108000_1 ((rd_T58 l1 x32_1).f0)) (ji50)).f0)) ∧ w'.cell? ⟨(ad111.add (((ji50)).toNat * 2)).block, (ad111.add (((ji50)).toNat * 2)).off + 1, none⟩ = some (.int .i64 ((rd_T43 (rd_L4 x108000_1 ((rd_T58 l1 x32_1).f0)) (ji50)).f1))) (ds := []) impl_Store_writeAll.y7 qa5 rfl rfl ⟨qc0 BK107.out, qc1 BK107.out, hx111_0, hx111_1⟩ (fun hHeld => ?_); refine with_tabW impl_Store_writeAll.tab12 impl_Store_writeAll.bits12 (fun HT_ HW_ => ?_); generalize w85.drew = w91 at HO_108000 HL110_0 BK101 BK102 BK107 BK109 HR110_0 HB hx111_0 hx111_1 hx110d hHeld ⊢; refine qPu 0 45 impl_Store_writeAll.y8 rfl rfl (any_of HT_.out qa5) qa8 qa2 ?_; refine qPu 1 46 impl_Store_writeAll.y9 rfl rfl (any_of HT_.out qa5) qa8 qa2 ?_; refine qPu 2 47 impl_Store_writeAll.y10 rfl rfl (any_of HT_.out qa5) qa8 qa2 ?_; refine qPu 3 48 impl_Store_writeAll.y11 rfl rfl (any_of HT_.out qa5) qa8 qa2 ?_; refine qPu 4 49 impl_Store_writeAll.y12 rfl rfl (any_of HT_.out qa5) qa8 qa2 ?_; refine qPu 5 50 impl_Store_writeAll.y13 rfl rfl (any_of HT_.out qa5) qa8 qa2 ?_; refine qPu 6 51 impl_Store_writeAll.y14 rfl rfl (any_of HT_.out qa5) qa8 qa2 ?_; refine qPu 8 53 impl_Store_writeAll.y15 rfl rfl (any_of HT_.out qa5) qa8 qa2 ?_; refine qTk 7 52 impl_Store_writeAll.y16 rfl rfl (take_ofW HT_.out HW_.out qa5) qa45 hHeld qa2 ?_; refine qTk 9 54 impl_Store_writeAll.y17 rfl rfl (take_ofW HT_.out HW_.out qa5) qa45 hHeld qa2 ?_; refine qPu 10 55 impl_Store_writeAll.y18 rfl rfl (any_of HT_.out qa5) qa8 qa2 ?_; refine qPu 11 56 impl_Store_writeAll.y19 rfl rfl (any_of HT_.out qa5) qa8 qa2 ?_; refine done_ (done_of HT_.out qa5) ?_; obtain ⟨hcz92_0, hcz92_1, hfz92_0, hfz92_1⟩ := qb2 BK107.out; obtain ⟨hcz93_0, hcz93_1, hfz93_0, hfz93_1⟩ := qb2 BK109.out; have p121 : 0 ≤ (((rd_T58 l1 x32_1).f0) : Int) := qT qa1; have q121 : ((rd_T58 l1 x32_1).f0) < (x108000_1.length : Int) := qT qa1; obtain ⟨ad121, A121_0, c121_0, e121, hx121_0, hl121_0, hi121_0⟩ := at_L4 (Kd.S_reads' HO_108000.out).2.2 ((rd_T58 l1 x32_1).f0) p121 q121; obtain rfl : ad110 = ad121 := (by injection e121); have ea_ := Option.some.inj (hx110d.symm.trans hx121_0); injection ea_ with ea_ en_ ec_; subst ea_; subst ec_; clear en_ hx110d; obtain ⟨ce121, hce121, hMe121, hcc121⟩ := Kd.S_get HO_108000.out [] ((rd_T58 l1 x32_1).f0) p121 (by first | exact q121 | exact qT (by first | (with_reducible assumption) | assumption) | (have e_ := (Kd.S_reads' HO_108000.out).1; omega)); obtain ⟨ve121_0, rfl, ge121_0⟩ := hMe121; have hv121_0 := hcc121 0 _ rfl; rw [Nat.add_zero, show ((Kd.slice 43 k43)).sz = 1 from rfl, Nat.mul_one] at hv121_0; replace hv121_0 := Option.some.inj (hv121_0.symm.trans hx121_0); rw [hv121_0] at ge121_0; have HL121_0 := qO (show Kd.R k43 43 _ _ _ _ (rd_L4 x108000_1 ((rd_T58 l1 x32_1).f0)) from ge121_0); clear hv121_0 ge121_0; have HX121_0 := qO hx121_0; clear hcc121 hce121; have HR121_0 := qO hi121_0; have HC121_0 := qO hl121_0; clear hi121_0 hl121_0; replace p121 := eq_true p121; replace q121 := eq_true q121; obtain ⟨go94, co94, eo94, gb94, gl94, cl94, HG94⟩ := Kd.S_form HO_108000.out (by have h_ : (((rd_T58 l1 x32_1).f0) : Int) < ((x108000_1.length : Int) : Int) := qT qa1; have h2_ : 0 ≤ (((rd_T58 l1 x32_1).f0) : Int) := (qT qa1); omega); (first | cases eo94 | (injection eo94 with ea_ en_ ec_; (first | subst ea_ | (injection ea_ with ea_; subst ea_)); subst ec_; clear en_)); have GB94 := qO gb94; have GG94 := qO HG94; clear gb94 gl94 HG94; (first | simp only [add_plain] at hx110_0 | skip); (first | simp only [add_plain] at hx121_0 | skip); obtain ⟨oki94, ce94, hcl94, hM94, hcc94, _, _, hH94⟩ := Kd.S_elem HO_108000.out [] (((rd_T58 l1 x32_1).f0) : Int) (qT qa1) (by have h_ : (((rd_T58 l1 x32_1).f0) : Int) < ((x108000_1.length : Int) : Int) := qT qa1; first | exact h_ | (have e_ := (Kd.S_reads' HO_108000.out).1; omega) | simpa using h_); obtain ⟨ve94_0, rfl, ge94_0⟩ := hM94; have hv94 := hcc94 0 _ rfl; have hX94 := HX121_0.out; (try simp only [add_plain] at hX94); (try simp only [Nat.add_zero] at hv94); (try rw [show ((Kd.slice 43 k43)).sz = 1 from rfl, Nat.mul_one] at hv94); replace hv94 := Option.some.inj (hv94.symm.trans hX94); subst hv94; clear hX94 hcc94 hcl94; have UU94 := qO (show Kd.R k43 43 _ w.heap.size oki94 (.slice (some ad111) (rd_L4 x108000_1 ((rd_T58 l1 x32_1).f0)).length c110_0) (rd_L4 x108000_1 ((rd_T58 l1 x32_1).f0)) from ge94_0); have HH94 := qO hH94; have HN94 := qO (Kd.S_reads' HO_108000.out).1; clear hH94 ge94_0
               try go_wp2
               replace HH94 := qO (Kd.H_drew HH94.out); replace UU94 := qO (Kd.R_drew UU94.out); replace HL110_0 := qO (Kd.R_drew HL110_0.out); replace HL121_0 := qO (Kd.R_drew HL121_0.out); replace BK101 := qO (qkD BK101.out); replace BK102 := qO (qkD BK102.out); replace BK107 := qO (qkD BK107.out); replace BK109 := qO (qkD BK109.out); replace HB := qO (qbD HB.out); refine start_ (n := 14) (S := fun w' => w'.cell? ⟨gb107, 0, none⟩ = some (.slice (some ⟨go94, 0, none⟩) x108000_1.length co90) ∧ w'.cell? ⟨gb107, 1, none⟩ = some (.int .i64 (wrap64 (t106 + 1))) ∧ w'.cell? ⟨gb109, 0, none⟩ = some (.int .i64 ((rd_T58 l1 x32_1).f0)) ∧ w'.cell? ⟨gb109, 1, none⟩ = some (.int .i64 ((rd_T58 l1 x32_1).f1))) (ds := [13]) #[qf,qf,qf,qf,qf,qf,qf,qf,qf,qf,qf,qf,qf,qf] qa5 rfl rfl ⟨qc0 BK107.out, qc1 BK107.out, qc0 BK109.out, qc1 BK109.out⟩ (fun hHeld => ?_); refine with_tabW impl_Store_writeAll.tab14 impl_Store_writeAll.bits14 (fun HT_ HW_ => ?_); generalize w91.drew = w14a_ at HH94 UU94 HL110_0 HL121_0 BK101 BK102 BK107 BK109 HB hHeld ⊢; refine qPu 0 60 #[qt,qf,qf,qf,qf,qf,qf,qf,qf,qf,qf,qf,qf,qf] rfl rfl (any_of HT_.out qa5) qa8 qa2 ?_; refine qPu 2 62 #[qt,qf,qt,qf,qf,qf,qf,qf,qf,qf,qf,qf,qf,qf] rfl rfl (any_of HT_.out qa5) qa8 qa2 ?_; refine qPu 5 65 #[qt,qf,qt,qf,qf,qt,qf,qf,qf,qf,qf,qf,qf,qf] rfl rfl (any_of HT_.out qa5) qa8 qa2 ?_; refine qPu 7 67 #[qt,qf,qt,qf,qf,qt,qf,qt,qf,qf,qf,qf,qf,qf] rfl rfl (any_of HT_.out qa5) qa8 qa2 ?_; refine qPu 4 64 #[qt,qf,qt,qf,qt,qt,qf,qt,qf,qf,qf,qf,qf,qf] rfl rfl (any_of HT_.out qa5) qa8 qa2 ?_; refine qTk 1 61 #[qt,qt,qt,qf,qt,qt,qf,qt,qf,qf,qf,qf,qf,qf] rfl rfl (take_ofW HT_.out HW_.out qa5) qa45 hHeld qa2 ?_; refine qTk 3 63 #[qt,qt,qt,qt,qt,qt,qf,qt,qf,qf,qf,qf,qf,qf] rfl rfl (take_ofW HT_.out HW_.out qa5) qa45 hHeld qa2 ?_; refine qTk 6 66 #[qt,qt,qt,qt,qt,qt,qt,qt,qf,qf,qf,qf,qf,qf] rfl rfl (take_ofW HT_.out HW_.out qa5) qa45 hHeld qa2 ?_; refine qTk 8 68 #[qt,qt,qt,qt,qt,qt,qt,qt,qt,qf,qf,qf,qf,qf] rfl rfl (take_ofW HT_.out HW_.out qa5) qa45 hHeld qa2 ?_; refine qPu 9 69 #[qt,qt,qt,qt,qt,qt,qt,qt,qt,qt,qf,qf,qf,qf] rfl rfl (any_of HT_.out qa5) qa8 qa2 ?_; refine one_ (i := 10) (N := some 70) #[qt,qt,qt,qt,qt,qt,qt,qt,qt,qt,qt,qf,qf,qf] rfl rfl (one_of HT_.out qa5) qa51 (fun K hK => ?_); refine Kd.R_lit_step k43 _ 43 ?hg (N := 70) ?hd (xs := ([(⟨(wrap64 (t106 + 1)), (rd_T58 l1 x32_1).f1⟩ : S43)] : List (S43))) (inner := [.int .i64 (wrap64 (t106 + 1)), .int .i64 ((rd_T58 l1 x32_1).f1)]) (ok := fun _ => True) (okp := fun _ => True) ?hr ?hp (fun _ hk => hk) trivial (Below.refl _ _) (Nat.le_refl _) qa117 ?_; (case hd => rfl); (case hg => rfl); (case hr => exact qa10); (case hp => exact qa80); intro v14_ w14b_ hol_ hb hg_ hnew_; clear hg_ hnew_; have hsz_ := hb.size; obtain ⟨Al_, cl_, el_⟩ := Kd.R_slice hol_; subst el_; have HOL_ := qO hol_; have HSZ_ := qO hsz_; clear hsz_ hol_; replace HH94 := qO (Kd.H_below (Kd.H_widen HH94.out) hb); replace UU94 := qO (Kd.R_below UU94.out hb); replace HL110_0 := qO (Kd.R_below HL110_0.out hb); replace HL121_0 := qO (Kd.R_below HL121_0.out hb); replace BK101 := qO (blk_below (g := gb101) BK101.out hb); replace BK102 := qO (blk_below (g := gb102) BK102.out hb); replace BK107 := qO (blk_below (g := gb107) BK107.out hb); replace BK109 := qO (blk_below (g := gb109) BK109.out hb); replace HB := qO (below_step HB.out hb); clear hb; refine hK.out _ _ ⟨qc0 BK107.out, qc1 BK107.out, qc0 BK109.out, qc1 BK109.out⟩ (fun hHeld => ?_); clear hK K; refine norm_ (a' := ?_) ?_ ?_; rotate_left
               ·exact qa11
               refine one_ (i := 11) (N := some 71) #[qt,qt,qt,qt,qt,qt,qt,qt,qt,qt,qt,qt,qf,qf] rfl rfl (one_of HT_.out qa5) qa51 (fun K hK => ?_); refine Kd.R_append_rows_step k43 (w0 := w) w.heap.size (by rfl) (.tmp 64) (.tmp 70) 41 43 (.agg #[(.int .i64 0), (.int .i64 0)]) 16 rfl Try.underlying41 info43 rfl qa51 qa29 (.slice (some ad111) (rd_L4 x108000_1 ((rd_T58 l1 x32_1).f0)).length c110_0) (rd_L4 x108000_1 ((rd_T58 l1 x32_1).f0)) [(⟨(wrap64 (t106 + 1)), (rd_T58 l1 x32_1).f1⟩ : S43)] _ _ _ (fun k_ => oki94 k_ ∨ ((fun _ => True)) k_ ∧ w14a_.heap.size ≤ k_) (fun _ => False) rfl rfl ?aO ?aR (fun _ _ h => h) (fun _ h => h.elim) ?aF ?aB ?aS ?aL ?_; (case aR => exact (Kd.R_reads' HOL_.out).2.2); (case aB => exact HB.out); (case aF => exact qa184); (case aO => exact Kd.R_mono UU94.out (fun _ hk => .inl hk)); (case aS => exact below_size HB.out); (case aL => simp only [List.length_cons, List.length_nil]; have := LMc78.out; omega); intro v123 w95 ho hb hg hat; rw [← Ny122.out] at ho; have n0_ := qO (blk_grown (g := gb101) (o := .cells #[.slice A0_0 l0_0.length c0_0, .int .i64 a0_1] 28 (0, 0)) qa17 hg (Kd.R_ne UU94.out BK101.out qa51)); have n1_ := qO (blk_grown (g := gb102) (o := .cells #[.slice none 0 0, .int .i64 0] 28 (0, 0)) qa28 hg (Kd.R_ne UU94.out BK102.out qa51)); have n2_ := qO (blk_grown (g := gb107) (o := .cells #[.slice (some ⟨go94, 0, none⟩) x108000_1.length co90, .int .i64 (wrap64 (t106 + 1))] 28 (0, 0)) qa75 hg (Kd.R_ne UU94.out BK107.out qa51)); have n3_ := qO (blk_grown (g := gb109) (o := .cells #[.int .i64 ((rd_T58 l1 x32_1).f0), .int .i64 ((rd_T58 l1 x32_1).f1)] 58 (0, 0)) qa97 hg (Kd.R_ne UU94.out BK109.out qa51)); have n4_ := qO (hb); have n5_ := qO (Kd.H_grown HH94.out hg (fun k_ e_ => .inl (UU94.out.1 k_ e_))); have n6_ := qO (ho); clear BK101 BK102 BK107 BK109 HB HH94 HO_108000 UU94 HL110_0 HL121_0; have BK101 := n0_; have BK102 := n1_; have BK107 := n2_; have BK109 := n3_; have HB := n4_; have HH94 := n5_; have HO124 := n6_; clear n0_ n1_ n2_ n3_ n4_ n5_ n6_ ho hb hg hat; have p79 : 0 ≤ (((rd_T58 l1 x32_1).f0) : Int) := qT qa1; have q79 : (((rd_T58 l1 x32_1).f0) : Int) < ((x108000_1.length : Int) : Int) := qT qa1; replace p79 := eq_true p79; replace q79 := eq_true q79; obtain ⟨Ao98, co98, eo98⟩ := Kd.R_slice HO124.out; subst eo98; obtain ⟨_, _, hraw96, _, _, hcc96, _⟩ := Kd.H_raw HH94.out (qT qa1) (by have h_ : (((rd_T58 l1 x32_1).f0) : Int) < ((x108000_1.length : Int) : Int) := qT qa1; first | exact h_ | (have e_ := (HN94.out); omega) | simpa using h_); obtain ⟨_, hfr96⟩ := Kd.H_at HH94.out (qT qa1) (by have h_ : (((rd_T58 l1 x32_1).f0) : Int) < ((x108000_1.length : Int) : Int) := qT qa1; first | exact h_ | (have e_ := (HN94.out); omega) | simpa using h_); have hx96_0 := hcc96 0 _ rfl; have hf96_0 := hfr96 0; (try simp only [Nat.add_zero] at hx96_0 hf96_0); (try rw [show ((Kd.slice 43 k43)).sz = 1 from rfl, Nat.mul_one] at hx96_0); (try rw [show ((Kd.slice 43 k43)).sz = 1 from rfl, Nat.mul_one] at hf96_0); have HP96 := Kd.S_seg0 HH94.out (qT qa1) (by have h_ : (((rd_T58 l1 x32_1).f0) : Int) < ((x108000_1.length : Int) : Int) := qT qa1; first | exact h_ | (have e_ := (HN94.out); omega) | simpa using h_) (seg := [.slice Ao98 y122.length co98]) (j := 0) (show 1 ≤ 1 from by decide) (x' := y122) (Kd.M_row HO124.out) (fun _ hk => hk); (try simp only [show ((Kd.slice 43 k43)).sz = 1 from rfl, Nat.mul_one, Nat.add_zero] at HP96); clear hcc96 hfr96; refine hK.out _ _ ⟨qc0 BK107.out, qc1 BK107.out, qc0 BK109.out, qc1 BK109.out⟩ (fun hHeld => ?_); clear hK K; refine norm_ (a' := ?_) ?_ ?_; rotate_left
               ·exact qa11
               refine qPu 12 72 #[qt,qt,qt,qt,qt,qt,qt,qt,qt,qt,qt,qt,qt,qf] rfl rfl (any_of HT_.out qa5) qa8 qa2 ?_; refine last_ (i := 13) (N := none) #[qt,qt,qt,qt,qt,qt,qt,qt,qt,qt,qt,qt,qt,qt] rfl rfl (one_of HT_.out qa5) qa51 (fun K hK => ?_); refine skip_ (w1 := (w95.setCell ⟨go94, (((rd_T58 l1 x32_1).f0) : Int).toNat, none⟩ (.slice Ao98 y122.length co98))) (by rfl) rfl ?hr ?_; (case hr => exact qa10); obtain ⟨w97, hw⟩ : ∃ x_, x_ = (w95.setCell ⟨go94, (((rd_T58 l1 x32_1).f0) : Int).toNat, none⟩ (.slice Ao98 y122.length co98)) := ⟨_, rfl⟩; rw [← hw]; have hg : w95.grownBy w97 (some go94) := (by rw [hw]; exact HP96.2); have hp_ : Kd.S (Kd.slice 43 k43) 41 w97 w.heap.size (fun _ => True) (.slice (some ⟨go94, 0, none⟩) x108000_1.length co90) y125 := (by rw [hw, Ny125.out]; exact HP96.1); clear HP96; have n0_ := qO (blk_grown (g := gb101) (o := .cells #[.slice A0_0 l0_0.length c0_0, .int .i64 a0_1] 28 (0, 0)) qa17 hg (Kd.R_ne hraw96 BK101.out qa51)); have n1_ := qO (blk_grown (g := gb102) (o := .cells #[.slice none 0 0, .int .i64 0] 28 (0, 0)) qa28 hg (Kd.R_ne hraw96 BK102.out qa51)); have n2_ := qO (blk_grown (g := gb107) (o := .cells #[.slice (some ⟨go94, 0, none⟩) x108000_1.length co90, .int .i64 (wrap64 (t106 + 1))] 28 (0, 0)) qa75 hg (Kd.R_ne hraw96 BK107.out qa51)); have n3_ := qO (blk_grown (g := gb109) (o := .cells #[.int .i64 ((rd_T58 l1 x32_1).f0), .int .i64 ((rd_T58 l1 x32_1).f1)] 58 (0, 0)) qa97 hg (Kd.R_ne hraw96 BK109.out qa51)); have n4_ := qO ((by rw [hw]; exact qbS HB.out GB94.out : Below w.heap.size w w97)); have n5_ := qO (hp_); clear BK101 BK102 BK107 BK109 HB HO124 HH94; have BK101 := n0_; have BK102 := n1_; have BK107 := n2_; have BK109 := n3_; have HB := n4_; have HO_108000 := n5_; clear n0_ n1_ n2_ n3_ n4_ n5_ hg hw hp_ hraw96; refine hK.out _ _ ?_; clear hK K; refine done_ (done_of HT_.out qa5) ?_
               try go_wp2
               go_roundg k1
               case measure => have := HK1.out; omega
               case rel => exact ⟨(wrap64 (x32_1 + 1)), (y125), (.slice (some ⟨go94, 0, none⟩) x108000_1.length co90), qa12, H', ⟨qa103⟩, ⟨qa88⟩, ⟨qa17⟩, ⟨qa28⟩, ⟨qa75⟩, ⟨qa93⟩⟩
              ·rw [if_neg c78] at H
               exact absurd H qa117
            ·rw [if_neg c52] at H
             exact absurd H qa117
           ·rw [if_neg c51] at H
            exact absurd H qa117
          ·rw [if_neg c49] at H
           have c49b0 : decide (0 ≤ (wrap64 (((rd_L4 x108000_1 ((rd_T58 l1 x32_1).f0)).length : Int) - 1))) = false := decide_eq_false c49; clear c49
           by_cases c99 : (rd_L4 x108000_1 ((rd_T58 l1 x32_1).f0)).length < 8796093022208
           ·rw [if_pos c99] at H
            have LMc99 := qO c99; clear c99; obtain ⟨y127, hy127⟩ : ∃ y_ : List (S43), y_ = ((rd_L4 x108000_1 ((rd_T58 l1 x32_1).f0)) ++ [(⟨(wrap64 (t106 + 1)), (rd_T58 l1 x32_1).f1⟩ : S43)]) := ⟨_, rfl⟩; replace H : (impl_Store_writeAll.l0 k1 l1 (l1.length : Int) (wrap64 (x32_1 + 1)) (x108000_1.set (((rd_T58 l1 x32_1).f0) : Int).toNat y127) (wrap64 (t106 + 1))) = some (r1, r2, r3, r4) := by first | (rw [hy127]; with_reducible exact H) | (have H2_ := (Option.bind_some _ _).symm.trans H; rw [hy127]; with_reducible exact H2_) | (have H2_ := (Option.bind_some _ _).symm.trans H; with_reducible exact H2_) | with_reducible exact H | (rw [hy127]; exact H) | exact H
            have Ny127 := qO hy127; clear hy127; obtain ⟨y130, hy130⟩ : ∃ y_ : List (List (S43)), y_ = (x108000_1.set (((rd_T58 l1 x32_1).f0) : Int).toNat y127) := ⟨_, rfl⟩; replace H : (impl_Store_writeAll.l0 k1 l1 (l1.length : Int) (wrap64 (x32_1 + 1)) y130 (wrap64 (t106 + 1))) = some (r1, r2, r3, r4) := by first | (rw [hy130]; with_reducible exact H) | (have H2_ := (Option.bind_some _ _).symm.trans H; rw [hy130]; with_reducible exact H2_) | (have H2_ := (Option.bind_some _ _).symm.trans H; with_reducible exact H2_) | with_reducible exact H | (rw [hy130]; exact H) | exact H
            have Ny130 := qO hy130; clear hy130; have H' := qO H; clear H; have p108 : 0 ≤ (x32_1 : Int) := qT qa1; have q108 : x32_1 < (l1.length : Int) := qT qa1; obtain ⟨ad108, e108, hx108_0, hx108_1⟩ := at_T58 HR1.out x32_1 p108 q108
            cases e108
            replace hx108_0 := (HB.out.cell (qL w _ hx108_0)).trans hx108_0; replace hx108_1 := (HB.out.cell (qL w _ hx108_1)).trans hx108_1; replace p108 := eq_true p108; replace q108 := eq_true q108
            try go_wp2_with (first | ((with_reducible refine gate_dst (N := 9) rfl ?_); refine qX 9 #[.int .i64 0, .int .i64 0] 58 ?_; intro gb109 hg w101 hbox hb; have hx_ := qHX HB hb qa0; have BK109 := qO (hbox); have GW109 := qO ((qa9 : w.heap.size ≤ gb109)); have GE109 := GW109; have NB101_109 := qO ((qa4 : gb101 ≠ gb109)); have NB109_101 := qO (Ne.symm NB101_109.out); have NB102_109 := qO ((qa42 : gb102 ≠ gb109)); have NB109_102 := qO (Ne.symm NB102_109.out); have NB107_109 := qO ((qa86 : gb107 ≠ gb109)); have NB109_107 := qO (Ne.symm NB107_109.out); replace HO_108000 := qO (Kd.S_below qa88 hb); replace BK101 := qO (qB BK101.out hx_ hb); replace BK102 := qO (qB BK102.out hx_ hb); replace BK107 := qO (qB BK107.out hx_ hb); replace HB := qO (below_step (below_step HB.out hx_) hb); clear hx_ hb hbox hg; have hnb102 := NB109_101.out; have hnc102 := NB101_109.out; have hnb103 := NB109_102.out; have hnc103 := NB102_109.out; have hnb104 := NB109_107.out; have hnc104 := NB107_109.out; obtain ⟨hcz105_0, hcz105_1, hfz105_0, hfz105_1⟩ := qb2 BK109.out) | ((with_reducible refine gate_store (t := 58) (p := 9) rfl ?_); refine store_event (t := 58) (p := 9) (v := ?vo_w106) (w1 := ((w101.setCell ⟨gb109, 0, none⟩ (.int .i64 ((rd_T58 l1 x32_1).f0))).setCell ⟨gb109, 1, none⟩ (.int .i64 ((rd_T58 l1 x32_1).f1)))) ?hg ?ho ?hn ?hr ?_; (case ho => rfl); (case hg => rfl); (case hn => rfl); (case hr => exact qa10); intro w106 hw; have n0_ : Aside0 (Kd.S (Kd.slice 43 k43) 41 w106 w.heap.size (fun _ => True) u108000 x108000_1) := ⟨qa57⟩; have n1_ : Aside0 (w106.heap[gb101]? = some (.cells #[.slice A0_0 l0_0.length c0_0, .int .i64 a0_1] 28 (0, 0))) := ⟨qa58⟩; have n2_ : Aside0 (w106.heap[gb102]? = some (.cells #[.slice none 0 0, .int .i64 0] 28 (0, 0))) := ⟨qa59⟩; have n3_ : Aside0 (w106.heap[gb107]? = some (.cells #[u108000, .int .i64 (wrap64 (t106 + 1))] 28 (0, 0))) := ⟨qa60⟩; have n4_ : Aside0 (w106.heap[gb109]? = some (.cells #[.int .i64 ((rd_T58 l1 x32_1).f0), .int .i64 ((rd_T58 l1 x32_1).f1)] 58 (0, 0))) := ⟨qa50⟩; have n5_ : Aside0 (Below w.heap.size w w106) := ⟨qa81⟩; clear hw HO_108000 BK101 BK102 BK107 BK109 HB; have HO_108000 := n0_; have BK101 := n1_; have BK102 := n2_; have BK107 := n3_; have BK109 := n4_; have HB := n5_; clear n0_ n1_ n2_ n3_ n4_ n5_; have hnb107 := NB107_101.out; have hnc107 := NB101_107.out; have hnb108 := NB107_102.out; have hnc108 := NB102_107.out; obtain ⟨hcz109_0, hcz109_1, hfz109_0, hfz109_1⟩ := qb2 BK107.out; obtain ⟨hcz110_0, hcz110_1, hfz110_0, hfz110_1⟩ := qb2 BK109.out; obtain ⟨Ao111, co111, eo111⟩ := Kd.S_slice HO_108000.out; subst eo111; have p110 : 0 ≤ (((rd_T58 l1 x32_1).f0) : Int) := qT qa1; have q110 : ((rd_T58 l1 x32_1).f0) < (x108000_1.length : Int) := qT qa1; obtain ⟨ad110, A110_0, c110_0, e110, hx110_0, hl110_0, hi110_0⟩ := at_L4 (Kd.S_reads' HO_108000.out).2.2 ((rd_T58 l1 x32_1).f0) p110 q110; cases e110; obtain ⟨ce110, hce110, hMe110, hcc110⟩ := Kd.S_get HO_108000.out [] ((rd_T58 l1 x32_1).f0) p110 qa132; obtain ⟨ve110_0, rfl, ge110_0⟩ := hMe110; have hv110_0 := hcc110 0 _ rfl; rw [Nat.add_zero, show ((Kd.slice 43 k43)).sz = 1 from rfl, Nat.mul_one] at hv110_0; replace hv110_0 := Option.some.inj (hv110_0.symm.trans hx110_0); rw [hv110_0] at ge110_0; have HL110_0 := qO (show Kd.R k43 43 _ _ _ _ (rd_L4 x108000_1 ((rd_T58 l1 x32_1).f0)) from ge110_0); clear hv110_0 ge110_0; have HX110_0 := qO hx110_0; clear hcc110 hce110; have HR110_0 := qO hi110_0; have HC110_0 := qO hl110_0; clear hi110_0 hl110_0; replace p110 := eq_true p110; replace q110 := eq_true q110))
            replace HO_108000 := qO (Kd.S_drew HO_108000.out); replace HL110_0 := qO (Kd.R_drew HL110_0.out); replace BK101 := qO (qkD BK101.out); replace BK102 := qO (qkD BK102.out); replace BK107 := qO (qkD BK107.out); replace BK109 := qO (qkD BK109.out); replace HR110_0 := qO (Kd.C_drew HR110_0.out); replace HB := qO (qbD HB.out); have hx110d : w106.drew.cell? (ad110.add (((rd_T58 l1 x32_1).f0)).toNat) = some (.slice A110_0 (rd_L4 x108000_1 ((rd_T58 l1 x32_1).f0)).length c110_0) := hx110_0; refine start_ (n := 12) (S := fun w' => True) (ds := []) impl_Store_writeAll.y7 qa5 rfl rfl trivial (fun hHeld => ?_); refine with_tabW impl_Store_writeAll.tab12 impl_Store_writeAll.bits12 (fun HT_ HW_ => ?_); generalize w106.drew = w112 at HO_108000 HL110_0 BK101 BK102 BK107 BK109 HR110_0 HB hx110d hHeld ⊢; refine qPu 0 45 impl_Store_writeAll.y8 rfl rfl (any_of HT_.out qa5) qa8 qa2 ?_; refine qPu 1 46 impl_Store_writeAll.y9 rfl rfl (any_of HT_.out qa5) qa8 qa2 ?_; refine qPu 2 47 impl_Store_writeAll.y10 rfl rfl (any_of HT_.out qa5) qa8 qa2 ?_; refine pure_ (i := 3) (N := some 48) (v := undef) (a' := ?_) impl_Store_writeAll.y11 rfl rfl (any_of HT_.out qa5) (fun _ _ _ h => h) (Or.inr ⟨by rfl, rfl⟩) ?_ ?_; rotate_left
            ·simp only [Act.put, qzA, qzB, qzC, i64_w, i32_w]
             rfl
            refine pure_ (i := 4) (N := some 49) (v := undef) (a' := ?_) impl_Store_writeAll.y12 rfl rfl (any_of HT_.out qa5) (fun _ _ _ h => h) (Or.inr ⟨by rfl, rfl⟩) ?_ ?_; rotate_left
            ·simp only [Act.put, qzA, qzB, qzC, i64_w, i32_w]
             rfl
            refine pure_ (i := 5) (N := some 50) (v := undef) (a' := ?_) impl_Store_writeAll.y13 rfl rfl (any_of HT_.out qa5) (fun _ _ _ h => h) (Or.inr ⟨by rfl, rfl⟩) ?_ ?_; rotate_left
            ·simp only [Act.put, qzA, qzB, qzC, i64_w, i32_w]
             rfl
            refine pure_ (i := 6) (N := some 51) (v := undef) (a' := ?_) impl_Store_writeAll.y14 rfl rfl (any_of HT_.out qa5) (fun _ _ _ h => h) (Or.inr ⟨by rfl, rfl⟩) ?_ ?_; rotate_left
            ·simp only [Act.put, qzA, qzB, qzC, i64_w, i32_w]
             rfl
            refine pure_ (i := 7) (N := some 52) (v := undef) (a' := ?_) impl_Store_writeAll.y20 rfl rfl (any_of HT_.out qa5) (fun _ _ _ h => h) (Or.inr ⟨by rfl, rfl⟩) ?_ ?_; rotate_left
            ·simp only [Act.put, qzA, qzB, qzC, i64_w, i32_w]
             rfl
            refine pure_ (i := 8) (N := some 53) (v := undef) (a' := ?_) impl_Store_writeAll.y16 rfl rfl (any_of HT_.out qa5) (fun _ _ _ h => h) (Or.inr ⟨by rfl, rfl⟩) ?_ ?_; rotate_left
            ·simp only [Act.put, qzA, qzB, qzC, i64_w, i32_w]
             rfl
            refine pure_ (i := 9) (N := some 54) (v := undef) (a' := ?_) impl_Store_writeAll.y17 rfl rfl (any_of HT_.out qa5) (fun _ _ _ h => h) (Or.inr ⟨by rfl, rfl⟩) ?_ ?_; rotate_left
            ·simp only [Act.put, qzA, qzB, qzC, i64_w, i32_w]
             rfl
            refine pure_ (i := 10) (N := some 55) (v := undef) (a' := ?_) impl_Store_writeAll.y18 rfl rfl (any_of HT_.out qa5) (fun _ _ _ h => h) (Or.inr ⟨by rfl, rfl⟩) ?_ ?_; rotate_left
            ·simp only [Act.put, qzA, qzB, qzC, i64_w, i32_w]
             rfl
            refine qPu 11 56 impl_Store_writeAll.y19 rfl rfl (any_of HT_.out qa5) qa8 qa2 ?_; refine done_ (done_of HT_.out qa5) ?_; obtain ⟨hcz113_0, hcz113_1, hfz113_0, hfz113_1⟩ := qb2 BK107.out; obtain ⟨hcz114_0, hcz114_1, hfz114_0, hfz114_1⟩ := qb2 BK109.out; have p126 : 0 ≤ (((rd_T58 l1 x32_1).f0) : Int) := qT qa1; have q126 : ((rd_T58 l1 x32_1).f0) < (x108000_1.length : Int) := qT qa1; obtain ⟨ad126, A126_0, c126_0, e126, hx126_0, hl126_0, hi126_0⟩ := at_L4 (Kd.S_reads' HO_108000.out).2.2 ((rd_T58 l1 x32_1).f0) p126 q126; obtain rfl : ad110 = ad126 := (by injection e126); have ea_ := Option.some.inj (hx110d.symm.trans hx126_0); injection ea_ with ea_ en_ ec_; subst ea_; subst ec_; clear en_ hx110d; obtain ⟨ce126, hce126, hMe126, hcc126⟩ := Kd.S_get HO_108000.out [] ((rd_T58 l1 x32_1).f0) p126 (by first | exact q126 | exact qT (by first | (with_reducible assumption) | assumption) | (have e_ := (Kd.S_reads' HO_108000.out).1; omega)); obtain ⟨ve126_0, rfl, ge126_0⟩ := hMe126; have hv126_0 := hcc126 0 _ rfl; rw [Nat.add_zero, show ((Kd.slice 43 k43)).sz = 1 from rfl, Nat.mul_one] at hv126_0; replace hv126_0 := Option.some.inj (hv126_0.symm.trans hx126_0); rw [hv126_0] at ge126_0; have HL126_0 := qO (show Kd.R k43 43 _ _ _ _ (rd_L4 x108000_1 ((rd_T58 l1 x32_1).f0)) from ge126_0); clear hv126_0 ge126_0; have HX126_0 := qO hx126_0; clear hcc126 hce126; have HR126_0 := qO hi126_0; have HC126_0 := qO hl126_0; clear hi126_0 hl126_0; replace p126 := eq_true p126; replace q126 := eq_true q126; obtain ⟨go115, co115, eo115, gb115, gl115, cl115, HG115⟩ := Kd.S_form HO_108000.out (by have h_ : (((rd_T58 l1 x32_1).f0) : Int) < ((x108000_1.length : Int) : Int) := qT qa1; have h2_ : 0 ≤ (((rd_T58 l1 x32_1).f0) : Int) := (qT qa1); omega); (first | cases eo115 | (injection eo115 with ea_ en_ ec_; (first | subst ea_ | (injection ea_ with ea_; subst ea_)); subst ec_; clear en_)); have GB115 := qO gb115; have GG115 := qO HG115; clear gb115 gl115 HG115; (first | simp only [add_plain] at hx110_0 | skip); (first | simp only [add_plain] at hx126_0 | skip); obtain ⟨oki115, ce115, hcl115, hM115, hcc115, _, _, hH115⟩ := Kd.S_elem HO_108000.out [] (((rd_T58 l1 x32_1).f0) : Int) (qT qa1) (by have h_ : (((rd_T58 l1 x32_1).f0) : Int) < ((x108000_1.length : Int) : Int) := qT qa1; first | exact h_ | (have e_ := (Kd.S_reads' HO_108000.out).1; omega) | simpa using h_); obtain ⟨ve115_0, rfl, ge115_0⟩ := hM115; have hv115 := hcc115 0 _ rfl; have hX115 := HX126_0.out; (try simp only [add_plain] at hX115); (try simp only [Nat.add_zero] at hv115); (try rw [show ((Kd.slice 43 k43)).sz = 1 from rfl, Nat.mul_one] at hv115); replace hv115 := Option.some.inj (hv115.symm.trans hX115); subst hv115; clear hX115 hcc115 hcl115; have UU115 := qO (show Kd.R k43 43 _ w.heap.size oki115 (.slice A110_0 (rd_L4 x108000_1 ((rd_T58 l1 x32_1).f0)).length c110_0) (rd_L4 x108000_1 ((rd_T58 l1 x32_1).f0)) from ge115_0); have HH115 := qO hH115; have HN115 := qO (Kd.S_reads' HO_108000.out).1; clear hH115 ge115_0
            try go_wp2
            replace HH115 := qO (Kd.H_drew HH115.out); replace UU115 := qO (Kd.R_drew UU115.out); replace HL110_0 := qO (Kd.R_drew HL110_0.out); replace HL126_0 := qO (Kd.R_drew HL126_0.out); replace BK101 := qO (qkD BK101.out); replace BK102 := qO (qkD BK102.out); replace BK107 := qO (qkD BK107.out); replace BK109 := qO (qkD BK109.out); replace HB := qO (qbD HB.out); refine start_ (n := 14) (S := fun w' => w'.cell? ⟨gb107, 0, none⟩ = some (.slice (some ⟨go115, 0, none⟩) x108000_1.length co111) ∧ w'.cell? ⟨gb107, 1, none⟩ = some (.int .i64 (wrap64 (t106 + 1))) ∧ w'.cell? ⟨gb109, 0, none⟩ = some (.int .i64 ((rd_T58 l1 x32_1).f0)) ∧ w'.cell? ⟨gb109, 1, none⟩ = some (.int .i64 ((rd_T58 l1 x32_1).f1))) (ds := [13]) #[qf,qf,qf,qf,qf,qf,qf,qf,qf,qf,qf,qf,qf,qf] qa5 rfl rfl ⟨qc0 BK107.out, qc1 BK107.out, qc0 BK109.out, qc1 BK109.out⟩ (fun hHeld => ?_); refine with_tabW impl_Store_writeAll.tab14 impl_Store_writeAll.bits14 (fun HT_ HW_ => ?_); generalize w112.drew = w14a_ at HH115 UU115 HL110_0 HL126_0 BK101 BK102 BK107 BK109 HB hHeld ⊢; refine qPu 0 60 #[qt,qf,qf,qf,qf,qf,qf,qf,qf,qf,qf,qf,qf,qf] rfl rfl (any_of HT_.out qa5) qa8 qa2 ?_; refine qPu 2 62 #[qt,qf,qt,qf,qf,qf,qf,qf,qf,qf,qf,qf,qf,qf] rfl rfl (any_of HT_.out qa5) qa8 qa2 ?_; refine qPu 5 65 #[qt,qf,qt,qf,qf,qt,qf,qf,qf,qf,qf,qf,qf,qf] rfl rfl (any_of HT_.out qa5) qa8 qa2 ?_; refine qPu 7 67 #[qt,qf,qt,qf,qf,qt,qf,qt,qf,qf,qf,qf,qf,qf] rfl rfl (any_of HT_.out qa5) qa8 qa2 ?_; refine qPu 4 64 #[qt,qf,qt,qf,qt,qt,qf,qt,qf,qf,qf,qf,qf,qf] rfl rfl (any_of HT_.out qa5) qa8 qa2 ?_; refine qTk 1 61 #[qt,qt,qt,qf,qt,qt,qf,qt,qf,qf,qf,qf,qf,qf] rfl rfl (take_ofW HT_.out HW_.out qa5) qa45 hHeld qa2 ?_; refine qTk 3 63 #[qt,qt,qt,qt,qt,qt,qf,qt,qf,qf,qf,qf,qf,qf] rfl rfl (take_ofW HT_.out HW_.out qa5) qa45 hHeld qa2 ?_; refine qTk 6 66 #[qt,qt,qt,qt,qt,qt,qt,qt,qf,qf,qf,qf,qf,qf] rfl rfl (take_ofW HT_.out HW_.out qa5) qa45 hHeld qa2 ?_; refine qTk 8 68 #[qt,qt,qt,qt,qt,qt,qt,qt,qt,qf,qf,qf,qf,qf] rfl rfl (take_ofW HT_.out HW_.out qa5) qa45 hHeld qa2 ?_; refine qPu 9 69 #[qt,qt,qt,qt,qt,qt,qt,qt,qt,qt,qf,qf,qf,qf] rfl rfl (any_of HT_.out qa5) qa8 qa2 ?_; refine one_ (i := 10) (N := some 70) #[qt,qt,qt,qt,qt,qt,qt,qt,qt,qt,qt,qf,qf,qf] rfl rfl (one_of HT_.out qa5) qa51 (fun K hK => ?_); refine Kd.R_lit_step k43 _ 43 ?hg (N := 70) ?hd (xs := ([(⟨(wrap64 (t106 + 1)), (rd_T58 l1 x32_1).f1⟩ : S43)] : List (S43))) (inner := [.int .i64 (wrap64 (t106 + 1)), .int .i64 ((rd_T58 l1 x32_1).f1)]) (ok := fun _ => True) (okp := fun _ => True) ?hr ?hp (fun _ hk => hk) trivial (Below.refl _ _) (Nat.le_refl _) qa117 ?_; (case hd => rfl); (case hg => rfl); (case hr => exact qa10); (case hp => exact qa80); intro v14_ w14b_ hol_ hb hg_ hnew_; clear hg_ hnew_; have hsz_ := hb.size; obtain ⟨Al_, cl_, el_⟩ := Kd.R_slice hol_; subst el_; have HOL_ := qO hol_; have HSZ_ := qO hsz_; clear hsz_ hol_; replace HH115 := qO (Kd.H_below (Kd.H_widen HH115.out) hb); replace UU115 := qO (Kd.R_below UU115.out hb); replace HL110_0 := qO (Kd.R_below HL110_0.out hb); replace HL126_0 := qO (Kd.R_below HL126_0.out hb); replace BK101 := qO (blk_below (g := gb101) BK101.out hb); replace BK102 := qO (blk_below (g := gb102) BK102.out hb); replace BK107 := qO (blk_below (g := gb107) BK107.out hb); replace BK109 := qO (blk_below (g := gb109) BK109.out hb); replace HB := qO (below_step HB.out hb); clear hb; refine hK.out _ _ ⟨qc0 BK107.out, qc1 BK107.out, qc0 BK109.out, qc1 BK109.out⟩ (fun hHeld => ?_); clear hK K; refine norm_ (a' := ?_) ?_ ?_; rotate_left
            ·exact qa11
            refine one_ (i := 11) (N := some 71) #[qt,qt,qt,qt,qt,qt,qt,qt,qt,qt,qt,qt,qf,qf] rfl rfl (one_of HT_.out qa5) qa51 (fun K hK => ?_); refine Kd.R_append_rows_step k43 (w0 := w) w.heap.size (by rfl) (.tmp 64) (.tmp 70) 41 43 (.agg #[(.int .i64 0), (.int .i64 0)]) 16 rfl Try.underlying41 info43 rfl qa51 qa29 (.slice A110_0 (rd_L4 x108000_1 ((rd_T58 l1 x32_1).f0)).length c110_0) (rd_L4 x108000_1 ((rd_T58 l1 x32_1).f0)) [(⟨(wrap64 (t106 + 1)), (rd_T58 l1 x32_1).f1⟩ : S43)] _ _ _ (fun k_ => oki115 k_ ∨ ((fun _ => True)) k_ ∧ w14a_.heap.size ≤ k_) (fun _ => False) rfl rfl ?aO ?aR (fun _ _ h => h) (fun _ h => h.elim) ?aF ?aB ?aS ?aL ?_; (case aR => exact (Kd.R_reads' HOL_.out).2.2); (case aB => exact HB.out); (case aF => exact qa184); (case aO => exact Kd.R_mono UU115.out (fun _ hk => .inl hk)); (case aS => exact below_size HB.out); (case aL => simp only [List.length_cons, List.length_nil]; have := LMc99.out; omega); intro v128 w116 ho hb hg hat; rw [← Ny127.out] at ho; have n0_ := qO (blk_grown (g := gb101) (o := .cells #[.slice A0_0 l0_0.length c0_0, .int .i64 a0_1] 28 (0, 0)) qa17 hg (Kd.R_ne UU115.out BK101.out qa51)); have n1_ := qO (blk_grown (g := gb102) (o := .cells #[.slice none 0 0, .int .i64 0] 28 (0, 0)) qa28 hg (Kd.R_ne UU115.out BK102.out qa51)); have n2_ := qO (blk_grown (g := gb107) (o := .cells #[.slice (some ⟨go115, 0, none⟩) x108000_1.length co111, .int .i64 (wrap64 (t106 + 1))] 28 (0, 0)) qa75 hg (Kd.R_ne UU115.out BK107.out qa51)); have n3_ := qO (blk_grown (g := gb109) (o := .cells #[.int .i64 ((rd_T58 l1 x32_1).f0), .int .i64 ((rd_T58 l1 x32_1).f1)] 58 (0, 0)) qa97 hg (Kd.R_ne UU115.out BK109.out qa51)); have n4_ := qO (hb); have n5_ := qO (Kd.H_grown HH115.out hg (fun k_ e_ => .inl (UU115.out.1 k_ e_))); have n6_ := qO (ho); clear BK101 BK102 BK107 BK109 HB HH115 HO_108000 UU115 HL110_0 HL126_0; have BK101 := n0_; have BK102 := n1_; have BK107 := n2_; have BK109 := n3_; have HB := n4_; have HH115 := n5_; have HO129 := n6_; clear n0_ n1_ n2_ n3_ n4_ n5_ n6_ ho hb hg hat; have p100 : 0 ≤ (((rd_T58 l1 x32_1).f0) : Int) := qT qa1; have q100 : (((rd_T58 l1 x32_1).f0) : Int) < ((x108000_1.length : Int) : Int) := qT qa1; replace p100 := eq_true p100; replace q100 := eq_true q100; obtain ⟨Ao119, co119, eo119⟩ := Kd.R_slice HO129.out; subst eo119; obtain ⟨_, _, hraw117, _, _, hcc117, _⟩ := Kd.H_raw HH115.out (qT qa1) (by have h_ : (((rd_T58 l1 x32_1).f0) : Int) < ((x108000_1.length : Int) : Int) := qT qa1; first | exact h_ | (have e_ := (HN115.out); omega) | simpa using h_); obtain ⟨_, hfr117⟩ := Kd.H_at HH115.out (qT qa1) (by have h_ : (((rd_T58 l1 x32_1).f0) : Int) < ((x108000_1.length : Int) : Int) := qT qa1; first | exact h_ | (have e_ := (HN115.out); omega) | simpa using h_); have hx117_0 := hcc117 0 _ rfl; have hf117_0 := hfr117 0; (try simp only [Nat.add_zero] at hx117_0 hf117_0); (try rw [show ((Kd.slice 43 k43)).sz = 1 from rfl, Nat.mul_one] at hx117_0); (try rw [show ((Kd.slice 43 k43)).sz = 1 from rfl, Nat.mul_one] at hf117_0); have HP117 := Kd.S_seg0 HH115.out (qT qa1) (by have h_ : (((rd_T58 l1 x32_1).f0) : Int) < ((x108000_1.length : Int) : Int) := qT qa1; first | exact h_ | (have e_ := (HN115.out); omega) | simpa using h_) (seg := [.slice Ao119 y127.length co119]) (j := 0) (show 1 ≤ 1 from by decide) (x' := y127) (Kd.M_row HO129.out) (fun _ hk => hk); (try simp only [show ((Kd.slice 43 k43)).sz = 1 from rfl, Nat.mul_one, Nat.add_zero] at HP117); clear hcc117 hfr117; refine hK.out _ _ ⟨qc0 BK107.out, qc1 BK107.out, qc0 BK109.out, qc1 BK109.out⟩ (fun hHeld => ?_); clear hK K; refine norm_ (a' := ?_) ?_ ?_; rotate_left
            ·exact qa11
            refine qPu 12 72 #[qt,qt,qt,qt,qt,qt,qt,qt,qt,qt,qt,qt,qt,qf] rfl rfl (any_of HT_.out qa5) qa8 qa2 ?_; refine last_ (i := 13) (N := none) #[qt,qt,qt,qt,qt,qt,qt,qt,qt,qt,qt,qt,qt,qt] rfl rfl (one_of HT_.out qa5) qa51 (fun K hK => ?_); refine skip_ (w1 := (w116.setCell ⟨go115, (((rd_T58 l1 x32_1).f0) : Int).toNat, none⟩ (.slice Ao119 y127.length co119))) (by rfl) rfl ?hr ?_; (case hr => exact qa10); obtain ⟨w118, hw⟩ : ∃ x_, x_ = (w116.setCell ⟨go115, (((rd_T58 l1 x32_1).f0) : Int).toNat, none⟩ (.slice Ao119 y127.length co119)) := ⟨_, rfl⟩; rw [← hw]; have hg : w116.grownBy w118 (some go115) := (by rw [hw]; exact HP117.2); have hp_ : Kd.S (Kd.slice 43 k43) 41 w118 w.heap.size (fun _ => True) (.slice (some ⟨go115, 0, none⟩) x108000_1.length co111) y130 := (by rw [hw, Ny130.out]; exact HP117.1); clear HP117; have n0_ := qO (blk_grown (g := gb101) (o := .cells #[.slice A0_0 l0_0.length c0_0, .int .i64 a0_1] 28 (0, 0)) qa17 hg (Kd.R_ne hraw117 BK101.out qa51)); have n1_ := qO (blk_grown (g := gb102) (o := .cells #[.slice none 0 0, .int .i64 0] 28 (0, 0)) qa28 hg (Kd.R_ne hraw117 BK102.out qa51)); have n2_ := qO (blk_grown (g := gb107) (o := .cells #[.slice (some ⟨go115, 0, none⟩) x108000_1.length co111, .int .i64 (wrap64 (t106 + 1))] 28 (0, 0)) qa75 hg (Kd.R_ne hraw117 BK107.out qa51)); have n3_ := qO (blk_grown (g := gb109) (o := .cells #[.int .i64 ((rd_T58 l1 x32_1).f0), .int .i64 ((rd_T58 l1 x32_1).f1)] 58 (0, 0)) qa97 hg (Kd.R_ne hraw117 BK109.out qa51)); have n4_ := qO ((by rw [hw]; exact qbS HB.out GB115.out : Below w.heap.size w w118)); have n5_ := qO (hp_); clear BK101 BK102 BK107 BK109 HB HO129 HH115; have BK101 := n0_; have BK102 := n1_; have BK107 := n2_; have BK109 := n3_; have HB := n4_; have HO_108000 := n5_; clear n0_ n1_ n2_ n3_ n4_ n5_ hg hw hp_ hraw117; refine hK.out _ _ ?_; clear hK K; refine done_ (done_of HT_.out qa5) ?_
            try go_wp2
            go_roundg k1
            case measure => have := HK1.out; omega
            case rel => exact ⟨(wrap64 (x32_1 + 1)), (y130), (.slice (some ⟨go115, 0, none⟩) x108000_1.length co111), qa12, H', ⟨qa103⟩, ⟨qa88⟩, ⟨qa17⟩, ⟨qa28⟩, ⟨qa75⟩, ⟨qa93⟩⟩
           ·rw [if_neg c99] at H
            exact absurd H qa117
         ·rw [if_neg c48] at H
          exact absurd H qa117
        ·rw [if_neg c47] at H
         exact absurd H qa117
       ·rw [if_neg c46] at H
        exact absurd H qa117
      ·rw [if_neg c45] at H
       exact absurd H qa117
     ·rw [if_neg c44] at H
      have c44b0 : decide (x32_1 < (l1.length : Int)) = false := decide_eq_false c44; clear c44; simp only [Option.some.injEq, Prod.mk.injEq] at H; obtain ⟨rfl, rfl, rfl, rfl⟩ := H
      try go_wp2
      replace HO_108000 := qO (Kd.S_drew HO_108000.out); replace BK101 := qO (qkD BK101.out); replace BK102 := qO (qkD BK102.out); replace BK107 := qO (qkD BK107.out); replace HB := qO (qbD HB.out); obtain ⟨Ao121, co121, eo121⟩ := Kd.S_slice HO_108000.out; (first | subst eo121 | (injection eo121 with f1_ f2_ f3_; have f4_ := f1_.symm; have f5_ := f3_.symm; clear f1_ f2_ f3_; subst f4_; subst f5_)); refine start_ (n := 6) (S := fun w' => w'.cell? ⟨gb107, 0, none⟩ = some (.slice Ao121 x108000_1.length co121) ∧ w'.cell? ⟨gb107, 1, none⟩ = some (.int .i64 (wrap64 (t106 + 1)))) (ds := []) impl_Store_writeAll.y0 qa5 rfl rfl ⟨qc0 BK107.out, qc1 BK107.out⟩ (fun hHeld => ?_); generalize wr.drew = w120 at HO_108000 BK101 BK102 BK107 HB hHeld ⊢; refine qPu 1 75 impl_Store_writeAll.y1 rfl rfl qa5 qa8 qa2 ?_; refine qTk 0 74 impl_Store_writeAll.y2 rfl rfl qa5 qa125 hHeld qa2 ?_; refine qTk 2 76 impl_Store_writeAll.y3 rfl rfl qa5 qa125 hHeld qa2 ?_; refine one_ (i := 3) (N := none) impl_Store_writeAll.y4 rfl rfl qa5 qa51 (fun K hK => ?_); have hs122 := qc0 BK102.out; have hfs122 := blk_frozen BK102.out 0; have hns122_0 := NB101_102.out; have hns122_2 := NB107_102.out; have hms122_0 := NB102_101.out; have hms122_2 := NB102_107.out; have hs123 := qc1 BK102.out; have hfs123 := blk_frozen BK102.out 1; have hns123_0 := NB101_102.out; have hns123_2 := NB107_102.out; have hms123_0 := NB102_101.out; have hms123_2 := NB102_107.out; refine skip_ (w1 := ?_) (by rfl) rfl ?_ ?_; rotate_left
      ·go_simp
       rfl
      refine hK.out _ _ ⟨((cell_far (p := ⟨gb102, _, none⟩) NB107_102.out _).trans (((cell_far (p := ⟨gb102, _, none⟩) NB107_102.out _).trans (hHeld.1)))), ((cell_far (p := ⟨gb102, _, none⟩) NB107_102.out _).trans (((cell_far (p := ⟨gb102, _, none⟩) NB107_102.out _).trans (hHeld.2))))⟩ (fun hHeld => ?_); clear hK K; refine qPu 4 5 impl_Store_writeAll.y5 rfl rfl qa5 qa8 qa2 ?_; refine qPu 5 6 impl_Store_writeAll.y6 rfl rfl qa5 qa8 qa2 ?_; refine done_ qa5 ?_
      try go_wp2
      refine bodyPost_ret (results_ctt rfl _ _ gb102 28 #[.slice Ao121 x108000_1.length co121, .int .i64 (wrap64 (t106 + 1))] (0, 0) _ rfl (by (with_reducible repeat (first | refine qkN ?_ _ | refine qkD ?_ | refine qkA ?_ _)); refine blk_put (cs := #[.slice Ao121 x108000_1.length co121, .int .i64 0]) ?_ 1 _ rfl; (with_reducible repeat (first | refine qkN ?_ _ | refine qkD ?_ | refine qkA ?_ _)); refine blk_put (cs := #[.slice none 0 0, .int .i64 0]) ?_ 0 _ rfl; (with_reducible repeat (first | refine qkN ?_ _ | refine qkD ?_ | refine qkA ?_ _)); exact BK102.out) Try.underlying28 rfl qa5) rfl ?_
      exact ⟨_, qa7, by (with_reducible repeat (first | apply Kd.S_alloc | apply Kd.S_drewN | apply Kd.S_drew)); exact Kd.S_mono (Kd.S_far (p := ⟨gb102, 1, none⟩) (Kd.S_far (p := ⟨gb102, 0, none⟩) (Kd.S_types HO_108000.out BK102.out (by decide)) (fun _ hk => hk.2) (.slice Ao121 x108000_1.length co121)) (fun _ hk => hk.2) (.int .i64 (wrap64 (t106 + 1)))) (fun _ hk => trivial), qa74⟩


/-- The first place at which p holds, or -1. -/
def slices_IndexFunc_int_int.fp (p : Int → Bool) (l0 : List Int) : Int := match l0.findIdx? p with | some i => (i : Int) | none => -1
theorem slices_IndexFunc_int_int.hit (p : Int → Bool) (l0 : List Int) (kk : Nat) (x : Int) (hx : l0[kk]? = some x) (hp : p x = true) (hno : ∀ j, j < kk → ∀ x, l0[j]? = some x → p x = false) : slices_IndexFunc_int_int.fp p l0 = kk := by
 unfold slices_IndexFunc_int_int.fp
 have h : l0.findIdx? p = some kk := by
  rw [List.findIdx?_eq_some_iff_getElem]; obtain ⟨hl, he⟩ := List.getElem?_eq_some_iff.1 hx
  exact ⟨hl, by rw [he]; exact hp, fun j hj => by rw [hno j hj _ (List.getElem?_eq_getElem (Nat.lt_trans hj hl))]; simp⟩
 rw [h]
theorem slices_IndexFunc_int_int.miss (p : Int → Bool) (l0 : List Int) (hno : ∀ j, j < l0.length → ∀ x, l0[j]? = some x → p x = false) : slices_IndexFunc_int_int.fp p l0 = -1 := by
 unfold slices_IndexFunc_int_int.fp
 have h : l0.findIdx? p = none := by
  rw [List.findIdx?_eq_none_iff]; intro x hx; obtain ⟨j, hj⟩ := List.getElem?_of_mem hx
  exact hno j (List.getElem?_eq_some_iff.1 hj).1 x hj
 rw [h]
set_option maxHeartbeats 4000000 in
set_option maxRecDepth 100000 in
theorem slices_IndexFunc_int_int.callsP (A0 : Option Addr) (c0 : Nat) (l0 : List Int) (g : Nat) (cb : Array Value) (p : Int → Bool) (w : World) (eg : ∀ args w, (callFunc g args).run Try.prog w = .ok (.enter g args) w) (hr0 : Kd.C (Kd.int .i64) w A0 l0.length l0)
  (hp : ∀ (W : World) (x : Int), x ∈ l0 → Below w.heap.size w W → Calls Try.prog g (#[.int .i64 x] ++ cb) W fun e w' => e = .returned (.bool (p x)) ∧ Below w.heap.size w w') :
  Calls Try.prog 133 #[.slice A0 l0.length c0, .func (.func g) #[] cb] w fun e w' => e = .returned (.int .i64 (slices_IndexFunc_int_int.fp p l0)) ∧ Below w.heap.size w w' := by
 have hlen := hr0.2.1; have HR := qO hr0; have HP := qO hp; clear hr0 hp; have isagg := Try.isAgg3
 go_enter Try.func133, Try.ntmps133
 go_wp2
 go_loopg [5, 8] l0.length (fun gg _ s8 wr => ∃ kk : Nat, kk ≤ l0.length ∧ l0.length - kk ≤ gg ∧ s8 = .int .i64 kk ∧ Aside0 (Below w.heap.size w wr) ∧ Aside0 (∀ j, j < kk → ∀ x, l0[j]? = some x → p x = false))
 case atStart => exact ⟨0, Nat.zero_le _, qa29, rfl, ⟨Below.refl _ w⟩, ⟨fun j hj => absurd hj (Nat.not_lt_zero _)⟩⟩
 case round =>
  obtain ⟨kk, hkk, hg, rfl, BW, No⟩ := hrel
  by_cases hlt : kk < l0.length
  ·have hltz : (kk : Int) < (l0.length : Int) := by omega
   obtain ⟨ad, e, hx0⟩ := Kd.at_int HR.out (kk : Int) qa29 hltz
   cases e
   replace hx0 := (BW.out.cell (qL w _ hx0)).trans hx0; simp only [Int.toNat_natCast] at hx0
   have hx : l0[kk]? = some (rd l0 (kk : Int)) := by
    rw [List.getElem?_eq_getElem hlt]
    show some l0[kk] = some (l0.getD (kk : Int).toNat _)
    rw [Int.toNat_natCast, List.getD_eq_getElem?_getD, List.getElem?_eq_getElem hlt]
    rfl
   skip
   have hcall := HP.out wr (rd l0 (kk : Int)) (List.mem_of_getElem? hx) BW.out; have HX := qO hx; clear hx; generalize rd l0 (kk : Int) = x at hcall HX hx0
   cases hq : p x with
   | true =>
    have HQ := qO hq; rw [hq] at hcall; clear hq
    go_wp2_with (go_at_fn g; refine hcall.mono ?_; rintro e w' ⟨rfl, hb'⟩)
    go_ret
    exact ⟨by rw [slices_IndexFunc_int_int.hit p l0 kk x HX.out HQ.out No.out]; rfl, hb'⟩
   | false =>
    have HQ := qO hq; rw [hq] at hcall; clear hq
    go_wp2_with (go_at_fn g; refine hcall.mono ?_; rintro e w' ⟨rfl, hb'⟩)
    go_roundg (l0.length - (kk + 1))
    case measure => omega
    case rel =>
     refine ⟨kk + 1, qa29, qa29, by go_num, ⟨hb'⟩, ⟨fun j hj x' hx' => ?_⟩⟩
     by_cases e : j = kk
     ·subst e
      rw [HX.out] at hx'; obtain rfl := Option.some.inj hx'
      exact HQ.out
     ·exact No.out j qa29 x' hx'
  ·have hltz : ¬ (kk : Int) < (l0.length : Int) := by omega
   have hk : kk = l0.length := by omega
   have HK := qO hk; clear hk; go_wp2
   go_ret
   exact ⟨by rw [slices_IndexFunc_int_int.miss p l0 (fun j hj => No.out j (by rw [HK.out]; exact hj))]; rfl, BW.out⟩


set_option maxHeartbeats 4000000 in
set_option maxRecDepth 100000 in
theorem slices_ContainsFunc_int_int.callsP (A0 : Option Addr) (c0 : Nat) (l0 : List Int) (g : Nat) (cb : Array Value) (p : Int → Bool) (w : World) (eg : ∀ args w, (callFunc g args).run Try.prog w = .ok (.enter g args) w) (hr0 : Kd.C (Kd.int .i64) w A0 l0.length l0)
  (hp : ∀ (W : World) (x : Int), x ∈ l0 → Below w.heap.size w W → Calls Try.prog g (#[.int .i64 x] ++ cb) W fun e w' => e = .returned (.bool (p x)) ∧ Below w.heap.size w w') :
  Calls Try.prog 121 #[.slice A0 l0.length c0, .func (.func g) #[] cb] w fun e w' => e = .returned (.bool (l0.any p)) ∧ Below w.heap.size w w' := by
 have hc := slices_IndexFunc_int_int.callsP A0 c0 l0 g cb p w eg hr0 hp
 have hany : decide (0 ≤ slices_IndexFunc_int_int.fp p l0) = l0.any p := by
  unfold slices_IndexFunc_int_int.fp
  cases hf : l0.findIdx? p with
  | none =>
   have h := List.findIdx?_eq_none_iff.1 hf
   have h2 : l0.any p = false := by
    rw [List.any_eq_false]; intro x hx; rw [h x hx]
    simp
   rw [h2]
   rfl
  | some i =>
   obtain ⟨hl, hi, _⟩ := List.findIdx?_eq_some_iff_getElem.1 hf; have h2 : l0.any p = true := List.any_eq_true.2 ⟨l0[i], List.getElem_mem hl, hi⟩; rw [h2]
   simp
 have HA := qO hany; clear hany hp; generalize slices_IndexFunc_int_int.fp p l0 = q at hc HA
 go_enter Try.func121, Try.ntmps121
 go_wp2_with (go_at_call 133; refine hc.mono ?_; rintro e w' ⟨rfl, hb'⟩)
 go_ret
 exact ⟨by rw [← HA.out]; rfl, hb'⟩


def impl_Store_changedSince.f (l0_0 : List (List (S43))) (a0_1 : Int) (a1 : Int) (a2 : Int) : Option (Bool) := if 0 ≤ a1 then (if a1 < (l0_0.length : Int) then (if ((rd_L4 l0_0 a1).length : Int) > 0 then (if 0 ≤ (wrap64 (((rd_L4 l0_0 a1).length : Int) - 1)) then (if (wrap64 (((rd_L4 l0_0 a1).length : Int) - 1)) < ((rd_L4 l0_0 a1).length : Int) then (some (decide (((rd_T43 (rd_L4 l0_0 a1) (wrap64 (((rd_L4 l0_0 a1).length : Int) - 1))).f0) > a2))) else (none)) else (none)) else (some false)) else (none)) else (none)
set_option maxHeartbeats 8000000 in
set_option maxRecDepth 100000 in
theorem impl_Store_changedSince.calls (A0_0 : Option Addr) (c0_0 : Nat) (l0_0 : List (List (S43))) (a0_1 : Int) (a1 : Int) (a2 : Int) (r : Bool) (w : World) (hr0_0 : Kd.C (Kd.slice 43 k43) w A0_0 l0_0.length l0_0) (hc0_0 : l0_0.length ≤ c0_0) (h : impl_Store_changedSince.f l0_0 a0_1 a1 a2 = some r) :
  Calls Try.prog 79 #[.agg #[.slice A0_0 l0_0.length c0_0, .int .i64 a0_1], .int .i64 a1, .int .i64 a2] w fun e w' => e = .returned (.bool r) ∧ Below w.heap.size w w' := by
 have hu28 := Try.underlying28; have HR0_0 := qO hr0_0; have HC0_0 := qO hc0_0; clear hr0_0 hc0_0; have HB := qO (Below.refl w.heap.size w); have H : (if 0 ≤ a1 then (if a1 < (l0_0.length : Int) then (if ((rd_L4 l0_0 a1).length : Int) > 0 then (if 0 ≤ (wrap64 (((rd_L4 l0_0 a1).length : Int) - 1)) then (if (wrap64 (((rd_L4 l0_0 a1).length : Int) - 1)) < ((rd_L4 l0_0 a1).length : Int) then (some (decide (((rd_T43 (rd_L4 l0_0 a1) (wrap64 (((rd_L4 l0_0 a1).length : Int) - 1))).f0) > a2))) else (none)) else (none)) else (some false)) else (none)) else (none)) = some r := h; clear h
 by_cases c4 : 0 ≤ a1
 ·rw [if_pos c4] at H
  have c4b0 : decide (0 ≤ a1) = true := decide_eq_true c4; clear c4
  by_cases c5 : a1 < (l0_0.length : Int)
  ·rw [if_pos c5] at H
   have c5b0 : decide (a1 < (l0_0.length : Int)) = true := decide_eq_true c5; clear c5
   by_cases c6 : ((rd_L4 l0_0 a1).length : Int) > 0
   ·rw [if_pos c6] at H
    have c6b0 : decide (0 < ((rd_L4 l0_0 a1).length : Int)) = true := decide_eq_true c6; have c6b1 : decide (0 < (rd_L4 l0_0 a1).length) = true := decide_eq_true qa29; clear c6; obtain ⟨ji7, hji7⟩ : ∃ j_ : Int, (wrap64 (((rd_L4 l0_0 a1).length : Int) - 1)) = j_ := ⟨_, rfl⟩; replace H : (if 0 ≤ (ji7) then (if (ji7) < ((rd_L4 l0_0 a1).length : Int) then (some (decide (((rd_T43 (rd_L4 l0_0 a1) (ji7)).f0) > a2))) else (none)) else (none)) = some r := by first | (rw [hji7] at H; exact H) | (simp only [hji7] at H ⊢; exact H)
    have hji7w : (IntKind.i64.wrap (((rd_L4 l0_0 a1).length : Int) - 1)) = ji7 := (i64_w _).trans hji7
    by_cases c8 : 0 ≤ (ji7)
    ·rw [if_pos c8] at H
     have c8b0 : decide (0 ≤ (ji7)) = true := decide_eq_true c8; clear c8
     by_cases c9 : (ji7) < ((rd_L4 l0_0 a1).length : Int)
     ·rw [if_pos c9] at H
      have c9b0 : decide ((ji7) < ((rd_L4 l0_0 a1).length : Int)) = true := decide_eq_true c9; clear c9; obtain rfl := Option.some.inj H
      go_enter Try.func79, Try.ntmps79
      go_wp2_with (first | ((with_reducible refine gate_dst (N := 3) rfl ?_); (try (refine gate_guard (by rfl) ?_; dsimp only)); refine qX 3 #[.slice A0_0 l0_0.length c0_0, .int .i64 a0_1] 28 ?_; intro gb101 hg w10 hbox hb; have hx_ := qHX HB hb qa0; have BK101 := qO (hbox); have GW101 := qO ((qa9 : w.heap.size ≤ gb101)); have GE101 := GW101; replace HB := qO (below_step (below_step HB.out hx_) hb); clear hx_ hb hbox hg; obtain ⟨hcz11_0, hcz11_1, hfz11_0, hfz11_1⟩ := qb2 BK101.out; have p102 : 0 ≤ (a1 : Int) := qT qa1; have q102 : a1 < (l0_0.length : Int) := qT qa1; obtain ⟨ad102, A102_0, c102_0, e102, hx102_0, hl102_0, hi102_0⟩ := at_L4 HR0_0.out a1 p102 q102; cases e102; replace hx102_0 := (HB.out.cell (qL w _ hx102_0)).trans hx102_0; have HR102_0 := qO hi102_0; have HC102_0 := qO hl102_0; clear hi102_0 hl102_0; replace p102 := eq_true p102; replace q102 := eq_true q102; have p103 : 0 ≤ ((ji7) : Int) := qT qa1; have q103 : (ji7) < ((rd_L4 l0_0 a1).length : Int) := qT qa1; obtain ⟨ad103, e103, hx103_0, hx103_1⟩ := at_T43 HR102_0.out (ji7) p103 q103; cases e103; replace hx103_0 := (HB.out.cell (qL w _ hx103_0)).trans hx103_0; replace hx103_1 := (HB.out.cell (qL w _ hx103_1)).trans hx103_1; replace p103 := eq_true p103; replace q103 := eq_true q103))
      go_ret
      exact ⟨qa138, qa14⟩
     ·rw [if_neg c9] at H
      exact absurd H qa117
    ·rw [if_neg c8] at H
     exact absurd H qa117
   ·rw [if_neg c6] at H
    have c6b0 : decide (0 < ((rd_L4 l0_0 a1).length : Int)) = false := decide_eq_false c6; have c6b1 : decide (0 < (rd_L4 l0_0 a1).length) = false := decide_eq_false qa29; clear c6; obtain rfl := Option.some.inj H
    go_enter Try.func79, Try.ntmps79
    go_wp2_with (first | ((with_reducible refine gate_dst (N := 3) rfl ?_); (try (refine gate_guard (by rfl) ?_; dsimp only)); refine qX 3 #[.slice A0_0 l0_0.length c0_0, .int .i64 a0_1] 28 ?_; intro gb101 hg w12 hbox hb; have hx_ := qHX HB hb qa0; have BK101 := qO (hbox); have GW101 := qO ((qa9 : w.heap.size ≤ gb101)); have GE101 := GW101; replace HB := qO (below_step (below_step HB.out hx_) hb); clear hx_ hb hbox hg; obtain ⟨hcz13_0, hcz13_1, hfz13_0, hfz13_1⟩ := qb2 BK101.out; have p102 : 0 ≤ (a1 : Int) := qT qa1; have q102 : a1 < (l0_0.length : Int) := qT qa1; obtain ⟨ad102, A102_0, c102_0, e102, hx102_0, hl102_0, hi102_0⟩ := at_L4 HR0_0.out a1 p102 q102; cases e102; replace hx102_0 := (HB.out.cell (qL w _ hx102_0)).trans hx102_0; have HR102_0 := qO hi102_0; have HC102_0 := qO hl102_0; clear hi102_0 hl102_0; replace p102 := eq_true p102; replace q102 := eq_true q102))
    go_ret
    exact ⟨qa7, qa14⟩
  ·rw [if_neg c5] at H
   exact absurd H qa117
 ·rw [if_neg c4] at H
  exact absurd H qa117


set_option maxHeartbeats 4000000 in
set_option maxRecDepth 100000 in
theorem impl_Store_conflicts_1.callsQ (A0_0 : Option Addr) (c0_0 : Nat) (l0_0 : List (List (S43))) (a0_1 : Int) (a1_0 : Int) (A1_1 : Option Addr) (c1_1 : Nat) (l1_1 : List Int) (A1_2 : Option Addr) (c1_2 : Nat) (l1_2 : List (S58)) (x : Int) (gs gt : Nat) (b : Bool) (w : World) (hr0_0 : Kd.C (Kd.slice 43 k43) w A0_0 l0_0.length l0_0) (hc0_0 : l0_0.length ≤ c0_0)
  (hs : w.heap[gs]? = some (.cells #[.slice A0_0 l0_0.length c0_0, .int .i64 a0_1] 28 (0, 0))) (ht : w.heap[gt]? = some (.cells #[.int .i64 a1_0, .slice A1_1 l1_1.length c1_1, .slice A1_2 l1_2.length c1_2] 65 (0, 0)))
  (h : impl_Store_changedSince.f l0_0 a0_1 x a1_0 = some b) :
  Calls Try.prog 122 #[.int .i64 x, .pointer (some ⟨gs, 0, none⟩), .pointer (some ⟨gt, 0, none⟩)] w fun e w' => e = .returned (.bool b) ∧ Below w.heap.size w w' := by
 have hu1 := Try.underlying28; have hu2 := Try.underlying65; have hcs0 : w.cell? ⟨gs, 0, none⟩ = some (.slice A0_0 l0_0.length c0_0) := (blk_cell hs 0).trans rfl; have hcs1 : w.cell? ⟨gs, 1, none⟩ = some (.int .i64 a0_1) := (blk_cell hs 1).trans rfl; have hct0 : w.cell? ⟨gt, 0, none⟩ = some (.int .i64 a1_0) := (blk_cell ht 0).trans rfl; have hc := qO (impl_Store_changedSince.calls A0_0 c0_0 l0_0 a0_1 x a1_0 b w hr0_0 hc0_0 h); clear h hr0_0 hc0_0 hs ht
 go_enter Try.func122, Try.ntmps122
 go_wp2_with (go_at_call 79; refine hc.out.mono ?_; rintro e w' ⟨rfl, hb⟩)
 go_ret
 exact ⟨rfl, hb⟩


def impl_Store_conflicts.p (l0_0 : List (List (S43))) (a0_1 : Int) (a1_0 : Int) (x : Int) : Bool := match impl_Store_changedSince.f l0_0 a0_1 x a1_0 with | some b => b | none => false
def impl_Store_conflicts.f (l0_0 : List (List (S43))) (a0_1 : Int) (a1_0 : Int) (l1_1 : List Int) (l1_2 : List (S58)) : Option Bool :=
 if (l1_2.length : Int) > 0 then (if (l1_1.all fun x => (impl_Store_changedSince.f l0_0 a0_1 x a1_0).isSome) = true then some (l1_1.any (impl_Store_conflicts.p l0_0 a0_1 a1_0)) else none) else some false
theorem impl_Store_conflicts.pe {l0_0 : List (List (S43))} {a0_1 a1_0 : Int} {l1_1 : List Int} (h : (l1_1.all fun x => (impl_Store_changedSince.f l0_0 a0_1 x a1_0).isSome) = true) (x : Int) (hx : x ∈ l1_1) : impl_Store_changedSince.f l0_0 a0_1 x a1_0 = some (impl_Store_conflicts.p l0_0 a0_1 a1_0 x) := by
 obtain ⟨b, hb⟩ := Option.isSome_iff_exists.1 (List.all_eq_true.1 h x hx)
 unfold impl_Store_conflicts.p
 rw [hb]
set_option maxHeartbeats 4000000 in
set_option maxRecDepth 100000 in
theorem impl_Store_conflicts.calls (A0_0 : Option Addr) (c0_0 : Nat) (l0_0 : List (List (S43))) (a0_1 : Int) (a1_0 : Int) (A1_1 : Option Addr) (c1_1 : Nat) (l1_1 : List Int) (A1_2 : Option Addr) (c1_2 : Nat) (l1_2 : List (S58)) (r : Bool) (w : World) (hr0_0 : Kd.C (Kd.slice 43 k43) w A0_0 l0_0.length l0_0) (hc0_0 : l0_0.length ≤ c0_0) (hr1_1 : Kd.C (Kd.int .i64) w A1_1 l1_1.length l1_1) (hc1_1 : l1_1.length ≤ c1_1) (hr1_2 : Kd.C k58 w A1_2 l1_2.length l1_2) (hc1_2 : l1_2.length ≤ c1_2) (h : impl_Store_conflicts.f l0_0 a0_1 a1_0 l1_1 l1_2 = some r) :
  Calls Try.prog 86 #[.agg #[.slice A0_0 l0_0.length c0_0, .int .i64 a0_1], .agg #[.int .i64 a1_0, .slice A1_1 l1_1.length c1_1, .slice A1_2 l1_2.length c1_2]] w fun e w' => e = .returned (.bool r) ∧ Below w.heap.size w w' := by
 have hu1 := Try.underlying28; have hu2 := Try.underlying65; have eg : ∀ args w, (callFunc 122 args).run Try.prog w = .ok (.enter 122 args) w := enters_of Try.func122 qa5 rfl
 unfold impl_Store_conflicts.f at h
 have HR0 := qO hr0_0; have HR1 := qO hr1_1; clear hr0_0 hr1_1 hr1_2 hc1_1 hc1_2
 by_cases hp : (l1_2.length : Int) > 0
 ·rw [if_pos hp] at h
  have hd : decide (0 < (l1_2.length : Int)) = true := decide_eq_true hp; have hd2 : decide (0 < l1_2.length) = true := decide_eq_true qa29; clear hp
  by_cases ha : (l1_1.all fun x => (impl_Store_changedSince.f l0_0 a0_1 x a1_0).isSome) = true
  ·rw [if_pos ha] at h
   obtain rfl := Option.some.inj h; have HA := qO ha; clear ha h; have EG := qO eg; clear eg; have HC0 := qO hc0_0; clear hc0_0; have HP := qO (rfl : l1_1.any (impl_Store_conflicts.p l0_0 a0_1 a1_0) = l1_1.any (impl_Store_conflicts.p l0_0 a0_1 a1_0))
   go_enter Try.func86, Try.ntmps86
   go_wp2_with (first
    | ((with_reducible refine gate_dst (N := 2) rfl ?_); refine qX 2 #[.slice A0_0 l0_0.length c0_0, .int .i64 a0_1] 28 ?_; intro gs hg w1 hbox hb; have B1 := qO hb; have K1 := qO hbox; clear hg hb hbox)
    | ((with_reducible refine gate_dst (N := 3) rfl ?_); refine qX 3 #[.int .i64 a1_0, .slice A1_1 l1_1.length c1_1, .slice A1_2 l1_2.length c1_2] 65 ?_; intro gt hg w2 hbox hb; have B2 := qO (below_step B1.out hb); have K2 := qO hbox; have K1' := qO (blk_below K1.out hb); have hct1 : w2.cell? ⟨gt, 1, none⟩ = some (.slice A1_1 l1_1.length c1_1) := (blk_cell hbox 1).trans rfl; have hct2 : w2.cell? ⟨gt, 2, none⟩ = some (.slice A1_2 l1_2.length c1_2) := (blk_cell hbox 2).trans rfl; clear hg hb hbox)
    | (go_at_call 121; refine (slices_ContainsFunc_int_int.callsP A1_1 c1_1 l1_1 122 #[.pointer (some ⟨gs, 0, none⟩), .pointer (some ⟨gt, 0, none⟩)] (impl_Store_conflicts.p l0_0 a0_1 a1_0) w2 EG.out (Kd.C_below HR1.out B2.out) (fun W x hx hb => (impl_Store_conflicts_1.callsQ A0_0 c0_0 l0_0 a0_1 a1_0 A1_1 c1_1 l1_1 A1_2 c1_2 l1_2 x gs gt _ W (Kd.C_below HR0.out (below_step B2.out hb)) HC0.out (blk_below K1'.out hb) (blk_below K2.out hb) (impl_Store_conflicts.pe HA.out x hx)).mono (by rintro e w' ⟨rfl, h2⟩; exact ⟨rfl, below_step hb h2⟩))).mono ?_; rintro e w3 ⟨rfl, hb3⟩))
   go_ret
   exact ⟨rfl, below_step B2.out hb3⟩
  ·rw [if_neg ha] at h
   cases h
 ·rw [if_neg hp] at h
  have hd : decide (0 < (l1_2.length : Int)) = false := decide_eq_false hp; have hd2 : decide (0 < l1_2.length) = false := decide_eq_false qa29; clear hp; obtain rfl := Option.some.inj h; clear h eg
  go_enter Try.func86, Try.ntmps86
  go_wp2_with (first
    | ((with_reducible refine gate_dst (N := 2) rfl ?_); refine qX 2 #[.slice A0_0 l0_0.length c0_0, .int .i64 a0_1] 28 ?_; intro gs hg w1 hbox hb; have B1 := qO hb; clear hg hb hbox)
    | ((with_reducible refine gate_dst (N := 3) rfl ?_); refine qX 3 #[.int .i64 a1_0, .slice A1_1 l1_1.length c1_1, .slice A1_2 l1_2.length c1_2] 65 ?_; intro gt hg w2 hbox hb; have B2 := qO (below_step B1.out hb); have hct2 : w2.cell? ⟨gt, 2, none⟩ = some (.slice A1_2 l1_2.length c1_2) := (blk_cell hbox 2).trans rfl; clear hg hb hbox))
  go_ret
  exact ⟨rfl, B2.out⟩


def impl_Store_commit.f (k : Nat) (l0_0 : List (List (S43))) (a0_1 : Int) (a1_0 : Int) (l1_1 : List Int) (l1_2 : List (S58)) : Option ((List (List (S43))) × Int × Int × Int) := if (l1_2.length : Int) = 0 then ((impl_copyStore.f k l0_0 a0_1).bind fun bt104 => (some (bt104.1, bt104.2, a1_0, 0))) else ((impl_Store_conflicts.f l0_0 a0_1 a1_0 l1_1 l1_2).bind fun t108 => (if t108 = true then ((impl_copyStore.f k l0_0 a0_1).bind fun bt109 => (some (bt109.1, bt109.2, 0, 16))) else ((impl_Store_writeAll.f k l0_0 a0_1 l1_2).bind fun bt113 => (some (bt113.1, bt113.2.1, bt113.2.2.1, bt113.2.2.2)))))
def impl_Store_commit.y0 := #[qf,qf,qf,qf,qf,qf,qf]
def impl_Store_commit.y1 := #[qf,qf,qt,qf,qf,qf,qf]
def impl_Store_commit.y2 := #[qt,qf,qt,qf,qf,qf,qf]
def impl_Store_commit.y3 := #[qt,qf,qt,qt,qf,qf,qf]
def impl_Store_commit.y4 := #[qt,qt,qt,qt,qf,qf,qf]
def impl_Store_commit.y5 := #[qt,qt,qt,qt,qt,qf,qf]
def impl_Store_commit.y6 := #[qt,qt,qt,qt,qt,qt,qf]
def impl_Store_commit.y7 := #[qt,qt,qt,qt,qt,qt,qt]
set_option maxHeartbeats 8000000 in
set_option maxRecDepth 100000 in
theorem impl_Store_commit.calls (k : Nat) (A0_0 : Option Addr) (c0_0 : Nat) (l0_0 : List (List (S43))) (a0_1 : Int) (a1_0 : Int) (A1_1 : Option Addr) (c1_1 : Nat) (l1_1 : List Int) (A1_2 : Option Addr) (c1_2 : Nat) (l1_2 : List (S58)) (r1 : List (List (S43))) (r2 : Int) (r3 : Int) (r4 : Int) (w : World) (hr0_0 : Kd.C (Kd.slice 43 k43) w A0_0 l0_0.length l0_0) (hc0_0 : l0_0.length ≤ c0_0) (hr1_1 : Kd.C (Kd.int .i64) w A1_1 l1_1.length l1_1) (hc1_1 : l1_1.length ≤ c1_1) (hr1_2 : Kd.C k58 w A1_2 l1_2.length l1_2) (hc1_2 : l1_2.length ≤ c1_2) (h : impl_Store_commit.f k l0_0 a0_1 a1_0 l1_1 l1_2 = some (r1, r2, r3, r4)) :
  Calls Try.prog 99 #[.agg #[.slice A0_0 l0_0.length c0_0, .int .i64 a0_1], .agg #[.int .i64 a1_0, .slice A1_1 l1_1.length c1_1, .slice A1_2 l1_2.length c1_2]] w fun e w' => ∃ v0_ : Value, e = .returned (.tuple #[.agg #[v0_, .int .i64 r2], .int .i64 r3, .int .i64 r4]) ∧ Kd.S (Kd.slice 43 k43) 41 w' w.heap.size (fun _ => True) v0_ r1 ∧ Below w.heap.size w w' := by
 have hu28 := Try.underlying28; have hu65 := Try.underlying65; have HR0_0 := qO hr0_0; have HC0_0 := qO hc0_0; clear hr0_0 hc0_0; have HR1_1 := qO hr1_1; have HC1_1 := qO hc1_1; clear hr1_1 hc1_1; have HR1_2 := qO hr1_2; have HC1_2 := qO hc1_2; clear hr1_2 hc1_2; have HB := qO (Below.refl w.heap.size w); have H : (if (l1_2.length : Int) = 0 then ((impl_copyStore.f k l0_0 a0_1).bind fun bt104 => (some (bt104.1, bt104.2, a1_0, 0))) else ((impl_Store_conflicts.f l0_0 a0_1 a1_0 l1_1 l1_2).bind fun t108 => (if t108 = true then ((impl_copyStore.f k l0_0 a0_1).bind fun bt109 => (some (bt109.1, bt109.2, 0, 16))) else ((impl_Store_writeAll.f k l0_0 a0_1 l1_2).bind fun bt113 => (some (bt113.1, bt113.2.1, bt113.2.2.1, bt113.2.2.2)))))) = some (r1, r2, r3, r4) := h; clear h
 by_cases c3 : (l1_2.length : Int) = 0
 ·rw [if_pos c3] at H
  have c3b0 : ((l1_2.length : Int) == 0) = true := beq_iff_eq.mpr c3; have c3b1 : ((l1_2.length : Int) != 0) = false := bne_eq_false_iff_eq.mpr c3; clear c3; replace H := Option.bind_eq_some_iff.mp H; obtain ⟨⟨t104, t107⟩, A40, H⟩ := H; replace H : (some (t104, t107, a1_0, 0)) = some (r1, r2, r3, r4) := H; have A4 := qO A40; clear A40; simp only [Option.some.injEq, Prod.mk.injEq] at H; obtain ⟨rfl, rfl, rfl, rfl⟩ := H
  go_enter Try.func99, Try.ntmps99
  try go_wp2_with (first | ((with_reducible refine gate_dst (N := 2) rfl ?_); refine qX 2 #[.slice A0_0 l0_0.length c0_0, .int .i64 a0_1] 28 ?_; intro gb101 hg w5 hbox hb; have hx_ := qHX HB hb qa0; have BK101 := qO (hbox); have GW101 := qO ((qa9 : w.heap.size ≤ gb101)); have GE101 := GW101; replace HB := qO (below_step (below_step HB.out hx_) hb); clear hx_ hb hbox hg) | ((with_reducible refine gate_dst (N := 3) rfl ?_); refine qX 3 #[.int .i64 a1_0, .slice A1_1 l1_1.length c1_1, .slice A1_2 l1_2.length c1_2] 65 ?_; intro gb102 hg w6 hbox hb; have hx_ := qHX HB hb qa0; have BK102 := qO (hbox); have GW102 := qO ((qa9 : w.heap.size ≤ gb102)); have GE102 := GW102; have NB101_102 := qO ((qa4 : gb101 ≠ gb102)); have NB102_101 := qO (Ne.symm NB101_102.out); replace BK101 := qO (qB BK101.out hx_ hb); replace HB := qO (below_step (below_step HB.out hx_) hb); clear hx_ hb hbox hg) | ((with_reducible refine gate_dst (N := 4) rfl ?_); refine qX 4 #[.slice none 0 0, .int .i64 0] 28 ?_; intro gb103 hg w7 hbox hb; have hx_ := qHX HB hb qa0; have BK103 := qO (hbox); have GW103 := qO ((qa9 : w.heap.size ≤ gb103)); have GE103 := GW103; have NB101_103 := qO ((qa4 : gb101 ≠ gb103)); have NB103_101 := qO (Ne.symm NB101_103.out); have NB102_103 := qO ((qa20 : gb102 ≠ gb103)); have NB103_102 := qO (Ne.symm NB102_103.out); replace BK101 := qO (qB BK101.out hx_ hb); replace BK102 := qO (qB BK102.out hx_ hb); replace HB := qO (below_step (below_step HB.out hx_) hb); clear hx_ hb hbox hg; have hnb8 := NB102_101.out; have hnc8 := NB101_102.out; have hnb9 := NB102_103.out; have hnc9 := NB103_102.out; obtain ⟨hcz10_0, hcz10_1, hcz10_2, hfz10_0, hfz10_1, hfz10_2⟩ := qb3 BK102.out))
  replace BK101 := qO (qkD BK101.out); replace BK102 := qO (qkD BK102.out); replace BK103 := qO (qkD BK103.out); replace HB := qO (qbD HB.out); refine start_ (n := 7) (S := fun w' => w'.cell? ⟨gb101, 0, none⟩ = some (.slice A0_0 l0_0.length c0_0) ∧ w'.cell? ⟨gb101, 1, none⟩ = some (.int .i64 a0_1) ∧ w'.cell? ⟨gb102, 0, none⟩ = some (.int .i64 a1_0) ∧ w'.cell? ⟨gb102, 1, none⟩ = some (.slice A1_1 l1_1.length c1_1) ∧ w'.cell? ⟨gb102, 2, none⟩ = some (.slice A1_2 l1_2.length c1_2)) (ds := []) impl_Store_commit.y0 qa5 rfl rfl ⟨qc0 BK101.out, qc1 BK101.out, qc0 BK102.out, qc1 BK102.out, qc2 BK102.out⟩ (fun hHeld => ?_); generalize w7.drew = w11 at BK101 BK102 BK103 HB hHeld ⊢; refine qPu 2 14 impl_Store_commit.y1 rfl rfl qa5 qa8 qa2 ?_; refine qTk 0 12 impl_Store_commit.y2 rfl rfl qa5 qa65 hHeld qa2 ?_; refine qTk 3 15 impl_Store_commit.y3 rfl rfl qa5 qa65 hHeld qa2 ?_; refine one_ (i := 1) (N := some 13) impl_Store_commit.y4 rfl rfl qa5 qa51 (fun K hK => ?_); refine goes_ Try.func102 qa5 rfl #[.agg #[.slice A0_0 l0_0.length c0_0, .int .i64 a0_1]] (by rfl) rfl rfl qa3 ?_; (with_reducible refine (impl_copyStore.calls k _ _ l0_0 a0_1 t104 t107 _ ?side1 ?side2 A4.out).mono ?_); (case side1 => exact qa18); (case side2 => exact HC0_0.out); rintro e w12 ⟨v105, rfl, ho0, hb⟩; have hx_ := qHX HB hb qa0; refine ⟨_, rfl, ?_⟩; have HO106 := qO (Kd.S_lower ho0 (below_size (below_step HB.out hx_))); replace BK101 := qO (qB BK101.out hx_ hb); replace BK102 := qO (qB BK102.out hx_ hb); replace BK103 := qO (qB BK103.out hx_ hb); replace HB := qO (below_step (below_step HB.out hx_) hb); clear hx_; (try clear hb); (try clear hb2); (try clear hk); (try clear hi); (try clear ho0); obtain ⟨Ao13, co13, eo13⟩ := Kd.S_slice HO106.out; (first | subst eo13 | (injection eo13 with f1_ f2_ f3_; have f4_ := f1_.symm; have f5_ := f3_.symm; clear f1_ f2_ f3_; subst f4_; subst f5_)); refine hK.out _ _ ⟨qc0 BK101.out, qc1 BK101.out, qc0 BK102.out, qc1 BK102.out, qc2 BK102.out⟩ (fun hHeld => ?_); clear hK K; refine norm_ (a' := ?_) ?_ ?_; rotate_left
  ·exact qa11
  refine one_ (i := 4) (N := none) impl_Store_commit.y5 rfl rfl qa5 qa51 (fun K hK => ?_); have hs14 := qc0 BK103.out; have hfs14 := blk_frozen BK103.out 0; have hns14_0 := NB101_103.out; have hns14_1 := NB102_103.out; have hms14_0 := NB103_101.out; have hms14_1 := NB103_102.out; have hs15 := qc1 BK103.out; have hfs15 := blk_frozen BK103.out 1; have hns15_0 := NB101_103.out; have hns15_1 := NB102_103.out; have hms15_0 := NB103_101.out; have hms15_1 := NB103_102.out; refine skip_ (w1 := ?_) (by rfl) rfl ?_ ?_; rotate_left
  ·go_simp
   rfl
  refine hK.out _ _ ⟨((cell_far (p := ⟨gb103, _, none⟩) NB101_103.out _).trans (((cell_far (p := ⟨gb103, _, none⟩) NB101_103.out _).trans (hHeld.1)))), ((cell_far (p := ⟨gb103, _, none⟩) NB101_103.out _).trans (((cell_far (p := ⟨gb103, _, none⟩) NB101_103.out _).trans (hHeld.2.1)))), ((cell_far (p := ⟨gb103, _, none⟩) NB102_103.out _).trans (((cell_far (p := ⟨gb103, _, none⟩) NB102_103.out _).trans (hHeld.2.2.1)))), ((cell_far (p := ⟨gb103, _, none⟩) NB102_103.out _).trans (((cell_far (p := ⟨gb103, _, none⟩) NB102_103.out _).trans (hHeld.2.2.2.1)))), ((cell_far (p := ⟨gb103, _, none⟩) NB102_103.out _).trans (((cell_far (p := ⟨gb103, _, none⟩) NB102_103.out _).trans (hHeld.2.2.2.2))))⟩ (fun hHeld => ?_); clear hK K; refine qPu 5 5 impl_Store_commit.y6 rfl rfl qa5 qa8 qa2 ?_; refine qPu 6 6 impl_Store_commit.y7 rfl rfl qa5 qa8 qa2 ?_; refine done_ qa5 ?_
  try go_wp2
  refine bodyPost_ret (results_ctt rfl _ _ gb103 28 #[.slice Ao13 t104.length co13, .int .i64 t107] (0, 0) _ rfl (by (with_reducible repeat (first | refine qkN ?_ _ | refine qkD ?_ | refine qkA ?_ _)); refine blk_put (cs := #[.slice Ao13 t104.length co13, .int .i64 0]) ?_ 1 _ rfl; (with_reducible repeat (first | refine qkN ?_ _ | refine qkD ?_ | refine qkA ?_ _)); refine blk_put (cs := #[.slice none 0 0, .int .i64 0]) ?_ 0 _ rfl; (with_reducible repeat (first | refine qkN ?_ _ | refine qkD ?_ | refine qkA ?_ _)); exact BK103.out) Try.underlying28 rfl qa5) rfl ?_
  exact ⟨_, qa7, by (with_reducible repeat (first | apply Kd.S_alloc | apply Kd.S_drewN | apply Kd.S_drew)); exact Kd.S_mono (Kd.S_far (p := ⟨gb103, 1, none⟩) (Kd.S_far (p := ⟨gb103, 0, none⟩) (Kd.S_types HO106.out BK103.out (by decide)) (fun _ hk => hk.2) (.slice Ao13 t104.length co13)) (fun _ hk => hk.2) (.int .i64 t107)) (fun _ hk => trivial), qa19⟩
 ·rw [if_neg c3] at H
  have c3b0 : ((l1_2.length : Int) == 0) = false := beq_eq_false_iff_ne.mpr c3; have c3b1 : ((l1_2.length : Int) != 0) = true := bne_iff_ne.mpr c3; have c3b2 : ¬ (l1_2 = []) := fun h_ => c3 (by rw [h_]; rfl)
  replace H := Option.bind_eq_some_iff.mp H; obtain ⟨t108, A160, H⟩ := H; replace H : (if t108 = true then ((impl_copyStore.f k l0_0 a0_1).bind fun bt109 => (some (bt109.1, bt109.2, 0, 16))) else ((impl_Store_writeAll.f k l0_0 a0_1 l1_2).bind fun bt113 => (some (bt113.1, bt113.2.1, bt113.2.2.1, bt113.2.2.2)))) = some (r1, r2, r3, r4) := H; have A16 := qO A160; clear A160
  by_cases c17 : t108 = true
  ·subst c17
   have H1 : ((impl_copyStore.f k l0_0 a0_1).bind fun bt109 => (some (bt109.1, bt109.2, 0, 16))) = some (r1, r2, r3, r4) := by rw [if_pos rfl] at H; exact H
   clear H; have H := H1; clear H1; replace H := Option.bind_eq_some_iff.mp H; obtain ⟨⟨t109, t112⟩, A180, H⟩ := H; replace H : (some (t109, t112, 0, 16)) = some (r1, r2, r3, r4) := H; have A18 := qO A180; clear A180; simp only [Option.some.injEq, Prod.mk.injEq] at H; obtain ⟨rfl, rfl, rfl, rfl⟩ := H
   go_enter Try.func99, Try.ntmps99
   go_wp2_with (first | ((with_reducible refine gate_dst (N := 2) rfl ?_); refine qX 2 #[.slice A0_0 l0_0.length c0_0, .int .i64 a0_1] 28 ?_; intro gb101 hg w19 hbox hb; have hx_ := qHX HB hb qa0; have BK101 := qO (hbox); have GW101 := qO ((qa9 : w.heap.size ≤ gb101)); have GE101 := GW101; replace HB := qO (below_step (below_step HB.out hx_) hb); clear hx_ hb hbox hg) | ((with_reducible refine gate_dst (N := 3) rfl ?_); refine qX 3 #[.int .i64 a1_0, .slice A1_1 l1_1.length c1_1, .slice A1_2 l1_2.length c1_2] 65 ?_; intro gb102 hg w20 hbox hb; have hx_ := qHX HB hb qa0; have BK102 := qO (hbox); have GW102 := qO ((qa9 : w.heap.size ≤ gb102)); have GE102 := GW102; have NB101_102 := qO ((qa4 : gb101 ≠ gb102)); have NB102_101 := qO (Ne.symm NB101_102.out); replace BK101 := qO (qB BK101.out hx_ hb); replace HB := qO (below_step (below_step HB.out hx_) hb); clear hx_ hb hbox hg) | ((with_reducible refine gate_dst (N := 4) rfl ?_); refine qX 4 #[.slice none 0 0, .int .i64 0] 28 ?_; intro gb103 hg w21 hbox hb; have hx_ := qHX HB hb qa0; have BK103 := qO (hbox); have GW103 := qO ((qa9 : w.heap.size ≤ gb103)); have GE103 := GW103; have NB101_103 := qO ((qa4 : gb101 ≠ gb103)); have NB103_101 := qO (Ne.symm NB101_103.out); have NB102_103 := qO ((qa20 : gb102 ≠ gb103)); have NB103_102 := qO (Ne.symm NB102_103.out); replace BK101 := qO (qB BK101.out hx_ hb); replace BK102 := qO (qB BK102.out hx_ hb); replace HB := qO (below_step (below_step HB.out hx_) hb); clear hx_ hb hbox hg; have hnb22 := NB102_101.out; have hnc22 := NB101_102.out; have hnb23 := NB102_103.out; have hnc23 := NB103_102.out; obtain ⟨hcz24_0, hcz24_1, hcz24_2, hfz24_0, hfz24_1, hfz24_2⟩ := qb3 BK102.out; have hnb25 := NB101_103.out; have hnc25 := NB103_101.out; obtain ⟨hcz26_0, hcz26_1, hfz26_0, hfz26_1⟩ := qb2 BK101.out) | ((with_reducible refine gate_callee (f := 86) rfl ?_); refine goesL_ (some 19) rfl rfl Try.func86 qa5 rfl #[.agg #[.slice A0_0 l0_0.length c0_0, .int .i64 a0_1], .agg #[.int .i64 a1_0, .slice A1_1 l1_1.length c1_1, .slice A1_2 l1_2.length c1_2]] rfl qa3 ?_; (with_reducible refine (impl_Store_conflicts.calls _ _ l0_0 a0_1 a1_0 _ _ l1_1 _ _ l1_2 true _ ?side1 ?side2 ?side3 ?side4 ?side5 ?side6 A16.out).mono ?_); (case side1 => exact qa18); (case side2 => exact HC0_0.out); (case side3 => exact qa37); (case side4 => exact HC1_1.out); (case side5 => exact qa38); (case side6 => exact HC1_2.out); rintro e w27 ⟨rfl, hb⟩; have hx_ := qHX HB hb qa0; refine ⟨_, rfl, ?_⟩; replace BK101 := qO (qB BK101.out hx_ hb); replace BK102 := qO (qB BK102.out hx_ hb); replace BK103 := qO (qB BK103.out hx_ hb); replace HB := qO (below_step (below_step HB.out hx_) hb); clear hx_; (try clear hb); (try clear hb2); (try clear hk); (try clear hi); obtain ⟨hcz28_0, hcz28_1, hfz28_0, hfz28_1⟩ := qb2 BK101.out) | ((with_reducible refine gate_callee (f := 102) rfl ?_); refine goesL_ (some 21) rfl rfl Try.func102 qa5 rfl #[.agg #[.slice A0_0 l0_0.length c0_0, .int .i64 a0_1]] rfl qa3 ?_; (with_reducible refine (impl_copyStore.calls k _ _ l0_0 a0_1 t109 t112 _ ?side1 ?side2 A18.out).mono ?_); (case side1 => exact qa18); (case side2 => exact HC0_0.out); rintro e w29 ⟨v110, rfl, ho0, hb⟩; have hx_ := qHX HB hb qa0; refine ⟨_, rfl, ?_⟩; have HO111 := qO (Kd.S_lower ho0 (below_size (below_step HB.out hx_))); replace BK101 := qO (qB BK101.out hx_ hb); replace BK102 := qO (qB BK102.out hx_ hb); replace BK103 := qO (qB BK103.out hx_ hb); replace HB := qO (below_step (below_step HB.out hx_) hb); clear hx_; (try clear hb); (try clear hb2); (try clear hk); (try clear hi); (try clear ho0); obtain ⟨Ao30, co30, eo30⟩ := Kd.S_slice HO111.out; subst eo30; obtain ⟨hcz31_0, hcz31_1, hfz31_0, hfz31_1⟩ := qb2 BK103.out))
   refine bodyPost_ret (results_ctt rfl _ _ gb103 28 #[.slice Ao30 t109.length co30, .int .i64 t112] (0, 0) _ rfl (by (with_reducible repeat (first | refine qkN ?_ _ | refine qkD ?_ | refine qkA ?_ _)); refine blk_put (cs := #[.slice Ao30 t109.length co30, .int .i64 0]) ?_ 1 _ rfl; (with_reducible repeat (first | refine qkN ?_ _ | refine qkD ?_ | refine qkA ?_ _)); refine blk_put (cs := #[.slice none 0 0, .int .i64 0]) ?_ 0 _ rfl; (with_reducible repeat (first | refine qkN ?_ _ | refine qkD ?_ | refine qkA ?_ _)); exact BK103.out) Try.underlying28 rfl qa5) rfl ?_
   exact ⟨_, qa7, by (with_reducible repeat (first | apply Kd.S_alloc | apply Kd.S_drewN | apply Kd.S_drew)); exact Kd.S_mono (Kd.S_far (p := ⟨gb103, 1, none⟩) (Kd.S_far (p := ⟨gb103, 0, none⟩) (Kd.S_types HO111.out BK103.out (by decide)) (fun _ hk => hk.2) (.slice Ao30 t109.length co30)) (fun _ hk => hk.2) (.int .i64 t112)) (fun _ hk => trivial), qa19⟩
  ·replace c17 := Bool.eq_false_iff.mpr c17
   subst c17; have H1 : ((impl_Store_writeAll.f k l0_0 a0_1 l1_2).bind fun bt113 => (some (bt113.1, bt113.2.1, bt113.2.2.1, bt113.2.2.2))) = some (r1, r2, r3, r4) := by rw [if_neg (show ¬ (false = true) by decide)] at H; exact H
   clear H; have H := H1; clear H1; replace H := Option.bind_eq_some_iff.mp H; obtain ⟨⟨t113, t116, t117, t118⟩, A320, H⟩ := H; replace H : (some (t113, t116, t117, t118)) = some (r1, r2, r3, r4) := H; have A32 := qO A320; clear A320; simp only [Option.some.injEq, Prod.mk.injEq] at H; obtain ⟨rfl, rfl, rfl, rfl⟩ := H
   go_enter Try.func99, Try.ntmps99
   go_wp2_with (first | ((with_reducible refine gate_dst (N := 2) rfl ?_); refine qX 2 #[.slice A0_0 l0_0.length c0_0, .int .i64 a0_1] 28 ?_; intro gb101 hg w33 hbox hb; have hx_ := qHX HB hb qa0; have BK101 := qO (hbox); have GW101 := qO ((qa9 : w.heap.size ≤ gb101)); have GE101 := GW101; replace HB := qO (below_step (below_step HB.out hx_) hb); clear hx_ hb hbox hg) | ((with_reducible refine gate_dst (N := 3) rfl ?_); refine qX 3 #[.int .i64 a1_0, .slice A1_1 l1_1.length c1_1, .slice A1_2 l1_2.length c1_2] 65 ?_; intro gb102 hg w34 hbox hb; have hx_ := qHX HB hb qa0; have BK102 := qO (hbox); have GW102 := qO ((qa9 : w.heap.size ≤ gb102)); have GE102 := GW102; have NB101_102 := qO ((qa4 : gb101 ≠ gb102)); have NB102_101 := qO (Ne.symm NB101_102.out); replace BK101 := qO (qB BK101.out hx_ hb); replace HB := qO (below_step (below_step HB.out hx_) hb); clear hx_ hb hbox hg) | ((with_reducible refine gate_dst (N := 4) rfl ?_); refine qX 4 #[.slice none 0 0, .int .i64 0] 28 ?_; intro gb103 hg w35 hbox hb; have hx_ := qHX HB hb qa0; have BK103 := qO (hbox); have GW103 := qO ((qa9 : w.heap.size ≤ gb103)); have GE103 := GW103; have NB101_103 := qO ((qa4 : gb101 ≠ gb103)); have NB103_101 := qO (Ne.symm NB101_103.out); have NB102_103 := qO ((qa20 : gb102 ≠ gb103)); have NB103_102 := qO (Ne.symm NB102_103.out); replace BK101 := qO (qB BK101.out hx_ hb); replace BK102 := qO (qB BK102.out hx_ hb); replace HB := qO (below_step (below_step HB.out hx_) hb); clear hx_ hb hbox hg; have hnb36 := NB102_101.out; have hnc36 := NB101_102.out; have hnb37 := NB102_103.out; have hnc37 := NB103_102.out; obtain ⟨hcz38_0, hcz38_1, hcz38_2, hfz38_0, hfz38_1, hfz38_2⟩ := qb3 BK102.out; have hnb39 := NB101_103.out; have hnc39 := NB103_101.out; obtain ⟨hcz40_0, hcz40_1, hfz40_0, hfz40_1⟩ := qb2 BK101.out) | ((with_reducible refine gate_callee (f := 86) rfl ?_); refine goesL_ (some 19) rfl rfl Try.func86 qa5 rfl #[.agg #[.slice A0_0 l0_0.length c0_0, .int .i64 a0_1], .agg #[.int .i64 a1_0, .slice A1_1 l1_1.length c1_1, .slice A1_2 l1_2.length c1_2]] rfl qa3 ?_; (with_reducible refine (impl_Store_conflicts.calls _ _ l0_0 a0_1 a1_0 _ _ l1_1 _ _ l1_2 false _ ?side1 ?side2 ?side3 ?side4 ?side5 ?side6 A16.out).mono ?_); (case side1 => exact qa18); (case side2 => exact HC0_0.out); (case side3 => exact qa37); (case side4 => exact HC1_1.out); (case side5 => exact qa38); (case side6 => exact HC1_2.out); rintro e w41 ⟨rfl, hb⟩; have hx_ := qHX HB hb qa0; refine ⟨_, rfl, ?_⟩; replace BK101 := qO (qB BK101.out hx_ hb); replace BK102 := qO (qB BK102.out hx_ hb); replace BK103 := qO (qB BK103.out hx_ hb); replace HB := qO (below_step (below_step HB.out hx_) hb); clear hx_; (try clear hb); (try clear hb2); (try clear hk); (try clear hi); obtain ⟨hcz42_0, hcz42_1, hfz42_0, hfz42_1⟩ := qb2 BK101.out; obtain ⟨hcz43_0, hcz43_1, hcz43_2, hfz43_0, hfz43_1, hfz43_2⟩ := qb3 BK102.out) | ((with_reducible refine gate_callee (f := 76) rfl ?_); refine goesL_ (some 25) rfl rfl Try.func76 qa5 rfl #[.agg #[.slice A0_0 l0_0.length c0_0, .int .i64 a0_1], .slice A1_2 l1_2.length c1_2] rfl qa3 ?_; (with_reducible refine (impl_Store_writeAll.calls k _ _ l0_0 a0_1 _ _ l1_2 t113 t116 t117 t118 _ ?side1 ?side2 ?side3 ?side4 A32.out).mono ?_); (case side1 => exact qa18); (case side2 => exact HC0_0.out); (case side3 => exact qa38); (case side4 => exact HC1_2.out); rintro e w44 ⟨v114, rfl, ho0, hb⟩; have hx_ := qHX HB hb qa0; refine ⟨_, rfl, ?_⟩; have HO115 := qO (Kd.S_lower ho0 (below_size (below_step HB.out hx_))); replace BK101 := qO (qB BK101.out hx_ hb); replace BK102 := qO (qB BK102.out hx_ hb); replace BK103 := qO (qB BK103.out hx_ hb); replace HB := qO (below_step (below_step HB.out hx_) hb); clear hx_; (try clear hb); (try clear hb2); (try clear hk); (try clear hi); (try clear ho0); obtain ⟨Ao45, co45, eo45⟩ := Kd.S_slice HO115.out; subst eo45; obtain ⟨hcz46_0, hcz46_1, hfz46_0, hfz46_1⟩ := qb2 BK103.out))
   refine bodyPost_ret (results_ctt rfl _ _ gb103 28 #[.slice Ao45 t113.length co45, .int .i64 t116] (0, 0) _ rfl (by (with_reducible repeat (first | refine qkN ?_ _ | refine qkD ?_ | refine qkA ?_ _)); refine blk_put (cs := #[.slice Ao45 t113.length co45, .int .i64 0]) ?_ 1 _ rfl; (with_reducible repeat (first | refine qkN ?_ _ | refine qkD ?_ | refine qkA ?_ _)); refine blk_put (cs := #[.slice none 0 0, .int .i64 0]) ?_ 0 _ rfl; (with_reducible repeat (first | refine qkN ?_ _ | refine qkD ?_ | refine qkA ?_ _)); exact BK103.out) Try.underlying28 rfl qa5) rfl ?_
   exact ⟨_, qa7, by (with_reducible repeat (first | apply Kd.S_alloc | apply Kd.S_drewN | apply Kd.S_drew)); exact Kd.S_mono (Kd.S_far (p := ⟨gb103, 1, none⟩) (Kd.S_far (p := ⟨gb103, 0, none⟩) (Kd.S_types HO115.out BK103.out (by decide)) (fun _ hk => hk.2) (.slice Ao45 t113.length co45)) (fun _ hk => hk.2) (.int .i64 t116)) (fun _ hk => trivial), qa19⟩

end Go.Proofs.Ytfiboooflebdpaa.Q
