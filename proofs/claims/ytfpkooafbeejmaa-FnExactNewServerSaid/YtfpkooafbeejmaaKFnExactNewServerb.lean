/- Texts of the claim on FnExactNewServer, gathered by a program of this session: what the program's functions compute (proved by walks), and the plain part. -/
import Derived.Test.YtfpkooafbeejmaaKFnExactNewServera
import Derived.Test.YtfpkooafbeejmaaOpens
import Derived.KernelRfl
namespace Go.Proofs.Ytfpkooafbeejmaa.Q
open Go.RowKit Go.Proofs.YtfpkooafbeejmaaW.PrintWords Go.Proofs.YtfpkooafbeejmaaW.PrintLast Go.Proofs.YtfpkooafbeejmaaW.PrintMore
attribute [local go_sem] max2_int min2_int max_two min_two max_three min_three max_four min_four   -- for this text's walks alone
set_option linter.unusedVariables false
set_option linter.unusedSimpArgs false

/-! ### laws_markLiveS: function 83 -/
def laws_markLiveS.f (l0 : List (S149)) (a1 : Int) : Option (Int) := if l0.length = 0 then (some a1) else (none)
set_option maxHeartbeats 8000000 in
set_option maxRecDepth 100000 in
theorem laws_markLiveS.calls (A0 : Option Addr) (c0 : Nat) (l0 : List (S149)) (a1 : Int) (r : Int) (w : World) (h : laws_markLiveS.f l0 a1 = some r) :
    Calls Try.prog 83 #[.slice A0 l0.length c0, .int .i64 a1] w fun e w' => e = .returned (.int .i64 r) ∧ Below w.heap.size w w' := by
  unfold laws_markLiveS.f at h
  by_cases z0 : l0.length = 0
  · rw [if_pos z0] at h
    obtain rfl := Option.some.inj h
    clear h
    obtain ⟨k, hk⟩ : ∃ k : Nat, k = 0 := ⟨0, rfl⟩
    clear hk
    go_enter Try.func83, Try.ntmps83
    go_wp2
    go_loopg [1, 5] k (fun kq v1 v5 w' => ∃ (i : Int), v1 = .int .i64 a1 ∧ v5 = .int .i64 i ∧ Aside0 (i = 0) ∧ Aside0 (Below w.heap.size w w'))
    case atStart => exact ⟨0, rfl, rfl, ⟨rfl⟩, ⟨Below.refl _ _⟩⟩
    case round =>
      obtain ⟨i, rfl, rfl, HI, HB⟩ := hrel
      have c4b0 : decide (i < (l0.length : Int)) = false := decide_eq_false (by have := HI.out; omega)
      clear z0 HI
      go_wp2
      go_ret
      exact ⟨rfl, HB.out⟩
  · rw [if_neg z0] at h; exact absurd h (by simp)

end Go.Proofs.Ytfpkooafbeejmaa.Q
namespace Go.Proofs.Ytfpkooafbeejmaa.Q
open Go.RowKit Go.Proofs.YtfpkooafbeejmaaW.PrintWords Go.Proofs.YtfpkooafbeejmaaW.PrintLast Go.Proofs.YtfpkooafbeejmaaW.PrintMore
attribute [local go_sem] max2_int min2_int max_two min_two max_three min_three max_four min_four   -- for this text's walks alone
set_option linter.unusedVariables false
set_option linter.unusedSimpArgs false

/-! ### laws_markServer: function 40 -/
def laws_markServer.f (k : Nat) (l0_0 : List (List (S177))) (a0_1 : Int) (l0_2 : List (S149)) (l0_3 : List (S115)) (a0_4 : Int) (a1 : Int) : Option (Int × (List (List (S177))) × (List (S149)) × (List (S115))) := if l0_2.length = 0 then (if l0_3.length = 0 then ((laws_markStore.f k l0_0 a0_1 a1).bind fun y => (some (y.1, y.2, l0_2, l0_3))) else (none)) else (none)
theorem laws_markServer.far {w : World} {base b : Nat} {P Q : Nat → Prop} {E E' : List Nat} (hE : ∀ q, q ∈ E → q ∈ E' → False) (k : Nat) (h1 : P k ∧ base ≤ k ∧ k < b ∧ ∃ q, q ∈ E ∧ ∃ cells, w.heap[k]? = some (.cells cells q (0, 0))) (h2 : Q k ∧ base ≤ k ∧ k < b ∧ ∃ q, q ∈ E' ∧ ∃ cells, w.heap[k]? = some (.cells cells q (0, 0))) : False := by
  obtain ⟨_, _, _, q, hq, cells, hc⟩ := h1
  obtain ⟨_, _, _, q', hq', cells', hc'⟩ := h2
  rw [hc] at hc'
  injection hc' with e_
  injection e_ with _ e_
  subst e_
  exact hE _ hq hq'
set_option maxHeartbeats 8000000 in
set_option maxRecDepth 100000 in
theorem laws_markServer.calls (k : Nat) (P0_0_ : Nat → Prop) (u9000_ : Value) (l0_0 : List (List (S177))) (a0_1 : Int) (P0_2_ : Nat → Prop) (u9001_ : Value) (l0_2 : List (S149)) (P0_3_ : Nat → Prop) (u9002_ : Value) (l0_3 : List (S115)) (a0_4 : Int) (a1 : Int) (r1 : Int) (r2 : List (List (S177))) (r3 : List (S149)) (r4 : List (S115)) (w0 w : World) (hB : Below w0.heap.size w0 w) (ho0_0 : Kd.S ((Kd.slice 177 k177)) 165 w w0.heap.size (P0_0_) u9000_ l0_0) (ho0_2 : Kd.R k149 149 w w0.heap.size (P0_2_) u9001_ l0_2) (ho0_3 : Kd.R k115 115 w w0.heap.size (P0_3_) u9002_ l0_3) (h : laws_markServer.f k l0_0 a0_1 l0_2 l0_3 a0_4 a1 = some (r1, r2, r3, r4)) :
    Calls Try.prog 40 #[.agg #[u9000_, .int .i64 a0_1, u9001_, u9002_, .int .i64 a0_4], .int .i64 a1] w fun e w' => e = .returned (.int .i64 r1) ∧ Kd.S ((Kd.slice 177 k177)) 165 w' w0.heap.size (fun k_ => ((P0_0_ k_ ∨ P0_2_ k_ ∨ P0_3_ k_) ∨ w.heap.size ≤ k_)) u9000_ r2 ∧ Kd.R k149 149 w' w0.heap.size (fun k_ => ((P0_0_ k_ ∨ P0_2_ k_ ∨ P0_3_ k_) ∨ w.heap.size ≤ k_)) u9001_ r3 ∧ Kd.R k115 115 w' w0.heap.size (fun k_ => ((P0_0_ k_ ∨ P0_2_ k_ ∨ P0_3_ k_) ∨ w.heap.size ≤ k_)) u9002_ r4 ∧ Below w0.heap.size w0 w' ∧ Kept w w' (fun k_ => P0_0_ k_ ∨ P0_2_ k_ ∨ P0_3_ k_) := by
  have hu65 := Try.underlying65; have hu68 := Try.underlying68
  unfold laws_markServer.f at h
  by_cases z2 : l0_2.length = 0
  · rw [if_pos z2] at h
    by_cases z3 : l0_3.length = 0
    · rw [if_pos z3] at h
      replace h := Option.bind_eq_some_iff.mp h
      obtain ⟨⟨m2, y2⟩, hA, h⟩ := h
      simp only [Option.some.injEq, Prod.mk.injEq] at h
      obtain ⟨rfl, rfl, rfl, rfl⟩ := h
      have HA := Aside0.mk hA
      have HML := Aside0.mk (show laws_markLiveS.f l0_2 m2 = some m2 by unfold laws_markLiveS.f; rw [if_pos z2])
      have HMD := Aside0.mk (show laws_markDoneS.f l0_3 m2 = some m2 by unfold laws_markDoneS.f; rw [if_pos z3])
      clear z2 z3 hA
      obtain ⟨A0, c0, e0⟩ := Kd.S_slice ho0_0
      subst e0
      obtain ⟨A2, c2, e2⟩ := Kd.R_slice ho0_2
      subst e2
      obtain ⟨A3, c3, e3⟩ := Kd.R_slice ho0_3
      subst e3
      have HS := Aside0.mk (Kd.S_bound ho0_0)
      have HL := Aside0.mk (Kd.R_bound ho0_2)
      have HD := Aside0.mk (Kd.R_bound ho0_3)
      have HB := Aside0.mk hB
      have FL := Aside0.mk (show ∀ q, q ∈ 149 :: (k149).E → q ∈ 165 :: ((Kd.slice 177 k177)).E → False by decide)
      have FD := Aside0.mk (show ∀ q, q ∈ 115 :: (k115).E → q ∈ 165 :: ((Kd.slice 177 k177)).E → False by decide)
      clear ho0_0 ho0_2 ho0_3 hB
      go_enter Try.func40, Try.ntmps40
      go_wp2_with (first | ((with_reducible refine gate_dst (N := 2) rfl ?_); refine box_event ?hg (N := 2) ?hd (cs := #[.slice A0 l0_0.length c0, .int .i64 a0_1, .slice A2 l0_2.length c2, .slice A3 l0_3.length c3, .int .i64 a0_4]) (t := 68) ?hr ?_; (case hd => rfl); (case hg => rfl); (case hr => first | (go_simp; done) | (go_simp; rfl)); intro gb hg w1 hbox hb; have GW := Aside0.mk (show w.heap.size ≤ gb by rw [hg]; exact Nat.le_refl _); have HZ := Aside0.mk hb.size; have BKw1 := Aside0.mk hbox; have HBw1 := Aside0.mk (below_step HB.out hb); have HSw1 := Aside0.mk (Kd.S_below HS.out hb); have HLw1 := Aside0.mk (Kd.R_below HL.out hb); have HDw1 := Aside0.mk (Kd.R_below HD.out hb); have HKw1 := Aside0.mk (Kept.of_below hb (fun k_ => P0_0_ k_ ∨ P0_2_ k_ ∨ P0_3_ k_)); have hw1_0 : w1.cell? ⟨gb, 0, none⟩ = some (.slice A0 l0_0.length c0) := (blk_cell BKw1.out 0).trans rfl; have hw1_1 : w1.cell? ⟨gb, 1, none⟩ = some (.int .i64 a0_1) := (blk_cell BKw1.out 1).trans rfl; have hw1_2 : w1.cell? ⟨gb, 2, none⟩ = some (.slice A2 l0_2.length c2) := (blk_cell BKw1.out 2).trans rfl; have hw1_3 : w1.cell? ⟨gb, 3, none⟩ = some (.slice A3 l0_3.length c3) := (blk_cell BKw1.out 3).trans rfl; have hw1_4 : w1.cell? ⟨gb, 4, none⟩ = some (.int .i64 a0_4) := (blk_cell BKw1.out 4).trans rfl; clear hb hg hbox) | (go_at_call 82; refine (laws_markStore.calls k _ _ l0_0 a0_1 a1 m2 y2 w0 _ HBw1.out HSw1.out HA.out).mono ?_; rintro e w2 ⟨rfl, hS, hB2, hK2⟩; have BKw2 := Aside0.mk (blk_kept (g := gb) BKw1.out hK2 (fun h_ => by have := GW.out; have := h_.2.2.1; omega)); have HBw2 := Aside0.mk hB2; have HSw2 := Aside0.mk hS; have HLw2 := Aside0.mk (Kd.R_kept HLw1.out hK2 (fun k_ h1 h2 => laws_markServer.far FL.out k_ h1 h2)); have HDw2 := Aside0.mk (Kd.R_kept HDw1.out hK2 (fun k_ h1 h2 => laws_markServer.far FD.out k_ h1 h2)); have HKw2 := Aside0.mk (Kept.then_ HKw1.out hK2 (fun k_ hk => .inl (.inl hk.1))); have hw2_0 : w2.cell? ⟨gb, 0, none⟩ = some (.slice A0 l0_0.length c0) := (blk_cell BKw2.out 0).trans rfl; have hw2_1 : w2.cell? ⟨gb, 1, none⟩ = some (.int .i64 a0_1) := (blk_cell BKw2.out 1).trans rfl; have hw2_2 : w2.cell? ⟨gb, 2, none⟩ = some (.slice A2 l0_2.length c2) := (blk_cell BKw2.out 2).trans rfl; have hw2_3 : w2.cell? ⟨gb, 3, none⟩ = some (.slice A3 l0_3.length c3) := (blk_cell BKw2.out 3).trans rfl; have hw2_4 : w2.cell? ⟨gb, 4, none⟩ = some (.int .i64 a0_4) := (blk_cell BKw2.out 4).trans rfl; clear hS hB2 hK2) | (go_at_call 83; refine (laws_markLiveS.calls _ _ l0_2 m2 m2 _ HML.out).mono ?_; rintro e w3 ⟨rfl, hb⟩; have BKw3 := Aside0.mk (blk_below (g := gb) BKw2.out hb); have HBw3 := Aside0.mk (below_step HBw2.out hb); have HSw3 := Aside0.mk (Kd.S_below HSw2.out hb); have HLw3 := Aside0.mk (Kd.R_below HLw2.out hb); have HDw3 := Aside0.mk (Kd.R_below HDw2.out hb); have HKw3 := Aside0.mk (Kept.then_ HKw2.out (Kept.of_below hb (fun k_ => P0_0_ k_ ∨ P0_2_ k_ ∨ P0_3_ k_)) (fun k_ hk => .inl hk)); have hw3_0 : w3.cell? ⟨gb, 0, none⟩ = some (.slice A0 l0_0.length c0) := (blk_cell BKw3.out 0).trans rfl; have hw3_1 : w3.cell? ⟨gb, 1, none⟩ = some (.int .i64 a0_1) := (blk_cell BKw3.out 1).trans rfl; have hw3_2 : w3.cell? ⟨gb, 2, none⟩ = some (.slice A2 l0_2.length c2) := (blk_cell BKw3.out 2).trans rfl; have hw3_3 : w3.cell? ⟨gb, 3, none⟩ = some (.slice A3 l0_3.length c3) := (blk_cell BKw3.out 3).trans rfl; have hw3_4 : w3.cell? ⟨gb, 4, none⟩ = some (.int .i64 a0_4) := (blk_cell BKw3.out 4).trans rfl; clear hb) | (go_at_call 34; refine (laws_markDoneS.calls _ _ l0_3 m2 m2 _ HMD.out).mono ?_; rintro e w4 ⟨rfl, hb⟩; have BKw4 := Aside0.mk (blk_below (g := gb) BKw3.out hb); have HBw4 := Aside0.mk (below_step HBw3.out hb); have HSw4 := Aside0.mk (Kd.S_below HSw3.out hb); have HLw4 := Aside0.mk (Kd.R_below HLw3.out hb); have HDw4 := Aside0.mk (Kd.R_below HDw3.out hb); have HKw4 := Aside0.mk (Kept.then_ HKw3.out (Kept.of_below hb (fun k_ => P0_0_ k_ ∨ P0_2_ k_ ∨ P0_3_ k_)) (fun k_ hk => .inl hk)); have hw4_0 : w4.cell? ⟨gb, 0, none⟩ = some (.slice A0 l0_0.length c0) := (blk_cell BKw4.out 0).trans rfl; have hw4_1 : w4.cell? ⟨gb, 1, none⟩ = some (.int .i64 a0_1) := (blk_cell BKw4.out 1).trans rfl; have hw4_2 : w4.cell? ⟨gb, 2, none⟩ = some (.slice A2 l0_2.length c2) := (blk_cell BKw4.out 2).trans rfl; have hw4_3 : w4.cell? ⟨gb, 3, none⟩ = some (.slice A3 l0_3.length c3) := (blk_cell BKw4.out 3).trans rfl; have hw4_4 : w4.cell? ⟨gb, 4, none⟩ = some (.int .i64 a0_4) := (blk_cell BKw4.out 4).trans rfl; clear hb))
      go_ret
      exact ⟨rfl, Kd.S_mono HSw4.out (fun k_ hk => hk.elim (fun z => .inl (.inl z.1)) (fun z => .inr (Nat.le_trans HZ.out z))), Kd.R_mono HLw4.out (fun k_ hk => .inl (.inr (.inl hk.1))), Kd.R_mono HDw4.out (fun k_ hk => .inl (.inr (.inr hk.1))), HBw4.out, HKw4.out⟩
    · rw [if_neg z3] at h; exact absurd h (by simp)
  · rw [if_neg z2] at h; exact absurd h (by simp)

end Go.Proofs.Ytfpkooafbeejmaa.Q
namespace Go.Proofs.Ytfpkooafbeejmaa.Q
open Go.RowKit Go.Proofs.YtfpkooafbeejmaaW.PrintWords Go.Proofs.YtfpkooafbeejmaaW.PrintLast Go.Proofs.YtfpkooafbeejmaaW.PrintMore
attribute [local go_sem] max2_int min2_int max_two min_two max_three min_three max_four min_four   -- for this text's walks alone
set_option linter.unusedVariables false
set_option linter.unusedSimpArgs false

/-! ### laws_heldVersionS: function 133 -/
def laws_heldVersionS.l0 : Nat → List (S177) → Int → Int → Option (Int)
  | 0, _, _, _ => none
  | k + 1, x0, x1, x5 => if x5 < (x0.length : Int) then (if 0 ≤ x5 then (if ((rd_T177 x0 x5).f0) = x1 then (if ((rd_T177 x0 x5).f1) = (wrap64 (x1 + 1)) then (laws_heldVersionS.l0 k x0 (wrap64 ((wrap64 (x1 + 1)) + 1)) (wrap64 (x5 + 1))) else (some (-1))) else (some (-1))) else (none)) else (some x1)
def laws_heldVersionS.f (k : Nat) (l0 : List (S177)) (a1 : Int) : Option (Int) := laws_heldVersionS.l0 k l0 a1 0
set_option maxHeartbeats 8000000 in
set_option maxRecDepth 100000 in
theorem laws_heldVersionS.calls (k : Nat) (A0 : Option Addr) (c0 : Nat) (l0 : List (S177)) (a1 : Int) (r : Int) (w : World) (hr0 : Kd.C k177 w A0 l0.length l0) (hc0 : l0.length ≤ c0) (h : laws_heldVersionS.f k l0 a1 = some r) :
    Calls Try.prog 133 #[.slice A0 l0.length c0, .int .i64 a1] w fun e w' => e = .returned (.int .i64 r) ∧ Drawn0 w w' := by
  have HR0 := Aside0.mk hr0
  have HC0 := Aside0.mk hc0
  clear hr0 hc0
  have H : (laws_heldVersionS.l0 k l0 a1 0) = some r := h
  clear h
  have H' := Aside0.mk H
  clear H
  go_enter Try.func133, Try.ntmps133
  go_wp2
  go_loopg [1, 5] k (fun kq v1 v5 w' => ∃ (x1_1 : Int) (x5_1 : Int), v1 = .int .i64 x1_1 ∧ v5 = .int .i64 x5_1 ∧ Aside0 (laws_heldVersionS.l0 kq l0 x1_1 x5_1 = some r) ∧ Aside0 (kq ≤ k) ∧ Drawn0 w w')
  case atStart => exact ⟨(a1), (0), (by first | rfl | (simp; done) | (simp [*]; done)), (by first | rfl | (simp; done) | (simp [*]; done)), H', ⟨Nat.le_refl _⟩, by repeat (first | exact Drawn0.refl _ | apply Drawn0.step)⟩
  case round =>
    clear H'
    try clear c1
    try clear p2
    obtain ⟨x1_1, x5_1, rfl, rfl, HA, HK1, ⟨m1, rfl⟩⟩ := hrel
    cases gk with
    | zero => exact absurd HA.out (by simp [laws_heldVersionS.l0])
    | succ k1 =>
      have H := HA.out
      clear HA
      simp only [laws_heldVersionS.l0] at H
      by_cases c3 : x5_1 < (l0.length : Int)
      · rw [if_pos c3] at H
        have c3b0 : decide (x5_1 < (l0.length : Int)) = true := decide_eq_true c3
        clear c3
        by_cases c4 : 0 ≤ x5_1
        · rw [if_pos c4] at H
          have c4b0 : decide (0 ≤ x5_1) = true := decide_eq_true c4
          clear c4
          by_cases c5 : ((rd_T177 l0 x5_1).f0) = x1_1
          · rw [if_pos c5] at H
            have c5b0 : (((rd_T177 l0 x5_1).f0) == x1_1) = true := beq_iff_eq.mpr c5
            have c5b1 : (((rd_T177 l0 x5_1).f0) != x1_1) = false := bne_eq_false_iff_eq.mpr c5
            clear c5
            by_cases c6 : ((rd_T177 l0 x5_1).f1) = (wrap64 (x1_1 + 1))
            · rw [if_pos c6] at H
              have c6b0 : (((rd_T177 l0 x5_1).f1) == (wrap64 (x1_1 + 1))) = true := beq_iff_eq.mpr c6
              have c6b1 : (((rd_T177 l0 x5_1).f1) != (wrap64 (x1_1 + 1))) = false := bne_eq_false_iff_eq.mpr c6
              clear c6
              have H' := Aside0.mk H
              clear H
              have p101 : 0 ≤ (x5_1 : Int) := of_decide_eq_true (by first | (with_reducible assumption) | assumption)
              have q101 : x5_1 < (l0.length : Int) := of_decide_eq_true (by first | (with_reducible assumption) | assumption)
              obtain ⟨ad101, e101, hx101_0, hx101_1⟩ := at_T177 HR0.out x5_1 p101 q101
              cases e101
              replace p101 := eq_true p101
              replace q101 := eq_true q101
              have p102 : 0 ≤ (x5_1 : Int) := of_decide_eq_true (by first | (with_reducible assumption) | assumption)
              have q102 : x5_1 < (l0.length : Int) := of_decide_eq_true (by first | (with_reducible assumption) | assumption)
              obtain ⟨ad102, e102, hx102_0, hx102_1⟩ := at_T177 HR0.out x5_1 p102 q102
              obtain rfl : ad101 = ad102 := (by injection e102)
              replace p102 := eq_true p102
              replace q102 := eq_true q102
              go_wp2
              go_roundg k1
              case measure => have := HK1.out; omega
              case rel => exact ⟨(wrap64 ((wrap64 (x1_1 + 1)) + 1)), (wrap64 (x5_1 + 1)), (by first | rfl | (simp; done) | (simp [*]; done)), (by first | rfl | (simp; done) | (simp [*]; done)), H', ⟨by have := HK1.out; omega⟩, by repeat (first | exact Drawn0.refl _ | apply Drawn0.step)⟩
            · rw [if_neg c6] at H
              have c6b0 : (((rd_T177 l0 x5_1).f1) == (wrap64 (x1_1 + 1))) = false := beq_eq_false_iff_ne.mpr c6
              have c6b1 : (((rd_T177 l0 x5_1).f1) != (wrap64 (x1_1 + 1))) = true := bne_iff_ne.mpr c6
              obtain rfl := Option.some.inj H
              have p101 : 0 ≤ (x5_1 : Int) := of_decide_eq_true (by first | (with_reducible assumption) | assumption)
              have q101 : x5_1 < (l0.length : Int) := of_decide_eq_true (by first | (with_reducible assumption) | assumption)
              obtain ⟨ad101, e101, hx101_0, hx101_1⟩ := at_T177 HR0.out x5_1 p101 q101
              cases e101
              replace p101 := eq_true p101
              replace q101 := eq_true q101
              have p102 : 0 ≤ (x5_1 : Int) := of_decide_eq_true (by first | (with_reducible assumption) | assumption)
              have q102 : x5_1 < (l0.length : Int) := of_decide_eq_true (by first | (with_reducible assumption) | assumption)
              obtain ⟨ad102, e102, hx102_0, hx102_1⟩ := at_T177 HR0.out x5_1 p102 q102
              obtain rfl : ad101 = ad102 := (by injection e102)
              replace p102 := eq_true p102
              replace q102 := eq_true q102
              go_wp2
              go_ret
              exact ⟨by first | rfl | (simp; done) | (simp [*]; done), by repeat (first | exact Drawn0.refl _ | apply Drawn0.step)⟩
          · rw [if_neg c5] at H
            have c5b0 : (((rd_T177 l0 x5_1).f0) == x1_1) = false := beq_eq_false_iff_ne.mpr c5
            have c5b1 : (((rd_T177 l0 x5_1).f0) != x1_1) = true := bne_iff_ne.mpr c5
            obtain rfl := Option.some.inj H
            have p101 : 0 ≤ (x5_1 : Int) := of_decide_eq_true (by first | (with_reducible assumption) | assumption)
            have q101 : x5_1 < (l0.length : Int) := of_decide_eq_true (by first | (with_reducible assumption) | assumption)
            obtain ⟨ad101, e101, hx101_0, hx101_1⟩ := at_T177 HR0.out x5_1 p101 q101
            cases e101
            replace p101 := eq_true p101
            replace q101 := eq_true q101
            go_wp2
            go_ret
            exact ⟨by first | rfl | (simp; done) | (simp [*]; done), by repeat (first | exact Drawn0.refl _ | apply Drawn0.step)⟩
        · rw [if_neg c4] at H
          exact absurd H (by simp)
      · rw [if_neg c3] at H
        have c3b0 : decide (x5_1 < (l0.length : Int)) = false := decide_eq_false c3
        clear c3
        obtain rfl := Option.some.inj H
        go_wp2
        go_ret
        exact ⟨by first | rfl | (simp; done) | (simp [*]; done), by repeat (first | exact Drawn0.refl _ | apply Drawn0.step)⟩

end Go.Proofs.Ytfpkooafbeejmaa.Q
namespace Go.Proofs.Ytfpkooafbeejmaa.Q
open Go.RowKit Go.Proofs.YtfpkooafbeejmaaW.PrintWords Go.Proofs.YtfpkooafbeejmaaW.PrintLast Go.Proofs.YtfpkooafbeejmaaW.PrintMore
attribute [local go_sem] max2_int min2_int max_two min_two max_three min_three max_four min_four   -- for this text's walks alone
set_option linter.unusedVariables false
set_option linter.unusedSimpArgs false

/-! ### laws_heldVersionSS: function 115 -/
def laws_heldVersionSS.l0 : Nat → List (List (S177)) → Int → Int → Option (Int)
  | 0, _, _, _ => none
  | k + 1, x0, x1, x5 => if x5 < (x0.length : Int) then (if 0 ≤ x5 then ((laws_heldVersionS.f k (rd_L2 x0 x5) x1).bind fun t102 => (if t102 < 0 then (some (-1)) else (laws_heldVersionSS.l0 k x0 t102 (wrap64 (x5 + 1))))) else (none)) else (some x1)
def laws_heldVersionSS.f (k : Nat) (l0 : List (List (S177))) (a1 : Int) : Option (Int) := laws_heldVersionSS.l0 k l0 a1 0
set_option maxHeartbeats 8000000 in
set_option maxRecDepth 100000 in
theorem laws_heldVersionSS.calls (k : Nat) (A0 : Option Addr) (c0 : Nat) (l0 : List (List (S177))) (a1 : Int) (r : Int) (w : World) (hr0 : Kd.C (Kd.slice 177 k177) w A0 l0.length l0) (hc0 : l0.length ≤ c0) (h : laws_heldVersionSS.f k l0 a1 = some r) :
    Calls Try.prog 115 #[.slice A0 l0.length c0, .int .i64 a1] w fun e w' => e = .returned (.int .i64 r) ∧ Drawn0 w w' := by
  have HR0 := Aside0.mk hr0
  have HC0 := Aside0.mk hc0
  clear hr0 hc0
  have H : (laws_heldVersionSS.l0 k l0 a1 0) = some r := h
  clear h
  have H' := Aside0.mk H
  clear H
  go_enter Try.func115, Try.ntmps115
  go_wp2
  go_loopg [1, 5] k (fun kq v1 v5 w' => ∃ (x1_1 : Int) (x5_1 : Int), v1 = .int .i64 x1_1 ∧ v5 = .int .i64 x5_1 ∧ Aside0 (laws_heldVersionSS.l0 kq l0 x1_1 x5_1 = some r) ∧ Aside0 (kq ≤ k) ∧ Drawn0 w w')
  case atStart => exact ⟨(a1), (0), (by first | rfl | (simp; done) | (simp [*]; done)), (by first | rfl | (simp; done) | (simp [*]; done)), H', ⟨Nat.le_refl _⟩, by repeat (first | exact Drawn0.refl _ | apply Drawn0.step)⟩
  case round =>
    clear H'
    try clear c1
    try clear p2
    obtain ⟨x1_1, x5_1, rfl, rfl, HA, HK1, ⟨m1, rfl⟩⟩ := hrel
    cases gk with
    | zero => exact absurd HA.out (by simp [laws_heldVersionSS.l0])
    | succ k1 =>
      have H := HA.out
      clear HA
      simp only [laws_heldVersionSS.l0] at H
      by_cases c3 : x5_1 < (l0.length : Int)
      · rw [if_pos c3] at H
        have c3b0 : decide (x5_1 < (l0.length : Int)) = true := decide_eq_true c3
        clear c3
        by_cases c4 : 0 ≤ x5_1
        · rw [if_pos c4] at H
          have c4b0 : decide (0 ≤ x5_1) = true := decide_eq_true c4
          clear c4
          replace H := Option.bind_eq_some_iff.mp H
          obtain ⟨t102, A50, H⟩ := H
          replace H : (if t102 < 0 then (some (-1)) else (laws_heldVersionSS.l0 k1 l0 t102 (wrap64 (x5_1 + 1)))) = some r := H
          have A5 := Aside0.mk A50
          clear A50
          by_cases c6 : t102 < 0
          · rw [if_pos c6] at H
            have c6b0 : decide (t102 < 0) = true := decide_eq_true c6
            clear c6
            obtain rfl := Option.some.inj H
            have p101 : 0 ≤ (x5_1 : Int) := of_decide_eq_true (by first | (with_reducible assumption) | assumption)
            have q101 : x5_1 < (l0.length : Int) := of_decide_eq_true (by first | (with_reducible assumption) | assumption)
            obtain ⟨ad101, A101_0, c101_0, e101, hx101_0, hl101_0, hi101_0⟩ := at_L2 HR0.out x5_1 p101 q101
            cases e101
            have HR101_0 := Aside0.mk hi101_0
            have HC101_0 := Aside0.mk hl101_0
            clear hi101_0 hl101_0
            replace p101 := eq_true p101
            replace q101 := eq_true q101
            go_wp2_with (first | ((with_reducible refine gate_callee (f := 133) rfl ?_); refine goesL_ (some 17) rfl rfl Try.func133 (by kernel_rfl) rfl #[.slice A101_0 (rd_L2 l0 x5_1).length c101_0, .int .i64 x1_1] rfl (by (try simp only [List.map_toArray, List.map_cons, List.map_nil]); first | done | rfl | (simp only [List.length_drop, List.length_take]; rfl)) ?_; (with_reducible refine (laws_heldVersionS.calls k1 _ _ (rd_L2 l0 x5_1) x1_1 t102 _ ?side1 ?side2 A5.out).mono ?_); (case side1 => repeat (first | exact HR101_0.out | (with_reducible refine Kd.C_alloc ?_ _) | (with_reducible refine Kd.C_drewN ?_ _) | (with_reducible refine Kd.C_drew ?_))); (case side2 => exact HC101_0.out); rintro e w' ⟨rfl, ⟨nd, rfl⟩⟩; refine ⟨_, rfl, ?_⟩))
            go_ret
            exact ⟨by first | rfl | (simp; done) | (simp [*]; done), by repeat (first | exact Drawn0.refl _ | apply Drawn0.step)⟩
          · rw [if_neg c6] at H
            have c6b0 : decide (t102 < 0) = false := decide_eq_false c6
            clear c6
            have H' := Aside0.mk H
            clear H
            have p101 : 0 ≤ (x5_1 : Int) := of_decide_eq_true (by first | (with_reducible assumption) | assumption)
            have q101 : x5_1 < (l0.length : Int) := of_decide_eq_true (by first | (with_reducible assumption) | assumption)
            obtain ⟨ad101, A101_0, c101_0, e101, hx101_0, hl101_0, hi101_0⟩ := at_L2 HR0.out x5_1 p101 q101
            cases e101
            have HR101_0 := Aside0.mk hi101_0
            have HC101_0 := Aside0.mk hl101_0
            clear hi101_0 hl101_0
            replace p101 := eq_true p101
            replace q101 := eq_true q101
            go_wp2_with (first | ((with_reducible refine gate_callee (f := 133) rfl ?_); refine goesL_ (some 17) rfl rfl Try.func133 (by kernel_rfl) rfl #[.slice A101_0 (rd_L2 l0 x5_1).length c101_0, .int .i64 x1_1] rfl (by (try simp only [List.map_toArray, List.map_cons, List.map_nil]); first | done | rfl | (simp only [List.length_drop, List.length_take]; rfl)) ?_; (with_reducible refine (laws_heldVersionS.calls k1 _ _ (rd_L2 l0 x5_1) x1_1 t102 _ ?side1 ?side2 A5.out).mono ?_); (case side1 => repeat (first | exact HR101_0.out | (with_reducible refine Kd.C_alloc ?_ _) | (with_reducible refine Kd.C_drewN ?_ _) | (with_reducible refine Kd.C_drew ?_))); (case side2 => exact HC101_0.out); rintro e w' ⟨rfl, ⟨nd, rfl⟩⟩; refine ⟨_, rfl, ?_⟩))
            go_roundg k1
            case measure => have := HK1.out; omega
            case rel => exact ⟨(t102), (wrap64 (x5_1 + 1)), (by first | rfl | (simp; done) | (simp [*]; done)), (by first | rfl | (simp; done) | (simp [*]; done)), H', ⟨by have := HK1.out; omega⟩, by repeat (first | exact Drawn0.refl _ | apply Drawn0.step)⟩
        · rw [if_neg c4] at H
          exact absurd H (by simp)
      · rw [if_neg c3] at H
        have c3b0 : decide (x5_1 < (l0.length : Int)) = false := decide_eq_false c3
        clear c3
        obtain rfl := Option.some.inj H
        go_wp2
        go_ret
        exact ⟨by first | rfl | (simp; done) | (simp [*]; done), by repeat (first | exact Drawn0.refl _ | apply Drawn0.step)⟩

end Go.Proofs.Ytfpkooafbeejmaa.Q
namespace Go.Proofs.Ytfpkooafbeejmaa.Q
open Go.RowKit Go.Proofs.YtfpkooafbeejmaaW.PrintWords Go.Proofs.YtfpkooafbeejmaaW.PrintLast Go.Proofs.YtfpkooafbeejmaaW.PrintMore
attribute [local go_sem] max2_int min2_int max_two min_two max_three min_three max_four min_four   -- for this text's walks alone
set_option linter.unusedVariables false
set_option linter.unusedSimpArgs false

/-! ### laws_heldStore: function 84 -/
def laws_heldStore.f (k : Nat) (l0_0 : List (List (S177))) (a0_1 : Int) (a1 : Int) : Option (Int) := (laws_heldVersionSS.f k l0_0 a1).bind fun t102 => (if t102 < 0 then (some (-1)) else (some t102))
set_option maxHeartbeats 8000000 in
set_option maxRecDepth 100000 in
theorem laws_heldStore.calls (k : Nat) (A0_0 : Option Addr) (c0_0 : Nat) (l0_0 : List (List (S177))) (a0_1 : Int) (a1 : Int) (r : Int) (w : World) (hr0_0 : Kd.C (Kd.slice 177 k177) w A0_0 l0_0.length l0_0) (hc0_0 : l0_0.length ≤ c0_0) (h : laws_heldStore.f k l0_0 a0_1 a1 = some r) :
    Calls Try.prog 84 #[.agg #[.slice A0_0 l0_0.length c0_0, .int .i64 a0_1], .int .i64 a1] w fun e w' => e = .returned (.int .i64 r) ∧ Below w.heap.size w w' := by
  have hu65 := Try.underlying65
  have HR0_0 := Aside0.mk hr0_0
  have HC0_0 := Aside0.mk hc0_0
  clear hr0_0 hc0_0
  have HB := Aside0.mk (Below.refl w.heap.size w)
  have H : ((laws_heldVersionSS.f k l0_0 a1).bind fun t102 => (if t102 < 0 then (some (-1)) else (some t102))) = some r := h
  clear h
  replace H := Option.bind_eq_some_iff.mp H
  obtain ⟨t102, A30, H⟩ := H
  replace H : (if t102 < 0 then (some (-1)) else (some t102)) = some r := H
  have A3 := Aside0.mk A30
  clear A30
  by_cases c4 : t102 < 0
  · rw [if_pos c4] at H
    have c4b0 : decide (t102 < 0) = true := decide_eq_true c4
    clear c4
    obtain rfl := Option.some.inj H
    go_enter Try.func84, Try.ntmps84
    go_wp2_with (first | ((with_reducible refine gate_dst (N := 2) rfl ?_); refine box_event ?hg (N := 2) ?hd (cs := #[.slice A0_0 l0_0.length c0_0, .int .i64 a0_1]) (t := 65) ?hr ?_; (case hd => rfl); (case hg => rfl); (case hr => first | (go_simp; done) | (go_simp; rfl)); intro gb101 hg w5 hbox hb; have n0_ := Aside0.mk (below_step (by repeat (first | (with_reducible first | exact HB.out | apply below_alloc | apply pw_below_drewN | apply below_drew1) | exact HB.out)) hb); have n1_ := Aside0.mk (hbox); have n2_ := Aside0.mk ((by rw [hg]; exact (below_size (by repeat (first | (with_reducible first | exact HB.out | apply below_alloc | apply pw_below_drewN | apply below_drew1) | exact HB.out))) : w.heap.size ≤ gb101)); have n3_ := Aside0.mk ((by rw [hg]; exact (below_size (by repeat (first | (with_reducible first | exact HB.out | apply below_alloc | apply pw_below_drewN | apply below_drew1) | exact HB.out))) : w.heap.size ≤ gb101)); clear HB; have HB := n0_; have BK101 := n1_; have GW101 := n2_; have GE101 := n3_; clear n0_ n1_ n2_ n3_; clear hb hbox hg; have hcz6_0 : w5.cell? ⟨gb101, 0, none⟩ = some (.slice A0_0 l0_0.length c0_0) := (blk_cell BK101.out 0).trans rfl; have hcz6_1 : w5.cell? ⟨gb101, 1, none⟩ = some (.int .i64 a0_1) := (blk_cell BK101.out 1).trans rfl; have hfz6_0 := blk_frozen BK101.out 0; have hfz6_1 := blk_frozen BK101.out 1) | ((with_reducible refine gate_callee (f := 115) rfl ?_); refine goesL_ (some 8) rfl rfl Try.func115 (by kernel_rfl) rfl #[.slice A0_0 l0_0.length c0_0, .int .i64 a1] rfl (by (try simp only [List.map_toArray, List.map_cons, List.map_nil]); first | done | rfl | (simp only [List.length_drop, List.length_take]; rfl)) ?_; (with_reducible refine (laws_heldVersionSS.calls k _ _ l0_0 a1 t102 _ ?side1 ?side2 A3.out).mono ?_); (case side1 => repeat (first | exact (Kd.C_below HR0_0.out HB.out) | (with_reducible refine Kd.C_alloc ?_ _) | (with_reducible refine Kd.C_drewN ?_ _) | (with_reducible refine Kd.C_drew ?_))); (case side2 => exact HC0_0.out); rintro e w' ⟨rfl, ⟨nd, rfl⟩⟩; refine ⟨_, rfl, ?_⟩))
    go_ret
    exact ⟨by first | rfl | (simp [errW_none, errW_some] <;> rfl) | (simp [*, errW_none, errW_some] <;> rfl), by repeat (first | (with_reducible first | exact HB.out | apply below_alloc | apply pw_below_drewN | apply below_drew1 | refine below_set ?_ GE101.out) | exact HB.out)⟩
  · rw [if_neg c4] at H
    have c4b0 : decide (t102 < 0) = false := decide_eq_false c4
    clear c4
    obtain rfl := Option.some.inj H
    go_enter Try.func84, Try.ntmps84
    go_wp2_with (first | ((with_reducible refine gate_dst (N := 2) rfl ?_); refine box_event ?hg (N := 2) ?hd (cs := #[.slice A0_0 l0_0.length c0_0, .int .i64 a0_1]) (t := 65) ?hr ?_; (case hd => rfl); (case hg => rfl); (case hr => first | (go_simp; done) | (go_simp; rfl)); intro gb101 hg w7 hbox hb; have n0_ := Aside0.mk (below_step (by repeat (first | (with_reducible first | exact HB.out | apply below_alloc | apply pw_below_drewN | apply below_drew1) | exact HB.out)) hb); have n1_ := Aside0.mk (hbox); have n2_ := Aside0.mk ((by rw [hg]; exact (below_size (by repeat (first | (with_reducible first | exact HB.out | apply below_alloc | apply pw_below_drewN | apply below_drew1) | exact HB.out))) : w.heap.size ≤ gb101)); have n3_ := Aside0.mk ((by rw [hg]; exact (below_size (by repeat (first | (with_reducible first | exact HB.out | apply below_alloc | apply pw_below_drewN | apply below_drew1) | exact HB.out))) : w.heap.size ≤ gb101)); clear HB; have HB := n0_; have BK101 := n1_; have GW101 := n2_; have GE101 := n3_; clear n0_ n1_ n2_ n3_; clear hb hbox hg; have hcz8_0 : w7.cell? ⟨gb101, 0, none⟩ = some (.slice A0_0 l0_0.length c0_0) := (blk_cell BK101.out 0).trans rfl; have hcz8_1 : w7.cell? ⟨gb101, 1, none⟩ = some (.int .i64 a0_1) := (blk_cell BK101.out 1).trans rfl; have hfz8_0 := blk_frozen BK101.out 0; have hfz8_1 := blk_frozen BK101.out 1) | ((with_reducible refine gate_callee (f := 115) rfl ?_); refine goesL_ (some 8) rfl rfl Try.func115 (by kernel_rfl) rfl #[.slice A0_0 l0_0.length c0_0, .int .i64 a1] rfl (by (try simp only [List.map_toArray, List.map_cons, List.map_nil]); first | done | rfl | (simp only [List.length_drop, List.length_take]; rfl)) ?_; (with_reducible refine (laws_heldVersionSS.calls k _ _ l0_0 a1 t102 _ ?side1 ?side2 A3.out).mono ?_); (case side1 => repeat (first | exact (Kd.C_below HR0_0.out HB.out) | (with_reducible refine Kd.C_alloc ?_ _) | (with_reducible refine Kd.C_drewN ?_ _) | (with_reducible refine Kd.C_drew ?_))); (case side2 => exact HC0_0.out); rintro e w' ⟨rfl, ⟨nd, rfl⟩⟩; refine ⟨_, rfl, ?_⟩))
    go_ret
    exact ⟨by first | rfl | (simp [errW_none, errW_some] <;> rfl) | (simp [*, errW_none, errW_some] <;> rfl), by repeat (first | (with_reducible first | exact HB.out | apply below_alloc | apply pw_below_drewN | apply below_drew1 | refine below_set ?_ GE101.out) | exact HB.out)⟩

end Go.Proofs.Ytfpkooafbeejmaa.Q
namespace Go.Proofs.Ytfpkooafbeejmaa.Q
open Go.RowKit Go.Proofs.YtfpkooafbeejmaaW.PrintWords Go.Proofs.YtfpkooafbeejmaaW.PrintLast Go.Proofs.YtfpkooafbeejmaaW.PrintMore
attribute [local go_sem] max2_int min2_int max_two min_two max_three min_three max_four min_four   -- for this text's walks alone
set_option linter.unusedVariables false
set_option linter.unusedSimpArgs false

/-! ### laws_heldLiveS: function 85 -/
def laws_heldLiveS.f (l0 : List (S149)) (a1 : Int) : Option (Int) := if l0.length = 0 then (some a1) else (none)
set_option maxHeartbeats 8000000 in
set_option maxRecDepth 100000 in
theorem laws_heldLiveS.calls (A0 : Option Addr) (c0 : Nat) (l0 : List (S149)) (a1 : Int) (r : Int) (w : World) (hr0 : Kd.C k149 w A0 l0.length l0) (hc0 : l0.length ≤ c0) (h : laws_heldLiveS.f l0 a1 = some r) :
    Calls Try.prog 85 #[.slice A0 l0.length c0, .int .i64 a1] w fun e w' => e = .returned (.int .i64 r) ∧ Below w.heap.size w w' := by
  unfold laws_heldLiveS.f at h
  by_cases z0 : l0.length = 0
  · rw [if_pos z0] at h
    obtain rfl := Option.some.inj h
    clear h hr0 hc0
    obtain ⟨k, hk⟩ : ∃ k : Nat, k = 0 := ⟨0, rfl⟩
    clear hk
    go_enter Try.func85, Try.ntmps85
    go_wp2
    go_loopg [1, 5] k (fun kq v1 v5 w' => ∃ (i : Int), v1 = .int .i64 a1 ∧ v5 = .int .i64 i ∧ Aside0 (i = 0) ∧ Aside0 (Below w.heap.size w w'))
    case atStart => exact ⟨0, rfl, rfl, ⟨rfl⟩, ⟨Below.refl _ _⟩⟩
    case round =>
      obtain ⟨i, rfl, rfl, HI, HB⟩ := hrel
      have c4b0 : decide (i < (l0.length : Int)) = false := decide_eq_false (by have := HI.out; omega)
      clear z0 HI
      go_wp2
      go_ret
      exact ⟨rfl, HB.out⟩
  · rw [if_neg z0] at h; exact absurd h (by simp)

end Go.Proofs.Ytfpkooafbeejmaa.Q
namespace Go.Proofs.Ytfpkooafbeejmaa.Q
open Go.RowKit Go.Proofs.YtfpkooafbeejmaaW.PrintWords Go.Proofs.YtfpkooafbeejmaaW.PrintLast Go.Proofs.YtfpkooafbeejmaaW.PrintMore
attribute [local go_sem] max2_int min2_int max_two min_two max_three min_three max_four min_four   -- for this text's walks alone
set_option linter.unusedVariables false
set_option linter.unusedSimpArgs false

/-! ### laws_heldDoneS: function 86 -/
def laws_heldDoneS.f (l0 : List (S115)) (a1 : Int) : Option (Int) := if l0.length = 0 then (some a1) else (none)
set_option maxHeartbeats 8000000 in
set_option maxRecDepth 100000 in
theorem laws_heldDoneS.calls (A0 : Option Addr) (c0 : Nat) (l0 : List (S115)) (a1 : Int) (r : Int) (w : World) (hr0 : Kd.C k115 w A0 l0.length l0) (hc0 : l0.length ≤ c0) (h : laws_heldDoneS.f l0 a1 = some r) :
    Calls Try.prog 86 #[.slice A0 l0.length c0, .int .i64 a1] w fun e w' => e = .returned (.int .i64 r) ∧ Below w.heap.size w w' := by
  unfold laws_heldDoneS.f at h
  by_cases z0 : l0.length = 0
  · rw [if_pos z0] at h
    obtain rfl := Option.some.inj h
    clear h hr0 hc0
    obtain ⟨k, hk⟩ : ∃ k : Nat, k = 0 := ⟨0, rfl⟩
    clear hk
    go_enter Try.func86, Try.ntmps86
    go_wp2
    go_loopg [1, 5] k (fun kq v1 v5 w' => ∃ (i : Int), v1 = .int .i64 a1 ∧ v5 = .int .i64 i ∧ Aside0 (i = 0) ∧ Aside0 (Below w.heap.size w w'))
    case atStart => exact ⟨0, rfl, rfl, ⟨rfl⟩, ⟨Below.refl _ _⟩⟩
    case round =>
      obtain ⟨i, rfl, rfl, HI, HB⟩ := hrel
      have c4b0 : decide (i < (l0.length : Int)) = false := decide_eq_false (by have := HI.out; omega)
      clear z0 HI
      go_wp2
      go_ret
      exact ⟨rfl, HB.out⟩
  · rw [if_neg z0] at h; exact absurd h (by simp)

end Go.Proofs.Ytfpkooafbeejmaa.Q
namespace Go.Proofs.Ytfpkooafbeejmaa.Q
open Go.RowKit Go.Proofs.YtfpkooafbeejmaaW.PrintWords Go.Proofs.YtfpkooafbeejmaaW.PrintLast Go.Proofs.YtfpkooafbeejmaaW.PrintMore
attribute [local go_sem] max2_int min2_int max_two min_two max_three min_three max_four min_four   -- for this text's walks alone
set_option linter.unusedVariables false
set_option linter.unusedSimpArgs false

/-! ### laws_heldServer: function 41 -/
def laws_heldServer.f (k : Nat) (l0_0 : List (List (S177))) (a0_1 : Int) (l0_2 : List (S149)) (l0_3 : List (S115)) (a0_4 : Int) (a1 : Int) : Option (Int) := (laws_heldStore.f k l0_0 a0_1 a1).bind fun t102 => (if t102 < 0 then (some (-1)) else ((laws_heldLiveS.f l0_2 t102).bind fun t103 => (if t103 < 0 then (some (-1)) else ((laws_heldDoneS.f l0_3 t103).bind fun t104 => (if t104 < 0 then (some (-1)) else (some t104))))))
set_option maxHeartbeats 8000000 in
set_option maxRecDepth 100000 in
theorem laws_heldServer.calls (k : Nat) (A0_0 : Option Addr) (c0_0 : Nat) (l0_0 : List (List (S177))) (a0_1 : Int) (A0_2 : Option Addr) (c0_2 : Nat) (l0_2 : List (S149)) (A0_3 : Option Addr) (c0_3 : Nat) (l0_3 : List (S115)) (a0_4 : Int) (a1 : Int) (r : Int) (w : World) (hr0_0 : Kd.C (Kd.slice 177 k177) w A0_0 l0_0.length l0_0) (hc0_0 : l0_0.length ≤ c0_0) (hr0_2 : Kd.C k149 w A0_2 l0_2.length l0_2) (hc0_2 : l0_2.length ≤ c0_2) (hr0_3 : Kd.C k115 w A0_3 l0_3.length l0_3) (hc0_3 : l0_3.length ≤ c0_3) (h : laws_heldServer.f k l0_0 a0_1 l0_2 l0_3 a0_4 a1 = some r) :
    Calls Try.prog 41 #[.agg #[.slice A0_0 l0_0.length c0_0, .int .i64 a0_1, .slice A0_2 l0_2.length c0_2, .slice A0_3 l0_3.length c0_3, .int .i64 a0_4], .int .i64 a1] w fun e w' => e = .returned (.int .i64 r) ∧ Below w.heap.size w w' := by
  have hu68 := Try.underlying68
  have hu65 := Try.underlying65
  have HR0_0 := Aside0.mk hr0_0
  have HC0_0 := Aside0.mk hc0_0
  clear hr0_0 hc0_0
  have HR0_2 := Aside0.mk hr0_2
  have HC0_2 := Aside0.mk hc0_2
  clear hr0_2 hc0_2
  have HR0_3 := Aside0.mk hr0_3
  have HC0_3 := Aside0.mk hc0_3
  clear hr0_3 hc0_3
  have HB := Aside0.mk (Below.refl w.heap.size w)
  have H : ((laws_heldStore.f k l0_0 a0_1 a1).bind fun t102 => (if t102 < 0 then (some (-1)) else ((laws_heldLiveS.f l0_2 t102).bind fun t103 => (if t103 < 0 then (some (-1)) else ((laws_heldDoneS.f l0_3 t103).bind fun t104 => (if t104 < 0 then (some (-1)) else (some t104))))))) = some r := h
  clear h
  replace H := Option.bind_eq_some_iff.mp H
  obtain ⟨t102, A30, H⟩ := H
  replace H : (if t102 < 0 then (some (-1)) else ((laws_heldLiveS.f l0_2 t102).bind fun t103 => (if t103 < 0 then (some (-1)) else ((laws_heldDoneS.f l0_3 t103).bind fun t104 => (if t104 < 0 then (some (-1)) else (some t104)))))) = some r := H
  have A3 := Aside0.mk A30
  clear A30
  by_cases c4 : t102 < 0
  · rw [if_pos c4] at H
    have c4b0 : decide (t102 < 0) = true := decide_eq_true c4
    clear c4
    obtain rfl := Option.some.inj H
    go_enter Try.func41, Try.ntmps41
    go_wp2_with (first | ((with_reducible refine gate_dst (N := 2) rfl ?_); refine box_event ?hg (N := 2) ?hd (cs := #[.slice A0_0 l0_0.length c0_0, .int .i64 a0_1, .slice A0_2 l0_2.length c0_2, .slice A0_3 l0_3.length c0_3, .int .i64 a0_4]) (t := 68) ?hr ?_; (case hd => rfl); (case hg => rfl); (case hr => first | (go_simp; done) | (go_simp; rfl)); intro gb101 hg w5 hbox hb; have n0_ := Aside0.mk (below_step (by repeat (first | (with_reducible first | exact HB.out | apply below_alloc | apply pw_below_drewN | apply below_drew1) | exact HB.out)) hb); have n1_ := Aside0.mk (hbox); have n2_ := Aside0.mk ((by rw [hg]; exact (below_size (by repeat (first | (with_reducible first | exact HB.out | apply below_alloc | apply pw_below_drewN | apply below_drew1) | exact HB.out))) : w.heap.size ≤ gb101)); have n3_ := Aside0.mk ((by rw [hg]; exact (below_size (by repeat (first | (with_reducible first | exact HB.out | apply below_alloc | apply pw_below_drewN | apply below_drew1) | exact HB.out))) : w.heap.size ≤ gb101)); clear HB; have HB := n0_; have BK101 := n1_; have GW101 := n2_; have GE101 := n3_; clear n0_ n1_ n2_ n3_; clear hb hbox hg; have hcz6_0 : w5.cell? ⟨gb101, 0, none⟩ = some (.slice A0_0 l0_0.length c0_0) := (blk_cell BK101.out 0).trans rfl; have hcz6_1 : w5.cell? ⟨gb101, 1, none⟩ = some (.int .i64 a0_1) := (blk_cell BK101.out 1).trans rfl; have hcz6_2 : w5.cell? ⟨gb101, 2, none⟩ = some (.slice A0_2 l0_2.length c0_2) := (blk_cell BK101.out 2).trans rfl; have hcz6_3 : w5.cell? ⟨gb101, 3, none⟩ = some (.slice A0_3 l0_3.length c0_3) := (blk_cell BK101.out 3).trans rfl; have hcz6_4 : w5.cell? ⟨gb101, 4, none⟩ = some (.int .i64 a0_4) := (blk_cell BK101.out 4).trans rfl; have hfz6_0 := blk_frozen BK101.out 0; have hfz6_1 := blk_frozen BK101.out 1; have hfz6_2 := blk_frozen BK101.out 2; have hfz6_3 := blk_frozen BK101.out 3; have hfz6_4 := blk_frozen BK101.out 4) | ((with_reducible refine gate_callee (f := 84) rfl ?_); refine goesL_ (some 8) rfl rfl Try.func84 (by kernel_rfl) rfl #[.agg #[.slice A0_0 l0_0.length c0_0, .int .i64 a0_1], .int .i64 a1] rfl (by (try simp only [List.map_toArray, List.map_cons, List.map_nil]); first | done | rfl | (simp only [List.length_drop, List.length_take]; rfl)) ?_; (with_reducible refine (laws_heldStore.calls k _ _ l0_0 a0_1 a1 t102 _ ?side1 ?side2 A3.out).mono ?_); (case side1 => repeat (first | exact (Kd.C_below HR0_0.out HB.out) | (with_reducible refine Kd.C_alloc ?_ _) | (with_reducible refine Kd.C_drewN ?_ _) | (with_reducible refine Kd.C_drew ?_))); (case side2 => exact HC0_0.out); rintro e w7 ⟨rfl, hb⟩; refine ⟨_, rfl, ?_⟩; have n0_ := Aside0.mk (blk_below (g := gb101) (o := .cells #[.slice A0_0 l0_0.length c0_0, .int .i64 a0_1, .slice A0_2 l0_2.length c0_2, .slice A0_3 l0_3.length c0_3, .int .i64 a0_4] 68 (0, 0)) (by (with_reducible repeat (first | refine blk_drewN ?_ _ | refine blk_drew ?_ | refine blk_alloc ?_ _)); exact BK101.out) hb); have n1_ := Aside0.mk (below_step (by repeat (first | (with_reducible first | exact HB.out | apply below_alloc | apply pw_below_drewN | apply below_drew1 | refine below_set ?_ GE101.out) | exact HB.out)) hb); clear BK101; clear HB; have BK101 := n0_; have HB := n1_; clear n0_ n1_; (try clear hb); (try clear hb2); (try clear hk); (try clear hi)))
    go_ret
    exact ⟨by first | rfl | (simp [errW_none, errW_some] <;> rfl) | (simp [*, errW_none, errW_some] <;> rfl), by repeat (first | (with_reducible first | exact HB.out | apply below_alloc | apply pw_below_drewN | apply below_drew1 | refine below_set ?_ GE101.out) | exact HB.out)⟩
  · rw [if_neg c4] at H
    have c4b0 : decide (t102 < 0) = false := decide_eq_false c4
    clear c4
    replace H := Option.bind_eq_some_iff.mp H
    obtain ⟨t103, A80, H⟩ := H
    replace H : (if t103 < 0 then (some (-1)) else ((laws_heldDoneS.f l0_3 t103).bind fun t104 => (if t104 < 0 then (some (-1)) else (some t104)))) = some r := H
    have A8 := Aside0.mk A80
    clear A80
    by_cases c9 : t103 < 0
    · rw [if_pos c9] at H
      have c9b0 : decide (t103 < 0) = true := decide_eq_true c9
      clear c9
      obtain rfl := Option.some.inj H
      go_enter Try.func41, Try.ntmps41
      go_wp2_with (first | ((with_reducible refine gate_dst (N := 2) rfl ?_); refine box_event ?hg (N := 2) ?hd (cs := #[.slice A0_0 l0_0.length c0_0, .int .i64 a0_1, .slice A0_2 l0_2.length c0_2, .slice A0_3 l0_3.length c0_3, .int .i64 a0_4]) (t := 68) ?hr ?_; (case hd => rfl); (case hg => rfl); (case hr => first | (go_simp; done) | (go_simp; rfl)); intro gb101 hg w10 hbox hb; have n0_ := Aside0.mk (below_step (by repeat (first | (with_reducible first | exact HB.out | apply below_alloc | apply pw_below_drewN | apply below_drew1) | exact HB.out)) hb); have n1_ := Aside0.mk (hbox); have n2_ := Aside0.mk ((by rw [hg]; exact (below_size (by repeat (first | (with_reducible first | exact HB.out | apply below_alloc | apply pw_below_drewN | apply below_drew1) | exact HB.out))) : w.heap.size ≤ gb101)); have n3_ := Aside0.mk ((by rw [hg]; exact (below_size (by repeat (first | (with_reducible first | exact HB.out | apply below_alloc | apply pw_below_drewN | apply below_drew1) | exact HB.out))) : w.heap.size ≤ gb101)); clear HB; have HB := n0_; have BK101 := n1_; have GW101 := n2_; have GE101 := n3_; clear n0_ n1_ n2_ n3_; clear hb hbox hg; have hcz11_0 : w10.cell? ⟨gb101, 0, none⟩ = some (.slice A0_0 l0_0.length c0_0) := (blk_cell BK101.out 0).trans rfl; have hcz11_1 : w10.cell? ⟨gb101, 1, none⟩ = some (.int .i64 a0_1) := (blk_cell BK101.out 1).trans rfl; have hcz11_2 : w10.cell? ⟨gb101, 2, none⟩ = some (.slice A0_2 l0_2.length c0_2) := (blk_cell BK101.out 2).trans rfl; have hcz11_3 : w10.cell? ⟨gb101, 3, none⟩ = some (.slice A0_3 l0_3.length c0_3) := (blk_cell BK101.out 3).trans rfl; have hcz11_4 : w10.cell? ⟨gb101, 4, none⟩ = some (.int .i64 a0_4) := (blk_cell BK101.out 4).trans rfl; have hfz11_0 := blk_frozen BK101.out 0; have hfz11_1 := blk_frozen BK101.out 1; have hfz11_2 := blk_frozen BK101.out 2; have hfz11_3 := blk_frozen BK101.out 3; have hfz11_4 := blk_frozen BK101.out 4) | ((with_reducible refine gate_callee (f := 84) rfl ?_); refine goesL_ (some 8) rfl rfl Try.func84 (by kernel_rfl) rfl #[.agg #[.slice A0_0 l0_0.length c0_0, .int .i64 a0_1], .int .i64 a1] rfl (by (try simp only [List.map_toArray, List.map_cons, List.map_nil]); first | done | rfl | (simp only [List.length_drop, List.length_take]; rfl)) ?_; (with_reducible refine (laws_heldStore.calls k _ _ l0_0 a0_1 a1 t102 _ ?side1 ?side2 A3.out).mono ?_); (case side1 => repeat (first | exact (Kd.C_below HR0_0.out HB.out) | (with_reducible refine Kd.C_alloc ?_ _) | (with_reducible refine Kd.C_drewN ?_ _) | (with_reducible refine Kd.C_drew ?_))); (case side2 => exact HC0_0.out); rintro e w12 ⟨rfl, hb⟩; refine ⟨_, rfl, ?_⟩; have n0_ := Aside0.mk (blk_below (g := gb101) (o := .cells #[.slice A0_0 l0_0.length c0_0, .int .i64 a0_1, .slice A0_2 l0_2.length c0_2, .slice A0_3 l0_3.length c0_3, .int .i64 a0_4] 68 (0, 0)) (by (with_reducible repeat (first | refine blk_drewN ?_ _ | refine blk_drew ?_ | refine blk_alloc ?_ _)); exact BK101.out) hb); have n1_ := Aside0.mk (below_step (by repeat (first | (with_reducible first | exact HB.out | apply below_alloc | apply pw_below_drewN | apply below_drew1 | refine below_set ?_ GE101.out) | exact HB.out)) hb); clear BK101; clear HB; have BK101 := n0_; have HB := n1_; clear n0_ n1_; (try clear hb); (try clear hb2); (try clear hk); (try clear hi); have hcz13_0 : w12.cell? ⟨gb101, 0, none⟩ = some (.slice A0_0 l0_0.length c0_0) := (blk_cell BK101.out 0).trans rfl; have hcz13_1 : w12.cell? ⟨gb101, 1, none⟩ = some (.int .i64 a0_1) := (blk_cell BK101.out 1).trans rfl; have hcz13_2 : w12.cell? ⟨gb101, 2, none⟩ = some (.slice A0_2 l0_2.length c0_2) := (blk_cell BK101.out 2).trans rfl; have hcz13_3 : w12.cell? ⟨gb101, 3, none⟩ = some (.slice A0_3 l0_3.length c0_3) := (blk_cell BK101.out 3).trans rfl; have hcz13_4 : w12.cell? ⟨gb101, 4, none⟩ = some (.int .i64 a0_4) := (blk_cell BK101.out 4).trans rfl; have hfz13_0 := blk_frozen BK101.out 0; have hfz13_1 := blk_frozen BK101.out 1; have hfz13_2 := blk_frozen BK101.out 2; have hfz13_3 := blk_frozen BK101.out 3; have hfz13_4 := blk_frozen BK101.out 4) | ((with_reducible refine gate_callee (f := 85) rfl ?_); refine goesL_ (some 14) rfl rfl Try.func85 (by kernel_rfl) rfl #[.slice A0_2 l0_2.length c0_2, .int .i64 t102] rfl (by (try simp only [List.map_toArray, List.map_cons, List.map_nil]); first | done | rfl | (simp only [List.length_drop, List.length_take]; rfl)) ?_; (with_reducible refine (laws_heldLiveS.calls _ _ l0_2 t102 t103 _ ?side1 ?side2 A8.out).mono ?_); (case side1 => repeat (first | exact (Kd.C_below HR0_2.out HB.out) | (with_reducible refine Kd.C_alloc ?_ _) | (with_reducible refine Kd.C_drewN ?_ _) | (with_reducible refine Kd.C_drew ?_))); (case side2 => exact HC0_2.out); rintro e w14 ⟨rfl, hb⟩; refine ⟨_, rfl, ?_⟩; have n0_ := Aside0.mk (blk_below (g := gb101) (o := .cells #[.slice A0_0 l0_0.length c0_0, .int .i64 a0_1, .slice A0_2 l0_2.length c0_2, .slice A0_3 l0_3.length c0_3, .int .i64 a0_4] 68 (0, 0)) (by (with_reducible repeat (first | refine blk_drewN ?_ _ | refine blk_drew ?_ | refine blk_alloc ?_ _)); exact BK101.out) hb); have n1_ := Aside0.mk (below_step (by repeat (first | (with_reducible first | exact HB.out | apply below_alloc | apply pw_below_drewN | apply below_drew1 | refine below_set ?_ GE101.out) | exact HB.out)) hb); clear BK101; clear HB; have BK101 := n0_; have HB := n1_; clear n0_ n1_; (try clear hb); (try clear hb2); (try clear hk); (try clear hi)))
      go_ret
      exact ⟨by first | rfl | (simp [errW_none, errW_some] <;> rfl) | (simp [*, errW_none, errW_some] <;> rfl), by repeat (first | (with_reducible first | exact HB.out | apply below_alloc | apply pw_below_drewN | apply below_drew1 | refine below_set ?_ GE101.out) | exact HB.out)⟩
    · rw [if_neg c9] at H
      have c9b0 : decide (t103 < 0) = false := decide_eq_false c9
      clear c9
      replace H := Option.bind_eq_some_iff.mp H
      obtain ⟨t104, A150, H⟩ := H
      replace H : (if t104 < 0 then (some (-1)) else (some t104)) = some r := H
      have A15 := Aside0.mk A150
      clear A150
      by_cases c16 : t104 < 0
      · rw [if_pos c16] at H
        have c16b0 : decide (t104 < 0) = true := decide_eq_true c16
        clear c16
        obtain rfl := Option.some.inj H
        go_enter Try.func41, Try.ntmps41
        go_wp2_with (first | ((with_reducible refine gate_dst (N := 2) rfl ?_); refine box_event ?hg (N := 2) ?hd (cs := #[.slice A0_0 l0_0.length c0_0, .int .i64 a0_1, .slice A0_2 l0_2.length c0_2, .slice A0_3 l0_3.length c0_3, .int .i64 a0_4]) (t := 68) ?hr ?_; (case hd => rfl); (case hg => rfl); (case hr => first | (go_simp; done) | (go_simp; rfl)); intro gb101 hg w17 hbox hb; have n0_ := Aside0.mk (below_step (by repeat (first | (with_reducible first | exact HB.out | apply below_alloc | apply pw_below_drewN | apply below_drew1) | exact HB.out)) hb); have n1_ := Aside0.mk (hbox); have n2_ := Aside0.mk ((by rw [hg]; exact (below_size (by repeat (first | (with_reducible first | exact HB.out | apply below_alloc | apply pw_below_drewN | apply below_drew1) | exact HB.out))) : w.heap.size ≤ gb101)); have n3_ := Aside0.mk ((by rw [hg]; exact (below_size (by repeat (first | (with_reducible first | exact HB.out | apply below_alloc | apply pw_below_drewN | apply below_drew1) | exact HB.out))) : w.heap.size ≤ gb101)); clear HB; have HB := n0_; have BK101 := n1_; have GW101 := n2_; have GE101 := n3_; clear n0_ n1_ n2_ n3_; clear hb hbox hg; have hcz18_0 : w17.cell? ⟨gb101, 0, none⟩ = some (.slice A0_0 l0_0.length c0_0) := (blk_cell BK101.out 0).trans rfl; have hcz18_1 : w17.cell? ⟨gb101, 1, none⟩ = some (.int .i64 a0_1) := (blk_cell BK101.out 1).trans rfl; have hcz18_2 : w17.cell? ⟨gb101, 2, none⟩ = some (.slice A0_2 l0_2.length c0_2) := (blk_cell BK101.out 2).trans rfl; have hcz18_3 : w17.cell? ⟨gb101, 3, none⟩ = some (.slice A0_3 l0_3.length c0_3) := (blk_cell BK101.out 3).trans rfl; have hcz18_4 : w17.cell? ⟨gb101, 4, none⟩ = some (.int .i64 a0_4) := (blk_cell BK101.out 4).trans rfl; have hfz18_0 := blk_frozen BK101.out 0; have hfz18_1 := blk_frozen BK101.out 1; have hfz18_2 := blk_frozen BK101.out 2; have hfz18_3 := blk_frozen BK101.out 3; have hfz18_4 := blk_frozen BK101.out 4) | ((with_reducible refine gate_callee (f := 84) rfl ?_); refine goesL_ (some 8) rfl rfl Try.func84 (by kernel_rfl) rfl #[.agg #[.slice A0_0 l0_0.length c0_0, .int .i64 a0_1], .int .i64 a1] rfl (by (try simp only [List.map_toArray, List.map_cons, List.map_nil]); first | done | rfl | (simp only [List.length_drop, List.length_take]; rfl)) ?_; (with_reducible refine (laws_heldStore.calls k _ _ l0_0 a0_1 a1 t102 _ ?side1 ?side2 A3.out).mono ?_); (case side1 => repeat (first | exact (Kd.C_below HR0_0.out HB.out) | (with_reducible refine Kd.C_alloc ?_ _) | (with_reducible refine Kd.C_drewN ?_ _) | (with_reducible refine Kd.C_drew ?_))); (case side2 => exact HC0_0.out); rintro e w19 ⟨rfl, hb⟩; refine ⟨_, rfl, ?_⟩; have n0_ := Aside0.mk (blk_below (g := gb101) (o := .cells #[.slice A0_0 l0_0.length c0_0, .int .i64 a0_1, .slice A0_2 l0_2.length c0_2, .slice A0_3 l0_3.length c0_3, .int .i64 a0_4] 68 (0, 0)) (by (with_reducible repeat (first | refine blk_drewN ?_ _ | refine blk_drew ?_ | refine blk_alloc ?_ _)); exact BK101.out) hb); have n1_ := Aside0.mk (below_step (by repeat (first | (with_reducible first | exact HB.out | apply below_alloc | apply pw_below_drewN | apply below_drew1 | refine below_set ?_ GE101.out) | exact HB.out)) hb); clear BK101; clear HB; have BK101 := n0_; have HB := n1_; clear n0_ n1_; (try clear hb); (try clear hb2); (try clear hk); (try clear hi); have hcz20_0 : w19.cell? ⟨gb101, 0, none⟩ = some (.slice A0_0 l0_0.length c0_0) := (blk_cell BK101.out 0).trans rfl; have hcz20_1 : w19.cell? ⟨gb101, 1, none⟩ = some (.int .i64 a0_1) := (blk_cell BK101.out 1).trans rfl; have hcz20_2 : w19.cell? ⟨gb101, 2, none⟩ = some (.slice A0_2 l0_2.length c0_2) := (blk_cell BK101.out 2).trans rfl; have hcz20_3 : w19.cell? ⟨gb101, 3, none⟩ = some (.slice A0_3 l0_3.length c0_3) := (blk_cell BK101.out 3).trans rfl; have hcz20_4 : w19.cell? ⟨gb101, 4, none⟩ = some (.int .i64 a0_4) := (blk_cell BK101.out 4).trans rfl; have hfz20_0 := blk_frozen BK101.out 0; have hfz20_1 := blk_frozen BK101.out 1; have hfz20_2 := blk_frozen BK101.out 2; have hfz20_3 := blk_frozen BK101.out 3; have hfz20_4 := blk_frozen BK101.out 4) | ((with_reducible refine gate_callee (f := 85) rfl ?_); refine goesL_ (some 14) rfl rfl Try.func85 (by kernel_rfl) rfl #[.slice A0_2 l0_2.length c0_2, .int .i64 t102] rfl (by (try simp only [List.map_toArray, List.map_cons, List.map_nil]); first | done | rfl | (simp only [List.length_drop, List.length_take]; rfl)) ?_; (with_reducible refine (laws_heldLiveS.calls _ _ l0_2 t102 t103 _ ?side1 ?side2 A8.out).mono ?_); (case side1 => repeat (first | exact (Kd.C_below HR0_2.out HB.out) | (with_reducible refine Kd.C_alloc ?_ _) | (with_reducible refine Kd.C_drewN ?_ _) | (with_reducible refine Kd.C_drew ?_))); (case side2 => exact HC0_2.out); rintro e w21 ⟨rfl, hb⟩; refine ⟨_, rfl, ?_⟩; have n0_ := Aside0.mk (blk_below (g := gb101) (o := .cells #[.slice A0_0 l0_0.length c0_0, .int .i64 a0_1, .slice A0_2 l0_2.length c0_2, .slice A0_3 l0_3.length c0_3, .int .i64 a0_4] 68 (0, 0)) (by (with_reducible repeat (first | refine blk_drewN ?_ _ | refine blk_drew ?_ | refine blk_alloc ?_ _)); exact BK101.out) hb); have n1_ := Aside0.mk (below_step (by repeat (first | (with_reducible first | exact HB.out | apply below_alloc | apply pw_below_drewN | apply below_drew1 | refine below_set ?_ GE101.out) | exact HB.out)) hb); clear BK101; clear HB; have BK101 := n0_; have HB := n1_; clear n0_ n1_; (try clear hb); (try clear hb2); (try clear hk); (try clear hi); have hcz22_0 : w21.cell? ⟨gb101, 0, none⟩ = some (.slice A0_0 l0_0.length c0_0) := (blk_cell BK101.out 0).trans rfl; have hcz22_1 : w21.cell? ⟨gb101, 1, none⟩ = some (.int .i64 a0_1) := (blk_cell BK101.out 1).trans rfl; have hcz22_2 : w21.cell? ⟨gb101, 2, none⟩ = some (.slice A0_2 l0_2.length c0_2) := (blk_cell BK101.out 2).trans rfl; have hcz22_3 : w21.cell? ⟨gb101, 3, none⟩ = some (.slice A0_3 l0_3.length c0_3) := (blk_cell BK101.out 3).trans rfl; have hcz22_4 : w21.cell? ⟨gb101, 4, none⟩ = some (.int .i64 a0_4) := (blk_cell BK101.out 4).trans rfl; have hfz22_0 := blk_frozen BK101.out 0; have hfz22_1 := blk_frozen BK101.out 1; have hfz22_2 := blk_frozen BK101.out 2; have hfz22_3 := blk_frozen BK101.out 3; have hfz22_4 := blk_frozen BK101.out 4) | ((with_reducible refine gate_callee (f := 86) rfl ?_); refine goesL_ (some 20) rfl rfl Try.func86 (by kernel_rfl) rfl #[.slice A0_3 l0_3.length c0_3, .int .i64 t103] rfl (by (try simp only [List.map_toArray, List.map_cons, List.map_nil]); first | done | rfl | (simp only [List.length_drop, List.length_take]; rfl)) ?_; (with_reducible refine (laws_heldDoneS.calls _ _ l0_3 t103 t104 _ ?side1 ?side2 A15.out).mono ?_); (case side1 => repeat (first | exact (Kd.C_below HR0_3.out HB.out) | (with_reducible refine Kd.C_alloc ?_ _) | (with_reducible refine Kd.C_drewN ?_ _) | (with_reducible refine Kd.C_drew ?_))); (case side2 => exact HC0_3.out); rintro e w23 ⟨rfl, hb⟩; refine ⟨_, rfl, ?_⟩; have n0_ := Aside0.mk (blk_below (g := gb101) (o := .cells #[.slice A0_0 l0_0.length c0_0, .int .i64 a0_1, .slice A0_2 l0_2.length c0_2, .slice A0_3 l0_3.length c0_3, .int .i64 a0_4] 68 (0, 0)) (by (with_reducible repeat (first | refine blk_drewN ?_ _ | refine blk_drew ?_ | refine blk_alloc ?_ _)); exact BK101.out) hb); have n1_ := Aside0.mk (below_step (by repeat (first | (with_reducible first | exact HB.out | apply below_alloc | apply pw_below_drewN | apply below_drew1 | refine below_set ?_ GE101.out) | exact HB.out)) hb); clear BK101; clear HB; have BK101 := n0_; have HB := n1_; clear n0_ n1_; (try clear hb); (try clear hb2); (try clear hk); (try clear hi)))
        go_ret
        exact ⟨by first | rfl | (simp [errW_none, errW_some] <;> rfl) | (simp [*, errW_none, errW_some] <;> rfl), by repeat (first | (with_reducible first | exact HB.out | apply below_alloc | apply pw_below_drewN | apply below_drew1 | refine below_set ?_ GE101.out) | exact HB.out)⟩
      · rw [if_neg c16] at H
        have c16b0 : decide (t104 < 0) = false := decide_eq_false c16
        clear c16
        obtain rfl := Option.some.inj H
        go_enter Try.func41, Try.ntmps41
        go_wp2_with (first | ((with_reducible refine gate_dst (N := 2) rfl ?_); refine box_event ?hg (N := 2) ?hd (cs := #[.slice A0_0 l0_0.length c0_0, .int .i64 a0_1, .slice A0_2 l0_2.length c0_2, .slice A0_3 l0_3.length c0_3, .int .i64 a0_4]) (t := 68) ?hr ?_; (case hd => rfl); (case hg => rfl); (case hr => first | (go_simp; done) | (go_simp; rfl)); intro gb101 hg w24 hbox hb; have n0_ := Aside0.mk (below_step (by repeat (first | (with_reducible first | exact HB.out | apply below_alloc | apply pw_below_drewN | apply below_drew1) | exact HB.out)) hb); have n1_ := Aside0.mk (hbox); have n2_ := Aside0.mk ((by rw [hg]; exact (below_size (by repeat (first | (with_reducible first | exact HB.out | apply below_alloc | apply pw_below_drewN | apply below_drew1) | exact HB.out))) : w.heap.size ≤ gb101)); have n3_ := Aside0.mk ((by rw [hg]; exact (below_size (by repeat (first | (with_reducible first | exact HB.out | apply below_alloc | apply pw_below_drewN | apply below_drew1) | exact HB.out))) : w.heap.size ≤ gb101)); clear HB; have HB := n0_; have BK101 := n1_; have GW101 := n2_; have GE101 := n3_; clear n0_ n1_ n2_ n3_; clear hb hbox hg; have hcz25_0 : w24.cell? ⟨gb101, 0, none⟩ = some (.slice A0_0 l0_0.length c0_0) := (blk_cell BK101.out 0).trans rfl; have hcz25_1 : w24.cell? ⟨gb101, 1, none⟩ = some (.int .i64 a0_1) := (blk_cell BK101.out 1).trans rfl; have hcz25_2 : w24.cell? ⟨gb101, 2, none⟩ = some (.slice A0_2 l0_2.length c0_2) := (blk_cell BK101.out 2).trans rfl; have hcz25_3 : w24.cell? ⟨gb101, 3, none⟩ = some (.slice A0_3 l0_3.length c0_3) := (blk_cell BK101.out 3).trans rfl; have hcz25_4 : w24.cell? ⟨gb101, 4, none⟩ = some (.int .i64 a0_4) := (blk_cell BK101.out 4).trans rfl; have hfz25_0 := blk_frozen BK101.out 0; have hfz25_1 := blk_frozen BK101.out 1; have hfz25_2 := blk_frozen BK101.out 2; have hfz25_3 := blk_frozen BK101.out 3; have hfz25_4 := blk_frozen BK101.out 4) | ((with_reducible refine gate_callee (f := 84) rfl ?_); refine goesL_ (some 8) rfl rfl Try.func84 (by kernel_rfl) rfl #[.agg #[.slice A0_0 l0_0.length c0_0, .int .i64 a0_1], .int .i64 a1] rfl (by (try simp only [List.map_toArray, List.map_cons, List.map_nil]); first | done | rfl | (simp only [List.length_drop, List.length_take]; rfl)) ?_; (with_reducible refine (laws_heldStore.calls k _ _ l0_0 a0_1 a1 t102 _ ?side1 ?side2 A3.out).mono ?_); (case side1 => repeat (first | exact (Kd.C_below HR0_0.out HB.out) | (with_reducible refine Kd.C_alloc ?_ _) | (with_reducible refine Kd.C_drewN ?_ _) | (with_reducible refine Kd.C_drew ?_))); (case side2 => exact HC0_0.out); rintro e w26 ⟨rfl, hb⟩; refine ⟨_, rfl, ?_⟩; have n0_ := Aside0.mk (blk_below (g := gb101) (o := .cells #[.slice A0_0 l0_0.length c0_0, .int .i64 a0_1, .slice A0_2 l0_2.length c0_2, .slice A0_3 l0_3.length c0_3, .int .i64 a0_4] 68 (0, 0)) (by (with_reducible repeat (first | refine blk_drewN ?_ _ | refine blk_drew ?_ | refine blk_alloc ?_ _)); exact BK101.out) hb); have n1_ := Aside0.mk (below_step (by repeat (first | (with_reducible first | exact HB.out | apply below_alloc | apply pw_below_drewN | apply below_drew1 | refine below_set ?_ GE101.out) | exact HB.out)) hb); clear BK101; clear HB; have BK101 := n0_; have HB := n1_; clear n0_ n1_; (try clear hb); (try clear hb2); (try clear hk); (try clear hi); have hcz27_0 : w26.cell? ⟨gb101, 0, none⟩ = some (.slice A0_0 l0_0.length c0_0) := (blk_cell BK101.out 0).trans rfl; have hcz27_1 : w26.cell? ⟨gb101, 1, none⟩ = some (.int .i64 a0_1) := (blk_cell BK101.out 1).trans rfl; have hcz27_2 : w26.cell? ⟨gb101, 2, none⟩ = some (.slice A0_2 l0_2.length c0_2) := (blk_cell BK101.out 2).trans rfl; have hcz27_3 : w26.cell? ⟨gb101, 3, none⟩ = some (.slice A0_3 l0_3.length c0_3) := (blk_cell BK101.out 3).trans rfl; have hcz27_4 : w26.cell? ⟨gb101, 4, none⟩ = some (.int .i64 a0_4) := (blk_cell BK101.out 4).trans rfl; have hfz27_0 := blk_frozen BK101.out 0; have hfz27_1 := blk_frozen BK101.out 1; have hfz27_2 := blk_frozen BK101.out 2; have hfz27_3 := blk_frozen BK101.out 3; have hfz27_4 := blk_frozen BK101.out 4) | ((with_reducible refine gate_callee (f := 85) rfl ?_); refine goesL_ (some 14) rfl rfl Try.func85 (by kernel_rfl) rfl #[.slice A0_2 l0_2.length c0_2, .int .i64 t102] rfl (by (try simp only [List.map_toArray, List.map_cons, List.map_nil]); first | done | rfl | (simp only [List.length_drop, List.length_take]; rfl)) ?_; (with_reducible refine (laws_heldLiveS.calls _ _ l0_2 t102 t103 _ ?side1 ?side2 A8.out).mono ?_); (case side1 => repeat (first | exact (Kd.C_below HR0_2.out HB.out) | (with_reducible refine Kd.C_alloc ?_ _) | (with_reducible refine Kd.C_drewN ?_ _) | (with_reducible refine Kd.C_drew ?_))); (case side2 => exact HC0_2.out); rintro e w28 ⟨rfl, hb⟩; refine ⟨_, rfl, ?_⟩; have n0_ := Aside0.mk (blk_below (g := gb101) (o := .cells #[.slice A0_0 l0_0.length c0_0, .int .i64 a0_1, .slice A0_2 l0_2.length c0_2, .slice A0_3 l0_3.length c0_3, .int .i64 a0_4] 68 (0, 0)) (by (with_reducible repeat (first | refine blk_drewN ?_ _ | refine blk_drew ?_ | refine blk_alloc ?_ _)); exact BK101.out) hb); have n1_ := Aside0.mk (below_step (by repeat (first | (with_reducible first | exact HB.out | apply below_alloc | apply pw_below_drewN | apply below_drew1 | refine below_set ?_ GE101.out) | exact HB.out)) hb); clear BK101; clear HB; have BK101 := n0_; have HB := n1_; clear n0_ n1_; (try clear hb); (try clear hb2); (try clear hk); (try clear hi); have hcz29_0 : w28.cell? ⟨gb101, 0, none⟩ = some (.slice A0_0 l0_0.length c0_0) := (blk_cell BK101.out 0).trans rfl; have hcz29_1 : w28.cell? ⟨gb101, 1, none⟩ = some (.int .i64 a0_1) := (blk_cell BK101.out 1).trans rfl; have hcz29_2 : w28.cell? ⟨gb101, 2, none⟩ = some (.slice A0_2 l0_2.length c0_2) := (blk_cell BK101.out 2).trans rfl; have hcz29_3 : w28.cell? ⟨gb101, 3, none⟩ = some (.slice A0_3 l0_3.length c0_3) := (blk_cell BK101.out 3).trans rfl; have hcz29_4 : w28.cell? ⟨gb101, 4, none⟩ = some (.int .i64 a0_4) := (blk_cell BK101.out 4).trans rfl; have hfz29_0 := blk_frozen BK101.out 0; have hfz29_1 := blk_frozen BK101.out 1; have hfz29_2 := blk_frozen BK101.out 2; have hfz29_3 := blk_frozen BK101.out 3; have hfz29_4 := blk_frozen BK101.out 4) | ((with_reducible refine gate_callee (f := 86) rfl ?_); refine goesL_ (some 20) rfl rfl Try.func86 (by kernel_rfl) rfl #[.slice A0_3 l0_3.length c0_3, .int .i64 t103] rfl (by (try simp only [List.map_toArray, List.map_cons, List.map_nil]); first | done | rfl | (simp only [List.length_drop, List.length_take]; rfl)) ?_; (with_reducible refine (laws_heldDoneS.calls _ _ l0_3 t103 t104 _ ?side1 ?side2 A15.out).mono ?_); (case side1 => repeat (first | exact (Kd.C_below HR0_3.out HB.out) | (with_reducible refine Kd.C_alloc ?_ _) | (with_reducible refine Kd.C_drewN ?_ _) | (with_reducible refine Kd.C_drew ?_))); (case side2 => exact HC0_3.out); rintro e w30 ⟨rfl, hb⟩; refine ⟨_, rfl, ?_⟩; have n0_ := Aside0.mk (blk_below (g := gb101) (o := .cells #[.slice A0_0 l0_0.length c0_0, .int .i64 a0_1, .slice A0_2 l0_2.length c0_2, .slice A0_3 l0_3.length c0_3, .int .i64 a0_4] 68 (0, 0)) (by (with_reducible repeat (first | refine blk_drewN ?_ _ | refine blk_drew ?_ | refine blk_alloc ?_ _)); exact BK101.out) hb); have n1_ := Aside0.mk (below_step (by repeat (first | (with_reducible first | exact HB.out | apply below_alloc | apply pw_below_drewN | apply below_drew1 | refine below_set ?_ GE101.out) | exact HB.out)) hb); clear BK101; clear HB; have BK101 := n0_; have HB := n1_; clear n0_ n1_; (try clear hb); (try clear hb2); (try clear hk); (try clear hi)))
        go_ret
        exact ⟨by first | rfl | (simp [errW_none, errW_some] <;> rfl) | (simp [*, errW_none, errW_some] <;> rfl), by repeat (first | (with_reducible first | exact HB.out | apply below_alloc | apply pw_below_drewN | apply below_drew1 | refine below_set ?_ GE101.out) | exact HB.out)⟩

end Go.Proofs.Ytfpkooafbeejmaa.Q
namespace Go.Proofs.Ytfpkooafbeejmaa.Q
open Go.RowKit Go.Proofs.YtfpkooafbeejmaaW.PrintWords Go.Proofs.YtfpkooafbeejmaaW.PrintLast Go.Proofs.YtfpkooafbeejmaaW.PrintMore
attribute [local go_sem] max2_int min2_int max_two min_two max_three min_three max_four min_four   -- for this text's walks alone
set_option linter.unusedVariables false
set_option linter.unusedSimpArgs false

/-! ### a law's walk: small words -/
theorem lw8_iv {W W' : World} {n : Nat} (hn : n ≤ W.heap.size) (hb : W.heap.size ≤ W'.heap.size) : ∃ lo hi, lo = W.heap.size ∧ hi = W'.heap.size ∧ (n ≤ lo ∧ lo ≤ hi) := ⟨_, _, rfl, rfl, hn, hb⟩
theorem lw8_need {α : Type} {p : Prop} [Decidable p] {X : Option α} {r : α} (h : (if p then X else none) = some r) : p ∧ X = some r := by
  by_cases c : p
  · rw [if_pos c] at h; exact ⟨c, h⟩
  · rw [if_neg c] at h; cases h
def lw8_sets (g : Nat) : Nat → List Value → World → World
  | _, [], w => w
  | j, v :: vs, w => lw8_sets g (j + 1) vs (w.setCell ⟨g, j, none⟩ v)
def lw8_all : Nat → List Value → Array Value → Array Value
  | _, [], cs => cs
  | j, v :: vs, cs => lw8_all (j + 1) vs (cs.setIfInBounds j v)
theorem lw8_sets_heap {g t : Nat} : ∀ (vs : List Value) (j : Nat) (cs : Array Value) (w : World), w.heap[g]? = some (.cells cs t (0, 0)) → (lw8_sets g j vs w).heap[g]? = some (.cells (lw8_all j vs cs) t (0, 0))
  | [], _, _, _, h => h
  | v :: vs, j, cs, w, h => lw8_sets_heap vs (j + 1) _ _ (blk_set h j v)
theorem lw8_sets_kept {g : Nat} : ∀ (vs : List Value) (j : Nat) (w : World), Kept w (lw8_sets g j vs w) (fun k_ => g ≤ k_ ∧ k_ < g + 1)
  | [], _, w => Kept.refl w _
  | v :: vs, j, w => Kept.then_ (Kept.setCell (Kept.refl w _) (.inl (show g ≤ g ∧ g < g + 1 from ⟨Nat.le_refl _, Nat.lt_succ_self _⟩)) v) (lw8_sets_kept vs (j + 1) _) (fun _ h => .inl h)
theorem lw8_sets_below {g : Nat} {w0 : World} (hg : w0.heap.size ≤ g) : ∀ (vs : List Value) (j : Nat) (w : World), Below w0.heap.size w0 w → Below w0.heap.size w0 (lw8_sets g j vs w)
  | [], _, _, h => h
  | v :: vs, j, w, h => lw8_sets_below hg vs (j + 1) _ (below_set h hg)
theorem lw8_store {P : Program} {ops : Array Oper} {o : Oper} {a : Act} {Q : Exit → Act → World → Prop} {Kc : Act → World → Prop} {w0 W : World} (g t : Nat) (vs : List Value) (cs : Array Value) (hw : Region.wanted o (yielded ops a.tmps) = true) (hN : o.dst = none)
    (hrun : (execOp a.eval o).run P W = .ok .skip (lw8_sets g 0 vs W)) (hg : w0.heap.size ≤ g) (HB : Below w0.heap.size w0 W) (hb : W.heap[g]? = some (.cells cs t (0, 0)))
    (h : ∀ w1, w1.heap[g]? = some (.cells (lw8_all 0 vs cs) t (0, 0)) → Kept W w1 (fun k_ => g ≤ k_ ∧ k_ < g + 1) → Below w0.heap.size w0 w1 → Kc a w1) : if Region.wanted o (yielded ops a.tmps) = true then Oper.wp P o a W Kc Q else Kc (a.put none undef) W := by
  rw [if_pos hw]
  unfold Oper.wp
  rw [hrun]
  show Kc (a.put o.dst undef) _
  rw [hN]
  exact h _ (lw8_sets_heap vs 0 cs W hb) (lw8_sets_kept vs 0 W) (lw8_sets_below hg vs 0 W HB)
theorem lw8_no {lo hi a b k : Nat} (h1 : lo ≤ k ∧ k < hi) (h2 : a ≤ k ∧ k < b) (h : hi ≤ a ∨ b ≤ lo) : False := by omega
theorem lw8_no2 {lo hi a b c d k : Nat} (h1 : lo ≤ k ∧ k < hi) (h2 : (a ≤ k ∧ k < b) ∨ (c ≤ k ∧ k < d)) (h : (hi ≤ a ∨ b ≤ lo) ∧ (hi ≤ c ∨ d ≤ lo)) : False := by omega
theorem lw8_no3 {lo hi a b c d x y k : Nat} (h1 : lo ≤ k ∧ k < hi) (h2 : (a ≤ k ∧ k < b) ∨ (c ≤ k ∧ k < d) ∨ (x ≤ k ∧ k < y)) (h : (hi ≤ a ∨ b ≤ lo) ∧ (hi ≤ c ∨ d ≤ lo) ∧ (hi ≤ x ∨ y ≤ lo)) : False := by omega
theorem lw8_on {lo hi c d a b k : Nat} (h1 : (lo ≤ k ∧ k < hi) ∨ (c ≤ k ∧ k < d)) (h2 : a ≤ k ∧ k < b) (h : (hi ≤ a ∨ b ≤ lo) ∧ (d ≤ a ∨ b ≤ c)) : False := by omega
theorem lw8_on2 {lo hi c d a b x y k : Nat} (h1 : (lo ≤ k ∧ k < hi) ∨ (c ≤ k ∧ k < d)) (h2 : (a ≤ k ∧ k < b) ∨ (x ≤ k ∧ k < y)) (h : ((hi ≤ a ∨ b ≤ lo) ∧ (d ≤ a ∨ b ≤ c)) ∧ ((hi ≤ x ∨ y ≤ lo) ∧ (d ≤ x ∨ y ≤ c))) : False := by omega
theorem lw8_ivk {W W' : World} {S : Nat → Prop} {n : Nat} (hk : Kept W W' S) (hn : n ≤ W.heap.size) : ∃ lo hi, lo = W.heap.size ∧ hi = W'.heap.size ∧ (n ≤ lo ∧ lo ≤ hi) := ⟨_, _, rfl, rfl, hn, hk.1⟩
theorem lw8_hx {w0 W wn : World} (_hb : Below W.heap.size W wn) (hx : Below w0.heap.size w0 W) : Below w0.heap.size w0 W := hx
theorem lw8_bind {α β : Type} {X : Option α} {f : α → Option β} {r : β} (h : X.bind f = some r) : ∃ x, X = some x ∧ f x = some r := Option.bind_eq_some_iff.mp h
theorem lw8_draw {P : Program} {Q : Exit → Act → World → Prop} {id : Nat} {ops : Array Oper} {a : Act} {W : World} (h : ∀ w1, w1 = W → Below W.heap.size W w1 → (Code.region id ops true).wp P Q a w1) : (Code.region id ops true).wp P Q a W := h W rfl (Below.refl _ _)
theorem lw8_lt {W w' : World} {g : Nat} {o : Obj} (hb : Below W.heap.size W w') (h : W.heap[g]? = some o) : g + 1 ≤ W.heap.size ∧ w'.heap[g]? = some o := ⟨blk_lt h, blk_below h hb⟩
/-! ### laws_FnExactNewServer: function 8 -/
def laws_FnExactNewServer.f (k : Nat)  : Option (Bool) := ((spec_NewServer.f).bind fun b0_ => ((impl_NewServer.f).bind fun b1_ => ((laws_eqServer.f k b1_.1 b1_.2.1 b1_.2.2.1 b1_.2.2.2.1 b1_.2.2.2.2 b0_.1 b0_.2.1 b0_.2.2.1 b0_.2.2.2.1 b0_.2.2.2.2).bind fun b2_ => (if b2_ = true then ((laws_markServer.f k b1_.1 b1_.2.1 b1_.2.2.1 b1_.2.2.2.1 b1_.2.2.2.2 1).bind fun b4_ => ((laws_heldServer.f k b4_.2.1 b1_.2.1 b4_.2.2.1 b4_.2.2.2 b1_.2.2.2.2 1).bind fun b5_ => (if ¬ (b5_ < 0) then (if b5_ = b4_.1 then ((impl_NewServer.f).bind fun b8_ => ((laws_eqServer.f k b8_.1 b8_.2.1 b8_.2.2.1 b8_.2.2.2.1 b8_.2.2.2.2 b0_.1 b0_.2.1 b0_.2.2.1 b0_.2.2.2.1 b0_.2.2.2.2).bind fun b9_ => (if b9_ = true then ((laws_heldServer.f k b4_.2.1 b1_.2.1 b4_.2.2.1 b4_.2.2.2 b1_.2.2.2.2 1).bind fun b11_ => (if ¬ (b11_ < 0) then (if b11_ = b4_.1 then (some true) else (none)) else (none))) else (none)))) else (none)) else (none)))) else (none)))))
set_option maxHeartbeats 8000000 in
set_option maxRecDepth 100000 in
theorem laws_FnExactNewServer.calls (k : Nat)  (r : Bool) (w : World) (h : laws_FnExactNewServer.f k  = some r) :
    Calls Try.prog 8 #[] w fun e w' => e = .returned (.bool r) ∧ Below w.heap.size w w' := by
  have hu68 := Try.underlying68
  have HB := Aside0.mk (Below.refl w.heap.size w)
  have HX := Aside0.mk (Below.refl w.heap.size w)
  have HN := Aside0.mk (Nat.le_refl w.heap.size)
  have H : ((spec_NewServer.f).bind fun b0_ => ((impl_NewServer.f).bind fun b1_ => ((laws_eqServer.f k b1_.1 b1_.2.1 b1_.2.2.1 b1_.2.2.2.1 b1_.2.2.2.2 b0_.1 b0_.2.1 b0_.2.2.1 b0_.2.2.2.1 b0_.2.2.2.2).bind fun b2_ => (if b2_ = true then ((laws_markServer.f k b1_.1 b1_.2.1 b1_.2.2.1 b1_.2.2.2.1 b1_.2.2.2.2 1).bind fun b4_ => ((laws_heldServer.f k b4_.2.1 b1_.2.1 b4_.2.2.1 b4_.2.2.2 b1_.2.2.2.2 1).bind fun b5_ => (if ¬ (b5_ < 0) then (if b5_ = b4_.1 then ((impl_NewServer.f).bind fun b8_ => ((laws_eqServer.f k b8_.1 b8_.2.1 b8_.2.2.1 b8_.2.2.2.1 b8_.2.2.2.2 b0_.1 b0_.2.1 b0_.2.2.1 b0_.2.2.2.1 b0_.2.2.2.2).bind fun b9_ => (if b9_ = true then ((laws_heldServer.f k b4_.2.1 b1_.2.1 b4_.2.2.1 b4_.2.2.2 b1_.2.2.2.2 1).bind fun b11_ => (if ¬ (b11_ < 0) then (if b11_ = b4_.1 then (some true) else (none)) else (none))) else (none)))) else (none)) else (none)))) else (none))))) = some r := h
  clear h
  obtain ⟨⟨t1, t2, t3, t4, t5⟩, A0_, H⟩ := lw8_bind H
  (try dsimp only at H)
  have A6 := Aside0.mk A0_
  clear A0_
  obtain ⟨⟨t28, t29, t30, t31, t32⟩, A0_, H⟩ := lw8_bind H
  (try dsimp only at H)
  have A33 := Aside0.mk A0_
  clear A0_
  obtain ⟨t56, A0_, H⟩ := lw8_bind H
  (try dsimp only at H)
  have A57 := Aside0.mk A0_
  clear A0_
  replace H := lw8_need H
  obtain ⟨c3, H⟩ := H
  subst c3
  obtain ⟨⟨t60, t61, t62, t63⟩, A0_, H⟩ := lw8_bind H
  (try dsimp only at H)
  have A64 := Aside0.mk A0_
  clear A0_
  obtain ⟨t70, A0_, H⟩ := lw8_bind H
  (try dsimp only at H)
  have A71 := Aside0.mk A0_
  clear A0_
  replace H := lw8_need H
  obtain ⟨c6, H⟩ := H
  have c6b0 : decide (t70 < 0) = false := decide_eq_false c6
  clear c6
  replace H := lw8_need H
  obtain ⟨c7, H⟩ := H
  have c7b0 : (t70 == t60) = true := beq_iff_eq.mpr c7
  have c7b1 : (t70 != t60) = false := bne_eq_false_iff_eq.mpr c7
  clear c7
  obtain ⟨⟨t74, t75, t76, t77, t78⟩, A0_, H⟩ := lw8_bind H
  (try dsimp only at H)
  have A79 := Aside0.mk A0_
  clear A0_
  obtain ⟨t103, A0_, H⟩ := lw8_bind H
  (try dsimp only at H)
  have A104 := Aside0.mk A0_
  clear A0_
  replace H := lw8_need H
  obtain ⟨c10, H⟩ := H
  subst c10
  obtain ⟨t107, A0_, H⟩ := lw8_bind H
  (try dsimp only at H)
  have A108 := Aside0.mk A0_
  clear A0_
  replace H := lw8_need H
  obtain ⟨c12, H⟩ := H
  have c12b0 : decide (t107 < 0) = false := decide_eq_false c12
  clear c12
  replace H := lw8_need H
  obtain ⟨c13, H⟩ := H
  have c13b0 : (t107 == t60) = true := beq_iff_eq.mpr c13
  have c13b1 : (t107 != t60) = false := bne_eq_false_iff_eq.mpr c13
  clear c13
  obtain rfl := Option.some.inj H
  go_enter Try.func8, Try.ntmps8
  go_wp2_with (first | ((with_reducible refine gate_callee (f := 37) rfl ?_); refine goesL_ (some 6) rfl rfl Try.func37 (by kernel_rfl) rfl #[] rfl (by (try simp only [List.map_toArray, List.map_cons, List.map_nil]); first | done | rfl) ?_; (with_reducible refine (spec_NewServer.calls t1 t2 t3 t4 t5 _ A6.out).mono ?_); rintro e w7 ⟨vt1, vt3, vt4, rfl, ho0, ho1, ho2, hb⟩; refine ⟨_, rfl, ?_⟩; have hx_ := lw8_hx hb (by repeat (first | (with_reducible first | exact HX.out | apply below_alloc | apply pw_below_drewN | apply below_drew1) | exact HX.out)); have hbt := below_step hx_ hb; obtain ⟨lo8, hi8, hl_, hh_, hc_⟩ := lw8_iv (Nat.le_trans HN.out (below_size hx_)) hb.size; have CHlo8 := Aside0.mk (show w.heap.size ≤ lo8 ∧ lo8 ≤ hi8 from hc_); clear hc_; have HO9 := Aside0.mk (Kd.S_mono (ok' := fun k_ => lo8 ≤ k_ ∧ k_ < hi8) (Kd.S_lower (Kd.S_bound ho0) (below_size (below_step HB.out hx_))) (fun k_ hk_ => ⟨by rw [hl_]; exact hk_.2.1, by rw [hh_]; exact hk_.2.2.1⟩)); have HO10 := Aside0.mk (Kd.R_mono (ok' := fun k_ => lo8 ≤ k_ ∧ k_ < hi8) (Kd.R_lower (Kd.R_bound ho1) (below_size (below_step HB.out hx_))) (fun k_ hk_ => ⟨by rw [hl_]; exact hk_.2.1, by rw [hh_]; exact hk_.2.2.1⟩)); have HO11 := Aside0.mk (Kd.R_mono (ok' := fun k_ => lo8 ≤ k_ ∧ k_ < hi8) (Kd.R_lower (Kd.R_bound ho2) (below_size (below_step HB.out hx_))) (fun k_ hk_ => ⟨by rw [hl_]; exact hk_.2.1, by rw [hh_]; exact hk_.2.2.1⟩)); replace HN := Aside0.mk ((show hi8 ≤ w7.heap.size from Nat.le_of_eq hh_)); replace HB := Aside0.mk (below_step HB.out hbt); replace HX := Aside0.mk (Below.refl w7.heap.size w7); clear hb hbt hx_ hl_ hh_; (try clear ho0); obtain ⟨Aoo12, coo12, eoo12⟩ := Kd.S_slice HO9.out; (first | subst eoo12 | (injection eoo12 with f1_ f2_ f3_; have f4_ := f1_.symm; have f5_ := f3_.symm; clear f1_ f2_ f3_; subst f4_; subst f5_)); (try clear ho1); obtain ⟨Aoo13, coo13, eoo13⟩ := Kd.R_slice HO10.out; (first | subst eoo13 | (injection eoo13 with f1_ f2_ f3_; have f4_ := f1_.symm; have f5_ := f3_.symm; clear f1_ f2_ f3_; subst f4_; subst f5_)); (try clear ho2); obtain ⟨Aoo14, coo14, eoo14⟩ := Kd.R_slice HO11.out; (first | subst eoo14 | (injection eoo14 with f1_ f2_ f3_; have f4_ := f1_.symm; have f5_ := f3_.symm; clear f1_ f2_ f3_; subst f4_; subst f5_)); skip) | ((with_reducible refine gate_dst (N := 1) rfl ?_); refine box_event ?hg (N := 1) ?hd (cs := #[.slice none 0 0, .int .i64 0, .slice none 0 0, .slice none 0 0, .int .i64 0]) (t := 68) ?hr ?_; (case hd => rfl); (case hg => rfl); (case hr => first | (go_simp; done) | (go_simp; rfl)); intro gb15 hg w16 hbox hb; have GEgb15 := Aside0.mk (by rw [hg]; exact (below_size (by repeat (first | (with_reducible first | exact HX.out | apply below_alloc | apply pw_below_drewN | apply below_drew1) | exact HX.out))) : _ ≤ gb15); have BK17r := Aside0.mk hbox; have n0_ := Aside0.mk (below_step (by repeat (first | (with_reducible first | exact HX.out | apply below_alloc | apply pw_below_drewN | apply below_drew1) | exact HX.out)) hb); clear HX; have HX := n0_; clear n0_ hb hg; have hcz18 : w16.cell? ⟨gb15, 0, none⟩ = some (.slice none 0 0) := (blk_cell BK17r.out 0).trans rfl; have hfz19 := blk_frozen BK17r.out 0; have hcz20 : w16.cell? ⟨gb15, 1, none⟩ = some (.int .i64 0) := (blk_cell BK17r.out 1).trans rfl; have hfz21 := blk_frozen BK17r.out 1; have hcz22 : w16.cell? ⟨gb15, 2, none⟩ = some (.slice none 0 0) := (blk_cell BK17r.out 2).trans rfl; have hfz23 := blk_frozen BK17r.out 2; have hcz24 : w16.cell? ⟨gb15, 3, none⟩ = some (.slice none 0 0) := (blk_cell BK17r.out 3).trans rfl; have hfz25 := blk_frozen BK17r.out 3; have hcz26 : w16.cell? ⟨gb15, 4, none⟩ = some (.int .i64 0) := (blk_cell BK17r.out 4).trans rfl; have hfz27 := blk_frozen BK17r.out 4; skip; clear hbox) | ((with_reducible refine gate_callee (f := 38) rfl ?_); refine goesL_ (some 7) rfl rfl Try.func38 (by kernel_rfl) rfl #[] rfl (by (try simp only [List.map_toArray, List.map_cons, List.map_nil]); first | done | rfl) ?_; (with_reducible refine (impl_NewServer.calls t28 t29 t30 t31 t32 _ A33.out).mono ?_); rintro e w34 ⟨vt28, vt30, vt31, rfl, ho0, ho1, ho2, hb⟩; refine ⟨_, rfl, ?_⟩; have hx_ := lw8_hx hb (by repeat (first | (with_reducible first | exact HX.out | apply below_alloc | apply pw_below_drewN | apply below_drew1 | refine below_set ?_ GEgb15.out) | exact HX.out)); have hp_ := lw8_lt (g := gb15) (o := .cells #[.slice Aoo12 t1.length coo12, .int .i64 t2, .slice Aoo13 t3.length coo13, .slice Aoo14 t4.length coo14, .int .i64 t5] 68 (0, 0)) hb (by (with_reducible repeat (first | refine blk_drewN ?_ _ | refine blk_drew ?_ | refine blk_alloc ?_ _)); refine blk_put (cs := #[.slice Aoo12 t1.length coo12, .int .i64 t2, .slice Aoo13 t3.length coo13, .slice Aoo14 t4.length coo14, .int .i64 0]) ?_ 4 _ rfl; (with_reducible repeat (first | refine blk_drewN ?_ _ | refine blk_drew ?_ | refine blk_alloc ?_ _)); refine blk_put (cs := #[.slice Aoo12 t1.length coo12, .int .i64 t2, .slice Aoo13 t3.length coo13, .slice none 0 0, .int .i64 0]) ?_ 3 _ rfl; (with_reducible repeat (first | refine blk_drewN ?_ _ | refine blk_drew ?_ | refine blk_alloc ?_ _)); refine blk_put (cs := #[.slice Aoo12 t1.length coo12, .int .i64 t2, .slice none 0 0, .slice none 0 0, .int .i64 0]) ?_ 2 _ rfl; (with_reducible repeat (first | refine blk_drewN ?_ _ | refine blk_drew ?_ | refine blk_alloc ?_ _)); refine blk_put (cs := #[.slice Aoo12 t1.length coo12, .int .i64 0, .slice none 0 0, .slice none 0 0, .int .i64 0]) ?_ 1 _ rfl; (with_reducible repeat (first | refine blk_drewN ?_ _ | refine blk_drew ?_ | refine blk_alloc ?_ _)); refine blk_put (cs := #[.slice none 0 0, .int .i64 0, .slice none 0 0, .slice none 0 0, .int .i64 0]) ?_ 0 _ rfl; (with_reducible repeat (first | refine blk_drewN ?_ _ | refine blk_drew ?_ | refine blk_alloc ?_ _)); exact BK17r.out); have CHgb15 := Aside0.mk (show hi8 ≤ gb15 from Nat.le_trans HN.out GEgb15.out); have hbt := below_step hx_ hb; obtain ⟨lo35, hi35, hl_, hh_, hc_⟩ := lw8_iv (hp_.1) hb.size; have CHlo35 := Aside0.mk (show gb15 + 1 ≤ lo35 ∧ lo35 ≤ hi35 from hc_); clear hc_; have BK17 := Aside0.mk (hp_.2); replace HO9 := Aside0.mk (Kd.S_below HO9.out hbt); replace HO10 := Aside0.mk (Kd.R_below HO10.out hbt); replace HO11 := Aside0.mk (Kd.R_below HO11.out hbt); have HO36 := Aside0.mk (Kd.S_mono (ok' := fun k_ => lo35 ≤ k_ ∧ k_ < hi35) (Kd.S_lower (Kd.S_bound ho0) (below_size (below_step HB.out hx_))) (fun k_ hk_ => ⟨by rw [hl_]; exact hk_.2.1, by rw [hh_]; exact hk_.2.2.1⟩)); have HO37 := Aside0.mk (Kd.R_mono (ok' := fun k_ => lo35 ≤ k_ ∧ k_ < hi35) (Kd.R_lower (Kd.R_bound ho1) (below_size (below_step HB.out hx_))) (fun k_ hk_ => ⟨by rw [hl_]; exact hk_.2.1, by rw [hh_]; exact hk_.2.2.1⟩)); have HO38 := Aside0.mk (Kd.R_mono (ok' := fun k_ => lo35 ≤ k_ ∧ k_ < hi35) (Kd.R_lower (Kd.R_bound ho2) (below_size (below_step HB.out hx_))) (fun k_ hk_ => ⟨by rw [hl_]; exact hk_.2.1, by rw [hh_]; exact hk_.2.2.1⟩)); replace HN := Aside0.mk ((show hi35 ≤ w34.heap.size from Nat.le_of_eq hh_)); replace HB := Aside0.mk (below_step HB.out hbt); replace HX := Aside0.mk (Below.refl w34.heap.size w34); have IVgb15 := Aside0.mk (show gb15 ≤ gb15 ∧ gb15 < gb15 + 1 from ⟨Nat.le_refl _, Nat.lt_succ_self _⟩); clear hb hbt hx_ hp_ hl_ hh_; (try clear ho0); obtain ⟨Aoo39, coo39, eoo39⟩ := Kd.S_slice HO36.out; (first | subst eoo39 | (injection eoo39 with f1_ f2_ f3_; have f4_ := f1_.symm; have f5_ := f3_.symm; clear f1_ f2_ f3_; subst f4_; subst f5_)); (try clear ho1); obtain ⟨Aoo40, coo40, eoo40⟩ := Kd.R_slice HO37.out; (first | subst eoo40 | (injection eoo40 with f1_ f2_ f3_; have f4_ := f1_.symm; have f5_ := f3_.symm; clear f1_ f2_ f3_; subst f4_; subst f5_)); (try clear ho2); obtain ⟨Aoo41, coo41, eoo41⟩ := Kd.R_slice HO38.out; (first | subst eoo41 | (injection eoo41 with f1_ f2_ f3_; have f4_ := f1_.symm; have f5_ := f3_.symm; clear f1_ f2_ f3_; subst f4_; subst f5_)); skip) | ((with_reducible refine gate_dst (N := 2) rfl ?_); refine box_event ?hg (N := 2) ?hd (cs := #[.slice none 0 0, .int .i64 0, .slice none 0 0, .slice none 0 0, .int .i64 0]) (t := 68) ?hr ?_; (case hd => rfl); (case hg => rfl); (case hr => first | (go_simp; done) | (go_simp; rfl)); intro gb42 hg w43 hbox hb; have GEgb42 := Aside0.mk (by rw [hg]; exact (below_size (by repeat (first | (with_reducible first | exact HX.out | apply below_alloc | apply pw_below_drewN | apply below_drew1) | exact HX.out))) : _ ≤ gb42); have BK44r := Aside0.mk hbox; have n0_ := Aside0.mk (below_step (by repeat (first | (with_reducible first | exact HX.out | apply below_alloc | apply pw_below_drewN | apply below_drew1) | exact HX.out)) hb); have hnb45 : gb42 ≠ gb15 := (fun e_ => by have z1_ := GEgb42.out; have z2_ := blk_lt BK17.out; omega); have hnb45c : gb15 ≠ gb42 := fun e_ => hnb45 e_.symm; clear HX; have HX := n0_; clear n0_ hb hg; have hcz46 : w43.cell? ⟨gb42, 0, none⟩ = some (.slice none 0 0) := (blk_cell BK44r.out 0).trans rfl; have hfz47 := blk_frozen BK44r.out 0; have hcz48 : w43.cell? ⟨gb42, 1, none⟩ = some (.int .i64 0) := (blk_cell BK44r.out 1).trans rfl; have hfz49 := blk_frozen BK44r.out 1; have hcz50 : w43.cell? ⟨gb42, 2, none⟩ = some (.slice none 0 0) := (blk_cell BK44r.out 2).trans rfl; have hfz51 := blk_frozen BK44r.out 2; have hcz52 : w43.cell? ⟨gb42, 3, none⟩ = some (.slice none 0 0) := (blk_cell BK44r.out 3).trans rfl; have hfz53 := blk_frozen BK44r.out 3; have hcz54 : w43.cell? ⟨gb42, 4, none⟩ = some (.int .i64 0) := (blk_cell BK44r.out 4).trans rfl; have hfz55 := blk_frozen BK44r.out 4; have hcz3_0_BK17 : w43.cell? ⟨gb15, 0, none⟩ = some (.slice Aoo12 t1.length coo12) := (blk_cell (blk_below (g := gb15) BK17.out HX.out) 0).trans rfl; have hcz3_1_BK17 : w43.cell? ⟨gb15, 1, none⟩ = some (.int .i64 t2) := (blk_cell (blk_below (g := gb15) BK17.out HX.out) 1).trans rfl; have hcz3_2_BK17 : w43.cell? ⟨gb15, 2, none⟩ = some (.slice Aoo13 t3.length coo13) := (blk_cell (blk_below (g := gb15) BK17.out HX.out) 2).trans rfl; have hcz3_3_BK17 : w43.cell? ⟨gb15, 3, none⟩ = some (.slice Aoo14 t4.length coo14) := (blk_cell (blk_below (g := gb15) BK17.out HX.out) 3).trans rfl; have hcz3_4_BK17 : w43.cell? ⟨gb15, 4, none⟩ = some (.int .i64 t5) := (blk_cell (blk_below (g := gb15) BK17.out HX.out) 4).trans rfl; clear hbox) | ((with_reducible refine gate_callee (f := 39) rfl ?_); refine goesL_ (some 10) rfl rfl Try.func39 (by kernel_rfl) rfl #[.agg #[.slice Aoo39 t28.length coo39, .int .i64 t29, .slice Aoo40 t30.length coo40, .slice Aoo41 t31.length coo41, .int .i64 t32], .agg #[.slice Aoo12 t1.length coo12, .int .i64 t2, .slice Aoo13 t3.length coo13, .slice Aoo14 t4.length coo14, .int .i64 t5]] rfl (by (try simp only [List.map_toArray, List.map_cons, List.map_nil]); first | done | rfl) ?_; (with_reducible refine (laws_eqServer.calls k _ _ t28 t29 _ _ t30 _ _ t31 t32 _ _ t1 t2 _ _ t3 _ _ t4 t5 true _ ?side1 ?side2 ?side3 ?side4 ?side5 ?side6 ?side7 ?side8 ?side9 ?side10 ?side11 ?side12 A57.out).mono ?_); (case side1 => exact Kd.C_below (Kd.S_reads' HO36.out).2.2 (by repeat (first | (with_reducible first | exact HX.out | apply below_alloc | apply pw_below_drewN | apply below_drew1 | refine below_set ?_ GEgb42.out) | exact HX.out))); (case side2 => have z_ := Kd.S_reads' HO36.out; have y_ := z_.1; have x_ := z_.2.1; omega); (case side3 => exact Kd.C_below (Kd.R_reads' HO37.out).2.2 (by repeat (first | (with_reducible first | exact HX.out | apply below_alloc | apply pw_below_drewN | apply below_drew1 | refine below_set ?_ GEgb42.out) | exact HX.out))); (case side4 => have z_ := Kd.R_reads' HO37.out; have y_ := z_.1; have x_ := z_.2.1; omega); (case side5 => exact Kd.C_below (Kd.R_reads' HO38.out).2.2 (by repeat (first | (with_reducible first | exact HX.out | apply below_alloc | apply pw_below_drewN | apply below_drew1 | refine below_set ?_ GEgb42.out) | exact HX.out))); (case side6 => have z_ := Kd.R_reads' HO38.out; have y_ := z_.1; have x_ := z_.2.1; omega); (case side7 => exact Kd.C_below (Kd.S_reads' HO9.out).2.2 (by repeat (first | (with_reducible first | exact HX.out | apply below_alloc | apply pw_below_drewN | apply below_drew1 | refine below_set ?_ GEgb42.out) | exact HX.out))); (case side8 => have z_ := Kd.S_reads' HO9.out; have y_ := z_.1; have x_ := z_.2.1; omega); (case side9 => exact Kd.C_below (Kd.R_reads' HO10.out).2.2 (by repeat (first | (with_reducible first | exact HX.out | apply below_alloc | apply pw_below_drewN | apply below_drew1 | refine below_set ?_ GEgb42.out) | exact HX.out))); (case side10 => have z_ := Kd.R_reads' HO10.out; have y_ := z_.1; have x_ := z_.2.1; omega); (case side11 => exact Kd.C_below (Kd.R_reads' HO11.out).2.2 (by repeat (first | (with_reducible first | exact HX.out | apply below_alloc | apply pw_below_drewN | apply below_drew1 | refine below_set ?_ GEgb42.out) | exact HX.out))); (case side12 => have z_ := Kd.R_reads' HO11.out; have y_ := z_.1; have x_ := z_.2.1; omega); rintro e w58 ⟨rfl, hb⟩; refine ⟨_, rfl, ?_⟩; have hx_ := lw8_hx hb (by repeat (first | (with_reducible first | exact HX.out | apply below_alloc | apply pw_below_drewN | apply below_drew1 | refine below_set ?_ GEgb42.out) | exact HX.out)); have hp_ := lw8_lt (g := gb42) (o := .cells #[.slice Aoo39 t28.length coo39, .int .i64 t29, .slice Aoo40 t30.length coo40, .slice Aoo41 t31.length coo41, .int .i64 t32] 68 (0, 0)) hb (by (with_reducible repeat (first | refine blk_drewN ?_ _ | refine blk_drew ?_ | refine blk_alloc ?_ _)); refine blk_put (cs := #[.slice Aoo39 t28.length coo39, .int .i64 t29, .slice Aoo40 t30.length coo40, .slice Aoo41 t31.length coo41, .int .i64 0]) ?_ 4 _ rfl; (with_reducible repeat (first | refine blk_drewN ?_ _ | refine blk_drew ?_ | refine blk_alloc ?_ _)); refine blk_put (cs := #[.slice Aoo39 t28.length coo39, .int .i64 t29, .slice Aoo40 t30.length coo40, .slice none 0 0, .int .i64 0]) ?_ 3 _ rfl; (with_reducible repeat (first | refine blk_drewN ?_ _ | refine blk_drew ?_ | refine blk_alloc ?_ _)); refine blk_put (cs := #[.slice Aoo39 t28.length coo39, .int .i64 t29, .slice none 0 0, .slice none 0 0, .int .i64 0]) ?_ 2 _ rfl; (with_reducible repeat (first | refine blk_drewN ?_ _ | refine blk_drew ?_ | refine blk_alloc ?_ _)); refine blk_put (cs := #[.slice Aoo39 t28.length coo39, .int .i64 0, .slice none 0 0, .slice none 0 0, .int .i64 0]) ?_ 1 _ rfl; (with_reducible repeat (first | refine blk_drewN ?_ _ | refine blk_drew ?_ | refine blk_alloc ?_ _)); refine blk_put (cs := #[.slice none 0 0, .int .i64 0, .slice none 0 0, .slice none 0 0, .int .i64 0]) ?_ 0 _ rfl; (with_reducible repeat (first | refine blk_drewN ?_ _ | refine blk_drew ?_ | refine blk_alloc ?_ _)); exact BK44r.out); have CHgb42 := Aside0.mk (show hi35 ≤ gb42 from Nat.le_trans HN.out GEgb42.out); have hbt := below_step hx_ hb; have BK44 := Aside0.mk (hp_.2); replace HO9 := Aside0.mk (Kd.S_below HO9.out hbt); replace HO10 := Aside0.mk (Kd.R_below HO10.out hbt); replace HO11 := Aside0.mk (Kd.R_below HO11.out hbt); replace BK17 := Aside0.mk (blk_below (g := gb15) BK17.out hbt); replace HO36 := Aside0.mk (Kd.S_below HO36.out hbt); replace HO37 := Aside0.mk (Kd.R_below HO37.out hbt); replace HO38 := Aside0.mk (Kd.R_below HO38.out hbt); replace HN := Aside0.mk (Nat.le_trans (hp_.1) hb.size); replace HB := Aside0.mk (below_step HB.out hbt); replace HX := Aside0.mk (Below.refl w58.heap.size w58); have IVgb42 := Aside0.mk (show gb42 ≤ gb42 ∧ gb42 < gb42 + 1 from ⟨Nat.le_refl _, Nat.lt_succ_self _⟩); clear hb hbt hx_ hp_; have hcz4_0_BK44 : w58.cell? ⟨gb42, 0, none⟩ = some (.slice Aoo39 t28.length coo39) := (blk_cell BK44.out 0).trans rfl; have hcz4_1_BK44 : w58.cell? ⟨gb42, 1, none⟩ = some (.int .i64 t29) := (blk_cell BK44.out 1).trans rfl; have hcz4_2_BK44 : w58.cell? ⟨gb42, 2, none⟩ = some (.slice Aoo40 t30.length coo40) := (blk_cell BK44.out 2).trans rfl; have hcz4_3_BK44 : w58.cell? ⟨gb42, 3, none⟩ = some (.slice Aoo41 t31.length coo41) := (blk_cell BK44.out 3).trans rfl; have hcz4_4_BK44 : w58.cell? ⟨gb42, 4, none⟩ = some (.int .i64 t32) := (blk_cell BK44.out 4).trans rfl) | ((with_reducible refine gate_callee (f := 40) rfl ?_); refine goesL_ (some 14) rfl rfl Try.func40 (by kernel_rfl) rfl #[.agg #[.slice Aoo39 t28.length coo39, .int .i64 t29, .slice Aoo40 t30.length coo40, .slice Aoo41 t31.length coo41, .int .i64 t32], .int .i64 1] rfl (by (try simp only [List.map_toArray, List.map_cons, List.map_nil]); first | done | rfl) ?_; (with_reducible refine (laws_markServer.calls k (fun k_ => lo35 ≤ k_ ∧ k_ < hi35) _ t28 t29 (fun k_ => lo35 ≤ k_ ∧ k_ < hi35) _ t30 (fun k_ => lo35 ≤ k_ ∧ k_ < hi35) _ t31 t32 1 t60 t61 t62 t63 w _ ?sB ?s0 ?s1 ?s2 A64.out).mono ?_); (case sB => exact below_step HB.out (by repeat (first | (with_reducible first | exact HX.out | apply below_alloc | apply pw_below_drewN | apply below_drew1) | exact HX.out))); (case s0 => exact Kd.S_below HO36.out (by repeat (first | (with_reducible first | exact HX.out | apply below_alloc | apply pw_below_drewN | apply below_drew1) | exact HX.out))); (case s1 => exact Kd.R_below HO37.out (by repeat (first | (with_reducible first | exact HX.out | apply below_alloc | apply pw_below_drewN | apply below_drew1) | exact HX.out))); (case s2 => exact Kd.R_below HO38.out (by repeat (first | (with_reducible first | exact HX.out | apply below_alloc | apply pw_below_drewN | apply below_drew1) | exact HX.out))); rintro e w65 ⟨rfl, hy0, hy1, hy2, hb0, hkp⟩; refine ⟨_, rfl, ?_⟩; have hkt := Kept.then_ (Kept.of_below (by repeat (first | (with_reducible first | exact HX.out | apply below_alloc | apply pw_below_drewN | apply below_drew1) | exact HX.out)) (fun k_ => (lo35 ≤ k_ ∧ k_ < hi35) ∨ (lo35 ≤ k_ ∧ k_ < hi35) ∨ (lo35 ≤ k_ ∧ k_ < hi35))) hkp (fun k_ h_ => .inl h_); have zz_ := And.intro CHlo8.out (And.intro CHgb15.out (And.intro CHlo35.out (CHgb42.out))); obtain ⟨lo66, hi66, hl_, hh_, hc_⟩ := lw8_ivk hkp (Nat.le_trans HN.out (below_size (by repeat (first | (with_reducible first | exact HX.out | apply below_alloc | apply pw_below_drewN | apply below_drew1) | exact HX.out)))); have CHlo66 := Aside0.mk (show gb42 + 1 ≤ lo66 ∧ lo66 ≤ hi66 from hc_); clear hc_; replace HO9 := Aside0.mk (Kd.S_kept HO9.out hkt (fun _ h1_ h2_ => lw8_no3 h1_ h2_ (by omega))); replace HO10 := Aside0.mk (Kd.R_kept HO10.out hkt (fun _ h1_ h2_ => lw8_no3 h1_ h2_ (by omega))); replace HO11 := Aside0.mk (Kd.R_kept HO11.out hkt (fun _ h1_ h2_ => lw8_no3 h1_ h2_ (by omega))); replace BK17 := Aside0.mk (blk_kept (g := gb15) BK17.out hkt (fun h2_ => lw8_no3 IVgb15.out h2_ (by omega))); replace BK44 := Aside0.mk (blk_kept (g := gb42) BK44.out hkt (fun h2_ => lw8_no3 IVgb42.out h2_ (by omega))); replace HO36 := Aside0.mk ((show Kd.S (Kd.slice 177 k177) 165 w65 w.heap.size (fun k_ => (lo35 ≤ k_ ∧ k_ < hi35) ∨ (lo66 ≤ k_ ∧ k_ < hi66)) (.slice Aoo39 t28.length coo39) t61 from Kd.S_mono (Kd.S_bound hy0) (fun _ hk_ => hk_.1.elim (fun z_ => .inl (z_.elim (fun q_ => q_) (fun q_ => q_.elim (fun q_ => q_) (fun q_ => q_)))) (fun z_ => .inr ⟨by rw [hl_]; exact z_, by rw [hh_]; exact hk_.2.2.1⟩)))); replace HO37 := Aside0.mk ((show Kd.R k149 149 w65 w.heap.size (fun k_ => (lo35 ≤ k_ ∧ k_ < hi35) ∨ (lo66 ≤ k_ ∧ k_ < hi66)) (.slice Aoo40 t30.length coo40) t62 from Kd.R_mono (Kd.R_bound hy1) (fun _ hk_ => hk_.1.elim (fun z_ => .inl (z_.elim (fun q_ => q_) (fun q_ => q_.elim (fun q_ => q_) (fun q_ => q_)))) (fun z_ => .inr ⟨by rw [hl_]; exact z_, by rw [hh_]; exact hk_.2.2.1⟩)))); replace HO38 := Aside0.mk ((show Kd.R k115 115 w65 w.heap.size (fun k_ => (lo35 ≤ k_ ∧ k_ < hi35) ∨ (lo66 ≤ k_ ∧ k_ < hi66)) (.slice Aoo41 t31.length coo41) t63 from Kd.R_mono (Kd.R_bound hy2) (fun _ hk_ => hk_.1.elim (fun z_ => .inl (z_.elim (fun q_ => q_) (fun q_ => q_.elim (fun q_ => q_) (fun q_ => q_)))) (fun z_ => .inr ⟨by rw [hl_]; exact z_, by rw [hh_]; exact hk_.2.2.1⟩)))); replace HN := Aside0.mk ((show hi66 ≤ w65.heap.size from Nat.le_of_eq hh_)); replace HB := Aside0.mk (hb0); replace HX := Aside0.mk (Below.refl w65.heap.size w65); clear hkp hb0 hkt zz_ hl_ hh_; (try clear hy0 hy1 hy2); have LEN67 := Aside0.mk (Kd.S_reads' HO36.out).1; have LEN68 := Aside0.mk (Kd.R_reads' HO37.out).1; have LEN69 := Aside0.mk (Kd.R_reads' HO38.out).1; have hcz5_0_BK44 : w65.cell? ⟨gb42, 0, none⟩ = some (.slice Aoo39 t28.length coo39) := (blk_cell BK44.out 0).trans rfl; have hcz5_1_BK44 : w65.cell? ⟨gb42, 1, none⟩ = some (.int .i64 t29) := (blk_cell BK44.out 1).trans rfl; have hcz5_2_BK44 : w65.cell? ⟨gb42, 2, none⟩ = some (.slice Aoo40 t30.length coo40) := (blk_cell BK44.out 2).trans rfl; have hcz5_3_BK44 : w65.cell? ⟨gb42, 3, none⟩ = some (.slice Aoo41 t31.length coo41) := (blk_cell BK44.out 3).trans rfl; have hcz5_4_BK44 : w65.cell? ⟨gb42, 4, none⟩ = some (.int .i64 t32) := (blk_cell BK44.out 4).trans rfl) | ((with_reducible refine gate_callee (f := 41) rfl ?_); refine goesL_ (some 17) rfl rfl Try.func41 (by kernel_rfl) rfl #[.agg #[.slice Aoo39 t61.length coo39, .int .i64 t29, .slice Aoo40 t62.length coo40, .slice Aoo41 t63.length coo41, .int .i64 t32], .int .i64 1] rfl (by (try simp only [List.map_toArray, List.map_cons, List.map_nil]); first | done | rfl | (simp only [LEN67.out, LEN68.out, LEN69.out]; rfl)) ?_; (with_reducible refine (laws_heldServer.calls k _ _ t61 t29 _ _ t62 _ _ t63 t32 1 t70 _ ?side1 ?side2 ?side3 ?side4 ?side5 ?side6 A71.out).mono ?_); (case side1 => exact Kd.C_below (Kd.S_reads' HO36.out).2.2 (by repeat (first | (with_reducible first | exact HX.out | apply below_alloc | apply pw_below_drewN | apply below_drew1) | exact HX.out))); (case side2 => have z_ := Kd.S_reads' HO36.out; have y_ := z_.1; have x_ := z_.2.1; omega); (case side3 => exact Kd.C_below (Kd.R_reads' HO37.out).2.2 (by repeat (first | (with_reducible first | exact HX.out | apply below_alloc | apply pw_below_drewN | apply below_drew1) | exact HX.out))); (case side4 => have z_ := Kd.R_reads' HO37.out; have y_ := z_.1; have x_ := z_.2.1; omega); (case side5 => exact Kd.C_below (Kd.R_reads' HO38.out).2.2 (by repeat (first | (with_reducible first | exact HX.out | apply below_alloc | apply pw_below_drewN | apply below_drew1) | exact HX.out))); (case side6 => have z_ := Kd.R_reads' HO38.out; have y_ := z_.1; have x_ := z_.2.1; omega); rintro e w72 ⟨rfl, hb⟩; refine ⟨_, rfl, ?_⟩; have hx_ := lw8_hx hb (by repeat (first | (with_reducible first | exact HX.out | apply below_alloc | apply pw_below_drewN | apply below_drew1) | exact HX.out)); have hbt := below_step hx_ hb; replace HO9 := Aside0.mk (Kd.S_below HO9.out hbt); replace HO10 := Aside0.mk (Kd.R_below HO10.out hbt); replace HO11 := Aside0.mk (Kd.R_below HO11.out hbt); replace BK17 := Aside0.mk (blk_below (g := gb15) BK17.out hbt); replace HO36 := Aside0.mk (Kd.S_below HO36.out hbt); replace HO37 := Aside0.mk (Kd.R_below HO37.out hbt); replace HO38 := Aside0.mk (Kd.R_below HO38.out hbt); replace BK44 := Aside0.mk (blk_below (g := gb42) BK44.out hbt); replace HN := Aside0.mk (Nat.le_trans (Nat.le_trans HN.out (below_size hx_)) hb.size); replace HB := Aside0.mk (below_step HB.out hbt); replace HX := Aside0.mk (Below.refl w72.heap.size w72); clear hb hbt hx_; skip) | ((with_reducible refine gate_callee (f := 38) rfl ?_); refine goesL_ (some 23) rfl rfl Try.func38 (by kernel_rfl) rfl #[] rfl (by (try simp only [List.map_toArray, List.map_cons, List.map_nil]); first | done | rfl) ?_; (with_reducible refine (impl_NewServer.calls t74 t75 t76 t77 t78 _ A79.out).mono ?_); rintro e w80 ⟨vt74, vt76, vt77, rfl, ho0, ho1, ho2, hb⟩; refine ⟨_, rfl, ?_⟩; have hx_ := lw8_hx hb (by repeat (first | (with_reducible first | exact HX.out | apply below_alloc | apply pw_below_drewN | apply below_drew1) | exact HX.out)); have hbt := below_step hx_ hb; obtain ⟨lo81, hi81, hl_, hh_, hc_⟩ := lw8_iv (Nat.le_trans HN.out (below_size hx_)) hb.size; have CHlo81 := Aside0.mk (show hi66 ≤ lo81 ∧ lo81 ≤ hi81 from hc_); clear hc_; replace HO9 := Aside0.mk (Kd.S_below HO9.out hbt); replace HO10 := Aside0.mk (Kd.R_below HO10.out hbt); replace HO11 := Aside0.mk (Kd.R_below HO11.out hbt); replace BK17 := Aside0.mk (blk_below (g := gb15) BK17.out hbt); replace HO36 := Aside0.mk (Kd.S_below HO36.out hbt); replace HO37 := Aside0.mk (Kd.R_below HO37.out hbt); replace HO38 := Aside0.mk (Kd.R_below HO38.out hbt); replace BK44 := Aside0.mk (blk_below (g := gb42) BK44.out hbt); have HO82 := Aside0.mk (Kd.S_mono (ok' := fun k_ => lo81 ≤ k_ ∧ k_ < hi81) (Kd.S_lower (Kd.S_bound ho0) (below_size (below_step HB.out hx_))) (fun k_ hk_ => ⟨by rw [hl_]; exact hk_.2.1, by rw [hh_]; exact hk_.2.2.1⟩)); have HO83 := Aside0.mk (Kd.R_mono (ok' := fun k_ => lo81 ≤ k_ ∧ k_ < hi81) (Kd.R_lower (Kd.R_bound ho1) (below_size (below_step HB.out hx_))) (fun k_ hk_ => ⟨by rw [hl_]; exact hk_.2.1, by rw [hh_]; exact hk_.2.2.1⟩)); have HO84 := Aside0.mk (Kd.R_mono (ok' := fun k_ => lo81 ≤ k_ ∧ k_ < hi81) (Kd.R_lower (Kd.R_bound ho2) (below_size (below_step HB.out hx_))) (fun k_ hk_ => ⟨by rw [hl_]; exact hk_.2.1, by rw [hh_]; exact hk_.2.2.1⟩)); replace HN := Aside0.mk ((show hi81 ≤ w80.heap.size from Nat.le_of_eq hh_)); replace HB := Aside0.mk (below_step HB.out hbt); replace HX := Aside0.mk (Below.refl w80.heap.size w80); clear hb hbt hx_ hl_ hh_; (try clear ho0); obtain ⟨Aoo85, coo85, eoo85⟩ := Kd.S_slice HO82.out; (first | subst eoo85 | (injection eoo85 with f1_ f2_ f3_; have f4_ := f1_.symm; have f5_ := f3_.symm; clear f1_ f2_ f3_; subst f4_; subst f5_)); (try clear ho1); obtain ⟨Aoo86, coo86, eoo86⟩ := Kd.R_slice HO83.out; (first | subst eoo86 | (injection eoo86 with f1_ f2_ f3_; have f4_ := f1_.symm; have f5_ := f3_.symm; clear f1_ f2_ f3_; subst f4_; subst f5_)); (try clear ho2); obtain ⟨Aoo87, coo87, eoo87⟩ := Kd.R_slice HO84.out; (first | subst eoo87 | (injection eoo87 with f1_ f2_ f3_; have f4_ := f1_.symm; have f5_ := f3_.symm; clear f1_ f2_ f3_; subst f4_; subst f5_)); skip) | ((with_reducible refine gate_dst (N := 5) rfl ?_); refine box_event ?hg (N := 5) ?hd (cs := #[.slice none 0 0, .int .i64 0, .slice none 0 0, .slice none 0 0, .int .i64 0]) (t := 68) ?hr ?_; (case hd => rfl); (case hg => rfl); (case hr => first | (go_simp; done) | (go_simp; rfl)); intro gb88 hg w89 hbox hb; have GEgb88 := Aside0.mk (by rw [hg]; exact (below_size (by repeat (first | (with_reducible first | exact HX.out | apply below_alloc | apply pw_below_drewN | apply below_drew1) | exact HX.out))) : _ ≤ gb88); have BK90r := Aside0.mk hbox; have n0_ := Aside0.mk (below_step (by repeat (first | (with_reducible first | exact HX.out | apply below_alloc | apply pw_below_drewN | apply below_drew1) | exact HX.out)) hb); have hnb91 : gb88 ≠ gb15 := (fun e_ => by have z1_ := GEgb88.out; have z2_ := blk_lt BK17.out; omega); have hnb91c : gb15 ≠ gb88 := fun e_ => hnb91 e_.symm; have hnb92 : gb88 ≠ gb42 := (fun e_ => by have z1_ := GEgb88.out; have z2_ := blk_lt BK44.out; omega); have hnb92c : gb42 ≠ gb88 := fun e_ => hnb92 e_.symm; clear HX; have HX := n0_; clear n0_ hb hg; have hcz93 : w89.cell? ⟨gb88, 0, none⟩ = some (.slice none 0 0) := (blk_cell BK90r.out 0).trans rfl; have hfz94 := blk_frozen BK90r.out 0; have hcz95 : w89.cell? ⟨gb88, 1, none⟩ = some (.int .i64 0) := (blk_cell BK90r.out 1).trans rfl; have hfz96 := blk_frozen BK90r.out 1; have hcz97 : w89.cell? ⟨gb88, 2, none⟩ = some (.slice none 0 0) := (blk_cell BK90r.out 2).trans rfl; have hfz98 := blk_frozen BK90r.out 2; have hcz99 : w89.cell? ⟨gb88, 3, none⟩ = some (.slice none 0 0) := (blk_cell BK90r.out 3).trans rfl; have hfz100 := blk_frozen BK90r.out 3; have hcz101 : w89.cell? ⟨gb88, 4, none⟩ = some (.int .i64 0) := (blk_cell BK90r.out 4).trans rfl; have hfz102 := blk_frozen BK90r.out 4; have hcz8_0_BK17 : w89.cell? ⟨gb15, 0, none⟩ = some (.slice Aoo12 t1.length coo12) := (blk_cell (blk_below (g := gb15) BK17.out HX.out) 0).trans rfl; have hcz8_1_BK17 : w89.cell? ⟨gb15, 1, none⟩ = some (.int .i64 t2) := (blk_cell (blk_below (g := gb15) BK17.out HX.out) 1).trans rfl; have hcz8_2_BK17 : w89.cell? ⟨gb15, 2, none⟩ = some (.slice Aoo13 t3.length coo13) := (blk_cell (blk_below (g := gb15) BK17.out HX.out) 2).trans rfl; have hcz8_3_BK17 : w89.cell? ⟨gb15, 3, none⟩ = some (.slice Aoo14 t4.length coo14) := (blk_cell (blk_below (g := gb15) BK17.out HX.out) 3).trans rfl; have hcz8_4_BK17 : w89.cell? ⟨gb15, 4, none⟩ = some (.int .i64 t5) := (blk_cell (blk_below (g := gb15) BK17.out HX.out) 4).trans rfl; clear hbox) | ((with_reducible refine gate_callee (f := 39) rfl ?_); refine goesL_ (some 26) rfl rfl Try.func39 (by kernel_rfl) rfl #[.agg #[.slice Aoo85 t74.length coo85, .int .i64 t75, .slice Aoo86 t76.length coo86, .slice Aoo87 t77.length coo87, .int .i64 t78], .agg #[.slice Aoo12 t1.length coo12, .int .i64 t2, .slice Aoo13 t3.length coo13, .slice Aoo14 t4.length coo14, .int .i64 t5]] rfl (by (try simp only [List.map_toArray, List.map_cons, List.map_nil]); first | done | rfl) ?_; (with_reducible refine (laws_eqServer.calls k _ _ t74 t75 _ _ t76 _ _ t77 t78 _ _ t1 t2 _ _ t3 _ _ t4 t5 true _ ?side1 ?side2 ?side3 ?side4 ?side5 ?side6 ?side7 ?side8 ?side9 ?side10 ?side11 ?side12 A104.out).mono ?_); (case side1 => exact Kd.C_below (Kd.S_reads' HO82.out).2.2 (by repeat (first | (with_reducible first | exact HX.out | apply below_alloc | apply pw_below_drewN | apply below_drew1 | refine below_set ?_ GEgb88.out) | exact HX.out))); (case side2 => have z_ := Kd.S_reads' HO82.out; have y_ := z_.1; have x_ := z_.2.1; omega); (case side3 => exact Kd.C_below (Kd.R_reads' HO83.out).2.2 (by repeat (first | (with_reducible first | exact HX.out | apply below_alloc | apply pw_below_drewN | apply below_drew1 | refine below_set ?_ GEgb88.out) | exact HX.out))); (case side4 => have z_ := Kd.R_reads' HO83.out; have y_ := z_.1; have x_ := z_.2.1; omega); (case side5 => exact Kd.C_below (Kd.R_reads' HO84.out).2.2 (by repeat (first | (with_reducible first | exact HX.out | apply below_alloc | apply pw_below_drewN | apply below_drew1 | refine below_set ?_ GEgb88.out) | exact HX.out))); (case side6 => have z_ := Kd.R_reads' HO84.out; have y_ := z_.1; have x_ := z_.2.1; omega); (case side7 => exact Kd.C_below (Kd.S_reads' HO9.out).2.2 (by repeat (first | (with_reducible first | exact HX.out | apply below_alloc | apply pw_below_drewN | apply below_drew1 | refine below_set ?_ GEgb88.out) | exact HX.out))); (case side8 => have z_ := Kd.S_reads' HO9.out; have y_ := z_.1; have x_ := z_.2.1; omega); (case side9 => exact Kd.C_below (Kd.R_reads' HO10.out).2.2 (by repeat (first | (with_reducible first | exact HX.out | apply below_alloc | apply pw_below_drewN | apply below_drew1 | refine below_set ?_ GEgb88.out) | exact HX.out))); (case side10 => have z_ := Kd.R_reads' HO10.out; have y_ := z_.1; have x_ := z_.2.1; omega); (case side11 => exact Kd.C_below (Kd.R_reads' HO11.out).2.2 (by repeat (first | (with_reducible first | exact HX.out | apply below_alloc | apply pw_below_drewN | apply below_drew1 | refine below_set ?_ GEgb88.out) | exact HX.out))); (case side12 => have z_ := Kd.R_reads' HO11.out; have y_ := z_.1; have x_ := z_.2.1; omega); rintro e w105 ⟨rfl, hb⟩; refine ⟨_, rfl, ?_⟩; have hx_ := lw8_hx hb (by repeat (first | (with_reducible first | exact HX.out | apply below_alloc | apply pw_below_drewN | apply below_drew1 | refine below_set ?_ GEgb88.out) | exact HX.out)); have hp_ := lw8_lt (g := gb88) (o := .cells #[.slice Aoo85 t74.length coo85, .int .i64 t75, .slice Aoo86 t76.length coo86, .slice Aoo87 t77.length coo87, .int .i64 t78] 68 (0, 0)) hb (by (with_reducible repeat (first | refine blk_drewN ?_ _ | refine blk_drew ?_ | refine blk_alloc ?_ _)); refine blk_put (cs := #[.slice Aoo85 t74.length coo85, .int .i64 t75, .slice Aoo86 t76.length coo86, .slice Aoo87 t77.length coo87, .int .i64 0]) ?_ 4 _ rfl; (with_reducible repeat (first | refine blk_drewN ?_ _ | refine blk_drew ?_ | refine blk_alloc ?_ _)); refine blk_put (cs := #[.slice Aoo85 t74.length coo85, .int .i64 t75, .slice Aoo86 t76.length coo86, .slice none 0 0, .int .i64 0]) ?_ 3 _ rfl; (with_reducible repeat (first | refine blk_drewN ?_ _ | refine blk_drew ?_ | refine blk_alloc ?_ _)); refine blk_put (cs := #[.slice Aoo85 t74.length coo85, .int .i64 t75, .slice none 0 0, .slice none 0 0, .int .i64 0]) ?_ 2 _ rfl; (with_reducible repeat (first | refine blk_drewN ?_ _ | refine blk_drew ?_ | refine blk_alloc ?_ _)); refine blk_put (cs := #[.slice Aoo85 t74.length coo85, .int .i64 0, .slice none 0 0, .slice none 0 0, .int .i64 0]) ?_ 1 _ rfl; (with_reducible repeat (first | refine blk_drewN ?_ _ | refine blk_drew ?_ | refine blk_alloc ?_ _)); refine blk_put (cs := #[.slice none 0 0, .int .i64 0, .slice none 0 0, .slice none 0 0, .int .i64 0]) ?_ 0 _ rfl; (with_reducible repeat (first | refine blk_drewN ?_ _ | refine blk_drew ?_ | refine blk_alloc ?_ _)); exact BK90r.out); have CHgb88 := Aside0.mk (show hi81 ≤ gb88 from Nat.le_trans HN.out GEgb88.out); have hbt := below_step hx_ hb; have BK90 := Aside0.mk (hp_.2); replace HO9 := Aside0.mk (Kd.S_below HO9.out hbt); replace HO10 := Aside0.mk (Kd.R_below HO10.out hbt); replace HO11 := Aside0.mk (Kd.R_below HO11.out hbt); replace BK17 := Aside0.mk (blk_below (g := gb15) BK17.out hbt); replace HO36 := Aside0.mk (Kd.S_below HO36.out hbt); replace HO37 := Aside0.mk (Kd.R_below HO37.out hbt); replace HO38 := Aside0.mk (Kd.R_below HO38.out hbt); replace BK44 := Aside0.mk (blk_below (g := gb42) BK44.out hbt); replace HO82 := Aside0.mk (Kd.S_below HO82.out hbt); replace HO83 := Aside0.mk (Kd.R_below HO83.out hbt); replace HO84 := Aside0.mk (Kd.R_below HO84.out hbt); replace HN := Aside0.mk (Nat.le_trans (hp_.1) hb.size); replace HB := Aside0.mk (below_step HB.out hbt); replace HX := Aside0.mk (Below.refl w105.heap.size w105); have IVgb88 := Aside0.mk (show gb88 ≤ gb88 ∧ gb88 < gb88 + 1 from ⟨Nat.le_refl _, Nat.lt_succ_self _⟩); clear hb hbt hx_ hp_; have hcz9_0_BK44 : w105.cell? ⟨gb42, 0, none⟩ = some (.slice Aoo39 t28.length coo39) := (blk_cell BK44.out 0).trans rfl; have hcz9_1_BK44 : w105.cell? ⟨gb42, 1, none⟩ = some (.int .i64 t29) := (blk_cell BK44.out 1).trans rfl; have hcz9_2_BK44 : w105.cell? ⟨gb42, 2, none⟩ = some (.slice Aoo40 t30.length coo40) := (blk_cell BK44.out 2).trans rfl; have hcz9_3_BK44 : w105.cell? ⟨gb42, 3, none⟩ = some (.slice Aoo41 t31.length coo41) := (blk_cell BK44.out 3).trans rfl; have hcz9_4_BK44 : w105.cell? ⟨gb42, 4, none⟩ = some (.int .i64 t32) := (blk_cell BK44.out 4).trans rfl) | ((with_reducible refine gate_callee (f := 41) rfl ?_); refine goesL_ (some 30) rfl rfl Try.func41 (by kernel_rfl) rfl #[.agg #[.slice Aoo39 t61.length coo39, .int .i64 t29, .slice Aoo40 t62.length coo40, .slice Aoo41 t63.length coo41, .int .i64 t32], .int .i64 1] rfl (by (try simp only [List.map_toArray, List.map_cons, List.map_nil]); first | done | rfl | (simp only [LEN67.out, LEN68.out, LEN69.out]; rfl)) ?_; (with_reducible refine (laws_heldServer.calls k _ _ t61 t29 _ _ t62 _ _ t63 t32 1 t107 _ ?side1 ?side2 ?side3 ?side4 ?side5 ?side6 A108.out).mono ?_); (case side1 => exact Kd.C_below (Kd.S_reads' HO36.out).2.2 (by repeat (first | (with_reducible first | exact HX.out | apply below_alloc | apply pw_below_drewN | apply below_drew1) | exact HX.out))); (case side2 => have z_ := Kd.S_reads' HO36.out; have y_ := z_.1; have x_ := z_.2.1; omega); (case side3 => exact Kd.C_below (Kd.R_reads' HO37.out).2.2 (by repeat (first | (with_reducible first | exact HX.out | apply below_alloc | apply pw_below_drewN | apply below_drew1) | exact HX.out))); (case side4 => have z_ := Kd.R_reads' HO37.out; have y_ := z_.1; have x_ := z_.2.1; omega); (case side5 => exact Kd.C_below (Kd.R_reads' HO38.out).2.2 (by repeat (first | (with_reducible first | exact HX.out | apply below_alloc | apply pw_below_drewN | apply below_drew1) | exact HX.out))); (case side6 => have z_ := Kd.R_reads' HO38.out; have y_ := z_.1; have x_ := z_.2.1; omega); rintro e w109 ⟨rfl, hb⟩; refine ⟨_, rfl, ?_⟩; have hx_ := lw8_hx hb (by repeat (first | (with_reducible first | exact HX.out | apply below_alloc | apply pw_below_drewN | apply below_drew1) | exact HX.out)); have hbt := below_step hx_ hb; replace HO9 := Aside0.mk (Kd.S_below HO9.out hbt); replace HO10 := Aside0.mk (Kd.R_below HO10.out hbt); replace HO11 := Aside0.mk (Kd.R_below HO11.out hbt); replace BK17 := Aside0.mk (blk_below (g := gb15) BK17.out hbt); replace HO36 := Aside0.mk (Kd.S_below HO36.out hbt); replace HO37 := Aside0.mk (Kd.R_below HO37.out hbt); replace HO38 := Aside0.mk (Kd.R_below HO38.out hbt); replace BK44 := Aside0.mk (blk_below (g := gb42) BK44.out hbt); replace HO82 := Aside0.mk (Kd.S_below HO82.out hbt); replace HO83 := Aside0.mk (Kd.R_below HO83.out hbt); replace HO84 := Aside0.mk (Kd.R_below HO84.out hbt); replace BK90 := Aside0.mk (blk_below (g := gb88) BK90.out hbt); replace HN := Aside0.mk (Nat.le_trans (Nat.le_trans HN.out (below_size hx_)) hb.size); replace HB := Aside0.mk (below_step HB.out hbt); replace HX := Aside0.mk (Below.refl w109.heap.size w109); clear hb hbt hx_; skip))
  go_ret
  exact ⟨by first | rfl | (simp [*]; done), below_step HB.out (by repeat (first | (with_reducible first | exact HX.out | apply below_alloc | apply pw_below_drewN | apply below_drew1) | exact HX.out))⟩

end Go.Proofs.Ytfpkooafbeejmaa.Q
namespace Go.Proofs.Ytfpkooafbeejmaa.Q
open Go.RowKit Go.Proofs.YtfpkooafbeejmaaW.PrintWords Go.Proofs.Ytfpkooafbeejmaa.Opens
set_option linter.unusedVariables false
end Go.Proofs.Ytfpkooafbeejmaa.Q
namespace Go.Proofs.Ytfpkooafbeejmaa.Q
open Go.RowKit Go.Proofs.YtfpkooafbeejmaaW.PrintWords Go.Proofs.Ytfpkooafbeejmaa.Opens
set_option linter.unusedVariables false
def laws_FnExactNewServer.Pure2 : Prop := ∃ k, laws_FnExactNewServer.f k  = some true
end Go.Proofs.Ytfpkooafbeejmaa.Q
namespace Go.Proofs.Ytfpkooafbeejmaa.Pure2
open Go.RowKit Go.Proofs.Ytfpkooafbeejmaa.Q Go.Proofs.YtfpkooafbeejmaaW.PrintWords Go.Proofs.YtfpkooafbeejmaaW.PrintLast
set_option linter.unusedVariables false
set_option linter.unusedSimpArgs false
theorem FnExactNewServer : laws_FnExactNewServer.Pure2 := ⟨60, by kernel_rfl⟩
end Go.Proofs.Ytfpkooafbeejmaa.Pure2
