/- Texts of the claim on FnForget, gathered by a program of this session: what the program's functions compute (proved by walks), and the plain part. -/
import Derived.Test.YtfiboooflebdpaaKFnForgetb
namespace Go.Proofs.Ytfiboooflebdpaa.Q
open Go.RowKit Go.Proofs.YtfiboooflebdpaaW.PrintWords Go.Proofs.YtfiboooflebdpaaW.PrintLast Go.Proofs.YtfiboooflebdpaaW.PrintMore
attribute [local go_sem] max2_int min2_int max_two min_two max_three min_three max_four min_four
set_option linter.unusedVariables false
set_option linter.unusedSimpArgs false

theorem q73zA {α : Type} (l : List α) (i : Nat) (a : α) : l.toArray.setIfInBounds i a = (l.set i a).toArray := qzA l i a
theorem q73zB {α : Type} {a b : α} {t : List α} : (a :: t).set 0 b = b :: t := rfl
theorem q73zC {α : Type} {a b : α} {t : List α} {n : Nat} : (a :: t).set (n + 1) b = a :: t.set n b := rfl
theorem q73bN {B : Nat} {w W : World} (h : Below B w W) (n : Nat) : Below B w (W.drewN n) := qbN h n
theorem q73bA {w W : World} (h : Below w.heap.size w W) (o : Obj) : Below w.heap.size w (W.alloc o) := qbA h o
theorem q73bD {base : Nat} {w W : World} (h : Below base w W) : Below base w W.drew := qbD h
theorem q73bS {w W : World} {g j : Nat} {v : Value} (h : Below w.heap.size w W) (hg : w.heap.size ≤ g) : Below w.heap.size w (W.setCell ⟨g, j, none⟩ v) := qbS h hg
theorem q73O {p : Prop} (h : p) : Aside0 p := ⟨h⟩
theorem q73T {p : Prop} [Decidable p] (h : decide p = true) : p := qT h
theorem q73L (w : World) (a : Addr) {v : Value} (h : w.cell? a = some v) : a.block < w.heap.size := qL w a h
theorem q73kN {w : World} {g : Nat} {o : Obj} (h : w.heap[g]? = some o) (n : Nat) : (w.drewN n).heap[g]? = some o := h
theorem q73kD {w : World} {g : Nat} {o : Obj} (h : w.heap[g]? = some o) : w.drew.heap[g]? = some o := h
theorem q73kA {w : World} {g : Nat} {o : Obj} (h : w.heap[g]? = some o) (o' : Obj) : (w.alloc o').heap[g]? = some o := qkA h o'
def spec_l06Write.l0 : Nat → List (S58) → Int → List (List (S43)) → Int → Option ((List (List (S43))) × Int)
 | 0, _, _, _, _ => none
 | k + 1, x1, x5, x102000, x102001 => if x5 < (x1.length : Int) then (if 0 ≤ x5 then (if 0 ≤ ((rd_T58 x1 x5).f0) then (if ((rd_T58 x1 x5).f0) < (x102000.length : Int) then (if ((rd_L4 x102000 ((rd_T58 x1 x5).f0)).length : Int) > 0 then (if 0 ≤ (wrap64 (((rd_L4 x102000 ((rd_T58 x1 x5).f0)).length : Int) - 1)) then (if (wrap64 (((rd_L4 x102000 ((rd_T58 x1 x5).f0)).length : Int) - 1)) < ((rd_L4 x102000 ((rd_T58 x1 x5).f0)).length : Int) then (if ((rd_T43 (rd_L4 x102000 ((rd_T58 x1 x5).f0)) (wrap64 (((rd_L4 x102000 ((rd_T58 x1 x5).f0)).length : Int) - 1))).f0) = x102001 then (if (wrap64 (((rd_L4 x102000 ((rd_T58 x1 x5).f0)).length : Int) - 1)) ≤ ((rd_L4 x102000 ((rd_T58 x1 x5).f0)).length : Int) then ((some ((rd_L4 x102000 ((rd_T58 x1 x5).f0)).take ((wrap64 (((rd_L4 x102000 ((rd_T58 x1 x5).f0)).length : Int) - 1)) : Int).toNat : List (S43))).bind fun y110 => ((some (([] : List (S43)) : List (S43))).bind fun y116 => (if y116.length + y110.length < 8796093022208 then ((some (y116 ++ y110 : List (S43))).bind fun y119 => ((some (([(⟨x102001, (rd_T58 x1 x5).f1⟩ : S43)] : List (S43)) : List (S43))).bind fun y123 => (if y119.length + y123.length < 8796093022208 then (spec_l06Write.l0 k x1 (wrap64 (x5 + 1)) (x102000.set (((rd_T58 x1 x5).f0) : Int).toNat (y119 ++ y123)) x102001) else (none)))) else (none)))) else (none)) else ((some (([] : List (S43)) : List (S43))).bind fun y131 => (if y131.length + (rd_L4 x102000 ((rd_T58 x1 x5).f0)).length < 8796093022208 then ((some (y131 ++ (rd_L4 x102000 ((rd_T58 x1 x5).f0)) : List (S43))).bind fun y134 => ((some (([(⟨x102001, (rd_T58 x1 x5).f1⟩ : S43)] : List (S43)) : List (S43))).bind fun y138 => (if y134.length + y138.length < 8796093022208 then (spec_l06Write.l0 k x1 (wrap64 (x5 + 1)) (x102000.set (((rd_T58 x1 x5).f0) : Int).toNat (y134 ++ y138)) x102001) else (none)))) else (none)))) else (none)) else (none)) else ((some (([] : List (S43)) : List (S43))).bind fun y146 => (if y146.length + (rd_L4 x102000 ((rd_T58 x1 x5).f0)).length < 8796093022208 then ((some (y146 ++ (rd_L4 x102000 ((rd_T58 x1 x5).f0)) : List (S43))).bind fun y149 => ((some (([(⟨x102001, (rd_T58 x1 x5).f1⟩ : S43)] : List (S43)) : List (S43))).bind fun y153 => (if y149.length + y153.length < 8796093022208 then (spec_l06Write.l0 k x1 (wrap64 (x5 + 1)) (x102000.set (((rd_T58 x1 x5).f0) : Int).toNat (y149 ++ y153)) x102001) else (none)))) else (none)))) else (none)) else (none)) else (none)) else (some (x102000, x102001))
def spec_l06Write.f (k : Nat) (l0_0 : List (List (S43))) (a0_1 : Int) (l1 : List (S58)) : Option ((List (List (S43))) × Int) := if (l1.length : Int) = 0 then (some (l0_0, a0_1)) else ((spec_l06Own.f k l0_0 a0_1).bind fun bt103 => (spec_l06Write.l0 k l1 0 bt103.1 (wrap64 (bt103.2 + 1))))
def spec_l06Write.T8 : Bool × List (List Nat × List Nat) := (true, [([], []), ([0], [0]), ([], []), ([], []), ([2, 3], [2, 3]), ([4], [4]), ([5], [5]), ([1, 6], [1, 6]), ([7], [7]), ([8, 0, 1, 2, 3, 4, 5, 6, 7, 8], [8])])
def spec_l06Write.B8 : List Nat := [0, 1, 0, 0, 12, 28, 60, 127, 255, 511]
theorem spec_l06Write.tab8 : rtab .any (opsOf Try.f73 8) = spec_l06Write.T8 := by kernel_rfl
theorem spec_l06Write.bits8 : waitsOk spec_l06Write.T8.2 spec_l06Write.B8 = true := by kernel_rfl
def spec_l06Write.T9 : Bool × List (List Nat × List Nat) := (true, [([], []), ([0], [0]), ([1], [1]), ([2], [2]), ([3], [3]), ([3], [3]), ([5, 3], [3, 5]), ([6, 3], [3, 6]), ([4, 7, 3], [3, 4, 7]), ([8, 3], [3, 8]), ([9, 3], [3, 9]), ([3], [3]), ([11, 3], [3, 11]), ([10, 12, 3], [3, 10, 12]), ([3, 13], [3, 13])])
def spec_l06Write.B9 : List Nat := [0, 1, 3, 7, 15, 15, 47, 111, 255, 511, 1023, 15, 2063, 8191, 16383]
theorem spec_l06Write.tab9 : rtab .any (opsOf Try.f73 9) = spec_l06Write.T9 := by kernel_rfl
theorem spec_l06Write.bits9 : waitsOk spec_l06Write.T9.2 spec_l06Write.B9 = true := by kernel_rfl
def spec_l06Write.T11 : Bool × List (List Nat × List Nat) := (true, [([], []), ([0], [0]), ([], []), ([], []), ([2, 3], [2, 3]), ([4], [4]), ([5], [5]), ([], []), ([], []), ([7, 8], [7, 8]), ([], []), ([10], [10]), ([], []), ([], []), ([12, 13], [12, 13]), ([14], [14]), ([15], [15]), ([11, 16], [11, 16]), ([17], [17]), ([9, 18, 9], [9, 18]), ([1, 6, 0, 1, 2, 3, 4, 5, 6, 7, 8, 9, 10, 11, 12, 13, 14, 15, 16, 17, 18, 19], [1, 6]), ([20, 19, 19, 0, 1, 2, 3, 4, 5, 6, 7, 8, 9, 10, 11, 12, 13, 14, 15, 16, 17, 18, 19], [19, 20])])
def spec_l06Write.B11 : List Nat := [0, 1, 0, 0, 12, 28, 60, 0, 0, 384, 0, 1024, 0, 0, 12288, 28672, 61440, 130048, 261120, 524160, 1048575, 2097151]
theorem spec_l06Write.tab11 : rtab .any (opsOf Try.f73 11) = spec_l06Write.T11 := by kernel_rfl
theorem spec_l06Write.bits11 : waitsOk spec_l06Write.T11.2 spec_l06Write.B11 = true := by kernel_rfl
def q73y0 : Array Bool := #[qf,qf,qf,qf,qf,qf,qf,qf,qf,qf]
def q73y1 : Array Bool := #[qt,qf,qf,qf,qf,qf,qf,qf,qf,qf]
def q73y2 : Array Bool := #[qt,qf,qt,qf,qf,qf,qf,qf,qf,qf]
def q73y3 : Array Bool := #[qt,qf,qt,qt,qf,qf,qf,qf,qf,qf]
def q73y4 : Array Bool := #[qt,qf,qt,qt,qt,qf,qf,qf,qf,qf]
def q73y5 : Array Bool := #[qt,qf,qt,qt,qt,qt,qf,qf,qf,qf]
def q73y6 : Array Bool := #[qt,qt,qt,qt,qt,qt,qf,qf,qf,qf]
def q73y7 : Array Bool := #[qt,qt,qt,qt,qt,qt,qt,qf,qf,qf]
def q73y8 : Array Bool := #[qt,qt,qt,qt,qt,qt,qt,qt,qf,qf]
def q73y9 : Array Bool := #[qt,qt,qt,qt,qt,qt,qt,qt,qt,qf]
def q73y10 : Array Bool := #[qt,qt,qt,qt,qt,qt,qt,qt,qt,qt]
def q73y11 : Array Bool := #[qf,qf,qf,qf,qf,qf,qf,qf,qf,qf,qf,qf,qf,qf,qf]
def q73y12 : Array Bool := #[qt,qf,qf,qf,qf,qf,qf,qf,qf,qf,qf,qf,qf,qf,qf]
def q73y13 : Array Bool := #[qt,qt,qf,qf,qf,qf,qf,qf,qf,qf,qf,qf,qf,qf,qf]
def q73y14 : Array Bool := #[qt,qt,qt,qf,qf,qf,qf,qf,qf,qf,qf,qf,qf,qf,qf]
def q73y15 : Array Bool := #[qt,qt,qt,qt,qf,qf,qf,qf,qf,qf,qf,qf,qf,qf,qf]
def q73y16 : Array Bool := #[qt,qt,qt,qt,qt,qf,qf,qf,qf,qf,qf,qf,qf,qf,qf]
def q73y17 : Array Bool := #[qt,qt,qt,qt,qt,qt,qf,qf,qf,qf,qf,qf,qf,qf,qf]
def q73y18 : Array Bool := #[qt,qt,qt,qt,qt,qt,qt,qf,qf,qf,qf,qf,qf,qf,qf]
def q73y19 : Array Bool := #[qt,qt,qt,qt,qt,qt,qt,qt,qf,qf,qf,qf,qf,qf,qf]
def q73y20 : Array Bool := #[qt,qt,qt,qt,qt,qt,qt,qt,qt,qf,qf,qf,qf,qf,qf]
def q73y21 : Array Bool := #[qt,qt,qt,qt,qt,qt,qt,qt,qt,qt,qf,qf,qf,qf,qf]
def q73y22 : Array Bool := #[qt,qt,qt,qt,qt,qt,qt,qt,qt,qt,qf,qt,qf,qf,qf]
def q73y23 : Array Bool := #[qt,qt,qt,qt,qt,qt,qt,qt,qt,qt,qt,qt,qf,qf,qf]
def q73y24 : Array Bool := #[qt,qt,qt,qt,qt,qt,qt,qt,qt,qt,qt,qt,qt,qf,qf]
def q73y25 : Array Bool := #[qt,qt,qt,qt,qt,qt,qt,qt,qt,qt,qt,qt,qt,qt,qf]
def q73y26 : Array Bool := #[qt,qt,qt,qt,qt,qt,qt,qt,qt,qt,qt,qt,qt,qt,qt]
def q73y27 : Array Bool := #[qf,qf,qf,qf,qf,qf,qf,qf,qf,qf,qf,qf,qf,qf,qf,qf,qf,qf,qf,qf,qf,qf]
def q73y28 : Array Bool := #[qt,qf,qf,qf,qf,qf,qf,qf,qf,qf,qf,qf,qf,qf,qf,qf,qf,qf,qf,qf,qf,qf]
def q73y29 : Array Bool := #[qt,qf,qt,qf,qf,qf,qf,qf,qf,qf,qf,qf,qf,qf,qf,qf,qf,qf,qf,qf,qf,qf]
def q73y30 : Array Bool := #[qt,qf,qt,qt,qf,qf,qf,qf,qf,qf,qf,qf,qf,qf,qf,qf,qf,qf,qf,qf,qf,qf]
def q73y31 : Array Bool := #[qt,qf,qt,qt,qt,qf,qf,qf,qf,qf,qf,qf,qf,qf,qf,qf,qf,qf,qf,qf,qf,qf]
def q73y32 : Array Bool := #[qt,qf,qt,qt,qt,qt,qf,qf,qf,qf,qf,qf,qf,qf,qf,qf,qf,qf,qf,qf,qf,qf]
def q73y33 : Array Bool := #[qt,qf,qt,qt,qt,qt,qf,qf,qt,qf,qf,qf,qf,qf,qf,qf,qf,qf,qf,qf,qf,qf]
def q73y34 : Array Bool := #[qt,qf,qt,qt,qt,qt,qf,qf,qt,qf,qt,qf,qf,qf,qf,qf,qf,qf,qf,qf,qf,qf]
def q73y35 : Array Bool := #[qt,qf,qt,qt,qt,qt,qf,qf,qt,qf,qt,qf,qt,qf,qf,qf,qf,qf,qf,qf,qf,qf]
def q73y36 : Array Bool := #[qt,qf,qt,qt,qt,qt,qf,qf,qt,qf,qt,qf,qt,qt,qf,qf,qf,qf,qf,qf,qf,qf]
def q73y37 : Array Bool := #[qt,qf,qt,qt,qt,qt,qf,qf,qt,qf,qt,qf,qt,qt,qt,qf,qf,qf,qf,qf,qf,qf]
def q73y38 : Array Bool := #[qt,qf,qt,qt,qt,qt,qf,qf,qt,qf,qt,qf,qt,qt,qt,qt,qf,qf,qf,qf,qf,qf]
def q73y39 : Array Bool := #[qt,qt,qt,qt,qt,qt,qf,qf,qt,qf,qt,qf,qt,qt,qt,qt,qf,qf,qf,qf,qf,qf]
def q73y40 : Array Bool := #[qt,qt,qt,qt,qt,qt,qt,qf,qt,qf,qt,qf,qt,qt,qt,qt,qf,qf,qf,qf,qf,qf]
def q73y41 : Array Bool := #[qt,qt,qt,qt,qt,qt,qt,qf,qt,qf,qt,qt,qt,qt,qt,qt,qf,qf,qf,qf,qf,qf]
def q73y42 : Array Bool := #[qt,qt,qt,qt,qt,qt,qt,qf,qt,qf,qt,qt,qt,qt,qt,qt,qt,qf,qf,qf,qf,qf]
def q73y43 : Array Bool := #[qt,qt,qt,qt,qt,qt,qt,qf,qt,qf,qt,qt,qt,qt,qt,qt,qt,qt,qf,qf,qf,qf]
def q73y44 : Array Bool := #[qt,qt,qt,qt,qt,qt,qt,qt,qt,qt,qt,qt,qt,qt,qt,qt,qt,qt,qt,qf,qf,qf]
def q73y45 : Array Bool := #[qt,qt,qt,qt,qt,qt,qt,qt,qt,qf,qt,qt,qt,qt,qt,qt,qt,qt,qf,qf,qf,qf]
def q73y46 : Array Bool := #[qt,qt,qt,qt,qt,qt,qt,qf,qt,qf,qt,qt,qt,qt,qt,qt,qt,qt,qt,qf,qf,qf]
def q73y47 : Array Bool := #[qt,qt,qt,qt,qt,qt,qt,qt,qt,qt,qt,qt,qt,qt,qt,qt,qt,qt,qf,qf,qf,qf]
def q73y48 : Array Bool := #[qt,qt,qt,qt,qt,qt,qt,qt,qt,qf,qt,qt,qt,qt,qt,qt,qt,qt,qt,qf,qf,qf]
def q73y49 : Array Bool := #[qt,qt,qt,qt,qt,qt,qt,qt,qt,qt,qt,qt,qt,qt,qt,qt,qt,qt,qt,qt,qf,qf]
def q73y50 : Array Bool := #[qt,qt,qt,qt,qt,qt,qt,qt,qt,qt,qt,qt,qt,qt,qt,qt,qt,qt,qt,qt,qt,qf]
def q73y51 : Array Bool := #[qt,qt,qt,qt,qt,qt,qt,qt,qt,qt,qt,qt,qt,qt,qt,qt,qt,qt,qt,qt,qt,qt]
def q73y52 : Array Bool := #[qt,qt,qt,qt,qt,qt,qt,qt,qt,qt,qt,qf,qf,qf,qf]
set_option maxHeartbeats 8000000 in
set_option maxRecDepth 100000 in
theorem spec_l06Write.calls (k : Nat) (P0_0_ : Nat → Prop) (A0_0 : Option Addr) (c0_0 : Nat) (l0_0 : List (List (S43))) (a0_1 : Int) (A1 : Option Addr) (c1 : Nat) (l1 : List (S58)) (r1 : List (List (S43))) (r2 : Int) (w : World) (hs0_0 : Kd.V (Kd.slice 43 k43) 41 w w.heap.size (fun k_ => P0_0_ k_) (.slice A0_0 l0_0.length c0_0) l0_0) (hr1 : Kd.C k58 w A1 l1.length l1) (hc1 : l1.length ≤ c1) (h : spec_l06Write.f k l0_0 a0_1 l1 = some (r1, r2)) :
  Calls Try.prog 73 #[.agg #[.slice A0_0 l0_0.length c0_0, .int .i64 a0_1], .slice A1 l1.length c1] w fun e w' => ∃ v0_ : Value, e = .returned (.agg #[v0_, .int .i64 r2]) ∧ Kd.V (Kd.slice 43 k43) 41 w' w.heap.size (fun k_ => (P0_0_ k_ ∨ w.heap.size ≤ k_)) v0_ r1 ∧ Below w.heap.size w w' := by
 have hu28 := Try.underlying28; have hu43 := Try.underlying43; have HO0_0 := q73O (show Kd.V (Kd.slice 43 k43) 41 w w.heap.size (fun k_ => (P0_0_ k_ ∨ w.heap.size ≤ k_)) (.slice A0_0 l0_0.length c0_0) l0_0 from Kd.V_mono hs0_0 (fun k_ hk => .inl hk)); have HR1 := q73O hr1; have HC1 := q73O hc1; clear hr1 hc1; have HB := q73O (Below.refl w.heap.size w); have H : (if (l1.length : Int) = 0 then (some (l0_0, a0_1)) else ((spec_l06Own.f k l0_0 a0_1).bind fun bt103 => (spec_l06Write.l0 k l1 0 bt103.1 (wrap64 (bt103.2 + 1))))) = some (r1, r2) := h; clear h
 by_cases c3 : (l1.length : Int) = 0
 ·rw [if_pos c3] at H
  have c3b0 : ((l1.length : Int) == 0) = true := beq_iff_eq.mpr c3; have c3b1 : ((l1.length : Int) != 0) = false := bne_eq_false_iff_eq.mpr c3; clear c3; simp only [Option.some.injEq, Prod.mk.injEq] at H; obtain ⟨rfl, rfl⟩ := H
  go_enter Try.func73, Try.ntmps73
  go_wp2_with (first | ((with_reducible refine gate_dst (N := 2) rfl ?_); (try (refine gate_guard (by rfl) ?_; dsimp only)); refine qX 2 #[.slice A0_0 l0_0.length c0_0, .int .i64 a0_1] 28 ?_; intro gb101 hg w4 hbox hb; have BK101 := q73O (hbox); have GW101 := q73O ((qa127 : w.heap.size ≤ gb101)); have GE101 := q73O ((qa127 : w.heap.size ≤ gb101)); replace HO0_0 := q73O (Kd.V_below (Kd.V_elderB qa135 gb101 (Nat.le_of_eq hg.symm)) hb); replace HB := q73O (below_step qa177 hb); clear hb hbox hg) | ((with_reducible refine gate_dst (N := 4) rfl ?_); (try (refine gate_guard (by rfl) ?_; dsimp only)); refine qX 4 #[.slice none 0 0, .int .i64 0] 28 ?_; intro gb102 hg w5 hbox hb; have BK102 := q73O (hbox); have GW102 := q73O ((qa104 : w.heap.size ≤ gb102)); have GE102 := q73O ((qa104 : w.heap.size ≤ gb102)); have NB101_102 := q73O ((qa142 : gb101 ≠ gb102)); have NB102_101 := q73O ((qa143 : gb102 ≠ gb101)); replace HO0_0 := q73O (Kd.V_below (Kd.V_elderB qa135 gb102 (Nat.le_of_eq hg.symm)) hb); replace BK101 := q73O (blk_below (g := gb101) (o := .cells #[.slice A0_0 l0_0.length c0_0, .int .i64 a0_1] 28 (0, 0)) qa26 hb); replace HB := q73O (below_step qa168 hb); clear hb hbox hg; have hnb6 := NB101_102.out; have hnc6 := NB102_101.out; obtain ⟨hcz7_0, hcz7_1, hfz7_0, hfz7_1⟩ := qb2 BK101.out; obtain ⟨hcz8_0, hcz8_1, hfz8_0, hfz8_1⟩ := qb2 BK102.out))
  refine bodyPost_ret (results_cell_row rfl _ _ gb102 28 #[.slice A0_0 l0_0.length c0_0, .int .i64 a0_1] (0, 0) _ rfl (by (with_reducible repeat (first | refine q73kN ?_ _ | refine q73kD ?_ | refine q73kA ?_ _)); refine blk_put (cs := #[.slice A0_0 l0_0.length c0_0, .int .i64 0]) ?_ 1 _ rfl; (with_reducible repeat (first | refine q73kN ?_ _ | refine q73kD ?_ | refine q73kA ?_ _)); refine blk_put (cs := #[.slice none 0 0, .int .i64 0]) ?_ 0 _ rfl; (with_reducible repeat (first | refine q73kN ?_ _ | refine q73kD ?_ | refine q73kA ?_ _)); exact BK102.out) Try.underlying28 rfl qa6) rfl ?_
  exact ⟨_, qa10, by (with_reducible repeat (first | apply Kd.V_alloc | apply Kd.V_drewN | apply Kd.V_drew)); exact Kd.V_mono (Kd.V_far (p := ⟨gb102, 1, none⟩) (Kd.V_far (p := ⟨gb102, 0, none⟩) (Kd.V_mono HO0_0.out (fun k_ hk => (⟨hk, hk.2⟩ : _ ∧ k_ ≠ gb102))) (fun _ hk => hk.2) (.slice A0_0 l0_0.length c0_0)) (fun _ hk => hk.2) (.int .i64 a0_1)) (fun _ hk => hk.1.1.1), qa5⟩
 ·rw [if_neg c3] at H
  have c3b0 : ((l1.length : Int) == 0) = false := beq_eq_false_iff_ne.mpr c3; have c3b1 : ((l1.length : Int) != 0) = true := bne_iff_ne.mpr c3; have c3b2 : ¬ (l1 = []) := fun h_ => c3 (by rw [h_]; rfl)
  replace H := Option.bind_eq_some_iff.mp H; obtain ⟨⟨t103, t106⟩, A90, H⟩ := H; replace H : (spec_l06Write.l0 k l1 0 t103 (wrap64 (t106 + 1))) = some (r1, r2) := H; have A9 := q73O A90; clear A90; have H' := q73O H; clear H
  go_enter Try.func73, Try.ntmps73
  go_wp2_with (first | ((with_reducible refine gate_dst (N := 2) rfl ?_); (try (refine gate_guard (by rfl) ?_; dsimp only)); refine qX 2 #[.slice A0_0 l0_0.length c0_0, .int .i64 a0_1] 28 ?_; intro gb101 hg w10 hbox hb; have BK101 := q73O (hbox); have GW101 := q73O ((qa127 : w.heap.size ≤ gb101)); have GE101 := q73O ((qa127 : w.heap.size ≤ gb101)); replace HO0_0 := q73O (Kd.V_below (Kd.V_elderB qa135 gb101 (Nat.le_of_eq hg.symm)) hb); replace HB := q73O (below_step qa177 hb); clear hb hbox hg) | ((with_reducible refine gate_dst (N := 4) rfl ?_); (try (refine gate_guard (by rfl) ?_; dsimp only)); refine qX 4 #[.slice none 0 0, .int .i64 0] 28 ?_; intro gb102 hg w11 hbox hb; have BK102 := q73O (hbox); have GW102 := q73O ((qa104 : w.heap.size ≤ gb102)); have GE102 := q73O ((qa104 : w.heap.size ≤ gb102)); have NB101_102 := q73O ((qa142 : gb101 ≠ gb102)); have NB102_101 := q73O ((qa143 : gb102 ≠ gb101)); replace HO0_0 := q73O (Kd.V_below (Kd.V_elderB qa135 gb102 (Nat.le_of_eq hg.symm)) hb); replace BK101 := q73O (blk_below (g := gb101) (o := .cells #[.slice A0_0 l0_0.length c0_0, .int .i64 a0_1] 28 (0, 0)) qa26 hb); replace HB := q73O (below_step qa168 hb); clear hb hbox hg; have hnb12 := NB101_102.out; have hnc12 := NB102_101.out; obtain ⟨hcz13_0, hcz13_1, hfz13_0, hfz13_1⟩ := qb2 BK101.out) | ((with_reducible refine gate_callee (f := 72) rfl ?_); refine goesL_ (some 12) rfl rfl Try.func72 qa6 rfl #[.agg #[.slice A0_0 l0_0.length c0_0, .int .i64 a0_1]] rfl qa0 ?_; (with_reducible refine (spec_l06Own.calls k _ _ l0_0 a0_1 t103 t106 _ ?side1 ?side2 A9.out).mono ?_); (case side1 => repeat (first | exact (Kd.V_reads' HO0_0.out).2.2 | with_reducible first | refine Kd.C_alloc ?_ _ | refine Kd.C_drewN ?_ _ | refine Kd.C_drew ?_)); (case side2 => exact (Kd.V_reads' HO0_0.out).2.1); rintro e w14 ⟨v104, rfl, ho0, hb⟩; refine ⟨_, rfl, ?_⟩; have HO105 := q73O (Kd.N_lower (Kd.N_mono (ok' := fun k_ => (P0_0_ k_ ∨ w.heap.size ≤ k_) ∧ k_ ≠ gb101 ∧ k_ ≠ gb102) (Kd.S_N (Kd.S_bound ho0)) (fun k_ hk_ => ⟨(.inr (Nat.le_trans (below_size qa5) hk_.2.1)), (Kd.freshB (g := gb101) (o := .cells #[.slice A0_0 l0_0.length c0_0, .int .i64 a0_1] 28 (0, 0)) qa26 k_ hk_.2.1), (Kd.freshB (g := gb102) (o := .cells #[.slice none 0 0, .int .i64 0] 28 (0, 0)) qa28 k_ hk_.2.1)⟩)) (below_size qa5)); replace HO0_0 := q73O (Kd.V_elder' qa135 (Kd.S_base ho0) hb); replace BK101 := q73O (blk_below (g := gb101) (o := .cells #[.slice A0_0 l0_0.length c0_0, .int .i64 a0_1] 28 (0, 0)) qa26 hb); replace BK102 := q73O (blk_below (g := gb102) (o := .cells #[.slice none 0 0, .int .i64 0] 28 (0, 0)) qa28 hb); replace HB := q73O (below_step qa5 hb); (try clear hb); (try clear hb2); (try clear hk); (try clear hi); (try clear ho0); obtain ⟨Ao15, co15, eo15⟩ := Kd.N_slice HO105.out; subst eo15; obtain ⟨hcz16_0, hcz16_1, hfz16_0, hfz16_1⟩ := qb2 BK101.out))
  go_loopg [5] k (fun kq v5 w' => ∃ (x5_1 : Int) (x102000_1 : List (List (S43))) (u102000 : Value), v5 = .int .i64 x5_1 ∧ Aside0 (spec_l06Write.l0 kq l1 x5_1 x102000_1 (wrap64 (t106 + 1)) = some (r1, r2)) ∧ Aside0 (kq ≤ k) ∧ Aside0 (Kd.N (Kd.slice 43 k43) 41 w' w.heap.size (fun k_ => (P0_0_ k_ ∨ w.heap.size ≤ k_) ∧ k_ ≠ gb101 ∧ k_ ≠ gb102) u102000 x102000_1) ∧ Aside0 (w'.heap[gb101]? = some (.cells #[u102000, .int .i64 (wrap64 (t106 + 1))] 28 (0, 0))) ∧ Aside0 (w'.heap[gb102]? = some (.cells #[(.slice none 0 0), .int .i64 0] 28 (0, 0))) ∧ Aside0 (Below w.heap.size w w'))
  case atStart => exact ⟨(0), (t103), (.slice Ao15 t103.length co15), qa16, H', ⟨Nat.le_refl _⟩, ⟨by (with_reducible repeat (first | apply Kd.N_alloc | apply Kd.N_drewN | apply Kd.N_drew)); exact Kd.N_mono (Kd.N_far (p := ⟨gb101, 1, none⟩) (Kd.N_far (p := ⟨gb101, 1, none⟩) (Kd.N_far (p := ⟨gb101, 0, none⟩) (Kd.N_mono HO105.out (fun k_ hk => (⟨hk, hk.2.1⟩ : _ ∧ k_ ≠ gb101))) (fun _ hk => hk.2) (.slice Ao15 t103.length co15)) (fun _ hk => hk.2) (.int .i64 t106)) (fun _ hk => hk.2) (.int .i64 (wrap64 (t106 + 1)))) (fun _ hk => ⟨hk.1.1, ⟨hk.1.2.1, hk.1.2.2⟩⟩)⟩, ⟨by (with_reducible repeat (first | refine q73kN ?_ _ | refine q73kD ?_ | refine q73kA ?_ _)); refine blk_put (cs := #[.slice Ao15 t103.length co15, .int .i64 t106]) ?_ 1 _ rfl; (with_reducible repeat (first | refine q73kN ?_ _ | refine q73kD ?_ | refine q73kA ?_ _)); refine blk_put (cs := #[.slice Ao15 t103.length co15, .int .i64 a0_1]) ?_ 1 _ rfl; (with_reducible repeat (first | refine q73kN ?_ _ | refine q73kD ?_ | refine q73kA ?_ _)); refine blk_put (cs := #[.slice A0_0 l0_0.length c0_0, .int .i64 a0_1]) ?_ 0 _ rfl; (with_reducible repeat (first | refine q73kN ?_ _ | refine q73kD ?_ | refine q73kA ?_ _)); exact BK101.out⟩, ⟨by (with_reducible repeat (first | refine q73kN ?_ _ | refine q73kD ?_ | refine q73kA ?_ _)); refine blk_far ?_ NB102_101.out _; (with_reducible repeat (first | refine q73kN ?_ _ | refine q73kD ?_ | refine q73kA ?_ _)); refine blk_far ?_ NB102_101.out _; (with_reducible repeat (first | refine q73kN ?_ _ | refine q73kD ?_ | refine q73kA ?_ _)); refine blk_far ?_ NB102_101.out _; (with_reducible repeat (first | refine q73kN ?_ _ | refine q73kD ?_ | refine q73kA ?_ _)); exact BK102.out⟩, ⟨qa5⟩⟩
  case round =>
   clear H'
   try clear c1
   try clear p2
   try clear c3
   try clear c3b0
   try clear c3b1
   try clear c3b2
   try clear c6
   try clear p6
   try clear c7
   try clear c12
   try clear hcz13_0
   try clear hcz13_1
   try clear hcz16_0
   try clear hcz16_1
   try clear hcz7_0
   try clear hcz7_1
   try clear hcz8_0
   try clear hcz8_1
   try clear hfz13_0
   try clear hfz13_1
   try clear hfz16_0
   try clear hfz16_1
   try clear hfz7_0
   try clear hfz7_1
   try clear hfz8_0
   try clear hfz8_1
   obtain ⟨x5_1, x102000_1, u102000, rfl, HA, HK1, HO_102000, BK101, BK102, HB⟩ := hrel
   cases gk with
   | zero => exact absurd HA.out (by simp [spec_l06Write.l0])
   | succ k1 =>
    have H := HA.out; clear HA; simp only [spec_l06Write.l0] at H
    by_cases c17 : x5_1 < (l1.length : Int)
    ·rw [if_pos c17] at H
     have c17b0 : decide (x5_1 < (l1.length : Int)) = true := decide_eq_true c17; clear c17
     by_cases c18 : 0 ≤ x5_1
     ·rw [if_pos c18] at H
      have c18b0 : decide (0 ≤ x5_1) = true := decide_eq_true c18; clear c18
      by_cases c19 : 0 ≤ ((rd_T58 l1 x5_1).f0)
      ·rw [if_pos c19] at H
       have c19b0 : decide (0 ≤ ((rd_T58 l1 x5_1).f0)) = true := decide_eq_true c19; clear c19
       by_cases c20 : ((rd_T58 l1 x5_1).f0) < (x102000_1.length : Int)
       ·rw [if_pos c20] at H
        have c20b0 : decide (((rd_T58 l1 x5_1).f0) < (x102000_1.length : Int)) = true := decide_eq_true c20; clear c20
        by_cases c21 : ((rd_L4 x102000_1 ((rd_T58 l1 x5_1).f0)).length : Int) > 0
        ·rw [if_pos c21] at H
         have c21b0 : decide (0 < ((rd_L4 x102000_1 ((rd_T58 l1 x5_1).f0)).length : Int)) = true := decide_eq_true c21; have c21b1 : decide (0 < (rd_L4 x102000_1 ((rd_T58 l1 x5_1).f0)).length) = true := decide_eq_true qa34; clear c21; obtain ⟨ji22, hji22⟩ : ∃ j_ : Int, (wrap64 (((rd_L4 x102000_1 ((rd_T58 l1 x5_1).f0)).length : Int) - 1)) = j_ := ⟨_, rfl⟩; replace H : (if 0 ≤ (ji22) then (if (ji22) < ((rd_L4 x102000_1 ((rd_T58 l1 x5_1).f0)).length : Int) then (if ((rd_T43 (rd_L4 x102000_1 ((rd_T58 l1 x5_1).f0)) (ji22)).f0) = (wrap64 (t106 + 1)) then (if (ji22) ≤ ((rd_L4 x102000_1 ((rd_T58 l1 x5_1).f0)).length : Int) then ((some ((rd_L4 x102000_1 ((rd_T58 l1 x5_1).f0)).take ((ji22) : Int).toNat : List (S43))).bind fun y110 => ((some (([] : List (S43)) : List (S43))).bind fun y116 => (if y116.length + y110.length < 8796093022208 then ((some (y116 ++ y110 : List (S43))).bind fun y119 => ((some (([(⟨(wrap64 (t106 + 1)), (rd_T58 l1 x5_1).f1⟩ : S43)] : List (S43)) : List (S43))).bind fun y123 => (if y119.length + y123.length < 8796093022208 then (spec_l06Write.l0 k1 l1 (wrap64 (x5_1 + 1)) (x102000_1.set (((rd_T58 l1 x5_1).f0) : Int).toNat (y119 ++ y123)) (wrap64 (t106 + 1))) else (none)))) else (none)))) else (none)) else ((some (([] : List (S43)) : List (S43))).bind fun y131 => (if y131.length + (rd_L4 x102000_1 ((rd_T58 l1 x5_1).f0)).length < 8796093022208 then ((some (y131 ++ (rd_L4 x102000_1 ((rd_T58 l1 x5_1).f0)) : List (S43))).bind fun y134 => ((some (([(⟨(wrap64 (t106 + 1)), (rd_T58 l1 x5_1).f1⟩ : S43)] : List (S43)) : List (S43))).bind fun y138 => (if y134.length + y138.length < 8796093022208 then (spec_l06Write.l0 k1 l1 (wrap64 (x5_1 + 1)) (x102000_1.set (((rd_T58 l1 x5_1).f0) : Int).toNat (y134 ++ y138)) (wrap64 (t106 + 1))) else (none)))) else (none)))) else (none)) else (none)) = some (r1, r2) := by first | (rw [hji22] at H; exact H) | (simp only [hji22] at H ⊢; exact H)
         have hji22w : (IntKind.i64.wrap (((rd_L4 x102000_1 ((rd_T58 l1 x5_1).f0)).length : Int) - 1)) = ji22 := (i64_w _).trans hji22
         by_cases c23 : 0 ≤ (ji22)
         ·rw [if_pos c23] at H
          have c23b0 : decide (0 ≤ (ji22)) = true := decide_eq_true c23; clear c23
          by_cases c24 : (ji22) < ((rd_L4 x102000_1 ((rd_T58 l1 x5_1).f0)).length : Int)
          ·rw [if_pos c24] at H
           have c24b0 : decide ((ji22) < ((rd_L4 x102000_1 ((rd_T58 l1 x5_1).f0)).length : Int)) = true := decide_eq_true c24; clear c24
           by_cases c25 : ((rd_T43 (rd_L4 x102000_1 ((rd_T58 l1 x5_1).f0)) (ji22)).f0) = (wrap64 (t106 + 1))
           ·rw [if_pos c25] at H
            have c25b0 : (((rd_T43 (rd_L4 x102000_1 ((rd_T58 l1 x5_1).f0)) (ji22)).f0) == (wrap64 (t106 + 1))) = true := beq_iff_eq.mpr c25; have c25b1 : (((rd_T43 (rd_L4 x102000_1 ((rd_T58 l1 x5_1).f0)) (ji22)).f0) != (wrap64 (t106 + 1))) = false := bne_eq_false_iff_eq.mpr c25; clear c25; have c26b0 := eq_true (q73T qa138 : 0 ≤ (ji22))
            by_cases c27 : (ji22) ≤ ((rd_L4 x102000_1 ((rd_T58 l1 x5_1).f0)).length : Int)
            ·rw [if_pos c27] at H
             have c27b0 := eq_true c27; have c27b1 : decide ((ji22) ≤ ((rd_L4 x102000_1 ((rd_T58 l1 x5_1).f0)).length : Int)) = true := decide_eq_true c27; clear c27; obtain ⟨y110, hy110⟩ : ∃ y_ : List (S43), y_ = ((rd_L4 x102000_1 ((rd_T58 l1 x5_1).f0)).take ((ji22) : Int).toNat) := ⟨_, rfl⟩; replace H : ((some (([] : List (S43)) : List (S43))).bind fun y116 => (if y116.length + y110.length < 8796093022208 then ((some (y116 ++ y110 : List (S43))).bind fun y119 => ((some (([(⟨(wrap64 (t106 + 1)), (rd_T58 l1 x5_1).f1⟩ : S43)] : List (S43)) : List (S43))).bind fun y123 => (if y119.length + y123.length < 8796093022208 then (spec_l06Write.l0 k1 l1 (wrap64 (x5_1 + 1)) (x102000_1.set (((rd_T58 l1 x5_1).f0) : Int).toNat (y119 ++ y123)) (wrap64 (t106 + 1))) else (none)))) else (none))) = some (r1, r2) := by first | (rw [hy110]; with_reducible exact H) | (have H2_ := (Option.bind_some _ _).symm.trans H; rw [hy110]; with_reducible exact H2_) | (have H2_ := (Option.bind_some _ _).symm.trans H; with_reducible exact H2_) | with_reducible exact H | (rw [hy110]; exact H) | exact H
             have Ny110 := q73O hy110; clear hy110; obtain ⟨y116, hy116⟩ : ∃ y_ : List (S43), y_ = (([] : List (S43))) := ⟨_, rfl⟩; replace H : (if y116.length + y110.length < 8796093022208 then ((some (y116 ++ y110 : List (S43))).bind fun y119 => ((some (([(⟨(wrap64 (t106 + 1)), (rd_T58 l1 x5_1).f1⟩ : S43)] : List (S43)) : List (S43))).bind fun y123 => (if y119.length + y123.length < 8796093022208 then (spec_l06Write.l0 k1 l1 (wrap64 (x5_1 + 1)) (x102000_1.set (((rd_T58 l1 x5_1).f0) : Int).toNat (y119 ++ y123)) (wrap64 (t106 + 1))) else (none)))) else (none)) = some (r1, r2) := by first | (rw [hy116]; with_reducible exact H) | (have H2_ := (Option.bind_some _ _).symm.trans H; rw [hy116]; with_reducible exact H2_) | (have H2_ := (Option.bind_some _ _).symm.trans H; with_reducible exact H2_) | with_reducible exact H | (rw [hy116]; exact H) | exact H
             have Ny116 := q73O hy116; clear hy116
             by_cases c28 : y116.length + y110.length < 8796093022208
             ·rw [if_pos c28] at H
              have LMc28 := q73O c28; clear c28; obtain ⟨y119, hy119⟩ : ∃ y_ : List (S43), y_ = (y116 ++ y110) := ⟨_, rfl⟩; replace H : ((some (([(⟨(wrap64 (t106 + 1)), (rd_T58 l1 x5_1).f1⟩ : S43)] : List (S43)) : List (S43))).bind fun y123 => (if y119.length + y123.length < 8796093022208 then (spec_l06Write.l0 k1 l1 (wrap64 (x5_1 + 1)) (x102000_1.set (((rd_T58 l1 x5_1).f0) : Int).toNat (y119 ++ y123)) (wrap64 (t106 + 1))) else (none))) = some (r1, r2) := by first | (rw [hy119]; with_reducible exact H) | (have H2_ := (Option.bind_some _ _).symm.trans H; rw [hy119]; with_reducible exact H2_) | (have H2_ := (Option.bind_some _ _).symm.trans H; with_reducible exact H2_) | with_reducible exact H | (rw [hy119]; exact H) | exact H
              have Ny119 := q73O hy119; clear hy119; obtain ⟨y123, hy123⟩ : ∃ y_ : List (S43), y_ = (([(⟨(wrap64 (t106 + 1)), (rd_T58 l1 x5_1).f1⟩ : S43)] : List (S43))) := ⟨_, rfl⟩; replace H : (if y119.length + y123.length < 8796093022208 then (spec_l06Write.l0 k1 l1 (wrap64 (x5_1 + 1)) (x102000_1.set (((rd_T58 l1 x5_1).f0) : Int).toNat (y119 ++ y123)) (wrap64 (t106 + 1))) else (none)) = some (r1, r2) := by first | (rw [hy123]; with_reducible exact H) | (have H2_ := (Option.bind_some _ _).symm.trans H; rw [hy123]; with_reducible exact H2_) | (have H2_ := (Option.bind_some _ _).symm.trans H; with_reducible exact H2_) | with_reducible exact H | (rw [hy123]; exact H) | exact H
              have Ny123 := q73O hy123; clear hy123
              by_cases c29 : y119.length + y123.length < 8796093022208
              ·rw [if_pos c29] at H
               have LMc29 := q73O c29; clear c29; obtain ⟨y126, hy126⟩ : ∃ y_ : List (S43), y_ = (y119 ++ y123) := ⟨_, rfl⟩; replace H : (spec_l06Write.l0 k1 l1 (wrap64 (x5_1 + 1)) (x102000_1.set (((rd_T58 l1 x5_1).f0) : Int).toNat y126) (wrap64 (t106 + 1))) = some (r1, r2) := by first | (rw [hy126]; with_reducible exact H) | (have H2_ := (Option.bind_some _ _).symm.trans H; rw [hy126]; with_reducible exact H2_) | (have H2_ := (Option.bind_some _ _).symm.trans H; with_reducible exact H2_) | with_reducible exact H | (rw [hy126]; exact H) | exact H
               have Ny126 := q73O hy126; clear hy126; obtain ⟨y129, hy129⟩ : ∃ y_ : List (List (S43)), y_ = (x102000_1.set (((rd_T58 l1 x5_1).f0) : Int).toNat y126) := ⟨_, rfl⟩; replace H : (spec_l06Write.l0 k1 l1 (wrap64 (x5_1 + 1)) y129 (wrap64 (t106 + 1))) = some (r1, r2) := by first | (rw [hy129]; with_reducible exact H) | (have H2_ := (Option.bind_some _ _).symm.trans H; rw [hy129]; with_reducible exact H2_) | (have H2_ := (Option.bind_some _ _).symm.trans H; with_reducible exact H2_) | with_reducible exact H | (rw [hy129]; exact H) | exact H
               have Ny129 := q73O hy129; clear hy129; have H' := q73O H; clear H
               try go_wp2
               replace HO_102000 := q73O (Kd.N_drew HO_102000.out); replace BK101 := q73O (q73kD BK101.out); replace BK102 := q73O (q73kD BK102.out); replace HB := q73O (q73bD HB.out); have p107 : 0 ≤ (x5_1 : Int) := q73T qa138; have q107 : x5_1 < (l1.length : Int) := q73T qa138; obtain ⟨ad107, e107, hx107_0, hx107_1⟩ := at_T58 HR1.out x5_1 p107 q107; have hw107_1 := hx107_1; have hw107_0 := hx107_0
               cases e107
               replace hx107_0 := (HB.out.cell (q73L w _ hx107_0)).trans hx107_0; replace hx107_1 := (HB.out.cell (q73L w _ hx107_1)).trans hx107_1; replace p107 := eq_true p107; replace q107 := eq_true q107; obtain ⟨Ao32, co32, eo32⟩ := Kd.N_slice HO_102000.out; (first | subst eo32 | (injection eo32 with f1_ f2_ f3_; have f4_ := f1_.symm; have f5_ := f3_.symm; clear f1_ f2_ f3_; subst f4_; subst f5_)); have p108 : 0 ≤ (((rd_T58 l1 x5_1).f0) : Int) := q73T qa138; have q108 : ((rd_T58 l1 x5_1).f0) < (x102000_1.length : Int) := q73T qa138; obtain ⟨ad108, A108_0, c108_0, e108, hx108_0, hl108_0, hi108_0⟩ := at_L4 (Kd.N_reads' HO_102000.out).2.2 ((rd_T58 l1 x5_1).f0) p108 q108
               cases e108
               obtain ⟨ce108, hce108, hMe108, hcc108⟩ := Kd.N_get HO_102000.out [] ((rd_T58 l1 x5_1).f0) p108 qa161; obtain ⟨ua108_0, uc108_0, rfl, ul108_0, ge108_0⟩ := Kd.FK_slice_open hMe108; have hv108_0 := hcc108 0 _ rfl; rw [Nat.add_zero, show ((Kd.slice 43 k43)).sz = 1 from rfl, Nat.mul_one] at hv108_0; replace hv108_0 := Option.some.inj (hv108_0.symm.trans hx108_0); injection hv108_0 with hva_ hvn_ hvc_; rw [hva_] at ge108_0; rw [hvc_] at ul108_0; have HL108_0 := q73O (show Kd.V k43 43 _ w.heap.size _ _ (rd_L4 x102000_1 ((rd_T58 l1 x5_1).f0)) from Kd.V_mk ul108_0 ge108_0); clear hva_ hvn_ hvc_ ge108_0 ul108_0 hcc108 hce108; have HR108_0 := q73O hi108_0; have HC108_0 := q73O hl108_0; clear hi108_0 hl108_0; replace p108 := eq_true p108; replace q108 := eq_true q108; refine start_ (n := 10) (S := fun w' => w'.cell? ⟨gb101, 0, none⟩ = some (.slice (some ad108) x102000_1.length co32) ∧ w'.cell? ⟨gb101, 1, none⟩ = some (.int .i64 (wrap64 (t106 + 1))) ∧ w'.cell? (ad107.add ((x5_1).toNat * 2)) = some (.int .i64 ((rd_T58 l1 x5_1).f0)) ∧ w'.cell? ⟨(ad107.add ((x5_1).toNat * 2)).block, (ad107.add ((x5_1).toNat * 2)).off + 1, none⟩ = some (.int .i64 ((rd_T58 l1 x5_1).f1)) ∧ w'.cell? (ad108.add (((rd_T58 l1 x5_1).f0)).toNat) = some (.slice A108_0 (rd_L4 x102000_1 ((rd_T58 l1 x5_1).f0)).length c108_0)) (ds := []) q73y0 qa6 rfl rfl ⟨qc0 BK101.out, qc1 BK101.out, ((HB.out.cell (q73L w _ hw107_0)).trans hw107_0), ((HB.out.cell (q73L w _ hw107_1)).trans hw107_1), hx108_0⟩ (fun hHeld => ?_); refine with_tabW spec_l06Write.tab8 spec_l06Write.bits8 (fun HT_ HW_ => ?_); generalize wr.drew = w31 at HO_102000 BK101 BK102 HB HL108_0 HR108_0 hx107_0 hx107_1 hx108_0 hHeld ⊢; refine pure_ (i := 0) (N := some 23) (v := ?_) (a' := ?_) q73y1 rfl rfl (any_of HT_.out qa6) (fun _ _ _ h => h) (Or.inl ⟨by rfl, ?_⟩) ?_ ?_; rotate_left
               ·intro w'
                go_simp; (with_reducible rfl)
               rotate_left
               ·simp only [Act.put, q73zA, q73zB, q73zC, i64_w, i32_w]
                rfl
               refine pure_ (i := 2) (N := some 25) (v := ?_) (a' := ?_) q73y2 rfl rfl (any_of HT_.out qa6) (fun _ _ _ h => h) (Or.inl ⟨by rfl, ?_⟩) ?_ ?_; rotate_left
               ·intro w'
                go_simp; (with_reducible rfl)
               rotate_left
               ·simp only [Act.put, q73zA, q73zB, q73zC, i64_w, i32_w]
                rfl
               refine pure_ (i := 3) (N := some 26) (v := ?_) (a' := ?_) q73y3 rfl rfl (any_of HT_.out qa6) (fun _ _ _ h => h) (Or.inl ⟨by rfl, ?_⟩) ?_ ?_; rotate_left
               ·intro w'
                go_simp; (with_reducible rfl)
               rotate_left
               ·simp only [Act.put, q73zA, q73zB, q73zC, i64_w, i32_w]
                rfl
               refine pure_ (i := 4) (N := some 27) (v := ?_) (a' := ?_) q73y4 rfl rfl (any_of HT_.out qa6) (fun _ _ _ h => h) (Or.inl ⟨by rfl, ?_⟩) ?_ ?_; rotate_left
               ·intro w'
                go_simp; (with_reducible rfl)
               rotate_left
               ·simp only [Act.put, q73zA, q73zB, q73zC, i64_w, i32_w]
                rfl
               refine pure_ (i := 5) (N := some 28) (v := ?_) (a' := ?_) q73y5 rfl rfl (any_of HT_.out qa6) (fun _ _ _ h => h) (Or.inl ⟨by rfl, ?_⟩) ?_ ?_; rotate_left
               ·intro w'
                go_simp; (with_reducible rfl)
               rotate_left
               ·simp only [Act.put, q73zA, q73zB, q73zC, i64_w, i32_w]
                rfl
               refine take_ (i := 1) (N := some 24) (v := ?_) (a' := ?_) q73y6 rfl rfl (take_ofW HT_.out HW_.out qa6) (fun _ _ _ h => h) (Or.inl ⟨by rfl, ?_⟩) hHeld ?_ ?_; rotate_left
               ·rintro w' ⟨s0, s1, s2, s3, s4⟩
                go_simp; (with_reducible rfl)
               rotate_left
               ·simp only [Act.put, q73zA, q73zB, q73zC, i64_w, i32_w]
                rfl
               refine take_ (i := 6) (N := some 29) (v := ?_) (a' := ?_) q73y7 rfl rfl (take_ofW HT_.out HW_.out qa6) (fun _ _ _ h => h) (Or.inl ⟨by rfl, ?_⟩) hHeld ?_ ?_; rotate_left
               ·rintro w' ⟨s0, s1, s2, s3, s4⟩
                go_simp; (with_reducible rfl)
               rotate_left
               ·simp only [Act.put, q73zA, q73zB, q73zC, i64_w, i32_w]
                rfl
               refine pure_ (i := 7) (N := some 30) (v := ?_) (a' := ?_) q73y8 rfl rfl (any_of HT_.out qa6) (fun _ _ _ h => h) (Or.inl ⟨by rfl, ?_⟩) ?_ ?_; rotate_left
               ·intro w'
                go_simp; (with_reducible rfl)
               rotate_left
               ·simp only [Act.put, q73zA, q73zB, q73zC, i64_w, i32_w]
                rfl
               refine take_ (i := 8) (N := some 31) (v := ?_) (a' := ?_) q73y9 rfl rfl (take_ofW HT_.out HW_.out qa6) (fun _ _ _ h => h) (Or.inl ⟨by rfl, ?_⟩) hHeld ?_ ?_; rotate_left
               ·rintro w' ⟨s0, s1, s2, s3, s4⟩
                go_simp; (with_reducible rfl)
               rotate_left
               ·simp only [Act.put, q73zA, q73zB, q73zC, i64_w, i32_w]
                rfl
               refine pure_ (i := 9) (N := some 6) (v := ?_) (a' := ?_) q73y10 rfl rfl (any_of HT_.out qa6) (fun _ _ _ h => h) (Or.inl ⟨by rfl, ?_⟩) ?_ ?_; rotate_left
               ·intro w'
                go_simp; (with_reducible rfl)
               rotate_left
               ·simp only [Act.put, q73zA, q73zB, q73zC, i64_w, i32_w]
                rfl
               refine done_ (done_of HT_.out qa6) ?_
               try go_wp2
               replace HO_102000 := q73O (Kd.N_drew HO_102000.out); replace HL108_0 := q73O (Kd.V_drew HL108_0.out); replace BK101 := q73O (q73kD BK101.out); replace BK102 := q73O (q73kD BK102.out); replace HR108_0 := q73O (Kd.C_drew HR108_0.out); replace HB := q73O (q73bD HB.out); have p109 : 0 ≤ ((ji22) : Int) := q73T qa138; have q109 : (ji22) < ((rd_L4 x102000_1 ((rd_T58 l1 x5_1).f0)).length : Int) := q73T qa138; obtain ⟨ad109, e109, hx109_0, hx109_1⟩ := at_T43 qa24 (ji22) p109 q109
               cases e109
               replace p109 := eq_true p109; replace q109 := eq_true q109; refine start_ (n := 15) (S := fun w' => w'.cell? ⟨gb101, 0, none⟩ = some (.slice (some ad108) x102000_1.length co32) ∧ w'.cell? ⟨gb101, 1, none⟩ = some (.int .i64 (wrap64 (t106 + 1))) ∧ w'.cell? (ad109.add (((ji22)).toNat * 2)) = some (.int .i64 ((rd_T43 (rd_L4 x102000_1 ((rd_T58 l1 x5_1).f0)) (ji22)).f0)) ∧ w'.cell? ⟨(ad109.add (((ji22)).toNat * 2)).block, (ad109.add (((ji22)).toNat * 2)).off + 1, none⟩ = some (.int .i64 ((rd_T43 (rd_L4 x102000_1 ((rd_T58 l1 x5_1).f0)) (ji22)).f1))) (ds := []) q73y11 qa6 rfl rfl ⟨qc0 BK101.out, qc1 BK101.out, hx109_0, hx109_1⟩ (fun hHeld => ?_); refine with_tabW spec_l06Write.tab9 spec_l06Write.bits9 (fun HT_ HW_ => ?_); generalize w31.drew = w33 at HO_102000 HL108_0 BK101 BK102 HR108_0 HB hx109_0 hx109_1 hHeld ⊢; refine pure_ (i := 0) (N := some 32) (v := ?_) (a' := ?_) q73y12 rfl rfl (any_of HT_.out qa6) (fun _ _ _ h => h) (Or.inl ⟨by rfl, ?_⟩) ?_ ?_; rotate_left
               ·intro w'
                go_simp; (with_reducible rfl)
               rotate_left
               ·simp only [Act.put, q73zA, q73zB, q73zC, i64_w, i32_w]
                rfl
               refine pure_ (i := 1) (N := some 33) (v := ?_) (a' := ?_) q73y13 rfl rfl (any_of HT_.out qa6) (fun _ _ _ h => h) (Or.inl ⟨by rfl, ?_⟩) ?_ ?_; rotate_left
               ·intro w'
                go_simp; (with_reducible rfl)
               rotate_left
               ·simp only [Act.put, q73zA, q73zB, q73zC, i64_w, i32_w]
                rfl
               refine pure_ (i := 2) (N := some 34) (v := ?_) (a' := ?_) q73y14 rfl rfl (any_of HT_.out qa6) (fun _ _ _ h => h) (Or.inl ⟨by rfl, ?_⟩) ?_ ?_; rotate_left
               ·intro w'
                go_simp; (with_reducible rfl)
               rotate_left
               ·simp only [Act.put, q73zA, q73zB, q73zC, i64_w, i32_w]
                rfl
               refine pure_ (i := 3) (N := some 35) (v := ?_) (a' := ?_) q73y15 rfl rfl (any_of HT_.out qa6) (fun _ _ _ h => h) (Or.inl ⟨by rfl, ?_⟩) ?_ ?_; rotate_left
               ·intro w'
                go_simp; (with_reducible rfl)
               rotate_left
               ·simp only [Act.put, q73zA, q73zB, q73zC, i64_w, i32_w]
                rfl
               refine pure_ (i := 4) (N := some 36) (v := ?_) (a' := ?_) q73y16 rfl rfl (any_of HT_.out qa6) (fun _ _ _ h => h) (Or.inl ⟨by rfl, ?_⟩) ?_ ?_; rotate_left
               ·intro w'
                go_simp; (with_reducible rfl)
               rotate_left
               ·simp only [Act.put, q73zA, q73zB, q73zC, i64_w, i32_w]
                rfl
               refine pure_ (i := 5) (N := some 37) (v := ?_) (a' := ?_) q73y17 rfl rfl (any_of HT_.out qa6) (fun _ _ _ h => h) (Or.inl ⟨by rfl, ?_⟩) ?_ ?_; rotate_left
               ·intro w'
                go_simp; (with_reducible rfl)
               rotate_left
               ·simp only [Act.put, q73zA, q73zB, q73zC, i64_w, i32_w]
                rfl
               refine pure_ (i := 6) (N := some 38) (v := ?_) (a' := ?_) q73y18 rfl rfl (any_of HT_.out qa6) (fun _ _ _ h => h) (Or.inl ⟨by rfl, ?_⟩) ?_ ?_; rotate_left
               ·intro w'
                go_simp; (with_reducible rfl)
               rotate_left
               ·simp only [Act.put, q73zA, q73zB, q73zC, i64_w, i32_w]
                rfl
               refine pure_ (i := 7) (N := some 39) (v := ?_) (a' := ?_) q73y19 rfl rfl (any_of HT_.out qa6) (fun _ _ _ h => h) (Or.inl ⟨by rfl, ?_⟩) ?_ ?_; rotate_left
               ·intro w'
                go_simp; (with_reducible rfl)
               rotate_left
               ·simp only [Act.put, q73zA, q73zB, q73zC, i64_w, i32_w]
                rfl
               refine pure_ (i := 8) (N := some 40) (v := ?_) (a' := ?_) q73y20 rfl rfl (any_of HT_.out qa6) (fun _ _ _ h => h) (Or.inl ⟨by rfl, ?_⟩) ?_ ?_; rotate_left
               ·intro w'
                go_simp; (with_reducible rfl)
               rotate_left
               ·simp only [Act.put, q73zA, q73zB, q73zC, i64_w, i32_w]
                rfl
               refine pure_ (i := 9) (N := some 41) (v := ?_) (a' := ?_) q73y21 rfl rfl (any_of HT_.out qa6) (fun _ _ _ h => h) (Or.inl ⟨by rfl, ?_⟩) ?_ ?_; rotate_left
               ·intro w'
                go_simp; (with_reducible rfl)
               rotate_left
               ·simp only [Act.put, q73zA, q73zB, q73zC, i64_w, i32_w]
                rfl
               refine pure_ (i := 11) (N := some 43) (v := ?_) (a' := ?_) q73y22 rfl rfl (any_of HT_.out qa6) (fun _ _ _ h => h) (Or.inl ⟨by rfl, ?_⟩) ?_ ?_; rotate_left
               ·intro w'
                go_simp; (with_reducible rfl)
               rotate_left
               ·simp only [Act.put, q73zA, q73zB, q73zC, i64_w, i32_w]
                rfl
               refine take_ (i := 10) (N := some 42) (v := ?_) (a' := ?_) q73y23 rfl rfl (take_ofW HT_.out HW_.out qa6) (fun _ _ _ h => h) (Or.inl ⟨by rfl, ?_⟩) hHeld ?_ ?_; rotate_left
               ·rintro w' ⟨s0, s1, s2, s3⟩
                go_simp; (with_reducible rfl)
               rotate_left
               ·simp only [Act.put, q73zA, q73zB, q73zC, i64_w, i32_w]
                rfl
               refine take_ (i := 12) (N := some 44) (v := ?_) (a' := ?_) q73y24 rfl rfl (take_ofW HT_.out HW_.out qa6) (fun _ _ _ h => h) (Or.inl ⟨by rfl, ?_⟩) hHeld ?_ ?_; rotate_left
               ·rintro w' ⟨s0, s1, s2, s3⟩
                go_simp; (with_reducible rfl)
               rotate_left
               ·simp only [Act.put, q73zA, q73zB, q73zC, i64_w, i32_w]
                rfl
               refine pure_ (i := 13) (N := some 45) (v := ?_) (a' := ?_) q73y25 rfl rfl (any_of HT_.out qa6) (fun _ _ _ h => h) (Or.inl ⟨by rfl, ?_⟩) ?_ ?_; rotate_left
               ·intro w'
                go_simp; (with_reducible rfl)
               rotate_left
               ·simp only [Act.put, q73zA, q73zB, q73zC, i64_w, i32_w]
                rfl
               refine pure_ (i := 14) (N := some 46) (v := ?_) (a' := ?_) q73y26 rfl rfl (any_of HT_.out qa6) (fun _ _ _ h => h) (Or.inl ⟨by rfl, ?_⟩) ?_ ?_; rotate_left
               ·intro w'
                go_simp; (with_reducible rfl)
               rotate_left
               ·simp only [Act.put, q73zA, q73zB, q73zC, i64_w, i32_w]
                rfl
               refine done_ (done_of HT_.out qa6) ?_; have q34 : ((ji22) : Int) ≤ (((rd_L4 x102000_1 ((rd_T58 l1 x5_1).f0)).length : Int) : Int) := q73T qa138; obtain ⟨i034, hi034, _, hsz34, _⟩ := info_parts info43; have hroom34 : (rd_L4 x102000_1 ((rd_T58 l1 x5_1).f0)).length ≤ c108_0 := HC108_0.out; have hC34 : Kd.F k43 _ _ (some ad109) (rd_L4 x102000_1 ((rd_T58 l1 x5_1).f0)).length (rd_L4 x102000_1 ((rd_T58 l1 x5_1).f0)) := (Kd.V_at (base := w.heap.size) HL108_0.out).2.2; have hcut34 := cut_to (P := Try.prog) 41 43 .i64 Try.underlying41 hi034 (some ad109) (rd_L4 x102000_1 ((rd_T58 l1 x5_1).f0)).length c108_0 (ji22) (q73T qa138) q34 hroom34; have hr34 := Kd.F_take (m := ((ji22) : Int).toNat) hC34 qa34; have hy34 : y110.length = ((ji22) : Int).toNat := (by rw [Ny110.out, List.length_take]; omega); rw [← Ny110.out] at hr34; rw [← hy34] at hcut34; have HO114 := q73O (show Kd.V k43 43 _ w.heap.size _ (.slice (some ad109) y110.length c108_0) y110 from Kd.V_mk qa34 hr34); have HC114 := q73O (show y110.length ≤ c108_0 from by omega); clear hr34 hC34 hroom34 hi034 hsz34; have KY34 := q73O hy34; clear hy34; replace q34 := eq_true q34
               try go_wp2
               replace HO_102000 := q73O (Kd.N_drew HO_102000.out); replace HL108_0 := q73O (Kd.V_drew HL108_0.out); replace HO114 := q73O (Kd.V_drew HO114.out); replace BK101 := q73O (q73kD BK101.out); replace BK102 := q73O (q73kD BK102.out); replace HR108_0 := q73O (Kd.C_drew HR108_0.out); replace HB := q73O (q73bD HB.out); have p115 : 0 ≤ (x5_1 : Int) := q73T qa138; have q115 : x5_1 < (l1.length : Int) := q73T qa138; obtain ⟨ad115, e115, hx115_0, hx115_1⟩ := at_T58 HR1.out x5_1 p115 q115; have hw115_1 := hx115_1; have hw115_0 := hx115_0; obtain rfl : ad107 = ad115 := (by injection e115); replace hx115_0 := (HB.out.cell (q73L w _ hx115_0)).trans hx115_0; replace hx115_1 := (HB.out.cell (q73L w _ hx115_1)).trans hx115_1; replace p115 := eq_true p115; replace q115 := eq_true q115; have p122 : 0 ≤ (x5_1 : Int) := q73T qa138; have q122 : x5_1 < (l1.length : Int) := q73T qa138; obtain ⟨ad122, e122, hx122_0, hx122_1⟩ := at_T58 HR1.out x5_1 p122 q122; have hw122_1 := hx122_1; have hw122_0 := hx122_0; obtain rfl : ad107 = ad122 := (by injection e122); replace hx122_0 := (HB.out.cell (q73L w _ hx122_0)).trans hx122_0; replace hx122_1 := (HB.out.cell (q73L w _ hx122_1)).trans hx122_1; replace p122 := eq_true p122; replace q122 := eq_true q122; refine start_ (n := 22) (S := fun w' => w'.cell? ⟨gb101, 0, none⟩ = some (.slice (some ad108) x102000_1.length co32) ∧ w'.cell? ⟨gb101, 1, none⟩ = some (.int .i64 (wrap64 (t106 + 1))) ∧ w'.cell? (ad107.add ((x5_1).toNat * 2)) = some (.int .i64 ((rd_T58 l1 x5_1).f0)) ∧ w'.cell? ⟨(ad107.add ((x5_1).toNat * 2)).block, (ad107.add ((x5_1).toNat * 2)).off + 1, none⟩ = some (.int .i64 ((rd_T58 l1 x5_1).f1)) ∧ w'.cell? (ad107.add ((x5_1).toNat * 2)) = some (.int .i64 ((rd_T58 l1 x5_1).f0)) ∧ w'.cell? ⟨(ad107.add ((x5_1).toNat * 2)).block, (ad107.add ((x5_1).toNat * 2)).off + 1, none⟩ = some (.int .i64 ((rd_T58 l1 x5_1).f1))) (ds := [21]) q73y27 qa6 rfl rfl ⟨qc0 BK101.out, qc1 BK101.out, ((HB.out.cell (q73L w _ hw115_0)).trans hw115_0), ((HB.out.cell (q73L w _ hw115_1)).trans hw115_1), ((HB.out.cell (q73L w _ hw122_0)).trans hw122_0), ((HB.out.cell (q73L w _ hw122_1)).trans hw122_1)⟩ (fun hHeld => ?_); refine with_tabW spec_l06Write.tab11 spec_l06Write.bits11 (fun HT_ HW_ => ?_); generalize w33.drew = w35 at HO_102000 HL108_0 HO114 BK101 BK102 HR108_0 HB hx115_0 hx115_1 hx122_0 hx122_1 hHeld ⊢; refine pure_ (i := 0) (N := some 52) (v := ?_) (a' := ?_) q73y28 rfl rfl (any_of HT_.out qa6) (fun _ _ _ h => h) (Or.inl ⟨by rfl, ?_⟩) ?_ ?_; rotate_left
               ·intro w'
                go_simp; (with_reducible rfl)
               rotate_left
               ·simp only [Act.put, q73zA, q73zB, q73zC, i64_w, i32_w]
                rfl
               refine pure_ (i := 2) (N := some 54) (v := ?_) (a' := ?_) q73y29 rfl rfl (any_of HT_.out qa6) (fun _ _ _ h => h) (Or.inl ⟨by rfl, ?_⟩) ?_ ?_; rotate_left
               ·intro w'
                go_simp; (with_reducible rfl)
               rotate_left
               ·simp only [Act.put, q73zA, q73zB, q73zC, i64_w, i32_w]
                rfl
               refine pure_ (i := 3) (N := some 55) (v := ?_) (a' := ?_) q73y30 rfl rfl (any_of HT_.out qa6) (fun _ _ _ h => h) (Or.inl ⟨by rfl, ?_⟩) ?_ ?_; rotate_left
               ·intro w'
                go_simp; (with_reducible rfl)
               rotate_left
               ·simp only [Act.put, q73zA, q73zB, q73zC, i64_w, i32_w]
                rfl
               refine pure_ (i := 4) (N := some 56) (v := ?_) (a' := ?_) q73y31 rfl rfl (any_of HT_.out qa6) (fun _ _ _ h => h) (Or.inl ⟨by rfl, ?_⟩) ?_ ?_; rotate_left
               ·intro w'
                go_simp; (with_reducible rfl)
               rotate_left
               ·simp only [Act.put, q73zA, q73zB, q73zC, i64_w, i32_w]
                rfl
               refine pure_ (i := 5) (N := some 57) (v := ?_) (a' := ?_) q73y32 rfl rfl (any_of HT_.out qa6) (fun _ _ _ h => h) (Or.inl ⟨by rfl, ?_⟩) ?_ ?_; rotate_left
               ·intro w'
                go_simp; (with_reducible rfl)
               rotate_left
               ·simp only [Act.put, q73zA, q73zB, q73zC, i64_w, i32_w]
                rfl
               refine pure_ (i := 8) (N := some 60) (v := ?_) (a' := ?_) q73y33 rfl rfl (any_of HT_.out qa6) (fun _ _ _ h => h) (Or.inl ⟨by rfl, ?_⟩) ?_ ?_; rotate_left
               ·intro w'
                go_simp; (with_reducible rfl)
               rotate_left
               ·simp only [Act.put, q73zA, q73zB, q73zC, i64_w, i32_w]
                rfl
               refine pure_ (i := 10) (N := some 62) (v := ?_) (a' := ?_) q73y34 rfl rfl (any_of HT_.out qa6) (fun _ _ _ h => h) (Or.inl ⟨by rfl, ?_⟩) ?_ ?_; rotate_left
               ·intro w'
                go_simp; (with_reducible rfl)
               rotate_left
               ·simp only [Act.put, q73zA, q73zB, q73zC, i64_w, i32_w]
                rfl
               refine pure_ (i := 12) (N := some 64) (v := ?_) (a' := ?_) q73y35 rfl rfl (any_of HT_.out qa6) (fun _ _ _ h => h) (Or.inl ⟨by rfl, ?_⟩) ?_ ?_; rotate_left
               ·intro w'
                go_simp; (with_reducible rfl)
               rotate_left
               ·simp only [Act.put, q73zA, q73zB, q73zC, i64_w, i32_w]
                rfl
               refine pure_ (i := 13) (N := some 65) (v := ?_) (a' := ?_) q73y36 rfl rfl (any_of HT_.out qa6) (fun _ _ _ h => h) (Or.inl ⟨by rfl, ?_⟩) ?_ ?_; rotate_left
               ·intro w'
                go_simp; (with_reducible rfl)
               rotate_left
               ·simp only [Act.put, q73zA, q73zB, q73zC, i64_w, i32_w]
                rfl
               refine pure_ (i := 14) (N := some 66) (v := ?_) (a' := ?_) q73y37 rfl rfl (any_of HT_.out qa6) (fun _ _ _ h => h) (Or.inl ⟨by rfl, ?_⟩) ?_ ?_; rotate_left
               ·intro w'
                go_simp; (with_reducible rfl)
               rotate_left
               ·simp only [Act.put, q73zA, q73zB, q73zC, i64_w, i32_w]
                rfl
               refine pure_ (i := 15) (N := some 67) (v := ?_) (a' := ?_) q73y38 rfl rfl (any_of HT_.out qa6) (fun _ _ _ h => h) (Or.inl ⟨by rfl, ?_⟩) ?_ ?_; rotate_left
               ·intro w'
                go_simp; (with_reducible rfl)
               rotate_left
               ·simp only [Act.put, q73zA, q73zB, q73zC, i64_w, i32_w]
                rfl
               refine take_ (i := 1) (N := some 53) (v := ?_) (a' := ?_) q73y39 rfl rfl (take_ofW HT_.out HW_.out qa6) (fun _ _ _ h => h) (Or.inl ⟨by rfl, ?_⟩) hHeld ?_ ?_; rotate_left
               ·rintro w' ⟨s0, s1, s2, s3, s4, s5⟩
                go_simp; (with_reducible rfl)
               rotate_left
               ·simp only [Act.put, q73zA, q73zB, q73zC, i64_w, i32_w]
                rfl
               refine take_ (i := 6) (N := some 58) (v := ?_) (a' := ?_) q73y40 rfl rfl (take_ofW HT_.out HW_.out qa6) (fun _ _ _ h => h) (Or.inl ⟨by rfl, ?_⟩) hHeld ?_ ?_; rotate_left
               ·rintro w' ⟨s0, s1, s2, s3, s4, s5⟩
                go_simp; (with_reducible rfl)
               rotate_left
               ·simp only [Act.put, q73zA, q73zB, q73zC, i64_w, i32_w]
                rfl
               refine take_ (i := 11) (N := some 63) (v := ?_) (a' := ?_) q73y41 rfl rfl (take_ofW HT_.out HW_.out qa6) (fun _ _ _ h => h) (Or.inl ⟨by rfl, ?_⟩) hHeld ?_ ?_; rotate_left
               ·rintro w' ⟨s0, s1, s2, s3, s4, s5⟩
                go_simp; (with_reducible rfl)
               rotate_left
               ·simp only [Act.put, q73zA, q73zB, q73zC, i64_w, i32_w]
                rfl
               refine take_ (i := 16) (N := some 68) (v := ?_) (a' := ?_) q73y42 rfl rfl (take_ofW HT_.out HW_.out qa6) (fun _ _ _ h => h) (Or.inl ⟨by rfl, ?_⟩) hHeld ?_ ?_; rotate_left
               ·rintro w' ⟨s0, s1, s2, s3, s4, s5⟩
                go_simp; (with_reducible rfl)
               rotate_left
               ·simp only [Act.put, q73zA, q73zB, q73zC, i64_w, i32_w]
                rfl
               refine pure_ (i := 17) (N := some 69) (v := ?_) (a' := ?_) q73y43 rfl rfl (any_of HT_.out qa6) (fun _ _ _ h => h) (Or.inl ⟨by rfl, ?_⟩) ?_ ?_; rotate_left
               ·intro w'
                go_simp; (with_reducible rfl)
               rotate_left
               ·simp only [Act.put, q73zA, q73zB, q73zC, i64_w, i32_w]
                rfl
               refine join_ (σ := Value × Value × Value) 3 q73y44 (fun s_ => [(59, s_.1), (61, s_.2.1), (70, s_.2.2)]) (fun s_ w' => (w'.cell? ⟨gb101, 0, none⟩ = some (.slice (some ad108) x102000_1.length co32) ∧ w'.cell? ⟨gb101, 1, none⟩ = some (.int .i64 (wrap64 (t106 + 1))) ∧ w'.cell? (ad107.add ((x5_1).toNat * 2)) = some (.int .i64 ((rd_T58 l1 x5_1).f0)) ∧ w'.cell? ⟨(ad107.add ((x5_1).toNat * 2)).block, (ad107.add ((x5_1).toNat * 2)).off + 1, none⟩ = some (.int .i64 ((rd_T58 l1 x5_1).f1)) ∧ w'.cell? (ad107.add ((x5_1).toNat * 2)) = some (.int .i64 ((rd_T58 l1 x5_1).f0)) ∧ w'.cell? ⟨(ad107.add ((x5_1).toNat * 2)).block, (ad107.add ((x5_1).toNat * 2)).off + 1, none⟩ = some (.int .i64 ((rd_T58 l1 x5_1).f1))) ∧ (Kd.V k43 43 w' w.heap.size (fun k_ => (P0_0_ k_ ∨ w.heap.size ≤ k_) ∧ some k_ ≠ (s_.2.1 : Value).ownBlock ∧ some k_ ≠ (s_.2.2 : Value).ownBlock ∧ some k_ ≠ (.slice (some ad108) x102000_1.length co32 : Value).ownBlock ∧ k_ ≠ gb101 ∧ k_ ≠ gb102) (.slice (some ad109) (rd_L4 x102000_1 ((rd_T58 l1 x5_1).f0)).length c108_0) (rd_L4 x102000_1 ((rd_T58 l1 x5_1).f0))) ∧ (Kd.V k43 43 w' w.heap.size (fun k_ => (P0_0_ k_ ∨ w.heap.size ≤ k_) ∧ some k_ ≠ (s_.2.1 : Value).ownBlock ∧ some k_ ≠ (s_.2.2 : Value).ownBlock ∧ some k_ ≠ (.slice (some ad108) x102000_1.length co32 : Value).ownBlock ∧ k_ ≠ gb101 ∧ k_ ≠ gb102) (.slice (some ad109) y110.length c108_0) y110) ∧ (Kd.R k43 43 w' w.heap.size (fun k_ => (w.heap.size ≤ k_) ∧ some k_ ≠ (s_.2.2 : Value).ownBlock) s_.2.1 y119) ∧ (Kd.R k43 43 w' w.heap.size (fun k_ => (w.heap.size ≤ k_) ∧ some k_ ≠ (s_.2.1 : Value).ownBlock) s_.2.2 y123) ∧ (Kd.N (Kd.slice 43 k43) 41 w' w.heap.size (fun k_ => (P0_0_ k_ ∨ w.heap.size ≤ k_) ∧ some k_ ≠ (s_.2.1 : Value).ownBlock ∧ some k_ ≠ (s_.2.2 : Value).ownBlock ∧ k_ ≠ gb101 ∧ k_ ≠ gb102) (.slice (some ad108) x102000_1.length co32) x102000_1) ∧ (w'.heap[gb101]? = some (.cells #[.slice (some ad108) x102000_1.length co32, .int .i64 (wrap64 (t106 + 1))] 28 (0, 0))) ∧ (w'.heap[gb102]? = some (.cells #[.slice none 0 0, .int .i64 0] 28 (0, 0))) ∧ (Below w.heap.size w w')) ?_ ?_; rotate_left
               ·intro hCont
                refine two_ (i := 7) (j := 18) (Ni := some 59) (Nj := some 70) q73y45 q73y46 rfl rfl rfl rfl (two_of HT_.out qa6) qa60 qa60 (fun K hK => ?_) (fun K hK => ?_)
                ·skip
                 refine Kd.R_lit_step k43 _ 43 ?hg (N := 59) ?hd (xs := ([] : List (S43))) (inner := []) (ok := fun _ => True) (okp := fun _ => True) ?hr ?hp (fun _ hk => hk) trivial (Below.refl _ _) (Nat.le_refl _) qa119 ?_; (case hd => rfl); (case hg => rfl); (case hr => exact qa18); (case hp => exact qa196); intro v117 w36 ho37 hb hg_ hnew_; clear hg_ hnew_; (first | rw [← Ny116.out] at ho37 | (simp only [Int.reduceToNat] at ho37; rw [← Ny116.out] at ho37)); have HO118 := q73O (Kd.R_lower (Kd.R_newM (M := fun k_ => (w.heap.size ≤ k_)) ho37 (below_size qa5) (fun k_ h_ => h_)) (below_size qa5)); replace HO_102000 := q73O (Kd.N_elder' qa46 (Kd.R_base ho37) hb); replace HL108_0 := q73O (Kd.V_elder' qa52 (Kd.R_base ho37) hb); replace HO114 := q73O (Kd.V_elder' qa136 (Kd.R_base ho37) hb); replace BK101 := q73O (blk_below (g := gb101) (o := .cells #[.slice (some ad108) x102000_1.length co32, .int .i64 (wrap64 (t106 + 1))] 28 (0, 0)) qa26 hb); replace BK102 := q73O (blk_below (g := gb102) (o := .cells #[.slice none 0 0, .int .i64 0] 28 (0, 0)) qa28 hb); replace HR108_0 := q73O (Kd.C_below qa24 hb); replace HB := q73O (below_step qa5 hb); clear hb ho37; refine hK.out _ _ ⟨qc0 BK101.out, qc1 BK101.out, ((HB.out.cell (q73L w _ hw115_0)).trans hw115_0), ((HB.out.cell (q73L w _ hw115_1)).trans hw115_1), ((HB.out.cell (q73L w _ hw122_0)).trans hw122_0), ((HB.out.cell (q73L w _ hw122_1)).trans hw122_1)⟩ (fun hHeld => ?_); clear hK K; refine norm_ (a' := ?_) ?_ ?_; rotate_left
                 ·exact qa29
                 refine two_ (i := 9) (j := 18) (Ni := some 61) (Nj := some 70) q73y47 q73y48 rfl rfl rfl rfl (two_of HT_.out qa6) qa60 qa60 (fun K hK => ?_) (fun K hK => ?_)
                 ·skip
                  refine Kd.R_append_rows_step k43 (w0 := w) w.heap.size (by rfl) (.tmp 59) (.tmp 60) 41 43 (.agg #[(.int .i64 0), (.int .i64 0)]) 16 rfl Try.underlying41 info43 rfl qa60 qa34 v117 y116 y110 _ _ _ (fun k_ => (w.heap.size ≤ k_)) (fun _ => False) rfl rfl ?aO ?aR (fun _ _ h => h) (fun _ h => h.elim) ?aF ?aB ?aS ?aL ?_; (case aR => exact qa147); (case aB => exact qa44); (case aF => exact qa118); (case aO => exact (by (with_reducible repeat (first | apply Kd.R_alloc | apply Kd.R_drewN | apply Kd.R_drew)); exact Kd.R_mono HO118.out (fun _ hk => hk.1))); (case aS => exact qa39); (case aL => have := LMc28.out; omega); intro v120 w38 ho hb hg hat; rw [← Ny119.out] at ho; have n0_ := q73O (Kd.N_afterv (ok := (fun k_ => (P0_0_ k_ ∨ w.heap.size ≤ k_) ∧ k_ ≠ gb101 ∧ k_ ≠ gb102)) qa46 hg hat); have n1_ := q73O (blk_grown (g := gb101) (o := .cells #[.slice (some ad108) x102000_1.length co32, .int .i64 (wrap64 (t106 + 1))] 28 (0, 0)) qa26 hg (Kd.R_ne HO118.out BK101.out qa60)); have n2_ := q73O (blk_grown (g := gb102) (o := .cells #[.slice none 0 0, .int .i64 0] 28 (0, 0)) qa28 hg (Kd.R_ne HO118.out BK102.out qa60)); have n3_ := q73O (Kd.V_afterv (ok := (fun k_ => (P0_0_ k_ ∨ w.heap.size ≤ k_) ∧ some k_ ≠ (.slice (some ad108) x102000_1.length co32 : Value).ownBlock ∧ k_ ≠ gb101 ∧ k_ ≠ gb102)) qa131 hg hat); have n4_ := q73O (Kd.V_afterv (ok := (fun k_ => (P0_0_ k_ ∨ w.heap.size ≤ k_) ∧ some k_ ≠ (.slice (some ad108) x102000_1.length co32 : Value).ownBlock ∧ k_ ≠ gb101 ∧ k_ ≠ gb102)) (by (with_reducible repeat (first | apply Kd.V_alloc | apply Kd.V_drewN | apply Kd.V_drew)); exact Kd.V_mono HO114.out (fun _ hk => ⟨⟨hk.1.1.1, ⟨hk.1.2, ⟨hk.1.1.2.1, hk.1.1.2.2⟩⟩⟩, hk.2⟩)) hg hat); have n5_ := q73O (hb); have n6_ := q73O (ho); clear HO_102000 BK101 BK102 HL108_0 HO114 HB HO118; have HO_102000 := n0_; have BK101 := n1_; have BK102 := n2_; have HL108_0 := n3_; have HO114 := n4_; have HB := n5_; have HO121 := n6_; clear n0_ n1_ n2_ n3_ n4_ n5_ n6_ ho hb hg hat; refine hK.out _ _ ⟨qc0 BK101.out, qc1 BK101.out, ((HB.out.cell (q73L w _ hw115_0)).trans hw115_0), ((HB.out.cell (q73L w _ hw115_1)).trans hw115_1), ((HB.out.cell (q73L w _ hw122_0)).trans hw122_0), ((HB.out.cell (q73L w _ hw122_1)).trans hw122_1)⟩ (fun hHeld => ?_); clear hK K; refine norm_ (a' := ?_) ?_ ?_; rotate_left
                  ·exact qa29
                  refine one_ (i := 18) (N := some 70) q73y44 rfl rfl (one_of HT_.out qa6) qa60 (fun K hK => ?_); refine Kd.R_lit_step k43 _ 43 ?hg (N := 70) ?hd (xs := ([(⟨(wrap64 (t106 + 1)), (rd_T58 l1 x5_1).f1⟩ : S43)] : List (S43))) (inner := [.int .i64 (wrap64 (t106 + 1)), .int .i64 ((rd_T58 l1 x5_1).f1)]) (ok := fun _ => True) (okp := fun _ => True) ?hr ?hp (fun _ hk => hk) trivial (Below.refl _ _) (Nat.le_refl _) qa119 ?_; (case hd => rfl); (case hg => rfl); (case hr => exact qa18); (case hp => exact qa42); intro v124 w39 ho40 hb hg_ hnew_; clear hg_ hnew_; (first | rw [← Ny123.out] at ho40 | (simp only [Int.reduceToNat] at ho40; rw [← Ny123.out] at ho40)); have HO125 := q73O (Kd.R_lower (Kd.R_new' (Kd.R_newM (M := fun k_ => (w.heap.size ≤ k_)) ho40 (below_size qa5) (fun k_ h_ => h_)) (Kd.R_lt qa178)) (below_size qa5)); replace HO_102000 := q73O (Kd.N_elder' qa46 (Kd.R_base ho40) hb); replace HL108_0 := q73O (Kd.V_elder' qa52 (Kd.R_base ho40) hb); replace HO114 := q73O (Kd.V_elder' qa136 (Kd.R_base ho40) hb); replace HO121 := q73O (Kd.R_elder' qa178 (Kd.R_base ho40) hb); replace BK101 := q73O (blk_below (g := gb101) (o := .cells #[.slice (some ad108) x102000_1.length co32, .int .i64 (wrap64 (t106 + 1))] 28 (0, 0)) qa26 hb); replace BK102 := q73O (blk_below (g := gb102) (o := .cells #[.slice none 0 0, .int .i64 0] 28 (0, 0)) qa28 hb); replace HB := q73O (below_step qa5 hb); clear hb ho40; refine hK.out _ _ ⟨qc0 BK101.out, qc1 BK101.out, ((HB.out.cell (q73L w _ hw115_0)).trans hw115_0), ((HB.out.cell (q73L w _ hw115_1)).trans hw115_1), ((HB.out.cell (q73L w _ hw122_0)).trans hw122_0), ((HB.out.cell (q73L w _ hw122_1)).trans hw122_1)⟩ (fun hHeld => ?_); clear hK K; refine norm_ (a' := ?_) ?_ ?_; rotate_left
                  ·exact qa29
                  exact norm_ (by simp only [putAll, Act.put, q73zA, q73zB, q73zC]) (hCont (v117, v120, v124) _ ⟨hHeld, (by (with_reducible repeat (first | apply Kd.V_alloc | apply Kd.V_drewN | apply Kd.V_drew)); exact Kd.V_mono HL108_0.out (fun _ hk => ⟨hk.1.1.1, ⟨hk.1.2, ⟨hk.2, ⟨hk.1.1.2.1, ⟨hk.1.1.2.2.1, hk.1.1.2.2.2⟩⟩⟩⟩⟩)), (by (with_reducible repeat (first | apply Kd.V_alloc | apply Kd.V_drewN | apply Kd.V_drew)); exact Kd.V_mono HO114.out (fun _ hk => ⟨hk.1.1.1, ⟨hk.1.2, ⟨hk.2, ⟨hk.1.1.2.1, ⟨hk.1.1.2.2.1, hk.1.1.2.2.2⟩⟩⟩⟩⟩)), (by (with_reducible repeat (first | apply Kd.R_alloc | apply Kd.R_drewN | apply Kd.R_drew)); exact HO121.out), (by (with_reducible repeat (first | apply Kd.R_alloc | apply Kd.R_drewN | apply Kd.R_drew)); exact Kd.R_mono HO125.out (fun _ hk => ⟨hk.1.1, hk.2⟩)), (by (with_reducible repeat (first | apply Kd.N_alloc | apply Kd.N_drewN | apply Kd.N_drew)); exact Kd.N_mono HO_102000.out (fun _ hk => ⟨hk.1.1.1, ⟨hk.1.2, ⟨hk.2, ⟨hk.1.1.2.1, hk.1.1.2.2⟩⟩⟩⟩)), (by (with_reducible repeat (first | refine q73kN ?_ _ | refine q73kD ?_ | refine q73kA ?_ _)); exact BK101.out), (by (with_reducible repeat (first | refine q73kN ?_ _ | refine q73kD ?_ | refine q73kA ?_ _)); exact BK102.out), (by repeat (first | (with_reducible first | exact HB.out | apply q73bA | apply q73bN | apply q73bD | refine q73bS ?_ GE101.out | refine q73bS ?_ GE102.out) | exact HB.out))⟩)
                 ·skip
                  refine Kd.R_lit_step k43 _ 43 ?hg (N := 70) ?hd (xs := ([(⟨(wrap64 (t106 + 1)), (rd_T58 l1 x5_1).f1⟩ : S43)] : List (S43))) (inner := [.int .i64 (wrap64 (t106 + 1)), .int .i64 ((rd_T58 l1 x5_1).f1)]) (ok := fun _ => True) (okp := fun _ => True) ?hr ?hp (fun _ hk => hk) trivial (Below.refl _ _) (Nat.le_refl _) qa119 ?_; (case hd => rfl); (case hg => rfl); (case hr => exact qa18); (case hp => exact qa42); intro v124 w38 ho39 hb hg_ hnew_; clear hg_ hnew_; (first | rw [← Ny123.out] at ho39 | (simp only [Int.reduceToNat] at ho39; rw [← Ny123.out] at ho39)); have HO125 := q73O (Kd.R_lower (Kd.R_new' (Kd.R_newM (M := fun k_ => (w.heap.size ≤ k_)) ho39 (below_size qa5) (fun k_ h_ => h_)) (Kd.R_lt qa179)) (below_size qa5)); replace HO_102000 := q73O (Kd.N_elder' qa46 (Kd.R_base ho39) hb); replace HL108_0 := q73O (Kd.V_elder' qa52 (Kd.R_base ho39) hb); replace HO114 := q73O (Kd.V_elder' qa136 (Kd.R_base ho39) hb); replace HO118 := q73O (Kd.R_elder' qa179 (Kd.R_base ho39) hb); replace BK101 := q73O (blk_below (g := gb101) (o := .cells #[.slice (some ad108) x102000_1.length co32, .int .i64 (wrap64 (t106 + 1))] 28 (0, 0)) qa26 hb); replace BK102 := q73O (blk_below (g := gb102) (o := .cells #[.slice none 0 0, .int .i64 0] 28 (0, 0)) qa28 hb); replace HR108_0 := q73O (Kd.C_below qa24 hb); replace HB := q73O (below_step qa5 hb); clear hb ho39; refine hK.out _ _ ⟨qc0 BK101.out, qc1 BK101.out, ((HB.out.cell (q73L w _ hw115_0)).trans hw115_0), ((HB.out.cell (q73L w _ hw115_1)).trans hw115_1), ((HB.out.cell (q73L w _ hw122_0)).trans hw122_0), ((HB.out.cell (q73L w _ hw122_1)).trans hw122_1)⟩ (fun hHeld => ?_); clear hK K; refine norm_ (a' := ?_) ?_ ?_; rotate_left
                  ·exact qa29
                  refine one_ (i := 9) (N := some 61) q73y44 rfl rfl (one_of HT_.out qa6) qa60 (fun K hK => ?_); refine Kd.R_append_rows_step k43 (w0 := w) w.heap.size (by rfl) (.tmp 59) (.tmp 60) 41 43 (.agg #[(.int .i64 0), (.int .i64 0)]) 16 rfl Try.underlying41 info43 rfl qa60 qa34 v117 y116 y110 _ _ _ (fun k_ => (w.heap.size ≤ k_) ∧ some k_ ≠ (v124 : Value).ownBlock) (fun _ => False) rfl rfl ?aO ?aR (fun _ _ h => h) (fun _ h => h.elim) ?aF ?aB ?aS ?aL ?_; (case aR => exact qa147); (case aB => exact qa44); (case aF => exact qa78); (case aO => exact qa162); (case aS => exact qa39); (case aL => have := LMc28.out; omega); intro v120 w40 ho hb hg hat; rw [← Ny119.out] at ho; have n0_ := q73O (Kd.N_afterv (ok := (fun k_ => (P0_0_ k_ ∨ w.heap.size ≤ k_) ∧ some k_ ≠ (v124 : Value).ownBlock ∧ k_ ≠ gb101 ∧ k_ ≠ gb102)) qa128 hg hat); have n1_ := q73O (blk_grown (g := gb101) (o := .cells #[.slice (some ad108) x102000_1.length co32, .int .i64 (wrap64 (t106 + 1))] 28 (0, 0)) qa26 hg (Kd.R_ne HO118.out BK101.out qa60)); have n2_ := q73O (blk_grown (g := gb102) (o := .cells #[.slice none 0 0, .int .i64 0] 28 (0, 0)) qa28 hg (Kd.R_ne HO118.out BK102.out qa60)); have n3_ := q73O (Kd.V_afterv (ok := (fun k_ => (P0_0_ k_ ∨ w.heap.size ≤ k_) ∧ some k_ ≠ (.slice (some ad108) x102000_1.length co32 : Value).ownBlock ∧ some k_ ≠ (v124 : Value).ownBlock ∧ k_ ≠ gb101 ∧ k_ ≠ gb102)) qa122 hg hat); have n4_ := q73O (Kd.V_afterv (ok := (fun k_ => (P0_0_ k_ ∨ w.heap.size ≤ k_) ∧ some k_ ≠ (.slice (some ad108) x102000_1.length co32 : Value).ownBlock ∧ some k_ ≠ (v124 : Value).ownBlock ∧ k_ ≠ gb101 ∧ k_ ≠ gb102)) (by (with_reducible repeat (first | apply Kd.V_alloc | apply Kd.V_drewN | apply Kd.V_drew)); exact Kd.V_mono HO114.out (fun _ hk => ⟨⟨hk.1.1.1.1, ⟨hk.1.1.2, ⟨hk.2, ⟨hk.1.1.1.2.1, hk.1.1.1.2.2⟩⟩⟩⟩, hk.1.2⟩)) hg hat); have n5_ := q73O (Kd.R_after (ok := (fun k_ => (w.heap.size ≤ k_))) qa163 hg hat); have n6_ := q73O (hb); have n7_ := q73O (ho); clear HO_102000 BK101 BK102 HL108_0 HO114 HO125 HB HO118; have HO_102000 := n0_; have BK101 := n1_; have BK102 := n2_; have HL108_0 := n3_; have HO114 := n4_; have HO125 := n5_; have HB := n6_; have HO121 := n7_; clear n0_ n1_ n2_ n3_ n4_ n5_ n6_ n7_ ho hb hg hat; refine hK.out _ _ ⟨qc0 BK101.out, qc1 BK101.out, ((HB.out.cell (q73L w _ hw115_0)).trans hw115_0), ((HB.out.cell (q73L w _ hw115_1)).trans hw115_1), ((HB.out.cell (q73L w _ hw122_0)).trans hw122_0), ((HB.out.cell (q73L w _ hw122_1)).trans hw122_1)⟩ (fun hHeld => ?_); clear hK K; refine norm_ (a' := ?_) ?_ ?_; rotate_left
                  ·exact qa29
                  exact norm_ (by simp only [putAll, Act.put, q73zA, q73zB, q73zC]) (hCont (v117, v120, v124) _ ⟨hHeld, (by (with_reducible repeat (first | apply Kd.V_alloc | apply Kd.V_drewN | apply Kd.V_drew)); exact Kd.V_mono HL108_0.out (fun _ hk => ⟨hk.1.1, ⟨hk.2, ⟨hk.1.2.2.1, ⟨hk.1.2.1, ⟨hk.1.2.2.2.1, hk.1.2.2.2.2⟩⟩⟩⟩⟩)), (by (with_reducible repeat (first | apply Kd.V_alloc | apply Kd.V_drewN | apply Kd.V_drew)); exact Kd.V_mono HO114.out (fun _ hk => ⟨hk.1.1, ⟨hk.2, ⟨hk.1.2.2.1, ⟨hk.1.2.1, ⟨hk.1.2.2.2.1, hk.1.2.2.2.2⟩⟩⟩⟩⟩)), (by (with_reducible repeat (first | apply Kd.R_alloc | apply Kd.R_drewN | apply Kd.R_drew)); exact HO121.out), (by (with_reducible repeat (first | apply Kd.R_alloc | apply Kd.R_drewN | apply Kd.R_drew)); exact HO125.out), (by (with_reducible repeat (first | apply Kd.N_alloc | apply Kd.N_drewN | apply Kd.N_drew)); exact Kd.N_mono HO_102000.out (fun _ hk => ⟨hk.1.1, ⟨hk.2, ⟨hk.1.2.1, ⟨hk.1.2.2.1, hk.1.2.2.2⟩⟩⟩⟩)), (by (with_reducible repeat (first | refine q73kN ?_ _ | refine q73kD ?_ | refine q73kA ?_ _)); exact BK101.out), (by (with_reducible repeat (first | refine q73kN ?_ _ | refine q73kD ?_ | refine q73kA ?_ _)); exact BK102.out), (by repeat (first | (with_reducible first | exact HB.out | apply q73bA | apply q73bN | apply q73bD | refine q73bS ?_ GE101.out | refine q73bS ?_ GE102.out) | exact HB.out))⟩)
                ·skip
                 refine Kd.R_lit_step k43 _ 43 ?hg (N := 70) ?hd (xs := ([(⟨(wrap64 (t106 + 1)), (rd_T58 l1 x5_1).f1⟩ : S43)] : List (S43))) (inner := [.int .i64 (wrap64 (t106 + 1)), .int .i64 ((rd_T58 l1 x5_1).f1)]) (ok := fun _ => True) (okp := fun _ => True) ?hr ?hp (fun _ hk => hk) trivial (Below.refl _ _) (Nat.le_refl _) qa119 ?_; (case hd => rfl); (case hg => rfl); (case hr => exact qa18); (case hp => exact qa42); intro v124 w36 ho37 hb hg_ hnew_; clear hg_ hnew_; (first | rw [← Ny123.out] at ho37 | (simp only [Int.reduceToNat] at ho37; rw [← Ny123.out] at ho37)); have HO125 := q73O (Kd.R_lower (Kd.R_newM (M := fun k_ => (w.heap.size ≤ k_)) ho37 (below_size qa5) (fun k_ h_ => h_)) (below_size qa5)); replace HO_102000 := q73O (Kd.N_elder' qa46 (Kd.R_base ho37) hb); replace HL108_0 := q73O (Kd.V_elder' qa52 (Kd.R_base ho37) hb); replace HO114 := q73O (Kd.V_elder' qa136 (Kd.R_base ho37) hb); replace BK101 := q73O (blk_below (g := gb101) (o := .cells #[.slice (some ad108) x102000_1.length co32, .int .i64 (wrap64 (t106 + 1))] 28 (0, 0)) qa26 hb); replace BK102 := q73O (blk_below (g := gb102) (o := .cells #[.slice none 0 0, .int .i64 0] 28 (0, 0)) qa28 hb); replace HR108_0 := q73O (Kd.C_below qa24 hb); replace HB := q73O (below_step qa5 hb); clear hb ho37; refine hK.out _ _ ⟨qc0 BK101.out, qc1 BK101.out, ((HB.out.cell (q73L w _ hw115_0)).trans hw115_0), ((HB.out.cell (q73L w _ hw115_1)).trans hw115_1), ((HB.out.cell (q73L w _ hw122_0)).trans hw122_0), ((HB.out.cell (q73L w _ hw122_1)).trans hw122_1)⟩ (fun hHeld => ?_); clear hK K; refine norm_ (a' := ?_) ?_ ?_; rotate_left
                 ·exact qa29
                 refine one_ (i := 7) (N := some 59) q73y48 rfl rfl (one_of HT_.out qa6) qa60 (fun K hK => ?_); refine Kd.R_lit_step k43 _ 43 ?hg (N := 59) ?hd (xs := ([] : List (S43))) (inner := []) (ok := fun _ => True) (okp := fun _ => True) ?hr ?hp (fun _ hk => hk) trivial (Below.refl _ _) (Nat.le_refl _) qa119 ?_; (case hd => rfl); (case hg => rfl); (case hr => exact qa18); (case hp => exact qa196); intro v117 w38 ho39 hb hg_ hnew_; clear hg_ hnew_; (first | rw [← Ny116.out] at ho39 | (simp only [Int.reduceToNat] at ho39; rw [← Ny116.out] at ho39)); have HO118 := q73O (Kd.R_lower (Kd.R_new' (Kd.R_newM (M := fun k_ => (w.heap.size ≤ k_)) ho39 (below_size qa5) (fun k_ h_ => h_)) (Kd.R_lt qa157)) (below_size qa5)); replace HO_102000 := q73O (Kd.N_elder' qa46 (Kd.R_base ho39) hb); replace HL108_0 := q73O (Kd.V_elder' qa52 (Kd.R_base ho39) hb); replace HO114 := q73O (Kd.V_elder' qa136 (Kd.R_base ho39) hb); replace HO125 := q73O (Kd.R_elder' qa157 (Kd.R_base ho39) hb); replace BK101 := q73O (blk_below (g := gb101) (o := .cells #[.slice (some ad108) x102000_1.length co32, .int .i64 (wrap64 (t106 + 1))] 28 (0, 0)) qa26 hb); replace BK102 := q73O (blk_below (g := gb102) (o := .cells #[.slice none 0 0, .int .i64 0] 28 (0, 0)) qa28 hb); replace HR108_0 := q73O (Kd.C_below qa24 hb); replace HB := q73O (below_step qa5 hb); clear hb ho39; refine hK.out _ _ ⟨qc0 BK101.out, qc1 BK101.out, ((HB.out.cell (q73L w _ hw115_0)).trans hw115_0), ((HB.out.cell (q73L w _ hw115_1)).trans hw115_1), ((HB.out.cell (q73L w _ hw122_0)).trans hw122_0), ((HB.out.cell (q73L w _ hw122_1)).trans hw122_1)⟩ (fun hHeld => ?_); clear hK K; refine norm_ (a' := ?_) ?_ ?_; rotate_left
                 ·exact qa29
                 refine one_ (i := 9) (N := some 61) q73y44 rfl rfl (one_of HT_.out qa6) qa60 (fun K hK => ?_); refine Kd.R_append_rows_step k43 (w0 := w) w.heap.size (by rfl) (.tmp 59) (.tmp 60) 41 43 (.agg #[(.int .i64 0), (.int .i64 0)]) 16 rfl Try.underlying41 info43 rfl qa60 qa34 v117 y116 y110 _ _ _ (fun k_ => (w.heap.size ≤ k_) ∧ some k_ ≠ (v124 : Value).ownBlock) (fun _ => False) rfl rfl ?aO ?aR (fun _ _ h => h) (fun _ h => h.elim) ?aF ?aB ?aS ?aL ?_; (case aR => exact qa147); (case aB => exact qa44); (case aF => exact qa78); (case aO => exact qa162); (case aS => exact qa39); (case aL => have := LMc28.out; omega); intro v120 w40 ho hb hg hat; rw [← Ny119.out] at ho; have n0_ := q73O (Kd.N_afterv (ok := (fun k_ => (P0_0_ k_ ∨ w.heap.size ≤ k_) ∧ some k_ ≠ (v124 : Value).ownBlock ∧ k_ ≠ gb101 ∧ k_ ≠ gb102)) qa129 hg hat); have n1_ := q73O (blk_grown (g := gb101) (o := .cells #[.slice (some ad108) x102000_1.length co32, .int .i64 (wrap64 (t106 + 1))] 28 (0, 0)) qa26 hg (Kd.R_ne HO118.out BK101.out qa60)); have n2_ := q73O (blk_grown (g := gb102) (o := .cells #[.slice none 0 0, .int .i64 0] 28 (0, 0)) qa28 hg (Kd.R_ne HO118.out BK102.out qa60)); have n3_ := q73O (Kd.V_afterv (ok := (fun k_ => (P0_0_ k_ ∨ w.heap.size ≤ k_) ∧ some k_ ≠ (.slice (some ad108) x102000_1.length co32 : Value).ownBlock ∧ some k_ ≠ (v124 : Value).ownBlock ∧ k_ ≠ gb101 ∧ k_ ≠ gb102)) qa123 hg hat); have n4_ := q73O (Kd.V_afterv (ok := (fun k_ => (P0_0_ k_ ∨ w.heap.size ≤ k_) ∧ some k_ ≠ (.slice (some ad108) x102000_1.length co32 : Value).ownBlock ∧ some k_ ≠ (v124 : Value).ownBlock ∧ k_ ≠ gb101 ∧ k_ ≠ gb102)) (by (with_reducible repeat (first | apply Kd.V_alloc | apply Kd.V_drewN | apply Kd.V_drew)); exact Kd.V_mono HO114.out (fun _ hk => ⟨⟨hk.1.1.1.1, ⟨hk.1.1.2, ⟨hk.1.2, ⟨hk.1.1.1.2.1, hk.1.1.1.2.2⟩⟩⟩⟩, hk.2⟩)) hg hat); have n5_ := q73O (Kd.R_after (ok := (fun k_ => (w.heap.size ≤ k_))) qa163 hg hat); have n6_ := q73O (hb); have n7_ := q73O (ho); clear HO_102000 BK101 BK102 HL108_0 HO114 HO125 HB HO118; have HO_102000 := n0_; have BK101 := n1_; have BK102 := n2_; have HL108_0 := n3_; have HO114 := n4_; have HO125 := n5_; have HB := n6_; have HO121 := n7_; clear n0_ n1_ n2_ n3_ n4_ n5_ n6_ n7_ ho hb hg hat; refine hK.out _ _ ⟨qc0 BK101.out, qc1 BK101.out, ((HB.out.cell (q73L w _ hw115_0)).trans hw115_0), ((HB.out.cell (q73L w _ hw115_1)).trans hw115_1), ((HB.out.cell (q73L w _ hw122_0)).trans hw122_0), ((HB.out.cell (q73L w _ hw122_1)).trans hw122_1)⟩ (fun hHeld => ?_); clear hK K; refine norm_ (a' := ?_) ?_ ?_; rotate_left
                 ·exact qa29
                 exact norm_ (by simp only [putAll, Act.put, q73zA, q73zB, q73zC]) (hCont (v117, v120, v124) _ ⟨hHeld, (by (with_reducible repeat (first | apply Kd.V_alloc | apply Kd.V_drewN | apply Kd.V_drew)); exact Kd.V_mono HL108_0.out (fun _ hk => ⟨hk.1.1, ⟨hk.2, ⟨hk.1.2.2.1, ⟨hk.1.2.1, ⟨hk.1.2.2.2.1, hk.1.2.2.2.2⟩⟩⟩⟩⟩)), (by (with_reducible repeat (first | apply Kd.V_alloc | apply Kd.V_drewN | apply Kd.V_drew)); exact Kd.V_mono HO114.out (fun _ hk => ⟨hk.1.1, ⟨hk.2, ⟨hk.1.2.2.1, ⟨hk.1.2.1, ⟨hk.1.2.2.2.1, hk.1.2.2.2.2⟩⟩⟩⟩⟩)), (by (with_reducible repeat (first | apply Kd.R_alloc | apply Kd.R_drewN | apply Kd.R_drew)); exact HO121.out), (by (with_reducible repeat (first | apply Kd.R_alloc | apply Kd.R_drewN | apply Kd.R_drew)); exact HO125.out), (by (with_reducible repeat (first | apply Kd.N_alloc | apply Kd.N_drewN | apply Kd.N_drew)); exact Kd.N_mono HO_102000.out (fun _ hk => ⟨hk.1.1, ⟨hk.2, ⟨hk.1.2.1, ⟨hk.1.2.2.1, hk.1.2.2.2⟩⟩⟩⟩)), (by (with_reducible repeat (first | refine q73kN ?_ _ | refine q73kD ?_ | refine q73kA ?_ _)); exact BK101.out), (by (with_reducible repeat (first | refine q73kN ?_ _ | refine q73kD ?_ | refine q73kA ?_ _)); exact BK102.out), (by repeat (first | (with_reducible first | exact HB.out | apply q73bA | apply q73bN | apply q73bD | refine q73bS ?_ GE101.out | refine q73bS ?_ GE102.out) | exact HB.out))⟩)
               rintro ⟨v117, v120, v124⟩ w41 ⟨hS_, h0_, h1_, h2_, h3_, h4_, h5_, h6_, h7_⟩; have n0_ : Aside0 (Kd.V k43 43 w41 w.heap.size (fun k_ => (P0_0_ k_ ∨ w.heap.size ≤ k_) ∧ some k_ ≠ (v120 : Value).ownBlock ∧ some k_ ≠ (v124 : Value).ownBlock ∧ some k_ ≠ (.slice (some ad108) x102000_1.length co32 : Value).ownBlock ∧ k_ ≠ gb101 ∧ k_ ≠ gb102) (.slice (some ad109) (rd_L4 x102000_1 ((rd_T58 l1 x5_1).f0)).length c108_0) (rd_L4 x102000_1 ((rd_T58 l1 x5_1).f0))) := ⟨h0_⟩; have n1_ : Aside0 (Kd.V k43 43 w41 w.heap.size (fun k_ => (P0_0_ k_ ∨ w.heap.size ≤ k_) ∧ some k_ ≠ (v120 : Value).ownBlock ∧ some k_ ≠ (v124 : Value).ownBlock ∧ some k_ ≠ (.slice (some ad108) x102000_1.length co32 : Value).ownBlock ∧ k_ ≠ gb101 ∧ k_ ≠ gb102) (.slice (some ad109) y110.length c108_0) y110) := ⟨h1_⟩; have n2_ : Aside0 (Kd.R k43 43 w41 w.heap.size (fun k_ => (w.heap.size ≤ k_) ∧ some k_ ≠ (v124 : Value).ownBlock) v120 y119) := ⟨h2_⟩; have n3_ : Aside0 (Kd.R k43 43 w41 w.heap.size (fun k_ => (w.heap.size ≤ k_) ∧ some k_ ≠ (v120 : Value).ownBlock) v124 y123) := ⟨h3_⟩; have n4_ : Aside0 (Kd.N (Kd.slice 43 k43) 41 w41 w.heap.size (fun k_ => (P0_0_ k_ ∨ w.heap.size ≤ k_) ∧ some k_ ≠ (v120 : Value).ownBlock ∧ some k_ ≠ (v124 : Value).ownBlock ∧ k_ ≠ gb101 ∧ k_ ≠ gb102) (.slice (some ad108) x102000_1.length co32) x102000_1) := ⟨h4_⟩; have n5_ : Aside0 (w41.heap[gb101]? = some (.cells #[.slice (some ad108) x102000_1.length co32, .int .i64 (wrap64 (t106 + 1))] 28 (0, 0))) := ⟨h5_⟩; have n6_ : Aside0 (w41.heap[gb102]? = some (.cells #[.slice none 0 0, .int .i64 0] 28 (0, 0))) := ⟨h6_⟩; have n7_ : Aside0 (Below w.heap.size w w41) := ⟨h7_⟩; clear HO_102000 HL108_0 HO114 BK101 BK102 HR108_0 HB h0_ h1_ h2_ h3_ h4_ h5_ h6_ h7_; have HL108_0 := n0_; have HO114 := n1_; have HO121 := n2_; have HO125 := n3_; have HO_102000 := n4_; have BK101 := n5_; have BK102 := n6_; have HB := n7_; clear n0_ n1_ n2_ n3_ n4_ n5_ n6_ n7_; have hHeld : w41.cell? ⟨gb101, 0, none⟩ = some (.slice (some ad108) x102000_1.length co32) ∧ w41.cell? ⟨gb101, 1, none⟩ = some (.int .i64 (wrap64 (t106 + 1))) ∧ w41.cell? (ad107.add ((x5_1).toNat * 2)) = some (.int .i64 ((rd_T58 l1 x5_1).f0)) ∧ w41.cell? ⟨(ad107.add ((x5_1).toNat * 2)).block, (ad107.add ((x5_1).toNat * 2)).off + 1, none⟩ = some (.int .i64 ((rd_T58 l1 x5_1).f1)) ∧ w41.cell? (ad107.add ((x5_1).toNat * 2)) = some (.int .i64 ((rd_T58 l1 x5_1).f0)) ∧ w41.cell? ⟨(ad107.add ((x5_1).toNat * 2)).block, (ad107.add ((x5_1).toNat * 2)).off + 1, none⟩ = some (.int .i64 ((rd_T58 l1 x5_1).f1)) := hS_; obtain ⟨Ao43, co43, eo43⟩ := Kd.R_slice HO125.out; (first | subst eo43 | (injection eo43 with f1_ f2_ f3_; have f4_ := f1_.symm; have f5_ := f3_.symm; clear f1_ f2_ f3_; subst f4_; subst f5_)); refine norm_ (a' := ?_) ?_ ?_; rotate_left
               ·simp only [putAll, Act.put, q73zA, q73zB, q73zC]
                rfl
               refine one_ (i := 19) (N := some 71) q73y49 rfl rfl (one_of HT_.out qa6) qa60 (fun K hK => ?_); refine Kd.R_append_rows_step k43 (w0 := w) w.heap.size (by rfl) (.tmp 61) (.tmp 70) 41 43 (.agg #[(.int .i64 0), (.int .i64 0)]) 16 rfl Try.underlying41 info43 rfl qa60 qa34 v120 y119 y123 _ _ _ (fun k_ => (w.heap.size ≤ k_) ∧ some k_ ≠ (.slice Ao43 y123.length co43 : Value).ownBlock) (fun _ => False) rfl rfl ?aO ?aR (fun _ _ h => h) (fun _ h => h.elim) ?aF ?aB ?aS ?aL ?_; (case aR => repeat (first | exact (Kd.R_reads' HO125.out).2.2 | with_reducible first | refine Kd.C_alloc ?_ _ | refine Kd.C_drewN ?_ _ | refine Kd.C_drew ?_)); (case aB => exact qa44); (case aF => exact qa78); (case aO => exact (by (with_reducible repeat (first | apply Kd.R_alloc | apply Kd.R_drewN | apply Kd.R_drew)); exact HO121.out)); (case aS => exact qa39); (case aL => have := LMc29.out; omega); intro v127 w42 ho hb hg hat; rw [← Ny126.out] at ho; have n0_ := q73O (Kd.N_afterv (ok := (fun k_ => (P0_0_ k_ ∨ w.heap.size ≤ k_) ∧ some k_ ≠ (.slice Ao43 y123.length co43 : Value).ownBlock ∧ k_ ≠ gb101 ∧ k_ ≠ gb102)) qa130 hg hat); have n1_ := q73O (blk_grown (g := gb101) (o := .cells #[.slice (some ad108) x102000_1.length co32, .int .i64 (wrap64 (t106 + 1))] 28 (0, 0)) qa26 hg (Kd.R_ne HO121.out BK101.out qa60)); have n2_ := q73O (blk_grown (g := gb102) (o := .cells #[.slice none 0 0, .int .i64 0] 28 (0, 0)) qa28 hg (Kd.R_ne HO121.out BK102.out qa60)); have n3_ := q73O (Kd.V_afterv (ok := (fun k_ => (P0_0_ k_ ∨ w.heap.size ≤ k_) ∧ some k_ ≠ (.slice (some ad108) x102000_1.length co32 : Value).ownBlock ∧ some k_ ≠ (.slice Ao43 y123.length co43 : Value).ownBlock ∧ k_ ≠ gb101 ∧ k_ ≠ gb102)) qa124 hg hat); have n4_ := q73O (Kd.V_afterv (ok := (fun k_ => (P0_0_ k_ ∨ w.heap.size ≤ k_) ∧ some k_ ≠ (.slice (some ad108) x102000_1.length co32 : Value).ownBlock ∧ some k_ ≠ (.slice Ao43 y123.length co43 : Value).ownBlock ∧ k_ ≠ gb101 ∧ k_ ≠ gb102)) (by (with_reducible repeat (first | apply Kd.V_alloc | apply Kd.V_drewN | apply Kd.V_drew)); exact Kd.V_mono HO114.out (fun _ hk => ⟨⟨hk.1, ⟨hk.2.2.2.1, ⟨hk.2.2.1, ⟨hk.2.2.2.2.1, hk.2.2.2.2.2⟩⟩⟩⟩, hk.2.1⟩)) hg hat); have n5_ := q73O (Kd.R_after (ok := (fun k_ => (w.heap.size ≤ k_))) qa157 hg hat); have n6_ := q73O (hb); have n7_ := q73O (ho); clear HO_102000 BK101 BK102 HL108_0 HO114 HO125 HB HO121; have HO_102000 := n0_; have BK101 := n1_; have BK102 := n2_; have HL108_0 := n3_; have HO114 := n4_; have HO125 := n5_; have HB := n6_; have HO128 := n7_; clear n0_ n1_ n2_ n3_ n4_ n5_ n6_ n7_; obtain ⟨Av44, cv44, ev44⟩ := Kd.R_slice HO128.out; subst ev44; clear ho hb hg hat; have p30 : 0 ≤ (((rd_T58 l1 x5_1).f0) : Int) := q73T qa138; have q30 : (((rd_T58 l1 x5_1).f0) : Int) < ((x102000_1.length : Int) : Int) := q73T qa138; obtain ⟨go30, co30, eo30, gb30, gl30, cl30, HG30⟩ := Kd.N_form HO_102000.out qa34; (first | cases eo30 | (injection eo30 with ea_ en_ ec_; (first | subst ea_ | (injection ea_ with ea_; subst ea_)); subst ec_; clear en_)); have GB30 := q73O gb30; have GG30 := q73O HG30; clear gb30 gl30 HG30; (first | simp only [add_plain] at hx108_0 | skip); obtain ⟨ce30, hcl30, hM30, hcc30, hfr30⟩ := Kd.N_elem HO_102000.out [] (((rd_T58 l1 x5_1).f0) : Int) p30 q30; obtain ⟨ua30_0, uc30_0, rfl, ul30_0, ge30_0⟩ := Kd.FK_slice_open hM30; have hx30_0 := hcc30 0 _ rfl; have hf30_0 := hfr30 0; (try simp only [show ((Kd.slice 43 k43)).sz = 1 from rfl, Nat.mul_one, Nat.add_zero] at hx30_0); (try simp only [show ((Kd.slice 43 k43)).sz = 1 from rfl, Nat.mul_one, Nat.add_zero] at hf30_0); clear hcl30 hcc30 hfr30; (try clear hM30); replace p30 := eq_true p30; replace q30 := eq_true q30; have HX44 := q73O (show Kd.N (Kd.slice 43 k43) 41 _ w.heap.size (fun k_ => (P0_0_ k_ ∨ w.heap.size ≤ k_) ∧ some k_ ≠ (.slice Ao43 y123.length co43 : Value).ownBlock ∧ some k_ ≠ ((.slice Av44 y126.length cv44) : Value).ownBlock ∧ k_ ≠ gb101 ∧ k_ ≠ gb102) (.slice (some ⟨go30, 0, none⟩) x102000_1.length co32) x102000_1 from (Kd.N_mono (HO_102000.out) (fun k_ hk => ⟨hk.1.1, ⟨hk.1.2.1, ⟨hk.2, ⟨hk.1.2.2.1, hk.1.2.2.2⟩⟩⟩⟩))); replace HX44 := q73O (show Kd.N (Kd.slice 43 k43) 41 _ w.heap.size (fun k_ => (P0_0_ k_ ∨ w.heap.size ≤ k_) ∧ some k_ ≠ (.slice Ao43 y123.length co43 : Value).ownBlock ∧ k_ ≠ gb101 ∧ k_ ≠ gb102) (.slice (some ⟨go30, 0, none⟩) x102000_1.length co32) x102000_1 from Kd.N_mono HX44.out (fun k_ hk => ⟨hk.1, ⟨hk.2.1, ⟨hk.2.2.2.1, hk.2.2.2.2⟩⟩⟩)); obtain ⟨ce44, hcl44, hM44, hcc44, hfr44⟩ := Kd.N_elem HX44.out [] (((rd_T58 l1 x5_1).f0) : Int) (q73T qa138) (by have h_ : (((rd_T58 l1 x5_1).f0) : Int) < ((x102000_1.length : Int) : Int) := q73T qa138; first | exact h_ | (have e_ := (Kd.N_reads' HO_102000.out).1; omega) | simpa using h_); obtain ⟨ua44_0, uc44_0, rfl, ul44_0, ge44_0⟩ := Kd.FK_slice_open hM44; have HP44 := (Kd.N_seg HX44.out (((rd_T58 l1 x5_1).f0) : Int) (q73T qa138) (by have h_ : (((rd_T58 l1 x5_1).f0) : Int) < ((x102000_1.length : Int) : Int) := q73T qa138; first | exact h_ | (have e_ := (Kd.N_reads' HO_102000.out).1; omega) | simpa using h_) (seg := [(.slice Av44 y126.length cv44)]) (j := 0) hcl44 hcc44 (show 1 ≤ 1 from by decide) (x' := y126) (Kd.FK_slice_mk (Kd.R_reads' (Kd.R_mono (ok' := (fun k_ => ((fun k_ => (P0_0_ k_ ∨ w.heap.size ≤ k_) ∧ some k_ ≠ (.slice Ao43 y123.length co43 : Value).ownBlock ∧ k_ ≠ gb101 ∧ k_ ≠ gb102)) k_ ∧ k_ ≠ go30)) (Kd.R_types (Kd.R_types (Kd.R_apart' (HO128.out) (Kd.N_typed HO_102000.out) qa60) BK101.out qa60) BK102.out qa60) (fun k_ hk => ⟨⟨(.inr (hk.1.1.1.1)), ⟨hk.1.1.1.2, ⟨hk.1.2, hk.2⟩⟩⟩, fun e_ => (hk.1.1.2) qa199⟩))).2.1 (Kd.R_F (Kd.R_mono (ok' := (fun k_ => ((fun k_ => (P0_0_ k_ ∨ w.heap.size ≤ k_) ∧ some k_ ≠ (.slice Ao43 y123.length co43 : Value).ownBlock ∧ k_ ≠ gb101 ∧ k_ ≠ gb102)) k_ ∧ k_ ≠ go30)) (Kd.R_types (Kd.R_types (Kd.R_apart' (HO128.out) (Kd.N_typed HO_102000.out) qa60) BK101.out qa60) BK102.out qa60) (fun k_ hk => ⟨⟨(.inr (hk.1.1.1.1)), ⟨hk.1.1.1.2, ⟨hk.1.2, hk.2⟩⟩⟩, fun e_ => (hk.1.1.2) qa199⟩)))) (fun _ hk => hk)).1; (try simp only [show ((Kd.slice 43 k43)).sz = 1 from rfl, Nat.mul_one, Nat.add_zero] at HP44); rw [← Ny129.out] at HP44; have HQ44 := q73O HP44; clear hcl44 hcc44 hfr44; (try clear hM44); clear HP44; refine hK.out _ _ ⟨qc0 BK101.out, qc1 BK101.out, ((HB.out.cell (q73L w _ hw115_0)).trans hw115_0), ((HB.out.cell (q73L w _ hw115_1)).trans hw115_1), ((HB.out.cell (q73L w _ hw122_0)).trans hw122_0), ((HB.out.cell (q73L w _ hw122_1)).trans hw122_1)⟩ (fun hHeld => ?_); clear hK K; refine norm_ (a' := ?_) ?_ ?_; rotate_left
               ·exact qa29
               refine pure_ (i := 20) (N := some 72) (v := ?_) (a' := ?_) q73y50 rfl rfl (any_of HT_.out qa6) (fun _ _ _ h => h) (Or.inl ⟨by rfl, ?_⟩) ?_ ?_; rotate_left
               ·intro w'
                go_simp; (with_reducible rfl)
               rotate_left
               ·simp only [Act.put, q73zA, q73zB, q73zC, i64_w, i32_w]
                rfl
               refine last_ (i := 21) (N := none) q73y51 rfl rfl (one_of HT_.out qa6) qa60 (fun K hK => ?_); refine skip_ (w1 := ?_) (by rfl) rfl ?_ ?_; rotate_left
               ·go_simp
                rfl
               refine hK.out _ _ ?_; clear hK K; refine done_ (done_of HT_.out qa6) ?_
               try go_wp2
               go_roundg k1
               case measure => have := HK1.out; omega
               case rel => exact ⟨(wrap64 (x5_1 + 1)), (y129), (.slice (some ⟨go30, 0, none⟩) x102000_1.length co32), qa16, H', ⟨qa155⟩, ⟨by (with_reducible repeat (first | apply Kd.N_alloc | apply Kd.N_drewN | apply Kd.N_drew)); exact Kd.N_mono HQ44.out (fun _ hk => ⟨hk.1, ⟨hk.2.2.1, hk.2.2.2⟩⟩)⟩, ⟨qa89⟩, ⟨qa90⟩, ⟨by repeat (first | (with_reducible first | exact HB.out | apply q73bA | apply q73bN | apply q73bD | refine q73bS ?_ GB30.out | refine q73bS ?_ GE101.out | refine q73bS ?_ GE102.out) | exact HB.out)⟩⟩
              ·rw [if_neg c29] at H
               exact absurd H qa119
             ·rw [if_neg c28] at H
              exact absurd H qa119
            ·rw [if_neg c27] at H
             exact absurd H qa119
           ·rw [if_neg c25] at H
            have c25b0 : (((rd_T43 (rd_L4 x102000_1 ((rd_T58 l1 x5_1).f0)) (ji22)).f0) == (wrap64 (t106 + 1))) = false := beq_eq_false_iff_ne.mpr c25; have c25b1 : (((rd_T43 (rd_L4 x102000_1 ((rd_T58 l1 x5_1).f0)) (ji22)).f0) != (wrap64 (t106 + 1))) = true := bne_iff_ne.mpr c25; obtain ⟨y131, hy131⟩ : ∃ y_ : List (S43), y_ = (([] : List (S43))) := ⟨_, rfl⟩; replace H : (if y131.length + (rd_L4 x102000_1 ((rd_T58 l1 x5_1).f0)).length < 8796093022208 then ((some (y131 ++ (rd_L4 x102000_1 ((rd_T58 l1 x5_1).f0)) : List (S43))).bind fun y134 => ((some (([(⟨(wrap64 (t106 + 1)), (rd_T58 l1 x5_1).f1⟩ : S43)] : List (S43)) : List (S43))).bind fun y138 => (if y134.length + y138.length < 8796093022208 then (spec_l06Write.l0 k1 l1 (wrap64 (x5_1 + 1)) (x102000_1.set (((rd_T58 l1 x5_1).f0) : Int).toNat (y134 ++ y138)) (wrap64 (t106 + 1))) else (none)))) else (none)) = some (r1, r2) := by first | (rw [hy131]; with_reducible exact H) | (have H2_ := (Option.bind_some _ _).symm.trans H; rw [hy131]; with_reducible exact H2_) | (have H2_ := (Option.bind_some _ _).symm.trans H; with_reducible exact H2_) | with_reducible exact H | (rw [hy131]; exact H) | exact H
            have Ny131 := q73O hy131; clear hy131
            by_cases c45 : y131.length + (rd_L4 x102000_1 ((rd_T58 l1 x5_1).f0)).length < 8796093022208
            ·rw [if_pos c45] at H
             have LMc45 := q73O c45; clear c45; obtain ⟨y134, hy134⟩ : ∃ y_ : List (S43), y_ = (y131 ++ (rd_L4 x102000_1 ((rd_T58 l1 x5_1).f0))) := ⟨_, rfl⟩; replace H : ((some (([(⟨(wrap64 (t106 + 1)), (rd_T58 l1 x5_1).f1⟩ : S43)] : List (S43)) : List (S43))).bind fun y138 => (if y134.length + y138.length < 8796093022208 then (spec_l06Write.l0 k1 l1 (wrap64 (x5_1 + 1)) (x102000_1.set (((rd_T58 l1 x5_1).f0) : Int).toNat (y134 ++ y138)) (wrap64 (t106 + 1))) else (none))) = some (r1, r2) := by first | (rw [hy134]; with_reducible exact H) | (have H2_ := (Option.bind_some _ _).symm.trans H; rw [hy134]; with_reducible exact H2_) | (have H2_ := (Option.bind_some _ _).symm.trans H; with_reducible exact H2_) | with_reducible exact H | (rw [hy134]; exact H) | exact H
             have Ny134 := q73O hy134; clear hy134; obtain ⟨y138, hy138⟩ : ∃ y_ : List (S43), y_ = (([(⟨(wrap64 (t106 + 1)), (rd_T58 l1 x5_1).f1⟩ : S43)] : List (S43))) := ⟨_, rfl⟩; replace H : (if y134.length + y138.length < 8796093022208 then (spec_l06Write.l0 k1 l1 (wrap64 (x5_1 + 1)) (x102000_1.set (((rd_T58 l1 x5_1).f0) : Int).toNat (y134 ++ y138)) (wrap64 (t106 + 1))) else (none)) = some (r1, r2) := by first | (rw [hy138]; with_reducible exact H) | (have H2_ := (Option.bind_some _ _).symm.trans H; rw [hy138]; with_reducible exact H2_) | (have H2_ := (Option.bind_some _ _).symm.trans H; with_reducible exact H2_) | with_reducible exact H | (rw [hy138]; exact H) | exact H
             have Ny138 := q73O hy138; clear hy138
             by_cases c46 : y134.length + y138.length < 8796093022208
             ·rw [if_pos c46] at H
              have LMc46 := q73O c46; clear c46; obtain ⟨y141, hy141⟩ : ∃ y_ : List (S43), y_ = (y134 ++ y138) := ⟨_, rfl⟩; replace H : (spec_l06Write.l0 k1 l1 (wrap64 (x5_1 + 1)) (x102000_1.set (((rd_T58 l1 x5_1).f0) : Int).toNat y141) (wrap64 (t106 + 1))) = some (r1, r2) := by first | (rw [hy141]; with_reducible exact H) | (have H2_ := (Option.bind_some _ _).symm.trans H; rw [hy141]; with_reducible exact H2_) | (have H2_ := (Option.bind_some _ _).symm.trans H; with_reducible exact H2_) | with_reducible exact H | (rw [hy141]; exact H) | exact H
              have Ny141 := q73O hy141; clear hy141; obtain ⟨y144, hy144⟩ : ∃ y_ : List (List (S43)), y_ = (x102000_1.set (((rd_T58 l1 x5_1).f0) : Int).toNat y141) := ⟨_, rfl⟩; replace H : (spec_l06Write.l0 k1 l1 (wrap64 (x5_1 + 1)) y144 (wrap64 (t106 + 1))) = some (r1, r2) := by first | (rw [hy144]; with_reducible exact H) | (have H2_ := (Option.bind_some _ _).symm.trans H; rw [hy144]; with_reducible exact H2_) | (have H2_ := (Option.bind_some _ _).symm.trans H; with_reducible exact H2_) | with_reducible exact H | (rw [hy144]; exact H) | exact H
              have Ny144 := q73O hy144; clear hy144; have H' := q73O H; clear H
              try go_wp2
              replace HO_102000 := q73O (Kd.N_drew HO_102000.out); replace BK101 := q73O (q73kD BK101.out); replace BK102 := q73O (q73kD BK102.out); replace HB := q73O (q73bD HB.out); have p107 : 0 ≤ (x5_1 : Int) := q73T qa138; have q107 : x5_1 < (l1.length : Int) := q73T qa138; obtain ⟨ad107, e107, hx107_0, hx107_1⟩ := at_T58 HR1.out x5_1 p107 q107; have hw107_1 := hx107_1; have hw107_0 := hx107_0
              cases e107
              replace hx107_0 := (HB.out.cell (q73L w _ hx107_0)).trans hx107_0; replace hx107_1 := (HB.out.cell (q73L w _ hx107_1)).trans hx107_1; replace p107 := eq_true p107; replace q107 := eq_true q107; obtain ⟨Ao49, co49, eo49⟩ := Kd.N_slice HO_102000.out; (first | subst eo49 | (injection eo49 with f1_ f2_ f3_; have f4_ := f1_.symm; have f5_ := f3_.symm; clear f1_ f2_ f3_; subst f4_; subst f5_)); have p108 : 0 ≤ (((rd_T58 l1 x5_1).f0) : Int) := q73T qa138; have q108 : ((rd_T58 l1 x5_1).f0) < (x102000_1.length : Int) := q73T qa138; obtain ⟨ad108, A108_0, c108_0, e108, hx108_0, hl108_0, hi108_0⟩ := at_L4 (Kd.N_reads' HO_102000.out).2.2 ((rd_T58 l1 x5_1).f0) p108 q108
              cases e108
              obtain ⟨ce108, hce108, hMe108, hcc108⟩ := Kd.N_get HO_102000.out [] ((rd_T58 l1 x5_1).f0) p108 qa161; obtain ⟨ua108_0, uc108_0, rfl, ul108_0, ge108_0⟩ := Kd.FK_slice_open hMe108; have hv108_0 := hcc108 0 _ rfl; rw [Nat.add_zero, show ((Kd.slice 43 k43)).sz = 1 from rfl, Nat.mul_one] at hv108_0; replace hv108_0 := Option.some.inj (hv108_0.symm.trans hx108_0); injection hv108_0 with hva_ hvn_ hvc_; rw [hva_] at ge108_0; rw [hvc_] at ul108_0; have HL108_0 := q73O (show Kd.V k43 43 _ w.heap.size _ _ (rd_L4 x102000_1 ((rd_T58 l1 x5_1).f0)) from Kd.V_mk ul108_0 ge108_0); clear hva_ hvn_ hvc_ ge108_0 ul108_0 hcc108 hce108; have HR108_0 := q73O hi108_0; have HC108_0 := q73O hl108_0; clear hi108_0 hl108_0; replace p108 := eq_true p108; replace q108 := eq_true q108; refine start_ (n := 10) (S := fun w' => w'.cell? ⟨gb101, 0, none⟩ = some (.slice (some ad108) x102000_1.length co49) ∧ w'.cell? ⟨gb101, 1, none⟩ = some (.int .i64 (wrap64 (t106 + 1))) ∧ w'.cell? (ad107.add ((x5_1).toNat * 2)) = some (.int .i64 ((rd_T58 l1 x5_1).f0)) ∧ w'.cell? ⟨(ad107.add ((x5_1).toNat * 2)).block, (ad107.add ((x5_1).toNat * 2)).off + 1, none⟩ = some (.int .i64 ((rd_T58 l1 x5_1).f1)) ∧ w'.cell? (ad108.add (((rd_T58 l1 x5_1).f0)).toNat) = some (.slice A108_0 (rd_L4 x102000_1 ((rd_T58 l1 x5_1).f0)).length c108_0)) (ds := []) q73y0 qa6 rfl rfl ⟨qc0 BK101.out, qc1 BK101.out, ((HB.out.cell (q73L w _ hw107_0)).trans hw107_0), ((HB.out.cell (q73L w _ hw107_1)).trans hw107_1), hx108_0⟩ (fun hHeld => ?_); refine with_tabW spec_l06Write.tab8 spec_l06Write.bits8 (fun HT_ HW_ => ?_); generalize wr.drew = w48 at HO_102000 BK101 BK102 HB HL108_0 HR108_0 hx107_0 hx107_1 hx108_0 hHeld ⊢; refine pure_ (i := 0) (N := some 23) (v := ?_) (a' := ?_) q73y1 rfl rfl (any_of HT_.out qa6) (fun _ _ _ h => h) (Or.inl ⟨by rfl, ?_⟩) ?_ ?_; rotate_left
              ·intro w'
               go_simp; (with_reducible rfl)
              rotate_left
              ·simp only [Act.put, q73zA, q73zB, q73zC, i64_w, i32_w]
               rfl
              refine pure_ (i := 2) (N := some 25) (v := ?_) (a' := ?_) q73y2 rfl rfl (any_of HT_.out qa6) (fun _ _ _ h => h) (Or.inl ⟨by rfl, ?_⟩) ?_ ?_; rotate_left
              ·intro w'
               go_simp; (with_reducible rfl)
              rotate_left
              ·simp only [Act.put, q73zA, q73zB, q73zC, i64_w, i32_w]
               rfl
              refine pure_ (i := 3) (N := some 26) (v := ?_) (a' := ?_) q73y3 rfl rfl (any_of HT_.out qa6) (fun _ _ _ h => h) (Or.inl ⟨by rfl, ?_⟩) ?_ ?_; rotate_left
              ·intro w'
               go_simp; (with_reducible rfl)
              rotate_left
              ·simp only [Act.put, q73zA, q73zB, q73zC, i64_w, i32_w]
               rfl
              refine pure_ (i := 4) (N := some 27) (v := ?_) (a' := ?_) q73y4 rfl rfl (any_of HT_.out qa6) (fun _ _ _ h => h) (Or.inl ⟨by rfl, ?_⟩) ?_ ?_; rotate_left
              ·intro w'
               go_simp; (with_reducible rfl)
              rotate_left
              ·simp only [Act.put, q73zA, q73zB, q73zC, i64_w, i32_w]
               rfl
              refine pure_ (i := 5) (N := some 28) (v := ?_) (a' := ?_) q73y5 rfl rfl (any_of HT_.out qa6) (fun _ _ _ h => h) (Or.inl ⟨by rfl, ?_⟩) ?_ ?_; rotate_left
              ·intro w'
               go_simp; (with_reducible rfl)
              rotate_left
              ·simp only [Act.put, q73zA, q73zB, q73zC, i64_w, i32_w]
               rfl
              refine take_ (i := 1) (N := some 24) (v := ?_) (a' := ?_) q73y6 rfl rfl (take_ofW HT_.out HW_.out qa6) (fun _ _ _ h => h) (Or.inl ⟨by rfl, ?_⟩) hHeld ?_ ?_; rotate_left
              ·rintro w' ⟨s0, s1, s2, s3, s4⟩
               go_simp; (with_reducible rfl)
              rotate_left
              ·simp only [Act.put, q73zA, q73zB, q73zC, i64_w, i32_w]
               rfl
              refine take_ (i := 6) (N := some 29) (v := ?_) (a' := ?_) q73y7 rfl rfl (take_ofW HT_.out HW_.out qa6) (fun _ _ _ h => h) (Or.inl ⟨by rfl, ?_⟩) hHeld ?_ ?_; rotate_left
              ·rintro w' ⟨s0, s1, s2, s3, s4⟩
               go_simp; (with_reducible rfl)
              rotate_left
              ·simp only [Act.put, q73zA, q73zB, q73zC, i64_w, i32_w]
               rfl
              refine pure_ (i := 7) (N := some 30) (v := ?_) (a' := ?_) q73y8 rfl rfl (any_of HT_.out qa6) (fun _ _ _ h => h) (Or.inl ⟨by rfl, ?_⟩) ?_ ?_; rotate_left
              ·intro w'
               go_simp; (with_reducible rfl)
              rotate_left
              ·simp only [Act.put, q73zA, q73zB, q73zC, i64_w, i32_w]
               rfl
              refine take_ (i := 8) (N := some 31) (v := ?_) (a' := ?_) q73y9 rfl rfl (take_ofW HT_.out HW_.out qa6) (fun _ _ _ h => h) (Or.inl ⟨by rfl, ?_⟩) hHeld ?_ ?_; rotate_left
              ·rintro w' ⟨s0, s1, s2, s3, s4⟩
               go_simp; (with_reducible rfl)
              rotate_left
              ·simp only [Act.put, q73zA, q73zB, q73zC, i64_w, i32_w]
               rfl
              refine pure_ (i := 9) (N := some 6) (v := ?_) (a' := ?_) q73y10 rfl rfl (any_of HT_.out qa6) (fun _ _ _ h => h) (Or.inl ⟨by rfl, ?_⟩) ?_ ?_; rotate_left
              ·intro w'
               go_simp; (with_reducible rfl)
              rotate_left
              ·simp only [Act.put, q73zA, q73zB, q73zC, i64_w, i32_w]
               rfl
              refine done_ (done_of HT_.out qa6) ?_
              try go_wp2
              replace HO_102000 := q73O (Kd.N_drew HO_102000.out); replace HL108_0 := q73O (Kd.V_drew HL108_0.out); replace BK101 := q73O (q73kD BK101.out); replace BK102 := q73O (q73kD BK102.out); replace HR108_0 := q73O (Kd.C_drew HR108_0.out); replace HB := q73O (q73bD HB.out); have p109 : 0 ≤ ((ji22) : Int) := q73T qa138; have q109 : (ji22) < ((rd_L4 x102000_1 ((rd_T58 l1 x5_1).f0)).length : Int) := q73T qa138; obtain ⟨ad109, e109, hx109_0, hx109_1⟩ := at_T43 qa24 (ji22) p109 q109
              cases e109
              replace p109 := eq_true p109; replace q109 := eq_true q109; refine start_ (n := 15) (S := fun w' => w'.cell? ⟨gb101, 0, none⟩ = some (.slice (some ad108) x102000_1.length co49) ∧ w'.cell? ⟨gb101, 1, none⟩ = some (.int .i64 (wrap64 (t106 + 1))) ∧ w'.cell? (ad109.add (((ji22)).toNat * 2)) = some (.int .i64 ((rd_T43 (rd_L4 x102000_1 ((rd_T58 l1 x5_1).f0)) (ji22)).f0)) ∧ w'.cell? ⟨(ad109.add (((ji22)).toNat * 2)).block, (ad109.add (((ji22)).toNat * 2)).off + 1, none⟩ = some (.int .i64 ((rd_T43 (rd_L4 x102000_1 ((rd_T58 l1 x5_1).f0)) (ji22)).f1))) (ds := []) q73y11 qa6 rfl rfl ⟨qc0 BK101.out, qc1 BK101.out, hx109_0, hx109_1⟩ (fun hHeld => ?_); refine with_tabW spec_l06Write.tab9 spec_l06Write.bits9 (fun HT_ HW_ => ?_); generalize w48.drew = w50 at HO_102000 HL108_0 BK101 BK102 HR108_0 HB hx109_0 hx109_1 hHeld ⊢; refine pure_ (i := 0) (N := some 32) (v := ?_) (a' := ?_) q73y12 rfl rfl (any_of HT_.out qa6) (fun _ _ _ h => h) (Or.inl ⟨by rfl, ?_⟩) ?_ ?_; rotate_left
              ·intro w'
               go_simp; (with_reducible rfl)
              rotate_left
              ·simp only [Act.put, q73zA, q73zB, q73zC, i64_w, i32_w]
               rfl
              refine pure_ (i := 1) (N := some 33) (v := ?_) (a' := ?_) q73y13 rfl rfl (any_of HT_.out qa6) (fun _ _ _ h => h) (Or.inl ⟨by rfl, ?_⟩) ?_ ?_; rotate_left
              ·intro w'
               go_simp; (with_reducible rfl)
              rotate_left
              ·simp only [Act.put, q73zA, q73zB, q73zC, i64_w, i32_w]
               rfl
              refine pure_ (i := 2) (N := some 34) (v := ?_) (a' := ?_) q73y14 rfl rfl (any_of HT_.out qa6) (fun _ _ _ h => h) (Or.inl ⟨by rfl, ?_⟩) ?_ ?_; rotate_left
              ·intro w'
               go_simp; (with_reducible rfl)
              rotate_left
              ·simp only [Act.put, q73zA, q73zB, q73zC, i64_w, i32_w]
               rfl
              refine pure_ (i := 3) (N := some 35) (v := ?_) (a' := ?_) q73y15 rfl rfl (any_of HT_.out qa6) (fun _ _ _ h => h) (Or.inl ⟨by rfl, ?_⟩) ?_ ?_; rotate_left
              ·intro w'
               go_simp; (with_reducible rfl)
              rotate_left
              ·simp only [Act.put, q73zA, q73zB, q73zC, i64_w, i32_w]
               rfl
              refine pure_ (i := 4) (N := some 36) (v := ?_) (a' := ?_) q73y16 rfl rfl (any_of HT_.out qa6) (fun _ _ _ h => h) (Or.inl ⟨by rfl, ?_⟩) ?_ ?_; rotate_left
              ·intro w'
               go_simp; (with_reducible rfl)
              rotate_left
              ·simp only [Act.put, q73zA, q73zB, q73zC, i64_w, i32_w]
               rfl
              refine pure_ (i := 5) (N := some 37) (v := ?_) (a' := ?_) q73y17 rfl rfl (any_of HT_.out qa6) (fun _ _ _ h => h) (Or.inl ⟨by rfl, ?_⟩) ?_ ?_; rotate_left
              ·intro w'
               go_simp; (with_reducible rfl)
              rotate_left
              ·simp only [Act.put, q73zA, q73zB, q73zC, i64_w, i32_w]
               rfl
              refine pure_ (i := 6) (N := some 38) (v := ?_) (a' := ?_) q73y18 rfl rfl (any_of HT_.out qa6) (fun _ _ _ h => h) (Or.inl ⟨by rfl, ?_⟩) ?_ ?_; rotate_left
              ·intro w'
               go_simp; (with_reducible rfl)
              rotate_left
              ·simp only [Act.put, q73zA, q73zB, q73zC, i64_w, i32_w]
               rfl
              refine pure_ (i := 7) (N := some 39) (v := ?_) (a' := ?_) q73y19 rfl rfl (any_of HT_.out qa6) (fun _ _ _ h => h) (Or.inl ⟨by rfl, ?_⟩) ?_ ?_; rotate_left
              ·intro w'
               go_simp; (with_reducible rfl)
              rotate_left
              ·simp only [Act.put, q73zA, q73zB, q73zC, i64_w, i32_w]
               rfl
              refine pure_ (i := 8) (N := some 40) (v := ?_) (a' := ?_) q73y20 rfl rfl (any_of HT_.out qa6) (fun _ _ _ h => h) (Or.inl ⟨by rfl, ?_⟩) ?_ ?_; rotate_left
              ·intro w'
               go_simp; (with_reducible rfl)
              rotate_left
              ·simp only [Act.put, q73zA, q73zB, q73zC, i64_w, i32_w]
               rfl
              refine pure_ (i := 9) (N := some 41) (v := ?_) (a' := ?_) q73y21 rfl rfl (any_of HT_.out qa6) (fun _ _ _ h => h) (Or.inl ⟨by rfl, ?_⟩) ?_ ?_; rotate_left
              ·intro w'
               go_simp; (with_reducible rfl)
              rotate_left
              ·simp only [Act.put, q73zA, q73zB, q73zC, i64_w, i32_w]
               rfl
              refine pure_ (i := 11) (N := some 43) (v := ?_) (a' := ?_) q73y22 rfl rfl (any_of HT_.out qa6) (fun _ _ _ h => h) (Or.inl ⟨by rfl, ?_⟩) ?_ ?_; rotate_left
              ·intro w'
               go_simp; (with_reducible rfl)
              rotate_left
              ·simp only [Act.put, q73zA, q73zB, q73zC, i64_w, i32_w]
               rfl
              refine take_ (i := 10) (N := some 42) (v := ?_) (a' := ?_) q73y23 rfl rfl (take_ofW HT_.out HW_.out qa6) (fun _ _ _ h => h) (Or.inl ⟨by rfl, ?_⟩) hHeld ?_ ?_; rotate_left
              ·rintro w' ⟨s0, s1, s2, s3⟩
               go_simp; (with_reducible rfl)
              rotate_left
              ·simp only [Act.put, q73zA, q73zB, q73zC, i64_w, i32_w]
               rfl
              refine take_ (i := 12) (N := some 44) (v := ?_) (a' := ?_) q73y24 rfl rfl (take_ofW HT_.out HW_.out qa6) (fun _ _ _ h => h) (Or.inl ⟨by rfl, ?_⟩) hHeld ?_ ?_; rotate_left
              ·rintro w' ⟨s0, s1, s2, s3⟩
               go_simp; (with_reducible rfl)
              rotate_left
              ·simp only [Act.put, q73zA, q73zB, q73zC, i64_w, i32_w]
               rfl
              refine pure_ (i := 13) (N := some 45) (v := ?_) (a' := ?_) q73y25 rfl rfl (any_of HT_.out qa6) (fun _ _ _ h => h) (Or.inl ⟨by rfl, ?_⟩) ?_ ?_; rotate_left
              ·intro w'
               go_simp; (with_reducible rfl)
              rotate_left
              ·simp only [Act.put, q73zA, q73zB, q73zC, i64_w, i32_w]
               rfl
              refine pure_ (i := 14) (N := some 46) (v := ?_) (a' := ?_) q73y26 rfl rfl (any_of HT_.out qa6) (fun _ _ _ h => h) (Or.inl ⟨by rfl, ?_⟩) ?_ ?_; rotate_left
              ·intro w'
               go_simp; (with_reducible rfl)
              rotate_left
              ·simp only [Act.put, q73zA, q73zB, q73zC, i64_w, i32_w]
               rfl
              refine done_ (done_of HT_.out qa6) ?_
              try go_wp2
              replace HO_102000 := q73O (Kd.N_drew HO_102000.out); replace HL108_0 := q73O (Kd.V_drew HL108_0.out); replace BK101 := q73O (q73kD BK101.out); replace BK102 := q73O (q73kD BK102.out); replace HR108_0 := q73O (Kd.C_drew HR108_0.out); replace HB := q73O (q73bD HB.out); have p130 : 0 ≤ (x5_1 : Int) := q73T qa138; have q130 : x5_1 < (l1.length : Int) := q73T qa138; obtain ⟨ad130, e130, hx130_0, hx130_1⟩ := at_T58 HR1.out x5_1 p130 q130; have hw130_1 := hx130_1; have hw130_0 := hx130_0; obtain rfl : ad107 = ad130 := (by injection e130); replace hx130_0 := (HB.out.cell (q73L w _ hx130_0)).trans hx130_0; replace hx130_1 := (HB.out.cell (q73L w _ hx130_1)).trans hx130_1; replace p130 := eq_true p130; replace q130 := eq_true q130; have p137 : 0 ≤ (x5_1 : Int) := q73T qa138; have q137 : x5_1 < (l1.length : Int) := q73T qa138; obtain ⟨ad137, e137, hx137_0, hx137_1⟩ := at_T58 HR1.out x5_1 p137 q137; have hw137_1 := hx137_1; have hw137_0 := hx137_0; obtain rfl : ad107 = ad137 := (by injection e137); replace hx137_0 := (HB.out.cell (q73L w _ hx137_0)).trans hx137_0; replace hx137_1 := (HB.out.cell (q73L w _ hx137_1)).trans hx137_1; replace p137 := eq_true p137; replace q137 := eq_true q137; refine start_ (n := 22) (S := fun w' => w'.cell? ⟨gb101, 0, none⟩ = some (.slice (some ad108) x102000_1.length co49) ∧ w'.cell? ⟨gb101, 1, none⟩ = some (.int .i64 (wrap64 (t106 + 1))) ∧ w'.cell? (ad107.add ((x5_1).toNat * 2)) = some (.int .i64 ((rd_T58 l1 x5_1).f0)) ∧ w'.cell? ⟨(ad107.add ((x5_1).toNat * 2)).block, (ad107.add ((x5_1).toNat * 2)).off + 1, none⟩ = some (.int .i64 ((rd_T58 l1 x5_1).f1)) ∧ w'.cell? (ad107.add ((x5_1).toNat * 2)) = some (.int .i64 ((rd_T58 l1 x5_1).f0)) ∧ w'.cell? ⟨(ad107.add ((x5_1).toNat * 2)).block, (ad107.add ((x5_1).toNat * 2)).off + 1, none⟩ = some (.int .i64 ((rd_T58 l1 x5_1).f1))) (ds := [21]) q73y27 qa6 rfl rfl ⟨qc0 BK101.out, qc1 BK101.out, ((HB.out.cell (q73L w _ hw130_0)).trans hw130_0), ((HB.out.cell (q73L w _ hw130_1)).trans hw130_1), ((HB.out.cell (q73L w _ hw137_0)).trans hw137_0), ((HB.out.cell (q73L w _ hw137_1)).trans hw137_1)⟩ (fun hHeld => ?_); refine with_tabW spec_l06Write.tab11 spec_l06Write.bits11 (fun HT_ HW_ => ?_); generalize w50.drew = w51 at HO_102000 HL108_0 BK101 BK102 HR108_0 HB hx130_0 hx130_1 hx137_0 hx137_1 hHeld ⊢; refine pure_ (i := 0) (N := some 52) (v := ?_) (a' := ?_) q73y28 rfl rfl (any_of HT_.out qa6) (fun _ _ _ h => h) (Or.inl ⟨by rfl, ?_⟩) ?_ ?_; rotate_left
              ·intro w'
               go_simp; (with_reducible rfl)
              rotate_left
              ·simp only [Act.put, q73zA, q73zB, q73zC, i64_w, i32_w]
               rfl
              refine pure_ (i := 2) (N := some 54) (v := ?_) (a' := ?_) q73y29 rfl rfl (any_of HT_.out qa6) (fun _ _ _ h => h) (Or.inl ⟨by rfl, ?_⟩) ?_ ?_; rotate_left
              ·intro w'
               go_simp; (with_reducible rfl)
              rotate_left
              ·simp only [Act.put, q73zA, q73zB, q73zC, i64_w, i32_w]
               rfl
              refine pure_ (i := 3) (N := some 55) (v := ?_) (a' := ?_) q73y30 rfl rfl (any_of HT_.out qa6) (fun _ _ _ h => h) (Or.inl ⟨by rfl, ?_⟩) ?_ ?_; rotate_left
              ·intro w'
               go_simp; (with_reducible rfl)
              rotate_left
              ·simp only [Act.put, q73zA, q73zB, q73zC, i64_w, i32_w]
               rfl
              refine pure_ (i := 4) (N := some 56) (v := ?_) (a' := ?_) q73y31 rfl rfl (any_of HT_.out qa6) (fun _ _ _ h => h) (Or.inl ⟨by rfl, ?_⟩) ?_ ?_; rotate_left
              ·intro w'
               go_simp; (with_reducible rfl)
              rotate_left
              ·simp only [Act.put, q73zA, q73zB, q73zC, i64_w, i32_w]
               rfl
              refine pure_ (i := 5) (N := some 57) (v := ?_) (a' := ?_) q73y32 rfl rfl (any_of HT_.out qa6) (fun _ _ _ h => h) (Or.inl ⟨by rfl, ?_⟩) ?_ ?_; rotate_left
              ·intro w'
               go_simp; (with_reducible rfl)
              rotate_left
              ·simp only [Act.put, q73zA, q73zB, q73zC, i64_w, i32_w]
               rfl
              refine pure_ (i := 8) (N := some 60) (v := ?_) (a' := ?_) q73y33 rfl rfl (any_of HT_.out qa6) (fun _ _ _ h => h) (Or.inl ⟨by rfl, ?_⟩) ?_ ?_; rotate_left
              ·intro w'
               go_simp; (with_reducible rfl)
              rotate_left
              ·simp only [Act.put, q73zA, q73zB, q73zC, i64_w, i32_w]
               rfl
              refine pure_ (i := 10) (N := some 62) (v := ?_) (a' := ?_) q73y34 rfl rfl (any_of HT_.out qa6) (fun _ _ _ h => h) (Or.inl ⟨by rfl, ?_⟩) ?_ ?_; rotate_left
              ·intro w'
               go_simp; (with_reducible rfl)
              rotate_left
              ·simp only [Act.put, q73zA, q73zB, q73zC, i64_w, i32_w]
               rfl
              refine pure_ (i := 12) (N := some 64) (v := ?_) (a' := ?_) q73y35 rfl rfl (any_of HT_.out qa6) (fun _ _ _ h => h) (Or.inl ⟨by rfl, ?_⟩) ?_ ?_; rotate_left
              ·intro w'
               go_simp; (with_reducible rfl)
              rotate_left
              ·simp only [Act.put, q73zA, q73zB, q73zC, i64_w, i32_w]
               rfl
              refine pure_ (i := 13) (N := some 65) (v := ?_) (a' := ?_) q73y36 rfl rfl (any_of HT_.out qa6) (fun _ _ _ h => h) (Or.inl ⟨by rfl, ?_⟩) ?_ ?_; rotate_left
              ·intro w'
               go_simp; (with_reducible rfl)
              rotate_left
              ·simp only [Act.put, q73zA, q73zB, q73zC, i64_w, i32_w]
               rfl
              refine pure_ (i := 14) (N := some 66) (v := ?_) (a' := ?_) q73y37 rfl rfl (any_of HT_.out qa6) (fun _ _ _ h => h) (Or.inl ⟨by rfl, ?_⟩) ?_ ?_; rotate_left
              ·intro w'
               go_simp; (with_reducible rfl)
              rotate_left
              ·simp only [Act.put, q73zA, q73zB, q73zC, i64_w, i32_w]
               rfl
              refine pure_ (i := 15) (N := some 67) (v := ?_) (a' := ?_) q73y38 rfl rfl (any_of HT_.out qa6) (fun _ _ _ h => h) (Or.inl ⟨by rfl, ?_⟩) ?_ ?_; rotate_left
              ·intro w'
               go_simp; (with_reducible rfl)
              rotate_left
              ·simp only [Act.put, q73zA, q73zB, q73zC, i64_w, i32_w]
               rfl
              refine take_ (i := 1) (N := some 53) (v := ?_) (a' := ?_) q73y39 rfl rfl (take_ofW HT_.out HW_.out qa6) (fun _ _ _ h => h) (Or.inl ⟨by rfl, ?_⟩) hHeld ?_ ?_; rotate_left
              ·rintro w' ⟨s0, s1, s2, s3, s4, s5⟩
               go_simp; (with_reducible rfl)
              rotate_left
              ·simp only [Act.put, q73zA, q73zB, q73zC, i64_w, i32_w]
               rfl
              refine take_ (i := 6) (N := some 58) (v := ?_) (a' := ?_) q73y40 rfl rfl (take_ofW HT_.out HW_.out qa6) (fun _ _ _ h => h) (Or.inl ⟨by rfl, ?_⟩) hHeld ?_ ?_; rotate_left
              ·rintro w' ⟨s0, s1, s2, s3, s4, s5⟩
               go_simp; (with_reducible rfl)
              rotate_left
              ·simp only [Act.put, q73zA, q73zB, q73zC, i64_w, i32_w]
               rfl
              refine take_ (i := 11) (N := some 63) (v := ?_) (a' := ?_) q73y41 rfl rfl (take_ofW HT_.out HW_.out qa6) (fun _ _ _ h => h) (Or.inl ⟨by rfl, ?_⟩) hHeld ?_ ?_; rotate_left
              ·rintro w' ⟨s0, s1, s2, s3, s4, s5⟩
               go_simp; (with_reducible rfl)
              rotate_left
              ·simp only [Act.put, q73zA, q73zB, q73zC, i64_w, i32_w]
               rfl
              refine take_ (i := 16) (N := some 68) (v := ?_) (a' := ?_) q73y42 rfl rfl (take_ofW HT_.out HW_.out qa6) (fun _ _ _ h => h) (Or.inl ⟨by rfl, ?_⟩) hHeld ?_ ?_; rotate_left
              ·rintro w' ⟨s0, s1, s2, s3, s4, s5⟩
               go_simp; (with_reducible rfl)
              rotate_left
              ·simp only [Act.put, q73zA, q73zB, q73zC, i64_w, i32_w]
               rfl
              refine pure_ (i := 17) (N := some 69) (v := ?_) (a' := ?_) q73y43 rfl rfl (any_of HT_.out qa6) (fun _ _ _ h => h) (Or.inl ⟨by rfl, ?_⟩) ?_ ?_; rotate_left
              ·intro w'
               go_simp; (with_reducible rfl)
              rotate_left
              ·simp only [Act.put, q73zA, q73zB, q73zC, i64_w, i32_w]
               rfl
              refine join_ (σ := Value × Value × Value) 3 q73y44 (fun s_ => [(59, s_.1), (61, s_.2.1), (70, s_.2.2)]) (fun s_ w' => (w'.cell? ⟨gb101, 0, none⟩ = some (.slice (some ad108) x102000_1.length co49) ∧ w'.cell? ⟨gb101, 1, none⟩ = some (.int .i64 (wrap64 (t106 + 1))) ∧ w'.cell? (ad107.add ((x5_1).toNat * 2)) = some (.int .i64 ((rd_T58 l1 x5_1).f0)) ∧ w'.cell? ⟨(ad107.add ((x5_1).toNat * 2)).block, (ad107.add ((x5_1).toNat * 2)).off + 1, none⟩ = some (.int .i64 ((rd_T58 l1 x5_1).f1)) ∧ w'.cell? (ad107.add ((x5_1).toNat * 2)) = some (.int .i64 ((rd_T58 l1 x5_1).f0)) ∧ w'.cell? ⟨(ad107.add ((x5_1).toNat * 2)).block, (ad107.add ((x5_1).toNat * 2)).off + 1, none⟩ = some (.int .i64 ((rd_T58 l1 x5_1).f1))) ∧ (Kd.V k43 43 w' w.heap.size (fun k_ => (P0_0_ k_ ∨ w.heap.size ≤ k_) ∧ some k_ ≠ (s_.2.1 : Value).ownBlock ∧ some k_ ≠ (s_.2.2 : Value).ownBlock ∧ some k_ ≠ (.slice (some ad108) x102000_1.length co49 : Value).ownBlock ∧ k_ ≠ gb101 ∧ k_ ≠ gb102) (.slice (some ad109) (rd_L4 x102000_1 ((rd_T58 l1 x5_1).f0)).length c108_0) (rd_L4 x102000_1 ((rd_T58 l1 x5_1).f0))) ∧ (Kd.R k43 43 w' w.heap.size (fun k_ => (w.heap.size ≤ k_) ∧ some k_ ≠ (s_.2.2 : Value).ownBlock) s_.2.1 y134) ∧ (Kd.R k43 43 w' w.heap.size (fun k_ => (w.heap.size ≤ k_) ∧ some k_ ≠ (s_.2.1 : Value).ownBlock) s_.2.2 y138) ∧ (Kd.N (Kd.slice 43 k43) 41 w' w.heap.size (fun k_ => (P0_0_ k_ ∨ w.heap.size ≤ k_) ∧ some k_ ≠ (s_.2.1 : Value).ownBlock ∧ some k_ ≠ (s_.2.2 : Value).ownBlock ∧ k_ ≠ gb101 ∧ k_ ≠ gb102) (.slice (some ad108) x102000_1.length co49) x102000_1) ∧ (w'.heap[gb101]? = some (.cells #[.slice (some ad108) x102000_1.length co49, .int .i64 (wrap64 (t106 + 1))] 28 (0, 0))) ∧ (w'.heap[gb102]? = some (.cells #[.slice none 0 0, .int .i64 0] 28 (0, 0))) ∧ (Below w.heap.size w w')) ?_ ?_; rotate_left
              ·intro hCont
               refine two_ (i := 7) (j := 18) (Ni := some 59) (Nj := some 70) q73y45 q73y46 rfl rfl rfl rfl (two_of HT_.out qa6) qa60 qa60 (fun K hK => ?_) (fun K hK => ?_)
               ·skip
                refine Kd.R_lit_step k43 _ 43 ?hg (N := 59) ?hd (xs := ([] : List (S43))) (inner := []) (ok := fun _ => True) (okp := fun _ => True) ?hr ?hp (fun _ hk => hk) trivial (Below.refl _ _) (Nat.le_refl _) qa119 ?_; (case hd => rfl); (case hg => rfl); (case hr => exact qa18); (case hp => exact qa196); intro v132 w52 ho53 hb hg_ hnew_; clear hg_ hnew_; (first | rw [← Ny131.out] at ho53 | (simp only [Int.reduceToNat] at ho53; rw [← Ny131.out] at ho53)); have HO133 := q73O (Kd.R_lower (Kd.R_newM (M := fun k_ => (w.heap.size ≤ k_)) ho53 (below_size qa5) (fun k_ h_ => h_)) (below_size qa5)); replace HO_102000 := q73O (Kd.N_elder' qa46 (Kd.R_base ho53) hb); replace HL108_0 := q73O (Kd.V_elder' qa52 (Kd.R_base ho53) hb); replace BK101 := q73O (blk_below (g := gb101) (o := .cells #[.slice (some ad108) x102000_1.length co49, .int .i64 (wrap64 (t106 + 1))] 28 (0, 0)) qa26 hb); replace BK102 := q73O (blk_below (g := gb102) (o := .cells #[.slice none 0 0, .int .i64 0] 28 (0, 0)) qa28 hb); replace HR108_0 := q73O (Kd.C_below qa24 hb); replace HB := q73O (below_step qa5 hb); clear hb ho53; refine hK.out _ _ ⟨qc0 BK101.out, qc1 BK101.out, ((HB.out.cell (q73L w _ hw130_0)).trans hw130_0), ((HB.out.cell (q73L w _ hw130_1)).trans hw130_1), ((HB.out.cell (q73L w _ hw137_0)).trans hw137_0), ((HB.out.cell (q73L w _ hw137_1)).trans hw137_1)⟩ (fun hHeld => ?_); clear hK K; refine norm_ (a' := ?_) ?_ ?_; rotate_left
                ·exact qa29
                refine two_ (i := 9) (j := 18) (Ni := some 61) (Nj := some 70) q73y47 q73y48 rfl rfl rfl rfl (two_of HT_.out qa6) qa60 qa60 (fun K hK => ?_) (fun K hK => ?_)
                ·skip
                 refine Kd.R_append_rows_step k43 (w0 := w) w.heap.size (by rfl) (.tmp 59) (.tmp 60) 41 43 (.agg #[(.int .i64 0), (.int .i64 0)]) 16 rfl Try.underlying41 info43 rfl qa60 qa34 v132 y131 (rd_L4 x102000_1 ((rd_T58 l1 x5_1).f0)) _ _ _ (fun k_ => (w.heap.size ≤ k_)) (fun _ => False) rfl rfl ?aO ?aR (fun _ _ h => h) (fun _ h => h.elim) ?aF ?aB ?aS ?aL ?_; (case aR => exact qa47); (case aB => exact qa44); (case aF => exact qa118); (case aO => exact (by (with_reducible repeat (first | apply Kd.R_alloc | apply Kd.R_drewN | apply Kd.R_drew)); exact Kd.R_mono HO133.out (fun _ hk => hk.1))); (case aS => exact qa39); (case aL => have := LMc45.out; omega); intro v135 w54 ho hb hg hat; rw [← Ny134.out] at ho; have n0_ := q73O (Kd.N_afterv (ok := (fun k_ => (P0_0_ k_ ∨ w.heap.size ≤ k_) ∧ k_ ≠ gb101 ∧ k_ ≠ gb102)) qa46 hg hat); have n1_ := q73O (blk_grown (g := gb101) (o := .cells #[.slice (some ad108) x102000_1.length co49, .int .i64 (wrap64 (t106 + 1))] 28 (0, 0)) qa26 hg (Kd.R_ne HO133.out BK101.out qa60)); have n2_ := q73O (blk_grown (g := gb102) (o := .cells #[.slice none 0 0, .int .i64 0] 28 (0, 0)) qa28 hg (Kd.R_ne HO133.out BK102.out qa60)); have n3_ := q73O (Kd.V_afterv (ok := (fun k_ => (P0_0_ k_ ∨ w.heap.size ≤ k_) ∧ some k_ ≠ (.slice (some ad108) x102000_1.length co49 : Value).ownBlock ∧ k_ ≠ gb101 ∧ k_ ≠ gb102)) qa131 hg hat); have n4_ := q73O (hb); have n5_ := q73O (ho); clear HO_102000 BK101 BK102 HL108_0 HB HO133; have HO_102000 := n0_; have BK101 := n1_; have BK102 := n2_; have HL108_0 := n3_; have HB := n4_; have HO136 := n5_; clear n0_ n1_ n2_ n3_ n4_ n5_ ho hb hg hat; refine hK.out _ _ ⟨qc0 BK101.out, qc1 BK101.out, ((HB.out.cell (q73L w _ hw130_0)).trans hw130_0), ((HB.out.cell (q73L w _ hw130_1)).trans hw130_1), ((HB.out.cell (q73L w _ hw137_0)).trans hw137_0), ((HB.out.cell (q73L w _ hw137_1)).trans hw137_1)⟩ (fun hHeld => ?_); clear hK K; refine norm_ (a' := ?_) ?_ ?_; rotate_left
                 ·exact qa29
                 refine one_ (i := 18) (N := some 70) q73y44 rfl rfl (one_of HT_.out qa6) qa60 (fun K hK => ?_); refine Kd.R_lit_step k43 _ 43 ?hg (N := 70) ?hd (xs := ([(⟨(wrap64 (t106 + 1)), (rd_T58 l1 x5_1).f1⟩ : S43)] : List (S43))) (inner := [.int .i64 (wrap64 (t106 + 1)), .int .i64 ((rd_T58 l1 x5_1).f1)]) (ok := fun _ => True) (okp := fun _ => True) ?hr ?hp (fun _ hk => hk) trivial (Below.refl _ _) (Nat.le_refl _) qa119 ?_; (case hd => rfl); (case hg => rfl); (case hr => exact qa18); (case hp => exact qa42); intro v139 w55 ho56 hb hg_ hnew_; clear hg_ hnew_; (first | rw [← Ny138.out] at ho56 | (simp only [Int.reduceToNat] at ho56; rw [← Ny138.out] at ho56)); have HO140 := q73O (Kd.R_lower (Kd.R_new' (Kd.R_newM (M := fun k_ => (w.heap.size ≤ k_)) ho56 (below_size qa5) (fun k_ h_ => h_)) (Kd.R_lt qa180)) (below_size qa5)); replace HO_102000 := q73O (Kd.N_elder' qa46 (Kd.R_base ho56) hb); replace HL108_0 := q73O (Kd.V_elder' qa52 (Kd.R_base ho56) hb); replace HO136 := q73O (Kd.R_elder' qa180 (Kd.R_base ho56) hb); replace BK101 := q73O (blk_below (g := gb101) (o := .cells #[.slice (some ad108) x102000_1.length co49, .int .i64 (wrap64 (t106 + 1))] 28 (0, 0)) qa26 hb); replace BK102 := q73O (blk_below (g := gb102) (o := .cells #[.slice none 0 0, .int .i64 0] 28 (0, 0)) qa28 hb); replace HB := q73O (below_step qa5 hb); clear hb ho56; refine hK.out _ _ ⟨qc0 BK101.out, qc1 BK101.out, ((HB.out.cell (q73L w _ hw130_0)).trans hw130_0), ((HB.out.cell (q73L w _ hw130_1)).trans hw130_1), ((HB.out.cell (q73L w _ hw137_0)).trans hw137_0), ((HB.out.cell (q73L w _ hw137_1)).trans hw137_1)⟩ (fun hHeld => ?_); clear hK K; refine norm_ (a' := ?_) ?_ ?_; rotate_left
                 ·exact qa29
                 exact norm_ (by simp only [putAll, Act.put, q73zA, q73zB, q73zC]) (hCont (v132, v135, v139) _ ⟨hHeld, (by (with_reducible repeat (first | apply Kd.V_alloc | apply Kd.V_drewN | apply Kd.V_drew)); exact Kd.V_mono HL108_0.out (fun _ hk => ⟨hk.1.1.1, ⟨hk.1.2, ⟨hk.2, ⟨hk.1.1.2.1, ⟨hk.1.1.2.2.1, hk.1.1.2.2.2⟩⟩⟩⟩⟩)), (by (with_reducible repeat (first | apply Kd.R_alloc | apply Kd.R_drewN | apply Kd.R_drew)); exact HO136.out), (by (with_reducible repeat (first | apply Kd.R_alloc | apply Kd.R_drewN | apply Kd.R_drew)); exact Kd.R_mono HO140.out (fun _ hk => ⟨hk.1.1, hk.2⟩)), (by (with_reducible repeat (first | apply Kd.N_alloc | apply Kd.N_drewN | apply Kd.N_drew)); exact Kd.N_mono HO_102000.out (fun _ hk => ⟨hk.1.1.1, ⟨hk.1.2, ⟨hk.2, ⟨hk.1.1.2.1, hk.1.1.2.2⟩⟩⟩⟩)), (by (with_reducible repeat (first | refine q73kN ?_ _ | refine q73kD ?_ | refine q73kA ?_ _)); exact BK101.out), (by (with_reducible repeat (first | refine q73kN ?_ _ | refine q73kD ?_ | refine q73kA ?_ _)); exact BK102.out), (by repeat (first | (with_reducible first | exact HB.out | apply q73bA | apply q73bN | apply q73bD | refine q73bS ?_ GE101.out | refine q73bS ?_ GE102.out) | exact HB.out))⟩)
                ·skip
                 refine Kd.R_lit_step k43 _ 43 ?hg (N := 70) ?hd (xs := ([(⟨(wrap64 (t106 + 1)), (rd_T58 l1 x5_1).f1⟩ : S43)] : List (S43))) (inner := [.int .i64 (wrap64 (t106 + 1)), .int .i64 ((rd_T58 l1 x5_1).f1)]) (ok := fun _ => True) (okp := fun _ => True) ?hr ?hp (fun _ hk => hk) trivial (Below.refl _ _) (Nat.le_refl _) qa119 ?_; (case hd => rfl); (case hg => rfl); (case hr => exact qa18); (case hp => exact qa42); intro v139 w54 ho55 hb hg_ hnew_; clear hg_ hnew_; (first | rw [← Ny138.out] at ho55 | (simp only [Int.reduceToNat] at ho55; rw [← Ny138.out] at ho55)); have HO140 := q73O (Kd.R_lower (Kd.R_new' (Kd.R_newM (M := fun k_ => (w.heap.size ≤ k_)) ho55 (below_size qa5) (fun k_ h_ => h_)) (Kd.R_lt qa181)) (below_size qa5)); replace HO_102000 := q73O (Kd.N_elder' qa46 (Kd.R_base ho55) hb); replace HL108_0 := q73O (Kd.V_elder' qa52 (Kd.R_base ho55) hb); replace HO133 := q73O (Kd.R_elder' qa181 (Kd.R_base ho55) hb); replace BK101 := q73O (blk_below (g := gb101) (o := .cells #[.slice (some ad108) x102000_1.length co49, .int .i64 (wrap64 (t106 + 1))] 28 (0, 0)) qa26 hb); replace BK102 := q73O (blk_below (g := gb102) (o := .cells #[.slice none 0 0, .int .i64 0] 28 (0, 0)) qa28 hb); replace HR108_0 := q73O (Kd.C_below qa24 hb); replace HB := q73O (below_step qa5 hb); clear hb ho55; refine hK.out _ _ ⟨qc0 BK101.out, qc1 BK101.out, ((HB.out.cell (q73L w _ hw130_0)).trans hw130_0), ((HB.out.cell (q73L w _ hw130_1)).trans hw130_1), ((HB.out.cell (q73L w _ hw137_0)).trans hw137_0), ((HB.out.cell (q73L w _ hw137_1)).trans hw137_1)⟩ (fun hHeld => ?_); clear hK K; refine norm_ (a' := ?_) ?_ ?_; rotate_left
                 ·exact qa29
                 refine one_ (i := 9) (N := some 61) q73y44 rfl rfl (one_of HT_.out qa6) qa60 (fun K hK => ?_); refine Kd.R_append_rows_step k43 (w0 := w) w.heap.size (by rfl) (.tmp 59) (.tmp 60) 41 43 (.agg #[(.int .i64 0), (.int .i64 0)]) 16 rfl Try.underlying41 info43 rfl qa60 qa34 v132 y131 (rd_L4 x102000_1 ((rd_T58 l1 x5_1).f0)) _ _ _ (fun k_ => (w.heap.size ≤ k_) ∧ some k_ ≠ (v139 : Value).ownBlock) (fun _ => False) rfl rfl ?aO ?aR (fun _ _ h => h) (fun _ h => h.elim) ?aF ?aB ?aS ?aL ?_; (case aR => exact qa47); (case aB => exact qa44); (case aF => exact qa79); (case aO => exact qa164); (case aS => exact qa39); (case aL => have := LMc45.out; omega); intro v135 w56 ho hb hg hat; rw [← Ny134.out] at ho; have n0_ := q73O (Kd.N_afterv (ok := (fun k_ => (P0_0_ k_ ∨ w.heap.size ≤ k_) ∧ some k_ ≠ (v139 : Value).ownBlock ∧ k_ ≠ gb101 ∧ k_ ≠ gb102)) qa128 hg hat); have n1_ := q73O (blk_grown (g := gb101) (o := .cells #[.slice (some ad108) x102000_1.length co49, .int .i64 (wrap64 (t106 + 1))] 28 (0, 0)) qa26 hg (Kd.R_ne HO133.out BK101.out qa60)); have n2_ := q73O (blk_grown (g := gb102) (o := .cells #[.slice none 0 0, .int .i64 0] 28 (0, 0)) qa28 hg (Kd.R_ne HO133.out BK102.out qa60)); have n3_ := q73O (Kd.V_afterv (ok := (fun k_ => (P0_0_ k_ ∨ w.heap.size ≤ k_) ∧ some k_ ≠ (.slice (some ad108) x102000_1.length co49 : Value).ownBlock ∧ some k_ ≠ (v139 : Value).ownBlock ∧ k_ ≠ gb101 ∧ k_ ≠ gb102)) qa122 hg hat); have n4_ := q73O (Kd.R_after (ok := (fun k_ => (w.heap.size ≤ k_))) qa165 hg hat); have n5_ := q73O (hb); have n6_ := q73O (ho); clear HO_102000 BK101 BK102 HL108_0 HO140 HB HO133; have HO_102000 := n0_; have BK101 := n1_; have BK102 := n2_; have HL108_0 := n3_; have HO140 := n4_; have HB := n5_; have HO136 := n6_; clear n0_ n1_ n2_ n3_ n4_ n5_ n6_ ho hb hg hat; refine hK.out _ _ ⟨qc0 BK101.out, qc1 BK101.out, ((HB.out.cell (q73L w _ hw130_0)).trans hw130_0), ((HB.out.cell (q73L w _ hw130_1)).trans hw130_1), ((HB.out.cell (q73L w _ hw137_0)).trans hw137_0), ((HB.out.cell (q73L w _ hw137_1)).trans hw137_1)⟩ (fun hHeld => ?_); clear hK K; refine norm_ (a' := ?_) ?_ ?_; rotate_left
                 ·exact qa29
                 exact norm_ (by simp only [putAll, Act.put, q73zA, q73zB, q73zC]) (hCont (v132, v135, v139) _ ⟨hHeld, (by (with_reducible repeat (first | apply Kd.V_alloc | apply Kd.V_drewN | apply Kd.V_drew)); exact Kd.V_mono HL108_0.out (fun _ hk => ⟨hk.1.1, ⟨hk.2, ⟨hk.1.2.2.1, ⟨hk.1.2.1, ⟨hk.1.2.2.2.1, hk.1.2.2.2.2⟩⟩⟩⟩⟩)), (by (with_reducible repeat (first | apply Kd.R_alloc | apply Kd.R_drewN | apply Kd.R_drew)); exact HO136.out), (by (with_reducible repeat (first | apply Kd.R_alloc | apply Kd.R_drewN | apply Kd.R_drew)); exact HO140.out), (by (with_reducible repeat (first | apply Kd.N_alloc | apply Kd.N_drewN | apply Kd.N_drew)); exact Kd.N_mono HO_102000.out (fun _ hk => ⟨hk.1.1, ⟨hk.2, ⟨hk.1.2.1, ⟨hk.1.2.2.1, hk.1.2.2.2⟩⟩⟩⟩)), (by (with_reducible repeat (first | refine q73kN ?_ _ | refine q73kD ?_ | refine q73kA ?_ _)); exact BK101.out), (by (with_reducible repeat (first | refine q73kN ?_ _ | refine q73kD ?_ | refine q73kA ?_ _)); exact BK102.out), (by repeat (first | (with_reducible first | exact HB.out | apply q73bA | apply q73bN | apply q73bD | refine q73bS ?_ GE101.out | refine q73bS ?_ GE102.out) | exact HB.out))⟩)
               ·skip
                refine Kd.R_lit_step k43 _ 43 ?hg (N := 70) ?hd (xs := ([(⟨(wrap64 (t106 + 1)), (rd_T58 l1 x5_1).f1⟩ : S43)] : List (S43))) (inner := [.int .i64 (wrap64 (t106 + 1)), .int .i64 ((rd_T58 l1 x5_1).f1)]) (ok := fun _ => True) (okp := fun _ => True) ?hr ?hp (fun _ hk => hk) trivial (Below.refl _ _) (Nat.le_refl _) qa119 ?_; (case hd => rfl); (case hg => rfl); (case hr => exact qa18); (case hp => exact qa42); intro v139 w52 ho53 hb hg_ hnew_; clear hg_ hnew_; (first | rw [← Ny138.out] at ho53 | (simp only [Int.reduceToNat] at ho53; rw [← Ny138.out] at ho53)); have HO140 := q73O (Kd.R_lower (Kd.R_newM (M := fun k_ => (w.heap.size ≤ k_)) ho53 (below_size qa5) (fun k_ h_ => h_)) (below_size qa5)); replace HO_102000 := q73O (Kd.N_elder' qa46 (Kd.R_base ho53) hb); replace HL108_0 := q73O (Kd.V_elder' qa52 (Kd.R_base ho53) hb); replace BK101 := q73O (blk_below (g := gb101) (o := .cells #[.slice (some ad108) x102000_1.length co49, .int .i64 (wrap64 (t106 + 1))] 28 (0, 0)) qa26 hb); replace BK102 := q73O (blk_below (g := gb102) (o := .cells #[.slice none 0 0, .int .i64 0] 28 (0, 0)) qa28 hb); replace HR108_0 := q73O (Kd.C_below qa24 hb); replace HB := q73O (below_step qa5 hb); clear hb ho53; refine hK.out _ _ ⟨qc0 BK101.out, qc1 BK101.out, ((HB.out.cell (q73L w _ hw130_0)).trans hw130_0), ((HB.out.cell (q73L w _ hw130_1)).trans hw130_1), ((HB.out.cell (q73L w _ hw137_0)).trans hw137_0), ((HB.out.cell (q73L w _ hw137_1)).trans hw137_1)⟩ (fun hHeld => ?_); clear hK K; refine norm_ (a' := ?_) ?_ ?_; rotate_left
                ·exact qa29
                refine one_ (i := 7) (N := some 59) q73y48 rfl rfl (one_of HT_.out qa6) qa60 (fun K hK => ?_); refine Kd.R_lit_step k43 _ 43 ?hg (N := 59) ?hd (xs := ([] : List (S43))) (inner := []) (ok := fun _ => True) (okp := fun _ => True) ?hr ?hp (fun _ hk => hk) trivial (Below.refl _ _) (Nat.le_refl _) qa119 ?_; (case hd => rfl); (case hg => rfl); (case hr => exact qa18); (case hp => exact qa196); intro v132 w54 ho55 hb hg_ hnew_; clear hg_ hnew_; (first | rw [← Ny131.out] at ho55 | (simp only [Int.reduceToNat] at ho55; rw [← Ny131.out] at ho55)); have HO133 := q73O (Kd.R_lower (Kd.R_new' (Kd.R_newM (M := fun k_ => (w.heap.size ≤ k_)) ho55 (below_size qa5) (fun k_ h_ => h_)) (Kd.R_lt qa158)) (below_size qa5)); replace HO_102000 := q73O (Kd.N_elder' qa46 (Kd.R_base ho55) hb); replace HL108_0 := q73O (Kd.V_elder' qa52 (Kd.R_base ho55) hb); replace HO140 := q73O (Kd.R_elder' qa158 (Kd.R_base ho55) hb); replace BK101 := q73O (blk_below (g := gb101) (o := .cells #[.slice (some ad108) x102000_1.length co49, .int .i64 (wrap64 (t106 + 1))] 28 (0, 0)) qa26 hb); replace BK102 := q73O (blk_below (g := gb102) (o := .cells #[.slice none 0 0, .int .i64 0] 28 (0, 0)) qa28 hb); replace HR108_0 := q73O (Kd.C_below qa24 hb); replace HB := q73O (below_step qa5 hb); clear hb ho55; refine hK.out _ _ ⟨qc0 BK101.out, qc1 BK101.out, ((HB.out.cell (q73L w _ hw130_0)).trans hw130_0), ((HB.out.cell (q73L w _ hw130_1)).trans hw130_1), ((HB.out.cell (q73L w _ hw137_0)).trans hw137_0), ((HB.out.cell (q73L w _ hw137_1)).trans hw137_1)⟩ (fun hHeld => ?_); clear hK K; refine norm_ (a' := ?_) ?_ ?_; rotate_left
                ·exact qa29
                refine one_ (i := 9) (N := some 61) q73y44 rfl rfl (one_of HT_.out qa6) qa60 (fun K hK => ?_); refine Kd.R_append_rows_step k43 (w0 := w) w.heap.size (by rfl) (.tmp 59) (.tmp 60) 41 43 (.agg #[(.int .i64 0), (.int .i64 0)]) 16 rfl Try.underlying41 info43 rfl qa60 qa34 v132 y131 (rd_L4 x102000_1 ((rd_T58 l1 x5_1).f0)) _ _ _ (fun k_ => (w.heap.size ≤ k_) ∧ some k_ ≠ (v139 : Value).ownBlock) (fun _ => False) rfl rfl ?aO ?aR (fun _ _ h => h) (fun _ h => h.elim) ?aF ?aB ?aS ?aL ?_; (case aR => exact qa47); (case aB => exact qa44); (case aF => exact qa79); (case aO => exact qa164); (case aS => exact qa39); (case aL => have := LMc45.out; omega); intro v135 w56 ho hb hg hat; rw [← Ny134.out] at ho; have n0_ := q73O (Kd.N_afterv (ok := (fun k_ => (P0_0_ k_ ∨ w.heap.size ≤ k_) ∧ some k_ ≠ (v139 : Value).ownBlock ∧ k_ ≠ gb101 ∧ k_ ≠ gb102)) qa129 hg hat); have n1_ := q73O (blk_grown (g := gb101) (o := .cells #[.slice (some ad108) x102000_1.length co49, .int .i64 (wrap64 (t106 + 1))] 28 (0, 0)) qa26 hg (Kd.R_ne HO133.out BK101.out qa60)); have n2_ := q73O (blk_grown (g := gb102) (o := .cells #[.slice none 0 0, .int .i64 0] 28 (0, 0)) qa28 hg (Kd.R_ne HO133.out BK102.out qa60)); have n3_ := q73O (Kd.V_afterv (ok := (fun k_ => (P0_0_ k_ ∨ w.heap.size ≤ k_) ∧ some k_ ≠ (.slice (some ad108) x102000_1.length co49 : Value).ownBlock ∧ some k_ ≠ (v139 : Value).ownBlock ∧ k_ ≠ gb101 ∧ k_ ≠ gb102)) qa123 hg hat); have n4_ := q73O (Kd.R_after (ok := (fun k_ => (w.heap.size ≤ k_))) qa165 hg hat); have n5_ := q73O (hb); have n6_ := q73O (ho); clear HO_102000 BK101 BK102 HL108_0 HO140 HB HO133; have HO_102000 := n0_; have BK101 := n1_; have BK102 := n2_; have HL108_0 := n3_; have HO140 := n4_; have HB := n5_; have HO136 := n6_; clear n0_ n1_ n2_ n3_ n4_ n5_ n6_ ho hb hg hat; refine hK.out _ _ ⟨qc0 BK101.out, qc1 BK101.out, ((HB.out.cell (q73L w _ hw130_0)).trans hw130_0), ((HB.out.cell (q73L w _ hw130_1)).trans hw130_1), ((HB.out.cell (q73L w _ hw137_0)).trans hw137_0), ((HB.out.cell (q73L w _ hw137_1)).trans hw137_1)⟩ (fun hHeld => ?_); clear hK K; refine norm_ (a' := ?_) ?_ ?_; rotate_left
                ·exact qa29
                exact norm_ (by simp only [putAll, Act.put, q73zA, q73zB, q73zC]) (hCont (v132, v135, v139) _ ⟨hHeld, (by (with_reducible repeat (first | apply Kd.V_alloc | apply Kd.V_drewN | apply Kd.V_drew)); exact Kd.V_mono HL108_0.out (fun _ hk => ⟨hk.1.1, ⟨hk.2, ⟨hk.1.2.2.1, ⟨hk.1.2.1, ⟨hk.1.2.2.2.1, hk.1.2.2.2.2⟩⟩⟩⟩⟩)), (by (with_reducible repeat (first | apply Kd.R_alloc | apply Kd.R_drewN | apply Kd.R_drew)); exact HO136.out), (by (with_reducible repeat (first | apply Kd.R_alloc | apply Kd.R_drewN | apply Kd.R_drew)); exact HO140.out), (by (with_reducible repeat (first | apply Kd.N_alloc | apply Kd.N_drewN | apply Kd.N_drew)); exact Kd.N_mono HO_102000.out (fun _ hk => ⟨hk.1.1, ⟨hk.2, ⟨hk.1.2.1, ⟨hk.1.2.2.1, hk.1.2.2.2⟩⟩⟩⟩)), (by (with_reducible repeat (first | refine q73kN ?_ _ | refine q73kD ?_ | refine q73kA ?_ _)); exact BK101.out), (by (with_reducible repeat (first | refine q73kN ?_ _ | refine q73kD ?_ | refine q73kA ?_ _)); exact BK102.out), (by repeat (first | (with_reducible first | exact HB.out | apply q73bA | apply q73bN | apply q73bD | refine q73bS ?_ GE101.out | refine q73bS ?_ GE102.out) | exact HB.out))⟩)
              rintro ⟨v132, v135, v139⟩ w57 ⟨hS_, h0_, h1_, h2_, h3_, h4_, h5_, h6_⟩; have n0_ : Aside0 (Kd.V k43 43 w57 w.heap.size (fun k_ => (P0_0_ k_ ∨ w.heap.size ≤ k_) ∧ some k_ ≠ (v135 : Value).ownBlock ∧ some k_ ≠ (v139 : Value).ownBlock ∧ some k_ ≠ (.slice (some ad108) x102000_1.length co49 : Value).ownBlock ∧ k_ ≠ gb101 ∧ k_ ≠ gb102) (.slice (some ad109) (rd_L4 x102000_1 ((rd_T58 l1 x5_1).f0)).length c108_0) (rd_L4 x102000_1 ((rd_T58 l1 x5_1).f0))) := ⟨h0_⟩; have n1_ : Aside0 (Kd.R k43 43 w57 w.heap.size (fun k_ => (w.heap.size ≤ k_) ∧ some k_ ≠ (v139 : Value).ownBlock) v135 y134) := ⟨h1_⟩; have n2_ : Aside0 (Kd.R k43 43 w57 w.heap.size (fun k_ => (w.heap.size ≤ k_) ∧ some k_ ≠ (v135 : Value).ownBlock) v139 y138) := ⟨h2_⟩; have n3_ : Aside0 (Kd.N (Kd.slice 43 k43) 41 w57 w.heap.size (fun k_ => (P0_0_ k_ ∨ w.heap.size ≤ k_) ∧ some k_ ≠ (v135 : Value).ownBlock ∧ some k_ ≠ (v139 : Value).ownBlock ∧ k_ ≠ gb101 ∧ k_ ≠ gb102) (.slice (some ad108) x102000_1.length co49) x102000_1) := ⟨h3_⟩; have n4_ : Aside0 (w57.heap[gb101]? = some (.cells #[.slice (some ad108) x102000_1.length co49, .int .i64 (wrap64 (t106 + 1))] 28 (0, 0))) := ⟨h4_⟩; have n5_ : Aside0 (w57.heap[gb102]? = some (.cells #[.slice none 0 0, .int .i64 0] 28 (0, 0))) := ⟨h5_⟩; have n6_ : Aside0 (Below w.heap.size w w57) := ⟨h6_⟩; clear HO_102000 HL108_0 BK101 BK102 HR108_0 HB h0_ h1_ h2_ h3_ h4_ h5_ h6_; have HL108_0 := n0_; have HO136 := n1_; have HO140 := n2_; have HO_102000 := n3_; have BK101 := n4_; have BK102 := n5_; have HB := n6_; clear n0_ n1_ n2_ n3_ n4_ n5_ n6_; have hHeld : w57.cell? ⟨gb101, 0, none⟩ = some (.slice (some ad108) x102000_1.length co49) ∧ w57.cell? ⟨gb101, 1, none⟩ = some (.int .i64 (wrap64 (t106 + 1))) ∧ w57.cell? (ad107.add ((x5_1).toNat * 2)) = some (.int .i64 ((rd_T58 l1 x5_1).f0)) ∧ w57.cell? ⟨(ad107.add ((x5_1).toNat * 2)).block, (ad107.add ((x5_1).toNat * 2)).off + 1, none⟩ = some (.int .i64 ((rd_T58 l1 x5_1).f1)) ∧ w57.cell? (ad107.add ((x5_1).toNat * 2)) = some (.int .i64 ((rd_T58 l1 x5_1).f0)) ∧ w57.cell? ⟨(ad107.add ((x5_1).toNat * 2)).block, (ad107.add ((x5_1).toNat * 2)).off + 1, none⟩ = some (.int .i64 ((rd_T58 l1 x5_1).f1)) := hS_; obtain ⟨Ao59, co59, eo59⟩ := Kd.R_slice HO140.out; (first | subst eo59 | (injection eo59 with f1_ f2_ f3_; have f4_ := f1_.symm; have f5_ := f3_.symm; clear f1_ f2_ f3_; subst f4_; subst f5_)); refine norm_ (a' := ?_) ?_ ?_; rotate_left
              ·simp only [putAll, Act.put, q73zA, q73zB, q73zC]
               rfl
              refine one_ (i := 19) (N := some 71) q73y49 rfl rfl (one_of HT_.out qa6) qa60 (fun K hK => ?_); refine Kd.R_append_rows_step k43 (w0 := w) w.heap.size (by rfl) (.tmp 61) (.tmp 70) 41 43 (.agg #[(.int .i64 0), (.int .i64 0)]) 16 rfl Try.underlying41 info43 rfl qa60 qa34 v135 y134 y138 _ _ _ (fun k_ => (w.heap.size ≤ k_) ∧ some k_ ≠ (.slice Ao59 y138.length co59 : Value).ownBlock) (fun _ => False) rfl rfl ?aO ?aR (fun _ _ h => h) (fun _ h => h.elim) ?aF ?aB ?aS ?aL ?_; (case aR => repeat (first | exact (Kd.R_reads' HO140.out).2.2 | with_reducible first | refine Kd.C_alloc ?_ _ | refine Kd.C_drewN ?_ _ | refine Kd.C_drew ?_)); (case aB => exact qa44); (case aF => exact qa79); (case aO => exact (by (with_reducible repeat (first | apply Kd.R_alloc | apply Kd.R_drewN | apply Kd.R_drew)); exact HO136.out)); (case aS => exact qa39); (case aL => have := LMc46.out; omega); intro v142 w58 ho hb hg hat; rw [← Ny141.out] at ho; have n0_ := q73O (Kd.N_afterv (ok := (fun k_ => (P0_0_ k_ ∨ w.heap.size ≤ k_) ∧ some k_ ≠ (.slice Ao59 y138.length co59 : Value).ownBlock ∧ k_ ≠ gb101 ∧ k_ ≠ gb102)) qa130 hg hat); have n1_ := q73O (blk_grown (g := gb101) (o := .cells #[.slice (some ad108) x102000_1.length co49, .int .i64 (wrap64 (t106 + 1))] 28 (0, 0)) qa26 hg (Kd.R_ne HO136.out BK101.out qa60)); have n2_ := q73O (blk_grown (g := gb102) (o := .cells #[.slice none 0 0, .int .i64 0] 28 (0, 0)) qa28 hg (Kd.R_ne HO136.out BK102.out qa60)); have n3_ := q73O (Kd.V_afterv (ok := (fun k_ => (P0_0_ k_ ∨ w.heap.size ≤ k_) ∧ some k_ ≠ (.slice (some ad108) x102000_1.length co49 : Value).ownBlock ∧ some k_ ≠ (.slice Ao59 y138.length co59 : Value).ownBlock ∧ k_ ≠ gb101 ∧ k_ ≠ gb102)) qa124 hg hat); have n4_ := q73O (Kd.R_after (ok := (fun k_ => (w.heap.size ≤ k_))) qa158 hg hat); have n5_ := q73O (hb); have n6_ := q73O (ho); clear HO_102000 BK101 BK102 HL108_0 HO140 HB HO136; have HO_102000 := n0_; have BK101 := n1_; have BK102 := n2_; have HL108_0 := n3_; have HO140 := n4_; have HB := n5_; have HO143 := n6_; clear n0_ n1_ n2_ n3_ n4_ n5_ n6_; obtain ⟨Av60, cv60, ev60⟩ := Kd.R_slice HO143.out; subst ev60; clear ho hb hg hat; have p47 : 0 ≤ (((rd_T58 l1 x5_1).f0) : Int) := q73T qa138; have q47 : (((rd_T58 l1 x5_1).f0) : Int) < ((x102000_1.length : Int) : Int) := q73T qa138; obtain ⟨go47, co47, eo47, gb47, gl47, cl47, HG47⟩ := Kd.N_form HO_102000.out qa34; (first | cases eo47 | (injection eo47 with ea_ en_ ec_; (first | subst ea_ | (injection ea_ with ea_; subst ea_)); subst ec_; clear en_)); have GB47 := q73O gb47; have GG47 := q73O HG47; clear gb47 gl47 HG47; (first | simp only [add_plain] at hx108_0 | skip); obtain ⟨ce47, hcl47, hM47, hcc47, hfr47⟩ := Kd.N_elem HO_102000.out [] (((rd_T58 l1 x5_1).f0) : Int) p47 q47; obtain ⟨ua47_0, uc47_0, rfl, ul47_0, ge47_0⟩ := Kd.FK_slice_open hM47; have hx47_0 := hcc47 0 _ rfl; have hf47_0 := hfr47 0; (try simp only [show ((Kd.slice 43 k43)).sz = 1 from rfl, Nat.mul_one, Nat.add_zero] at hx47_0); (try simp only [show ((Kd.slice 43 k43)).sz = 1 from rfl, Nat.mul_one, Nat.add_zero] at hf47_0); clear hcl47 hcc47 hfr47; (try clear hM47); replace p47 := eq_true p47; replace q47 := eq_true q47; have HX60 := q73O (show Kd.N (Kd.slice 43 k43) 41 _ w.heap.size (fun k_ => (P0_0_ k_ ∨ w.heap.size ≤ k_) ∧ some k_ ≠ (.slice Ao59 y138.length co59 : Value).ownBlock ∧ some k_ ≠ ((.slice Av60 y141.length cv60) : Value).ownBlock ∧ k_ ≠ gb101 ∧ k_ ≠ gb102) (.slice (some ⟨go47, 0, none⟩) x102000_1.length co49) x102000_1 from (Kd.N_mono (HO_102000.out) (fun k_ hk => ⟨hk.1.1, ⟨hk.1.2.1, ⟨hk.2, ⟨hk.1.2.2.1, hk.1.2.2.2⟩⟩⟩⟩))); replace HX60 := q73O (show Kd.N (Kd.slice 43 k43) 41 _ w.heap.size (fun k_ => (P0_0_ k_ ∨ w.heap.size ≤ k_) ∧ some k_ ≠ (.slice Ao59 y138.length co59 : Value).ownBlock ∧ k_ ≠ gb101 ∧ k_ ≠ gb102) (.slice (some ⟨go47, 0, none⟩) x102000_1.length co49) x102000_1 from Kd.N_mono HX60.out (fun k_ hk => ⟨hk.1, ⟨hk.2.1, ⟨hk.2.2.2.1, hk.2.2.2.2⟩⟩⟩)); obtain ⟨ce60, hcl60, hM60, hcc60, hfr60⟩ := Kd.N_elem HX60.out [] (((rd_T58 l1 x5_1).f0) : Int) (q73T qa138) (by have h_ : (((rd_T58 l1 x5_1).f0) : Int) < ((x102000_1.length : Int) : Int) := q73T qa138; first | exact h_ | (have e_ := (Kd.N_reads' HO_102000.out).1; omega) | simpa using h_); obtain ⟨ua60_0, uc60_0, rfl, ul60_0, ge60_0⟩ := Kd.FK_slice_open hM60; have HP60 := (Kd.N_seg HX60.out (((rd_T58 l1 x5_1).f0) : Int) (q73T qa138) (by have h_ : (((rd_T58 l1 x5_1).f0) : Int) < ((x102000_1.length : Int) : Int) := q73T qa138; first | exact h_ | (have e_ := (Kd.N_reads' HO_102000.out).1; omega) | simpa using h_) (seg := [(.slice Av60 y141.length cv60)]) (j := 0) hcl60 hcc60 (show 1 ≤ 1 from by decide) (x' := y141) (Kd.FK_slice_mk (Kd.R_reads' (Kd.R_mono (ok' := (fun k_ => ((fun k_ => (P0_0_ k_ ∨ w.heap.size ≤ k_) ∧ some k_ ≠ (.slice Ao59 y138.length co59 : Value).ownBlock ∧ k_ ≠ gb101 ∧ k_ ≠ gb102)) k_ ∧ k_ ≠ go47)) (Kd.R_types (Kd.R_types (Kd.R_apart' (HO143.out) (Kd.N_typed HO_102000.out) qa60) BK101.out qa60) BK102.out qa60) (fun k_ hk => ⟨⟨(.inr (hk.1.1.1.1)), ⟨hk.1.1.1.2, ⟨hk.1.2, hk.2⟩⟩⟩, fun e_ => (hk.1.1.2) qa199⟩))).2.1 (Kd.R_F (Kd.R_mono (ok' := (fun k_ => ((fun k_ => (P0_0_ k_ ∨ w.heap.size ≤ k_) ∧ some k_ ≠ (.slice Ao59 y138.length co59 : Value).ownBlock ∧ k_ ≠ gb101 ∧ k_ ≠ gb102)) k_ ∧ k_ ≠ go47)) (Kd.R_types (Kd.R_types (Kd.R_apart' (HO143.out) (Kd.N_typed HO_102000.out) qa60) BK101.out qa60) BK102.out qa60) (fun k_ hk => ⟨⟨(.inr (hk.1.1.1.1)), ⟨hk.1.1.1.2, ⟨hk.1.2, hk.2⟩⟩⟩, fun e_ => (hk.1.1.2) qa199⟩)))) (fun _ hk => hk)).1; (try simp only [show ((Kd.slice 43 k43)).sz = 1 from rfl, Nat.mul_one, Nat.add_zero] at HP60); rw [← Ny144.out] at HP60; have HQ60 := q73O HP60; clear hcl60 hcc60 hfr60; (try clear hM60); clear HP60; refine hK.out _ _ ⟨qc0 BK101.out, qc1 BK101.out, ((HB.out.cell (q73L w _ hw130_0)).trans hw130_0), ((HB.out.cell (q73L w _ hw130_1)).trans hw130_1), ((HB.out.cell (q73L w _ hw137_0)).trans hw137_0), ((HB.out.cell (q73L w _ hw137_1)).trans hw137_1)⟩ (fun hHeld => ?_); clear hK K; refine norm_ (a' := ?_) ?_ ?_; rotate_left
              ·exact qa29
              refine pure_ (i := 20) (N := some 72) (v := ?_) (a' := ?_) q73y50 rfl rfl (any_of HT_.out qa6) (fun _ _ _ h => h) (Or.inl ⟨by rfl, ?_⟩) ?_ ?_; rotate_left
              ·intro w'
               go_simp; (with_reducible rfl)
              rotate_left
              ·simp only [Act.put, q73zA, q73zB, q73zC, i64_w, i32_w]
               rfl
              refine last_ (i := 21) (N := none) q73y51 rfl rfl (one_of HT_.out qa6) qa60 (fun K hK => ?_); refine skip_ (w1 := ?_) (by rfl) rfl ?_ ?_; rotate_left
              ·go_simp
               rfl
              refine hK.out _ _ ?_; clear hK K; refine done_ (done_of HT_.out qa6) ?_
              try go_wp2
              go_roundg k1
              case measure => have := HK1.out; omega
              case rel => exact ⟨(wrap64 (x5_1 + 1)), (y144), (.slice (some ⟨go47, 0, none⟩) x102000_1.length co49), qa16, H', ⟨qa155⟩, ⟨by (with_reducible repeat (first | apply Kd.N_alloc | apply Kd.N_drewN | apply Kd.N_drew)); exact Kd.N_mono HQ60.out (fun _ hk => ⟨hk.1, ⟨hk.2.2.1, hk.2.2.2⟩⟩)⟩, ⟨qa89⟩, ⟨qa90⟩, ⟨by repeat (first | (with_reducible first | exact HB.out | apply q73bA | apply q73bN | apply q73bD | refine q73bS ?_ GB47.out | refine q73bS ?_ GE101.out | refine q73bS ?_ GE102.out) | exact HB.out)⟩⟩
             ·rw [if_neg c46] at H
              exact absurd H qa119
            ·rw [if_neg c45] at H
             exact absurd H qa119
          ·rw [if_neg c24] at H
           exact absurd H qa119
         ·rw [if_neg c23] at H
          exact absurd H qa119
        ·rw [if_neg c21] at H
         have c21b0 : decide (0 < ((rd_L4 x102000_1 ((rd_T58 l1 x5_1).f0)).length : Int)) = false := decide_eq_false c21; have c21b1 : decide (0 < (rd_L4 x102000_1 ((rd_T58 l1 x5_1).f0)).length) = false := decide_eq_false qa34; clear c21; obtain ⟨y146, hy146⟩ : ∃ y_ : List (S43), y_ = (([] : List (S43))) := ⟨_, rfl⟩; replace H : (if y146.length + (rd_L4 x102000_1 ((rd_T58 l1 x5_1).f0)).length < 8796093022208 then ((some (y146 ++ (rd_L4 x102000_1 ((rd_T58 l1 x5_1).f0)) : List (S43))).bind fun y149 => ((some (([(⟨(wrap64 (t106 + 1)), (rd_T58 l1 x5_1).f1⟩ : S43)] : List (S43)) : List (S43))).bind fun y153 => (if y149.length + y153.length < 8796093022208 then (spec_l06Write.l0 k1 l1 (wrap64 (x5_1 + 1)) (x102000_1.set (((rd_T58 l1 x5_1).f0) : Int).toNat (y149 ++ y153)) (wrap64 (t106 + 1))) else (none)))) else (none)) = some (r1, r2) := by first | (rw [hy146]; with_reducible exact H) | (have H2_ := (Option.bind_some _ _).symm.trans H; rw [hy146]; with_reducible exact H2_) | (have H2_ := (Option.bind_some _ _).symm.trans H; with_reducible exact H2_) | with_reducible exact H | (rw [hy146]; exact H) | exact H
         have Ny146 := q73O hy146; clear hy146
         by_cases c61 : y146.length + (rd_L4 x102000_1 ((rd_T58 l1 x5_1).f0)).length < 8796093022208
         ·rw [if_pos c61] at H
          have LMc61 := q73O c61; clear c61; obtain ⟨y149, hy149⟩ : ∃ y_ : List (S43), y_ = (y146 ++ (rd_L4 x102000_1 ((rd_T58 l1 x5_1).f0))) := ⟨_, rfl⟩; replace H : ((some (([(⟨(wrap64 (t106 + 1)), (rd_T58 l1 x5_1).f1⟩ : S43)] : List (S43)) : List (S43))).bind fun y153 => (if y149.length + y153.length < 8796093022208 then (spec_l06Write.l0 k1 l1 (wrap64 (x5_1 + 1)) (x102000_1.set (((rd_T58 l1 x5_1).f0) : Int).toNat (y149 ++ y153)) (wrap64 (t106 + 1))) else (none))) = some (r1, r2) := by first | (rw [hy149]; with_reducible exact H) | (have H2_ := (Option.bind_some _ _).symm.trans H; rw [hy149]; with_reducible exact H2_) | (have H2_ := (Option.bind_some _ _).symm.trans H; with_reducible exact H2_) | with_reducible exact H | (rw [hy149]; exact H) | exact H
          have Ny149 := q73O hy149; clear hy149; obtain ⟨y153, hy153⟩ : ∃ y_ : List (S43), y_ = (([(⟨(wrap64 (t106 + 1)), (rd_T58 l1 x5_1).f1⟩ : S43)] : List (S43))) := ⟨_, rfl⟩; replace H : (if y149.length + y153.length < 8796093022208 then (spec_l06Write.l0 k1 l1 (wrap64 (x5_1 + 1)) (x102000_1.set (((rd_T58 l1 x5_1).f0) : Int).toNat (y149 ++ y153)) (wrap64 (t106 + 1))) else (none)) = some (r1, r2) := by first | (rw [hy153]; with_reducible exact H) | (have H2_ := (Option.bind_some _ _).symm.trans H; rw [hy153]; with_reducible exact H2_) | (have H2_ := (Option.bind_some _ _).symm.trans H; with_reducible exact H2_) | with_reducible exact H | (rw [hy153]; exact H) | exact H
          have Ny153 := q73O hy153; clear hy153
          by_cases c62 : y149.length + y153.length < 8796093022208
          ·rw [if_pos c62] at H
           have LMc62 := q73O c62; clear c62; obtain ⟨y156, hy156⟩ : ∃ y_ : List (S43), y_ = (y149 ++ y153) := ⟨_, rfl⟩; replace H : (spec_l06Write.l0 k1 l1 (wrap64 (x5_1 + 1)) (x102000_1.set (((rd_T58 l1 x5_1).f0) : Int).toNat y156) (wrap64 (t106 + 1))) = some (r1, r2) := by first | (rw [hy156]; with_reducible exact H) | (have H2_ := (Option.bind_some _ _).symm.trans H; rw [hy156]; with_reducible exact H2_) | (have H2_ := (Option.bind_some _ _).symm.trans H; with_reducible exact H2_) | with_reducible exact H | (rw [hy156]; exact H) | exact H
           have Ny156 := q73O hy156; clear hy156; obtain ⟨y159, hy159⟩ : ∃ y_ : List (List (S43)), y_ = (x102000_1.set (((rd_T58 l1 x5_1).f0) : Int).toNat y156) := ⟨_, rfl⟩; replace H : (spec_l06Write.l0 k1 l1 (wrap64 (x5_1 + 1)) y159 (wrap64 (t106 + 1))) = some (r1, r2) := by first | (rw [hy159]; with_reducible exact H) | (have H2_ := (Option.bind_some _ _).symm.trans H; rw [hy159]; with_reducible exact H2_) | (have H2_ := (Option.bind_some _ _).symm.trans H; with_reducible exact H2_) | with_reducible exact H | (rw [hy159]; exact H) | exact H
           have Ny159 := q73O hy159; clear hy159; have H' := q73O H; clear H
           try go_wp2
           replace HO_102000 := q73O (Kd.N_drew HO_102000.out); replace BK101 := q73O (q73kD BK101.out); replace BK102 := q73O (q73kD BK102.out); replace HB := q73O (q73bD HB.out); have p107 : 0 ≤ (x5_1 : Int) := q73T qa138; have q107 : x5_1 < (l1.length : Int) := q73T qa138; obtain ⟨ad107, e107, hx107_0, hx107_1⟩ := at_T58 HR1.out x5_1 p107 q107; have hw107_1 := hx107_1; have hw107_0 := hx107_0
           cases e107
           replace hx107_0 := (HB.out.cell (q73L w _ hx107_0)).trans hx107_0; replace hx107_1 := (HB.out.cell (q73L w _ hx107_1)).trans hx107_1; replace p107 := eq_true p107; replace q107 := eq_true q107; obtain ⟨Ao65, co65, eo65⟩ := Kd.N_slice HO_102000.out; (first | subst eo65 | (injection eo65 with f1_ f2_ f3_; have f4_ := f1_.symm; have f5_ := f3_.symm; clear f1_ f2_ f3_; subst f4_; subst f5_)); have p108 : 0 ≤ (((rd_T58 l1 x5_1).f0) : Int) := q73T qa138; have q108 : ((rd_T58 l1 x5_1).f0) < (x102000_1.length : Int) := q73T qa138; obtain ⟨ad108, A108_0, c108_0, e108, hx108_0, hl108_0, hi108_0⟩ := at_L4 (Kd.N_reads' HO_102000.out).2.2 ((rd_T58 l1 x5_1).f0) p108 q108
           cases e108
           obtain ⟨ce108, hce108, hMe108, hcc108⟩ := Kd.N_get HO_102000.out [] ((rd_T58 l1 x5_1).f0) p108 qa161; obtain ⟨ua108_0, uc108_0, rfl, ul108_0, ge108_0⟩ := Kd.FK_slice_open hMe108; have hv108_0 := hcc108 0 _ rfl; rw [Nat.add_zero, show ((Kd.slice 43 k43)).sz = 1 from rfl, Nat.mul_one] at hv108_0; replace hv108_0 := Option.some.inj (hv108_0.symm.trans hx108_0); injection hv108_0 with hva_ hvn_ hvc_; rw [hva_] at ge108_0; rw [hvc_] at ul108_0; have HL108_0 := q73O (show Kd.V k43 43 _ w.heap.size _ _ (rd_L4 x102000_1 ((rd_T58 l1 x5_1).f0)) from Kd.V_mk ul108_0 ge108_0); clear hva_ hvn_ hvc_ ge108_0 ul108_0 hcc108 hce108; have HR108_0 := q73O hi108_0; have HC108_0 := q73O hl108_0; clear hi108_0 hl108_0; replace p108 := eq_true p108; replace q108 := eq_true q108; refine start_ (n := 10) (S := fun w' => w'.cell? ⟨gb101, 0, none⟩ = some (.slice (some ad108) x102000_1.length co65) ∧ w'.cell? ⟨gb101, 1, none⟩ = some (.int .i64 (wrap64 (t106 + 1))) ∧ w'.cell? (ad107.add ((x5_1).toNat * 2)) = some (.int .i64 ((rd_T58 l1 x5_1).f0)) ∧ w'.cell? ⟨(ad107.add ((x5_1).toNat * 2)).block, (ad107.add ((x5_1).toNat * 2)).off + 1, none⟩ = some (.int .i64 ((rd_T58 l1 x5_1).f1)) ∧ w'.cell? (ad108.add (((rd_T58 l1 x5_1).f0)).toNat) = some (.slice A108_0 (rd_L4 x102000_1 ((rd_T58 l1 x5_1).f0)).length c108_0)) (ds := []) q73y0 qa6 rfl rfl ⟨qc0 BK101.out, qc1 BK101.out, ((HB.out.cell (q73L w _ hw107_0)).trans hw107_0), ((HB.out.cell (q73L w _ hw107_1)).trans hw107_1), hx108_0⟩ (fun hHeld => ?_); refine with_tabW spec_l06Write.tab8 spec_l06Write.bits8 (fun HT_ HW_ => ?_); generalize wr.drew = w64 at HO_102000 BK101 BK102 HB HL108_0 HR108_0 hx107_0 hx107_1 hx108_0 hHeld ⊢; refine pure_ (i := 0) (N := some 23) (v := ?_) (a' := ?_) q73y1 rfl rfl (any_of HT_.out qa6) (fun _ _ _ h => h) (Or.inl ⟨by rfl, ?_⟩) ?_ ?_; rotate_left
           ·intro w'
            go_simp; (with_reducible rfl)
           rotate_left
           ·simp only [Act.put, q73zA, q73zB, q73zC, i64_w, i32_w]
            rfl
           refine pure_ (i := 2) (N := some 25) (v := ?_) (a' := ?_) q73y2 rfl rfl (any_of HT_.out qa6) (fun _ _ _ h => h) (Or.inl ⟨by rfl, ?_⟩) ?_ ?_; rotate_left
           ·intro w'
            go_simp; (with_reducible rfl)
           rotate_left
           ·simp only [Act.put, q73zA, q73zB, q73zC, i64_w, i32_w]
            rfl
           refine pure_ (i := 3) (N := some 26) (v := ?_) (a' := ?_) q73y3 rfl rfl (any_of HT_.out qa6) (fun _ _ _ h => h) (Or.inl ⟨by rfl, ?_⟩) ?_ ?_; rotate_left
           ·intro w'
            go_simp; (with_reducible rfl)
           rotate_left
           ·simp only [Act.put, q73zA, q73zB, q73zC, i64_w, i32_w]
            rfl
           refine pure_ (i := 4) (N := some 27) (v := ?_) (a' := ?_) q73y4 rfl rfl (any_of HT_.out qa6) (fun _ _ _ h => h) (Or.inl ⟨by rfl, ?_⟩) ?_ ?_; rotate_left
           ·intro w'
            go_simp; (with_reducible rfl)
           rotate_left
           ·simp only [Act.put, q73zA, q73zB, q73zC, i64_w, i32_w]
            rfl
           refine pure_ (i := 5) (N := some 28) (v := ?_) (a' := ?_) q73y5 rfl rfl (any_of HT_.out qa6) (fun _ _ _ h => h) (Or.inl ⟨by rfl, ?_⟩) ?_ ?_; rotate_left
           ·intro w'
            go_simp; (with_reducible rfl)
           rotate_left
           ·simp only [Act.put, q73zA, q73zB, q73zC, i64_w, i32_w]
            rfl
           refine take_ (i := 1) (N := some 24) (v := ?_) (a' := ?_) q73y6 rfl rfl (take_ofW HT_.out HW_.out qa6) (fun _ _ _ h => h) (Or.inl ⟨by rfl, ?_⟩) hHeld ?_ ?_; rotate_left
           ·rintro w' ⟨s0, s1, s2, s3, s4⟩
            go_simp; (with_reducible rfl)
           rotate_left
           ·simp only [Act.put, q73zA, q73zB, q73zC, i64_w, i32_w]
            rfl
           refine take_ (i := 6) (N := some 29) (v := ?_) (a' := ?_) q73y7 rfl rfl (take_ofW HT_.out HW_.out qa6) (fun _ _ _ h => h) (Or.inl ⟨by rfl, ?_⟩) hHeld ?_ ?_; rotate_left
           ·rintro w' ⟨s0, s1, s2, s3, s4⟩
            go_simp; (with_reducible rfl)
           rotate_left
           ·simp only [Act.put, q73zA, q73zB, q73zC, i64_w, i32_w]
            rfl
           refine pure_ (i := 7) (N := some 30) (v := ?_) (a' := ?_) q73y8 rfl rfl (any_of HT_.out qa6) (fun _ _ _ h => h) (Or.inl ⟨by rfl, ?_⟩) ?_ ?_; rotate_left
           ·intro w'
            go_simp; (with_reducible rfl)
           rotate_left
           ·simp only [Act.put, q73zA, q73zB, q73zC, i64_w, i32_w]
            rfl
           refine take_ (i := 8) (N := some 31) (v := ?_) (a' := ?_) q73y9 rfl rfl (take_ofW HT_.out HW_.out qa6) (fun _ _ _ h => h) (Or.inl ⟨by rfl, ?_⟩) hHeld ?_ ?_; rotate_left
           ·rintro w' ⟨s0, s1, s2, s3, s4⟩
            go_simp; (with_reducible rfl)
           rotate_left
           ·simp only [Act.put, q73zA, q73zB, q73zC, i64_w, i32_w]
            rfl
           refine pure_ (i := 9) (N := some 6) (v := ?_) (a' := ?_) q73y10 rfl rfl (any_of HT_.out qa6) (fun _ _ _ h => h) (Or.inl ⟨by rfl, ?_⟩) ?_ ?_; rotate_left
           ·intro w'
            go_simp; (with_reducible rfl)
           rotate_left
           ·simp only [Act.put, q73zA, q73zB, q73zC, i64_w, i32_w]
            rfl
           refine done_ (done_of HT_.out qa6) ?_
           try go_wp2
           replace HO_102000 := q73O (Kd.N_drew HO_102000.out); replace HL108_0 := q73O (Kd.V_drew HL108_0.out); replace BK101 := q73O (q73kD BK101.out); replace BK102 := q73O (q73kD BK102.out); replace HR108_0 := q73O (Kd.C_drew HR108_0.out); replace HB := q73O (q73bD HB.out); refine start_ (n := 15) (S := fun w' => True) (ds := []) q73y11 qa6 rfl rfl trivial (fun hHeld => ?_); refine with_tabW spec_l06Write.tab9 spec_l06Write.bits9 (fun HT_ HW_ => ?_); generalize w64.drew = w66 at HO_102000 HL108_0 BK101 BK102 HR108_0 HB hHeld ⊢; refine pure_ (i := 0) (N := some 32) (v := ?_) (a' := ?_) q73y12 rfl rfl (any_of HT_.out qa6) (fun _ _ _ h => h) (Or.inl ⟨by rfl, ?_⟩) ?_ ?_; rotate_left
           ·intro w'
            go_simp; (with_reducible rfl)
           rotate_left
           ·simp only [Act.put, q73zA, q73zB, q73zC, i64_w, i32_w]
            rfl
           refine pure_ (i := 1) (N := some 33) (v := ?_) (a' := ?_) q73y13 rfl rfl (any_of HT_.out qa6) (fun _ _ _ h => h) (Or.inl ⟨by rfl, ?_⟩) ?_ ?_; rotate_left
           ·intro w'
            go_simp; (with_reducible rfl)
           rotate_left
           ·simp only [Act.put, q73zA, q73zB, q73zC, i64_w, i32_w]
            rfl
           refine pure_ (i := 2) (N := some 34) (v := ?_) (a' := ?_) q73y14 rfl rfl (any_of HT_.out qa6) (fun _ _ _ h => h) (Or.inl ⟨by rfl, ?_⟩) ?_ ?_; rotate_left
           ·intro w'
            go_simp; (with_reducible rfl)
           rotate_left
           ·simp only [Act.put, q73zA, q73zB, q73zC, i64_w, i32_w]
            rfl
           refine pure_ (i := 3) (N := some 35) (v := ?_) (a' := ?_) q73y15 rfl rfl (any_of HT_.out qa6) (fun _ _ _ h => h) (Or.inl ⟨by rfl, ?_⟩) ?_ ?_; rotate_left
           ·intro w'
            go_simp; (with_reducible rfl)
           rotate_left
           ·simp only [Act.put, q73zA, q73zB, q73zC, i64_w, i32_w]
            rfl
           refine pure_ (i := 4) (N := some 36) (v := undef) (a' := ?_) q73y16 rfl rfl (any_of HT_.out qa6) (fun _ _ _ h => h) (Or.inr ⟨by rfl, rfl⟩) ?_ ?_; rotate_left
           ·simp only [Act.put, q73zA, q73zB, q73zC, i64_w, i32_w]
            rfl
           refine pure_ (i := 5) (N := some 37) (v := undef) (a' := ?_) q73y17 rfl rfl (any_of HT_.out qa6) (fun _ _ _ h => h) (Or.inr ⟨by rfl, rfl⟩) ?_ ?_; rotate_left
           ·simp only [Act.put, q73zA, q73zB, q73zC, i64_w, i32_w]
            rfl
           refine pure_ (i := 6) (N := some 38) (v := undef) (a' := ?_) q73y18 rfl rfl (any_of HT_.out qa6) (fun _ _ _ h => h) (Or.inr ⟨by rfl, rfl⟩) ?_ ?_; rotate_left
           ·simp only [Act.put, q73zA, q73zB, q73zC, i64_w, i32_w]
            rfl
           refine pure_ (i := 7) (N := some 39) (v := undef) (a' := ?_) q73y19 rfl rfl (any_of HT_.out qa6) (fun _ _ _ h => h) (Or.inr ⟨by rfl, rfl⟩) ?_ ?_; rotate_left
           ·simp only [Act.put, q73zA, q73zB, q73zC, i64_w, i32_w]
            rfl
           refine pure_ (i := 8) (N := some 40) (v := undef) (a' := ?_) q73y20 rfl rfl (any_of HT_.out qa6) (fun _ _ _ h => h) (Or.inr ⟨by rfl, rfl⟩) ?_ ?_; rotate_left
           ·simp only [Act.put, q73zA, q73zB, q73zC, i64_w, i32_w]
            rfl
           refine pure_ (i := 9) (N := some 41) (v := undef) (a' := ?_) q73y21 rfl rfl (any_of HT_.out qa6) (fun _ _ _ h => h) (Or.inr ⟨by rfl, rfl⟩) ?_ ?_; rotate_left
           ·simp only [Act.put, q73zA, q73zB, q73zC, i64_w, i32_w]
            rfl
           refine pure_ (i := 10) (N := some 42) (v := undef) (a' := ?_) q73y52 rfl rfl (any_of HT_.out qa6) (fun _ _ _ h => h) (Or.inr ⟨by rfl, rfl⟩) ?_ ?_; rotate_left
           ·simp only [Act.put, q73zA, q73zB, q73zC, i64_w, i32_w]
            rfl
           refine pure_ (i := 11) (N := some 43) (v := undef) (a' := ?_) q73y23 rfl rfl (any_of HT_.out qa6) (fun _ _ _ h => h) (Or.inr ⟨by rfl, rfl⟩) ?_ ?_; rotate_left
           ·simp only [Act.put, q73zA, q73zB, q73zC, i64_w, i32_w]
            rfl
           refine pure_ (i := 12) (N := some 44) (v := undef) (a' := ?_) q73y24 rfl rfl (any_of HT_.out qa6) (fun _ _ _ h => h) (Or.inr ⟨by rfl, rfl⟩) ?_ ?_; rotate_left
           ·simp only [Act.put, q73zA, q73zB, q73zC, i64_w, i32_w]
            rfl
           refine pure_ (i := 13) (N := some 45) (v := undef) (a' := ?_) q73y25 rfl rfl (any_of HT_.out qa6) (fun _ _ _ h => h) (Or.inr ⟨by rfl, rfl⟩) ?_ ?_; rotate_left
           ·simp only [Act.put, q73zA, q73zB, q73zC, i64_w, i32_w]
            rfl
           refine pure_ (i := 14) (N := some 46) (v := ?_) (a' := ?_) q73y26 rfl rfl (any_of HT_.out qa6) (fun _ _ _ h => h) (Or.inl ⟨by rfl, ?_⟩) ?_ ?_; rotate_left
           ·intro w'
            go_simp; (with_reducible rfl)
           rotate_left
           ·simp only [Act.put, q73zA, q73zB, q73zC, i64_w, i32_w]
            rfl
           refine done_ (done_of HT_.out qa6) ?_
           try go_wp2
           replace HO_102000 := q73O (Kd.N_drew HO_102000.out); replace HL108_0 := q73O (Kd.V_drew HL108_0.out); replace BK101 := q73O (q73kD BK101.out); replace BK102 := q73O (q73kD BK102.out); replace HR108_0 := q73O (Kd.C_drew HR108_0.out); replace HB := q73O (q73bD HB.out); have p145 : 0 ≤ (x5_1 : Int) := q73T qa138; have q145 : x5_1 < (l1.length : Int) := q73T qa138; obtain ⟨ad145, e145, hx145_0, hx145_1⟩ := at_T58 HR1.out x5_1 p145 q145; have hw145_1 := hx145_1; have hw145_0 := hx145_0; obtain rfl : ad107 = ad145 := (by injection e145); replace hx145_0 := (HB.out.cell (q73L w _ hx145_0)).trans hx145_0; replace hx145_1 := (HB.out.cell (q73L w _ hx145_1)).trans hx145_1; replace p145 := eq_true p145; replace q145 := eq_true q145; have p152 : 0 ≤ (x5_1 : Int) := q73T qa138; have q152 : x5_1 < (l1.length : Int) := q73T qa138; obtain ⟨ad152, e152, hx152_0, hx152_1⟩ := at_T58 HR1.out x5_1 p152 q152; have hw152_1 := hx152_1; have hw152_0 := hx152_0; obtain rfl : ad107 = ad152 := (by injection e152); replace hx152_0 := (HB.out.cell (q73L w _ hx152_0)).trans hx152_0; replace hx152_1 := (HB.out.cell (q73L w _ hx152_1)).trans hx152_1; replace p152 := eq_true p152; replace q152 := eq_true q152; refine start_ (n := 22) (S := fun w' => w'.cell? ⟨gb101, 0, none⟩ = some (.slice (some ad108) x102000_1.length co65) ∧ w'.cell? ⟨gb101, 1, none⟩ = some (.int .i64 (wrap64 (t106 + 1))) ∧ w'.cell? (ad107.add ((x5_1).toNat * 2)) = some (.int .i64 ((rd_T58 l1 x5_1).f0)) ∧ w'.cell? ⟨(ad107.add ((x5_1).toNat * 2)).block, (ad107.add ((x5_1).toNat * 2)).off + 1, none⟩ = some (.int .i64 ((rd_T58 l1 x5_1).f1)) ∧ w'.cell? (ad107.add ((x5_1).toNat * 2)) = some (.int .i64 ((rd_T58 l1 x5_1).f0)) ∧ w'.cell? ⟨(ad107.add ((x5_1).toNat * 2)).block, (ad107.add ((x5_1).toNat * 2)).off + 1, none⟩ = some (.int .i64 ((rd_T58 l1 x5_1).f1))) (ds := [21]) q73y27 qa6 rfl rfl ⟨qc0 BK101.out, qc1 BK101.out, ((HB.out.cell (q73L w _ hw145_0)).trans hw145_0), ((HB.out.cell (q73L w _ hw145_1)).trans hw145_1), ((HB.out.cell (q73L w _ hw152_0)).trans hw152_0), ((HB.out.cell (q73L w _ hw152_1)).trans hw152_1)⟩ (fun hHeld => ?_); refine with_tabW spec_l06Write.tab11 spec_l06Write.bits11 (fun HT_ HW_ => ?_); generalize w66.drew = w67 at HO_102000 HL108_0 BK101 BK102 HR108_0 HB hx145_0 hx145_1 hx152_0 hx152_1 hHeld ⊢; refine pure_ (i := 0) (N := some 52) (v := ?_) (a' := ?_) q73y28 rfl rfl (any_of HT_.out qa6) (fun _ _ _ h => h) (Or.inl ⟨by rfl, ?_⟩) ?_ ?_; rotate_left
           ·intro w'
            go_simp; (with_reducible rfl)
           rotate_left
           ·simp only [Act.put, q73zA, q73zB, q73zC, i64_w, i32_w]
            rfl
           refine pure_ (i := 2) (N := some 54) (v := ?_) (a' := ?_) q73y29 rfl rfl (any_of HT_.out qa6) (fun _ _ _ h => h) (Or.inl ⟨by rfl, ?_⟩) ?_ ?_; rotate_left
           ·intro w'
            go_simp; (with_reducible rfl)
           rotate_left
           ·simp only [Act.put, q73zA, q73zB, q73zC, i64_w, i32_w]
            rfl
           refine pure_ (i := 3) (N := some 55) (v := ?_) (a' := ?_) q73y30 rfl rfl (any_of HT_.out qa6) (fun _ _ _ h => h) (Or.inl ⟨by rfl, ?_⟩) ?_ ?_; rotate_left
           ·intro w'
            go_simp; (with_reducible rfl)
           rotate_left
           ·simp only [Act.put, q73zA, q73zB, q73zC, i64_w, i32_w]
            rfl
           refine pure_ (i := 4) (N := some 56) (v := ?_) (a' := ?_) q73y31 rfl rfl (any_of HT_.out qa6) (fun _ _ _ h => h) (Or.inl ⟨by rfl, ?_⟩) ?_ ?_; rotate_left
           ·intro w'
            go_simp; (with_reducible rfl)
           rotate_left
           ·simp only [Act.put, q73zA, q73zB, q73zC, i64_w, i32_w]
            rfl
           refine pure_ (i := 5) (N := some 57) (v := ?_) (a' := ?_) q73y32 rfl rfl (any_of HT_.out qa6) (fun _ _ _ h => h) (Or.inl ⟨by rfl, ?_⟩) ?_ ?_; rotate_left
           ·intro w'
            go_simp; (with_reducible rfl)
           rotate_left
           ·simp only [Act.put, q73zA, q73zB, q73zC, i64_w, i32_w]
            rfl
           refine pure_ (i := 8) (N := some 60) (v := ?_) (a' := ?_) q73y33 rfl rfl (any_of HT_.out qa6) (fun _ _ _ h => h) (Or.inl ⟨by rfl, ?_⟩) ?_ ?_; rotate_left
           ·intro w'
            go_simp; (with_reducible rfl)
           rotate_left
           ·simp only [Act.put, q73zA, q73zB, q73zC, i64_w, i32_w]
            rfl
           refine pure_ (i := 10) (N := some 62) (v := ?_) (a' := ?_) q73y34 rfl rfl (any_of HT_.out qa6) (fun _ _ _ h => h) (Or.inl ⟨by rfl, ?_⟩) ?_ ?_; rotate_left
           ·intro w'
            go_simp; (with_reducible rfl)
           rotate_left
           ·simp only [Act.put, q73zA, q73zB, q73zC, i64_w, i32_w]
            rfl
           refine pure_ (i := 12) (N := some 64) (v := ?_) (a' := ?_) q73y35 rfl rfl (any_of HT_.out qa6) (fun _ _ _ h => h) (Or.inl ⟨by rfl, ?_⟩) ?_ ?_; rotate_left
           ·intro w'
            go_simp; (with_reducible rfl)
           rotate_left
           ·simp only [Act.put, q73zA, q73zB, q73zC, i64_w, i32_w]
            rfl
           refine pure_ (i := 13) (N := some 65) (v := ?_) (a' := ?_) q73y36 rfl rfl (any_of HT_.out qa6) (fun _ _ _ h => h) (Or.inl ⟨by rfl, ?_⟩) ?_ ?_; rotate_left
           ·intro w'
            go_simp; (with_reducible rfl)
           rotate_left
           ·simp only [Act.put, q73zA, q73zB, q73zC, i64_w, i32_w]
            rfl
           refine pure_ (i := 14) (N := some 66) (v := ?_) (a' := ?_) q73y37 rfl rfl (any_of HT_.out qa6) (fun _ _ _ h => h) (Or.inl ⟨by rfl, ?_⟩) ?_ ?_; rotate_left
           ·intro w'
            go_simp; (with_reducible rfl)
           rotate_left
           ·simp only [Act.put, q73zA, q73zB, q73zC, i64_w, i32_w]
            rfl
           refine pure_ (i := 15) (N := some 67) (v := ?_) (a' := ?_) q73y38 rfl rfl (any_of HT_.out qa6) (fun _ _ _ h => h) (Or.inl ⟨by rfl, ?_⟩) ?_ ?_; rotate_left
           ·intro w'
            go_simp; (with_reducible rfl)
           rotate_left
           ·simp only [Act.put, q73zA, q73zB, q73zC, i64_w, i32_w]
            rfl
           refine take_ (i := 1) (N := some 53) (v := ?_) (a' := ?_) q73y39 rfl rfl (take_ofW HT_.out HW_.out qa6) (fun _ _ _ h => h) (Or.inl ⟨by rfl, ?_⟩) hHeld ?_ ?_; rotate_left
           ·rintro w' ⟨s0, s1, s2, s3, s4, s5⟩
            go_simp; (with_reducible rfl)
           rotate_left
           ·simp only [Act.put, q73zA, q73zB, q73zC, i64_w, i32_w]
            rfl
           refine take_ (i := 6) (N := some 58) (v := ?_) (a' := ?_) q73y40 rfl rfl (take_ofW HT_.out HW_.out qa6) (fun _ _ _ h => h) (Or.inl ⟨by rfl, ?_⟩) hHeld ?_ ?_; rotate_left
           ·rintro w' ⟨s0, s1, s2, s3, s4, s5⟩
            go_simp; (with_reducible rfl)
           rotate_left
           ·simp only [Act.put, q73zA, q73zB, q73zC, i64_w, i32_w]
            rfl
           refine take_ (i := 11) (N := some 63) (v := ?_) (a' := ?_) q73y41 rfl rfl (take_ofW HT_.out HW_.out qa6) (fun _ _ _ h => h) (Or.inl ⟨by rfl, ?_⟩) hHeld ?_ ?_; rotate_left
           ·rintro w' ⟨s0, s1, s2, s3, s4, s5⟩
            go_simp; (with_reducible rfl)
           rotate_left
           ·simp only [Act.put, q73zA, q73zB, q73zC, i64_w, i32_w]
            rfl
           refine take_ (i := 16) (N := some 68) (v := ?_) (a' := ?_) q73y42 rfl rfl (take_ofW HT_.out HW_.out qa6) (fun _ _ _ h => h) (Or.inl ⟨by rfl, ?_⟩) hHeld ?_ ?_; rotate_left
           ·rintro w' ⟨s0, s1, s2, s3, s4, s5⟩
            go_simp; (with_reducible rfl)
           rotate_left
           ·simp only [Act.put, q73zA, q73zB, q73zC, i64_w, i32_w]
            rfl
           refine pure_ (i := 17) (N := some 69) (v := ?_) (a' := ?_) q73y43 rfl rfl (any_of HT_.out qa6) (fun _ _ _ h => h) (Or.inl ⟨by rfl, ?_⟩) ?_ ?_; rotate_left
           ·intro w'
            go_simp; (with_reducible rfl)
           rotate_left
           ·simp only [Act.put, q73zA, q73zB, q73zC, i64_w, i32_w]
            rfl
           refine join_ (σ := Value × Value × Value) 3 q73y44 (fun s_ => [(59, s_.1), (61, s_.2.1), (70, s_.2.2)]) (fun s_ w' => (w'.cell? ⟨gb101, 0, none⟩ = some (.slice (some ad108) x102000_1.length co65) ∧ w'.cell? ⟨gb101, 1, none⟩ = some (.int .i64 (wrap64 (t106 + 1))) ∧ w'.cell? (ad107.add ((x5_1).toNat * 2)) = some (.int .i64 ((rd_T58 l1 x5_1).f0)) ∧ w'.cell? ⟨(ad107.add ((x5_1).toNat * 2)).block, (ad107.add ((x5_1).toNat * 2)).off + 1, none⟩ = some (.int .i64 ((rd_T58 l1 x5_1).f1)) ∧ w'.cell? (ad107.add ((x5_1).toNat * 2)) = some (.int .i64 ((rd_T58 l1 x5_1).f0)) ∧ w'.cell? ⟨(ad107.add ((x5_1).toNat * 2)).block, (ad107.add ((x5_1).toNat * 2)).off + 1, none⟩ = some (.int .i64 ((rd_T58 l1 x5_1).f1))) ∧ (Kd.V k43 43 w' w.heap.size (fun k_ => (P0_0_ k_ ∨ w.heap.size ≤ k_) ∧ some k_ ≠ (s_.2.1 : Value).ownBlock ∧ some k_ ≠ (s_.2.2 : Value).ownBlock ∧ some k_ ≠ (.slice (some ad108) x102000_1.length co65 : Value).ownBlock ∧ k_ ≠ gb101 ∧ k_ ≠ gb102) (.slice A108_0 (rd_L4 x102000_1 ((rd_T58 l1 x5_1).f0)).length c108_0) (rd_L4 x102000_1 ((rd_T58 l1 x5_1).f0))) ∧ (Kd.R k43 43 w' w.heap.size (fun k_ => (w.heap.size ≤ k_) ∧ some k_ ≠ (s_.2.2 : Value).ownBlock) s_.2.1 y149) ∧ (Kd.R k43 43 w' w.heap.size (fun k_ => (w.heap.size ≤ k_) ∧ some k_ ≠ (s_.2.1 : Value).ownBlock) s_.2.2 y153) ∧ (Kd.N (Kd.slice 43 k43) 41 w' w.heap.size (fun k_ => (P0_0_ k_ ∨ w.heap.size ≤ k_) ∧ some k_ ≠ (s_.2.1 : Value).ownBlock ∧ some k_ ≠ (s_.2.2 : Value).ownBlock ∧ k_ ≠ gb101 ∧ k_ ≠ gb102) (.slice (some ad108) x102000_1.length co65) x102000_1) ∧ (w'.heap[gb101]? = some (.cells #[.slice (some ad108) x102000_1.length co65, .int .i64 (wrap64 (t106 + 1))] 28 (0, 0))) ∧ (w'.heap[gb102]? = some (.cells #[.slice none 0 0, .int .i64 0] 28 (0, 0))) ∧ (Below w.heap.size w w')) ?_ ?_; rotate_left
           ·intro hCont
            refine two_ (i := 7) (j := 18) (Ni := some 59) (Nj := some 70) q73y45 q73y46 rfl rfl rfl rfl (two_of HT_.out qa6) qa60 qa60 (fun K hK => ?_) (fun K hK => ?_)
            ·skip
             refine Kd.R_lit_step k43 _ 43 ?hg (N := 59) ?hd (xs := ([] : List (S43))) (inner := []) (ok := fun _ => True) (okp := fun _ => True) ?hr ?hp (fun _ hk => hk) trivial (Below.refl _ _) (Nat.le_refl _) qa119 ?_; (case hd => rfl); (case hg => rfl); (case hr => exact qa18); (case hp => exact qa196); intro v147 w68 ho69 hb hg_ hnew_; clear hg_ hnew_; (first | rw [← Ny146.out] at ho69 | (simp only [Int.reduceToNat] at ho69; rw [← Ny146.out] at ho69)); have HO148 := q73O (Kd.R_lower (Kd.R_newM (M := fun k_ => (w.heap.size ≤ k_)) ho69 (below_size qa5) (fun k_ h_ => h_)) (below_size qa5)); replace HO_102000 := q73O (Kd.N_elder' qa46 (Kd.R_base ho69) hb); replace HL108_0 := q73O (Kd.V_elder' qa52 (Kd.R_base ho69) hb); replace BK101 := q73O (blk_below (g := gb101) (o := .cells #[.slice (some ad108) x102000_1.length co65, .int .i64 (wrap64 (t106 + 1))] 28 (0, 0)) qa26 hb); replace BK102 := q73O (blk_below (g := gb102) (o := .cells #[.slice none 0 0, .int .i64 0] 28 (0, 0)) qa28 hb); replace HR108_0 := q73O (Kd.C_below qa24 hb); replace HB := q73O (below_step qa5 hb); clear hb ho69; refine hK.out _ _ ⟨qc0 BK101.out, qc1 BK101.out, ((HB.out.cell (q73L w _ hw145_0)).trans hw145_0), ((HB.out.cell (q73L w _ hw145_1)).trans hw145_1), ((HB.out.cell (q73L w _ hw152_0)).trans hw152_0), ((HB.out.cell (q73L w _ hw152_1)).trans hw152_1)⟩ (fun hHeld => ?_); clear hK K; refine norm_ (a' := ?_) ?_ ?_; rotate_left
             ·exact qa29
             refine two_ (i := 9) (j := 18) (Ni := some 61) (Nj := some 70) q73y47 q73y48 rfl rfl rfl rfl (two_of HT_.out qa6) qa60 qa60 (fun K hK => ?_) (fun K hK => ?_)
             ·skip
              refine Kd.R_append_rows_step k43 (w0 := w) w.heap.size (by rfl) (.tmp 59) (.tmp 60) 41 43 (.agg #[(.int .i64 0), (.int .i64 0)]) 16 rfl Try.underlying41 info43 rfl qa60 qa34 v147 y146 (rd_L4 x102000_1 ((rd_T58 l1 x5_1).f0)) _ _ _ (fun k_ => (w.heap.size ≤ k_)) (fun _ => False) rfl rfl ?aO ?aR (fun _ _ h => h) (fun _ h => h.elim) ?aF ?aB ?aS ?aL ?_; (case aR => exact qa47); (case aB => exact qa44); (case aF => exact qa118); (case aO => exact (by (with_reducible repeat (first | apply Kd.R_alloc | apply Kd.R_drewN | apply Kd.R_drew)); exact Kd.R_mono HO148.out (fun _ hk => hk.1))); (case aS => exact qa39); (case aL => have := LMc61.out; omega); intro v150 w70 ho hb hg hat; rw [← Ny149.out] at ho; have n0_ := q73O (Kd.N_afterv (ok := (fun k_ => (P0_0_ k_ ∨ w.heap.size ≤ k_) ∧ k_ ≠ gb101 ∧ k_ ≠ gb102)) qa46 hg hat); have n1_ := q73O (blk_grown (g := gb101) (o := .cells #[.slice (some ad108) x102000_1.length co65, .int .i64 (wrap64 (t106 + 1))] 28 (0, 0)) qa26 hg (Kd.R_ne HO148.out BK101.out qa60)); have n2_ := q73O (blk_grown (g := gb102) (o := .cells #[.slice none 0 0, .int .i64 0] 28 (0, 0)) qa28 hg (Kd.R_ne HO148.out BK102.out qa60)); have n3_ := q73O (Kd.V_afterv (ok := (fun k_ => (P0_0_ k_ ∨ w.heap.size ≤ k_) ∧ some k_ ≠ (.slice (some ad108) x102000_1.length co65 : Value).ownBlock ∧ k_ ≠ gb101 ∧ k_ ≠ gb102)) qa131 hg hat); have n4_ := q73O (hb); have n5_ := q73O (ho); clear HO_102000 BK101 BK102 HL108_0 HB HO148; have HO_102000 := n0_; have BK101 := n1_; have BK102 := n2_; have HL108_0 := n3_; have HB := n4_; have HO151 := n5_; clear n0_ n1_ n2_ n3_ n4_ n5_ ho hb hg hat; refine hK.out _ _ ⟨qc0 BK101.out, qc1 BK101.out, ((HB.out.cell (q73L w _ hw145_0)).trans hw145_0), ((HB.out.cell (q73L w _ hw145_1)).trans hw145_1), ((HB.out.cell (q73L w _ hw152_0)).trans hw152_0), ((HB.out.cell (q73L w _ hw152_1)).trans hw152_1)⟩ (fun hHeld => ?_); clear hK K; refine norm_ (a' := ?_) ?_ ?_; rotate_left
              ·exact qa29
              refine one_ (i := 18) (N := some 70) q73y44 rfl rfl (one_of HT_.out qa6) qa60 (fun K hK => ?_); refine Kd.R_lit_step k43 _ 43 ?hg (N := 70) ?hd (xs := ([(⟨(wrap64 (t106 + 1)), (rd_T58 l1 x5_1).f1⟩ : S43)] : List (S43))) (inner := [.int .i64 (wrap64 (t106 + 1)), .int .i64 ((rd_T58 l1 x5_1).f1)]) (ok := fun _ => True) (okp := fun _ => True) ?hr ?hp (fun _ hk => hk) trivial (Below.refl _ _) (Nat.le_refl _) qa119 ?_; (case hd => rfl); (case hg => rfl); (case hr => exact qa18); (case hp => exact qa42); intro v154 w71 ho72 hb hg_ hnew_; clear hg_ hnew_; (first | rw [← Ny153.out] at ho72 | (simp only [Int.reduceToNat] at ho72; rw [← Ny153.out] at ho72)); have HO155 := q73O (Kd.R_lower (Kd.R_new' (Kd.R_newM (M := fun k_ => (w.heap.size ≤ k_)) ho72 (below_size qa5) (fun k_ h_ => h_)) (Kd.R_lt qa182)) (below_size qa5)); replace HO_102000 := q73O (Kd.N_elder' qa46 (Kd.R_base ho72) hb); replace HL108_0 := q73O (Kd.V_elder' qa52 (Kd.R_base ho72) hb); replace HO151 := q73O (Kd.R_elder' qa182 (Kd.R_base ho72) hb); replace BK101 := q73O (blk_below (g := gb101) (o := .cells #[.slice (some ad108) x102000_1.length co65, .int .i64 (wrap64 (t106 + 1))] 28 (0, 0)) qa26 hb); replace BK102 := q73O (blk_below (g := gb102) (o := .cells #[.slice none 0 0, .int .i64 0] 28 (0, 0)) qa28 hb); replace HB := q73O (below_step qa5 hb); clear hb ho72; refine hK.out _ _ ⟨qc0 BK101.out, qc1 BK101.out, ((HB.out.cell (q73L w _ hw145_0)).trans hw145_0), ((HB.out.cell (q73L w _ hw145_1)).trans hw145_1), ((HB.out.cell (q73L w _ hw152_0)).trans hw152_0), ((HB.out.cell (q73L w _ hw152_1)).trans hw152_1)⟩ (fun hHeld => ?_); clear hK K; refine norm_ (a' := ?_) ?_ ?_; rotate_left
              ·exact qa29
              exact norm_ (by simp only [putAll, Act.put, q73zA, q73zB, q73zC]) (hCont (v147, v150, v154) _ ⟨hHeld, (by (with_reducible repeat (first | apply Kd.V_alloc | apply Kd.V_drewN | apply Kd.V_drew)); exact Kd.V_mono HL108_0.out (fun _ hk => ⟨hk.1.1.1, ⟨hk.1.2, ⟨hk.2, ⟨hk.1.1.2.1, ⟨hk.1.1.2.2.1, hk.1.1.2.2.2⟩⟩⟩⟩⟩)), (by (with_reducible repeat (first | apply Kd.R_alloc | apply Kd.R_drewN | apply Kd.R_drew)); exact HO151.out), (by (with_reducible repeat (first | apply Kd.R_alloc | apply Kd.R_drewN | apply Kd.R_drew)); exact Kd.R_mono HO155.out (fun _ hk => ⟨hk.1.1, hk.2⟩)), (by (with_reducible repeat (first | apply Kd.N_alloc | apply Kd.N_drewN | apply Kd.N_drew)); exact Kd.N_mono HO_102000.out (fun _ hk => ⟨hk.1.1.1, ⟨hk.1.2, ⟨hk.2, ⟨hk.1.1.2.1, hk.1.1.2.2⟩⟩⟩⟩)), (by (with_reducible repeat (first | refine q73kN ?_ _ | refine q73kD ?_ | refine q73kA ?_ _)); exact BK101.out), (by (with_reducible repeat (first | refine q73kN ?_ _ | refine q73kD ?_ | refine q73kA ?_ _)); exact BK102.out), (by repeat (first | (with_reducible first | exact HB.out | apply q73bA | apply q73bN | apply q73bD | refine q73bS ?_ GE101.out | refine q73bS ?_ GE102.out) | exact HB.out))⟩)
             ·skip
              refine Kd.R_lit_step k43 _ 43 ?hg (N := 70) ?hd (xs := ([(⟨(wrap64 (t106 + 1)), (rd_T58 l1 x5_1).f1⟩ : S43)] : List (S43))) (inner := [.int .i64 (wrap64 (t106 + 1)), .int .i64 ((rd_T58 l1 x5_1).f1)]) (ok := fun _ => True) (okp := fun _ => True) ?hr ?hp (fun _ hk => hk) trivial (Below.refl _ _) (Nat.le_refl _) qa119 ?_; (case hd => rfl); (case hg => rfl); (case hr => exact qa18); (case hp => exact qa42); intro v154 w70 ho71 hb hg_ hnew_; clear hg_ hnew_; (first | rw [← Ny153.out] at ho71 | (simp only [Int.reduceToNat] at ho71; rw [← Ny153.out] at ho71)); have HO155 := q73O (Kd.R_lower (Kd.R_new' (Kd.R_newM (M := fun k_ => (w.heap.size ≤ k_)) ho71 (below_size qa5) (fun k_ h_ => h_)) (Kd.R_lt qa183)) (below_size qa5)); replace HO_102000 := q73O (Kd.N_elder' qa46 (Kd.R_base ho71) hb); replace HL108_0 := q73O (Kd.V_elder' qa52 (Kd.R_base ho71) hb); replace HO148 := q73O (Kd.R_elder' qa183 (Kd.R_base ho71) hb); replace BK101 := q73O (blk_below (g := gb101) (o := .cells #[.slice (some ad108) x102000_1.length co65, .int .i64 (wrap64 (t106 + 1))] 28 (0, 0)) qa26 hb); replace BK102 := q73O (blk_below (g := gb102) (o := .cells #[.slice none 0 0, .int .i64 0] 28 (0, 0)) qa28 hb); replace HR108_0 := q73O (Kd.C_below qa24 hb); replace HB := q73O (below_step qa5 hb); clear hb ho71; refine hK.out _ _ ⟨qc0 BK101.out, qc1 BK101.out, ((HB.out.cell (q73L w _ hw145_0)).trans hw145_0), ((HB.out.cell (q73L w _ hw145_1)).trans hw145_1), ((HB.out.cell (q73L w _ hw152_0)).trans hw152_0), ((HB.out.cell (q73L w _ hw152_1)).trans hw152_1)⟩ (fun hHeld => ?_); clear hK K; refine norm_ (a' := ?_) ?_ ?_; rotate_left
              ·exact qa29
              refine one_ (i := 9) (N := some 61) q73y44 rfl rfl (one_of HT_.out qa6) qa60 (fun K hK => ?_); refine Kd.R_append_rows_step k43 (w0 := w) w.heap.size (by rfl) (.tmp 59) (.tmp 60) 41 43 (.agg #[(.int .i64 0), (.int .i64 0)]) 16 rfl Try.underlying41 info43 rfl qa60 qa34 v147 y146 (rd_L4 x102000_1 ((rd_T58 l1 x5_1).f0)) _ _ _ (fun k_ => (w.heap.size ≤ k_) ∧ some k_ ≠ (v154 : Value).ownBlock) (fun _ => False) rfl rfl ?aO ?aR (fun _ _ h => h) (fun _ h => h.elim) ?aF ?aB ?aS ?aL ?_; (case aR => exact qa47); (case aB => exact qa44); (case aF => exact qa80); (case aO => exact qa166); (case aS => exact qa39); (case aL => have := LMc61.out; omega); intro v150 w72 ho hb hg hat; rw [← Ny149.out] at ho; have n0_ := q73O (Kd.N_afterv (ok := (fun k_ => (P0_0_ k_ ∨ w.heap.size ≤ k_) ∧ some k_ ≠ (v154 : Value).ownBlock ∧ k_ ≠ gb101 ∧ k_ ≠ gb102)) qa128 hg hat); have n1_ := q73O (blk_grown (g := gb101) (o := .cells #[.slice (some ad108) x102000_1.length co65, .int .i64 (wrap64 (t106 + 1))] 28 (0, 0)) qa26 hg (Kd.R_ne HO148.out BK101.out qa60)); have n2_ := q73O (blk_grown (g := gb102) (o := .cells #[.slice none 0 0, .int .i64 0] 28 (0, 0)) qa28 hg (Kd.R_ne HO148.out BK102.out qa60)); have n3_ := q73O (Kd.V_afterv (ok := (fun k_ => (P0_0_ k_ ∨ w.heap.size ≤ k_) ∧ some k_ ≠ (.slice (some ad108) x102000_1.length co65 : Value).ownBlock ∧ some k_ ≠ (v154 : Value).ownBlock ∧ k_ ≠ gb101 ∧ k_ ≠ gb102)) qa122 hg hat); have n4_ := q73O (Kd.R_after (ok := (fun k_ => (w.heap.size ≤ k_))) qa167 hg hat); have n5_ := q73O (hb); have n6_ := q73O (ho); clear HO_102000 BK101 BK102 HL108_0 HO155 HB HO148; have HO_102000 := n0_; have BK101 := n1_; have BK102 := n2_; have HL108_0 := n3_; have HO155 := n4_; have HB := n5_; have HO151 := n6_; clear n0_ n1_ n2_ n3_ n4_ n5_ n6_ ho hb hg hat; refine hK.out _ _ ⟨qc0 BK101.out, qc1 BK101.out, ((HB.out.cell (q73L w _ hw145_0)).trans hw145_0), ((HB.out.cell (q73L w _ hw145_1)).trans hw145_1), ((HB.out.cell (q73L w _ hw152_0)).trans hw152_0), ((HB.out.cell (q73L w _ hw152_1)).trans hw152_1)⟩ (fun hHeld => ?_); clear hK K; refine norm_ (a' := ?_) ?_ ?_; rotate_left
              ·exact qa29
              exact norm_ (by simp only [putAll, Act.put, q73zA, q73zB, q73zC]) (hCont (v147, v150, v154) _ ⟨hHeld, (by (with_reducible repeat (first | apply Kd.V_alloc | apply Kd.V_drewN | apply Kd.V_drew)); exact Kd.V_mono HL108_0.out (fun _ hk => ⟨hk.1.1, ⟨hk.2, ⟨hk.1.2.2.1, ⟨hk.1.2.1, ⟨hk.1.2.2.2.1, hk.1.2.2.2.2⟩⟩⟩⟩⟩)), (by (with_reducible repeat (first | apply Kd.R_alloc | apply Kd.R_drewN | apply Kd.R_drew)); exact HO151.out), (by (with_reducible repeat (first | apply Kd.R_alloc | apply Kd.R_drewN | apply Kd.R_drew)); exact HO155.out), (by (with_reducible repeat (first | apply Kd.N_alloc | apply Kd.N_drewN | apply Kd.N_drew)); exact Kd.N_mono HO_102000.out (fun _ hk => ⟨hk.1.1, ⟨hk.2, ⟨hk.1.2.1, ⟨hk.1.2.2.1, hk.1.2.2.2⟩⟩⟩⟩)), (by (with_reducible repeat (first | refine q73kN ?_ _ | refine q73kD ?_ | refine q73kA ?_ _)); exact BK101.out), (by (with_reducible repeat (first | refine q73kN ?_ _ | refine q73kD ?_ | refine q73kA ?_ _)); exact BK102.out), (by repeat (first | (with_reducible first | exact HB.out | apply q73bA | apply q73bN | apply q73bD | refine q73bS ?_ GE101.out | refine q73bS ?_ GE102.out) | exact HB.out))⟩)
            ·skip
             refine Kd.R_lit_step k43 _ 43 ?hg (N := 70) ?hd (xs := ([(⟨(wrap64 (t106 + 1)), (rd_T58 l1 x5_1).f1⟩ : S43)] : List (S43))) (inner := [.int .i64 (wrap64 (t106 + 1)), .int .i64 ((rd_T58 l1 x5_1).f1)]) (ok := fun _ => True) (okp := fun _ => True) ?hr ?hp (fun _ hk => hk) trivial (Below.refl _ _) (Nat.le_refl _) qa119 ?_; (case hd => rfl); (case hg => rfl); (case hr => exact qa18); (case hp => exact qa42); intro v154 w68 ho69 hb hg_ hnew_; clear hg_ hnew_; (first | rw [← Ny153.out] at ho69 | (simp only [Int.reduceToNat] at ho69; rw [← Ny153.out] at ho69)); have HO155 := q73O (Kd.R_lower (Kd.R_newM (M := fun k_ => (w.heap.size ≤ k_)) ho69 (below_size qa5) (fun k_ h_ => h_)) (below_size qa5)); replace HO_102000 := q73O (Kd.N_elder' qa46 (Kd.R_base ho69) hb); replace HL108_0 := q73O (Kd.V_elder' qa52 (Kd.R_base ho69) hb); replace BK101 := q73O (blk_below (g := gb101) (o := .cells #[.slice (some ad108) x102000_1.length co65, .int .i64 (wrap64 (t106 + 1))] 28 (0, 0)) qa26 hb); replace BK102 := q73O (blk_below (g := gb102) (o := .cells #[.slice none 0 0, .int .i64 0] 28 (0, 0)) qa28 hb); replace HR108_0 := q73O (Kd.C_below qa24 hb); replace HB := q73O (below_step qa5 hb); clear hb ho69; refine hK.out _ _ ⟨qc0 BK101.out, qc1 BK101.out, ((HB.out.cell (q73L w _ hw145_0)).trans hw145_0), ((HB.out.cell (q73L w _ hw145_1)).trans hw145_1), ((HB.out.cell (q73L w _ hw152_0)).trans hw152_0), ((HB.out.cell (q73L w _ hw152_1)).trans hw152_1)⟩ (fun hHeld => ?_); clear hK K; refine norm_ (a' := ?_) ?_ ?_; rotate_left
             ·exact qa29
             refine one_ (i := 7) (N := some 59) q73y48 rfl rfl (one_of HT_.out qa6) qa60 (fun K hK => ?_); refine Kd.R_lit_step k43 _ 43 ?hg (N := 59) ?hd (xs := ([] : List (S43))) (inner := []) (ok := fun _ => True) (okp := fun _ => True) ?hr ?hp (fun _ hk => hk) trivial (Below.refl _ _) (Nat.le_refl _) qa119 ?_; (case hd => rfl); (case hg => rfl); (case hr => exact qa18); (case hp => exact qa196); intro v147 w70 ho71 hb hg_ hnew_; clear hg_ hnew_; (first | rw [← Ny146.out] at ho71 | (simp only [Int.reduceToNat] at ho71; rw [← Ny146.out] at ho71)); have HO148 := q73O (Kd.R_lower (Kd.R_new' (Kd.R_newM (M := fun k_ => (w.heap.size ≤ k_)) ho71 (below_size qa5) (fun k_ h_ => h_)) (Kd.R_lt qa159)) (below_size qa5)); replace HO_102000 := q73O (Kd.N_elder' qa46 (Kd.R_base ho71) hb); replace HL108_0 := q73O (Kd.V_elder' qa52 (Kd.R_base ho71) hb); replace HO155 := q73O (Kd.R_elder' qa159 (Kd.R_base ho71) hb); replace BK101 := q73O (blk_below (g := gb101) (o := .cells #[.slice (some ad108) x102000_1.length co65, .int .i64 (wrap64 (t106 + 1))] 28 (0, 0)) qa26 hb); replace BK102 := q73O (blk_below (g := gb102) (o := .cells #[.slice none 0 0, .int .i64 0] 28 (0, 0)) qa28 hb); replace HR108_0 := q73O (Kd.C_below qa24 hb); replace HB := q73O (below_step qa5 hb); clear hb ho71; refine hK.out _ _ ⟨qc0 BK101.out, qc1 BK101.out, ((HB.out.cell (q73L w _ hw145_0)).trans hw145_0), ((HB.out.cell (q73L w _ hw145_1)).trans hw145_1), ((HB.out.cell (q73L w _ hw152_0)).trans hw152_0), ((HB.out.cell (q73L w _ hw152_1)).trans hw152_1)⟩ (fun hHeld => ?_); clear hK K; refine norm_ (a' := ?_) ?_ ?_; rotate_left
             ·exact qa29
             refine one_ (i := 9) (N := some 61) q73y44 rfl rfl (one_of HT_.out qa6) qa60 (fun K hK => ?_); refine Kd.R_append_rows_step k43 (w0 := w) w.heap.size (by rfl) (.tmp 59) (.tmp 60) 41 43 (.agg #[(.int .i64 0), (.int .i64 0)]) 16 rfl Try.underlying41 info43 rfl qa60 qa34 v147 y146 (rd_L4 x102000_1 ((rd_T58 l1 x5_1).f0)) _ _ _ (fun k_ => (w.heap.size ≤ k_) ∧ some k_ ≠ (v154 : Value).ownBlock) (fun _ => False) rfl rfl ?aO ?aR (fun _ _ h => h) (fun _ h => h.elim) ?aF ?aB ?aS ?aL ?_; (case aR => exact qa47); (case aB => exact qa44); (case aF => exact qa80); (case aO => exact qa166); (case aS => exact qa39); (case aL => have := LMc61.out; omega); intro v150 w72 ho hb hg hat; rw [← Ny149.out] at ho; have n0_ := q73O (Kd.N_afterv (ok := (fun k_ => (P0_0_ k_ ∨ w.heap.size ≤ k_) ∧ some k_ ≠ (v154 : Value).ownBlock ∧ k_ ≠ gb101 ∧ k_ ≠ gb102)) qa129 hg hat); have n1_ := q73O (blk_grown (g := gb101) (o := .cells #[.slice (some ad108) x102000_1.length co65, .int .i64 (wrap64 (t106 + 1))] 28 (0, 0)) qa26 hg (Kd.R_ne HO148.out BK101.out qa60)); have n2_ := q73O (blk_grown (g := gb102) (o := .cells #[.slice none 0 0, .int .i64 0] 28 (0, 0)) qa28 hg (Kd.R_ne HO148.out BK102.out qa60)); have n3_ := q73O (Kd.V_afterv (ok := (fun k_ => (P0_0_ k_ ∨ w.heap.size ≤ k_) ∧ some k_ ≠ (.slice (some ad108) x102000_1.length co65 : Value).ownBlock ∧ some k_ ≠ (v154 : Value).ownBlock ∧ k_ ≠ gb101 ∧ k_ ≠ gb102)) qa123 hg hat); have n4_ := q73O (Kd.R_after (ok := (fun k_ => (w.heap.size ≤ k_))) qa167 hg hat); have n5_ := q73O (hb); have n6_ := q73O (ho); clear HO_102000 BK101 BK102 HL108_0 HO155 HB HO148; have HO_102000 := n0_; have BK101 := n1_; have BK102 := n2_; have HL108_0 := n3_; have HO155 := n4_; have HB := n5_; have HO151 := n6_; clear n0_ n1_ n2_ n3_ n4_ n5_ n6_ ho hb hg hat; refine hK.out _ _ ⟨qc0 BK101.out, qc1 BK101.out, ((HB.out.cell (q73L w _ hw145_0)).trans hw145_0), ((HB.out.cell (q73L w _ hw145_1)).trans hw145_1), ((HB.out.cell (q73L w _ hw152_0)).trans hw152_0), ((HB.out.cell (q73L w _ hw152_1)).trans hw152_1)⟩ (fun hHeld => ?_); clear hK K; refine norm_ (a' := ?_) ?_ ?_; rotate_left
             ·exact qa29
             exact norm_ (by simp only [putAll, Act.put, q73zA, q73zB, q73zC]) (hCont (v147, v150, v154) _ ⟨hHeld, (by (with_reducible repeat (first | apply Kd.V_alloc | apply Kd.V_drewN | apply Kd.V_drew)); exact Kd.V_mono HL108_0.out (fun _ hk => ⟨hk.1.1, ⟨hk.2, ⟨hk.1.2.2.1, ⟨hk.1.2.1, ⟨hk.1.2.2.2.1, hk.1.2.2.2.2⟩⟩⟩⟩⟩)), (by (with_reducible repeat (first | apply Kd.R_alloc | apply Kd.R_drewN | apply Kd.R_drew)); exact HO151.out), (by (with_reducible repeat (first | apply Kd.R_alloc | apply Kd.R_drewN | apply Kd.R_drew)); exact HO155.out), (by (with_reducible repeat (first | apply Kd.N_alloc | apply Kd.N_drewN | apply Kd.N_drew)); exact Kd.N_mono HO_102000.out (fun _ hk => ⟨hk.1.1, ⟨hk.2, ⟨hk.1.2.1, ⟨hk.1.2.2.1, hk.1.2.2.2⟩⟩⟩⟩)), (by (with_reducible repeat (first | refine q73kN ?_ _ | refine q73kD ?_ | refine q73kA ?_ _)); exact BK101.out), (by (with_reducible repeat (first | refine q73kN ?_ _ | refine q73kD ?_ | refine q73kA ?_ _)); exact BK102.out), (by repeat (first | (with_reducible first | exact HB.out | apply q73bA | apply q73bN | apply q73bD | refine q73bS ?_ GE101.out | refine q73bS ?_ GE102.out) | exact HB.out))⟩)
           rintro ⟨v147, v150, v154⟩ w73 ⟨hS_, h0_, h1_, h2_, h3_, h4_, h5_, h6_⟩; have n0_ : Aside0 (Kd.V k43 43 w73 w.heap.size (fun k_ => (P0_0_ k_ ∨ w.heap.size ≤ k_) ∧ some k_ ≠ (v150 : Value).ownBlock ∧ some k_ ≠ (v154 : Value).ownBlock ∧ some k_ ≠ (.slice (some ad108) x102000_1.length co65 : Value).ownBlock ∧ k_ ≠ gb101 ∧ k_ ≠ gb102) (.slice A108_0 (rd_L4 x102000_1 ((rd_T58 l1 x5_1).f0)).length c108_0) (rd_L4 x102000_1 ((rd_T58 l1 x5_1).f0))) := ⟨h0_⟩; have n1_ : Aside0 (Kd.R k43 43 w73 w.heap.size (fun k_ => (w.heap.size ≤ k_) ∧ some k_ ≠ (v154 : Value).ownBlock) v150 y149) := ⟨h1_⟩; have n2_ : Aside0 (Kd.R k43 43 w73 w.heap.size (fun k_ => (w.heap.size ≤ k_) ∧ some k_ ≠ (v150 : Value).ownBlock) v154 y153) := ⟨h2_⟩; have n3_ : Aside0 (Kd.N (Kd.slice 43 k43) 41 w73 w.heap.size (fun k_ => (P0_0_ k_ ∨ w.heap.size ≤ k_) ∧ some k_ ≠ (v150 : Value).ownBlock ∧ some k_ ≠ (v154 : Value).ownBlock ∧ k_ ≠ gb101 ∧ k_ ≠ gb102) (.slice (some ad108) x102000_1.length co65) x102000_1) := ⟨h3_⟩; have n4_ : Aside0 (w73.heap[gb101]? = some (.cells #[.slice (some ad108) x102000_1.length co65, .int .i64 (wrap64 (t106 + 1))] 28 (0, 0))) := ⟨h4_⟩; have n5_ : Aside0 (w73.heap[gb102]? = some (.cells #[.slice none 0 0, .int .i64 0] 28 (0, 0))) := ⟨h5_⟩; have n6_ : Aside0 (Below w.heap.size w w73) := ⟨h6_⟩; clear HO_102000 HL108_0 BK101 BK102 HR108_0 HB h0_ h1_ h2_ h3_ h4_ h5_ h6_; have HL108_0 := n0_; have HO151 := n1_; have HO155 := n2_; have HO_102000 := n3_; have BK101 := n4_; have BK102 := n5_; have HB := n6_; clear n0_ n1_ n2_ n3_ n4_ n5_ n6_; have hHeld : w73.cell? ⟨gb101, 0, none⟩ = some (.slice (some ad108) x102000_1.length co65) ∧ w73.cell? ⟨gb101, 1, none⟩ = some (.int .i64 (wrap64 (t106 + 1))) ∧ w73.cell? (ad107.add ((x5_1).toNat * 2)) = some (.int .i64 ((rd_T58 l1 x5_1).f0)) ∧ w73.cell? ⟨(ad107.add ((x5_1).toNat * 2)).block, (ad107.add ((x5_1).toNat * 2)).off + 1, none⟩ = some (.int .i64 ((rd_T58 l1 x5_1).f1)) ∧ w73.cell? (ad107.add ((x5_1).toNat * 2)) = some (.int .i64 ((rd_T58 l1 x5_1).f0)) ∧ w73.cell? ⟨(ad107.add ((x5_1).toNat * 2)).block, (ad107.add ((x5_1).toNat * 2)).off + 1, none⟩ = some (.int .i64 ((rd_T58 l1 x5_1).f1)) := hS_; obtain ⟨Ao75, co75, eo75⟩ := Kd.R_slice HO155.out; (first | subst eo75 | (injection eo75 with f1_ f2_ f3_; have f4_ := f1_.symm; have f5_ := f3_.symm; clear f1_ f2_ f3_; subst f4_; subst f5_)); refine norm_ (a' := ?_) ?_ ?_; rotate_left
           ·simp only [putAll, Act.put, q73zA, q73zB, q73zC]
            rfl
           refine one_ (i := 19) (N := some 71) q73y49 rfl rfl (one_of HT_.out qa6) qa60 (fun K hK => ?_); refine Kd.R_append_rows_step k43 (w0 := w) w.heap.size (by rfl) (.tmp 61) (.tmp 70) 41 43 (.agg #[(.int .i64 0), (.int .i64 0)]) 16 rfl Try.underlying41 info43 rfl qa60 qa34 v150 y149 y153 _ _ _ (fun k_ => (w.heap.size ≤ k_) ∧ some k_ ≠ (.slice Ao75 y153.length co75 : Value).ownBlock) (fun _ => False) rfl rfl ?aO ?aR (fun _ _ h => h) (fun _ h => h.elim) ?aF ?aB ?aS ?aL ?_; (case aR => repeat (first | exact (Kd.R_reads' HO155.out).2.2 | with_reducible first | refine Kd.C_alloc ?_ _ | refine Kd.C_drewN ?_ _ | refine Kd.C_drew ?_)); (case aB => exact qa44); (case aF => exact qa80); (case aO => exact (by (with_reducible repeat (first | apply Kd.R_alloc | apply Kd.R_drewN | apply Kd.R_drew)); exact HO151.out)); (case aS => exact qa39); (case aL => have := LMc62.out; omega); intro v157 w74 ho hb hg hat; rw [← Ny156.out] at ho; have n0_ := q73O (Kd.N_afterv (ok := (fun k_ => (P0_0_ k_ ∨ w.heap.size ≤ k_) ∧ some k_ ≠ (.slice Ao75 y153.length co75 : Value).ownBlock ∧ k_ ≠ gb101 ∧ k_ ≠ gb102)) qa130 hg hat); have n1_ := q73O (blk_grown (g := gb101) (o := .cells #[.slice (some ad108) x102000_1.length co65, .int .i64 (wrap64 (t106 + 1))] 28 (0, 0)) qa26 hg (Kd.R_ne HO151.out BK101.out qa60)); have n2_ := q73O (blk_grown (g := gb102) (o := .cells #[.slice none 0 0, .int .i64 0] 28 (0, 0)) qa28 hg (Kd.R_ne HO151.out BK102.out qa60)); have n3_ := q73O (Kd.V_afterv (ok := (fun k_ => (P0_0_ k_ ∨ w.heap.size ≤ k_) ∧ some k_ ≠ (.slice (some ad108) x102000_1.length co65 : Value).ownBlock ∧ some k_ ≠ (.slice Ao75 y153.length co75 : Value).ownBlock ∧ k_ ≠ gb101 ∧ k_ ≠ gb102)) qa124 hg hat); have n4_ := q73O (Kd.R_after (ok := (fun k_ => (w.heap.size ≤ k_))) qa159 hg hat); have n5_ := q73O (hb); have n6_ := q73O (ho); clear HO_102000 BK101 BK102 HL108_0 HO155 HB HO151; have HO_102000 := n0_; have BK101 := n1_; have BK102 := n2_; have HL108_0 := n3_; have HO155 := n4_; have HB := n5_; have HO158 := n6_; clear n0_ n1_ n2_ n3_ n4_ n5_ n6_; obtain ⟨Av76, cv76, ev76⟩ := Kd.R_slice HO158.out; subst ev76; clear ho hb hg hat; have p63 : 0 ≤ (((rd_T58 l1 x5_1).f0) : Int) := q73T qa138; have q63 : (((rd_T58 l1 x5_1).f0) : Int) < ((x102000_1.length : Int) : Int) := q73T qa138; obtain ⟨go63, co63, eo63, gb63, gl63, cl63, HG63⟩ := Kd.N_form HO_102000.out qa34; (first | cases eo63 | (injection eo63 with ea_ en_ ec_; (first | subst ea_ | (injection ea_ with ea_; subst ea_)); subst ec_; clear en_)); have GB63 := q73O gb63; have GG63 := q73O HG63; clear gb63 gl63 HG63; (first | simp only [add_plain] at hx108_0 | skip); obtain ⟨ce63, hcl63, hM63, hcc63, hfr63⟩ := Kd.N_elem HO_102000.out [] (((rd_T58 l1 x5_1).f0) : Int) p63 q63; obtain ⟨ua63_0, uc63_0, rfl, ul63_0, ge63_0⟩ := Kd.FK_slice_open hM63; have hx63_0 := hcc63 0 _ rfl; have hf63_0 := hfr63 0; (try simp only [show ((Kd.slice 43 k43)).sz = 1 from rfl, Nat.mul_one, Nat.add_zero] at hx63_0); (try simp only [show ((Kd.slice 43 k43)).sz = 1 from rfl, Nat.mul_one, Nat.add_zero] at hf63_0); clear hcl63 hcc63 hfr63; (try clear hM63); replace p63 := eq_true p63; replace q63 := eq_true q63; have HX76 := q73O (show Kd.N (Kd.slice 43 k43) 41 _ w.heap.size (fun k_ => (P0_0_ k_ ∨ w.heap.size ≤ k_) ∧ some k_ ≠ (.slice Ao75 y153.length co75 : Value).ownBlock ∧ some k_ ≠ ((.slice Av76 y156.length cv76) : Value).ownBlock ∧ k_ ≠ gb101 ∧ k_ ≠ gb102) (.slice (some ⟨go63, 0, none⟩) x102000_1.length co65) x102000_1 from (Kd.N_mono (HO_102000.out) (fun k_ hk => ⟨hk.1.1, ⟨hk.1.2.1, ⟨hk.2, ⟨hk.1.2.2.1, hk.1.2.2.2⟩⟩⟩⟩))); replace HX76 := q73O (show Kd.N (Kd.slice 43 k43) 41 _ w.heap.size (fun k_ => (P0_0_ k_ ∨ w.heap.size ≤ k_) ∧ some k_ ≠ (.slice Ao75 y153.length co75 : Value).ownBlock ∧ k_ ≠ gb101 ∧ k_ ≠ gb102) (.slice (some ⟨go63, 0, none⟩) x102000_1.length co65) x102000_1 from Kd.N_mono HX76.out (fun k_ hk => ⟨hk.1, ⟨hk.2.1, ⟨hk.2.2.2.1, hk.2.2.2.2⟩⟩⟩)); obtain ⟨ce76, hcl76, hM76, hcc76, hfr76⟩ := Kd.N_elem HX76.out [] (((rd_T58 l1 x5_1).f0) : Int) (q73T qa138) (by have h_ : (((rd_T58 l1 x5_1).f0) : Int) < ((x102000_1.length : Int) : Int) := q73T qa138; first | exact h_ | (have e_ := (Kd.N_reads' HO_102000.out).1; omega) | simpa using h_); obtain ⟨ua76_0, uc76_0, rfl, ul76_0, ge76_0⟩ := Kd.FK_slice_open hM76; have HP76 := (Kd.N_seg HX76.out (((rd_T58 l1 x5_1).f0) : Int) (q73T qa138) (by have h_ : (((rd_T58 l1 x5_1).f0) : Int) < ((x102000_1.length : Int) : Int) := q73T qa138; first | exact h_ | (have e_ := (Kd.N_reads' HO_102000.out).1; omega) | simpa using h_) (seg := [(.slice Av76 y156.length cv76)]) (j := 0) hcl76 hcc76 (show 1 ≤ 1 from by decide) (x' := y156) (Kd.FK_slice_mk (Kd.R_reads' (Kd.R_mono (ok' := (fun k_ => ((fun k_ => (P0_0_ k_ ∨ w.heap.size ≤ k_) ∧ some k_ ≠ (.slice Ao75 y153.length co75 : Value).ownBlock ∧ k_ ≠ gb101 ∧ k_ ≠ gb102)) k_ ∧ k_ ≠ go63)) (Kd.R_types (Kd.R_types (Kd.R_apart' (HO158.out) (Kd.N_typed HO_102000.out) qa60) BK101.out qa60) BK102.out qa60) (fun k_ hk => ⟨⟨(.inr (hk.1.1.1.1)), ⟨hk.1.1.1.2, ⟨hk.1.2, hk.2⟩⟩⟩, fun e_ => (hk.1.1.2) qa199⟩))).2.1 (Kd.R_F (Kd.R_mono (ok' := (fun k_ => ((fun k_ => (P0_0_ k_ ∨ w.heap.size ≤ k_) ∧ some k_ ≠ (.slice Ao75 y153.length co75 : Value).ownBlock ∧ k_ ≠ gb101 ∧ k_ ≠ gb102)) k_ ∧ k_ ≠ go63)) (Kd.R_types (Kd.R_types (Kd.R_apart' (HO158.out) (Kd.N_typed HO_102000.out) qa60) BK101.out qa60) BK102.out qa60) (fun k_ hk => ⟨⟨(.inr (hk.1.1.1.1)), ⟨hk.1.1.1.2, ⟨hk.1.2, hk.2⟩⟩⟩, fun e_ => (hk.1.1.2) qa199⟩)))) (fun _ hk => hk)).1; (try simp only [show ((Kd.slice 43 k43)).sz = 1 from rfl, Nat.mul_one, Nat.add_zero] at HP76); rw [← Ny159.out] at HP76; have HQ76 := q73O HP76; clear hcl76 hcc76 hfr76; (try clear hM76); clear HP76; refine hK.out _ _ ⟨qc0 BK101.out, qc1 BK101.out, ((HB.out.cell (q73L w _ hw145_0)).trans hw145_0), ((HB.out.cell (q73L w _ hw145_1)).trans hw145_1), ((HB.out.cell (q73L w _ hw152_0)).trans hw152_0), ((HB.out.cell (q73L w _ hw152_1)).trans hw152_1)⟩ (fun hHeld => ?_); clear hK K; refine norm_ (a' := ?_) ?_ ?_; rotate_left
           ·exact qa29
           refine pure_ (i := 20) (N := some 72) (v := ?_) (a' := ?_) q73y50 rfl rfl (any_of HT_.out qa6) (fun _ _ _ h => h) (Or.inl ⟨by rfl, ?_⟩) ?_ ?_; rotate_left
           ·intro w'
            go_simp; (with_reducible rfl)
           rotate_left
           ·simp only [Act.put, q73zA, q73zB, q73zC, i64_w, i32_w]
            rfl
           refine last_ (i := 21) (N := none) q73y51 rfl rfl (one_of HT_.out qa6) qa60 (fun K hK => ?_); refine skip_ (w1 := ?_) (by rfl) rfl ?_ ?_; rotate_left
           ·go_simp
            rfl
           refine hK.out _ _ ?_; clear hK K; refine done_ (done_of HT_.out qa6) ?_
           try go_wp2
           go_roundg k1
           case measure => have := HK1.out; omega
           case rel => exact ⟨(wrap64 (x5_1 + 1)), (y159), (.slice (some ⟨go63, 0, none⟩) x102000_1.length co65), qa16, H', ⟨qa155⟩, ⟨by (with_reducible repeat (first | apply Kd.N_alloc | apply Kd.N_drewN | apply Kd.N_drew)); exact Kd.N_mono HQ76.out (fun _ hk => ⟨hk.1, ⟨hk.2.2.1, hk.2.2.2⟩⟩)⟩, ⟨qa89⟩, ⟨qa90⟩, ⟨by repeat (first | (with_reducible first | exact HB.out | apply q73bA | apply q73bN | apply q73bD | refine q73bS ?_ GB63.out | refine q73bS ?_ GE101.out | refine q73bS ?_ GE102.out) | exact HB.out)⟩⟩
          ·rw [if_neg c62] at H
           exact absurd H qa119
         ·rw [if_neg c61] at H
          exact absurd H qa119
       ·rw [if_neg c20] at H
        exact absurd H qa119
      ·rw [if_neg c19] at H
       exact absurd H qa119
     ·rw [if_neg c18] at H
      exact absurd H qa119
    ·rw [if_neg c17] at H
     have c17b0 : decide (x5_1 < (l1.length : Int)) = false := decide_eq_false c17; clear c17; simp only [Option.some.injEq, Prod.mk.injEq] at H; obtain ⟨rfl, rfl⟩ := H; have hnb77 := NB101_102.out; have hnc77 := NB102_101.out; obtain ⟨hcz78_0, hcz78_1, hfz78_0, hfz78_1⟩ := qb2 BK101.out; obtain ⟨Ao79, co79, eo79⟩ := Kd.N_slice HO_102000.out; subst eo79; obtain ⟨hcz80_0, hcz80_1, hfz80_0, hfz80_1⟩ := qb2 BK102.out; go_wp2; refine bodyPost_ret (results_cell_row rfl _ _ gb102 28 #[.slice Ao79 x102000_1.length co79, .int .i64 (wrap64 (t106 + 1))] (0, 0) _ rfl (by (with_reducible repeat (first | refine q73kN ?_ _ | refine q73kD ?_ | refine q73kA ?_ _)); refine blk_put (cs := #[.slice Ao79 x102000_1.length co79, .int .i64 0]) ?_ 1 _ rfl; (with_reducible repeat (first | refine q73kN ?_ _ | refine q73kD ?_ | refine q73kA ?_ _)); refine blk_put (cs := #[.slice none 0 0, .int .i64 0]) ?_ 0 _ rfl; (with_reducible repeat (first | refine q73kN ?_ _ | refine q73kD ?_ | refine q73kA ?_ _)); exact BK102.out) Try.underlying28 rfl qa6) rfl ?_
     exact ⟨_, qa10, Kd.N_V (by (with_reducible repeat (first | apply Kd.N_alloc | apply Kd.N_drewN | apply Kd.N_drew)); exact Kd.N_mono (Kd.N_far (p := ⟨gb102, 1, none⟩) (Kd.N_far (p := ⟨gb102, 0, none⟩) (Kd.N_mono HO_102000.out (fun k_ hk => (⟨hk, hk.2.2⟩ : _ ∧ k_ ≠ gb102))) (fun _ hk => hk.2) (.slice Ao79 x102000_1.length co79)) (fun _ hk => hk.2) (.int .i64 (wrap64 (t106 + 1)))) (fun _ hk => hk.1.1)), qa5⟩


def spec_l00Src_byte.f (s0_0 : List Int) (s0_1 : Int) (s0_2 : Int) : Option (Int × Int × Int) := if (wrap64 (s0_1 + 1)) ≤ (s0_0.length : Int) then (if 0 ≤ (wrap64 ((wrap64 (s0_1 + 1)) - 1)) then (if (wrap64 ((wrap64 (s0_1 + 1)) - 1)) < (s0_0.length : Int) then (some (wrap64 (rd s0_0 (wrap64 ((wrap64 (s0_1 + 1)) - 1))), wrap64 (s0_1 + 1), Int.tmod (wrap64 ((wrap64 ((wrap64 (s0_2 * 31)) + (wrap64 (rd s0_0 (wrap64 ((wrap64 (s0_1 + 1)) - 1)))))) + 7)) 2147483648)) else (none)) else (none)) else (if (wrap64 (s0_1 + 1)) > 3000 then (some (0, wrap64 (s0_1 + 1), s0_2)) else (some (Int.tmod (wrap64 (Int.tdiv (Int.tmod (wrap64 ((wrap64 (s0_2 * 1103515245)) + 12345)) 2147483648) 65536)) 256, wrap64 (s0_1 + 1), Int.tmod (wrap64 ((wrap64 (s0_2 * 1103515245)) + 12345)) 2147483648)))
def spec_l00Src_byte.T2 : Bool × List (List Nat × List Nat) := (true, [([], []), ([0], [0]), ([1], [1]), ([2], [2]), ([], []), ([4], [4]), ([5], [5]), ([6], [6]), ([7], [7]), ([3, 8], [3, 8])])
def spec_l00Src_byte.B2 : List Nat := [0, 1, 3, 7, 0, 16, 48, 112, 240, 511]
theorem spec_l00Src_byte.tab2 : rtab .any (opsOf Try.f129 2) = spec_l00Src_byte.T2 := by kernel_rfl
theorem spec_l00Src_byte.bits2 : waitsOk spec_l00Src_byte.T2.2 spec_l00Src_byte.B2 = true := by kernel_rfl
def spec_l00Src_byte.T3 : Bool × List (List Nat × List Nat) := (true, [([], []), ([], []), ([1], [1]), ([2], [2]), ([3], [3]), ([4], [4]), ([], []), ([6], [6]), ([7], [7]), ([8], [8]), ([], []), ([10], [10]), ([11], [11]), ([12], [12]), ([13], [13]), ([9, 14], [9, 14]), ([15], [15]), ([16], [16]), ([5, 17], [5, 17]), ([18], [18]), ([19], [19]), ([0, 0, 1, 2, 3, 4, 5, 6, 7, 8, 9, 10, 11, 12, 13, 14, 15, 16, 17, 18, 19, 20], [0]), ([21, 0, 1, 2, 3, 4, 5, 6, 7, 8, 9, 10, 11, 12, 13, 14, 15, 16, 17, 18, 19, 20], [21]), ([22, 20, 0, 1, 2, 3, 4, 5, 6, 7, 8, 9, 10, 11, 12, 13, 14, 15, 16, 17, 18, 19, 20], [20, 22])])
def spec_l00Src_byte.B3 : List Nat := [0, 0, 2, 6, 14, 30, 0, 64, 192, 448, 0, 1024, 3072, 7168, 15360, 32704, 65472, 131008, 262142, 524286, 1048574, 2097151, 4194303, 8388607]
theorem spec_l00Src_byte.tab3 : rtab .any (opsOf Try.f129 3) = spec_l00Src_byte.T3 := by kernel_rfl
theorem spec_l00Src_byte.bits3 : waitsOk spec_l00Src_byte.T3.2 spec_l00Src_byte.B3 = true := by kernel_rfl
def spec_l00Src_byte.T4 : Bool × List (List Nat × List Nat) := (true, [([], []), ([0], [0]), ([1], [1]), ([2], [2]), ([], []), ([4], [4]), ([5], [5]), ([6], [6]), ([7], [7]), ([3, 8], [3, 8]), ([9], [9]), ([10], [10]), ([11, 0, 1, 2, 3, 4, 5, 6, 7, 8, 9, 10, 11], [11])])
def spec_l00Src_byte.B4 : List Nat := [0, 1, 3, 7, 0, 16, 48, 112, 240, 511, 1023, 2047, 4095]
theorem spec_l00Src_byte.tab4 : rtab .any (opsOf Try.f129 4) = spec_l00Src_byte.T4 := by kernel_rfl
theorem spec_l00Src_byte.bits4 : waitsOk spec_l00Src_byte.T4.2 spec_l00Src_byte.B4 = true := by kernel_rfl
set_option maxHeartbeats 8000000 in
set_option maxRecDepth 100000 in
theorem spec_l00Src_byte.calls (g : Nat) (s0_0 : List Int) (s0_1 : Int) (s0_2 : Int) (r1 : Int) (r2 : Int) (r3 : Int) (w0 w : World) (hI : IsS128 w0 w g s0_0 s0_1 s0_2) (hB : Below w0.heap.size w0 w) (h : spec_l00Src_byte.f s0_0 s0_1 s0_2 = some (r1, r2, r3)) :
  Calls Try.prog 129 #[.pointer (some ⟨g, 0, none⟩)] w fun e w' => e = .returned (.int .i64 r1) ∧ IsS128 w0 w' g s0_0 r2 r3 ∧ Below w0.heap.size w0 w' ∧ KeepBut w w' g none := by
 have HI0 := qO hI; have HK := qO (KeepBut.refl w g none); have HL := qO hB.size; clear hI; have HW0 := qO hB.size; have HB := qO hB; clear hB; have H : (if (wrap64 (s0_1 + 1)) ≤ (s0_0.length : Int) then (if 0 ≤ (wrap64 ((wrap64 (s0_1 + 1)) - 1)) then (if (wrap64 ((wrap64 (s0_1 + 1)) - 1)) < (s0_0.length : Int) then (some (wrap64 (rd s0_0 (wrap64 ((wrap64 (s0_1 + 1)) - 1))), wrap64 (s0_1 + 1), Int.tmod (wrap64 ((wrap64 ((wrap64 (s0_2 * 31)) + (wrap64 (rd s0_0 (wrap64 ((wrap64 (s0_1 + 1)) - 1)))))) + 7)) 2147483648)) else (none)) else (none)) else (if (wrap64 (s0_1 + 1)) > 3000 then (some (0, wrap64 (s0_1 + 1), s0_2)) else (some (Int.tmod (wrap64 (Int.tdiv (Int.tmod (wrap64 ((wrap64 (s0_2 * 1103515245)) + 12345)) 2147483648) 65536)) 256, wrap64 (s0_1 + 1), Int.tmod (wrap64 ((wrap64 (s0_2 * 1103515245)) + 12345)) 2147483648)))) = some (r1, r2, r3) := h; clear h
 by_cases c2 : (wrap64 (s0_1 + 1)) ≤ (s0_0.length : Int)
 ·rw [if_pos c2] at H
  have c2b0 : decide ((wrap64 (s0_1 + 1)) ≤ (s0_0.length : Int)) = true := decide_eq_true c2; clear c2; obtain ⟨ji3, hji3⟩ : ∃ j_ : Int, (wrap64 ((wrap64 (s0_1 + 1)) - 1)) = j_ := ⟨_, rfl⟩; replace H : (if 0 ≤ (ji3) then (if (ji3) < (s0_0.length : Int) then (some (wrap64 (rd s0_0 (ji3)), wrap64 (s0_1 + 1), Int.tmod (wrap64 ((wrap64 ((wrap64 (s0_2 * 31)) + (wrap64 (rd s0_0 (ji3))))) + 7)) 2147483648)) else (none)) else (none)) = some (r1, r2, r3) := by first | (rw [hji3] at H; exact H) | (simp only [hji3] at H ⊢; exact H)
  have hji3w : (IntKind.i64.wrap ((wrap64 (s0_1 + 1)) - 1)) = ji3 := (i64_w _).trans hji3
  by_cases c4 : 0 ≤ (ji3)
  ·rw [if_pos c4] at H
   have c4b0 : decide (0 ≤ (ji3)) = true := decide_eq_true c4; clear c4
   by_cases c5 : (ji3) < (s0_0.length : Int)
   ·rw [if_pos c5] at H
    have c5b0 : decide ((ji3) < (s0_0.length : Int)) = true := decide_eq_true c5; clear c5; simp only [Option.some.injEq, Prod.mk.injEq] at H; obtain ⟨rfl, rfl, rfl⟩ := H; obtain ⟨A1, c1z, HG1, hg1, HS1⟩ := HI0.out; have hcz_0 := cellS128_0 HG1; have hcz_1 := cellS128_1 HG1; have hcz_2 := cellS128_2 HG1; have hfz_1 := blk_frozen HG1 1; have hfz_2 := blk_frozen HG1 2; clear HG1 hg1
    go_enter Try.func129, Try.ntmps129
    try go_wp2
    clear hcz_0 hcz_1 hcz_2 hfz_1 hfz_2 HS1; have n0_ : Aside0 (IsS128 w0 (w.setCell ⟨g, 1, none⟩ (.int .i64 (wrap64 (s0_1 + 1)))) g s0_0 (wrap64 (s0_1 + 1)) s0_2) := ⟨qa14⟩; have n1_ : Aside0 (Below w0.heap.size w0 (w.setCell ⟨g, 1, none⟩ (.int .i64 (wrap64 (s0_1 + 1))))) := ⟨qa22⟩; have n2_ : Aside0 (KeepBut w (w.setCell ⟨g, 1, none⟩ (.int .i64 (wrap64 (s0_1 + 1)))) g none) := ⟨qa19⟩; clear HI0 HB HK; generalize (w.setCell ⟨g, 1, none⟩ (.int .i64 (wrap64 (s0_1 + 1)))) = w2 at n0_ n1_ n2_ ⊢; have HI0 := n0_; have HB := n1_; have HK := n2_; clear n0_ n1_ n2_; obtain ⟨A2, c2z, HG2, hg2, HS2⟩ := HI0.out; replace HI0 := qO (IsS128.drew HI0.out); replace HB := qO (qbD HB.out); replace HK := qO (keep_drew HK.out); replace HG2 := qkD HG2; refine start_ (n := 10) (S := fun w' => w'.cell? ⟨g, 0, none⟩ = some (.slice A2 s0_0.length c2z) ∧ w'.cell? ⟨g, 1, none⟩ = some (.int .i64 (wrap64 (s0_1 + 1)))) (ds := []) #[qf,qf,qf,qf,qf,qf,qf,qf,qf,qf] qa6 rfl rfl ⟨(blk_cell HG2 0).trans rfl, (blk_cell HG2 1).trans rfl⟩ (fun hHeld => ?_); refine with_tabW spec_l00Src_byte.tab2 spec_l00Src_byte.bits2 (fun HT_ HW_ => ?_); generalize w2.drew = w3 at HI0 HB HK HG2 hHeld ⊢; refine qPu 0 10 #[qt,qf,qf,qf,qf,qf,qf,qf,qf,qf] rfl rfl (any_of HT_.out qa6) qa8 qa3 ?_; refine qPu 1 11 #[qt,qt,qf,qf,qf,qf,qf,qf,qf,qf] rfl rfl (any_of HT_.out qa6) qa8 qa3 ?_; refine qPu 2 12 #[qt,qt,qt,qf,qf,qf,qf,qf,qf,qf] rfl rfl (any_of HT_.out qa6) qa8 qa3 ?_; refine qTk 3 13 #[qt,qt,qt,qt,qf,qf,qf,qf,qf,qf] rfl rfl (take_ofW HT_.out HW_.out qa6) qa101 hHeld qa3 ?_; refine qPu 4 14 #[qt,qt,qt,qt,qt,qf,qf,qf,qf,qf] rfl rfl (any_of HT_.out qa6) qa8 qa3 ?_; refine qPu 5 15 #[qt,qt,qt,qt,qt,qt,qf,qf,qf,qf] rfl rfl (any_of HT_.out qa6) qa8 qa3 ?_; refine qPu 6 16 #[qt,qt,qt,qt,qt,qt,qt,qf,qf,qf] rfl rfl (any_of HT_.out qa6) qa8 qa3 ?_; refine qTk 7 17 #[qt,qt,qt,qt,qt,qt,qt,qt,qf,qf] rfl rfl (take_ofW HT_.out HW_.out qa6) qa101 hHeld qa3 ?_; refine qPu 8 18 #[qt,qt,qt,qt,qt,qt,qt,qt,qt,qf] rfl rfl (any_of HT_.out qa6) qa8 qa3 ?_; refine qPu 9 19 #[qt,qt,qt,qt,qt,qt,qt,qt,qt,qt] rfl rfl (any_of HT_.out qa6) qa8 qa3 ?_; refine done_ (done_of HT_.out qa6) ?_; have p101 : 0 ≤ ((ji3) : Int) := qT qa2; have q101 : (ji3) < (s0_0.length : Int) := qT qa2; obtain ⟨ad101, e101, hx101_0⟩ := Kd.at_int HS2 (ji3) p101 q101
    cases e101
    have hn101_0 : ad101.block ≠ g := Nat.ne_of_lt (Nat.lt_of_lt_of_le (by have := qL _ _ hx101_0; first | rwa [add_block] at this | exact this) (IsS128.ge HI0.out)); have hx3 := pw_cell_below HB.out hx101_0; replace p101 := eq_true p101; replace q101 := eq_true q101
    try go_wp2
    replace HI0 := qO (IsS128.drew HI0.out); replace HB := qO (qbD HB.out); replace HK := qO (keep_drew HK.out); replace HG2 := qkD HG2; replace hx3 : w3.drew.cell? _ = _ := hx3; refine start_ (n := 24) (S := fun w' => w'.cell? ⟨g, 0, none⟩ = some (.slice (some ad101) s0_0.length c2z) ∧ w'.cell? ⟨g, 1, none⟩ = some (.int .i64 (wrap64 (s0_1 + 1))) ∧ w'.cell? ⟨g, 2, none⟩ = some (.int .i64 (s0_2)) ∧ w'.cell? (ad101.add (ji3).toNat) = some (.int .u8 (rd s0_0 (ji3)))) (ds := [23]) #[qf,qf,qf,qf,qf,qf,qf,qf,qf,qf,qf,qf,qf,qf,qf,qf,qf,qf,qf,qf,qf,qf,qf,qf] qa6 rfl rfl ⟨(blk_cell HG2 0).trans rfl, (blk_cell HG2 1).trans rfl, (blk_cell HG2 2).trans rfl, hx3⟩ (fun hHeld => ?_); refine with_tabW spec_l00Src_byte.tab3 spec_l00Src_byte.bits3 (fun HT_ HW_ => ?_); generalize w3.drew = w4 at HI0 HB HK HG2 hx3 hHeld ⊢; refine qPu 0 20 #[qt,qf,qf,qf,qf,qf,qf,qf,qf,qf,qf,qf,qf,qf,qf,qf,qf,qf,qf,qf,qf,qf,qf,qf] rfl rfl (any_of HT_.out qa6) qa8 qa48 ?_; refine qPu 1 21 #[qt,qt,qf,qf,qf,qf,qf,qf,qf,qf,qf,qf,qf,qf,qf,qf,qf,qf,qf,qf,qf,qf,qf,qf] rfl rfl (any_of HT_.out qa6) qa8 qa48 ?_; refine qPu 2 22 #[qt,qt,qt,qf,qf,qf,qf,qf,qf,qf,qf,qf,qf,qf,qf,qf,qf,qf,qf,qf,qf,qf,qf,qf] rfl rfl (any_of HT_.out qa6) qa8 qa48 ?_; refine qPu 3 23 #[qt,qt,qt,qt,qf,qf,qf,qf,qf,qf,qf,qf,qf,qf,qf,qf,qf,qf,qf,qf,qf,qf,qf,qf] rfl rfl (any_of HT_.out qa6) qa8 qa48 ?_; refine qTk 4 24 #[qt,qt,qt,qt,qt,qf,qf,qf,qf,qf,qf,qf,qf,qf,qf,qf,qf,qf,qf,qf,qf,qf,qf,qf] rfl rfl (take_ofW HT_.out HW_.out qa6) qa49 hHeld qa48 ?_; refine qPu 5 25 #[qt,qt,qt,qt,qt,qt,qf,qf,qf,qf,qf,qf,qf,qf,qf,qf,qf,qf,qf,qf,qf,qf,qf,qf] rfl rfl (any_of HT_.out qa6) qa8 qa48 ?_; refine qPu 6 26 #[qt,qt,qt,qt,qt,qt,qt,qf,qf,qf,qf,qf,qf,qf,qf,qf,qf,qf,qf,qf,qf,qf,qf,qf] rfl rfl (any_of HT_.out qa6) qa8 qa48 ?_; refine qPu 7 27 #[qt,qt,qt,qt,qt,qt,qt,qt,qf,qf,qf,qf,qf,qf,qf,qf,qf,qf,qf,qf,qf,qf,qf,qf] rfl rfl (any_of HT_.out qa6) qa8 qa48 ?_; refine qPu 8 28 #[qt,qt,qt,qt,qt,qt,qt,qt,qt,qf,qf,qf,qf,qf,qf,qf,qf,qf,qf,qf,qf,qf,qf,qf] rfl rfl (any_of HT_.out qa6) qa8 qa48 ?_; refine qTk 9 29 #[qt,qt,qt,qt,qt,qt,qt,qt,qt,qt,qf,qf,qf,qf,qf,qf,qf,qf,qf,qf,qf,qf,qf,qf] rfl rfl (take_ofW HT_.out HW_.out qa6) qa49 hHeld qa48 ?_; refine qPu 10 30 #[qt,qt,qt,qt,qt,qt,qt,qt,qt,qt,qt,qf,qf,qf,qf,qf,qf,qf,qf,qf,qf,qf,qf,qf] rfl rfl (any_of HT_.out qa6) qa8 qa48 ?_; refine qPu 11 31 #[qt,qt,qt,qt,qt,qt,qt,qt,qt,qt,qt,qt,qf,qf,qf,qf,qf,qf,qf,qf,qf,qf,qf,qf] rfl rfl (any_of HT_.out qa6) qa8 qa48 ?_; refine qPu 12 32 #[qt,qt,qt,qt,qt,qt,qt,qt,qt,qt,qt,qt,qt,qf,qf,qf,qf,qf,qf,qf,qf,qf,qf,qf] rfl rfl (any_of HT_.out qa6) qa8 qa48 ?_; refine qTk 13 33 #[qt,qt,qt,qt,qt,qt,qt,qt,qt,qt,qt,qt,qt,qt,qf,qf,qf,qf,qf,qf,qf,qf,qf,qf] rfl rfl (take_ofW HT_.out HW_.out qa6) qa49 hHeld qa48 ?_; refine qPu 14 34 #[qt,qt,qt,qt,qt,qt,qt,qt,qt,qt,qt,qt,qt,qt,qt,qf,qf,qf,qf,qf,qf,qf,qf,qf] rfl rfl (any_of HT_.out qa6) qa8 qa48 ?_; refine qPu 15 35 #[qt,qt,qt,qt,qt,qt,qt,qt,qt,qt,qt,qt,qt,qt,qt,qt,qf,qf,qf,qf,qf,qf,qf,qf] rfl rfl (any_of HT_.out qa6) qa8 qa48 ?_; refine qTk 16 36 #[qt,qt,qt,qt,qt,qt,qt,qt,qt,qt,qt,qt,qt,qt,qt,qt,qt,qf,qf,qf,qf,qf,qf,qf] rfl rfl (take_ofW HT_.out HW_.out qa6) qa49 hHeld qa48 ?_; refine qPu 17 37 #[qt,qt,qt,qt,qt,qt,qt,qt,qt,qt,qt,qt,qt,qt,qt,qt,qt,qt,qf,qf,qf,qf,qf,qf] rfl rfl (any_of HT_.out qa6) qa8 qa48 ?_; refine qPu 18 38 #[qt,qt,qt,qt,qt,qt,qt,qt,qt,qt,qt,qt,qt,qt,qt,qt,qt,qt,qt,qf,qf,qf,qf,qf] rfl rfl (any_of HT_.out qa6) qa8 qa48 ?_; refine qPu 19 39 #[qt,qt,qt,qt,qt,qt,qt,qt,qt,qt,qt,qt,qt,qt,qt,qt,qt,qt,qt,qt,qf,qf,qf,qf] rfl rfl (any_of HT_.out qa6) qa8 qa48 ?_; refine qPu 20 40 #[qt,qt,qt,qt,qt,qt,qt,qt,qt,qt,qt,qt,qt,qt,qt,qt,qt,qt,qt,qt,qt,qf,qf,qf] rfl rfl (any_of HT_.out qa6) qa8 qa48 ?_; refine qPu 21 41 #[qt,qt,qt,qt,qt,qt,qt,qt,qt,qt,qt,qt,qt,qt,qt,qt,qt,qt,qt,qt,qt,qt,qf,qf] rfl rfl (any_of HT_.out qa6) qa8 qa48 ?_; refine qPu 22 42 #[qt,qt,qt,qt,qt,qt,qt,qt,qt,qt,qt,qt,qt,qt,qt,qt,qt,qt,qt,qt,qt,qt,qt,qf] rfl rfl (any_of HT_.out qa6) qa8 qa48 ?_; refine last_ (i := 23) (N := none) #[qt,qt,qt,qt,qt,qt,qt,qt,qt,qt,qt,qt,qt,qt,qt,qt,qt,qt,qt,qt,qt,qt,qt,qt] rfl rfl (one_of HT_.out qa6) qa60 (fun K hK => ?_); have hc5 : w4.cell? ⟨g, 2, none⟩ = some (.int .i64 s0_2) := (blk_cell HG2 2).trans rfl; have hf5 := blk_frozen HG2 2; refine skip_ (w1 := (w4.setCell ⟨g, 2, none⟩ (.int .i64 (Int.tmod (wrap64 ((wrap64 ((wrap64 (s0_2 * 31)) + (wrap64 (rd s0_0 (ji3))))) + 7)) 2147483648)))) (by rfl) rfl ?hr ?_; (case hr => exact qa18); refine hK.out _ _ ?_; clear hK K; refine done_ (done_of HT_.out qa6) ?_; clear hHeld hc5 hf5; have hx4 := (cell_far (p := ⟨g, 2, none⟩) (by first | (rw [add_block]; exact hn101_0) | (show (Addr.add _ _).block ≠ _; rw [add_block]; exact hn101_0) | exact hn101_0) (.int .i64 (Int.tmod (wrap64 ((wrap64 ((wrap64 (s0_2 * 31)) + (wrap64 (rd s0_0 (ji3))))) + 7)) 2147483648))).trans hx3; clear hx3
    try go_wp2
    clear HG2; have n0_ : Aside0 (IsS128 w0 (w4.setCell ⟨g, 2, none⟩ (.int .i64 (Int.tmod (wrap64 ((wrap64 ((wrap64 (s0_2 * 31)) + (wrap64 (rd s0_0 (ji3))))) + 7)) 2147483648))) g s0_0 (wrap64 (s0_1 + 1)) (Int.tmod (wrap64 ((wrap64 ((wrap64 (s0_2 * 31)) + (wrap64 (rd s0_0 (ji3))))) + 7)) 2147483648)) := ⟨qa14⟩; have n1_ : Aside0 (Below w0.heap.size w0 (w4.setCell ⟨g, 2, none⟩ (.int .i64 (Int.tmod (wrap64 ((wrap64 ((wrap64 (s0_2 * 31)) + (wrap64 (rd s0_0 (ji3))))) + 7)) 2147483648)))) := ⟨qa22⟩; have n2_ : Aside0 (KeepBut w (w4.setCell ⟨g, 2, none⟩ (.int .i64 (Int.tmod (wrap64 ((wrap64 ((wrap64 (s0_2 * 31)) + (wrap64 (rd s0_0 (ji3))))) + 7)) 2147483648))) g none) := ⟨qa19⟩; clear HI0 HB HK; generalize (w4.setCell ⟨g, 2, none⟩ (.int .i64 (Int.tmod (wrap64 ((wrap64 ((wrap64 (s0_2 * 31)) + (wrap64 (rd s0_0 (ji3))))) + 7)) 2147483648))) = w5 at n0_ n1_ n2_ hx4 ⊢; have HI0 := n0_; have HB := n1_; have HK := n2_; clear n0_ n1_ n2_; obtain ⟨A4, c4z, HG4, hg4, HS4⟩ := HI0.out; obtain ⟨ad102, e102, _⟩ := Kd.at_int HS4 (ji3) (of_eq_true p101) (of_eq_true q101)
    cases e102
    obtain ⟨ad103, e103, hy0⟩ := Kd.at_int HS4 (ji3) (of_eq_true p101) (of_eq_true q101)
    cases e103
    have hn103 : ad102.block ≠ g := Nat.ne_of_lt (Nat.lt_of_lt_of_le (by have := qL _ _ hy0; first | rwa [add_block] at this | exact this) (IsS128.ge HI0.out)); clear hx4; have hx4 := pw_cell_below HB.out hy0; replace HI0 := qO (IsS128.drew HI0.out); replace HB := qO (qbD HB.out); replace HK := qO (keep_drew HK.out); replace HG4 := qkD HG4; replace hx4 : w5.drew.cell? _ = _ := hx4; refine start_ (n := 13) (S := fun w' => w'.cell? ⟨g, 0, none⟩ = some (.slice (some ad102) s0_0.length c4z) ∧ w'.cell? ⟨g, 1, none⟩ = some (.int .i64 (wrap64 (s0_1 + 1))) ∧ w'.cell? (ad102.add (ji3).toNat) = some (.int .u8 (rd s0_0 (ji3)))) (ds := []) #[qf,qf,qf,qf,qf,qf,qf,qf,qf,qf,qf,qf,qf] qa6 rfl rfl ⟨(blk_cell HG4 0).trans rfl, (blk_cell HG4 1).trans rfl, hx4⟩ (fun hHeld => ?_); refine with_tabW spec_l00Src_byte.tab4 spec_l00Src_byte.bits4 (fun HT_ HW_ => ?_); generalize w5.drew = w6 at HI0 HB HK HG4 hx4 hHeld ⊢; refine qPu 0 43 #[qt,qf,qf,qf,qf,qf,qf,qf,qf,qf,qf,qf,qf] rfl rfl (any_of HT_.out qa6) qa8 qa48 ?_; refine qPu 1 44 #[qt,qt,qf,qf,qf,qf,qf,qf,qf,qf,qf,qf,qf] rfl rfl (any_of HT_.out qa6) qa8 qa48 ?_; refine qPu 2 45 #[qt,qt,qt,qf,qf,qf,qf,qf,qf,qf,qf,qf,qf] rfl rfl (any_of HT_.out qa6) qa8 qa48 ?_; refine qTk 3 46 #[qt,qt,qt,qt,qf,qf,qf,qf,qf,qf,qf,qf,qf] rfl rfl (take_ofW HT_.out HW_.out qa6) qa198 hHeld qa48 ?_; refine qPu 4 47 #[qt,qt,qt,qt,qt,qf,qf,qf,qf,qf,qf,qf,qf] rfl rfl (any_of HT_.out qa6) qa8 qa48 ?_; refine qPu 5 48 #[qt,qt,qt,qt,qt,qt,qf,qf,qf,qf,qf,qf,qf] rfl rfl (any_of HT_.out qa6) qa8 qa48 ?_; refine qPu 6 49 #[qt,qt,qt,qt,qt,qt,qt,qf,qf,qf,qf,qf,qf] rfl rfl (any_of HT_.out qa6) qa8 qa48 ?_; refine qTk 7 50 #[qt,qt,qt,qt,qt,qt,qt,qt,qf,qf,qf,qf,qf] rfl rfl (take_ofW HT_.out HW_.out qa6) qa198 hHeld qa48 ?_; refine qPu 8 51 #[qt,qt,qt,qt,qt,qt,qt,qt,qt,qf,qf,qf,qf] rfl rfl (any_of HT_.out qa6) qa8 qa48 ?_; refine qPu 9 52 #[qt,qt,qt,qt,qt,qt,qt,qt,qt,qt,qf,qf,qf] rfl rfl (any_of HT_.out qa6) qa8 qa48 ?_; refine qTk 10 53 #[qt,qt,qt,qt,qt,qt,qt,qt,qt,qt,qt,qf,qf] rfl rfl (take_ofW HT_.out HW_.out qa6) qa198 hHeld qa48 ?_; refine qPu 11 54 #[qt,qt,qt,qt,qt,qt,qt,qt,qt,qt,qt,qt,qf] rfl rfl (any_of HT_.out qa6) qa8 qa48 ?_; refine qPu 12 2 #[qt,qt,qt,qt,qt,qt,qt,qt,qt,qt,qt,qt,qt] rfl rfl (any_of HT_.out qa6) qa8 qa48 ?_; refine done_ (done_of HT_.out qa6) ?_
    try go_wp2
    go_ret
    exact ⟨qa152, qa14, qa22, qa19⟩
   ·rw [if_neg c5] at H
    exact absurd H qa119
  ·rw [if_neg c4] at H
   exact absurd H qa119
 ·rw [if_neg c2] at H
  have c2b0 : decide ((wrap64 (s0_1 + 1)) ≤ (s0_0.length : Int)) = false := decide_eq_false c2; clear c2
  by_cases c7 : (wrap64 (s0_1 + 1)) > 3000
  ·rw [if_pos c7] at H
   have c7b0 : decide (3000 < (wrap64 (s0_1 + 1))) = true := decide_eq_true c7; clear c7; simp only [Option.some.injEq, Prod.mk.injEq] at H; obtain ⟨rfl, rfl, rfl⟩ := H; obtain ⟨A1, c1z, HG1, hg1, HS1⟩ := HI0.out; have hcz_0 := cellS128_0 HG1; have hcz_1 := cellS128_1 HG1; have hcz_2 := cellS128_2 HG1; have hfz_1 := blk_frozen HG1 1; have hfz_2 := blk_frozen HG1 2; clear HG1 hg1
   go_enter Try.func129, Try.ntmps129
   try go_wp2
   clear hcz_0 hcz_1 hcz_2 hfz_1 hfz_2 HS1; have n0_ : Aside0 (IsS128 w0 (w.setCell ⟨g, 1, none⟩ (.int .i64 (wrap64 (s0_1 + 1)))) g s0_0 (wrap64 (s0_1 + 1)) s0_2) := ⟨qa14⟩; have n1_ : Aside0 (Below w0.heap.size w0 (w.setCell ⟨g, 1, none⟩ (.int .i64 (wrap64 (s0_1 + 1))))) := ⟨qa22⟩; have n2_ : Aside0 (KeepBut w (w.setCell ⟨g, 1, none⟩ (.int .i64 (wrap64 (s0_1 + 1)))) g none) := ⟨qa19⟩; clear HI0 HB HK; generalize (w.setCell ⟨g, 1, none⟩ (.int .i64 (wrap64 (s0_1 + 1)))) = w2 at n0_ n1_ n2_ ⊢; have HI0 := n0_; have HB := n1_; have HK := n2_; clear n0_ n1_ n2_; obtain ⟨A2, c2z, HG2, hg2, HS2⟩ := HI0.out; replace HI0 := qO (IsS128.drew HI0.out); replace HB := qO (qbD HB.out); replace HK := qO (keep_drew HK.out); replace HG2 := qkD HG2; refine start_ (n := 10) (S := fun w' => w'.cell? ⟨g, 0, none⟩ = some (.slice A2 s0_0.length c2z) ∧ w'.cell? ⟨g, 1, none⟩ = some (.int .i64 (wrap64 (s0_1 + 1)))) (ds := []) #[qf,qf,qf,qf,qf,qf,qf,qf,qf,qf] qa6 rfl rfl ⟨(blk_cell HG2 0).trans rfl, (blk_cell HG2 1).trans rfl⟩ (fun hHeld => ?_); refine with_tabW spec_l00Src_byte.tab2 spec_l00Src_byte.bits2 (fun HT_ HW_ => ?_); generalize w2.drew = w3 at HI0 HB HK HG2 hHeld ⊢; refine qPu 0 10 #[qt,qf,qf,qf,qf,qf,qf,qf,qf,qf] rfl rfl (any_of HT_.out qa6) qa8 qa3 ?_; refine qPu 1 11 #[qt,qt,qf,qf,qf,qf,qf,qf,qf,qf] rfl rfl (any_of HT_.out qa6) qa8 qa3 ?_; refine qPu 2 12 #[qt,qt,qt,qf,qf,qf,qf,qf,qf,qf] rfl rfl (any_of HT_.out qa6) qa8 qa3 ?_; refine qTk 3 13 #[qt,qt,qt,qt,qf,qf,qf,qf,qf,qf] rfl rfl (take_ofW HT_.out HW_.out qa6) qa101 hHeld qa3 ?_; refine qPu 4 14 #[qt,qt,qt,qt,qt,qf,qf,qf,qf,qf] rfl rfl (any_of HT_.out qa6) qa8 qa3 ?_; refine qPu 5 15 #[qt,qt,qt,qt,qt,qt,qf,qf,qf,qf] rfl rfl (any_of HT_.out qa6) qa8 qa3 ?_; refine qPu 6 16 #[qt,qt,qt,qt,qt,qt,qt,qf,qf,qf] rfl rfl (any_of HT_.out qa6) qa8 qa3 ?_; refine qTk 7 17 #[qt,qt,qt,qt,qt,qt,qt,qt,qf,qf] rfl rfl (take_ofW HT_.out HW_.out qa6) qa101 hHeld qa3 ?_; refine qPu 8 18 #[qt,qt,qt,qt,qt,qt,qt,qt,qt,qf] rfl rfl (any_of HT_.out qa6) qa8 qa3 ?_; refine qPu 9 19 #[qt,qt,qt,qt,qt,qt,qt,qt,qt,qt] rfl rfl (any_of HT_.out qa6) qa8 qa3 ?_; refine done_ (done_of HT_.out qa6) ?_; have hcz_0 := cellS128_0 HG2; have hcz_1 := cellS128_1 HG2; have hcz_2 := cellS128_2 HG2; have hfz_1 := blk_frozen HG2 1; have hfz_2 := blk_frozen HG2 2; clear HG2 hg2 hHeld
   try go_wp2
   go_ret
   exact ⟨qa10, qa14, qa22, qa19⟩
  ·rw [if_neg c7] at H
   have c7b0 : decide (3000 < (wrap64 (s0_1 + 1))) = false := decide_eq_false c7; clear c7; simp only [Option.some.injEq, Prod.mk.injEq] at H; obtain ⟨rfl, rfl, rfl⟩ := H; obtain ⟨A1, c1z, HG1, hg1, HS1⟩ := HI0.out; have hcz_0 := cellS128_0 HG1; have hcz_1 := cellS128_1 HG1; have hcz_2 := cellS128_2 HG1; have hfz_1 := blk_frozen HG1 1; have hfz_2 := blk_frozen HG1 2; clear HG1 hg1
   go_enter Try.func129, Try.ntmps129
   try go_wp2
   clear hcz_0 hcz_1 hcz_2 hfz_1 hfz_2 HS1; have n0_ : Aside0 (IsS128 w0 (w.setCell ⟨g, 1, none⟩ (.int .i64 (wrap64 (s0_1 + 1)))) g s0_0 (wrap64 (s0_1 + 1)) s0_2) := ⟨qa14⟩; have n1_ : Aside0 (Below w0.heap.size w0 (w.setCell ⟨g, 1, none⟩ (.int .i64 (wrap64 (s0_1 + 1))))) := ⟨qa22⟩; have n2_ : Aside0 (KeepBut w (w.setCell ⟨g, 1, none⟩ (.int .i64 (wrap64 (s0_1 + 1)))) g none) := ⟨qa19⟩; clear HI0 HB HK; generalize (w.setCell ⟨g, 1, none⟩ (.int .i64 (wrap64 (s0_1 + 1)))) = w2 at n0_ n1_ n2_ ⊢; have HI0 := n0_; have HB := n1_; have HK := n2_; clear n0_ n1_ n2_; obtain ⟨A2, c2z, HG2, hg2, HS2⟩ := HI0.out; replace HI0 := qO (IsS128.drew HI0.out); replace HB := qO (qbD HB.out); replace HK := qO (keep_drew HK.out); replace HG2 := qkD HG2; refine start_ (n := 10) (S := fun w' => w'.cell? ⟨g, 0, none⟩ = some (.slice A2 s0_0.length c2z) ∧ w'.cell? ⟨g, 1, none⟩ = some (.int .i64 (wrap64 (s0_1 + 1)))) (ds := []) #[qf,qf,qf,qf,qf,qf,qf,qf,qf,qf] qa6 rfl rfl ⟨(blk_cell HG2 0).trans rfl, (blk_cell HG2 1).trans rfl⟩ (fun hHeld => ?_); refine with_tabW spec_l00Src_byte.tab2 spec_l00Src_byte.bits2 (fun HT_ HW_ => ?_); generalize w2.drew = w3 at HI0 HB HK HG2 hHeld ⊢; refine qPu 0 10 #[qt,qf,qf,qf,qf,qf,qf,qf,qf,qf] rfl rfl (any_of HT_.out qa6) qa8 qa3 ?_; refine qPu 1 11 #[qt,qt,qf,qf,qf,qf,qf,qf,qf,qf] rfl rfl (any_of HT_.out qa6) qa8 qa3 ?_; refine qPu 2 12 #[qt,qt,qt,qf,qf,qf,qf,qf,qf,qf] rfl rfl (any_of HT_.out qa6) qa8 qa3 ?_; refine qTk 3 13 #[qt,qt,qt,qt,qf,qf,qf,qf,qf,qf] rfl rfl (take_ofW HT_.out HW_.out qa6) qa101 hHeld qa3 ?_; refine qPu 4 14 #[qt,qt,qt,qt,qt,qf,qf,qf,qf,qf] rfl rfl (any_of HT_.out qa6) qa8 qa3 ?_; refine qPu 5 15 #[qt,qt,qt,qt,qt,qt,qf,qf,qf,qf] rfl rfl (any_of HT_.out qa6) qa8 qa3 ?_; refine qPu 6 16 #[qt,qt,qt,qt,qt,qt,qt,qf,qf,qf] rfl rfl (any_of HT_.out qa6) qa8 qa3 ?_; refine qTk 7 17 #[qt,qt,qt,qt,qt,qt,qt,qt,qf,qf] rfl rfl (take_ofW HT_.out HW_.out qa6) qa101 hHeld qa3 ?_; refine qPu 8 18 #[qt,qt,qt,qt,qt,qt,qt,qt,qt,qf] rfl rfl (any_of HT_.out qa6) qa8 qa3 ?_; refine qPu 9 19 #[qt,qt,qt,qt,qt,qt,qt,qt,qt,qt] rfl rfl (any_of HT_.out qa6) qa8 qa3 ?_; refine done_ (done_of HT_.out qa6) ?_; have hcz_0 := cellS128_0 HG2; have hcz_1 := cellS128_1 HG2; have hcz_2 := cellS128_2 HG2; have hfz_1 := blk_frozen HG2 1; have hfz_2 := blk_frozen HG2 2; clear HG2 hg2 hHeld
   try go_wp2
   go_ret
   exact ⟨qa10, qa14, qa22, qa19⟩



def spec_l00Src_next.f (s0_0 : List Int) (s0_1 : Int) (s0_2 : Int) (a1 : Int) : Option (Int × Int × Int) := if a1 ≤ 1 then (some (0, s0_1, s0_2)) else (if a1 ≤ 256 then ((spec_l00Src_byte.f s0_0 s0_1 s0_2).bind fun bt101 => (if a1 = 0 then (none) else (some (Int.tmod bt101.1 a1, bt101.2.1, bt101.2.2)))) else ((spec_l00Src_byte.f s0_0 s0_1 s0_2).bind fun bt104 => ((spec_l00Src_byte.f s0_0 bt104.2.1 bt104.2.2).bind fun bt107 => ((spec_l00Src_byte.f s0_0 bt107.2.1 bt107.2.2).bind fun bt110 => (if a1 = 0 then (none) else (some (Int.tmod (wrap64 ((wrap64 ((wrap64 (bt104.1 * 65536)) + (wrap64 (bt107.1 * 256)))) + bt110.1)) a1, bt110.2.1, bt110.2.2)))))))
set_option maxHeartbeats 8000000 in
set_option maxRecDepth 100000 in
theorem spec_l00Src_next.calls (g : Nat) (s0_0 : List Int) (s0_1 : Int) (s0_2 : Int) (a1 : Int) (r1 : Int) (r2 : Int) (r3 : Int) (w0 w : World) (hI : IsS128 w0 w g s0_0 s0_1 s0_2) (hB : Below w0.heap.size w0 w) (h : spec_l00Src_next.f s0_0 s0_1 s0_2 a1 = some (r1, r2, r3)) :
  Calls Try.prog 108 #[.pointer (some ⟨g, 0, none⟩), .int .i64 a1] w fun e w' => e = .returned (.int .i64 r1) ∧ IsS128 w0 w' g s0_0 r2 r3 ∧ Below w0.heap.size w0 w' ∧ KeepBut w w' g none := by
 have HI0 := qO hI; have HK := qO (KeepBut.refl w g none); have HL := qO hB.size; clear hI; have HW0 := qO hB.size; have HB := qO hB; clear hB; have H : (if a1 ≤ 1 then (some (0, s0_1, s0_2)) else (if a1 ≤ 256 then ((spec_l00Src_byte.f s0_0 s0_1 s0_2).bind fun bt101 => (if a1 = 0 then (none) else (some (Int.tmod bt101.1 a1, bt101.2.1, bt101.2.2)))) else ((spec_l00Src_byte.f s0_0 s0_1 s0_2).bind fun bt104 => ((spec_l00Src_byte.f s0_0 bt104.2.1 bt104.2.2).bind fun bt107 => ((spec_l00Src_byte.f s0_0 bt107.2.1 bt107.2.2).bind fun bt110 => (if a1 = 0 then (none) else (some (Int.tmod (wrap64 ((wrap64 ((wrap64 (bt104.1 * 65536)) + (wrap64 (bt107.1 * 256)))) + bt110.1)) a1, bt110.2.1, bt110.2.2)))))))) = some (r1, r2, r3) := h; clear h
 by_cases c3 : a1 ≤ 1
 ·rw [if_pos c3] at H
  have c3b0 : decide (a1 ≤ 1) = true := decide_eq_true c3; clear c3; simp only [Option.some.injEq, Prod.mk.injEq] at H; obtain ⟨rfl, rfl, rfl⟩ := H
  go_enter Try.func108, Try.ntmps108
  go_wp2
  go_ret
  exact ⟨qa10, qa14, qa22, qa19⟩
 ·rw [if_neg c3] at H
  have c3b0 : decide (a1 ≤ 1) = false := decide_eq_false c3; clear c3
  by_cases c4 : a1 ≤ 256
  ·rw [if_pos c4] at H
   have c4b0 : decide (a1 ≤ 256) = true := decide_eq_true c4; clear c4; replace H := Option.bind_eq_some_iff.mp H; obtain ⟨⟨t101, t102, t103⟩, A50, H⟩ := H; replace H : (if a1 = 0 then (none) else (some (Int.tmod t101 a1, t102, t103))) = some (r1, r2, r3) := H; have A5 := qO A50; clear A50
   by_cases c6 : a1 = 0
   ·rw [if_pos c6] at H
    exact absurd H qa119
   ·rw [if_neg c6] at H
    have c6b0 : (a1 == 0) = false := beq_eq_false_iff_ne.mpr c6; have c6b1 : (a1 != 0) = true := bne_iff_ne.mpr c6; simp only [Option.some.injEq, Prod.mk.injEq] at H; obtain ⟨rfl, rfl, rfl⟩ := H
    go_enter Try.func108, Try.ntmps108
    go_wp2_with (first | ((with_reducible refine gate_callee (f := 129) rfl ?_); refine goesL_ (some 13) rfl rfl Try.func129 qa6 rfl #[.pointer (some ⟨g, 0, none⟩)] rfl qa0 ?_; (with_reducible refine (spec_l00Src_byte.calls g s0_0 s0_1 s0_2 t101 t102 t103 w0 _ ?side1 ?side2 A5.out).mono ?_); (case side1 => exact qa14); (case side2 => exact qa22); rintro e w7 ⟨rfl, hi, hb, hk⟩; refine ⟨_, rfl, ?_⟩; replace HK := qO (KeepBut.trans qa19 hk (.inl rfl)); replace HB := qO (hb); replace HI0 := qO (hi); (try clear hb); (try clear hb2); (try clear hk); (try clear hi)))
    go_ret
    exact ⟨qa10, qa14, qa22, qa19⟩
  ·rw [if_neg c4] at H
   have c4b0 : decide (a1 ≤ 256) = false := decide_eq_false c4; clear c4; replace H := Option.bind_eq_some_iff.mp H; obtain ⟨⟨t104, t105, t106⟩, A80, H⟩ := H; replace H : ((spec_l00Src_byte.f s0_0 t105 t106).bind fun bt107 => ((spec_l00Src_byte.f s0_0 bt107.2.1 bt107.2.2).bind fun bt110 => (if a1 = 0 then (none) else (some (Int.tmod (wrap64 ((wrap64 ((wrap64 (t104 * 65536)) + (wrap64 (bt107.1 * 256)))) + bt110.1)) a1, bt110.2.1, bt110.2.2))))) = some (r1, r2, r3) := H; have A8 := qO A80; clear A80; replace H := Option.bind_eq_some_iff.mp H; obtain ⟨⟨t107, t108, t109⟩, A90, H⟩ := H; replace H : ((spec_l00Src_byte.f s0_0 t108 t109).bind fun bt110 => (if a1 = 0 then (none) else (some (Int.tmod (wrap64 ((wrap64 ((wrap64 (t104 * 65536)) + (wrap64 (t107 * 256)))) + bt110.1)) a1, bt110.2.1, bt110.2.2)))) = some (r1, r2, r3) := H; have A9 := qO A90; clear A90; replace H := Option.bind_eq_some_iff.mp H; obtain ⟨⟨t110, t111, t112⟩, A100, H⟩ := H; replace H : (if a1 = 0 then (none) else (some (Int.tmod (wrap64 ((wrap64 ((wrap64 (t104 * 65536)) + (wrap64 (t107 * 256)))) + t110)) a1, t111, t112))) = some (r1, r2, r3) := H; have A10 := qO A100; clear A100
   by_cases c11 : a1 = 0
   ·rw [if_pos c11] at H
    exact absurd H qa119
   ·rw [if_neg c11] at H
    have c11b0 : (a1 == 0) = false := beq_eq_false_iff_ne.mpr c11; have c11b1 : (a1 != 0) = true := bne_iff_ne.mpr c11; simp only [Option.some.injEq, Prod.mk.injEq] at H; obtain ⟨rfl, rfl, rfl⟩ := H
    go_enter Try.func108, Try.ntmps108
    go_wp2_with (first | ((with_reducible refine gate_callee (f := 129) rfl ?_); refine goesL_ (some 17) rfl rfl Try.func129 qa6 rfl #[.pointer (some ⟨g, 0, none⟩)] rfl qa0 ?_; (with_reducible refine (spec_l00Src_byte.calls g s0_0 s0_1 s0_2 t104 t105 t106 w0 _ ?side1 ?side2 A8.out).mono ?_); (case side1 => exact qa14); (case side2 => exact qa22); rintro e w12 ⟨rfl, hi, hb, hk⟩; refine ⟨_, rfl, ?_⟩; replace HK := qO (KeepBut.trans qa19 hk (.inl rfl)); replace HB := qO (hb); replace HI0 := qO (hi); (try clear hb); (try clear hb2); (try clear hk); (try clear hi)) | ((with_reducible refine gate_callee (f := 129) rfl ?_); refine goesL_ (some 19) rfl rfl Try.func129 qa6 rfl #[.pointer (some ⟨g, 0, none⟩)] rfl qa0 ?_; (with_reducible refine (spec_l00Src_byte.calls g s0_0 t105 t106 t107 t108 t109 w0 _ ?side1 ?side2 A9.out).mono ?_); (case side1 => exact qa14); (case side2 => exact qa22); rintro e w13 ⟨rfl, hi, hb, hk⟩; refine ⟨_, rfl, ?_⟩; replace HK := qO (KeepBut.trans qa19 hk (.inl rfl)); replace HB := qO (hb); replace HI0 := qO (hi); (try clear hb); (try clear hb2); (try clear hk); (try clear hi)) | ((with_reducible refine gate_callee (f := 129) rfl ?_); refine goesL_ (some 21) rfl rfl Try.func129 qa6 rfl #[.pointer (some ⟨g, 0, none⟩)] rfl qa0 ?_; (with_reducible refine (spec_l00Src_byte.calls g s0_0 t108 t109 t110 t111 t112 w0 _ ?side1 ?side2 A10.out).mono ?_); (case side1 => exact qa14); (case side2 => exact qa22); rintro e w14 ⟨rfl, hi, hb, hk⟩; refine ⟨_, rfl, ?_⟩; replace HK := qO (KeepBut.trans qa19 hk (.inl rfl)); replace HB := qO (hb); replace HI0 := qO (hi); (try clear hb); (try clear hb2); (try clear hk); (try clear hi)))
    go_ret
    exact ⟨qa10, qa14, qa22, qa19⟩


def spec_l00Src_put.f (s0_0 : List Int) (s0_1 : Int) (s0_2 : Int) : Option (Int × Int × Int × Int) := (spec_l00Src_next.f s0_0 s0_1 s0_2 16).bind fun bt102 => (if (Int.tmod bt102.1 2) = 1 then ((spec_l00Src_next.f s0_0 bt102.2.1 bt102.2.2 9).bind fun bt105 => (some (bt102.1, bt105.1, bt105.2.1, bt105.2.2))) else ((spec_l00Src_next.f s0_0 bt102.2.1 bt102.2.2 20).bind fun bt108 => ((some (([wrap64 (bt108.1 - 4), 2147483647] : List Int) : List Int)).bind fun y111 => ((spec_l00Src_next.f s0_0 bt108.2.1 bt108.2.2 9).bind fun bt114 => (if 0 ≤ (wrap64 (Int.tdiv bt114.1 8)) then (if (wrap64 (Int.tdiv bt114.1 8)) < (y111.length : Int) then (some (bt102.1, rd y111 (wrap64 (Int.tdiv bt114.1 8)), bt114.2.1, bt114.2.2)) else (none)) else (none))))))
set_option maxHeartbeats 8000000 in
set_option maxRecDepth 100000 in
theorem spec_l00Src_put.calls (g : Nat) (s0_0 : List Int) (s0_1 : Int) (s0_2 : Int) (r1 : Int) (r2 : Int) (r3 : Int) (r4 : Int) (w0 w : World) (hI : IsS128 w0 w g s0_0 s0_1 s0_2) (hB : Below w0.heap.size w0 w) (h : spec_l00Src_put.f s0_0 s0_1 s0_2 = some (r1, r2, r3, r4)) :
  Calls Try.prog 116 #[.pointer (some ⟨g, 0, none⟩)] w fun e w' => e = .returned (.agg #[.int .i64 r1, .int .i64 r2]) ∧ IsS128 w0 w' g s0_0 r3 r4 ∧ Below w0.heap.size w0 w' ∧ KeepBut w w' g none := by
 have hu58 := Try.underlying58; have HI0 := qO hI; have HK := qO (KeepBut.refl w g none); have HL := qO hB.size; clear hI; have HW0 := qO hB.size; have HB := qO hB; clear hB; have H : ((spec_l00Src_next.f s0_0 s0_1 s0_2 16).bind fun bt102 => (if (Int.tmod bt102.1 2) = 1 then ((spec_l00Src_next.f s0_0 bt102.2.1 bt102.2.2 9).bind fun bt105 => (some (bt102.1, bt105.1, bt105.2.1, bt105.2.2))) else ((spec_l00Src_next.f s0_0 bt102.2.1 bt102.2.2 20).bind fun bt108 => ((some (([wrap64 (bt108.1 - 4), 2147483647] : List Int) : List Int)).bind fun y111 => ((spec_l00Src_next.f s0_0 bt108.2.1 bt108.2.2 9).bind fun bt114 => (if 0 ≤ (wrap64 (Int.tdiv bt114.1 8)) then (if (wrap64 (Int.tdiv bt114.1 8)) < (y111.length : Int) then (some (bt102.1, rd y111 (wrap64 (Int.tdiv bt114.1 8)), bt114.2.1, bt114.2.2)) else (none)) else (none))))))) = some (r1, r2, r3, r4) := h; clear h; replace H := Option.bind_eq_some_iff.mp H; obtain ⟨⟨t102, t103, t104⟩, A20, H⟩ := H; replace H : (if (Int.tmod t102 2) = 1 then ((spec_l00Src_next.f s0_0 t103 t104 9).bind fun bt105 => (some (t102, bt105.1, bt105.2.1, bt105.2.2))) else ((spec_l00Src_next.f s0_0 t103 t104 20).bind fun bt108 => ((some (([wrap64 (bt108.1 - 4), 2147483647] : List Int) : List Int)).bind fun y111 => ((spec_l00Src_next.f s0_0 bt108.2.1 bt108.2.2 9).bind fun bt114 => (if 0 ≤ (wrap64 (Int.tdiv bt114.1 8)) then (if (wrap64 (Int.tdiv bt114.1 8)) < (y111.length : Int) then (some (t102, rd y111 (wrap64 (Int.tdiv bt114.1 8)), bt114.2.1, bt114.2.2)) else (none)) else (none)))))) = some (r1, r2, r3, r4) := H; have A2 := qO A20; clear A20
 by_cases c3 : (Int.tmod t102 2) = 1
 ·rw [if_pos c3] at H
  have c3b0 : ((Int.tmod t102 2) == 1) = true := beq_iff_eq.mpr c3; have c3b1 : ((Int.tmod t102 2) != 1) = false := bne_eq_false_iff_eq.mpr c3; clear c3; replace H := Option.bind_eq_some_iff.mp H; obtain ⟨⟨t105, t106, t107⟩, A40, H⟩ := H; replace H : (some (t102, t105, t106, t107)) = some (r1, r2, r3, r4) := H; have A4 := qO A40; clear A40; simp only [Option.some.injEq, Prod.mk.injEq] at H; obtain ⟨rfl, rfl, rfl, rfl⟩ := H
  go_enter Try.func116, Try.ntmps116
  go_wp2_with (first | ((with_reducible refine gate_dst (N := 2) rfl ?_); refine qX 2 #[.int .i64 0, .int .i64 0] 58 ?_; intro gb101 hg w5 hbox hb; have BK101 := qO (hbox); have GW101 := qO ((qa65 : w.heap.size ≤ gb101)); have GE101 := qO ((Nat.le_trans HW0.out (qa65 : w.heap.size ≤ gb101) : w0.heap.size ≤ gb101)); have NB0_101 := qO ((by rw [hg]; exact Nat.ne_of_lt (IsS128.lt (show IsS128 w0 _ g s0_0 s0_1 s0_2 from by repeat (first | (with_reducible first | exact HI0.out | apply IsS128.alloc | apply IsS128.drewN | apply IsS128.drew | apply IsS128.set_1 | apply IsS128.set_2) | exact HI0.out))) : g ≠ gb101)); have NB101_0 := qO ((by rw [hg]; exact Nat.ne_of_gt (IsS128.lt (show IsS128 w0 _ g s0_0 s0_1 s0_2 from by repeat (first | (with_reducible first | exact HI0.out | apply IsS128.alloc | apply IsS128.drewN | apply IsS128.drew | apply IsS128.set_1 | apply IsS128.set_2) | exact HI0.out))) : gb101 ≠ g)); replace HK := qO (KeepBut.trans qa19 (KeepBut.of_below hb g none) (.inl rfl)); replace HB := qO (below_step qa22 hb); replace HI0 := qO (IsS128.below qa14 hb); clear hb hbox hg) | ((with_reducible refine gate_callee (f := 108) rfl ?_); refine goesL_ (some 5) rfl rfl Try.func108 qa6 rfl #[.pointer (some ⟨g, 0, none⟩), .int .i64 16] rfl qa0 ?_; (with_reducible refine (spec_l00Src_next.calls g s0_0 s0_1 s0_2 16 t102 t103 t104 w0 _ ?side1 ?side2 A2.out).mono ?_); (case side1 => exact qa43); (case side2 => exact qa51); rintro e w6 ⟨rfl, hi, hb, hk⟩; refine ⟨_, rfl, ?_⟩; replace BK101 := qO (KeepBut.blk hk (g' := gb101) (o := .cells #[.int .i64 0, .int .i64 0] 58 (0, 0)) qa4 NB101_0.out qa119); replace HK := qO (KeepBut.trans qa41 hk (.inl rfl)); replace HB := qO (hb); replace HI0 := qO (hi); (try clear hb); (try clear hb2); (try clear hk); (try clear hi)) | ((with_reducible refine gate_callee (f := 108) rfl ?_); refine goesL_ (some 11) rfl rfl Try.func108 qa6 rfl #[.pointer (some ⟨g, 0, none⟩), .int .i64 9] rfl qa0 ?_; (with_reducible refine (spec_l00Src_next.calls g s0_0 t103 t104 9 t105 t106 t107 w0 _ ?side1 ?side2 A4.out).mono ?_); (case side1 => exact qa43); (case side2 => exact qa51); rintro e w7 ⟨rfl, hi, hb, hk⟩; refine ⟨_, rfl, ?_⟩; replace BK101 := qO (KeepBut.blk hk (g' := gb101) (o := .cells #[.int .i64 0, .int .i64 0] 58 (0, 0)) qa4 NB101_0.out qa119); replace HK := qO (KeepBut.trans qa41 hk (.inl rfl)); replace HB := qO (hb); replace HI0 := qO (hi); (try clear hb); (try clear hb2); (try clear hk); (try clear hi); have hnb8 := NB101_0.out; have hnc8 := NB0_101.out; obtain ⟨hcz9_0, hcz9_1, hfz9_0, hfz9_1⟩ := qb2 BK101.out))
  refine bodyPost_ret (results_cell_row rfl _ _ gb101 58 #[.int .i64 t102, .int .i64 t105] (0, 0) _ rfl qa99 Try.underlying58 rfl qa6) rfl ?_
  exact ⟨qa10, qa43, qa51, qa41⟩
 ·rw [if_neg c3] at H
  have c3b0 : ((Int.tmod t102 2) == 1) = false := beq_eq_false_iff_ne.mpr c3; have c3b1 : ((Int.tmod t102 2) != 1) = true := bne_iff_ne.mpr c3; replace H := Option.bind_eq_some_iff.mp H; obtain ⟨⟨t108, t109, t110⟩, A100, H⟩ := H; replace H : ((some (([wrap64 (t108 - 4), 2147483647] : List Int) : List Int)).bind fun y111 => ((spec_l00Src_next.f s0_0 t109 t110 9).bind fun bt114 => (if 0 ≤ (wrap64 (Int.tdiv bt114.1 8)) then (if (wrap64 (Int.tdiv bt114.1 8)) < (y111.length : Int) then (some (t102, rd y111 (wrap64 (Int.tdiv bt114.1 8)), bt114.2.1, bt114.2.2)) else (none)) else (none)))) = some (r1, r2, r3, r4) := H; have A10 := qO A100; clear A100; obtain ⟨y111, hy111⟩ : ∃ y_ : List Int, y_ = (([wrap64 (t108 - 4), 2147483647] : List Int)) := ⟨_, rfl⟩; replace H : ((spec_l00Src_next.f s0_0 t109 t110 9).bind fun bt114 => (if 0 ≤ (wrap64 (Int.tdiv bt114.1 8)) then (if (wrap64 (Int.tdiv bt114.1 8)) < (y111.length : Int) then (some (t102, rd y111 (wrap64 (Int.tdiv bt114.1 8)), bt114.2.1, bt114.2.2)) else (none)) else (none))) = some (r1, r2, r3, r4) := by first | (rw [hy111]; with_reducible exact H) | (have H2_ := (Option.bind_some _ _).symm.trans H; rw [hy111]; with_reducible exact H2_) | (have H2_ := (Option.bind_some _ _).symm.trans H; with_reducible exact H2_) | with_reducible exact H | (rw [hy111]; exact H) | exact H
  have Ny111 := qO hy111; clear hy111; replace H := Option.bind_eq_some_iff.mp H; obtain ⟨⟨t114, t115, t116⟩, A110, H⟩ := H; replace H : (if 0 ≤ (wrap64 (Int.tdiv t114 8)) then (if (wrap64 (Int.tdiv t114 8)) < (y111.length : Int) then (some (t102, rd y111 (wrap64 (Int.tdiv t114 8)), t115, t116)) else (none)) else (none)) = some (r1, r2, r3, r4) := H; have A11 := qO A110; clear A110; obtain ⟨ji12, hji12⟩ : ∃ j_ : Int, (wrap64 (Int.tdiv t114 8)) = j_ := ⟨_, rfl⟩; replace H : (if 0 ≤ (ji12) then (if (ji12) < (y111.length : Int) then (some (t102, rd y111 (ji12), t115, t116)) else (none)) else (none)) = some (r1, r2, r3, r4) := by first | (rw [hji12] at H; exact H) | (simp only [hji12] at H ⊢; exact H)
  (try rw [hji12] at A2); (try rw [hji12] at A10); (try rw [hji12] at A11); have hji12w : (IntKind.i64.wrap (Int.tdiv t114 8)) = ji12 := (i64_w _).trans hji12
  by_cases c13 : 0 ≤ (ji12)
  ·rw [if_pos c13] at H
   have c13b0 : decide (0 ≤ (ji12)) = true := decide_eq_true c13; clear c13
   by_cases c14 : (ji12) < (y111.length : Int)
   ·rw [if_pos c14] at H
    have c14b0 : decide ((ji12) < (y111.length : Int)) = true := decide_eq_true c14; clear c14; simp only [Option.some.injEq, Prod.mk.injEq] at H; obtain ⟨rfl, rfl, rfl, rfl⟩ := H
    go_enter Try.func116, Try.ntmps116
    go_wp2_with (first | ((with_reducible refine gate_dst (N := 2) rfl ?_); refine qX 2 #[.int .i64 0, .int .i64 0] 58 ?_; intro gb101 hg w15 hbox hb; have BK101 := qO (hbox); have GW101 := qO ((qa65 : w.heap.size ≤ gb101)); have GE101 := qO ((Nat.le_trans HW0.out (qa65 : w.heap.size ≤ gb101) : w0.heap.size ≤ gb101)); have NB0_101 := qO ((by rw [hg]; exact Nat.ne_of_lt (IsS128.lt (show IsS128 w0 _ g s0_0 s0_1 s0_2 from by repeat (first | (with_reducible first | exact HI0.out | apply IsS128.alloc | apply IsS128.drewN | apply IsS128.drew | apply IsS128.set_1 | apply IsS128.set_2) | exact HI0.out))) : g ≠ gb101)); have NB101_0 := qO ((by rw [hg]; exact Nat.ne_of_gt (IsS128.lt (show IsS128 w0 _ g s0_0 s0_1 s0_2 from by repeat (first | (with_reducible first | exact HI0.out | apply IsS128.alloc | apply IsS128.drewN | apply IsS128.drew | apply IsS128.set_1 | apply IsS128.set_2) | exact HI0.out))) : gb101 ≠ g)); replace HK := qO (KeepBut.trans qa19 (KeepBut.of_below hb g none) (.inl rfl)); replace HB := qO (below_step qa22 hb); replace HI0 := qO (IsS128.below qa14 hb); clear hb hbox hg) | ((with_reducible refine gate_callee (f := 108) rfl ?_); refine goesL_ (some 5) rfl rfl Try.func108 qa6 rfl #[.pointer (some ⟨g, 0, none⟩), .int .i64 16] rfl qa0 ?_; (with_reducible refine (spec_l00Src_next.calls g s0_0 s0_1 s0_2 16 t102 t103 t104 w0 _ ?side1 ?side2 A2.out).mono ?_); (case side1 => exact qa43); (case side2 => exact qa51); rintro e w16 ⟨rfl, hi, hb, hk⟩; refine ⟨_, rfl, ?_⟩; replace BK101 := qO (KeepBut.blk hk (g' := gb101) (o := .cells #[.int .i64 0, .int .i64 0] 58 (0, 0)) qa4 NB101_0.out qa119); replace HK := qO (KeepBut.trans qa41 hk (.inl rfl)); replace HB := qO (hb); replace HI0 := qO (hi); (try clear hb); (try clear hb2); (try clear hk); (try clear hi)) | ((with_reducible refine gate_callee (f := 108) rfl ?_); refine goesL_ (some 15) rfl rfl Try.func108 qa6 rfl #[.pointer (some ⟨g, 0, none⟩), .int .i64 20] rfl qa0 ?_; (with_reducible refine (spec_l00Src_next.calls g s0_0 t103 t104 20 t108 t109 t110 w0 _ ?side1 ?side2 A10.out).mono ?_); (case side1 => exact qa43); (case side2 => exact qa51); rintro e w17 ⟨rfl, hi, hb, hk⟩; refine ⟨_, rfl, ?_⟩; replace BK101 := qO (KeepBut.blk hk (g' := gb101) (o := .cells #[.int .i64 0, .int .i64 0] 58 (0, 0)) qa4 NB101_0.out qa119); replace HK := qO (KeepBut.trans qa41 hk (.inl rfl)); replace HB := qO (hb); replace HI0 := qO (hi); (try clear hb); (try clear hb2); (try clear hk); (try clear hi)) | ((with_reducible refine gate_dst (N := 17) rfl ?_); refine Kd.R_lit (Kd.int .i64) _ 3 ?hg (N := 17) ?hd (xs := ([wrap64 (t108 - 4), 2147483647] : List Int)) (inner := [.int .i64 (wrap64 (t108 - 4)), .int .i64 2147483647]) (ok := fun _ => True) (okp := fun _ => True) ?hr ?hp (fun _ hk => hk) trivial (Below.refl _ _) (Nat.le_refl _) qa119 ?_; (case hd => rfl); (case hg => rfl); (case hr => exact qa18); (case hp => exact (Reps.one (show Kd.M (Kd.int .i64) _ _ _ (wrap64 (t108 - 4)) [.int .i64 (wrap64 (t108 - 4))] from rfl) (Reps.one (show Kd.M (Kd.int .i64) _ _ _ 2147483647 [.int .i64 2147483647] from rfl) (Reps.none _ _)))); intro v112 w18 ho19 hb hg_ hnew_; clear hg_ hnew_; (first | rw [← Ny111.out] at ho19 | (simp only [Int.reduceToNat] at ho19; rw [← Ny111.out] at ho19)); have HO113 := qO (Kd.R_lower ho19 (keep_size (w := w) (g := g) (row := none) qa41)); replace BK101 := qO (blk_below (g := gb101) (o := .cells #[.int .i64 0, .int .i64 0] 58 (0, 0)) qa4 hb); replace HK := qO (KeepBut.trans qa41 (KeepBut.of_below hb g none) (.inl rfl)); replace HB := qO (below_step qa51 hb); replace HI0 := qO (IsS128.below qa43 hb); clear hb ho19) | ((with_reducible refine gate_callee (f := 108) rfl ?_); refine goesL_ (some 19) rfl rfl Try.func108 qa6 rfl #[.pointer (some ⟨g, 0, none⟩), .int .i64 9] rfl qa0 ?_; (with_reducible refine (spec_l00Src_next.calls g s0_0 t109 t110 9 t114 t115 t116 w0 _ ?side1 ?side2 A11.out).mono ?_); (case side1 => exact qa43); (case side2 => exact qa51); rintro e w20 ⟨rfl, hi, hb, hk⟩; refine ⟨_, rfl, ?_⟩; replace BK101 := qO (KeepBut.blk hk (g' := gb101) (o := .cells #[.int .i64 0, .int .i64 0] 58 (0, 0)) qa4 NB101_0.out qa119); replace HO113 := qO (Kd.R_mono (Kd.R_keep (IsS128.apart (show IsS128 w0 _ g s0_0 t109 t110 from by repeat (first | (with_reducible first | exact HI0.out | apply IsS128.alloc | apply IsS128.drewN | apply IsS128.drew | apply IsS128.set_1 | apply IsS128.set_2 | refine IsS128.far ?_ NB0_101.out _) | exact HI0.out)) qa185 qa60) hk (fun _ h => h.2)) (fun _ h => h.1)); replace HK := qO (KeepBut.trans qa41 hk (.inl rfl)); replace HB := qO (hb); replace HI0 := qO (hi); (try clear hb); (try clear hb2); (try clear hk); (try clear hi); obtain ⟨Ao21, co21, eo21⟩ := Kd.R_slice HO113.out; subst eo21; have p117 : 0 ≤ ((ji12) : Int) := qT qa2; have q117 : (ji12) < (y111.length : Int) := qT qa2; obtain ⟨ad117, e117, hx117_0⟩ := Kd.at_int (Kd.R_reads' HO113.out).2.2 (ji12) p117 q117; cases e117; replace p117 := eq_true p117; replace q117 := eq_true q117; have hnb22 := NB101_0.out; have hnc22 := NB0_101.out; obtain ⟨hcz23_0, hcz23_1, hfz23_0, hfz23_1⟩ := qb2 BK101.out))
    refine bodyPost_ret (results_cell_row rfl _ _ gb101 58 #[.int .i64 t102, .int .i64 (rd y111 (ji12))] (0, 0) _ rfl qa99 Try.underlying58 rfl qa6) rfl ?_
    exact ⟨by first | rfl | (simp [errW_none, errW_some] <;> rfl) | (simp only [← hji12]; first | rfl | (simp [errW_none, errW_some] <;> rfl)) | (simp [*, errW_none, errW_some] <;> rfl), qa43, qa51, qa41⟩
   ·rw [if_neg c14] at H
    exact absurd H qa119
  ·rw [if_neg c13] at H
   exact absurd H qa119


def spec_l00Src_puts.l0 : Nat → List (S58) → Int → List Int → Int → Int → Option ((List (S58)) × Int × Int)
 | 0, _, _, _, _, _ => none
 | k + 1, x3, x4, x1000, x1001, x1002 => if x4 > 0 then ((spec_l00Src_put.f x1000 x1001 x1002).bind fun bt107 => (if x3.length < 8796093022208 then (spec_l00Src_puts.l0 k (x3 ++ [(⟨bt107.1, bt107.2.1⟩ : S58)]) (wrap64 (x4 - 1)) x1000 bt107.2.2.1 bt107.2.2.2) else (none))) else (some (x3, x1001, x1002))
def spec_l00Src_puts.f (k : Nat) (s0_0 : List Int) (s0_1 : Int) (s0_2 : Int) : Option ((List (S58)) × Int × Int) := (spec_l00Src_next.f s0_0 s0_1 s0_2 5).bind fun bt104 => (spec_l00Src_puts.l0 k (([] : List (S58))) bt104.1 s0_0 bt104.2.1 bt104.2.2)
set_option maxHeartbeats 8000000 in
set_option maxRecDepth 100000 in
theorem spec_l00Src_puts.calls (k : Nat) (g : Nat) (s0_0 : List Int) (s0_1 : Int) (s0_2 : Int) (r1 : List (S58)) (r2 : Int) (r3 : Int) (w0 w : World) (hI : IsS128 w0 w g s0_0 s0_1 s0_2) (hB : Below w0.heap.size w0 w) (h : spec_l00Src_puts.f k s0_0 s0_1 s0_2 = some (r1, r2, r3)) :
  Calls Try.prog 78 #[.pointer (some ⟨g, 0, none⟩)] w fun e w' => ∃ v0_ : Value, e = .returned (v0_) ∧ Kd.R k58 58 w' w.heap.size (fun _ => True) v0_ r1 ∧ IsS128 w0 w' g s0_0 r2 r3 ∧ Below w0.heap.size w0 w' ∧ KeepBut w w' g none := by
 have HI0 := qO hI; have HK := qO (KeepBut.refl w g none); have HL := qO hB.size; clear hI; have HW0 := qO hB.size; have HB := qO hB; clear hB; have H : ((spec_l00Src_next.f s0_0 s0_1 s0_2 5).bind fun bt104 => (spec_l00Src_puts.l0 k (([] : List (S58))) bt104.1 s0_0 bt104.2.1 bt104.2.2)) = some (r1, r2, r3) := h; clear h; obtain ⟨y101, hy101⟩ : ∃ y_ : List (S58), y_ = (([] : List (S58))) := ⟨_, rfl⟩; replace H : ((spec_l00Src_next.f s0_0 s0_1 s0_2 5).bind fun bt104 => (spec_l00Src_puts.l0 k y101 bt104.1 s0_0 bt104.2.1 bt104.2.2)) = some (r1, r2, r3) := by first | (rw [hy101]; with_reducible exact H) | (have H2_ := (Option.bind_some _ _).symm.trans H; rw [hy101]; with_reducible exact H2_) | (have H2_ := (Option.bind_some _ _).symm.trans H; with_reducible exact H2_) | with_reducible exact H | (rw [hy101]; exact H) | exact H
 have Ny101 := qO hy101; clear hy101; replace H := Option.bind_eq_some_iff.mp H; obtain ⟨⟨t104, t105, t106⟩, A20, H⟩ := H; replace H : (spec_l00Src_puts.l0 k y101 t104 s0_0 t105 t106) = some (r1, r2, r3) := H; have A2 := qO A20; clear A20; have H' := qO H; clear H
 go_enter Try.func78, Try.ntmps78
 go_wp2_with (first | ((with_reducible refine gate_dst (N := 5) rfl ?_); refine Kd.R_lit k58 _ 58 ?hg (N := 5) ?hd (xs := ([] : List (S58))) (inner := []) (ok := fun _ => True) (okp := fun _ => True) ?hr ?hp (fun _ hk => hk) trivial (Below.refl _ _) (Nat.le_refl _) qa119 ?_; (case hd => rfl); (case hg => rfl); (case hr => exact qa18); (case hp => exact qa196); intro v102 w3 ho4 hb hg_ hnew_; clear hg_ hnew_; (first | rw [← Ny101.out] at ho4 | (simp only [Int.reduceToNat] at ho4; rw [← Ny101.out] at ho4)); have HO103 := qO (Kd.R_lower ho4 (keep_size (w := w) (g := g) (row := none) qa19)); replace HK := qO (KeepBut.trans qa19 (KeepBut.of_below hb g none) (.inl rfl)); replace HB := qO (below_step qa22 hb); replace HI0 := qO (IsS128.below qa14 hb); clear hb ho4) | ((with_reducible refine gate_callee (f := 108) rfl ?_); refine goesL_ (some 7) rfl rfl Try.func108 qa6 rfl #[.pointer (some ⟨g, 0, none⟩), .int .i64 5] rfl qa0 ?_; (with_reducible refine (spec_l00Src_next.calls g s0_0 s0_1 s0_2 5 t104 t105 t106 w0 _ ?side1 ?side2 A2.out).mono ?_); (case side1 => exact qa14); (case side2 => exact qa22); rintro e w5 ⟨rfl, hi, hb, hk⟩; refine ⟨_, rfl, ?_⟩; replace HO103 := qO (Kd.R_mono (Kd.R_keep (IsS128.apart (show IsS128 w0 _ g s0_0 s0_1 s0_2 from by repeat (first | (with_reducible first | exact HI0.out | apply IsS128.alloc | apply IsS128.drewN | apply IsS128.drew | apply IsS128.set_1 | apply IsS128.set_2) | exact HI0.out)) qa186 qa60) hk (fun _ h => h.2)) (fun _ h => h.1)); replace HK := qO (KeepBut.trans qa19 hk (.inl rfl)); replace HB := qO (hb); replace HI0 := qO (hi); (try clear hb); (try clear hb2); (try clear hk); (try clear hi)))
 go_loopg [3, 4] k (fun kq v3 v4 w' => ∃ (x3_1 : List (S58)) (x4_1 : Int) (x1001_1 : Int) (x1002_1 : Int), v4 = .int .i64 x4_1 ∧ Aside0 (spec_l00Src_puts.l0 kq x3_1 x4_1 s0_0 x1001_1 x1002_1 = some (r1, r2, r3)) ∧ Aside0 (kq ≤ k) ∧ Aside0 (Kd.R k58 58 w' w.heap.size (fun _ => True) v3 x3_1) ∧ Aside0 (IsS128 w0 w' g s0_0 x1001_1 x1002_1) ∧ Aside0 (KeepBut w w' g none) ∧ Aside0 (Below w0.heap.size w0 w'))
 case atStart => exact ⟨(y101), (t104), (t105), (t106), qa16, H', ⟨Nat.le_refl _⟩, ⟨qa186⟩, ⟨qa14⟩, ⟨qa19⟩, ⟨qa22⟩⟩
 case round =>
  clear H'
  try clear c1
  try clear p2
  obtain ⟨x3_1, x4_1, x1001_1, x1002_1, rfl, HA, HK1, HO_3, HI0, HK, HB⟩ := hrel
  cases gk with
  | zero => exact absurd HA.out (by simp [spec_l00Src_puts.l0])
  | succ k1 =>
   have H := HA.out; clear HA; simp only [spec_l00Src_puts.l0] at H
   by_cases c6 : x4_1 > 0
   ·rw [if_pos c6] at H
    have c6b0 : decide (0 < x4_1) = true := decide_eq_true c6; clear c6; replace H := Option.bind_eq_some_iff.mp H; obtain ⟨⟨t107, t108, t109, t110⟩, A70, H⟩ := H; replace H : (if x3_1.length < 8796093022208 then (spec_l00Src_puts.l0 k1 (x3_1 ++ [(⟨t107, t108⟩ : S58)]) (wrap64 (x4_1 - 1)) s0_0 t109 t110) else (none)) = some (r1, r2, r3) := H; have A7 := qO A70; clear A70
    by_cases c8 : x3_1.length < 8796093022208
    ·rw [if_pos c8] at H
     have LMc8 := qO c8; clear c8; obtain ⟨y111, hy111⟩ : ∃ y_ : List (S58), y_ = (x3_1 ++ [(⟨t107, t108⟩ : S58)]) := ⟨_, rfl⟩; replace H : (spec_l00Src_puts.l0 k1 y111 (wrap64 (x4_1 - 1)) s0_0 t109 t110) = some (r1, r2, r3) := by first | (rw [hy111]; with_reducible exact H) | (have H2_ := (Option.bind_some _ _).symm.trans H; rw [hy111]; with_reducible exact H2_) | (have H2_ := (Option.bind_some _ _).symm.trans H; with_reducible exact H2_) | with_reducible exact H | (rw [hy111]; exact H) | exact H
     have Ny111 := qO hy111; clear hy111; have H' := qO H; clear H
     go_wp2_with (first | ((with_reducible refine gate_callee (f := 116) rfl ?_); refine goesL_ (some 14) rfl rfl Try.func116 qa6 rfl #[.pointer (some ⟨g, 0, none⟩)] rfl qa0 ?_; (with_reducible refine (spec_l00Src_put.calls g s0_0 x1001_1 x1002_1 t107 t108 t109 t110 w0 _ ?side1 ?side2 A7.out).mono ?_); (case side1 => exact qa14); (case side2 => exact qa22); rintro e w9 ⟨rfl, hi, hb, hk⟩; refine ⟨_, rfl, ?_⟩; replace HO_3 := qO (Kd.R_mono (Kd.R_keep (IsS128.apart (show IsS128 w0 _ g s0_0 x1001_1 x1002_1 from by repeat (first | (with_reducible first | exact HI0.out | apply IsS128.alloc | apply IsS128.drewN | apply IsS128.drew | apply IsS128.set_1 | apply IsS128.set_2) | exact HI0.out)) qa187 qa60) hk (fun _ h => h.2)) (fun _ h => h.1)); replace HK := qO (KeepBut.trans qa19 hk (.inl rfl)); replace HB := qO (hb); replace HI0 := qO (hi); (try clear hb); (try clear hb2); (try clear hk); (try clear hi)) | ((with_reducible refine gate_builtin (b := .append) (xs := #[.tmp 12, .tmp 15]) rfl ?_); at_builtin; refine Kd.R_append k58 w.heap.size rfl (.tmp 12) (.tmp 15) 51 58 (.agg #[(.int .i64 0), (.int .i64 0)]) 16 rfl Try.underlying51 info58 rfl qa60 qa34 u3 x3_1 (⟨t107, t108⟩ : S58) [.int .i64 t107, .int .i64 t108] (fun _ => True) (fun _ => False) rfl rfl ?aP (fun _ hk => hk.elim) ?aF ?aO (Below.refl _ _) ?aS ?aL ?_; (case aP => exact k58_mkM _ _ _ (⟨t107, t108⟩ : S58)); (case aF => exact qa194); (case aO => exact (by (with_reducible repeat (first | apply Kd.R_alloc | apply Kd.R_drewN | apply Kd.R_drew)); exact HO_3.out)); (case aS => exact (keep_size (w := w) (g := g) (row := none) (by repeat (first | (with_reducible first | exact HK.out | apply KeepBut.set_ | apply keep_drewN | apply keep_drew | apply keep_alloc) | exact HK.out)))); (case aL => have := LMc8.out; omega); intro v112 w10 ho hb hg hat; rw [← Ny111.out] at ho; have n0_ := qO (IsS128.grown qa14 hg (IsS128.own_ne HI0.out HO_3.out qa60)); have n1_ := qO (below_weaken qa22 HL.out hb); have n2_ := qO (KeepBut.trans qa19 (KeepBut.of_grown hg g) (Kd.R_base2 HO_3.out)); have n3_ := qO (ho); clear HI0 HB HK HO_3; have HI0 := n0_; have HB := n1_; have HK := n2_; have HO113 := n3_; clear n0_ n1_ n2_ n3_ ho hb hg hat))
     go_roundg k1
     case measure => have := HK1.out; omega
     case rel => exact ⟨(y111), (wrap64 (x4_1 - 1)), (t109), (t110), qa16, H', ⟨qa155⟩, ⟨qa185⟩, ⟨qa14⟩, ⟨qa19⟩, ⟨qa22⟩⟩
    ·rw [if_neg c8] at H
     exact absurd H qa119
   ·rw [if_neg c6] at H
    have c6b0 : decide (0 < x4_1) = false := decide_eq_false c6; clear c6; simp only [Option.some.injEq, Prod.mk.injEq] at H; obtain ⟨rfl, rfl, rfl⟩ := H; go_wp2
    go_ret
    exact ⟨_, qa10, qa187, qa14, qa22, qa19⟩


def spec_NewStore.f  : Option ((List (List (S43))) × Int) := if 16 ≤ 11728124029610 then (some ((List.replicate 16 []), 0)) else (none)
set_option maxHeartbeats 8000000 in
set_option maxRecDepth 100000 in
theorem spec_NewStore.calls  (r1 : List (List (S43))) (r2 : Int) (w : World) (h : spec_NewStore.f  = some (r1, r2)) :
  Calls Try.prog 107 #[] w fun e w' => ∃ v0_ : Value, e = .returned (.agg #[v0_, .int .i64 r2]) ∧ Kd.S (Kd.slice 43 k43) 41 w' w.heap.size (fun _ => True) v0_ r1 ∧ Below w.heap.size w w' := by
 have hu28 := Try.underlying28; have HB := qO (Below.refl w.heap.size w); have H : (if 16 ≤ 11728124029610 then (some ((List.replicate 16 []), 0)) else (none)) = some (r1, r2) := h; clear h
 by_cases c1 : 16 ≤ 11728124029610
 ·rw [if_pos c1] at H
  have c1b0 := eq_true c1; have c1b1 : decide (16 ≤ 11728124029610) = true := decide_eq_true c1; clear c1; obtain ⟨y102, hy102⟩ : ∃ y_ : List (List (S43)), y_ = (List.replicate 16 []) := ⟨_, rfl⟩; replace H : (some (y102, 0)) = some (r1, r2) := by first | (rw [hy102]; with_reducible exact H) | (have H2_ := (Option.bind_some _ _).symm.trans H; rw [hy102]; with_reducible exact H2_) | (have H2_ := (Option.bind_some _ _).symm.trans H; with_reducible exact H2_) | with_reducible exact H | (rw [hy102]; exact H) | exact H
  have Ny102 := qO hy102; clear hy102; simp only [Option.some.injEq, Prod.mk.injEq] at H; obtain ⟨rfl, rfl⟩ := H
  go_enter Try.func107, Try.ntmps107
  go_wp2_with (first | ((with_reducible refine gate_dst (N := 0) rfl ?_); refine qX 0 #[.slice none 0 0, .int .i64 0] 28 ?_; intro gb101 hg w2 hbox hb; have hx_ := qHX HB hb qa1; have BK101 := qO (hbox); have GW101 := qO ((qa20 : w.heap.size ≤ gb101)); have GE101 := GW101; replace HB := qO (below_step (below_step HB.out hx_) hb); clear hx_ hb hbox hg) | ((with_reducible refine gate_dst (N := 1) rfl ?_); refine Kd.S_make (Kd.slice 43 k43) _ 41 rfl (N := 1) rfl 26 _ _ rfl 16 rfl rfl Try.underlying26 (.slice none 0 0) 24 info41 rfl qa60 qa34 [] (ok := fun _ => True) (okp := fun _ => True) ⟨_, rfl, Kd.R_nil _ _ _ _ _⟩ (fun _ hk => hk) trivial qa34 qa34 (Below.refl _ _) (Nat.le_refl _) ?_; intro v103 w3 ho4 hb hg_ hnew_; clear hg_ hnew_; (first | rw [← Ny102.out] at ho4 | (simp only [Int.reduceToNat] at ho4; rw [← Ny102.out] at ho4)); have HO104 := qO (Kd.S_lower ho4 (below_size qa9)); replace BK101 := qO (blk_below (g := gb101) (o := .cells #[.slice none 0 0, .int .i64 0] 28 (0, 0)) qa4 hb); replace HB := qO (below_step qa9 hb); clear hb ho4; obtain ⟨Ao5, co5, eo5⟩ := Kd.S_slice HO104.out; subst eo5; obtain ⟨hcz6_0, hcz6_1, hfz6_0, hfz6_1⟩ := qb2 BK101.out))
  refine bodyPost_ret (results_cell_row rfl _ _ gb101 28 #[.slice Ao5 y102.length co5, .int .i64 0] (0, 0) _ rfl (by (with_reducible repeat (first | refine qkN ?_ _ | refine qkD ?_ | refine qkA ?_ _)); refine blk_put (cs := #[.slice Ao5 y102.length co5, .int .i64 0]) ?_ 1 _ rfl; (with_reducible repeat (first | refine qkN ?_ _ | refine qkD ?_ | refine qkA ?_ _)); refine blk_put (cs := #[.slice none 0 0, .int .i64 0]) ?_ 0 _ rfl; (with_reducible repeat (first | refine qkN ?_ _ | refine qkD ?_ | refine qkA ?_ _)); exact BK101.out) Try.underlying28 rfl qa6) rfl ?_
  exact ⟨_, qa10, by (with_reducible repeat (first | apply Kd.S_alloc | apply Kd.S_drewN | apply Kd.S_drew)); exact Kd.S_mono (Kd.S_far (p := ⟨gb101, 1, none⟩) (Kd.S_far (p := ⟨gb101, 0, none⟩) (Kd.S_types HO104.out BK101.out (by decide)) (fun _ hk => hk.2) (.slice Ao5 y102.length co5)) (fun _ hk => hk.2) (.int .i64 0)) (fun _ hk => trivial), qa9⟩
 ·rw [if_neg c1] at H
  exact absurd H qa119


def spec_l00Src_size.f (s0_0 : List Int) (s0_1 : Int) (s0_2 : Int) (a1 : Int) : Option (Int × Int × Int) := some (mn (wrap64 (1 + (wrap64 ((s0_0.length : Int) / 12)))) a1, s0_1, s0_2)
set_option maxHeartbeats 8000000 in
set_option maxRecDepth 100000 in
theorem spec_l00Src_size.calls (g : Nat) (s0_0 : List Int) (s0_1 : Int) (s0_2 : Int) (a1 : Int) (r1 : Int) (r2 : Int) (r3 : Int) (w0 w : World) (hI : IsS128 w0 w g s0_0 s0_1 s0_2) (hB : Below w0.heap.size w0 w) (h : spec_l00Src_size.f s0_0 s0_1 s0_2 a1 = some (r1, r2, r3)) :
  Calls Try.prog 109 #[.pointer (some ⟨g, 0, none⟩), .int .i64 a1] w fun e w' => e = .returned (.int .i64 r1) ∧ IsS128 w0 w' g s0_0 r2 r3 ∧ Below w0.heap.size w0 w' ∧ KeepBut w w' g none := by
 have HI0 := qO hI; have HK := qO (KeepBut.refl w g none); have HL := qO hB.size; clear hI; have HW0 := qO hB.size; have HB := qO hB; clear hB; have H : (some (mn (wrap64 (1 + (wrap64 ((s0_0.length : Int) / 12)))) a1, s0_1, s0_2)) = some (r1, r2, r3) := h; clear h; obtain ⟨ji3, hji3⟩ : ∃ j_ : Int, (mn (wrap64 (1 + (wrap64 ((s0_0.length : Int) / 12)))) a1) = j_ := ⟨_, rfl⟩; replace H : (some (ji3, s0_1, s0_2)) = some (r1, r2, r3) := by first | (rw [hji3] at H; exact H) | (simp only [hji3] at H ⊢; exact H)
 have hji3_ : (if a1 < (wrap64 (1 + (wrap64 ((s0_0.length : Int) / 12)))) then a1 else (wrap64 (1 + (wrap64 ((s0_0.length : Int) / 12))))) = ji3 := hji3; simp only [Option.some.injEq, Prod.mk.injEq] at H; obtain ⟨rfl, rfl, rfl⟩ := H; obtain ⟨ASz4_0, cSz4_0, HGz4, hgz4, HSz4_0⟩ := HI0.out; have hcz4_0 := cellS128_0 HGz4; have hcz4_1 := cellS128_1 HGz4; have hcz4_2 := cellS128_2 HGz4; have hfz4_1 := blk_frozen HGz4 1; have hfz4_2 := blk_frozen HGz4 2; clear HGz4 hgz4
 go_enter Try.func109, Try.ntmps109
 go_wp2
 go_ret
 exact ⟨qa152, qa14, qa22, qa19⟩


def spec_l00Src_chance.f (s0_0 : List Int) (s0_1 : Int) (s0_2 : Int) (a1 : Int) : Option (Bool × Int × Int) := (spec_l00Src_next.f s0_0 s0_1 s0_2 a1).bind fun bt101 => (some ((bt101.1 == (wrap64 (a1 - 1))), bt101.2.1, bt101.2.2))
set_option maxHeartbeats 8000000 in
set_option maxRecDepth 100000 in
theorem spec_l00Src_chance.calls (g : Nat) (s0_0 : List Int) (s0_1 : Int) (s0_2 : Int) (a1 : Int) (r1 : Bool) (r2 : Int) (r3 : Int) (w0 w : World) (hI : IsS128 w0 w g s0_0 s0_1 s0_2) (hB : Below w0.heap.size w0 w) (h : spec_l00Src_chance.f s0_0 s0_1 s0_2 a1 = some (r1, r2, r3)) :
  Calls Try.prog 110 #[.pointer (some ⟨g, 0, none⟩), .int .i64 a1] w fun e w' => e = .returned (.bool r1) ∧ IsS128 w0 w' g s0_0 r2 r3 ∧ Below w0.heap.size w0 w' ∧ KeepBut w w' g none := by
 have HI0 := qO hI; have HK := qO (KeepBut.refl w g none); have HL := qO hB.size; clear hI; have HW0 := qO hB.size; have HB := qO hB; clear hB; have H : ((spec_l00Src_next.f s0_0 s0_1 s0_2 a1).bind fun bt101 => (some ((bt101.1 == (wrap64 (a1 - 1))), bt101.2.1, bt101.2.2))) = some (r1, r2, r3) := h; clear h; replace H := Option.bind_eq_some_iff.mp H; obtain ⟨⟨t101, t102, t103⟩, A30, H⟩ := H; replace H : (some ((t101 == (wrap64 (a1 - 1))), t102, t103)) = some (r1, r2, r3) := H; have A3 := qO A30; clear A30; simp only [Option.some.injEq, Prod.mk.injEq] at H; obtain ⟨rfl, rfl, rfl⟩ := H
 go_enter Try.func110, Try.ntmps110
 go_wp2_with (first | ((with_reducible refine gate_callee (f := 108) rfl ?_); refine goesL_ (some 7) rfl rfl Try.func108 qa6 rfl #[.pointer (some ⟨g, 0, none⟩), .int .i64 a1] rfl qa0 ?_; (with_reducible refine (spec_l00Src_next.calls g s0_0 s0_1 s0_2 a1 t101 t102 t103 w0 _ ?side1 ?side2 A3.out).mono ?_); (case side1 => exact qa14); (case side2 => exact qa22); rintro e w4 ⟨rfl, hi, hb, hk⟩; refine ⟨_, rfl, ?_⟩; replace HK := qO (KeepBut.trans qa19 hk (.inl rfl)); replace HB := qO (hb); replace HI0 := qO (hi); (try clear hb); (try clear hb2); (try clear hk); (try clear hi)))
 go_ret
 exact ⟨qa10, qa14, qa22, qa19⟩

end Go.Proofs.Ytfiboooflebdpaa.Q
