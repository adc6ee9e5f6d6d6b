/- Texts of the claim on FnStore, gathered by a program of this session: what the program's functions compute (proved by walks), and the plain part. -/
import Derived.Test.YtfiboooflebdpaaKFnStorea
namespace Go.Proofs.Ytfiboooflebdpaa.Q
open Go.RowKit Go.Proofs.YtfiboooflebdpaaW.PrintWords Go.Proofs.YtfiboooflebdpaaW.PrintLast Go.Proofs.YtfiboooflebdpaaW.PrintMore
attribute [local go_sem] max2_int min2_int max_two min_two max_three min_three max_four min_four
set_option linter.unusedVariables false
set_option linter.unusedSimpArgs false

theorem q73zA {α : Type} (l : List α) (i : Nat) (a : α) : l.toArray.setIfInBounds i a = (l.set i a).toArray := qzA l i a
theorem q73zB {α : Type} {a b : α} {t : List α} : (a :: t).set 0 b = b :: t := rfl
theorem q73zC {α : Type} {a b : α} {t : List α} {n : Nat} : (a :: t).set (n + 1) b = a :: t.set n b := rfl
theorem q73bN {B : Nat} {w W : World} (h : Below B w W) (n : Nat) : Below B w (W.drewN n) := qbN h n
theorem q73bA {w W : World} (h : Below w.heap.size w W) (o : Obj) : Below w.heap.size w (W.alloc o) := qbA h o
theorem q73bD {base : Nat} {w W : World} (h : Below base w W) : Below base w W.drew := qbD h
theorem q73bS {w W : World} {g j : Nat} {v : Value} (h : Below w.heap.size w W) (hg : w.heap.size ≤ g) : Below w.heap.size w (W.setCell ⟨g, j, none⟩ v) := qbS h hg
theorem q73O {p : Prop} (h : p) : Aside0 p := ⟨h⟩
theorem q73T {p : Prop} [Decidable p] (h : decide p = true) : p := qT h
theorem q73L (w : World) (a : Addr) {v : Value} (h : w.cell? a = some v) : a.block < w.heap.size := qL w a h
theorem q73kN {w : World} {g : Nat} {o : Obj} (h : w.heap[g]? = some o) (n : Nat) : (w.drewN n).heap[g]? = some o := h
theorem q73kD {w : World} {g : Nat} {o : Obj} (h : w.heap[g]? = some o) : w.drew.heap[g]? = some o := h
theorem q73kA {w : World} {g : Nat} {o : Obj} (h : w.heap[g]? = some o) (o' : Obj) : (w.alloc o').heap[g]? = some o := qkA h o'
def spec_l06Write.l0 : Nat → List (S58) → Int → List (List (S43)) → Int → Option ((List (List (S43))) × Int)
 | 0, _, _, _, _ => none
 | k + 1, x1, x5, x102000, x102001 => if x5 < (x1.length : Int) then (if 0 ≤ x5 then (if 0 ≤ ((rd_T58 x1 x5).f0) then (if ((rd_T58 x1 x5).f0) < (x102000.length : Int) then (if ((rd_L4 x102000 ((rd_T58 x1 x5).f0)).length : Int) > 0 then (if 0 ≤ (wrap64 (((rd_L4 x102000 ((rd_T58 x1 x5).f0)).length : Int) - 1)) then (if (wrap64 (((rd_L4 x102000 ((rd_T58 x1 x5).f0)).length : Int) - 1)) < ((rd_L4 x102000 ((rd_T58 x1 x5).f0)).length : Int) then (if ((rd_T43 (rd_L4 x102000 ((rd_T58 x1 x5).f0)) (wrap64 (((rd_L4 x102000 ((rd_T58 x1 x5).f0)).length : Int) - 1))).f0) = x102001 then (if (wrap64 (((rd_L4 x102000 ((rd_T58 x1 x5).f0)).length : Int) - 1)) ≤ ((rd_L4 x102000 ((rd_T58 x1 x5).f0)).length : Int) then ((some ((rd_L4 x102000 ((rd_T58 x1 x5).f0)).take ((wrap64 (((rd_L4 x102000 ((rd_T58 x1 x5).f0)).length : Int) - 1)) : Int).toNat : List (S43))).bind fun y110 => ((some (([] : List (S43)) : List (S43))).bind fun y116 => (if y116.length + y110.length < 8796093022208 then ((some (y116 ++ y110 : List (S43))).bind fun y119 => ((some (([(⟨x102001, (rd_T58 x1 x5).f1⟩ : S43)] : List (S43)) : List (S43))).bind fun y123 => (if y119.length + y123.length < 8796093022208 then (spec_l06Write.l0 k x1 (wrap64 (x5 + 1)) (x102000.set (((rd_T58 x1 x5).f0) : Int).toNat (y119 ++ y123)) x102001) else (none)))) else (none)))) else (none)) else ((some (([] : List (S43)) : List (S43))).bind fun y131 => (if y131.length + (rd_L4 x102000 ((rd_T58 x1 x5).f0)).length < 8796093022208 then ((some (y131 ++ (rd_L4 x102000 ((rd_T58 x1 x5).f0)) : List (S43))).bind fun y134 => ((some (([(⟨x102001, (rd_T58 x1 x5).f1⟩ : S43)] : List (S43)) : List (S43))).bind fun y138 => (if y134.length + y138.length < 8796093022208 then (spec_l06Write.l0 k x1 (wrap64 (x5 + 1)) (x102000.set (((rd_T58 x1 x5).f0) : Int).toNat (y134 ++ y138)) x102001) else (none)))) else (none)))) else (none)) else (none)) else ((some (([] : List (S43)) : List (S43))).bind fun y146 => (if y146.length + (rd_L4 x102000 ((rd_T58 x1 x5).f0)).length < 8796093022208 then ((some (y146 ++ (rd_L4 x102000 ((rd_T58 x1 x5).f0)) : List (S43))).bind fun y149 => ((some (([(⟨x102001, (rd_T58 x1 x5).f1⟩ : S43)] : List (S43)) : List (S43))).bind fun y153 => (if y149.length + y153.length < 8796093022208 then (spec_l06Write.l0 k x1 (wrap64 (x5 + 1)) (x102000.set (((rd_T58 x1 x5).f0) : Int).toNat (y149 ++ y153)) x102001) else (none)))) else (none)))) else (none)) else (none)) else (none)) else (some (x102000, x102001))
def spec_l06Write.f (k : Nat) (l0_0 : List (List (S43))) (a0_1 : Int) (l1 : List (S58)) : Option ((List (List (S43))) × Int) := if (l1.length : Int) = 0 then (some (l0_0, a0_1)) else ((spec_l06Own.f k l0_0 a0_1).bind fun bt103 => (spec_l06Write.l0 k l1 0 bt103.1 (wrap64 (bt103.2 + 1))))
def spec_l06Write.T8 : Bool × List (List Nat × List Nat) := (true, [([], []), ([0], [0]), ([], []), ([], []), ([2, 3], [2, 3]), ([4], [4]), ([5], [5]), ([1, 6], [1, 6]), ([7], [7]), ([8, 0, 1, 2, 3, 4, 5, 6, 7, 8], [8])])
def spec_l06Write.B8 : List Nat := [0, 1, 0, 0, 12, 28, 60, 127, 255, 511]
theorem spec_l06Write.tab8 : rtab .any (opsOf Try.f73 8) = spec_l06Write.T8 := by kernel_rfl
theorem spec_l06Write.bits8 : waitsOk spec_l06Write.T8.2 spec_l06Write.B8 = true := by kernel_rfl
def spec_l06Write.T9 : Bool × List (List Nat × List Nat) := (true, [([], []), ([0], [0]), ([1], [1]), ([2], [2]), ([3], [3]), ([3], [3]), ([5, 3], [3, 5]), ([6, 3], [3, 6]), ([4, 7, 3], [3, 4, 7]), ([8, 3], [3, 8]), ([9, 3], [3, 9]), ([3], [3]), ([11, 3], [3, 11]), ([10, 12, 3], [3, 10, 12]), ([3, 13], [3, 13])])
def spec_l06Write.B9 : List Nat := [0, 1, 3, 7, 15, 15, 47, 111, 255, 511, 1023, 15, 2063, 8191, 16383]
theorem spec_l06Write.tab9 : rtab .any (opsOf Try.f73 9) = spec_l06Write.T9 := by kernel_rfl
theorem spec_l06Write.bits9 : waitsOk spec_l06Write.T9.2 spec_l06Write.B9 = true := by kernel_rfl
def spec_l06Write.T11 : Bool × List (List Nat × List Nat) := (true, [([], []), ([0], [0]), ([], []), ([], []), ([2, 3], [2, 3]), ([4], [4]), ([5], [5]), ([], []), ([], []), ([7, 8], [7, 8]), ([], []), ([10], [10]), ([], []), ([], []), ([12, 13], [12, 13]), ([14], [14]), ([15], [15]), ([11, 16], [11, 16]), ([17], [17]), ([9, 18, 9], [9, 18]), ([1, 6, 0, 1, 2, 3, 4, 5, 6, 7, 8, 9, 10, 11, 12, 13, 14, 15, 16, 17, 18, 19], [1, 6]), ([20, 19, 19, 0, 1, 2, 3, 4, 5, 6, 7, 8, 9, 10, 11, 12, 13, 14, 15, 16, 17, 18, 19], [19, 20])])
def spec_l06Write.B11 : List Nat := [0, 1, 0, 0, 12, 28, 60, 0, 0, 384, 0, 1024, 0, 0, 12288, 28672, 61440, 130048, 261120, 524160, 1048575, 2097151]
theorem spec_l06Write.tab11 : rtab .any (opsOf Try.f73 11) = spec_l06Write.T11 := by kernel_rfl
theorem spec_l06Write.bits11 : waitsOk spec_l06Write.T11.2 spec_l06Write.B11 = true := by kernel_rfl
def q73y0 : Array Bool := #[qf,qf,qf,qf,qf,qf,qf,qf,qf,qf]
def q73y1 : Array Bool := #[qt,qf,qf,qf,qf,qf,qf,qf,qf,qf]
def q73y2 : Array Bool := #[qt,qf,qt,qf,qf,qf,qf,qf,qf,qf]
def q73y3 : Array Bool := #[qt,qf,qt,qt,qf,qf,qf,qf,qf,qf]
def q73y4 : Array Bool := #[qt,qf,qt,qt,qt,qf,qf,qf,qf,qf]
def q73y5 : Array Bool := #[qt,qf,qt,qt,qt,qt,qf,qf,qf,qf]
def q73y6 : Array Bool := #[qt,qt,qt,qt,qt,qt,qf,qf,qf,qf]
def q73y7 : Array Bool := #[qt,qt,qt,qt,qt,qt,qt,qf,qf,qf]
def q73y8 : Array Bool := #[qt,qt,qt,qt,qt,qt,qt,qt,qf,qf]
def q73y9 : Array Bool := #[qt,qt,qt,qt,qt,qt,qt,qt,qt,qf]
def q73y10 : Array Bool := #[qt,qt,qt,qt,qt,qt,qt,qt,qt,qt]
def q73y11 : Array Bool := #[qf,qf,qf,qf,qf,qf,qf,qf,qf,qf,qf,qf,qf,qf,qf]
def q73y12 : Array Bool := #[qt,qf,qf,qf,qf,qf,qf,qf,qf,qf,qf,qf,qf,qf,qf]
def q73y13 : Array Bool := #[qt,qt,qf,qf,qf,qf,qf,qf,qf,qf,qf,qf,qf,qf,qf]
def q73y14 : Array Bool := #[qt,qt,qt,qf,qf,qf,qf,qf,qf,qf,qf,qf,qf,qf,qf]
def q73y15 : Array Bool := #[qt,qt,qt,qt,qf,qf,qf,qf,qf,qf,qf,qf,qf,qf,qf]
def q73y16 : Array Bool := #[qt,qt,qt,qt,qt,qf,qf,qf,qf,qf,qf,qf,qf,qf,qf]
def q73y17 : Array Bool := #[qt,qt,qt,qt,qt,qt,qf,qf,qf,qf,qf,qf,qf,qf,qf]
def q73y18 : Array Bool := #[qt,qt,qt,qt,qt,qt,qt,qf,qf,qf,qf,qf,qf,qf,qf]
def q73y19 : Array Bool := #[qt,qt,qt,qt,qt,qt,qt,qt,qf,qf,qf,qf,qf,qf,qf]
def q73y20 : Array Bool := #[qt,qt,qt,qt,qt,qt,qt,qt,qt,qf,qf,qf,qf,qf,qf]
def q73y21 : Array Bool := #[qt,qt,qt,qt,qt,qt,qt,qt,qt,qt,qf,qf,qf,qf,qf]
def q73y22 : Array Bool := #[qt,qt,qt,qt,qt,qt,qt,qt,qt,qt,qf,qt,qf,qf,qf]
def q73y23 : Array Bool := #[qt,qt,qt,qt,qt,qt,qt,qt,qt,qt,qt,qt,qf,qf,qf]
def q73y24 : Array Bool := #[qt,qt,qt,qt,qt,qt,qt,qt,qt,qt,qt,qt,qt,qf,qf]
def q73y25 : Array Bool := #[qt,qt,qt,qt,qt,qt,qt,qt,qt,qt,qt,qt,qt,qt,qf]
def q73y26 : Array Bool := #[qt,qt,qt,qt,qt,qt,qt,qt,qt,qt,qt,qt,qt,qt,qt]
def q73y27 : Array Bool := #[qf,qf,qf,qf,qf,qf,qf,qf,qf,qf,qf,qf,qf,qf,qf,qf,qf,qf,qf,qf,qf,qf]
def q73y28 : Array Bool := #[qt,qf,qf,qf,qf,qf,qf,qf,qf,qf,qf,qf,qf,qf,qf,qf,qf,qf,qf,qf,qf,qf]
def q73y29 : Array Bool := #[qt,qf,qt,qf,qf,qf,qf,qf,qf,qf,qf,qf,qf,qf,qf,qf,qf,qf,qf,qf,qf,qf]
def q73y30 : Array Bool := #[qt,qf,qt,qt,qf,qf,qf,qf,qf,qf,qf,qf,qf,qf,qf,qf,qf,qf,qf,qf,qf,qf]
def q73y31 : Array Bool := #[qt,qf,qt,qt,qt,qf,qf,qf,qf,qf,qf,qf,qf,qf,qf,qf,qf,qf,qf,qf,qf,qf]
def q73y32 : Array Bool := #[qt,qf,qt,qt,qt,qt,qf,qf,qf,qf,qf,qf,qf,qf,qf,qf,qf,qf,qf,qf,qf,qf]
def q73y33 : Array Bool := #[qt,qf,qt,qt,qt,qt,qf,qf,qt,qf,qf,qf,qf,qf,qf,qf,qf,qf,qf,qf,qf,qf]
def q73y34 : Array Bool := #[qt,qf,qt,qt,qt,qt,qf,qf,qt,qf,qt,qf,qf,qf,qf,qf,qf,qf,qf,qf,qf,qf]
def q73y35 : Array Bool := #[qt,qf,qt,qt,qt,qt,qf,qf,qt,qf,qt,qf,qt,qf,qf,qf,qf,qf,qf,qf,qf,qf]
def q73y36 : Array Bool := #[qt,qf,qt,qt,qt,qt,qf,qf,qt,qf,qt,qf,qt,qt,qf,qf,qf,qf,qf,qf,qf,qf]
def q73y37 : Array Bool := #[qt,qf,qt,qt,qt,qt,qf,qf,qt,qf,qt,qf,qt,qt,qt,qf,qf,qf,qf,qf,qf,qf]
def q73y38 : Array Bool := #[qt,qf,qt,qt,qt,qt,qf,qf,qt,qf,qt,qf,qt,qt,qt,qt,qf,qf,qf,qf,qf,qf]
def q73y39 : Array Bool := #[qt,qt,qt,qt,qt,qt,qf,qf,qt,qf,qt,qf,qt,qt,qt,qt,qf,qf,qf,qf,qf,qf]
def q73y40 : Array Bool := #[qt,qt,qt,qt,qt,qt,qt,qf,qt,qf,qt,qf,qt,qt,qt,qt,qf,qf,qf,qf,qf,qf]
def q73y41 : Array Bool := #[qt,qt,qt,qt,qt,qt,qt,qf,qt,qf,qt,qt,qt,qt,qt,qt,qf,qf,qf,qf,qf,qf]
def q73y42 : Array Bool := #[qt,qt,qt,qt,qt,qt,qt,qf,qt,qf,qt,qt,qt,qt,qt,qt,qt,qf,qf,qf,qf,qf]
def q73y43 : Array Bool := #[qt,qt,qt,qt,qt,qt,qt,qf,qt,qf,qt,qt,qt,qt,qt,qt,qt,qt,qf,qf,qf,qf]
def q73y44 : Array Bool := #[qt,qt,qt,qt,qt,qt,qt,qt,qt,qt,qt,qt,qt,qt,qt,qt,qt,qt,qt,qf,qf,qf]
def q73y45 : Array Bool := #[qt,qt,qt,qt,qt,qt,qt,qt,qt,qf,qt,qt,qt,qt,qt,qt,qt,qt,qf,qf,qf,qf]
def q73y46 : Array Bool := #[qt,qt,qt,qt,qt,qt,qt,qf,qt,qf,qt,qt,qt,qt,qt,qt,qt,qt,qt,qf,qf,qf]
def q73y47 : Array Bool := #[qt,qt,qt,qt,qt,qt,qt,qt,qt,qt,qt,qt,qt,qt,qt,qt,qt,qt,qf,qf,qf,qf]
def q73y48 : Array Bool := #[qt,qt,qt,qt,qt,qt,qt,qt,qt,qf,qt,qt,qt,qt,qt,qt,qt,qt,qt,qf,qf,qf]
def q73y49 : Array Bool := #[qt,qt,qt,qt,qt,qt,qt,qt,qt,qt,qt,qt,qt,qt,qt,qt,qt,qt,qt,qt,qf,qf]
def q73y50 : Array Bool := #[qt,qt,qt,qt,qt,qt,qt,qt,qt,qt,qt,qt,qt,qt,qt,qt,qt,qt,qt,qt,qt,qf]
def q73y51 : Array Bool := #[qt,qt,qt,qt,qt,qt,qt,qt,qt,qt,qt,qt,qt,qt,qt,qt,qt,qt,qt,qt,qt,qt]
def q73y52 : Array Bool := #[qt,qt,qt,qt,qt,qt,qt,qt,qt,qt,qt,qf,qf,qf,qf]
set_option maxHeartbeats 8000000 in
set_option maxRecDepth 100000 in
theorem spec_l06Write.calls (k : Nat) (P0_0_ : Nat → Prop) (A0_0 : Option Addr) (c0_0 : Nat) (l0_0 : List (List (S43))) (a0_1 : Int) (A1 : Option Addr) (c1 : Nat) (l1 : List (S58)) (r1 : List (List (S43))) (r2 : Int) (w : World) (hs0_0 : Kd.V (Kd.slice 43 k43) 41 w w.heap.size (fun k_ => P0_0_ k_) (.slice A0_0 l0_0.length c0_0) l0_0) (hr1 : Kd.C k58 w A1 l1.length l1) (hc1 : l1.length ≤ c1) (h : spec_l06Write.f k l0_0 a0_1 l1 = some (r1, r2)) :
  Calls Try.prog 73 #[.agg #[.slice A0_0 l0_0.length c0_0, .int .i64 a0_1], .slice A1 l1.length c1] w fun e w' => ∃ v0_ : Value, e = .returned (.agg #[v0_, .int .i64 r2]) ∧ Kd.V (Kd.slice 43 k43) 41 w' w.heap.size (fun k_ => (P0_0_ k_ ∨ w.heap.size ≤ k_)) v0_ r1 ∧ Below w.heap.size w w' := by
 have hu28 := Try.underlying28; have hu43 := Try.underlying43; have HO0_0 := q73O (show Kd.V (Kd.slice 43 k43) 41 w w.heap.size (fun k_ => (P0_0_ k_ ∨ w.heap.size ≤ k_)) (.slice A0_0 l0_0.length c0_0) l0_0 from Kd.V_mono hs0_0 (fun k_ hk => .inl hk)); have HR1 := q73O hr1; have HC1 := q73O hc1; clear hr1 hc1; have HB := q73O (Below.refl w.heap.size w); have H : (if (l1.length : Int) = 0 then (some (l0_0, a0_1)) else ((spec_l06Own.f k l0_0 a0_1).bind fun bt103 => (spec_l06Write.l0 k l1 0 bt103.1 (wrap64 (bt103.2 + 1))))) = some (r1, r2) := h; clear h
 by_cases c3 : (l1.length : Int) = 0
 ·rw [if_pos c3] at H
  have c3b0 : ((l1.length : Int) == 0) = true := beq_iff_eq.mpr c3; have c3b1 : ((l1.length : Int) != 0) = false := bne_eq_false_iff_eq.mpr c3; clear c3; simp only [Option.some.injEq, Prod.mk.injEq] at H; obtain ⟨rfl, rfl⟩ := H
  go_enter Try.func73, Try.ntmps73
  go_wp2_with (first | ((with_reducible refine gate_dst (N := 2) rfl ?_); (try (refine gate_guard (by rfl) ?_; dsimp only)); refine qX 2 #[.slice A0_0 l0_0.length c0_0, .int .i64 a0_1] 28 ?_; intro gb101 hg w4 hbox hb; have BK101 := q73O (hbox); have GW101 := q73O ((qa135 : w.heap.size ≤ gb101)); have GE101 := q73O ((qa135 : w.heap.size ≤ gb101)); replace HO0_0 := q73O (Kd.V_below (Kd.V_elderB qa145 gb101 (Nat.le_of_eq hg.symm)) hb); replace HB := q73O (below_step qa194 hb); clear hb hbox hg) | ((with_reducible refine gate_dst (N := 4) rfl ?_); (try (refine gate_guard (by rfl) ?_; dsimp only)); refine qX 4 #[.slice none 0 0, .int .i64 0] 28 ?_; intro gb102 hg w5 hbox hb; have BK102 := q73O (hbox); have GW102 := q73O ((qa114 : w.heap.size ≤ gb102)); have GE102 := q73O ((qa114 : w.heap.size ≤ gb102)); have NB101_102 := q73O ((qa154 : gb101 ≠ gb102)); have NB102_101 := q73O ((qa155 : gb102 ≠ gb101)); replace HO0_0 := q73O (Kd.V_below (Kd.V_elderB qa145 gb102 (Nat.le_of_eq hg.symm)) hb); replace BK101 := q73O (blk_below (g := gb101) (o := .cells #[.slice A0_0 l0_0.length c0_0, .int .i64 a0_1] 28 (0, 0)) qa24 hb); replace HB := q73O (below_step qa183 hb); clear hb hbox hg; have hnb6 := NB101_102.out; have hnc6 := NB102_101.out; obtain ⟨hcz7_0, hcz7_1, hfz7_0, hfz7_1⟩ := qb2 BK101.out; obtain ⟨hcz8_0, hcz8_1, hfz8_0, hfz8_1⟩ := qb2 BK102.out))
  refine bodyPost_ret (results_cell_row rfl _ _ gb102 28 #[.slice A0_0 l0_0.length c0_0, .int .i64 a0_1] (0, 0) _ rfl (by (with_reducible repeat (first | refine q73kN ?_ _ | refine q73kD ?_ | refine q73kA ?_ _)); refine blk_put (cs := #[.slice A0_0 l0_0.length c0_0, .int .i64 0]) ?_ 1 _ rfl; (with_reducible repeat (first | refine q73kN ?_ _ | refine q73kD ?_ | refine q73kA ?_ _)); refine blk_put (cs := #[.slice none 0 0, .int .i64 0]) ?_ 0 _ rfl; (with_reducible repeat (first | refine q73kN ?_ _ | refine q73kD ?_ | refine q73kA ?_ _)); exact BK102.out) Try.underlying28 rfl qa7) rfl ?_
  exact ⟨_, qa9, by (with_reducible repeat (first | apply Kd.V_alloc | apply Kd.V_drewN | apply Kd.V_drew)); exact Kd.V_mono (Kd.V_far (p := ⟨gb102, 1, none⟩) (Kd.V_far (p := ⟨gb102, 0, none⟩) (Kd.V_mono HO0_0.out (fun k_ hk => (⟨hk, hk.2⟩ : _ ∧ k_ ≠ gb102))) (fun _ hk => hk.2) (.slice A0_0 l0_0.length c0_0)) (fun _ hk => hk.2) (.int .i64 a0_1)) (fun _ hk => hk.1.1.1), qa6⟩
 ·rw [if_neg c3] at H
  have c3b0 : ((l1.length : Int) == 0) = false := beq_eq_false_iff_ne.mpr c3; have c3b1 : ((l1.length : Int) != 0) = true := bne_iff_ne.mpr c3; have c3b2 : ¬ (l1 = []) := fun h_ => c3 (by rw [h_]; rfl)
  replace H := Option.bind_eq_some_iff.mp H; obtain ⟨⟨t103, t106⟩, A90, H⟩ := H; replace H : (spec_l06Write.l0 k l1 0 t103 (wrap64 (t106 + 1))) = some (r1, r2) := H; have A9 := q73O A90; clear A90; have H' := q73O H; clear H
  go_enter Try.func73, Try.ntmps73
  go_wp2_with (first | ((with_reducible refine gate_dst (N := 2) rfl ?_); (try (refine gate_guard (by rfl) ?_; dsimp only)); refine qX 2 #[.slice A0_0 l0_0.length c0_0, .int .i64 a0_1] 28 ?_; intro gb101 hg w10 hbox hb; have BK101 := q73O (hbox); have GW101 := q73O ((qa135 : w.heap.size ≤ gb101)); have GE101 := q73O ((qa135 : w.heap.size ≤ gb101)); replace HO0_0 := q73O (Kd.V_below (Kd.V_elderB qa145 gb101 (Nat.le_of_eq hg.symm)) hb); replace HB := q73O (below_step qa194 hb); clear hb hbox hg) | ((with_reducible refine gate_dst (N := 4) rfl ?_); (try (refine gate_guard (by rfl) ?_; dsimp only)); refine qX 4 #[.slice none 0 0, .int .i64 0] 28 ?_; intro gb102 hg w11 hbox hb; have BK102 := q73O (hbox); have GW102 := q73O ((qa114 : w.heap.size ≤ gb102)); have GE102 := q73O ((qa114 : w.heap.size ≤ gb102)); have NB101_102 := q73O ((qa154 : gb101 ≠ gb102)); have NB102_101 := q73O ((qa155 : gb102 ≠ gb101)); replace HO0_0 := q73O (Kd.V_below (Kd.V_elderB qa145 gb102 (Nat.le_of_eq hg.symm)) hb); replace BK101 := q73O (blk_below (g := gb101) (o := .cells #[.slice A0_0 l0_0.length c0_0, .int .i64 a0_1] 28 (0, 0)) qa24 hb); replace HB := q73O (below_step qa183 hb); clear hb hbox hg; have hnb12 := NB101_102.out; have hnc12 := NB102_101.out; obtain ⟨hcz13_0, hcz13_1, hfz13_0, hfz13_1⟩ := qb2 BK101.out) | ((with_reducible refine gate_callee (f := 72) rfl ?_); refine goesL_ (some 12) rfl rfl Try.func72 qa7 rfl #[.agg #[.slice A0_0 l0_0.length c0_0, .int .i64 a0_1]] rfl qa0 ?_; (with_reducible refine (spec_l06Own.calls k _ _ l0_0 a0_1 t103 t106 _ ?side1 ?side2 A9.out).mono ?_); (case side1 => repeat (first | exact (Kd.V_reads' HO0_0.out).2.2 | with_reducible first | refine Kd.C_alloc ?_ _ | refine Kd.C_drewN ?_ _ | refine Kd.C_drew ?_)); (case side2 => exact (Kd.V_reads' HO0_0.out).2.1); rintro e w14 ⟨v104, rfl, ho0, hb⟩; refine ⟨_, rfl, ?_⟩; have HO105 := q73O (Kd.N_lower (Kd.N_mono (ok' := fun k_ => (P0_0_ k_ ∨ w.heap.size ≤ k_) ∧ k_ ≠ gb101 ∧ k_ ≠ gb102) (Kd.S_N (Kd.S_bound ho0)) (fun k_ hk_ => ⟨(.inr (Nat.le_trans (below_size qa6) hk_.2.1)), (Kd.freshB (g := gb101) (o := .cells #[.slice A0_0 l0_0.length c0_0, .int .i64 a0_1] 28 (0, 0)) qa24 k_ hk_.2.1), (Kd.freshB (g := gb102) (o := .cells #[.slice none 0 0, .int .i64 0] 28 (0, 0)) qa27 k_ hk_.2.1)⟩)) (below_size qa6)); replace HO0_0 := q73O (Kd.V_elder' qa145 (Kd.S_base ho0) hb); replace BK101 := q73O (blk_below (g := gb101) (o := .cells #[.slice A0_0 l0_0.length c0_0, .int .i64 a0_1] 28 (0, 0)) qa24 hb); replace BK102 := q73O (blk_below (g := gb102) (o := .cells #[.slice none 0 0, .int .i64 0] 28 (0, 0)) qa27 hb); replace HB := q73O (below_step qa6 hb); (try clear hb); (try clear hb2); (try clear hk); (try clear hi); (try clear ho0); obtain ⟨Ao15, co15, eo15⟩ := Kd.N_slice HO105.out; subst eo15; obtain ⟨hcz16_0, hcz16_1, hfz16_0, hfz16_1⟩ := qb2 BK101.out))
  go_loopg [5] k (fun kq v5 w' => ∃ (x5_1 : Int) (x102000_1 : List (List (S43))) (u102000 : Value), v5 = .int .i64 x5_1 ∧ Aside0 (spec_l06Write.l0 kq l1 x5_1 x102000_1 (wrap64 (t106 + 1)) = some (r1, r2)) ∧ Aside0 (kq ≤ k) ∧ Aside0 (Kd.N (Kd.slice 43 k43) 41 w' w.heap.size (fun k_ => (P0_0_ k_ ∨ w.heap.size ≤ k_) ∧ k_ ≠ gb101 ∧ k_ ≠ gb102) u102000 x102000_1) ∧ Aside0 (w'.heap[gb101]? = some (.cells #[u102000, .int .i64 (wrap64 (t106 + 1))] 28 (0, 0))) ∧ Aside0 (w'.heap[gb102]? = some (.cells #[(.slice none 0 0), .int .i64 0] 28 (0, 0))) ∧ Aside0 (Below w.heap.size w w'))
  case atStart => exact ⟨(0), (t103), (.slice Ao15 t103.length co15), qa18, H', ⟨Nat.le_refl _⟩, ⟨by (with_reducible repeat (first | apply Kd.N_alloc | apply Kd.N_drewN | apply Kd.N_drew)); exact Kd.N_mono (Kd.N_far (p := ⟨gb101, 1, none⟩) (Kd.N_far (p := ⟨gb101, 1, none⟩) (Kd.N_far (p := ⟨gb101, 0, none⟩) (Kd.N_mono HO105.out (fun k_ hk => (⟨hk, hk.2.1⟩ : _ ∧ k_ ≠ gb101))) (fun _ hk => hk.2) (.slice Ao15 t103.length co15)) (fun _ hk => hk.2) (.int .i64 t106)) (fun _ hk => hk.2) (.int .i64 (wrap64 (t106 + 1)))) (fun _ hk => ⟨hk.1.1, ⟨hk.1.2.1, hk.1.2.2⟩⟩)⟩, ⟨by (with_reducible repeat (first | refine q73kN ?_ _ | refine q73kD ?_ | refine q73kA ?_ _)); refine blk_put (cs := #[.slice Ao15 t103.length co15, .int .i64 t106]) ?_ 1 _ rfl; (with_reducible repeat (first | refine q73kN ?_ _ | refine q73kD ?_ | refine q73kA ?_ _)); refine blk_put (cs := #[.slice Ao15 t103.length co15, .int .i64 a0_1]) ?_ 1 _ rfl; (with_reducible repeat (first | refine q73kN ?_ _ | refine q73kD ?_ | refine q73kA ?_ _)); refine blk_put (cs := #[.slice A0_0 l0_0.length c0_0, .int .i64 a0_1]) ?_ 0 _ rfl; (with_reducible repeat (first | refine q73kN ?_ _ | refine q73kD ?_ | refine q73kA ?_ _)); exact BK101.out⟩, ⟨by (with_reducible repeat (first | refine q73kN ?_ _ | refine q73kD ?_ | refine q73kA ?_ _)); refine blk_far ?_ NB102_101.out _; (with_reducible repeat (first | refine q73kN ?_ _ | refine q73kD ?_ | refine q73kA ?_ _)); refine blk_far ?_ NB102_101.out _; (with_reducible repeat (first | refine q73kN ?_ _ | refine q73kD ?_ | refine q73kA ?_ _)); refine blk_far ?_ NB102_101.out _; (with_reducible repeat (first | refine q73kN ?_ _ | refine q73kD ?_ | refine q73kA ?_ _)); exact BK102.out⟩, ⟨qa6⟩⟩
  case round =>
   clear H'
   try clear c1
   try clear p2
   try clear c3
   try clear c3b0
   try clear c3b1
   try clear c3b2
   try clear c6
   try clear p6
   try clear c7
   try clear c12
   try clear hcz13_0
   try clear hcz13_1
   try clear hcz16_0
   try clear hcz16_1
   try clear hcz7_0
   try clear hcz7_1
   try clear hcz8_0
   try clear hcz8_1
   try clear hfz13_0
   try clear hfz13_1
   try clear hfz16_0
   try clear hfz16_1
   try clear hfz7_0
   try clear hfz7_1
   try clear hfz8_0
   try clear hfz8_1
   obtain ⟨x5_1, x102000_1, u102000, rfl, HA, HK1, HO_102000, BK101, BK102, HB⟩ := hrel
   cases gk with
   | zero => exact absurd HA.out (by simp [spec_l06Write.l0])
   | succ k1 =>
    have H := HA.out; clear HA; simp only [spec_l06Write.l0] at H
    by_cases c17 : x5_1 < (l1.length : Int)
    ·rw [if_pos c17] at H
     have c17b0 : decide (x5_1 < (l1.length : Int)) = true := decide_eq_true c17; clear c17
     by_cases c18 : 0 ≤ x5_1
     ·rw [if_pos c18] at H
      have c18b0 : decide (0 ≤ x5_1) = true := decide_eq_true c18; clear c18
      by_cases c19 : 0 ≤ ((rd_T58 l1 x5_1).f0)
      ·rw [if_pos c19] at H
       have c19b0 : decide (0 ≤ ((rd_T58 l1 x5_1).f0)) = true := decide_eq_true c19; clear c19
       by_cases c20 : ((rd_T58 l1 x5_1).f0) < (x102000_1.length : Int)
       ·rw [if_pos c20] at H
        have c20b0 : decide (((rd_T58 l1 x5_1).f0) < (x102000_1.length : Int)) = true := decide_eq_true c20; clear c20
        by_cases c21 : ((rd_L4 x102000_1 ((rd_T58 l1 x5_1).f0)).length : Int) > 0
        ·rw [if_pos c21] at H
         have c21b0 : decide (0 < ((rd_L4 x102000_1 ((rd_T58 l1 x5_1).f0)).length : Int)) = true := decide_eq_true c21; have c21b1 : decide (0 < (rd_L4 x102000_1 ((rd_T58 l1 x5_1).f0)).length) = true := decide_eq_true qa34; clear c21; obtain ⟨ji22, hji22⟩ : ∃ j_ : Int, (wrap64 (((rd_L4 x102000_1 ((rd_T58 l1 x5_1).f0)).length : Int) - 1)) = j_ := ⟨_, rfl⟩; replace H : (if 0 ≤ (ji22) then (if (ji22) < ((rd_L4 x102000_1 ((rd_T58 l1 x5_1).f0)).length : Int) then (if ((rd_T43 (rd_L4 x102000_1 ((rd_T58 l1 x5_1).f0)) (ji22)).f0) = (wrap64 (t106 + 1)) then (if (ji22) ≤ ((rd_L4 x102000_1 ((rd_T58 l1 x5_1).f0)).length : Int) then ((some ((rd_L4 x102000_1 ((rd_T58 l1 x5_1).f0)).take ((ji22) : Int).toNat : List (S43))).bind fun y110 => ((some (([] : List (S43)) : List (S43))).bind fun y116 => (if y116.length + y110.length < 8796093022208 then ((some (y116 ++ y110 : List (S43))).bind fun y119 => ((some (([(⟨(wrap64 (t106 + 1)), (rd_T58 l1 x5_1).f1⟩ : S43)] : List (S43)) : List (S43))).bind fun y123 => (if y119.length + y123.length < 8796093022208 then (spec_l06Write.l0 k1 l1 (wrap64 (x5_1 + 1)) (x102000_1.set (((rd_T58 l1 x5_1).f0) : Int).toNat (y119 ++ y123)) (wrap64 (t106 + 1))) else (none)))) else (none)))) else (none)) else ((some (([] : List (S43)) : List (S43))).bind fun y131 => (if y131.length + (rd_L4 x102000_1 ((rd_T58 l1 x5_1).f0)).length < 8796093022208 then ((some (y131 ++ (rd_L4 x102000_1 ((rd_T58 l1 x5_1).f0)) : List (S43))).bind fun y134 => ((some (([(⟨(wrap64 (t106 + 1)), (rd_T58 l1 x5_1).f1⟩ : S43)] : List (S43)) : List (S43))).bind fun y138 => (if y134.length + y138.length < 8796093022208 then (spec_l06Write.l0 k1 l1 (wrap64 (x5_1 + 1)) (x102000_1.set (((rd_T58 l1 x5_1).f0) : Int).toNat (y134 ++ y138)) (wrap64 (t106 + 1))) else (none)))) else (none)))) else (none)) else (none)) = some (r1, r2) := by first | (rw [hji22] at H; exact H) | (simp only [hji22] at H ⊢; exact H)
         have hji22w : (IntKind.i64.wrap (((rd_L4 x102000_1 ((rd_T58 l1 x5_1).f0)).length : Int) - 1)) = ji22 := (i64_w _).trans hji22
         by_cases c23 : 0 ≤ (ji22)
         ·rw [if_pos c23] at H
          have c23b0 : decide (0 ≤ (ji22)) = true := decide_eq_true c23; clear c23
          by_cases c24 : (ji22) < ((rd_L4 x102000_1 ((rd_T58 l1 x5_1).f0)).length : Int)
          ·rw [if_pos c24] at H
           have c24b0 : decide ((ji22) < ((rd_L4 x102000_1 ((rd_T58 l1 x5_1).f0)).length : Int)) = true := decide_eq_true c24; clear c24
           by_cases c25 : ((rd_T43 (rd_L4 x102000_1 ((rd_T58 l1 x5_1).f0)) (ji22)).f0) = (wrap64 (t106 + 1))
           ·rw [if_pos c25] at H
            have c25b0 : (((rd_T43 (rd_L4 x102000_1 ((rd_T58 l1 x5_1).f0)) (ji22)).f0) == (wrap64 (t106 + 1))) = true := beq_iff_eq.mpr c25; have c25b1 : (((rd_T43 (rd_L4 x102000_1 ((rd_T58 l1 x5_1).f0)) (ji22)).f0) != (wrap64 (t106 + 1))) = false := bne_eq_false_iff_eq.mpr c25; clear c25; have c26b0 := eq_true (q73T qa150 : 0 ≤ (ji22))
            by_cases c27 : (ji22) ≤ ((rd_L4 x102000_1 ((rd_T58 l1 x5_1).f0)).length : Int)
            ·rw [if_pos c27] at H
             have c27b0 := eq_true c27; have c27b1 : decide ((ji22) ≤ ((rd_L4 x102000_1 ((rd_T58 l1 x5_1).f0)).length : Int)) = true := decide_eq_true c27; clear c27; obtain ⟨y110, hy110⟩ : ∃ y_ : List (S43), y_ = ((rd_L4 x102000_1 ((rd_T58 l1 x5_1).f0)).take ((ji22) : Int).toNat) := ⟨_, rfl⟩; replace H : ((some (([] : List (S43)) : List (S43))).bind fun y116 => (if y116.length + y110.length < 8796093022208 then ((some (y116 ++ y110 : List (S43))).bind fun y119 => ((some (([(⟨(wrap64 (t106 + 1)), (rd_T58 l1 x5_1).f1⟩ : S43)] : List (S43)) : List (S43))).bind fun y123 => (if y119.length + y123.length < 8796093022208 then (spec_l06Write.l0 k1 l1 (wrap64 (x5_1 + 1)) (x102000_1.set (((rd_T58 l1 x5_1).f0) : Int).toNat (y119 ++ y123)) (wrap64 (t106 + 1))) else (none)))) else (none))) = some (r1, r2) := by first | (rw [hy110]; with_reducible exact H) | (have H2_ := (Option.bind_some _ _).symm.trans H; rw [hy110]; with_reducible exact H2_) | (have H2_ := (Option.bind_some _ _).symm.trans H; with_reducible exact H2_) | with_reducible exact H | (rw [hy110]; exact H) | exact H
             have Ny110 := q73O hy110; clear hy110; obtain ⟨y116, hy116⟩ : ∃ y_ : List (S43), y_ = (([] : List (S43))) := ⟨_, rfl⟩; replace H : (if y116.length + y110.length < 8796093022208 then ((some (y116 ++ y110 : List (S43))).bind fun y119 => ((some (([(⟨(wrap64 (t106 + 1)), (rd_T58 l1 x5_1).f1⟩ : S43)] : List (S43)) : List (S43))).bind fun y123 => (if y119.length + y123.length < 8796093022208 then (spec_l06Write.l0 k1 l1 (wrap64 (x5_1 + 1)) (x102000_1.set (((rd_T58 l1 x5_1).f0) : Int).toNat (y119 ++ y123)) (wrap64 (t106 + 1))) else (none)))) else (none)) = some (r1, r2) := by first | (rw [hy116]; with_reducible exact H) | (have H2_ := (Option.bind_some _ _).symm.trans H; rw [hy116]; with_reducible exact H2_) | (have H2_ := (Option.bind_some _ _).symm.trans H; with_reducible exact H2_) | with_reducible exact H | (rw [hy116]; exact H) | exact H
             have Ny116 := q73O hy116; clear hy116
             by_cases c28 : y116.length + y110.length < 8796093022208
             ·rw [if_pos c28] at H
              have LMc28 := q73O c28; clear c28; obtain ⟨y119, hy119⟩ : ∃ y_ : List (S43), y_ = (y116 ++ y110) := ⟨_, rfl⟩; replace H : ((some (([(⟨(wrap64 (t106 + 1)), (rd_T58 l1 x5_1).f1⟩ : S43)] : List (S43)) : List (S43))).bind fun y123 => (if y119.length + y123.length < 8796093022208 then (spec_l06Write.l0 k1 l1 (wrap64 (x5_1 + 1)) (x102000_1.set (((rd_T58 l1 x5_1).f0) : Int).toNat (y119 ++ y123)) (wrap64 (t106 + 1))) else (none))) = some (r1, r2) := by first | (rw [hy119]; with_reducible exact H) | (have H2_ := (Option.bind_some _ _).symm.trans H; rw [hy119]; with_reducible exact H2_) | (have H2_ := (Option.bind_some _ _).symm.trans H; with_reducible exact H2_) | with_reducible exact H | (rw [hy119]; exact H) | exact H
              have Ny119 := q73O hy119; clear hy119; obtain ⟨y123, hy123⟩ : ∃ y_ : List (S43), y_ = (([(⟨(wrap64 (t106 + 1)), (rd_T58 l1 x5_1).f1⟩ : S43)] : List (S43))) := ⟨_, rfl⟩; replace H : (if y119.length + y123.length < 8796093022208 then (spec_l06Write.l0 k1 l1 (wrap64 (x5_1 + 1)) (x102000_1.set (((rd_T58 l1 x5_1).f0) : Int).toNat (y119 ++ y123)) (wrap64 (t106 + 1))) else (none)) = some (r1, r2) := by first | (rw [hy123]; with_reducible exact H) | (have H2_ := (Option.bind_some _ _).symm.trans H; rw [hy123]; with_reducible exact H2_) | (have H2_ := (Option.bind_some _ _).symm.trans H; with_reducible exact H2_) | with_reducible exact H | (rw [hy123]; exact H) | exact H
              have Ny123 := q73O hy123; clear hy123
              by_cases c29 : y119.length + y123.length < 8796093022208
              ·rw [if_pos c29] at H
               have LMc29 := q73O c29; clear c29; obtain ⟨y126, hy126⟩ : ∃ y_ : List (S43), y_ = (y119 ++ y123) := ⟨_, rfl⟩; replace H : (spec_l06Write.l0 k1 l1 (wrap64 (x5_1 + 1)) (x102000_1.set (((rd_T58 l1 x5_1).f0) : Int).toNat y126) (wrap64 (t106 + 1))) = some (r1, r2) := by first | (rw [hy126]; with_reducible exact H) | (have H2_ := (Option.bind_some _ _).symm.trans H; rw [hy126]; with_reducible exact H2_) | (have H2_ := (Option.bind_some _ _).symm.trans H; with_reducible exact H2_) | with_reducible exact H | (rw [hy126]; exact H) | exact H
               have Ny126 := q73O hy126; clear hy126; obtain ⟨y129, hy129⟩ : ∃ y_ : List (List (S43)), y_ = (x102000_1.set (((rd_T58 l1 x5_1).f0) : Int).toNat y126) := ⟨_, rfl⟩; replace H : (spec_l06Write.l0 k1 l1 (wrap64 (x5_1 + 1)) y129 (wrap64 (t106 + 1))) = some (r1, r2) := by first | (rw [hy129]; with_reducible exact H) | (have H2_ := (Option.bind_some _ _).symm.trans H; rw [hy129]; with_reducible exact H2_) | (have H2_ := (Option.bind_some _ _).symm.trans H; with_reducible exact H2_) | with_reducible exact H | (rw [hy129]; exact H) | exact H
               have Ny129 := q73O hy129; clear hy129; have H' := q73O H; clear H
               try go_wp2
               replace HO_102000 := q73O (Kd.N_drew HO_102000.out); replace BK101 := q73O (q73kD BK101.out); replace BK102 := q73O (q73kD BK102.out); replace HB := q73O (q73bD HB.out); have p107 : 0 ≤ (x5_1 : Int) := q73T qa150; have q107 : x5_1 < (l1.length : Int) := q73T qa150; obtain ⟨ad107, e107, hx107_0, hx107_1⟩ := at_T58 HR1.out x5_1 p107 q107; have hw107_1 := hx107_1; have hw107_0 := hx107_0
               cases e107
               replace hx107_0 := (HB.out.cell (q73L w _ hx107_0)).trans hx107_0; replace hx107_1 := (HB.out.cell (q73L w _ hx107_1)).trans hx107_1; replace p107 := eq_true p107; replace q107 := eq_true q107; obtain ⟨Ao32, co32, eo32⟩ := Kd.N_slice HO_102000.out; (first | subst eo32 | (injection eo32 with f1_ f2_ f3_; have f4_ := f1_.symm; have f5_ := f3_.symm; clear f1_ f2_ f3_; subst f4_; subst f5_)); have p108 : 0 ≤ (((rd_T58 l1 x5_1).f0) : Int) := q73T qa150; have q108 : ((rd_T58 l1 x5_1).f0) < (x102000_1.length : Int) := q73T qa150; obtain ⟨ad108, A108_0, c108_0, e108, hx108_0, hl108_0, hi108_0⟩ := at_L4 (Kd.N_reads' HO_102000.out).2.2 ((rd_T58 l1 x5_1).f0) p108 q108
               cases e108
               obtain ⟨ce108, hce108, hMe108, hcc108⟩ := Kd.N_get HO_102000.out [] ((rd_T58 l1 x5_1).f0) p108 qa174; obtain ⟨ua108_0, uc108_0, rfl, ul108_0, ge108_0⟩ := Kd.FK_slice_open hMe108; have hv108_0 := hcc108 0 _ rfl; rw [Nat.add_zero, show ((Kd.slice 43 k43)).sz = 1 from rfl, Nat.mul_one] at hv108_0; replace hv108_0 := Option.some.inj (hv108_0.symm.trans hx108_0); injection hv108_0 with hva_ hvn_ hvc_; rw [hva_] at ge108_0; rw [hvc_] at ul108_0; have HL108_0 := q73O (show Kd.V k43 43 _ w.heap.size _ _ (rd_L4 x102000_1 ((rd_T58 l1 x5_1).f0)) from Kd.V_mk ul108_0 ge108_0); clear hva_ hvn_ hvc_ ge108_0 ul108_0 hcc108 hce108; have HR108_0 := q73O hi108_0; have HC108_0 := q73O hl108_0; clear hi108_0 hl108_0; replace p108 := eq_true p108; replace q108 := eq_true q108; refine start_ (n := 10) (S := fun w' => w'.cell? ⟨gb101, 0, none⟩ = some (.slice (some ad108) x102000_1.length co32) ∧ w'.cell? ⟨gb101, 1, none⟩ = some (.int .i64 (wrap64 (t106 + 1))) ∧ w'.cell? (ad107.add ((x5_1).toNat * 2)) = some (.int .i64 ((rd_T58 l1 x5_1).f0)) ∧ w'.cell? ⟨(ad107.add ((x5_1).toNat * 2)).block, (ad107.add ((x5_1).toNat * 2)).off + 1, none⟩ = some (.int .i64 ((rd_T58 l1 x5_1).f1)) ∧ w'.cell? (ad108.add (((rd_T58 l1 x5_1).f0)).toNat) = some (.slice A108_0 (rd_L4 x102000_1 ((rd_T58 l1 x5_1).f0)).length c108_0)) (ds := []) q73y0 qa7 rfl rfl ⟨qc0 BK101.out, qc1 BK101.out, ((HB.out.cell (q73L w _ hw107_0)).trans hw107_0), ((HB.out.cell (q73L w _ hw107_1)).trans hw107_1), hx108_0⟩ (fun hHeld => ?_); refine with_tabW spec_l06Write.tab8 spec_l06Write.bits8 (fun HT_ HW_ => ?_); generalize wr.drew = w31 at HO_102000 BK101 BK102 HB HL108_0 HR108_0 hx107_0 hx107_1 hx108_0 hHeld ⊢; refine pure_ (i := 0) (N := some 23) (v := ?_) (a' := ?_) q73y1 rfl rfl (any_of HT_.out qa7) (fun _ _ _ h => h) (Or.inl ⟨by rfl, ?_⟩) ?_ ?_; rotate_left
               ·intro w'
                go_simp; (with_reducible rfl)
               rotate_left
               ·simp only [Act.put, q73zA, q73zB, q73zC, i64_w, i32_w]
                rfl
               refine pure_ (i := 2) (N := some 25) (v := ?_) (a' := ?_) q73y2 rfl rfl (any_of HT_.out qa7) (fun _ _ _ h => h) (Or.inl ⟨by rfl, ?_⟩) ?_ ?_; rotate_left
               ·intro w'
                go_simp; (with_reducible rfl)
               rotate_left
               ·simp only [Act.put, q73zA, q73zB, q73zC, i64_w, i32_w]
                rfl
               refine pure_ (i := 3) (N := some 26) (v := ?_) (a' := ?_) q73y3 rfl rfl (any_of HT_.out qa7) (fun _ _ _ h => h) (Or.inl ⟨by rfl, ?_⟩) ?_ ?_; rotate_left
               ·intro w'
                go_simp; (with_reducible rfl)
               rotate_left
               ·simp only [Act.put, q73zA, q73zB, q73zC, i64_w, i32_w]
                rfl
               refine pure_ (i := 4) (N := some 27) (v := ?_) (a' := ?_) q73y4 rfl rfl (any_of HT_.out qa7) (fun _ _ _ h => h) (Or.inl ⟨by rfl, ?_⟩) ?_ ?_; rotate_left
               ·intro w'
                go_simp; (with_reducible rfl)
               rotate_left
               ·simp only [Act.put, q73zA, q73zB, q73zC, i64_w, i32_w]
                rfl
               refine pure_ (i := 5) (N := some 28) (v := ?_) (a' := ?_) q73y5 rfl rfl (any_of HT_.out qa7) (fun _ _ _ h => h) (Or.inl ⟨by rfl, ?_⟩) ?_ ?_; rotate_left
               ·intro w'
                go_simp; (with_reducible rfl)
               rotate_left
               ·simp only [Act.put, q73zA, q73zB, q73zC, i64_w, i32_w]
                rfl
               refine take_ (i := 1) (N := some 24) (v := ?_) (a' := ?_) q73y6 rfl rfl (take_ofW HT_.out HW_.out qa7) (fun _ _ _ h => h) (Or.inl ⟨by rfl, ?_⟩) hHeld ?_ ?_; rotate_left
               ·rintro w' ⟨s0, s1, s2, s3, s4⟩
                go_simp; (with_reducible rfl)
               rotate_left
               ·simp only [Act.put, q73zA, q73zB, q73zC, i64_w, i32_w]
                rfl
               refine take_ (i := 6) (N := some 29) (v := ?_) (a' := ?_) q73y7 rfl rfl (take_ofW HT_.out HW_.out qa7) (fun _ _ _ h => h) (Or.inl ⟨by rfl, ?_⟩) hHeld ?_ ?_; rotate_left
               ·rintro w' ⟨s0, s1, s2, s3, s4⟩
                go_simp; (with_reducible rfl)
               rotate_left
               ·simp only [Act.put, q73zA, q73zB, q73zC, i64_w, i32_w]
                rfl
               refine pure_ (i := 7) (N := some 30) (v := ?_) (a' := ?_) q73y8 rfl rfl (any_of HT_.out qa7) (fun _ _ _ h => h) (Or.inl ⟨by rfl, ?_⟩) ?_ ?_; rotate_left
               ·intro w'
                go_simp; (with_reducible rfl)
               rotate_left
               ·simp only [Act.put, q73zA, q73zB, q73zC, i64_w, i32_w]
                rfl
               refine take_ (i := 8) (N := some 31) (v := ?_) (a' := ?_) q73y9 rfl rfl (take_ofW HT_.out HW_.out qa7) (fun _ _ _ h => h) (Or.inl ⟨by rfl, ?_⟩) hHeld ?_ ?_; rotate_left
               ·rintro w' ⟨s0, s1, s2, s3, s4⟩
                go_simp; (with_reducible rfl)
               rotate_left
               ·simp only [Act.put, q73zA, q73zB, q73zC, i64_w, i32_w]
                rfl
               refine pure_ (i := 9) (N := some 6) (v := ?_) (a' := ?_) q73y10 rfl rfl (any_of HT_.out qa7) (fun _ _ _ h => h) (Or.inl ⟨by rfl, ?_⟩) ?_ ?_; rotate_left
               ·intro w'
                go_simp; (with_reducible rfl)
               rotate_left
               ·simp only [Act.put, q73zA, q73zB, q73zC, i64_w, i32_w]
                rfl
               refine done_ (done_of HT_.out qa7) ?_
               try go_wp2
               replace HO_102000 := q73O (Kd.N_drew HO_102000.out); replace HL108_0 := q73O (Kd.V_drew HL108_0.out); replace BK101 := q73O (q73kD BK101.out); replace BK102 := q73O (q73kD BK102.out); replace HR108_0 := q73O (Kd.C_drew HR108_0.out); replace HB := q73O (q73bD HB.out); have p109 : 0 ≤ ((ji22) : Int) := q73T qa150; have q109 : (ji22) < ((rd_L4 x102000_1 ((rd_T58 l1 x5_1).f0)).length : Int) := q73T qa150; obtain ⟨ad109, e109, hx109_0, hx109_1⟩ := at_T43 qa33 (ji22) p109 q109
               cases e109
               replace p109 := eq_true p109; replace q109 := eq_true q109; refine start_ (n := 15) (S := fun w' => w'.cell? ⟨gb101, 0, none⟩ = some (.slice (some ad108) x102000_1.length co32) ∧ w'.cell? ⟨gb101, 1, none⟩ = some (.int .i64 (wrap64 (t106 + 1))) ∧ w'.cell? (ad109.add (((ji22)).toNat * 2)) = some (.int .i64 ((rd_T43 (rd_L4 x102000_1 ((rd_T58 l1 x5_1).f0)) (ji22)).f0)) ∧ w'.cell? ⟨(ad109.add (((ji22)).toNat * 2)).block, (ad109.add (((ji22)).toNat * 2)).off + 1, none⟩ = some (.int .i64 ((rd_T43 (rd_L4 x102000_1 ((rd_T58 l1 x5_1).f0)) (ji22)).f1))) (ds := []) q73y11 qa7 rfl rfl ⟨qc0 BK101.out, qc1 BK101.out, hx109_0, hx109_1⟩ (fun hHeld => ?_); refine with_tabW spec_l06Write.tab9 spec_l06Write.bits9 (fun HT_ HW_ => ?_); generalize w31.drew = w33 at HO_102000 HL108_0 BK101 BK102 HR108_0 HB hx109_0 hx109_1 hHeld ⊢; refine pure_ (i := 0) (N := some 32) (v := ?_) (a' := ?_) q73y12 rfl rfl (any_of HT_.out qa7) (fun _ _ _ h => h) (Or.inl ⟨by rfl, ?_⟩) ?_ ?_; rotate_left
               ·intro w'
                go_simp; (with_reducible rfl)
               rotate_left
               ·simp only [Act.put, q73zA, q73zB, q73zC, i64_w, i32_w]
                rfl
               refine pure_ (i := 1) (N := some 33) (v := ?_) (a' := ?_) q73y13 rfl rfl (any_of HT_.out qa7) (fun _ _ _ h => h) (Or.inl ⟨by rfl, ?_⟩) ?_ ?_; rotate_left
               ·intro w'
                go_simp; (with_reducible rfl)
               rotate_left
               ·simp only [Act.put, q73zA, q73zB, q73zC, i64_w, i32_w]
                rfl
               refine pure_ (i := 2) (N := some 34) (v := ?_) (a' := ?_) q73y14 rfl rfl (any_of HT_.out qa7) (fun _ _ _ h => h) (Or.inl ⟨by rfl, ?_⟩) ?_ ?_; rotate_left
               ·intro w'
                go_simp; (with_reducible rfl)
               rotate_left
               ·simp only [Act.put, q73zA, q73zB, q73zC, i64_w, i32_w]
                rfl
               refine pure_ (i := 3) (N := some 35) (v := ?_) (a' := ?_) q73y15 rfl rfl (any_of HT_.out qa7) (fun _ _ _ h => h) (Or.inl ⟨by rfl, ?_⟩) ?_ ?_; rotate_left
               ·intro w'
                go_simp; (with_reducible rfl)
               rotate_left
               ·simp only [Act.put, q73zA, q73zB, q73zC, i64_w, i32_w]
                rfl
               refine pure_ (i := 4) (N := some 36) (v := ?_) (a' := ?_) q73y16 rfl rfl (any_of HT_.out qa7) (fun _ _ _ h => h) (Or.inl ⟨by rfl, ?_⟩) ?_ ?_; rotate_left
               ·intro w'
                go_simp; (with_reducible rfl)
               rotate_left
               ·simp only [Act.put, q73zA, q73zB, q73zC, i64_w, i32_w]
                rfl
               refine pure_ (i := 5) (N := some 37) (v := ?_) (a' := ?_) q73y17 rfl rfl (any_of HT_.out qa7) (fun _ _ _ h => h) (Or.inl ⟨by rfl, ?_⟩) ?_ ?_; rotate_left
               ·intro w'
                go_simp; (with_reducible rfl)
               rotate_left
               ·simp only [Act.put, q73zA, q73zB, q73zC, i64_w, i32_w]
                rfl
               refine pure_ (i := 6) (N := some 38) (v := ?_) (a' := ?_) q73y18 rfl rfl (any_of HT_.out qa7) (fun _ _ _ h => h) (Or.inl ⟨by rfl, ?_⟩) ?_ ?_; rotate_left
               ·intro w'
                go_simp; (with_reducible rfl)
               rotate_left
               ·simp only [Act.put, q73zA, q73zB, q73zC, i64_w, i32_w]
                rfl
               refine pure_ (i := 7) (N := some 39) (v := ?_) (a' := ?_) q73y19 rfl rfl (any_of HT_.out qa7) (fun _ _ _ h => h) (Or.inl ⟨by rfl, ?_⟩) ?_ ?_; rotate_left
               ·intro w'
                go_simp; (with_reducible rfl)
               rotate_left
               ·simp only [Act.put, q73zA, q73zB, q73zC, i64_w, i32_w]
                rfl
               refine pure_ (i := 8) (N := some 40) (v := ?_) (a' := ?_) q73y20 rfl rfl (any_of HT_.out qa7) (fun _ _ _ h => h) (Or.inl ⟨by rfl, ?_⟩) ?_ ?_; rotate_left
               ·intro w'
                go_simp; (with_reducible rfl)
               rotate_left
               ·simp only [Act.put, q73zA, q73zB, q73zC, i64_w, i32_w]
                rfl
               refine pure_ (i := 9) (N := some 41) (v := ?_) (a' := ?_) q73y21 rfl rfl (any_of HT_.out qa7) (fun _ _ _ h => h) (Or.inl ⟨by rfl, ?_⟩) ?_ ?_; rotate_left
               ·intro w'
                go_simp; (with_reducible rfl)
               rotate_left
               ·simp only [Act.put, q73zA, q73zB, q73zC, i64_w, i32_w]
                rfl
               refine pure_ (i := 11) (N := some 43) (v := ?_) (a' := ?_) q73y22 rfl rfl (any_of HT_.out qa7) (fun _ _ _ h => h) (Or.inl ⟨by rfl, ?_⟩) ?_ ?_; rotate_left
               ·intro w'
                go_simp; (with_reducible rfl)
               rotate_left
               ·simp only [Act.put, q73zA, q73zB, q73zC, i64_w, i32_w]
                rfl
               refine take_ (i := 10) (N := some 42) (v := ?_) (a' := ?_) q73y23 rfl rfl (take_ofW HT_.out HW_.out qa7) (fun _ _ _ h => h) (Or.inl ⟨by rfl, ?_⟩) hHeld ?_ ?_; rotate_left
               ·rintro w' ⟨s0, s1, s2, s3⟩
                go_simp; (with_reducible rfl)
               rotate_left
               ·simp only [Act.put, q73zA, q73zB, q73zC, i64_w, i32_w]
                rfl
               refine take_ (i := 12) (N := some 44) (v := ?_) (a' := ?_) q73y24 rfl rfl (take_ofW HT_.out HW_.out qa7) (fun _ _ _ h => h) (Or.inl ⟨by rfl, ?_⟩) hHeld ?_ ?_; rotate_left
               ·rintro w' ⟨s0, s1, s2, s3⟩
                go_simp; (with_reducible rfl)
               rotate_left
               ·simp only [Act.put, q73zA, q73zB, q73zC, i64_w, i32_w]
                rfl
               refine pure_ (i := 13) (N := some 45) (v := ?_) (a' := ?_) q73y25 rfl rfl (any_of HT_.out qa7) (fun _ _ _ h => h) (Or.inl ⟨by rfl, ?_⟩) ?_ ?_; rotate_left
               ·intro w'
                go_simp; (with_reducible rfl)
               rotate_left
               ·simp only [Act.put, q73zA, q73zB, q73zC, i64_w, i32_w]
                rfl
               refine pure_ (i := 14) (N := some 46) (v := ?_) (a' := ?_) q73y26 rfl rfl (any_of HT_.out qa7) (fun _ _ _ h => h) (Or.inl ⟨by rfl, ?_⟩) ?_ ?_; rotate_left
               ·intro w'
                go_simp; (with_reducible rfl)
               rotate_left
               ·simp only [Act.put, q73zA, q73zB, q73zC, i64_w, i32_w]
                rfl
               refine done_ (done_of HT_.out qa7) ?_; have q34 : ((ji22) : Int) ≤ (((rd_L4 x102000_1 ((rd_T58 l1 x5_1).f0)).length : Int) : Int) := q73T qa150; obtain ⟨i034, hi034, _, hsz34, _⟩ := info_parts info43; have hroom34 : (rd_L4 x102000_1 ((rd_T58 l1 x5_1).f0)).length ≤ c108_0 := HC108_0.out; have hC34 : Kd.F k43 _ _ (some ad109) (rd_L4 x102000_1 ((rd_T58 l1 x5_1).f0)).length (rd_L4 x102000_1 ((rd_T58 l1 x5_1).f0)) := (Kd.V_at (base := w.heap.size) HL108_0.out).2.2; have hcut34 := cut_to (P := Try.prog) 41 43 .i64 Try.underlying41 hi034 (some ad109) (rd_L4 x102000_1 ((rd_T58 l1 x5_1).f0)).length c108_0 (ji22) (q73T qa150) q34 hroom34; have hr34 := Kd.F_take (m := ((ji22) : Int).toNat) hC34 qa34; have hy34 : y110.length = ((ji22) : Int).toNat := (by rw [Ny110.out, List.length_take]; omega); rw [← Ny110.out] at hr34; rw [← hy34] at hcut34; have HO114 := q73O (show Kd.V k43 43 _ w.heap.size _ (.slice (some ad109) y110.length c108_0) y110 from Kd.V_mk qa34 hr34); have HC114 := q73O (show y110.length ≤ c108_0 from by omega); clear hr34 hC34 hroom34 hi034 hsz34; have KY34 := q73O hy34; clear hy34; replace q34 := eq_true q34
               try go_wp2
               replace HO_102000 := q73O (Kd.N_drew HO_102000.out); replace HL108_0 := q73O (Kd.V_drew HL108_0.out); replace HO114 := q73O (Kd.V_drew HO114.out); replace BK101 := q73O (q73kD BK101.out); replace BK102 := q73O (q73kD BK102.out); replace HR108_0 := q73O (Kd.C_drew HR108_0.out); replace HB := q73O (q73bD HB.out); have p115 : 0 ≤ (x5_1 : Int) := q73T qa150; have q115 : x5_1 < (l1.length : Int) := q73T qa150; obtain ⟨ad115, e115, hx115_0, hx115_1⟩ := at_T58 HR1.out x5_1 p115 q115; have hw115_1 := hx115_1; have hw115_0 := hx115_0; obtain rfl : ad107 = ad115 := (by injection e115); replace hx115_0 := (HB.out.cell (q73L w _ hx115_0)).trans hx115_0; replace hx115_1 := (HB.out.cell (q73L w _ hx115_1)).trans hx115_1; replace p115 := eq_true p115; replace q115 := eq_true q115; have p122 : 0 ≤ (x5_1 : Int) := q73T qa150; have q122 : x5_1 < (l1.length : Int) := q73T qa150; obtain ⟨ad122, e122, hx122_0, hx122_1⟩ := at_T58 HR1.out x5_1 p122 q122; have hw122_1 := hx122_1; have hw122_0 := hx122_0; obtain rfl : ad107 = ad122 := (by injection e122); replace hx122_0 := (HB.out.cell (q73L w _ hx122_0)).trans hx122_0; replace hx122_1 := (HB.out.cell (q73L w _ hx122_1)).trans hx122_1; replace p122 := eq_true p122; replace q122 := eq_true q122; refine start_ (n := 22) (S := fun w' => w'.cell? ⟨gb101, 0, none⟩ = some (.slice (some ad108) x102000_1.length co32) ∧ w'.cell? ⟨gb101, 1, none⟩ = some (.int .i64 (wrap64 (t106 + 1))) ∧ w'.cell? (ad107.add ((x5_1).toNat * 2)) = some (.int .i64 ((rd_T58 l1 x5_1).f0)) ∧ w'.cell? ⟨(ad107.add ((x5_1).toNat * 2)).block, (ad107.add ((x5_1).toNat * 2)).off + 1, none⟩ = some (.int .i64 ((rd_T58 l1 x5_1).f1)) ∧ w'.cell? (ad107.add ((x5_1).toNat * 2)) = some (.int .i64 ((rd_T58 l1 x5_1).f0)) ∧ w'.cell? ⟨(ad107.add ((x5_1).toNat * 2)).block, (ad107.add ((x5_1).toNat * 2)).off + 1, none⟩ = some (.int .i64 ((rd_T58 l1 x5_1).f1))) (ds := [21]) q73y27 qa7 rfl rfl ⟨qc0 BK101.out, qc1 BK101.out, ((HB.out.cell (q73L w _ hw115_0)).trans hw115_0), ((HB.out.cell (q73L w _ hw115_1)).trans hw115_1), ((HB.out.cell (q73L w _ hw122_0)).trans hw122_0), ((HB.out.cell (q73L w _ hw122_1)).trans hw122_1)⟩ (fun hHeld => ?_); refine with_tabW spec_l06Write.tab11 spec_l06Write.bits11 (fun HT_ HW_ => ?_); generalize w33.drew = w35 at HO_102000 HL108_0 HO114 BK101 BK102 HR108_0 HB hx115_0 hx115_1 hx122_0 hx122_1 hHeld ⊢; refine pure_ (i := 0) (N := some 52) (v := ?_) (a' := ?_) q73y28 rfl rfl (any_of HT_.out qa7) (fun _ _ _ h => h) (Or.inl ⟨by rfl, ?_⟩) ?_ ?_; rotate_left
               ·intro w'
                go_simp; (with_reducible rfl)
               rotate_left
               ·simp only [Act.put, q73zA, q73zB, q73zC, i64_w, i32_w]
                rfl
               refine pure_ (i := 2) (N := some 54) (v := ?_) (a' := ?_) q73y29 rfl rfl (any_of HT_.out qa7) (fun _ _ _ h => h) (Or.inl ⟨by rfl, ?_⟩) ?_ ?_; rotate_left
               ·intro w'
                go_simp; (with_reducible rfl)
               rotate_left
               ·simp only [Act.put, q73zA, q73zB, q73zC, i64_w, i32_w]
                rfl
               refine pure_ (i := 3) (N := some 55) (v := ?_) (a' := ?_) q73y30 rfl rfl (any_of HT_.out qa7) (fun _ _ _ h => h) (Or.inl ⟨by rfl, ?_⟩) ?_ ?_; rotate_left
               ·intro w'
                go_simp; (with_reducible rfl)
               rotate_left
               ·simp only [Act.put, q73zA, q73zB, q73zC, i64_w, i32_w]
                rfl
               refine pure_ (i := 4) (N := some 56) (v := ?_) (a' := ?_) q73y31 rfl rfl (any_of HT_.out qa7) (fun _ _ _ h => h) (Or.inl ⟨by rfl, ?_⟩) ?_ ?_; rotate_left
               ·intro w'
                go_simp; (with_reducible rfl)
               rotate_left
               ·simp only [Act.put, q73zA, q73zB, q73zC, i64_w, i32_w]
                rfl
               refine pure_ (i := 5) (N := some 57) (v := ?_) (a' := ?_) q73y32 rfl rfl (any_of HT_.out qa7) (fun _ _ _ h => h) (Or.inl ⟨by rfl, ?_⟩) ?_ ?_; rotate_left
               ·intro w'
                go_simp; (with_reducible rfl)
               rotate_left
               ·simp only [Act.put, q73zA, q73zB, q73zC, i64_w, i32_w]
                rfl
               refine pure_ (i := 8) (N := some 60) (v := ?_) (a' := ?_) q73y33 rfl rfl (any_of HT_.out qa7) (fun _ _ _ h => h) (Or.inl ⟨by rfl, ?_⟩) ?_ ?_; rotate_left
               ·intro w'
                go_simp; (with_reducible rfl)
               rotate_left
               ·simp only [Act.put, q73zA, q73zB, q73zC, i64_w, i32_w]
                rfl
               refine pure_ (i := 10) (N := some 62) (v := ?_) (a' := ?_) q73y34 rfl rfl (any_of HT_.out qa7) (fun _ _ _ h => h) (Or.inl ⟨by rfl, ?_⟩) ?_ ?_; rotate_left
               ·intro w'
                go_simp; (with_reducible rfl)
               rotate_left
               ·simp only [Act.put, q73zA, q73zB, q73zC, i64_w, i32_w]
                rfl
               refine pure_ (i := 12) (N := some 64) (v := ?_) (a' := ?_) q73y35 rfl rfl (any_of HT_.out qa7) (fun _ _ _ h => h) (Or.inl ⟨by rfl, ?_⟩) ?_ ?_; rotate_left
               ·intro w'
                go_simp; (with_reducible rfl)
               rotate_left
               ·simp only [Act.put, q73zA, q73zB, q73zC, i64_w, i32_w]
                rfl
               refine pure_ (i := 13) (N := some 65) (v := ?_) (a' := ?_) q73y36 rfl rfl (any_of HT_.out qa7) (fun _ _ _ h => h) (Or.inl ⟨by rfl, ?_⟩) ?_ ?_; rotate_left
               ·intro w'
                go_simp; (with_reducible rfl)
               rotate_left
               ·simp only [Act.put, q73zA, q73zB, q73zC, i64_w, i32_w]
                rfl
               refine pure_ (i := 14) (N := some 66) (v := ?_) (a' := ?_) q73y37 rfl rfl (any_of HT_.out qa7) (fun _ _ _ h => h) (Or.inl ⟨by rfl, ?_⟩) ?_ ?_; rotate_left
               ·intro w'
                go_simp; (with_reducible rfl)
               rotate_left
               ·simp only [Act.put, q73zA, q73zB, q73zC, i64_w, i32_w]
                rfl
               refine pure_ (i := 15) (N := some 67) (v := ?_) (a' := ?_) q73y38 rfl rfl (any_of HT_.out qa7) (fun _ _ _ h => h) (Or.inl ⟨by rfl, ?_⟩) ?_ ?_; rotate_left
               ·intro w'
                go_simp; (with_reducible rfl)
               rotate_left
               ·simp only [Act.put, q73zA, q73zB, q73zC, i64_w, i32_w]
                rfl
               refine take_ (i := 1) (N := some 53) (v := ?_) (a' := ?_) q73y39 rfl rfl (take_ofW HT_.out HW_.out qa7) (fun _ _ _ h => h) (Or.inl ⟨by rfl, ?_⟩) hHeld ?_ ?_; rotate_left
               ·rintro w' ⟨s0, s1, s2, s3, s4, s5⟩
                go_simp; (with_reducible rfl)
               rotate_left
               ·simp only [Act.put, q73zA, q73zB, q73zC, i64_w, i32_w]
                rfl
               refine take_ (i := 6) (N := some 58) (v := ?_) (a' := ?_) q73y40 rfl rfl (take_ofW HT_.out HW_.out qa7) (fun _ _ _ h => h) (Or.inl ⟨by rfl, ?_⟩) hHeld ?_ ?_; rotate_left
               ·rintro w' ⟨s0, s1, s2, s3, s4, s5⟩
                go_simp; (with_reducible rfl)
               rotate_left
               ·simp only [Act.put, q73zA, q73zB, q73zC, i64_w, i32_w]
                rfl
               refine take_ (i := 11) (N := some 63) (v := ?_) (a' := ?_) q73y41 rfl rfl (take_ofW HT_.out HW_.out qa7) (fun _ _ _ h => h) (Or.inl ⟨by rfl, ?_⟩) hHeld ?_ ?_; rotate_left
               ·rintro w' ⟨s0, s1, s2, s3, s4, s5⟩
                go_simp; (with_reducible rfl)
               rotate_left
               ·simp only [Act.put, q73zA, q73zB, q73zC, i64_w, i32_w]
                rfl
               refine take_ (i := 16) (N := some 68) (v := ?_) (a' := ?_) q73y42 rfl rfl (take_ofW HT_.out HW_.out qa7) (fun _ _ _ h => h) (Or.inl ⟨by rfl, ?_⟩) hHeld ?_ ?_; rotate_left
               ·rintro w' ⟨s0, s1, s2, s3, s4, s5⟩
                go_simp; (with_reducible rfl)
               rotate_left
               ·simp only [Act.put, q73zA, q73zB, q73zC, i64_w, i32_w]
                rfl
               refine pure_ (i := 17) (N := some 69) (v := ?_) (a' := ?_) q73y43 rfl rfl (any_of HT_.out qa7) (fun _ _ _ h => h) (Or.inl ⟨by rfl, ?_⟩) ?_ ?_; rotate_left
               ·intro w'
                go_simp; (with_reducible rfl)
               rotate_left
               ·simp only [Act.put, q73zA, q73zB, q73zC, i64_w, i32_w]
                rfl
               refine join_ (σ := Value × Value × Value) 3 q73y44 (fun s_ => [(59, s_.1), (61, s_.2.1), (70, s_.2.2)]) (fun s_ w' => (w'.cell? ⟨gb101, 0, none⟩ = some (.slice (some ad108) x102000_1.length co32) ∧ w'.cell? ⟨gb101, 1, none⟩ = some (.int .i64 (wrap64 (t106 + 1))) ∧ w'.cell? (ad107.add ((x5_1).toNat * 2)) = some (.int .i64 ((rd_T58 l1 x5_1).f0)) ∧ w'.cell? ⟨(ad107.add ((x5_1).toNat * 2)).block, (ad107.add ((x5_1).toNat * 2)).off + 1, none⟩ = some (.int .i64 ((rd_T58 l1 x5_1).f1)) ∧ w'.cell? (ad107.add ((x5_1).toNat * 2)) = some (.int .i64 ((rd_T58 l1 x5_1).f0)) ∧ w'.cell? ⟨(ad107.add ((x5_1).toNat * 2)).block, (ad107.add ((x5_1).toNat * 2)).off + 1, none⟩ = some (.int .i64 ((rd_T58 l1 x5_1).f1))) ∧ (Kd.V k43 43 w' w.heap.size (fun k_ => (P0_0_ k_ ∨ w.heap.size ≤ k_) ∧ some k_ ≠ (s_.2.1 : Value).ownBlock ∧ some k_ ≠ (s_.2.2 : Value).ownBlock ∧ some k_ ≠ (.slice (some ad108) x102000_1.length co32 : Value).ownBlock ∧ k_ ≠ gb101 ∧ k_ ≠ gb102) (.slice (some ad109) (rd_L4 x102000_1 ((rd_T58 l1 x5_1).f0)).length c108_0) (rd_L4 x102000_1 ((rd_T58 l1 x5_1).f0))) ∧ (Kd.V k43 43 w' w.heap.size (fun k_ => (P0_0_ k_ ∨ w.heap.size ≤ k_) ∧ some k_ ≠ (s_.2.1 : Value).ownBlock ∧ some k_ ≠ (s_.2.2 : Value).ownBlock ∧ some k_ ≠ (.slice (some ad108) x102000_1.length co32 : Value).ownBlock ∧ k_ ≠ gb101 ∧ k_ ≠ gb102) (.slice (some ad109) y110.length c108_0) y110) ∧ (Kd.R k43 43 w' w.heap.size (fun k_ => (w.heap.size ≤ k_) ∧ some k_ ≠ (s_.2.2 : Value).ownBlock) s_.2.1 y119) ∧ (Kd.R k43 43 w' w.heap.size (fun k_ => (w.heap.size ≤ k_) ∧ some k_ ≠ (s_.2.1 : Value).ownBlock) s_.2.2 y123) ∧ (Kd.N (Kd.slice 43 k43) 41 w' w.heap.size (fun k_ => (P0_0_ k_ ∨ w.heap.size ≤ k_) ∧ some k_ ≠ (s_.2.1 : Value).ownBlock ∧ some k_ ≠ (s_.2.2 : Value).ownBlock ∧ k_ ≠ gb101 ∧ k_ ≠ gb102) (.slice (some ad108) x102000_1.length co32) x102000_1) ∧ (w'.heap[gb101]? = some (.cells #[.slice (some ad108) x102000_1.length co32, .int .i64 (wrap64 (t106 + 1))] 28 (0, 0))) ∧ (w'.heap[gb102]? = some (.cells #[.slice none 0 0, .int .i64 0] 28 (0, 0))) ∧ (Below w.heap.size w w')) ?_ ?_; rotate_left
               ·intro hCont
                refine two_ (i := 7) (j := 18) (Ni := some 59) (Nj := some 70) q73y45 q73y46 rfl rfl rfl rfl (two_of HT_.out qa7) qa69 qa69 (fun K hK => ?_) (fun K hK => ?_)
                ·skip
                 refine Kd.R_lit_step k43 _ 43 ?hg (N := 59) ?hd (xs := ([] : List (S43))) (inner := []) (ok := fun _ => True) (okp := fun _ => True) ?hr ?hp (fun _ hk => hk) trivial (Below.refl _ _) (Nat.le_refl _) qa120 ?_; (case hd => rfl); (case hg => rfl); (case hr => exact qa16); (case hp => exact qa207); intro v117 w36 ho37 hb hg_ hnew_; clear hg_ hnew_; (first | rw [← Ny116.out] at ho37 | (simp only [Int.reduceToNat] at ho37; rw [← Ny116.out] at ho37)); have HO118 := q73O (Kd.R_lower (Kd.R_newM (M := fun k_ => (w.heap.size ≤ k_)) ho37 (below_size qa6) (fun k_ h_ => h_)) (below_size qa6)); replace HO_102000 := q73O (Kd.N_elder' qa49 (Kd.R_base ho37) hb); replace HL108_0 := q73O (Kd.V_elder' qa58 (Kd.R_base ho37) hb); replace HO114 := q73O (Kd.V_elder' qa146 (Kd.R_base ho37) hb); replace BK101 := q73O (blk_below (g := gb101) (o := .cells #[.slice (some ad108) x102000_1.length co32, .int .i64 (wrap64 (t106 + 1))] 28 (0, 0)) qa24 hb); replace BK102 := q73O (blk_below (g := gb102) (o := .cells #[.slice none 0 0, .int .i64 0] 28 (0, 0)) qa27 hb); replace HR108_0 := q73O (Kd.C_below qa33 hb); replace HB := q73O (below_step qa6 hb); clear hb ho37; refine hK.out _ _ ⟨qc0 BK101.out, qc1 BK101.out, ((HB.out.cell (q73L w _ hw115_0)).trans hw115_0), ((HB.out.cell (q73L w _ hw115_1)).trans hw115_1), ((HB.out.cell (q73L w _ hw122_0)).trans hw122_0), ((HB.out.cell (q73L w _ hw122_1)).trans hw122_1)⟩ (fun hHeld => ?_); clear hK K; refine norm_ (a' := ?_) ?_ ?_; rotate_left
                 ·exact qa28
                 refine two_ (i := 9) (j := 18) (Ni := some 61) (Nj := some 70) q73y47 q73y48 rfl rfl rfl rfl (two_of HT_.out qa7) qa69 qa69 (fun K hK => ?_) (fun K hK => ?_)
                 ·skip
                  refine Kd.R_append_rows_step k43 (w0 := w) w.heap.size (by rfl) (.tmp 59) (.tmp 60) 41 43 (.agg #[(.int .i64 0), (.int .i64 0)]) 16 rfl Try.underlying41 info43 rfl qa69 qa34 v117 y116 y110 _ _ _ (fun k_ => (w.heap.size ≤ k_)) (fun _ => False) rfl rfl ?aO ?aR (fun _ _ h => h) (fun _ h => h.elim) ?aF ?aB ?aS ?aL ?_; (case aR => exact qa162); (case aB => exact qa48); (case aF => exact qa128); (case aO => exact (by (with_reducible repeat (first | apply Kd.R_alloc | apply Kd.R_drewN | apply Kd.R_drew)); exact Kd.R_mono HO118.out (fun _ hk => hk.1))); (case aS => exact qa41); (case aL => have := LMc28.out; omega); intro v120 w38 ho hb hg hat; rw [← Ny119.out] at ho; have n0_ := q73O (Kd.N_afterv (ok := (fun k_ => (P0_0_ k_ ∨ w.heap.size ≤ k_) ∧ k_ ≠ gb101 ∧ k_ ≠ gb102)) qa49 hg hat); have n1_ := q73O (blk_grown (g := gb101) (o := .cells #[.slice (some ad108) x102000_1.length co32, .int .i64 (wrap64 (t106 + 1))] 28 (0, 0)) qa24 hg (Kd.R_ne HO118.out BK101.out qa69)); have n2_ := q73O (blk_grown (g := gb102) (o := .cells #[.slice none 0 0, .int .i64 0] 28 (0, 0)) qa27 hg (Kd.R_ne HO118.out BK102.out qa69)); have n3_ := q73O (Kd.V_afterv (ok := (fun k_ => (P0_0_ k_ ∨ w.heap.size ≤ k_) ∧ some k_ ≠ (.slice (some ad108) x102000_1.length co32 : Value).ownBlock ∧ k_ ≠ gb101 ∧ k_ ≠ gb102)) qa142 hg hat); have n4_ := q73O (Kd.V_afterv (ok := (fun k_ => (P0_0_ k_ ∨ w.heap.size ≤ k_) ∧ some k_ ≠ (.slice (some ad108) x102000_1.length co32 : Value).ownBlock ∧ k_ ≠ gb101 ∧ k_ ≠ gb102)) (by (with_reducible repeat (first | apply Kd.V_alloc | apply Kd.V_drewN | apply Kd.V_drew)); exact Kd.V_mono HO114.out (fun _ hk => ⟨⟨hk.1.1.1, ⟨hk.1.2, ⟨hk.1.1.2.1, hk.1.1.2.2⟩⟩⟩, hk.2⟩)) hg hat); have n5_ := q73O (hb); have n6_ := q73O (ho); clear HO_102000 BK101 BK102 HL108_0 HO114 HB HO118; have HO_102000 := n0_; have BK101 := n1_; have BK102 := n2_; have HL108_0 := n3_; have HO114 := n4_; have HB := n5_; have HO121 := n6_; clear n0_ n1_ n2_ n3_ n4_ n5_ n6_ ho hb hg hat; refine hK.out _ _ ⟨qc0 BK101.out, qc1 BK101.out, ((HB.out.cell (q73L w _ hw115_0)).trans hw115_0), ((HB.out.cell (q73L w _ hw115_1)).trans hw115_1), ((HB.out.cell (q73L w _ hw122_0)).trans hw122_0), ((HB.out.cell (q73L w _ hw122_1)).trans hw122_1)⟩ (fun hHeld => ?_); clear hK K; refine norm_ (a' := ?_) ?_ ?_; rotate_left
                  ·exact qa28
                  refine one_ (i := 18) (N := some 70) q73y44 rfl rfl (one_of HT_.out qa7) qa69 (fun K hK => ?_); refine Kd.R_lit_step k43 _ 43 ?hg (N := 70) ?hd (xs := ([(⟨(wrap64 (t106 + 1)), (rd_T58 l1 x5_1).f1⟩ : S43)] : List (S43))) (inner := [.int .i64 (wrap64 (t106 + 1)), .int .i64 ((rd_T58 l1 x5_1).f1)]) (ok := fun _ => True) (okp := fun _ => True) ?hr ?hp (fun _ hk => hk) trivial (Below.refl _ _) (Nat.le_refl _) qa120 ?_; (case hd => rfl); (case hg => rfl); (case hr => exact qa16); (case hp => exact qa46); intro v124 w39 ho40 hb hg_ hnew_; clear hg_ hnew_; (first | rw [← Ny123.out] at ho40 | (simp only [Int.reduceToNat] at ho40; rw [← Ny123.out] at ho40)); have HO125 := q73O (Kd.R_lower (Kd.R_new' (Kd.R_newM (M := fun k_ => (w.heap.size ≤ k_)) ho40 (below_size qa6) (fun k_ h_ => h_)) (Kd.R_lt qa195)) (below_size qa6)); replace HO_102000 := q73O (Kd.N_elder' qa49 (Kd.R_base ho40) hb); replace HL108_0 := q73O (Kd.V_elder' qa58 (Kd.R_base ho40) hb); replace HO114 := q73O (Kd.V_elder' qa146 (Kd.R_base ho40) hb); replace HO121 := q73O (Kd.R_elder' qa195 (Kd.R_base ho40) hb); replace BK101 := q73O (blk_below (g := gb101) (o := .cells #[.slice (some ad108) x102000_1.length co32, .int .i64 (wrap64 (t106 + 1))] 28 (0, 0)) qa24 hb); replace BK102 := q73O (blk_below (g := gb102) (o := .cells #[.slice none 0 0, .int .i64 0] 28 (0, 0)) qa27 hb); replace HB := q73O (below_step qa6 hb); clear hb ho40; refine hK.out _ _ ⟨qc0 BK101.out, qc1 BK101.out, ((HB.out.cell (q73L w _ hw115_0)).trans hw115_0), ((HB.out.cell (q73L w _ hw115_1)).trans hw115_1), ((HB.out.cell (q73L w _ hw122_0)).trans hw122_0), ((HB.out.cell (q73L w _ hw122_1)).trans hw122_1)⟩ (fun hHeld => ?_); clear hK K; refine norm_ (a' := ?_) ?_ ?_; rotate_left
                  ·exact qa28
                  exact norm_ (by simp only [putAll, Act.put, q73zA, q73zB, q73zC]) (hCont (v117, v120, v124) _ ⟨hHeld, (by (with_reducible repeat (first | apply Kd.V_alloc | apply Kd.V_drewN | apply Kd.V_drew)); exact Kd.V_mono HL108_0.out (fun _ hk => ⟨hk.1.1.1, ⟨hk.1.2, ⟨hk.2, ⟨hk.1.1.2.1, ⟨hk.1.1.2.2.1, hk.1.1.2.2.2⟩⟩⟩⟩⟩)), (by (with_reducible repeat (first | apply Kd.V_alloc | apply Kd.V_drewN | apply Kd.V_drew)); exact Kd.V_mono HO114.out (fun _ hk => ⟨hk.1.1.1, ⟨hk.1.2, ⟨hk.2, ⟨hk.1.1.2.1, ⟨hk.1.1.2.2.1, hk.1.1.2.2.2⟩⟩⟩⟩⟩)), (by (with_reducible repeat (first | apply Kd.R_alloc | apply Kd.R_drewN | apply Kd.R_drew)); exact HO121.out), (by (with_reducible repeat (first | apply Kd.R_alloc | apply Kd.R_drewN | apply Kd.R_drew)); exact Kd.R_mono HO125.out (fun _ hk => ⟨hk.1.1, hk.2⟩)), (by (with_reducible repeat (first | apply Kd.N_alloc | apply Kd.N_drewN | apply Kd.N_drew)); exact Kd.N_mono HO_102000.out (fun _ hk => ⟨hk.1.1.1, ⟨hk.1.2, ⟨hk.2, ⟨hk.1.1.2.1, hk.1.1.2.2⟩⟩⟩⟩)), (by (with_reducible repeat (first | refine q73kN ?_ _ | refine q73kD ?_ | refine q73kA ?_ _)); exact BK101.out), (by (with_reducible repeat (first | refine q73kN ?_ _ | refine q73kD ?_ | refine q73kA ?_ _)); exact BK102.out), (by repeat (first | (with_reducible first | exact HB.out | apply q73bA | apply q73bN | apply q73bD | refine q73bS ?_ GE101.out | refine q73bS ?_ GE102.out) | exact HB.out))⟩)
                 ·skip
                  refine Kd.R_lit_step k43 _ 43 ?hg (N := 70) ?hd (xs := ([(⟨(wrap64 (t106 + 1)), (rd_T58 l1 x5_1).f1⟩ : S43)] : List (S43))) (inner := [.int .i64 (wrap64 (t106 + 1)), .int .i64 ((rd_T58 l1 x5_1).f1)]) (ok := fun _ => True) (okp := fun _ => True) ?hr ?hp (fun _ hk => hk) trivial (Below.refl _ _) (Nat.le_refl _) qa120 ?_; (case hd => rfl); (case hg => rfl); (case hr => exact qa16); (case hp => exact qa46); intro v124 w38 ho39 hb hg_ hnew_; clear hg_ hnew_; (first | rw [← Ny123.out] at ho39 | (simp only [Int.reduceToNat] at ho39; rw [← Ny123.out] at ho39)); have HO125 := q73O (Kd.R_lower (Kd.R_new' (Kd.R_newM (M := fun k_ => (w.heap.size ≤ k_)) ho39 (below_size qa6) (fun k_ h_ => h_)) (Kd.R_lt qa196)) (below_size qa6)); replace HO_102000 := q73O (Kd.N_elder' qa49 (Kd.R_base ho39) hb); replace HL108_0 := q73O (Kd.V_elder' qa58 (Kd.R_base ho39) hb); replace HO114 := q73O (Kd.V_elder' qa146 (Kd.R_base ho39) hb); replace HO118 := q73O (Kd.R_elder' qa196 (Kd.R_base ho39) hb); replace BK101 := q73O (blk_below (g := gb101) (o := .cells #[.slice (some ad108) x102000_1.length co32, .int .i64 (wrap64 (t106 + 1))] 28 (0, 0)) qa24 hb); replace BK102 := q73O (blk_below (g := gb102) (o := .cells #[.slice none 0 0, .int .i64 0] 28 (0, 0)) qa27 hb); replace HR108_0 := q73O (Kd.C_below qa33 hb); replace HB := q73O (below_step qa6 hb); clear hb ho39; refine hK.out _ _ ⟨qc0 BK101.out, qc1 BK101.out, ((HB.out.cell (q73L w _ hw115_0)).trans hw115_0), ((HB.out.cell (q73L w _ hw115_1)).trans hw115_1), ((HB.out.cell (q73L w _ hw122_0)).trans hw122_0), ((HB.out.cell (q73L w _ hw122_1)).trans hw122_1)⟩ (fun hHeld => ?_); clear hK K; refine norm_ (a' := ?_) ?_ ?_; rotate_left
                  ·exact qa28
                  refine one_ (i := 9) (N := some 61) q73y44 rfl rfl (one_of HT_.out qa7) qa69 (fun K hK => ?_); refine Kd.R_append_rows_step k43 (w0 := w) w.heap.size (by rfl) (.tmp 59) (.tmp 60) 41 43 (.agg #[(.int .i64 0), (.int .i64 0)]) 16 rfl Try.underlying41 info43 rfl qa69 qa34 v117 y116 y110 _ _ _ (fun k_ => (w.heap.size ≤ k_) ∧ some k_ ≠ (v124 : Value).ownBlock) (fun _ => False) rfl rfl ?aO ?aR (fun _ _ h => h) (fun _ h => h.elim) ?aF ?aB ?aS ?aL ?_; (case aR => exact qa162); (case aB => exact qa48); (case aF => exact qa90); (case aO => exact qa176); (case aS => exact qa41); (case aL => have := LMc28.out; omega); intro v120 w40 ho hb hg hat; rw [← Ny119.out] at ho; have n0_ := q73O (Kd.N_afterv (ok := (fun k_ => (P0_0_ k_ ∨ w.heap.size ≤ k_) ∧ some k_ ≠ (v124 : Value).ownBlock ∧ k_ ≠ gb101 ∧ k_ ≠ gb102)) qa139 hg hat); have n1_ := q73O (blk_grown (g := gb101) (o := .cells #[.slice (some ad108) x102000_1.length co32, .int .i64 (wrap64 (t106 + 1))] 28 (0, 0)) qa24 hg (Kd.R_ne HO118.out BK101.out qa69)); have n2_ := q73O (blk_grown (g := gb102) (o := .cells #[.slice none 0 0, .int .i64 0] 28 (0, 0)) qa27 hg (Kd.R_ne HO118.out BK102.out qa69)); have n3_ := q73O (Kd.V_afterv (ok := (fun k_ => (P0_0_ k_ ∨ w.heap.size ≤ k_) ∧ some k_ ≠ (.slice (some ad108) x102000_1.length co32 : Value).ownBlock ∧ some k_ ≠ (v124 : Value).ownBlock ∧ k_ ≠ gb101 ∧ k_ ≠ gb102)) qa130 hg hat); have n4_ := q73O (Kd.V_afterv (ok := (fun k_ => (P0_0_ k_ ∨ w.heap.size ≤ k_) ∧ some k_ ≠ (.slice (some ad108) x102000_1.length co32 : Value).ownBlock ∧ some k_ ≠ (v124 : Value).ownBlock ∧ k_ ≠ gb101 ∧ k_ ≠ gb102)) (by (with_reducible repeat (first | apply Kd.V_alloc | apply Kd.V_drewN | apply Kd.V_drew)); exact Kd.V_mono HO114.out (fun _ hk => ⟨⟨hk.1.1.1.1, ⟨hk.1.1.2, ⟨hk.2, ⟨hk.1.1.1.2.1, hk.1.1.1.2.2⟩⟩⟩⟩, hk.1.2⟩)) hg hat); have n5_ := q73O (Kd.R_after (ok := (fun k_ => (w.heap.size ≤ k_))) qa177 hg hat); have n6_ := q73O (hb); have n7_ := q73O (ho); clear HO_102000 BK101 BK102 HL108_0 HO114 HO125 HB HO118; have HO_102000 := n0_; have BK101 := n1_; have BK102 := n2_; have HL108_0 := n3_; have HO114 := n4_; have HO125 := n5_; have HB := n6_; have HO121 := n7_; clear n0_ n1_ n2_ n3_ n4_ n5_ n6_ n7_ ho hb hg hat; refine hK.out _ _ ⟨qc0 BK101.out, qc1 BK101.out, ((HB.out.cell (q73L w _ hw115_0)).trans hw115_0), ((HB.out.cell (q73L w _ hw115_1)).trans hw115_1), ((HB.out.cell (q73L w _ hw122_0)).trans hw122_0), ((HB.out.cell (q73L w _ hw122_1)).trans hw122_1)⟩ (fun hHeld => ?_); clear hK K; refine norm_ (a' := ?_) ?_ ?_; rotate_left
                  ·exact qa28
                  exact norm_ (by simp only [putAll, Act.put, q73zA, q73zB, q73zC]) (hCont (v117, v120, v124) _ ⟨hHeld, (by (with_reducible repeat (first | apply Kd.V_alloc | apply Kd.V_drewN | apply Kd.V_drew)); exact Kd.V_mono HL108_0.out (fun _ hk => ⟨hk.1.1, ⟨hk.2, ⟨hk.1.2.2.1, ⟨hk.1.2.1, ⟨hk.1.2.2.2.1, hk.1.2.2.2.2⟩⟩⟩⟩⟩)), (by (with_reducible repeat (first | apply Kd.V_alloc | apply Kd.V_drewN | apply Kd.V_drew)); exact Kd.V_mono HO114.out (fun _ hk => ⟨hk.1.1, ⟨hk.2, ⟨hk.1.2.2.1, ⟨hk.1.2.1, ⟨hk.1.2.2.2.1, hk.1.2.2.2.2⟩⟩⟩⟩⟩)), (by (with_reducible repeat (first | apply Kd.R_alloc | apply Kd.R_drewN | apply Kd.R_drew)); exact HO121.out), (by (with_reducible repeat (first | apply Kd.R_alloc | apply Kd.R_drewN | apply Kd.R_drew)); exact HO125.out), (by (with_reducible repeat (first | apply Kd.N_alloc | apply Kd.N_drewN | apply Kd.N_drew)); exact Kd.N_mono HO_102000.out (fun _ hk => ⟨hk.1.1, ⟨hk.2, ⟨hk.1.2.1, ⟨hk.1.2.2.1, hk.1.2.2.2⟩⟩⟩⟩)), (by (with_reducible repeat (first | refine q73kN ?_ _ | refine q73kD ?_ | refine q73kA ?_ _)); exact BK101.out), (by (with_reducible repeat (first | refine q73kN ?_ _ | refine q73kD ?_ | refine q73kA ?_ _)); exact BK102.out), (by repeat (first | (with_reducible first | exact HB.out | apply q73bA | apply q73bN | apply q73bD | refine q73bS ?_ GE101.out | refine q73bS ?_ GE102.out) | exact HB.out))⟩)
                ·skip
                 refine Kd.R_lit_step k43 _ 43 ?hg (N := 70) ?hd (xs := ([(⟨(wrap64 (t106 + 1)), (rd_T58 l1 x5_1).f1⟩ : S43)] : List (S43))) (inner := [.int .i64 (wrap64 (t106 + 1)), .int .i64 ((rd_T58 l1 x5_1).f1)]) (ok := fun _ => True) (okp := fun _ => True) ?hr ?hp (fun _ hk => hk) trivial (Below.refl _ _) (Nat.le_refl _) qa120 ?_; (case hd => rfl); (case hg => rfl); (case hr => exact qa16); (case hp => exact qa46); intro v124 w36 ho37 hb hg_ hnew_; clear hg_ hnew_; (first | rw [← Ny123.out] at ho37 | (simp only [Int.reduceToNat] at ho37; rw [← Ny123.out] at ho37)); have HO125 := q73O (Kd.R_lower (Kd.R_newM (M := fun k_ => (w.heap.size ≤ k_)) ho37 (below_size qa6) (fun k_ h_ => h_)) (below_size qa6)); replace HO_102000 := q73O (Kd.N_elder' qa49 (Kd.R_base ho37) hb); replace HL108_0 := q73O (Kd.V_elder' qa58 (Kd.R_base ho37) hb); replace HO114 := q73O (Kd.V_elder' qa146 (Kd.R_base ho37) hb); replace BK101 := q73O (blk_below (g := gb101) (o := .cells #[.slice (some ad108) x102000_1.length co32, .int .i64 (wrap64 (t106 + 1))] 28 (0, 0)) qa24 hb); replace BK102 := q73O (blk_below (g := gb102) (o := .cells #[.slice none 0 0, .int .i64 0] 28 (0, 0)) qa27 hb); replace HR108_0 := q73O (Kd.C_below qa33 hb); replace HB := q73O (below_step qa6 hb); clear hb ho37; refine hK.out _ _ ⟨qc0 BK101.out, qc1 BK101.out, ((HB.out.cell (q73L w _ hw115_0)).trans hw115_0), ((HB.out.cell (q73L w _ hw115_1)).trans hw115_1), ((HB.out.cell (q73L w _ hw122_0)).trans hw122_0), ((HB.out.cell (q73L w _ hw122_1)).trans hw122_1)⟩ (fun hHeld => ?_); clear hK K; refine norm_ (a' := ?_) ?_ ?_; rotate_left
                 ·exact qa28
                 refine one_ (i := 7) (N := some 59) q73y48 rfl rfl (one_of HT_.out qa7) qa69 (fun K hK => ?_); refine Kd.R_lit_step k43 _ 43 ?hg (N := 59) ?hd (xs := ([] : List (S43))) (inner := []) (ok := fun _ => True) (okp := fun _ => True) ?hr ?hp (fun _ hk => hk) trivial (Below.refl _ _) (Nat.le_refl _) qa120 ?_; (case hd => rfl); (case hg => rfl); (case hr => exact qa16); (case hp => exact qa207); intro v117 w38 ho39 hb hg_ hnew_; clear hg_ hnew_; (first | rw [← Ny116.out] at ho39 | (simp only [Int.reduceToNat] at ho39; rw [← Ny116.out] at ho39)); have HO118 := q73O (Kd.R_lower (Kd.R_new' (Kd.R_newM (M := fun k_ => (w.heap.size ≤ k_)) ho39 (below_size qa6) (fun k_ h_ => h_)) (Kd.R_lt qa171)) (below_size qa6)); replace HO_102000 := q73O (Kd.N_elder' qa49 (Kd.R_base ho39) hb); replace HL108_0 := q73O (Kd.V_elder' qa58 (Kd.R_base ho39) hb); replace HO114 := q73O (Kd.V_elder' qa146 (Kd.R_base ho39) hb); replace HO125 := q73O (Kd.R_elder' qa171 (Kd.R_base ho39) hb); replace BK101 := q73O (blk_below (g := gb101) (o := .cells #[.slice (some ad108) x102000_1.length co32, .int .i64 (wrap64 (t106 + 1))] 28 (0, 0)) qa24 hb); replace BK102 := q73O (blk_below (g := gb102) (o := .cells #[.slice none 0 0, .int .i64 0] 28 (0, 0)) qa27 hb); replace HR108_0 := q73O (Kd.C_below qa33 hb); replace HB := q73O (below_step qa6 hb); clear hb ho39; refine hK.out _ _ ⟨qc0 BK101.out, qc1 BK101.out, ((HB.out.cell (q73L w _ hw115_0)).trans hw115_0), ((HB.out.cell (q73L w _ hw115_1)).trans hw115_1), ((HB.out.cell (q73L w _ hw122_0)).trans hw122_0), ((HB.out.cell (q73L w _ hw122_1)).trans hw122_1)⟩ (fun hHeld => ?_); clear hK K; refine norm_ (a' := ?_) ?_ ?_; rotate_left
                 ·exact qa28
                 refine one_ (i := 9) (N := some 61) q73y44 rfl rfl (one_of HT_.out qa7) qa69 (fun K hK => ?_); refine Kd.R_append_rows_step k43 (w0 := w) w.heap.size (by rfl) (.tmp 59) (.tmp 60) 41 43 (.agg #[(.int .i64 0), (.int .i64 0)]) 16 rfl Try.underlying41 info43 rfl qa69 qa34 v117 y116 y110 _ _ _ (fun k_ => (w.heap.size ≤ k_) ∧ some k_ ≠ (v124 : Value).ownBlock) (fun _ => False) rfl rfl ?aO ?aR (fun _ _ h => h) (fun _ h => h.elim) ?aF ?aB ?aS ?aL ?_; (case aR => exact qa162); (case aB => exact qa48); (case aF => exact qa90); (case aO => exact qa176); (case aS => exact qa41); (case aL => have := LMc28.out; omega); intro v120 w40 ho hb hg hat; rw [← Ny119.out] at ho; have n0_ := q73O (Kd.N_afterv (ok := (fun k_ => (P0_0_ k_ ∨ w.heap.size ≤ k_) ∧ some k_ ≠ (v124 : Value).ownBlock ∧ k_ ≠ gb101 ∧ k_ ≠ gb102)) qa140 hg hat); have n1_ := q73O (blk_grown (g := gb101) (o := .cells #[.slice (some ad108) x102000_1.length co32, .int .i64 (wrap64 (t106 + 1))] 28 (0, 0)) qa24 hg (Kd.R_ne HO118.out BK101.out qa69)); have n2_ := q73O (blk_grown (g := gb102) (o := .cells #[.slice none 0 0, .int .i64 0] 28 (0, 0)) qa27 hg (Kd.R_ne HO118.out BK102.out qa69)); have n3_ := q73O (Kd.V_afterv (ok := (fun k_ => (P0_0_ k_ ∨ w.heap.size ≤ k_) ∧ some k_ ≠ (.slice (some ad108) x102000_1.length co32 : Value).ownBlock ∧ some k_ ≠ (v124 : Value).ownBlock ∧ k_ ≠ gb101 ∧ k_ ≠ gb102)) qa131 hg hat); have n4_ := q73O (Kd.V_afterv (ok := (fun k_ => (P0_0_ k_ ∨ w.heap.size ≤ k_) ∧ some k_ ≠ (.slice (some ad108) x102000_1.length co32 : Value).ownBlock ∧ some k_ ≠ (v124 : Value).ownBlock ∧ k_ ≠ gb101 ∧ k_ ≠ gb102)) (by (with_reducible repeat (first | apply Kd.V_alloc | apply Kd.V_drewN | apply Kd.V_drew)); exact Kd.V_mono HO114.out (fun _ hk => ⟨⟨hk.1.1.1.1, ⟨hk.1.1.2, ⟨hk.1.2, ⟨hk.1.1.1.2.1, hk.1.1.1.2.2⟩⟩⟩⟩, hk.2⟩)) hg hat); have n5_ := q73O (Kd.R_after (ok := (fun k_ => (w.heap.size ≤ k_))) qa177 hg hat); have n6_ := q73O (hb); have n7_ := q73O (ho); clear HO_102000 BK101 BK102 HL108_0 HO114 HO125 HB HO118; have HO_102000 := n0_; have BK101 := n1_; have BK102 := n2_; have HL108_0 := n3_; have HO114 := n4_; have HO125 := n5_; have HB := n6_; have HO121 := n7_; clear n0_ n1_ n2_ n3_ n4_ n5_ n6_ n7_ ho hb hg hat; refine hK.out _ _ ⟨qc0 BK101.out, qc1 BK101.out, ((HB.out.cell (q73L w _ hw115_0)).trans hw115_0), ((HB.out.cell (q73L w _ hw115_1)).trans hw115_1), ((HB.out.cell (q73L w _ hw122_0)).trans hw122_0), ((HB.out.cell (q73L w _ hw122_1)).trans hw122_1)⟩ (fun hHeld => ?_); clear hK K; refine norm_ (a' := ?_) ?_ ?_; rotate_left
                 ·exact qa28
                 exact norm_ (by simp only [putAll, Act.put, q73zA, q73zB, q73zC]) (hCont (v117, v120, v124) _ ⟨hHeld, (by (with_reducible repeat (first | apply Kd.V_alloc | apply Kd.V_drewN | apply Kd.V_drew)); exact Kd.V_mono HL108_0.out (fun _ hk => ⟨hk.1.1, ⟨hk.2, ⟨hk.1.2.2.1, ⟨hk.1.2.1, ⟨hk.1.2.2.2.1, hk.1.2.2.2.2⟩⟩⟩⟩⟩)), (by (with_reducible repeat (first | apply Kd.V_alloc | apply Kd.V_drewN | apply Kd.V_drew)); exact Kd.V_mono HO114.out (fun _ hk => ⟨hk.1.1, ⟨hk.2, ⟨hk.1.2.2.1, ⟨hk.1.2.1, ⟨hk.1.2.2.2.1, hk.1.2.2.2.2⟩⟩⟩⟩⟩)), (by (with_reducible repeat (first | apply Kd.R_alloc | apply Kd.R_drewN | apply Kd.R_drew)); exact HO121.out), (by (with_reducible repeat (first | apply Kd.R_alloc | apply Kd.R_drewN | apply Kd.R_drew)); exact HO125.out), (by (with_reducible repeat (first | apply Kd.N_alloc | apply Kd.N_drewN | apply Kd.N_drew)); exact Kd.N_mono HO_102000.out (fun _ hk => ⟨hk.1.1, ⟨hk.2, ⟨hk.1.2.1, ⟨hk.1.2.2.1, hk.1.2.2.2⟩⟩⟩⟩)), (by (with_reducible repeat (first | refine q73kN ?_ _ | refine q73kD ?_ | refine q73kA ?_ _)); exact BK101.out), (by (with_reducible repeat (first | refine q73kN ?_ _ | refine q73kD ?_ | refine q73kA ?_ _)); exact BK102.out), (by repeat (first | (with_reducible first | exact HB.out | apply q73bA | apply q73bN | apply q73bD | refine q73bS ?_ GE101.out | refine q73bS ?_ GE102.out) | exact HB.out))⟩)
               rintro ⟨v117, v120, v124⟩ w41 ⟨hS_, h0_, h1_, h2_, h3_, h4_, h5_, h6_, h7_⟩; have n0_ : Aside0 (Kd.V k43 43 w41 w.heap.size (fun k_ => (P0_0_ k_ ∨ w.heap.size ≤ k_) ∧ some k_ ≠ (v120 : Value).ownBlock ∧ some k_ ≠ (v124 : Value).ownBlock ∧ some k_ ≠ (.slice (some ad108) x102000_1.length co32 : Value).ownBlock ∧ k_ ≠ gb101 ∧ k_ ≠ gb102) (.slice (some ad109) (rd_L4 x102000_1 ((rd_T58 l1 x5_1).f0)).length c108_0) (rd_L4 x102000_1 ((rd_T58 l1 x5_1).f0))) := ⟨h0_⟩; have n1_ : Aside0 (Kd.V k43 43 w41 w.heap.size (fun k_ => (P0_0_ k_ ∨ w.heap.size ≤ k_) ∧ some k_ ≠ (v120 : Value).ownBlock ∧ some k_ ≠ (v124 : Value).ownBlock ∧ some k_ ≠ (.slice (some ad108) x102000_1.length co32 : Value).ownBlock ∧ k_ ≠ gb101 ∧ k_ ≠ gb102) (.slice (some ad109) y110.length c108_0) y110) := ⟨h1_⟩; have n2_ : Aside0 (Kd.R k43 43 w41 w.heap.size (fun k_ => (w.heap.size ≤ k_) ∧ some k_ ≠ (v124 : Value).ownBlock) v120 y119) := ⟨h2_⟩; have n3_ : Aside0 (Kd.R k43 43 w41 w.heap.size (fun k_ => (w.heap.size ≤ k_) ∧ some k_ ≠ (v120 : Value).ownBlock) v124 y123) := ⟨h3_⟩; have n4_ : Aside0 (Kd.N (Kd.slice 43 k43) 41 w41 w.heap.size (fun k_ => (P0_0_ k_ ∨ w.heap.size ≤ k_) ∧ some k_ ≠ (v120 : Value).ownBlock ∧ some k_ ≠ (v124 : Value).ownBlock ∧ k_ ≠ gb101 ∧ k_ ≠ gb102) (.slice (some ad108) x102000_1.length co32) x102000_1) := ⟨h4_⟩; have n5_ : Aside0 (w41.heap[gb101]? = some (.cells #[.slice (some ad108) x102000_1.length co32, .int .i64 (wrap64 (t106 + 1))] 28 (0, 0))) := ⟨h5_⟩; have n6_ : Aside0 (w41.heap[gb102]? = some (.cells #[.slice none 0 0, .int .i64 0] 28 (0, 0))) := ⟨h6_⟩; have n7_ : Aside0 (Below w.heap.size w w41) := ⟨h7_⟩; clear HO_102000 HL108_0 HO114 BK101 BK102 HR108_0 HB h0_ h1_ h2_ h3_ h4_ h5_ h6_ h7_; have HL108_0 := n0_; have HO114 := n1_; have HO121 := n2_; have HO125 := n3_; have HO_102000 := n4_; have BK101 := n5_; have BK102 := n6_; have HB := n7_; clear n0_ n1_ n2_ n3_ n4_ n5_ n6_ n7_; have hHeld : w41.cell? ⟨gb101, 0, none⟩ = some (.slice (some ad108) x102000_1.length co32) ∧ w41.cell? ⟨gb101, 1, none⟩ = some (.int .i64 (wrap64 (t106 + 1))) ∧ w41.cell? (ad107.add ((x5_1).toNat * 2)) = some (.int .i64 ((rd_T58 l1 x5_1).f0)) ∧ w41.cell? ⟨(ad107.add ((x5_1).toNat * 2)).block, (ad107.add ((x5_1).toNat * 2)).off + 1, none⟩ = some (.int .i64 ((rd_T58 l1 x5_1).f1)) ∧ w41.cell? (ad107.add ((x5_1).toNat * 2)) = some (.int .i64 ((rd_T58 l1 x5_1).f0)) ∧ w41.cell? ⟨(ad107.add ((x5_1).toNat * 2)).block, (ad107.add ((x5_1).toNat * 2)).off + 1, none⟩ = some (.int .i64 ((rd_T58 l1 x5_1).f1)) := hS_; obtain ⟨Ao43, co43, eo43⟩ := Kd.R_slice HO125.out; (first | subst eo43 | (injection eo43 with f1_ f2_ f3_; have f4_ := f1_.symm; have f5_ := f3_.symm; clear f1_ f2_ f3_; subst f4_; subst f5_)); refine norm_ (a' := ?_) ?_ ?_; rotate_left
               ·simp only [putAll, Act.put, q73zA, q73zB, q73zC]
                rfl
               refine one_ (i := 19) (N := some 71) q73y49 rfl rfl (one_of HT_.out qa7) qa69 (fun K hK => ?_); refine Kd.R_append_rows_step k43 (w0 := w) w.heap.size (by rfl) (.tmp 61) (.tmp 70) 41 43 (.agg #[(.int .i64 0), (.int .i64 0)]) 16 rfl Try.underlying41 info43 rfl qa69 qa34 v120 y119 y123 _ _ _ (fun k_ => (w.heap.size ≤ k_) ∧ some k_ ≠ (.slice Ao43 y123.length co43 : Value).ownBlock) (fun _ => False) rfl rfl ?aO ?aR (fun _ _ h => h) (fun _ h => h.elim) ?aF ?aB ?aS ?aL ?_; (case aR => repeat (first | exact (Kd.R_reads' HO125.out).2.2 | with_reducible first | refine Kd.C_alloc ?_ _ | refine Kd.C_drewN ?_ _ | refine Kd.C_drew ?_)); (case aB => exact qa48); (case aF => exact qa90); (case aO => exact (by (with_reducible repeat (first | apply Kd.R_alloc | apply Kd.R_drewN | apply Kd.R_drew)); exact HO121.out)); (case aS => exact qa41); (case aL => have := LMc29.out; omega); intro v127 w42 ho hb hg hat; rw [← Ny126.out] at ho; have n0_ := q73O (Kd.N_afterv (ok := (fun k_ => (P0_0_ k_ ∨ w.heap.size ≤ k_) ∧ some k_ ≠ (.slice Ao43 y123.length co43 : Value).ownBlock ∧ k_ ≠ gb101 ∧ k_ ≠ gb102)) qa141 hg hat); have n1_ := q73O (blk_grown (g := gb101) (o := .cells #[.slice (some ad108) x102000_1.length co32, .int .i64 (wrap64 (t106 + 1))] 28 (0, 0)) qa24 hg (Kd.R_ne HO121.out BK101.out qa69)); have n2_ := q73O (blk_grown (g := gb102) (o := .cells #[.slice none 0 0, .int .i64 0] 28 (0, 0)) qa27 hg (Kd.R_ne HO121.out BK102.out qa69)); have n3_ := q73O (Kd.V_afterv (ok := (fun k_ => (P0_0_ k_ ∨ w.heap.size ≤ k_) ∧ some k_ ≠ (.slice (some ad108) x102000_1.length co32 : Value).ownBlock ∧ some k_ ≠ (.slice Ao43 y123.length co43 : Value).ownBlock ∧ k_ ≠ gb101 ∧ k_ ≠ gb102)) qa132 hg hat); have n4_ := q73O (Kd.V_afterv (ok := (fun k_ => (P0_0_ k_ ∨ w.heap.size ≤ k_) ∧ some k_ ≠ (.slice (some ad108) x102000_1.length co32 : Value).ownBlock ∧ some k_ ≠ (.slice Ao43 y123.length co43 : Value).ownBlock ∧ k_ ≠ gb101 ∧ k_ ≠ gb102)) (by (with_reducible repeat (first | apply Kd.V_alloc | apply Kd.V_drewN | apply Kd.V_drew)); exact Kd.V_mono HO114.out (fun _ hk => ⟨⟨hk.1, ⟨hk.2.2.2.1, ⟨hk.2.2.1, ⟨hk.2.2.2.2.1, hk.2.2.2.2.2⟩⟩⟩⟩, hk.2.1⟩)) hg hat); have n5_ := q73O (Kd.R_after (ok := (fun k_ => (w.heap.size ≤ k_))) qa171 hg hat); have n6_ := q73O (hb); have n7_ := q73O (ho); clear HO_102000 BK101 BK102 HL108_0 HO114 HO125 HB HO121; have HO_102000 := n0_; have BK101 := n1_; have BK102 := n2_; have HL108_0 := n3_; have HO114 := n4_; have HO125 := n5_; have HB := n6_; have HO128 := n7_; clear n0_ n1_ n2_ n3_ n4_ n5_ n6_ n7_; obtain ⟨Av44, cv44, ev44⟩ := Kd.R_slice HO128.out; subst ev44; clear ho hb hg hat; have p30 : 0 ≤ (((rd_T58 l1 x5_1).f0) : Int) := q73T qa150; have q30 : (((rd_T58 l1 x5_1).f0) : Int) < ((x102000_1.length : Int) : Int) := q73T qa150; obtain ⟨go30, co30, eo30, gb30, gl30, cl30, HG30⟩ := Kd.N_form HO_102000.out qa34; (first | cases eo30 | (injection eo30 with ea_ en_ ec_; (first | subst ea_ | (injection ea_ with ea_; subst ea_)); subst ec_; clear en_)); have GB30 := q73O gb30; have GG30 := q73O HG30; clear gb30 gl30 HG30; (first | simp only [add_plain] at hx108_0 | skip); obtain ⟨ce30, hcl30, hM30, hcc30, hfr30⟩ := Kd.N_elem HO_102000.out [] (((rd_T58 l1 x5_1).f0) : Int) p30 q30; obtain ⟨ua30_0, uc30_0, rfl, ul30_0, ge30_0⟩ := Kd.FK_slice_open hM30; have hx30_0 := hcc30 0 _ rfl; have hf30_0 := hfr30 0; (try simp only [show ((Kd.slice 43 k43)).sz = 1 from rfl, Nat.mul_one, Nat.add_zero] at hx30_0); (try simp only [show ((Kd.slice 43 k43)).sz = 1 from rfl, Nat.mul_one, Nat.add_zero] at hf30_0); clear hcl30 hcc30 hfr30; (try clear hM30); replace p30 := eq_true p30; replace q30 := eq_true q30; have HX44 := q73O (show Kd.N (Kd.slice 43 k43) 41 _ w.heap.size (fun k_ => (P0_0_ k_ ∨ w.heap.size ≤ k_) ∧ some k_ ≠ (.slice Ao43 y123.length co43 : Value).ownBlock ∧ some k_ ≠ ((.slice Av44 y126.length cv44) : Value).ownBlock ∧ k_ ≠ gb101 ∧ k_ ≠ gb102) (.slice (some ⟨go30, 0, none⟩) x102000_1.length co32) x102000_1 from (Kd.N_mono (HO_102000.out) (fun k_ hk => ⟨hk.1.1, ⟨hk.1.2.1, ⟨hk.2, ⟨hk.1.2.2.1, hk.1.2.2.2⟩⟩⟩⟩))); replace HX44 := q73O (show Kd.N (Kd.slice 43 k43) 41 _ w.heap.size (fun k_ => (P0_0_ k_ ∨ w.heap.size ≤ k_) ∧ some k_ ≠ (.slice Ao43 y123.length co43 : Value).ownBlock ∧ k_ ≠ gb101 ∧ k_ ≠ gb102) (.slice (some ⟨go30, 0, none⟩) x102000_1.length co32) x102000_1 from Kd.N_mono HX44.out (fun k_ hk => ⟨hk.1, ⟨hk.2.1, ⟨hk.2.2.2.1, hk.2.2.2.2⟩⟩⟩)); obtain ⟨ce44, hcl44, hM44, hcc44, hfr44⟩ := Kd.N_elem HX44.out [] (((rd_T58 l1 x5_1).f0) : Int) (q73T qa150) (by have h_ : (((rd_T58 l1 x5_1).f0) : Int) < ((x102000_1.length : Int) : Int) := q73T qa150; first | exact h_ | (have e_ := (Kd.N_reads' HO_102000.out).1; omega) | simpa using h_); obtain ⟨ua44_0, uc44_0, rfl, ul44_0, ge44_0⟩ := Kd.FK_slice_open hM44; have HP44 := (Kd.N_seg HX44.out (((rd_T58 l1 x5_1).f0) : Int) (q73T qa150) (by have h_ : (((rd_T58 l1 x5_1).f0) : Int) < ((x102000_1.length : Int) : Int) := q73T qa150; first | exact h_ | (have e_ := (Kd.N_reads' HO_102000.out).1; omega) | simpa using h_) (seg := [(.slice Av44 y126.length cv44)]) (j := 0) hcl44 hcc44 (show 1 ≤ 1 from by decide) (x' := y126) (Kd.FK_slice_mk (Kd.R_reads' (Kd.R_mono (ok' := (fun k_ => ((fun k_ => (P0_0_ k_ ∨ w.heap.size ≤ k_) ∧ some k_ ≠ (.slice Ao43 y123.length co43 : Value).ownBlock ∧ k_ ≠ gb101 ∧ k_ ≠ gb102)) k_ ∧ k_ ≠ go30)) (Kd.R_types (Kd.R_types (Kd.R_apart' (HO128.out) (Kd.N_typed HO_102000.out) qa69) BK101.out qa69) BK102.out qa69) (fun k_ hk => ⟨⟨(.inr (hk.1.1.1.1)), ⟨hk.1.1.1.2, ⟨hk.1.2, hk.2⟩⟩⟩, fun e_ => (hk.1.1.2) (by rw [e_]; rfl)⟩))).2.1 (Kd.R_F (Kd.R_mono (ok' := (fun k_ => ((fun k_ => (P0_0_ k_ ∨ w.heap.size ≤ k_) ∧ some k_ ≠ (.slice Ao43 y123.length co43 : Value).ownBlock ∧ k_ ≠ gb101 ∧ k_ ≠ gb102)) k_ ∧ k_ ≠ go30)) (Kd.R_types (Kd.R_types (Kd.R_apart' (HO128.out) (Kd.N_typed HO_102000.out) qa69) BK101.out qa69) BK102.out qa69) (fun k_ hk => ⟨⟨(.inr (hk.1.1.1.1)), ⟨hk.1.1.1.2, ⟨hk.1.2, hk.2⟩⟩⟩, fun e_ => (hk.1.1.2) (by rw [e_]; rfl)⟩)))) (fun _ hk => hk)).1; (try simp only [show ((Kd.slice 43 k43)).sz = 1 from rfl, Nat.mul_one, Nat.add_zero] at HP44); rw [← Ny129.out] at HP44; have HQ44 := q73O HP44; clear hcl44 hcc44 hfr44; (try clear hM44); clear HP44; refine hK.out _ _ ⟨qc0 BK101.out, qc1 BK101.out, ((HB.out.cell (q73L w _ hw115_0)).trans hw115_0), ((HB.out.cell (q73L w _ hw115_1)).trans hw115_1), ((HB.out.cell (q73L w _ hw122_0)).trans hw122_0), ((HB.out.cell (q73L w _ hw122_1)).trans hw122_1)⟩ (fun hHeld => ?_); clear hK K; refine norm_ (a' := ?_) ?_ ?_; rotate_left
               ·exact qa28
               refine pure_ (i := 20) (N := some 72) (v := ?_) (a' := ?_) q73y50 rfl rfl (any_of HT_.out qa7) (fun _ _ _ h => h) (Or.inl ⟨by rfl, ?_⟩) ?_ ?_; rotate_left
               ·intro w'
                go_simp; (with_reducible rfl)
               rotate_left
               ·simp only [Act.put, q73zA, q73zB, q73zC, i64_w, i32_w]
                rfl
               refine last_ (i := 21) (N := none) q73y51 rfl rfl (one_of HT_.out qa7) qa69 (fun K hK => ?_); refine skip_ (w1 := ?_) (by rfl) rfl ?_ ?_; rotate_left
               ·go_simp
                rfl
               refine hK.out _ _ ?_; clear hK K; refine done_ (done_of HT_.out qa7) ?_
               try go_wp2
               go_roundg k1
               case measure => have := HK1.out; omega
               case rel => exact ⟨(wrap64 (x5_1 + 1)), (y129), (.slice (some ⟨go30, 0, none⟩) x102000_1.length co32), qa18, H', ⟨qa164⟩, ⟨by (with_reducible repeat (first | apply Kd.N_alloc | apply Kd.N_drewN | apply Kd.N_drew)); exact Kd.N_mono HQ44.out (fun _ hk => ⟨hk.1, ⟨hk.2.2.1, hk.2.2.2⟩⟩)⟩, ⟨qa95⟩, ⟨qa96⟩, ⟨by repeat (first | (with_reducible first | exact HB.out | apply q73bA | apply q73bN | apply q73bD | refine q73bS ?_ GB30.out | refine q73bS ?_ GE101.out | refine q73bS ?_ GE102.out) | exact HB.out)⟩⟩
              ·rw [if_neg c29] at H
               exact absurd H qa120
             ·rw [if_neg c28] at H
              exact absurd H qa120
            ·rw [if_neg c27] at H
             exact absurd H qa120
           ·rw [if_neg c25] at H
            have c25b0 : (((rd_T43 (rd_L4 x102000_1 ((rd_T58 l1 x5_1).f0)) (ji22)).f0) == (wrap64 (t106 + 1))) = false := beq_eq_false_iff_ne.mpr c25; have c25b1 : (((rd_T43 (rd_L4 x102000_1 ((rd_T58 l1 x5_1).f0)) (ji22)).f0) != (wrap64 (t106 + 1))) = true := bne_iff_ne.mpr c25; obtain ⟨y131, hy131⟩ : ∃ y_ : List (S43), y_ = (([] : List (S43))) := ⟨_, rfl⟩; replace H : (if y131.length + (rd_L4 x102000_1 ((rd_T58 l1 x5_1).f0)).length < 8796093022208 then ((some (y131 ++ (rd_L4 x102000_1 ((rd_T58 l1 x5_1).f0)) : List (S43))).bind fun y134 => ((some (([(⟨(wrap64 (t106 + 1)), (rd_T58 l1 x5_1).f1⟩ : S43)] : List (S43)) : List (S43))).bind fun y138 => (if y134.length + y138.length < 8796093022208 then (spec_l06Write.l0 k1 l1 (wrap64 (x5_1 + 1)) (x102000_1.set (((rd_T58 l1 x5_1).f0) : Int).toNat (y134 ++ y138)) (wrap64 (t106 + 1))) else (none)))) else (none)) = some (r1, r2) := by first | (rw [hy131]; with_reducible exact H) | (have H2_ := (Option.bind_some _ _).symm.trans H; rw [hy131]; with_reducible exact H2_) | (have H2_ := (Option.bind_some _ _).symm.trans H; with_reducible exact H2_) | with_reducible exact H | (rw [hy131]; exact H) | exact H
            have Ny131 := q73O hy131; clear hy131
            by_cases c45 : y131.length + (rd_L4 x102000_1 ((rd_T58 l1 x5_1).f0)).length < 8796093022208
            ·rw [if_pos c45] at H
             have LMc45 := q73O c45; clear c45; obtain ⟨y134, hy134⟩ : ∃ y_ : List (S43), y_ = (y131 ++ (rd_L4 x102000_1 ((rd_T58 l1 x5_1).f0))) := ⟨_, rfl⟩; replace H : ((some (([(⟨(wrap64 (t106 + 1)), (rd_T58 l1 x5_1).f1⟩ : S43)] : List (S43)) : List (S43))).bind fun y138 => (if y134.length + y138.length < 8796093022208 then (spec_l06Write.l0 k1 l1 (wrap64 (x5_1 + 1)) (x102000_1.set (((rd_T58 l1 x5_1).f0) : Int).toNat (y134 ++ y138)) (wrap64 (t106 + 1))) else (none))) = some (r1, r2) := by first | (rw [hy134]; with_reducible exact H) | (have H2_ := (Option.bind_some _ _).symm.trans H; rw [hy134]; with_reducible exact H2_) | (have H2_ := (Option.bind_some _ _).symm.trans H; with_reducible exact H2_) | with_reducible exact H | (rw [hy134]; exact H) | exact H
             have Ny134 := q73O hy134; clear hy134; obtain ⟨y138, hy138⟩ : ∃ y_ : List (S43), y_ = (([(⟨(wrap64 (t106 + 1)), (rd_T58 l1 x5_1).f1⟩ : S43)] : List (S43))) := ⟨_, rfl⟩; replace H : (if y134.length + y138.length < 8796093022208 then (spec_l06Write.l0 k1 l1 (wrap64 (x5_1 + 1)) (x102000_1.set (((rd_T58 l1 x5_1).f0) : Int).toNat (y134 ++ y138)) (wrap64 (t106 + 1))) else (none)) = some (r1, r2) := by first | (rw [hy138]; with_reducible exact H) | (have H2_ := (Option.bind_some _ _).symm.trans H; rw [hy138]; with_reducible exact H2_) | (have H2_ := (Option.bind_some _ _).symm.trans H; with_reducible exact H2_) | with_reducible exact H | (rw [hy138]; exact H) | exact H
             have Ny138 := q73O hy138; clear hy138
             by_cases c46 : y134.length + y138.length < 8796093022208
             ·rw [if_pos c46] at H
              have LMc46 := q73O c46; clear c46; obtain ⟨y141, hy141⟩ : ∃ y_ : List (S43), y_ = (y134 ++ y138) := ⟨_, rfl⟩; replace H : (spec_l06Write.l0 k1 l1 (wrap64 (x5_1 + 1)) (x102000_1.set (((rd_T58 l1 x5_1).f0) : Int).toNat y141) (wrap64 (t106 + 1))) = some (r1, r2) := by first | (rw [hy141]; with_reducible exact H) | (have H2_ := (Option.bind_some _ _).symm.trans H; rw [hy141]; with_reducible exact H2_) | (have H2_ := (Option.bind_some _ _).symm.trans H; with_reducible exact H2_) | with_reducible exact H | (rw [hy141]; exact H) | exact H
              have Ny141 := q73O hy141; clear hy141; obtain ⟨y144, hy144⟩ : ∃ y_ : List (List (S43)), y_ = (x102000_1.set (((rd_T58 l1 x5_1).f0) : Int).toNat y141) := ⟨_, rfl⟩; replace H : (spec_l06Write.l0 k1 l1 (wrap64 (x5_1 + 1)) y144 (wrap64 (t106 + 1))) = some (r1, r2) := by first | (rw [hy144]; with_reducible exact H) | (have H2_ := (Option.bind_some _ _).symm.trans H; rw [hy144]; with_reducible exact H2_) | (have H2_ := (Option.bind_some _ _).symm.trans H; with_reducible exact H2_) | with_reducible exact H | (rw [hy144]; exact H) | exact H
              have Ny144 := q73O hy144; clear hy144; have H' := q73O H; clear H
              try go_wp2
              replace HO_102000 := q73O (Kd.N_drew HO_102000.out); replace BK101 := q73O (q73kD BK101.out); replace BK102 := q73O (q73kD BK102.out); replace HB := q73O (q73bD HB.out); have p107 : 0 ≤ (x5_1 : Int) := q73T qa150; have q107 : x5_1 < (l1.length : Int) := q73T qa150; obtain ⟨ad107, e107, hx107_0, hx107_1⟩ := at_T58 HR1.out x5_1 p107 q107; have hw107_1 := hx107_1; have hw107_0 := hx107_0
              cases e107
              replace hx107_0 := (HB.out.cell (q73L w _ hx107_0)).trans hx107_0; replace hx107_1 := (HB.out.cell (q73L w _ hx107_1)).trans hx107_1; replace p107 := eq_true p107; replace q107 := eq_true q107; obtain ⟨Ao49, co49, eo49⟩ := Kd.N_slice HO_102000.out; (first | subst eo49 | (injection eo49 with f1_ f2_ f3_; have f4_ := f1_.symm; have f5_ := f3_.symm; clear f1_ f2_ f3_; subst f4_; subst f5_)); have p108 : 0 ≤ (((rd_T58 l1 x5_1).f0) : Int) := q73T qa150; have q108 : ((rd_T58 l1 x5_1).f0) < (x102000_1.length : Int) := q73T qa150; obtain ⟨ad108, A108_0, c108_0, e108, hx108_0, hl108_0, hi108_0⟩ := at_L4 (Kd.N_reads' HO_102000.out).2.2 ((rd_T58 l1 x5_1).f0) p108 q108
              cases e108
              obtain ⟨ce108, hce108, hMe108, hcc108⟩ := Kd.N_get HO_102000.out [] ((rd_T58 l1 x5_1).f0) p108 qa174; obtain ⟨ua108_0, uc108_0, rfl, ul108_0, ge108_0⟩ := Kd.FK_slice_open hMe108; have hv108_0 := hcc108 0 _ rfl; rw [Nat.add_zero, show ((Kd.slice 43 k43)).sz = 1 from rfl, Nat.mul_one] at hv108_0; replace hv108_0 := Option.some.inj (hv108_0.symm.trans hx108_0); injection hv108_0 with hva_ hvn_ hvc_; rw [hva_] at ge108_0; rw [hvc_] at ul108_0; have HL108_0 := q73O (show Kd.V k43 43 _ w.heap.size _ _ (rd_L4 x102000_1 ((rd_T58 l1 x5_1).f0)) from Kd.V_mk ul108_0 ge108_0); clear hva_ hvn_ hvc_ ge108_0 ul108_0 hcc108 hce108; have HR108_0 := q73O hi108_0; have HC108_0 := q73O hl108_0; clear hi108_0 hl108_0; replace p108 := eq_true p108; replace q108 := eq_true q108; refine start_ (n := 10) (S := fun w' => w'.cell? ⟨gb101, 0, none⟩ = some (.slice (some ad108) x102000_1.length co49) ∧ w'.cell? ⟨gb101, 1, none⟩ = some (.int .i64 (wrap64 (t106 + 1))) ∧ w'.cell? (ad107.add ((x5_1).toNat * 2)) = some (.int .i64 ((rd_T58 l1 x5_1).f0)) ∧ w'.cell? ⟨(ad107.add ((x5_1).toNat * 2)).block, (ad107.add ((x5_1).toNat * 2)).off + 1, none⟩ = some (.int .i64 ((rd_T58 l1 x5_1).f1)) ∧ w'.cell? (ad108.add (((rd_T58 l1 x5_1).f0)).toNat) = some (.slice A108_0 (rd_L4 x102000_1 ((rd_T58 l1 x5_1).f0)).length c108_0)) (ds := []) q73y0 qa7 rfl rfl ⟨qc0 BK101.out, qc1 BK101.out, ((HB.out.cell (q73L w _ hw107_0)).trans hw107_0), ((HB.out.cell (q73L w _ hw107_1)).trans hw107_1), hx108_0⟩ (fun hHeld => ?_); refine with_tabW spec_l06Write.tab8 spec_l06Write.bits8 (fun HT_ HW_ => ?_); generalize wr.drew = w48 at HO_102000 BK101 BK102 HB HL108_0 HR108_0 hx107_0 hx107_1 hx108_0 hHeld ⊢; refine pure_ (i := 0) (N := some 23) (v := ?_) (a' := ?_) q73y1 rfl rfl (any_of HT_.out qa7) (fun _ _ _ h => h) (Or.inl ⟨by rfl, ?_⟩) ?_ ?_; rotate_left
              ·intro w'
               go_simp; (with_reducible rfl)
              rotate_left
              ·simp only [Act.put, q73zA, q73zB, q73zC, i64_w, i32_w]
               rfl
              refine pure_ (i := 2) (N := some 25) (v := ?_) (a' := ?_) q73y2 rfl rfl (any_of HT_.out qa7) (fun _ _ _ h => h) (Or.inl ⟨by rfl, ?_⟩) ?_ ?_; rotate_left
              ·intro w'
               go_simp; (with_reducible rfl)
              rotate_left
              ·simp only [Act.put, q73zA, q73zB, q73zC, i64_w, i32_w]
               rfl
              refine pure_ (i := 3) (N := some 26) (v := ?_) (a' := ?_) q73y3 rfl rfl (any_of HT_.out qa7) (fun _ _ _ h => h) (Or.inl ⟨by rfl, ?_⟩) ?_ ?_; rotate_left
              ·intro w'
               go_simp; (with_reducible rfl)
              rotate_left
              ·simp only [Act.put, q73zA, q73zB, q73zC, i64_w, i32_w]
               rfl
              refine pure_ (i := 4) (N := some 27) (v := ?_) (a' := ?_) q73y4 rfl rfl (any_of HT_.out qa7) (fun _ _ _ h => h) (Or.inl ⟨by rfl, ?_⟩) ?_ ?_; rotate_left
              ·intro w'
               go_simp; (with_reducible rfl)
              rotate_left
              ·simp only [Act.put, q73zA, q73zB, q73zC, i64_w, i32_w]
               rfl
              refine pure_ (i := 5) (N := some 28) (v := ?_) (a' := ?_) q73y5 rfl rfl (any_of HT_.out qa7) (fun _ _ _ h => h) (Or.inl ⟨by rfl, ?_⟩) ?_ ?_; rotate_left
              ·intro w'
               go_simp; (with_reducible rfl)
              rotate_left
              ·simp only [Act.put, q73zA, q73zB, q73zC, i64_w, i32_w]
               rfl
              refine take_ (i := 1) (N := some 24) (v := ?_) (a' := ?_) q73y6 rfl rfl (take_ofW HT_.out HW_.out qa7) (fun _ _ _ h => h) (Or.inl ⟨by rfl, ?_⟩) hHeld ?_ ?_; rotate_left
              ·rintro w' ⟨s0, s1, s2, s3, s4⟩
               go_simp; (with_reducible rfl)
              rotate_left
              ·simp only [Act.put, q73zA, q73zB, q73zC, i64_w, i32_w]
               rfl
              refine take_ (i := 6) (N := some 29) (v := ?_) (a' := ?_) q73y7 rfl rfl (take_ofW HT_.out HW_.out qa7) (fun _ _ _ h => h) (Or.inl ⟨by rfl, ?_⟩) hHeld ?_ ?_; rotate_left
              ·rintro w' ⟨s0, s1, s2, s3, s4⟩
               go_simp; (with_reducible rfl)
              rotate_left
              ·simp only [Act.put, q73zA, q73zB, q73zC, i64_w, i32_w]
               rfl
              refine pure_ (i := 7) (N := some 30) (v := ?_) (a' := ?_) q73y8 rfl rfl (any_of HT_.out qa7) (fun _ _ _ h => h) (Or.inl ⟨by rfl, ?_⟩) ?_ ?_; rotate_left
              ·intro w'
               go_simp; (with_reducible rfl)
              rotate_left
              ·simp only [Act.put, q73zA, q73zB, q73zC, i64_w, i32_w]
               rfl
              refine take_ (i := 8) (N := some 31) (v := ?_) (a' := ?_) q73y9 rfl rfl (take_ofW HT_.out HW_.out qa7) (fun _ _ _ h => h) (Or.inl ⟨by rfl, ?_⟩) hHeld ?_ ?_; rotate_left
              ·rintro w' ⟨s0, s1, s2, s3, s4⟩
               go_simp; (with_reducible rfl)
              rotate_left
              ·simp only [Act.put, q73zA, q73zB, q73zC, i64_w, i32_w]
               rfl
              refine pure_ (i := 9) (N := some 6) (v := ?_) (a' := ?_) q73y10 rfl rfl (any_of HT_.out qa7) (fun _ _ _ h => h) (Or.inl ⟨by rfl, ?_⟩) ?_ ?_; rotate_left
              ·intro w'
               go_simp; (with_reducible rfl)
              rotate_left
              ·simp only [Act.put, q73zA, q73zB, q73zC, i64_w, i32_w]
               rfl
              refine done_ (done_of HT_.out qa7) ?_
              try go_wp2
              replace HO_102000 := q73O (Kd.N_drew HO_102000.out); replace HL108_0 := q73O (Kd.V_drew HL108_0.out); replace BK101 := q73O (q73kD BK101.out); replace BK102 := q73O (q73kD BK102.out); replace HR108_0 := q73O (Kd.C_drew HR108_0.out); replace HB := q73O (q73bD HB.out); have p109 : 0 ≤ ((ji22) : Int) := q73T qa150; have q109 : (ji22) < ((rd_L4 x102000_1 ((rd_T58 l1 x5_1).f0)).length : Int) := q73T qa150; obtain ⟨ad109, e109, hx109_0, hx109_1⟩ := at_T43 qa33 (ji22) p109 q109
              cases e109
              replace p109 := eq_true p109; replace q109 := eq_true q109; refine start_ (n := 15) (S := fun w' => w'.cell? ⟨gb101, 0, none⟩ = some (.slice (some ad108) x102000_1.length co49) ∧ w'.cell? ⟨gb101, 1, none⟩ = some (.int .i64 (wrap64 (t106 + 1))) ∧ w'.cell? (ad109.add (((ji22)).toNat * 2)) = some (.int .i64 ((rd_T43 (rd_L4 x102000_1 ((rd_T58 l1 x5_1).f0)) (ji22)).f0)) ∧ w'.cell? ⟨(ad109.add (((ji22)).toNat * 2)).block, (ad109.add (((ji22)).toNat * 2)).off + 1, none⟩ = some (.int .i64 ((rd_T43 (rd_L4 x102000_1 ((rd_T58 l1 x5_1).f0)) (ji22)).f1))) (ds := []) q73y11 qa7 rfl rfl ⟨qc0 BK101.out, qc1 BK101.out, hx109_0, hx109_1⟩ (fun hHeld => ?_); refine with_tabW spec_l06Write.tab9 spec_l06Write.bits9 (fun HT_ HW_ => ?_); generalize w48.drew = w50 at HO_102000 HL108_0 BK101 BK102 HR108_0 HB hx109_0 hx109_1 hHeld ⊢; refine pure_ (i := 0) (N := some 32) (v := ?_) (a' := ?_) q73y12 rfl rfl (any_of HT_.out qa7) (fun _ _ _ h => h) (Or.inl ⟨by rfl, ?_⟩) ?_ ?_; rotate_left
              ·intro w'
               go_simp; (with_reducible rfl)
              rotate_left
              ·simp only [Act.put, q73zA, q73zB, q73zC, i64_w, i32_w]
               rfl
              refine pure_ (i := 1) (N := some 33) (v := ?_) (a' := ?_) q73y13 rfl rfl (any_of HT_.out qa7) (fun _ _ _ h => h) (Or.inl ⟨by rfl, ?_⟩) ?_ ?_; rotate_left
              ·intro w'
               go_simp; (with_reducible rfl)
              rotate_left
              ·simp only [Act.put, q73zA, q73zB, q73zC, i64_w, i32_w]
               rfl
              refine pure_ (i := 2) (N := some 34) (v := ?_) (a' := ?_) q73y14 rfl rfl (any_of HT_.out qa7) (fun _ _ _ h => h) (Or.inl ⟨by rfl, ?_⟩) ?_ ?_; rotate_left
              ·intro w'
               go_simp; (with_reducible rfl)
              rotate_left
              ·simp only [Act.put, q73zA, q73zB, q73zC, i64_w, i32_w]
               rfl
              refine pure_ (i := 3) (N := some 35) (v := ?_) (a' := ?_) q73y15 rfl rfl (any_of HT_.out qa7) (fun _ _ _ h => h) (Or.inl ⟨by rfl, ?_⟩) ?_ ?_; rotate_left
              ·intro w'
               go_simp; (with_reducible rfl)
              rotate_left
              ·simp only [Act.put, q73zA, q73zB, q73zC, i64_w, i32_w]
               rfl
              refine pure_ (i := 4) (N := some 36) (v := ?_) (a' := ?_) q73y16 rfl rfl (any_of HT_.out qa7) (fun _ _ _ h => h) (Or.inl ⟨by rfl, ?_⟩) ?_ ?_; rotate_left
              ·intro w'
               go_simp; (with_reducible rfl)
              rotate_left
              ·simp only [Act.put, q73zA, q73zB, q73zC, i64_w, i32_w]
               rfl
              refine pure_ (i := 5) (N := some 37) (v := ?_) (a' := ?_) q73y17 rfl rfl (any_of HT_.out qa7) (fun _ _ _ h => h) (Or.inl ⟨by rfl, ?_⟩) ?_ ?_; rotate_left
              ·intro w'
               go_simp; (with_reducible rfl)
              rotate_left
              ·simp only [Act.put, q73zA, q73zB, q73zC, i64_w, i32_w]
               rfl
              refine pure_ (i := 6) (N := some 38) (v := ?_) (a' := ?_) q73y18 rfl rfl (any_of HT_.out qa7) (fun _ _ _ h => h) (Or.inl ⟨by rfl, ?_⟩) ?_ ?_; rotate_left
              ·intro w'
               go_simp; (with_reducible rfl)
              rotate_left
              ·simp only [Act.put, q73zA, q73zB, q73zC, i64_w, i32_w]
               rfl
              refine pure_ (i := 7) (N := some 39) (v := ?_) (a' := ?_) q73y19 rfl rfl (any_of HT_.out qa7) (fun _ _ _ h => h) (Or.inl ⟨by rfl, ?_⟩) ?_ ?_; rotate_left
              ·intro w'
               go_simp; (with_reducible rfl)
              rotate_left
              ·simp only [Act.put, q73zA, q73zB, q73zC, i64_w, i32_w]
               rfl
              refine pure_ (i := 8) (N := some 40) (v := ?_) (a' := ?_) q73y20 rfl rfl (any_of HT_.out qa7) (fun _ _ _ h => h) (Or.inl ⟨by rfl, ?_⟩) ?_ ?_; rotate_left
              ·intro w'
               go_simp; (with_reducible rfl)
              rotate_left
              ·simp only [Act.put, q73zA, q73zB, q73zC, i64_w, i32_w]
               rfl
              refine pure_ (i := 9) (N := some 41) (v := ?_) (a' := ?_) q73y21 rfl rfl (any_of HT_.out qa7) (fun _ _ _ h => h) (Or.inl ⟨by rfl, ?_⟩) ?_ ?_; rotate_left
              ·intro w'
               go_simp; (with_reducible rfl)
              rotate_left
              ·simp only [Act.put, q73zA, q73zB, q73zC, i64_w, i32_w]
               rfl
              refine pure_ (i := 11) (N := some 43) (v := ?_) (a' := ?_) q73y22 rfl rfl (any_of HT_.out qa7) (fun _ _ _ h => h) (Or.inl ⟨by rfl, ?_⟩) ?_ ?_; rotate_left
              ·intro w'
               go_simp; (with_reducible rfl)
              rotate_left
              ·simp only [Act.put, q73zA, q73zB, q73zC, i64_w, i32_w]
               rfl
              refine take_ (i := 10) (N := some 42) (v := ?_) (a' := ?_) q73y23 rfl rfl (take_ofW HT_.out HW_.out qa7) (fun _ _ _ h => h) (Or.inl ⟨by rfl, ?_⟩) hHeld ?_ ?_; rotate_left
              ·rintro w' ⟨s0, s1, s2, s3⟩
               go_simp; (with_reducible rfl)
              rotate_left
              ·simp only [Act.put, q73zA, q73zB, q73zC, i64_w, i32_w]
               rfl
              refine take_ (i := 12) (N := some 44) (v := ?_) (a' := ?_) q73y24 rfl rfl (take_ofW HT_.out HW_.out qa7) (fun _ _ _ h => h) (Or.inl ⟨by rfl, ?_⟩) hHeld ?_ ?_; rotate_left
              ·rintro w' ⟨s0, s1, s2, s3⟩
               go_simp; (with_reducible rfl)
              rotate_left
              ·simp only [Act.put, q73zA, q73zB, q73zC, i64_w, i32_w]
               rfl
              refine pure_ (i := 13) (N := some 45) (v := ?_) (a' := ?_) q73y25 rfl rfl (any_of HT_.out qa7) (fun _ _ _ h => h) (Or.inl ⟨by rfl, ?_⟩) ?_ ?_; rotate_left
              ·intro w'
               go_simp; (with_reducible rfl)
              rotate_left
              ·simp only [Act.put, q73zA, q73zB, q73zC, i64_w, i32_w]
               rfl
              refine pure_ (i := 14) (N := some 46) (v := ?_) (a' := ?_) q73y26 rfl rfl (any_of HT_.out qa7) (fun _ _ _ h => h) (Or.inl ⟨by rfl, ?_⟩) ?_ ?_; rotate_left
              ·intro w'
               go_simp; (with_reducible rfl)
              rotate_left
              ·simp only [Act.put, q73zA, q73zB, q73zC, i64_w, i32_w]
               rfl
              refine done_ (done_of HT_.out qa7) ?_
              try go_wp2
              replace HO_102000 := q73O (Kd.N_drew HO_102000.out); replace HL108_0 := q73O (Kd.V_drew HL108_0.out); replace BK101 := q73O (q73kD BK101.out); replace BK102 := q73O (q73kD BK102.out); replace HR108_0 := q73O (Kd.C_drew HR108_0.out); replace HB := q73O (q73bD HB.out); have p130 : 0 ≤ (x5_1 : Int) := q73T qa150; have q130 : x5_1 < (l1.length : Int) := q73T qa150; obtain ⟨ad130, e130, hx130_0, hx130_1⟩ := at_T58 HR1.out x5_1 p130 q130; have hw130_1 := hx130_1; have hw130_0 := hx130_0; obtain rfl : ad107 = ad130 := (by injection e130); replace hx130_0 := (HB.out.cell (q73L w _ hx130_0)).trans hx130_0; replace hx130_1 := (HB.out.cell (q73L w _ hx130_1)).trans hx130_1; replace p130 := eq_true p130; replace q130 := eq_true q130; have p137 : 0 ≤ (x5_1 : Int) := q73T qa150; have q137 : x5_1 < (l1.length : Int) := q73T qa150; obtain ⟨ad137, e137, hx137_0, hx137_1⟩ := at_T58 HR1.out x5_1 p137 q137; have hw137_1 := hx137_1; have hw137_0 := hx137_0; obtain rfl : ad107 = ad137 := (by injection e137); replace hx137_0 := (HB.out.cell (q73L w _ hx137_0)).trans hx137_0; replace hx137_1 := (HB.out.cell (q73L w _ hx137_1)).trans hx137_1; replace p137 := eq_true p137; replace q137 := eq_true q137; refine start_ (n := 22) (S := fun w' => w'.cell? ⟨gb101, 0, none⟩ = some (.slice (some ad108) x102000_1.length co49) ∧ w'.cell? ⟨gb101, 1, none⟩ = some (.int .i64 (wrap64 (t106 + 1))) ∧ w'.cell? (ad107.add ((x5_1).toNat * 2)) = some (.int .i64 ((rd_T58 l1 x5_1).f0)) ∧ w'.cell? ⟨(ad107.add ((x5_1).toNat * 2)).block, (ad107.add ((x5_1).toNat * 2)).off + 1, none⟩ = some (.int .i64 ((rd_T58 l1 x5_1).f1)) ∧ w'.cell? (ad107.add ((x5_1).toNat * 2)) = some (.int .i64 ((rd_T58 l1 x5_1).f0)) ∧ w'.cell? ⟨(ad107.add ((x5_1).toNat * 2)).block, (ad107.add ((x5_1).toNat * 2)).off + 1, none⟩ = some (.int .i64 ((rd_T58 l1 x5_1).f1))) (ds := [21]) q73y27 qa7 rfl rfl ⟨qc0 BK101.out, qc1 BK101.out, ((HB.out.cell (q73L w _ hw130_0)).trans hw130_0), ((HB.out.cell (q73L w _ hw130_1)).trans hw130_1), ((HB.out.cell (q73L w _ hw137_0)).trans hw137_0), ((HB.out.cell (q73L w _ hw137_1)).trans hw137_1)⟩ (fun hHeld => ?_); refine with_tabW spec_l06Write.tab11 spec_l06Write.bits11 (fun HT_ HW_ => ?_); generalize w50.drew = w51 at HO_102000 HL108_0 BK101 BK102 HR108_0 HB hx130_0 hx130_1 hx137_0 hx137_1 hHeld ⊢; refine pure_ (i := 0) (N := some 52) (v := ?_) (a' := ?_) q73y28 rfl rfl (any_of HT_.out qa7) (fun _ _ _ h => h) (Or.inl ⟨by rfl, ?_⟩) ?_ ?_; rotate_left
              ·intro w'
               go_simp; (with_reducible rfl)
              rotate_left
              ·simp only [Act.put, q73zA, q73zB, q73zC, i64_w, i32_w]
               rfl
              refine pure_ (i := 2) (N := some 54) (v := ?_) (a' := ?_) q73y29 rfl rfl (any_of HT_.out qa7) (fun _ _ _ h => h) (Or.inl ⟨by rfl, ?_⟩) ?_ ?_; rotate_left
              ·intro w'
               go_simp; (with_reducible rfl)
              rotate_left
              ·simp only [Act.put, q73zA, q73zB, q73zC, i64_w, i32_w]
               rfl
              refine pure_ (i := 3) (N := some 55) (v := ?_) (a' := ?_) q73y30 rfl rfl (any_of HT_.out qa7) (fun _ _ _ h => h) (Or.inl ⟨by rfl, ?_⟩) ?_ ?_; rotate_left
              ·intro w'
               go_simp; (with_reducible rfl)
              rotate_left
              ·simp only [Act.put, q73zA, q73zB, q73zC, i64_w, i32_w]
               rfl
              refine pure_ (i := 4) (N := some 56) (v := ?_) (a' := ?_) q73y31 rfl rfl (any_of HT_.out qa7) (fun _ _ _ h => h) (Or.inl ⟨by rfl, ?_⟩) ?_ ?_; rotate_left
              ·intro w'
               go_simp; (with_reducible rfl)
              rotate_left
              ·simp only [Act.put, q73zA, q73zB, q73zC, i64_w, i32_w]
               rfl
              refine pure_ (i := 5) (N := some 57) (v := ?_) (a' := ?_) q73y32 rfl rfl (any_of HT_.out qa7) (fun _ _ _ h => h) (Or.inl ⟨by rfl, ?_⟩) ?_ ?_; rotate_left
              ·intro w'
               go_simp; (with_reducible rfl)
              rotate_left
              ·simp only [Act.put, q73zA, q73zB, q73zC, i64_w, i32_w]
               rfl
              refine pure_ (i := 8) (N := some 60) (v := ?_) (a' := ?_) q73y33 rfl rfl (any_of HT_.out qa7) (fun _ _ _ h => h) (Or.inl ⟨by rfl, ?_⟩) ?_ ?_; rotate_left
              ·intro w'
               go_simp; (with_reducible rfl)
              rotate_left
              ·simp only [Act.put, q73zA, q73zB, q73zC, i64_w, i32_w]
               rfl
              refine pure_ (i := 10) (N := some 62) (v := ?_) (a' := ?_) q73y34 rfl rfl (any_of HT_.out qa7) (fun _ _ _ h => h) (Or.inl ⟨by rfl, ?_⟩) ?_ ?_; rotate_left
              ·intro w'
               go_simp; (with_reducible rfl)
              rotate_left
              ·simp only [Act.put, q73zA, q73zB, q73zC, i64_w, i32_w]
               rfl
              refine pure_ (i := 12) (N := some 64) (v := ?_) (a' := ?_) q73y35 rfl rfl (any_of HT_.out qa7) (fun _ _ _ h => h) (Or.inl ⟨by rfl, ?_⟩) ?_ ?_; rotate_left
              ·intro w'
               go_simp; (with_reducible rfl)
              rotate_left
              ·simp only [Act.put, q73zA, q73zB, q73zC, i64_w, i32_w]
               rfl
              refine pure_ (i := 13) (N := some 65) (v := ?_) (a' := ?_) q73y36 rfl rfl (any_of HT_.out qa7) (fun _ _ _ h => h) (Or.inl ⟨by rfl, ?_⟩) ?_ ?_; rotate_left
              ·intro w'
               go_simp; (with_reducible rfl)
              rotate_left
              ·simp only [Act.put, q73zA, q73zB, q73zC, i64_w, i32_w]
               rfl
              refine pure_ (i := 14) (N := some 66) (v := ?_) (a' := ?_) q73y37 rfl rfl (any_of HT_.out qa7) (fun _ _ _ h => h) (Or.inl ⟨by rfl, ?_⟩) ?_ ?_; rotate_left
              ·intro w'
               go_simp; (with_reducible rfl)
              rotate_left
              ·simp only [Act.put, q73zA, q73zB, q73zC, i64_w, i32_w]
               rfl
              refine pure_ (i := 15) (N := some 67) (v := ?_) (a' := ?_) q73y38 rfl rfl (any_of HT_.out qa7) (fun _ _ _ h => h) (Or.inl ⟨by rfl, ?_⟩) ?_ ?_; rotate_left
              ·intro w'
               go_simp; (with_reducible rfl)
              rotate_left
              ·simp only [Act.put, q73zA, q73zB, q73zC, i64_w, i32_w]
               rfl
              refine take_ (i := 1) (N := some 53) (v := ?_) (a' := ?_) q73y39 rfl rfl (take_ofW HT_.out HW_.out qa7) (fun _ _ _ h => h) (Or.inl ⟨by rfl, ?_⟩) hHeld ?_ ?_; rotate_left
              ·rintro w' ⟨s0, s1, s2, s3, s4, s5⟩
               go_simp; (with_reducible rfl)
              rotate_left
              ·simp only [Act.put, q73zA, q73zB, q73zC, i64_w, i32_w]
               rfl
              refine take_ (i := 6) (N := some 58) (v := ?_) (a' := ?_) q73y40 rfl rfl (take_ofW HT_.out HW_.out qa7) (fun _ _ _ h => h) (Or.inl ⟨by rfl, ?_⟩) hHeld ?_ ?_; rotate_left
              ·rintro w' ⟨s0, s1, s2, s3, s4, s5⟩
               go_simp; (with_reducible rfl)
              rotate_left
              ·simp only [Act.put, q73zA, q73zB, q73zC, i64_w, i32_w]
               rfl
              refine take_ (i := 11) (N := some 63) (v := ?_) (a' := ?_) q73y41 rfl rfl (take_ofW HT_.out HW_.out qa7) (fun _ _ _ h => h) (Or.inl ⟨by rfl, ?_⟩) hHeld ?_ ?_; rotate_left
              ·rintro w' ⟨s0, s1, s2, s3, s4, s5⟩
               go_simp; (with_reducible rfl)
              rotate_left
              ·simp only [Act.put, q73zA, q73zB, q73zC, i64_w, i32_w]
               rfl
              refine take_ (i := 16) (N := some 68) (v := ?_) (a' := ?_) q73y42 rfl rfl (take_ofW HT_.out HW_.out qa7) (fun _ _ _ h => h) (Or.inl ⟨by rfl, ?_⟩) hHeld ?_ ?_; rotate_left
              ·rintro w' ⟨s0, s1, s2, s3, s4, s5⟩
               go_simp; (with_reducible rfl)
              rotate_left
              ·simp only [Act.put, q73zA, q73zB, q73zC, i64_w, i32_w]
               rfl
              refine pure_ (i := 17) (N := some 69) (v := ?_) (a' := ?_) q73y43 rfl rfl (any_of HT_.out qa7) (fun _ _ _ h => h) (Or.inl ⟨by rfl, ?_⟩) ?_ ?_; rotate_left
              ·intro w'
               go_simp; (with_reducible rfl)
              rotate_left
              ·simp only [Act.put, q73zA, q73zB, q73zC, i64_w, i32_w]
               rfl
              refine join_ (σ := Value × Value × Value) 3 q73y44 (fun s_ => [(59, s_.1), (61, s_.2.1), (70, s_.2.2)]) (fun s_ w' => (w'.cell? ⟨gb101, 0, none⟩ = some (.slice (some ad108) x102000_1.length co49) ∧ w'.cell? ⟨gb101, 1, none⟩ = some (.int .i64 (wrap64 (t106 + 1))) ∧ w'.cell? (ad107.add ((x5_1).toNat * 2)) = some (.int .i64 ((rd_T58 l1 x5_1).f0)) ∧ w'.cell? ⟨(ad107.add ((x5_1).toNat * 2)).block, (ad107.add ((x5_1).toNat * 2)).off + 1, none⟩ = some (.int .i64 ((rd_T58 l1 x5_1).f1)) ∧ w'.cell? (ad107.add ((x5_1).toNat * 2)) = some (.int .i64 ((rd_T58 l1 x5_1).f0)) ∧ w'.cell? ⟨(ad107.add ((x5_1).toNat * 2)).block, (ad107.add ((x5_1).toNat * 2)).off + 1, none⟩ = some (.int .i64 ((rd_T58 l1 x5_1).f1))) ∧ (Kd.V k43 43 w' w.heap.size (fun k_ => (P0_0_ k_ ∨ w.heap.size ≤ k_) ∧ some k_ ≠ (s_.2.1 : Value).ownBlock ∧ some k_ ≠ (s_.2.2 : Value).ownBlock ∧ some k_ ≠ (.slice (some ad108) x102000_1.length co49 : Value).ownBlock ∧ k_ ≠ gb101 ∧ k_ ≠ gb102) (.slice (some ad109) (rd_L4 x102000_1 ((rd_T58 l1 x5_1).f0)).length c108_0) (rd_L4 x102000_1 ((rd_T58 l1 x5_1).f0))) ∧ (Kd.R k43 43 w' w.heap.size (fun k_ => (w.heap.size ≤ k_) ∧ some k_ ≠ (s_.2.2 : Value).ownBlock) s_.2.1 y134) ∧ (Kd.R k43 43 w' w.heap.size (fun k_ => (w.heap.size ≤ k_) ∧ some k_ ≠ (s_.2.1 : Value).ownBlock) s_.2.2 y138) ∧ (Kd.N (Kd.slice 43 k43) 41 w' w.heap.size (fun k_ => (P0_0_ k_ ∨ w.heap.size ≤ k_) ∧ some k_ ≠ (s_.2.1 : Value).ownBlock ∧ some k_ ≠ (s_.2.2 : Value).ownBlock ∧ k_ ≠ gb101 ∧ k_ ≠ gb102) (.slice (some ad108) x102000_1.length co49) x102000_1) ∧ (w'.heap[gb101]? = some (.cells #[.slice (some ad108) x102000_1.length co49, .int .i64 (wrap64 (t106 + 1))] 28 (0, 0))) ∧ (w'.heap[gb102]? = some (.cells #[.slice none 0 0, .int .i64 0] 28 (0, 0))) ∧ (Below w.heap.size w w')) ?_ ?_; rotate_left
              ·intro hCont
               refine two_ (i := 7) (j := 18) (Ni := some 59) (Nj := some 70) q73y45 q73y46 rfl rfl rfl rfl (two_of HT_.out qa7) qa69 qa69 (fun K hK => ?_) (fun K hK => ?_)
               ·skip
                refine Kd.R_lit_step k43 _ 43 ?hg (N := 59) ?hd (xs := ([] : List (S43))) (inner := []) (ok := fun _ => True) (okp := fun _ => True) ?hr ?hp (fun _ hk => hk) trivial (Below.refl _ _) (Nat.le_refl _) qa120 ?_; (case hd => rfl); (case hg => rfl); (case hr => exact qa16); (case hp => exact qa207); intro v132 w52 ho53 hb hg_ hnew_; clear hg_ hnew_; (first | rw [← Ny131.out] at ho53 | (simp only [Int.reduceToNat] at ho53; rw [← Ny131.out] at ho53)); have HO133 := q73O (Kd.R_lower (Kd.R_newM (M := fun k_ => (w.heap.size ≤ k_)) ho53 (below_size qa6) (fun k_ h_ => h_)) (below_size qa6)); replace HO_102000 := q73O (Kd.N_elder' qa49 (Kd.R_base ho53) hb); replace HL108_0 := q73O (Kd.V_elder' qa58 (Kd.R_base ho53) hb); replace BK101 := q73O (blk_below (g := gb101) (o := .cells #[.slice (some ad108) x102000_1.length co49, .int .i64 (wrap64 (t106 + 1))] 28 (0, 0)) qa24 hb); replace BK102 := q73O (blk_below (g := gb102) (o := .cells #[.slice none 0 0, .int .i64 0] 28 (0, 0)) qa27 hb); replace HR108_0 := q73O (Kd.C_below qa33 hb); replace HB := q73O (below_step qa6 hb); clear hb ho53; refine hK.out _ _ ⟨qc0 BK101.out, qc1 BK101.out, ((HB.out.cell (q73L w _ hw130_0)).trans hw130_0), ((HB.out.cell (q73L w _ hw130_1)).trans hw130_1), ((HB.out.cell (q73L w _ hw137_0)).trans hw137_0), ((HB.out.cell (q73L w _ hw137_1)).trans hw137_1)⟩ (fun hHeld => ?_); clear hK K; refine norm_ (a' := ?_) ?_ ?_; rotate_left
                ·exact qa28
                refine two_ (i := 9) (j := 18) (Ni := some 61) (Nj := some 70) q73y47 q73y48 rfl rfl rfl rfl (two_of HT_.out qa7) qa69 qa69 (fun K hK => ?_) (fun K hK => ?_)
                ·skip
                 refine Kd.R_append_rows_step k43 (w0 := w) w.heap.size (by rfl) (.tmp 59) (.tmp 60) 41 43 (.agg #[(.int .i64 0), (.int .i64 0)]) 16 rfl Try.underlying41 info43 rfl qa69 qa34 v132 y131 (rd_L4 x102000_1 ((rd_T58 l1 x5_1).f0)) _ _ _ (fun k_ => (w.heap.size ≤ k_)) (fun _ => False) rfl rfl ?aO ?aR (fun _ _ h => h) (fun _ h => h.elim) ?aF ?aB ?aS ?aL ?_; (case aR => exact qa51); (case aB => exact qa48); (case aF => exact qa128); (case aO => exact (by (with_reducible repeat (first | apply Kd.R_alloc | apply Kd.R_drewN | apply Kd.R_drew)); exact Kd.R_mono HO133.out (fun _ hk => hk.1))); (case aS => exact qa41); (case aL => have := LMc45.out; omega); intro v135 w54 ho hb hg hat; rw [← Ny134.out] at ho; have n0_ := q73O (Kd.N_afterv (ok := (fun k_ => (P0_0_ k_ ∨ w.heap.size ≤ k_) ∧ k_ ≠ gb101 ∧ k_ ≠ gb102)) qa49 hg hat); have n1_ := q73O (blk_grown (g := gb101) (o := .cells #[.slice (some ad108) x102000_1.length co49, .int .i64 (wrap64 (t106 + 1))] 28 (0, 0)) qa24 hg (Kd.R_ne HO133.out BK101.out qa69)); have n2_ := q73O (blk_grown (g := gb102) (o := .cells #[.slice none 0 0, .int .i64 0] 28 (0, 0)) qa27 hg (Kd.R_ne HO133.out BK102.out qa69)); have n3_ := q73O (Kd.V_afterv (ok := (fun k_ => (P0_0_ k_ ∨ w.heap.size ≤ k_) ∧ some k_ ≠ (.slice (some ad108) x102000_1.length co49 : Value).ownBlock ∧ k_ ≠ gb101 ∧ k_ ≠ gb102)) qa142 hg hat); have n4_ := q73O (hb); have n5_ := q73O (ho); clear HO_102000 BK101 BK102 HL108_0 HB HO133; have HO_102000 := n0_; have BK101 := n1_; have BK102 := n2_; have HL108_0 := n3_; have HB := n4_; have HO136 := n5_; clear n0_ n1_ n2_ n3_ n4_ n5_ ho hb hg hat; refine hK.out _ _ ⟨qc0 BK101.out, qc1 BK101.out, ((HB.out.cell (q73L w _ hw130_0)).trans hw130_0), ((HB.out.cell (q73L w _ hw130_1)).trans hw130_1), ((HB.out.cell (q73L w _ hw137_0)).trans hw137_0), ((HB.out.cell (q73L w _ hw137_1)).trans hw137_1)⟩ (fun hHeld => ?_); clear hK K; refine norm_ (a' := ?_) ?_ ?_; rotate_left
                 ·exact qa28
                 refine one_ (i := 18) (N := some 70) q73y44 rfl rfl (one_of HT_.out qa7) qa69 (fun K hK => ?_); refine Kd.R_lit_step k43 _ 43 ?hg (N := 70) ?hd (xs := ([(⟨(wrap64 (t106 + 1)), (rd_T58 l1 x5_1).f1⟩ : S43)] : List (S43))) (inner := [.int .i64 (wrap64 (t106 + 1)), .int .i64 ((rd_T58 l1 x5_1).f1)]) (ok := fun _ => True) (okp := fun _ => True) ?hr ?hp (fun _ hk => hk) trivial (Below.refl _ _) (Nat.le_refl _) qa120 ?_; (case hd => rfl); (case hg => rfl); (case hr => exact qa16); (case hp => exact qa46); intro v139 w55 ho56 hb hg_ hnew_; clear hg_ hnew_; (first | rw [← Ny138.out] at ho56 | (simp only [Int.reduceToNat] at ho56; rw [← Ny138.out] at ho56)); have HO140 := q73O (Kd.R_lower (Kd.R_new' (Kd.R_newM (M := fun k_ => (w.heap.size ≤ k_)) ho56 (below_size qa6) (fun k_ h_ => h_)) (Kd.R_lt qa197)) (below_size qa6)); replace HO_102000 := q73O (Kd.N_elder' qa49 (Kd.R_base ho56) hb); replace HL108_0 := q73O (Kd.V_elder' qa58 (Kd.R_base ho56) hb); replace HO136 := q73O (Kd.R_elder' qa197 (Kd.R_base ho56) hb); replace BK101 := q73O (blk_below (g := gb101) (o := .cells #[.slice (some ad108) x102000_1.length co49, .int .i64 (wrap64 (t106 + 1))] 28 (0, 0)) qa24 hb); replace BK102 := q73O (blk_below (g := gb102) (o := .cells #[.slice none 0 0, .int .i64 0] 28 (0, 0)) qa27 hb); replace HB := q73O (below_step qa6 hb); clear hb ho56; refine hK.out _ _ ⟨qc0 BK101.out, qc1 BK101.out, ((HB.out.cell (q73L w _ hw130_0)).trans hw130_0), ((HB.out.cell (q73L w _ hw130_1)).trans hw130_1), ((HB.out.cell (q73L w _ hw137_0)).trans hw137_0), ((HB.out.cell (q73L w _ hw137_1)).trans hw137_1)⟩ (fun hHeld => ?_); clear hK K; refine norm_ (a' := ?_) ?_ ?_; rotate_left
                 ·exact qa28
                 exact norm_ (by simp only [putAll, Act.put, q73zA, q73zB, q73zC]) (hCont (v132, v135, v139) _ ⟨hHeld, (by (with_reducible repeat (first | apply Kd.V_alloc | apply Kd.V_drewN | apply Kd.V_drew)); exact Kd.V_mono HL108_0.out (fun _ hk => ⟨hk.1.1.1, ⟨hk.1.2, ⟨hk.2, ⟨hk.1.1.2.1, ⟨hk.1.1.2.2.1, hk.1.1.2.2.2⟩⟩⟩⟩⟩)), (by (with_reducible repeat (first | apply Kd.R_alloc | apply Kd.R_drewN | apply Kd.R_drew)); exact HO136.out), (by (with_reducible repeat (first | apply Kd.R_alloc | apply Kd.R_drewN | apply Kd.R_drew)); exact Kd.R_mono HO140.out (fun _ hk => ⟨hk.1.1, hk.2⟩)), (by (with_reducible repeat (first | apply Kd.N_alloc | apply Kd.N_drewN | apply Kd.N_drew)); exact Kd.N_mono HO_102000.out (fun _ hk => ⟨hk.1.1.1, ⟨hk.1.2, ⟨hk.2, ⟨hk.1.1.2.1, hk.1.1.2.2⟩⟩⟩⟩)), (by (with_reducible repeat (first | refine q73kN ?_ _ | refine q73kD ?_ | refine q73kA ?_ _)); exact BK101.out), (by (with_reducible repeat (first | refine q73kN ?_ _ | refine q73kD ?_ | refine q73kA ?_ _)); exact BK102.out), (by repeat (first | (with_reducible first | exact HB.out | apply q73bA | apply q73bN | apply q73bD | refine q73bS ?_ GE101.out | refine q73bS ?_ GE102.out) | exact HB.out))⟩)
                ·skip
                 refine Kd.R_lit_step k43 _ 43 ?hg (N := 70) ?hd (xs := ([(⟨(wrap64 (t106 + 1)), (rd_T58 l1 x5_1).f1⟩ : S43)] : List (S43))) (inner := [.int .i64 (wrap64 (t106 + 1)), .int .i64 ((rd_T58 l1 x5_1).f1)]) (ok := fun _ => True) (okp := fun _ => True) ?hr ?hp (fun _ hk => hk) trivial (Below.refl _ _) (Nat.le_refl _) qa120 ?_; (case hd => rfl); (case hg => rfl); (case hr => exact qa16); (case hp => exact qa46); intro v139 w54 ho55 hb hg_ hnew_; clear hg_ hnew_; (first | rw [← Ny138.out] at ho55 | (simp only [Int.reduceToNat] at ho55; rw [← Ny138.out] at ho55)); have HO140 := q73O (Kd.R_lower (Kd.R_new' (Kd.R_newM (M := fun k_ => (w.heap.size ≤ k_)) ho55 (below_size qa6) (fun k_ h_ => h_)) (Kd.R_lt qa198)) (below_size qa6)); replace HO_102000 := q73O (Kd.N_elder' qa49 (Kd.R_base ho55) hb); replace HL108_0 := q73O (Kd.V_elder' qa58 (Kd.R_base ho55) hb); replace HO133 := q73O (Kd.R_elder' qa198 (Kd.R_base ho55) hb); replace BK101 := q73O (blk_below (g := gb101) (o := .cells #[.slice (some ad108) x102000_1.length co49, .int .i64 (wrap64 (t106 + 1))] 28 (0, 0)) qa24 hb); replace BK102 := q73O (blk_below (g := gb102) (o := .cells #[.slice none 0 0, .int .i64 0] 28 (0, 0)) qa27 hb); replace HR108_0 := q73O (Kd.C_below qa33 hb); replace HB := q73O (below_step qa6 hb); clear hb ho55; refine hK.out _ _ ⟨qc0 BK101.out, qc1 BK101.out, ((HB.out.cell (q73L w _ hw130_0)).trans hw130_0), ((HB.out.cell (q73L w _ hw130_1)).trans hw130_1), ((HB.out.cell (q73L w _ hw137_0)).trans hw137_0), ((HB.out.cell (q73L w _ hw137_1)).trans hw137_1)⟩ (fun hHeld => ?_); clear hK K; refine norm_ (a' := ?_) ?_ ?_; rotate_left
                 ·exact qa28
                 refine one_ (i := 9) (N := some 61) q73y44 rfl rfl (one_of HT_.out qa7) qa69 (fun K hK => ?_); refine Kd.R_append_rows_step k43 (w0 := w) w.heap.size (by rfl) (.tmp 59) (.tmp 60) 41 43 (.agg #[(.int .i64 0), (.int .i64 0)]) 16 rfl Try.underlying41 info43 rfl qa69 qa34 v132 y131 (rd_L4 x102000_1 ((rd_T58 l1 x5_1).f0)) _ _ _ (fun k_ => (w.heap.size ≤ k_) ∧ some k_ ≠ (v139 : Value).ownBlock) (fun _ => False) rfl rfl ?aO ?aR (fun _ _ h => h) (fun _ h => h.elim) ?aF ?aB ?aS ?aL ?_; (case aR => exact qa51); (case aB => exact qa48); (case aF => exact qa91); (case aO => exact qa178); (case aS => exact qa41); (case aL => have := LMc45.out; omega); intro v135 w56 ho hb hg hat; rw [← Ny134.out] at ho; have n0_ := q73O (Kd.N_afterv (ok := (fun k_ => (P0_0_ k_ ∨ w.heap.size ≤ k_) ∧ some k_ ≠ (v139 : Value).ownBlock ∧ k_ ≠ gb101 ∧ k_ ≠ gb102)) qa139 hg hat); have n1_ := q73O (blk_grown (g := gb101) (o := .cells #[.slice (some ad108) x102000_1.length co49, .int .i64 (wrap64 (t106 + 1))] 28 (0, 0)) qa24 hg (Kd.R_ne HO133.out BK101.out qa69)); have n2_ := q73O (blk_grown (g := gb102) (o := .cells #[.slice none 0 0, .int .i64 0] 28 (0, 0)) qa27 hg (Kd.R_ne HO133.out BK102.out qa69)); have n3_ := q73O (Kd.V_afterv (ok := (fun k_ => (P0_0_ k_ ∨ w.heap.size ≤ k_) ∧ some k_ ≠ (.slice (some ad108) x102000_1.length co49 : Value).ownBlock ∧ some k_ ≠ (v139 : Value).ownBlock ∧ k_ ≠ gb101 ∧ k_ ≠ gb102)) qa130 hg hat); have n4_ := q73O (Kd.R_after (ok := (fun k_ => (w.heap.size ≤ k_))) qa179 hg hat); have n5_ := q73O (hb); have n6_ := q73O (ho); clear HO_102000 BK101 BK102 HL108_0 HO140 HB HO133; have HO_102000 := n0_; have BK101 := n1_; have BK102 := n2_; have HL108_0 := n3_; have HO140 := n4_; have HB := n5_; have HO136 := n6_; clear n0_ n1_ n2_ n3_ n4_ n5_ n6_ ho hb hg hat; refine hK.out _ _ ⟨qc0 BK101.out, qc1 BK101.out, ((HB.out.cell (q73L w _ hw130_0)).trans hw130_0), ((HB.out.cell (q73L w _ hw130_1)).trans hw130_1), ((HB.out.cell (q73L w _ hw137_0)).trans hw137_0), ((HB.out.cell (q73L w _ hw137_1)).trans hw137_1)⟩ (fun hHeld => ?_); clear hK K; refine norm_ (a' := ?_) ?_ ?_; rotate_left
                 ·exact qa28
                 exact norm_ (by simp only [putAll, Act.put, q73zA, q73zB, q73zC]) (hCont (v132, v135, v139) _ ⟨hHeld, (by (with_reducible repeat (first | apply Kd.V_alloc | apply Kd.V_drewN | apply Kd.V_drew)); exact Kd.V_mono HL108_0.out (fun _ hk => ⟨hk.1.1, ⟨hk.2, ⟨hk.1.2.2.1, ⟨hk.1.2.1, ⟨hk.1.2.2.2.1, hk.1.2.2.2.2⟩⟩⟩⟩⟩)), (by (with_reducible repeat (first | apply Kd.R_alloc | apply Kd.R_drewN | apply Kd.R_drew)); exact HO136.out), (by (with_reducible repeat (first | apply Kd.R_alloc | apply Kd.R_drewN | apply Kd.R_drew)); exact HO140.out), (by (with_reducible repeat (first | apply Kd.N_alloc | apply Kd.N_drewN | apply Kd.N_drew)); exact Kd.N_mono HO_102000.out (fun _ hk => ⟨hk.1.1, ⟨hk.2, ⟨hk.1.2.1, ⟨hk.1.2.2.1, hk.1.2.2.2⟩⟩⟩⟩)), (by (with_reducible repeat (first | refine q73kN ?_ _ | refine q73kD ?_ | refine q73kA ?_ _)); exact BK101.out), (by (with_reducible repeat (first | refine q73kN ?_ _ | refine q73kD ?_ | refine q73kA ?_ _)); exact BK102.out), (by repeat (first | (with_reducible first | exact HB.out | apply q73bA | apply q73bN | apply q73bD | refine q73bS ?_ GE101.out | refine q73bS ?_ GE102.out) | exact HB.out))⟩)
               ·skip
                refine Kd.R_lit_step k43 _ 43 ?hg (N := 70) ?hd (xs := ([(⟨(wrap64 (t106 + 1)), (rd_T58 l1 x5_1).f1⟩ : S43)] : List (S43))) (inner := [.int .i64 (wrap64 (t106 + 1)), .int .i64 ((rd_T58 l1 x5_1).f1)]) (ok := fun _ => True) (okp := fun _ => True) ?hr ?hp (fun _ hk => hk) trivial (Below.refl _ _) (Nat.le_refl _) qa120 ?_; (case hd => rfl); (case hg => rfl); (case hr => exact qa16); (case hp => exact qa46); intro v139 w52 ho53 hb hg_ hnew_; clear hg_ hnew_; (first | rw [← Ny138.out] at ho53 | (simp only [Int.reduceToNat] at ho53; rw [← Ny138.out] at ho53)); have HO140 := q73O (Kd.R_lower (Kd.R_newM (M := fun k_ => (w.heap.size ≤ k_)) ho53 (below_size qa6) (fun k_ h_ => h_)) (below_size qa6)); replace HO_102000 := q73O (Kd.N_elder' qa49 (Kd.R_base ho53) hb); replace HL108_0 := q73O (Kd.V_elder' qa58 (Kd.R_base ho53) hb); replace BK101 := q73O (blk_below (g := gb101) (o := .cells #[.slice (some ad108) x102000_1.length co49, .int .i64 (wrap64 (t106 + 1))] 28 (0, 0)) qa24 hb); replace BK102 := q73O (blk_below (g := gb102) (o := .cells #[.slice none 0 0, .int .i64 0] 28 (0, 0)) qa27 hb); replace HR108_0 := q73O (Kd.C_below qa33 hb); replace HB := q73O (below_step qa6 hb); clear hb ho53; refine hK.out _ _ ⟨qc0 BK101.out, qc1 BK101.out, ((HB.out.cell (q73L w _ hw130_0)).trans hw130_0), ((HB.out.cell (q73L w _ hw130_1)).trans hw130_1), ((HB.out.cell (q73L w _ hw137_0)).trans hw137_0), ((HB.out.cell (q73L w _ hw137_1)).trans hw137_1)⟩ (fun hHeld => ?_); clear hK K; refine norm_ (a' := ?_) ?_ ?_; rotate_left
                ·exact qa28
                refine one_ (i := 7) (N := some 59) q73y48 rfl rfl (one_of HT_.out qa7) qa69 (fun K hK => ?_); refine Kd.R_lit_step k43 _ 43 ?hg (N := 59) ?hd (xs := ([] : List (S43))) (inner := []) (ok := fun _ => True) (okp := fun _ => True) ?hr ?hp (fun _ hk => hk) trivial (Below.refl _ _) (Nat.le_refl _) qa120 ?_; (case hd => rfl); (case hg => rfl); (case hr => exact qa16); (case hp => exact qa207); intro v132 w54 ho55 hb hg_ hnew_; clear hg_ hnew_; (first | rw [← Ny131.out] at ho55 | (simp only [Int.reduceToNat] at ho55; rw [← Ny131.out] at ho55)); have HO133 := q73O (Kd.R_lower (Kd.R_new' (Kd.R_newM (M := fun k_ => (w.heap.size ≤ k_)) ho55 (below_size qa6) (fun k_ h_ => h_)) (Kd.R_lt qa147)) (below_size qa6)); replace HO_102000 := q73O (Kd.N_elder' qa49 (Kd.R_base ho55) hb); replace HL108_0 := q73O (Kd.V_elder' qa58 (Kd.R_base ho55) hb); replace HO140 := q73O (Kd.R_elder' qa147 (Kd.R_base ho55) hb); replace BK101 := q73O (blk_below (g := gb101) (o := .cells #[.slice (some ad108) x102000_1.length co49, .int .i64 (wrap64 (t106 + 1))] 28 (0, 0)) qa24 hb); replace BK102 := q73O (blk_below (g := gb102) (o := .cells #[.slice none 0 0, .int .i64 0] 28 (0, 0)) qa27 hb); replace HR108_0 := q73O (Kd.C_below qa33 hb); replace HB := q73O (below_step qa6 hb); clear hb ho55; refine hK.out _ _ ⟨qc0 BK101.out, qc1 BK101.out, ((HB.out.cell (q73L w _ hw130_0)).trans hw130_0), ((HB.out.cell (q73L w _ hw130_1)).trans hw130_1), ((HB.out.cell (q73L w _ hw137_0)).trans hw137_0), ((HB.out.cell (q73L w _ hw137_1)).trans hw137_1)⟩ (fun hHeld => ?_); clear hK K; refine norm_ (a' := ?_) ?_ ?_; rotate_left
                ·exact qa28
                refine one_ (i := 9) (N := some 61) q73y44 rfl rfl (one_of HT_.out qa7) qa69 (fun K hK => ?_); refine Kd.R_append_rows_step k43 (w0 := w) w.heap.size (by rfl) (.tmp 59) (.tmp 60) 41 43 (.agg #[(.int .i64 0), (.int .i64 0)]) 16 rfl Try.underlying41 info43 rfl qa69 qa34 v132 y131 (rd_L4 x102000_1 ((rd_T58 l1 x5_1).f0)) _ _ _ (fun k_ => (w.heap.size ≤ k_) ∧ some k_ ≠ (v139 : Value).ownBlock) (fun _ => False) rfl rfl ?aO ?aR (fun _ _ h => h) (fun _ h => h.elim) ?aF ?aB ?aS ?aL ?_; (case aR => exact qa51); (case aB => exact qa48); (case aF => exact qa91); (case aO => exact qa178); (case aS => exact qa41); (case aL => have := LMc45.out; omega); intro v135 w56 ho hb hg hat; rw [← Ny134.out] at ho; have n0_ := q73O (Kd.N_afterv (ok := (fun k_ => (P0_0_ k_ ∨ w.heap.size ≤ k_) ∧ some k_ ≠ (v139 : Value).ownBlock ∧ k_ ≠ gb101 ∧ k_ ≠ gb102)) qa140 hg hat); have n1_ := q73O (blk_grown (g := gb101) (o := .cells #[.slice (some ad108) x102000_1.length co49, .int .i64 (wrap64 (t106 + 1))] 28 (0, 0)) qa24 hg (Kd.R_ne HO133.out BK101.out qa69)); have n2_ := q73O (blk_grown (g := gb102) (o := .cells #[.slice none 0 0, .int .i64 0] 28 (0, 0)) qa27 hg (Kd.R_ne HO133.out BK102.out qa69)); have n3_ := q73O (Kd.V_afterv (ok := (fun k_ => (P0_0_ k_ ∨ w.heap.size ≤ k_) ∧ some k_ ≠ (.slice (some ad108) x102000_1.length co49 : Value).ownBlock ∧ some k_ ≠ (v139 : Value).ownBlock ∧ k_ ≠ gb101 ∧ k_ ≠ gb102)) qa131 hg hat); have n4_ := q73O (Kd.R_after (ok := (fun k_ => (w.heap.size ≤ k_))) qa179 hg hat); have n5_ := q73O (hb); have n6_ := q73O (ho); clear HO_102000 BK101 BK102 HL108_0 HO140 HB HO133; have HO_102000 := n0_; have BK101 := n1_; have BK102 := n2_; have HL108_0 := n3_; have HO140 := n4_; have HB := n5_; have HO136 := n6_; clear n0_ n1_ n2_ n3_ n4_ n5_ n6_ ho hb hg hat; refine hK.out _ _ ⟨qc0 BK101.out, qc1 BK101.out, ((HB.out.cell (q73L w _ hw130_0)).trans hw130_0), ((HB.out.cell (q73L w _ hw130_1)).trans hw130_1), ((HB.out.cell (q73L w _ hw137_0)).trans hw137_0), ((HB.out.cell (q73L w _ hw137_1)).trans hw137_1)⟩ (fun hHeld => ?_); clear hK K; refine norm_ (a' := ?_) ?_ ?_; rotate_left
                ·exact qa28
                exact norm_ (by simp only [putAll, Act.put, q73zA, q73zB, q73zC]) (hCont (v132, v135, v139) _ ⟨hHeld, (by (with_reducible repeat (first | apply Kd.V_alloc | apply Kd.V_drewN | apply Kd.V_drew)); exact Kd.V_mono HL108_0.out (fun _ hk => ⟨hk.1.1, ⟨hk.2, ⟨hk.1.2.2.1, ⟨hk.1.2.1, ⟨hk.1.2.2.2.1, hk.1.2.2.2.2⟩⟩⟩⟩⟩)), (by (with_reducible repeat (first | apply Kd.R_alloc | apply Kd.R_drewN | apply Kd.R_drew)); exact HO136.out), (by (with_reducible repeat (first | apply Kd.R_alloc | apply Kd.R_drewN | apply Kd.R_drew)); exact HO140.out), (by (with_reducible repeat (first | apply Kd.N_alloc | apply Kd.N_drewN | apply Kd.N_drew)); exact Kd.N_mono HO_102000.out (fun _ hk => ⟨hk.1.1, ⟨hk.2, ⟨hk.1.2.1, ⟨hk.1.2.2.1, hk.1.2.2.2⟩⟩⟩⟩)), (by (with_reducible repeat (first | refine q73kN ?_ _ | refine q73kD ?_ | refine q73kA ?_ _)); exact BK101.out), (by (with_reducible repeat (first | refine q73kN ?_ _ | refine q73kD ?_ | refine q73kA ?_ _)); exact BK102.out), (by repeat (first | (with_reducible first | exact HB.out | apply q73bA | apply q73bN | apply q73bD | refine q73bS ?_ GE101.out | refine q73bS ?_ GE102.out) | exact HB.out))⟩)
              rintro ⟨v132, v135, v139⟩ w57 ⟨hS_, h0_, h1_, h2_, h3_, h4_, h5_, h6_⟩; have n0_ : Aside0 (Kd.V k43 43 w57 w.heap.size (fun k_ => (P0_0_ k_ ∨ w.heap.size ≤ k_) ∧ some k_ ≠ (v135 : Value).ownBlock ∧ some k_ ≠ (v139 : Value).ownBlock ∧ some k_ ≠ (.slice (some ad108) x102000_1.length co49 : Value).ownBlock ∧ k_ ≠ gb101 ∧ k_ ≠ gb102) (.slice (some ad109) (rd_L4 x102000_1 ((rd_T58 l1 x5_1).f0)).length c108_0) (rd_L4 x102000_1 ((rd_T58 l1 x5_1).f0))) := ⟨h0_⟩; have n1_ : Aside0 (Kd.R k43 43 w57 w.heap.size (fun k_ => (w.heap.size ≤ k_) ∧ some k_ ≠ (v139 : Value).ownBlock) v135 y134) := ⟨h1_⟩; have n2_ : Aside0 (Kd.R k43 43 w57 w.heap.size (fun k_ => (w.heap.size ≤ k_) ∧ some k_ ≠ (v135 : Value).ownBlock) v139 y138) := ⟨h2_⟩; have n3_ : Aside0 (Kd.N (Kd.slice 43 k43) 41 w57 w.heap.size (fun k_ => (P0_0_ k_ ∨ w.heap.size ≤ k_) ∧ some k_ ≠ (v135 : Value).ownBlock ∧ some k_ ≠ (v139 : Value).ownBlock ∧ k_ ≠ gb101 ∧ k_ ≠ gb102) (.slice (some ad108) x102000_1.length co49) x102000_1) := ⟨h3_⟩; have n4_ : Aside0 (w57.heap[gb101]? = some (.cells #[.slice (some ad108) x102000_1.length co49, .int .i64 (wrap64 (t106 + 1))] 28 (0, 0))) := ⟨h4_⟩; have n5_ : Aside0 (w57.heap[gb102]? = some (.cells #[.slice none 0 0, .int .i64 0] 28 (0, 0))) := ⟨h5_⟩; have n6_ : Aside0 (Below w.heap.size w w57) := ⟨h6_⟩; clear HO_102000 HL108_0 BK101 BK102 HR108_0 HB h0_ h1_ h2_ h3_ h4_ h5_ h6_; have HL108_0 := n0_; have HO136 := n1_; have HO140 := n2_; have HO_102000 := n3_; have BK101 := n4_; have BK102 := n5_; have HB := n6_; clear n0_ n1_ n2_ n3_ n4_ n5_ n6_; have hHeld : w57.cell? ⟨gb101, 0, none⟩ = some (.slice (some ad108) x102000_1.length co49) ∧ w57.cell? ⟨gb101, 1, none⟩ = some (.int .i64 (wrap64 (t106 + 1))) ∧ w57.cell? (ad107.add ((x5_1).toNat * 2)) = some (.int .i64 ((rd_T58 l1 x5_1).f0)) ∧ w57.cell? ⟨(ad107.add ((x5_1).toNat * 2)).block, (ad107.add ((x5_1).toNat * 2)).off + 1, none⟩ = some (.int .i64 ((rd_T58 l1 x5_1).f1)) ∧ w57.cell? (ad107.add ((x5_1).toNat * 2)) = some (.int .i64 ((rd_T58 l1 x5_1).f0)) ∧ w57.cell? ⟨(ad107.add ((x5_1).toNat * 2)).block, (ad107.add ((x5_1).toNat * 2)).off + 1, none⟩ = some (.int .i64 ((rd_T58 l1 x5_1).f1)) := hS_; obtain ⟨Ao59, co59, eo59⟩ := Kd.R_slice HO140.out; (first | subst eo59 | (injection eo59 with f1_ f2_ f3_; have f4_ := f1_.symm; have f5_ := f3_.symm; clear f1_ f2_ f3_; subst f4_; subst f5_)); refine norm_ (a' := ?_) ?_ ?_; rotate_left
              ·simp only [putAll, Act.put, q73zA, q73zB, q73zC]
               rfl
              refine one_ (i := 19) (N := some 71) q73y49 rfl rfl (one_of HT_.out qa7) qa69 (fun K hK => ?_); refine Kd.R_append_rows_step k43 (w0 := w) w.heap.size (by rfl) (.tmp 61) (.tmp 70) 41 43 (.agg #[(.int .i64 0), (.int .i64 0)]) 16 rfl Try.underlying41 info43 rfl qa69 qa34 v135 y134 y138 _ _ _ (fun k_ => (w.heap.size ≤ k_) ∧ some k_ ≠ (.slice Ao59 y138.length co59 : Value).ownBlock) (fun _ => False) rfl rfl ?aO ?aR (fun _ _ h => h) (fun _ h => h.elim) ?aF ?aB ?aS ?aL ?_; (case aR => exact qa186); (case aB => exact qa48); (case aF => exact qa91); (case aO => exact (by (with_reducible repeat (first | apply Kd.R_alloc | apply Kd.R_drewN | apply Kd.R_drew)); exact HO136.out)); (case aS => exact qa41); (case aL => have := LMc46.out; omega); intro v142 w58 ho hb hg hat; rw [← Ny141.out] at ho; have n0_ := q73O (Kd.N_afterv (ok := (fun k_ => (P0_0_ k_ ∨ w.heap.size ≤ k_) ∧ some k_ ≠ (.slice Ao59 y138.length co59 : Value).ownBlock ∧ k_ ≠ gb101 ∧ k_ ≠ gb102)) qa141 hg hat); have n1_ := q73O (blk_grown (g := gb101) (o := .cells #[.slice (some ad108) x102000_1.length co49, .int .i64 (wrap64 (t106 + 1))] 28 (0, 0)) qa24 hg (Kd.R_ne HO136.out BK101.out qa69)); have n2_ := q73O (blk_grown (g := gb102) (o := .cells #[.slice none 0 0, .int .i64 0] 28 (0, 0)) qa27 hg (Kd.R_ne HO136.out BK102.out qa69)); have n3_ := q73O (Kd.V_afterv (ok := (fun k_ => (P0_0_ k_ ∨ w.heap.size ≤ k_) ∧ some k_ ≠ (.slice (some ad108) x102000_1.length co49 : Value).ownBlock ∧ some k_ ≠ (.slice Ao59 y138.length co59 : Value).ownBlock ∧ k_ ≠ gb101 ∧ k_ ≠ gb102)) qa132 hg hat); have n4_ := q73O (Kd.R_after (ok := (fun k_ => (w.heap.size ≤ k_))) qa147 hg hat); have n5_ := q73O (hb); have n6_ := q73O (ho); clear HO_102000 BK101 BK102 HL108_0 HO140 HB HO136; have HO_102000 := n0_; have BK101 := n1_; have BK102 := n2_; have HL108_0 := n3_; have HO140 := n4_; have HB := n5_; have HO143 := n6_; clear n0_ n1_ n2_ n3_ n4_ n5_ n6_; obtain ⟨Av60, cv60, ev60⟩ := Kd.R_slice HO143.out; subst ev60; clear ho hb hg hat; have p47 : 0 ≤ (((rd_T58 l1 x5_1).f0) : Int) := q73T qa150; have q47 : (((rd_T58 l1 x5_1).f0) : Int) < ((x102000_1.length : Int) : Int) := q73T qa150; obtain ⟨go47, co47, eo47, gb47, gl47, cl47, HG47⟩ := Kd.N_form HO_102000.out qa34; (first | cases eo47 | (injection eo47 with ea_ en_ ec_; (first | subst ea_ | (injection ea_ with ea_; subst ea_)); subst ec_; clear en_)); have GB47 := q73O gb47; have GG47 := q73O HG47; clear gb47 gl47 HG47; (first | simp only [add_plain] at hx108_0 | skip); obtain ⟨ce47, hcl47, hM47, hcc47, hfr47⟩ := Kd.N_elem HO_102000.out [] (((rd_T58 l1 x5_1).f0) : Int) p47 q47; obtain ⟨ua47_0, uc47_0, rfl, ul47_0, ge47_0⟩ := Kd.FK_slice_open hM47; have hx47_0 := hcc47 0 _ rfl; have hf47_0 := hfr47 0; (try simp only [show ((Kd.slice 43 k43)).sz = 1 from rfl, Nat.mul_one, Nat.add_zero] at hx47_0); (try simp only [show ((Kd.slice 43 k43)).sz = 1 from rfl, Nat.mul_one, Nat.add_zero] at hf47_0); clear hcl47 hcc47 hfr47; (try clear hM47); replace p47 := eq_true p47; replace q47 := eq_true q47; have HX60 := q73O (show Kd.N (Kd.slice 43 k43) 41 _ w.heap.size (fun k_ => (P0_0_ k_ ∨ w.heap.size ≤ k_) ∧ some k_ ≠ (.slice Ao59 y138.length co59 : Value).ownBlock ∧ some k_ ≠ ((.slice Av60 y141.length cv60) : Value).ownBlock ∧ k_ ≠ gb101 ∧ k_ ≠ gb102) (.slice (some ⟨go47, 0, none⟩) x102000_1.length co49) x102000_1 from (Kd.N_mono (HO_102000.out) (fun k_ hk => ⟨hk.1.1, ⟨hk.1.2.1, ⟨hk.2, ⟨hk.1.2.2.1, hk.1.2.2.2⟩⟩⟩⟩))); replace HX60 := q73O (show Kd.N (Kd.slice 43 k43) 41 _ w.heap.size (fun k_ => (P0_0_ k_ ∨ w.heap.size ≤ k_) ∧ some k_ ≠ (.slice Ao59 y138.length co59 : Value).ownBlock ∧ k_ ≠ gb101 ∧ k_ ≠ gb102) (.slice (some ⟨go47, 0, none⟩) x102000_1.length co49) x102000_1 from Kd.N_mono HX60.out (fun k_ hk => ⟨hk.1, ⟨hk.2.1, ⟨hk.2.2.2.1, hk.2.2.2.2⟩⟩⟩)); obtain ⟨ce60, hcl60, hM60, hcc60, hfr60⟩ := Kd.N_elem HX60.out [] (((rd_T58 l1 x5_1).f0) : Int) (q73T qa150) (by have h_ : (((rd_T58 l1 x5_1).f0) : Int) < ((x102000_1.length : Int) : Int) := q73T qa150; first | exact h_ | (have e_ := (Kd.N_reads' HO_102000.out).1; omega) | simpa using h_); obtain ⟨ua60_0, uc60_0, rfl, ul60_0, ge60_0⟩ := Kd.FK_slice_open hM60; have HP60 := (Kd.N_seg HX60.out (((rd_T58 l1 x5_1).f0) : Int) (q73T qa150) (by have h_ : (((rd_T58 l1 x5_1).f0) : Int) < ((x102000_1.length : Int) : Int) := q73T qa150; first | exact h_ | (have e_ := (Kd.N_reads' HO_102000.out).1; omega) | simpa using h_) (seg := [(.slice Av60 y141.length cv60)]) (j := 0) hcl60 hcc60 (show 1 ≤ 1 from by decide) (x' := y141) (Kd.FK_slice_mk (Kd.R_reads' (Kd.R_mono (ok' := (fun k_ => ((fun k_ => (P0_0_ k_ ∨ w.heap.size ≤ k_) ∧ some k_ ≠ (.slice Ao59 y138.length co59 : Value).ownBlock ∧ k_ ≠ gb101 ∧ k_ ≠ gb102)) k_ ∧ k_ ≠ go47)) (Kd.R_types (Kd.R_types (Kd.R_apart' (HO143.out) (Kd.N_typed HO_102000.out) qa69) BK101.out qa69) BK102.out qa69) (fun k_ hk => ⟨⟨(.inr (hk.1.1.1.1)), ⟨hk.1.1.1.2, ⟨hk.1.2, hk.2⟩⟩⟩, fun e_ => (hk.1.1.2) (by rw [e_]; rfl)⟩))).2.1 (Kd.R_F (Kd.R_mono (ok' := (fun k_ => ((fun k_ => (P0_0_ k_ ∨ w.heap.size ≤ k_) ∧ some k_ ≠ (.slice Ao59 y138.length co59 : Value).ownBlock ∧ k_ ≠ gb101 ∧ k_ ≠ gb102)) k_ ∧ k_ ≠ go47)) (Kd.R_types (Kd.R_types (Kd.R_apart' (HO143.out) (Kd.N_typed HO_102000.out) qa69) BK101.out qa69) BK102.out qa69) (fun k_ hk => ⟨⟨(.inr (hk.1.1.1.1)), ⟨hk.1.1.1.2, ⟨hk.1.2, hk.2⟩⟩⟩, fun e_ => (hk.1.1.2) (by rw [e_]; rfl)⟩)))) (fun _ hk => hk)).1; (try simp only [show ((Kd.slice 43 k43)).sz = 1 from rfl, Nat.mul_one, Nat.add_zero] at HP60); rw [← Ny144.out] at HP60; have HQ60 := q73O HP60; clear hcl60 hcc60 hfr60; (try clear hM60); clear HP60; refine hK.out _ _ ⟨qc0 BK101.out, qc1 BK101.out, ((HB.out.cell (q73L w _ hw130_0)).trans hw130_0), ((HB.out.cell (q73L w _ hw130_1)).trans hw130_1), ((HB.out.cell (q73L w _ hw137_0)).trans hw137_0), ((HB.out.cell (q73L w _ hw137_1)).trans hw137_1)⟩ (fun hHeld => ?_); clear hK K; refine norm_ (a' := ?_) ?_ ?_; rotate_left
              ·exact qa28
              refine pure_ (i := 20) (N := some 72) (v := ?_) (a' := ?_) q73y50 rfl rfl (any_of HT_.out qa7) (fun _ _ _ h => h) (Or.inl ⟨by rfl, ?_⟩) ?_ ?_; rotate_left
              ·intro w'
               go_simp; (with_reducible rfl)
              rotate_left
              ·simp only [Act.put, q73zA, q73zB, q73zC, i64_w, i32_w]
               rfl
              refine last_ (i := 21) (N := none) q73y51 rfl rfl (one_of HT_.out qa7) qa69 (fun K hK => ?_); refine skip_ (w1 := ?_) (by rfl) rfl ?_ ?_; rotate_left
              ·go_simp
               rfl
              refine hK.out _ _ ?_; clear hK K; refine done_ (done_of HT_.out qa7) ?_
              try go_wp2
              go_roundg k1
              case measure => have := HK1.out; omega
              case rel => exact ⟨(wrap64 (x5_1 + 1)), (y144), (.slice (some ⟨go47, 0, none⟩) x102000_1.length co49), qa18, H', ⟨qa164⟩, ⟨by (with_reducible repeat (first | apply Kd.N_alloc | apply Kd.N_drewN | apply Kd.N_drew)); exact Kd.N_mono HQ60.out (fun _ hk => ⟨hk.1, ⟨hk.2.2.1, hk.2.2.2⟩⟩)⟩, ⟨qa95⟩, ⟨qa96⟩, ⟨by repeat (first | (with_reducible first | exact HB.out | apply q73bA | apply q73bN | apply q73bD | refine q73bS ?_ GB47.out | refine q73bS ?_ GE101.out | refine q73bS ?_ GE102.out) | exact HB.out)⟩⟩
             ·rw [if_neg c46] at H
              exact absurd H qa120
            ·rw [if_neg c45] at H
             exact absurd H qa120
          ·rw [if_neg c24] at H
           exact absurd H qa120
         ·rw [if_neg c23] at H
          exact absurd H qa120
        ·rw [if_neg c21] at H
         have c21b0 : decide (0 < ((rd_L4 x102000_1 ((rd_T58 l1 x5_1).f0)).length : Int)) = false := decide_eq_false c21; have c21b1 : decide (0 < (rd_L4 x102000_1 ((rd_T58 l1 x5_1).f0)).length) = false := decide_eq_false qa34; clear c21; obtain ⟨y146, hy146⟩ : ∃ y_ : List (S43), y_ = (([] : List (S43))) := ⟨_, rfl⟩; replace H : (if y146.length + (rd_L4 x102000_1 ((rd_T58 l1 x5_1).f0)).length < 8796093022208 then ((some (y146 ++ (rd_L4 x102000_1 ((rd_T58 l1 x5_1).f0)) : List (S43))).bind fun y149 => ((some (([(⟨(wrap64 (t106 + 1)), (rd_T58 l1 x5_1).f1⟩ : S43)] : List (S43)) : List (S43))).bind fun y153 => (if y149.length + y153.length < 8796093022208 then (spec_l06Write.l0 k1 l1 (wrap64 (x5_1 + 1)) (x102000_1.set (((rd_T58 l1 x5_1).f0) : Int).toNat (y149 ++ y153)) (wrap64 (t106 + 1))) else (none)))) else (none)) = some (r1, r2) := by first | (rw [hy146]; with_reducible exact H) | (have H2_ := (Option.bind_some _ _).symm.trans H; rw [hy146]; with_reducible exact H2_) | (have H2_ := (Option.bind_some _ _).symm.trans H; with_reducible exact H2_) | with_reducible exact H | (rw [hy146]; exact H) | exact H
         have Ny146 := q73O hy146; clear hy146
         by_cases c61 : y146.length + (rd_L4 x102000_1 ((rd_T58 l1 x5_1).f0)).length < 8796093022208
         ·rw [if_pos c61] at H
          have LMc61 := q73O c61; clear c61; obtain ⟨y149, hy149⟩ : ∃ y_ : List (S43), y_ = (y146 ++ (rd_L4 x102000_1 ((rd_T58 l1 x5_1).f0))) := ⟨_, rfl⟩; replace H : ((some (([(⟨(wrap64 (t106 + 1)), (rd_T58 l1 x5_1).f1⟩ : S43)] : List (S43)) : List (S43))).bind fun y153 => (if y149.length + y153.length < 8796093022208 then (spec_l06Write.l0 k1 l1 (wrap64 (x5_1 + 1)) (x102000_1.set (((rd_T58 l1 x5_1).f0) : Int).toNat (y149 ++ y153)) (wrap64 (t106 + 1))) else (none))) = some (r1, r2) := by first | (rw [hy149]; with_reducible exact H) | (have H2_ := (Option.bind_some _ _).symm.trans H; rw [hy149]; with_reducible exact H2_) | (have H2_ := (Option.bind_some _ _).symm.trans H; with_reducible exact H2_) | with_reducible exact H | (rw [hy149]; exact H) | exact H
          have Ny149 := q73O hy149; clear hy149; obtain ⟨y153, hy153⟩ : ∃ y_ : List (S43), y_ = (([(⟨(wrap64 (t106 + 1)), (rd_T58 l1 x5_1).f1⟩ : S43)] : List (S43))) := ⟨_, rfl⟩; replace H : (if y149.length + y153.length < 8796093022208 then (spec_l06Write.l0 k1 l1 (wrap64 (x5_1 + 1)) (x102000_1.set (((rd_T58 l1 x5_1).f0) : Int).toNat (y149 ++ y153)) (wrap64 (t106 + 1))) else (none)) = some (r1, r2) := by first | (rw [hy153]; with_reducible exact H) | (have H2_ := (Option.bind_some _ _).symm.trans H; rw [hy153]; with_reducible exact H2_) | (have H2_ := (Option.bind_some _ _).symm.trans H; with_reducible exact H2_) | with_reducible exact H | (rw [hy153]; exact H) | exact H
          have Ny153 := q73O hy153; clear hy153
          by_cases c62 : y149.length + y153.length < 8796093022208
          ·rw [if_pos c62] at H
           have LMc62 := q73O c62; clear c62; obtain ⟨y156, hy156⟩ : ∃ y_ : List (S43), y_ = (y149 ++ y153) := ⟨_, rfl⟩; replace H : (spec_l06Write.l0 k1 l1 (wrap64 (x5_1 + 1)) (x102000_1.set (((rd_T58 l1 x5_1).f0) : Int).toNat y156) (wrap64 (t106 + 1))) = some (r1, r2) := by first | (rw [hy156]; with_reducible exact H) | (have H2_ := (Option.bind_some _ _).symm.trans H; rw [hy156]; with_reducible exact H2_) | (have H2_ := (Option.bind_some _ _).symm.trans H; with_reducible exact H2_) | with_reducible exact H | (rw [hy156]; exact H) | exact H
           have Ny156 := q73O hy156; clear hy156; obtain ⟨y159, hy159⟩ : ∃ y_ : List (List (S43)), y_ = (x102000_1.set (((rd_T58 l1 x5_1).f0) : Int).toNat y156) := ⟨_, rfl⟩; replace H : (spec_l06Write.l0 k1 l1 (wrap64 (x5_1 + 1)) y159 (wrap64 (t106 + 1))) = some (r1, r2) := by first | (rw [hy159]; with_reducible exact H) | (have H2_ := (Option.bind_some _ _).symm.trans H; rw [hy159]; with_reducible exact H2_) | (have H2_ := (Option.bind_some _ _).symm.trans H; with_reducible exact H2_) | with_reducible exact H | (rw [hy159]; exact H) | exact H
           have Ny159 := q73O hy159; clear hy159; have H' := q73O H; clear H
           try go_wp2
           replace HO_102000 := q73O (Kd.N_drew HO_102000.out); replace BK101 := q73O (q73kD BK101.out); replace BK102 := q73O (q73kD BK102.out); replace HB := q73O (q73bD HB.out); have p107 : 0 ≤ (x5_1 : Int) := q73T qa150; have q107 : x5_1 < (l1.length : Int) := q73T qa150; obtain ⟨ad107, e107, hx107_0, hx107_1⟩ := at_T58 HR1.out x5_1 p107 q107; have hw107_1 := hx107_1; have hw107_0 := hx107_0
           cases e107
           replace hx107_0 := (HB.out.cell (q73L w _ hx107_0)).trans hx107_0; replace hx107_1 := (HB.out.cell (q73L w _ hx107_1)).trans hx107_1; replace p107 := eq_true p107; replace q107 := eq_true q107; obtain ⟨Ao65, co65, eo65⟩ := Kd.N_slice HO_102000.out; (first | subst eo65 | (injection eo65 with f1_ f2_ f3_; have f4_ := f1_.symm; have f5_ := f3_.symm; clear f1_ f2_ f3_; subst f4_; subst f5_)); have p108 : 0 ≤ (((rd_T58 l1 x5_1).f0) : Int) := q73T qa150; have q108 : ((rd_T58 l1 x5_1).f0) < (x102000_1.length : Int) := q73T qa150; obtain ⟨ad108, A108_0, c108_0, e108, hx108_0, hl108_0, hi108_0⟩ := at_L4 (Kd.N_reads' HO_102000.out).2.2 ((rd_T58 l1 x5_1).f0) p108 q108
           cases e108
           obtain ⟨ce108, hce108, hMe108, hcc108⟩ := Kd.N_get HO_102000.out [] ((rd_T58 l1 x5_1).f0) p108 qa174; obtain ⟨ua108_0, uc108_0, rfl, ul108_0, ge108_0⟩ := Kd.FK_slice_open hMe108; have hv108_0 := hcc108 0 _ rfl; rw [Nat.add_zero, show ((Kd.slice 43 k43)).sz = 1 from rfl, Nat.mul_one] at hv108_0; replace hv108_0 := Option.some.inj (hv108_0.symm.trans hx108_0); injection hv108_0 with hva_ hvn_ hvc_; rw [hva_] at ge108_0; rw [hvc_] at ul108_0; have HL108_0 := q73O (show Kd.V k43 43 _ w.heap.size _ _ (rd_L4 x102000_1 ((rd_T58 l1 x5_1).f0)) from Kd.V_mk ul108_0 ge108_0); clear hva_ hvn_ hvc_ ge108_0 ul108_0 hcc108 hce108; have HR108_0 := q73O hi108_0; have HC108_0 := q73O hl108_0; clear hi108_0 hl108_0; replace p108 := eq_true p108; replace q108 := eq_true q108; refine start_ (n := 10) (S := fun w' => w'.cell? ⟨gb101, 0, none⟩ = some (.slice (some ad108) x102000_1.length co65) ∧ w'.cell? ⟨gb101, 1, none⟩ = some (.int .i64 (wrap64 (t106 + 1))) ∧ w'.cell? (ad107.add ((x5_1).toNat * 2)) = some (.int .i64 ((rd_T58 l1 x5_1).f0)) ∧ w'.cell? ⟨(ad107.add ((x5_1).toNat * 2)).block, (ad107.add ((x5_1).toNat * 2)).off + 1, none⟩ = some (.int .i64 ((rd_T58 l1 x5_1).f1)) ∧ w'.cell? (ad108.add (((rd_T58 l1 x5_1).f0)).toNat) = some (.slice A108_0 (rd_L4 x102000_1 ((rd_T58 l1 x5_1).f0)).length c108_0)) (ds := []) q73y0 qa7 rfl rfl ⟨qc0 BK101.out, qc1 BK101.out, ((HB.out.cell (q73L w _ hw107_0)).trans hw107_0), ((HB.out.cell (q73L w _ hw107_1)).trans hw107_1), hx108_0⟩ (fun hHeld => ?_); refine with_tabW spec_l06Write.tab8 spec_l06Write.bits8 (fun HT_ HW_ => ?_); generalize wr.drew = w64 at HO_102000 BK101 BK102 HB HL108_0 HR108_0 hx107_0 hx107_1 hx108_0 hHeld ⊢; refine pure_ (i := 0) (N := some 23) (v := ?_) (a' := ?_) q73y1 rfl rfl (any_of HT_.out qa7) (fun _ _ _ h => h) (Or.inl ⟨by rfl, ?_⟩) ?_ ?_; rotate_left
           ·intro w'
            go_simp; (with_reducible rfl)
           rotate_left
           ·simp only [Act.put, q73zA, q73zB, q73zC, i64_w, i32_w]
            rfl
           refine pure_ (i := 2) (N := some 25) (v := ?_) (a' := ?_) q73y2 rfl rfl (any_of HT_.out qa7) (fun _ _ _ h => h) (Or.inl ⟨by rfl, ?_⟩) ?_ ?_; rotate_left
           ·intro w'
            go_simp; (with_reducible rfl)
           rotate_left
           ·simp only [Act.put, q73zA, q73zB, q73zC, i64_w, i32_w]
            rfl
           refine pure_ (i := 3) (N := some 26) (v := ?_) (a' := ?_) q73y3 rfl rfl (any_of HT_.out qa7) (fun _ _ _ h => h) (Or.inl ⟨by rfl, ?_⟩) ?_ ?_; rotate_left
           ·intro w'
            go_simp; (with_reducible rfl)
           rotate_left
           ·simp only [Act.put, q73zA, q73zB, q73zC, i64_w, i32_w]
            rfl
           refine pure_ (i := 4) (N := some 27) (v := ?_) (a' := ?_) q73y4 rfl rfl (any_of HT_.out qa7) (fun _ _ _ h => h) (Or.inl ⟨by rfl, ?_⟩) ?_ ?_; rotate_left
           ·intro w'
            go_simp; (with_reducible rfl)
           rotate_left
           ·simp only [Act.put, q73zA, q73zB, q73zC, i64_w, i32_w]
            rfl
           refine pure_ (i := 5) (N := some 28) (v := ?_) (a' := ?_) q73y5 rfl rfl (any_of HT_.out qa7) (fun _ _ _ h => h) (Or.inl ⟨by rfl, ?_⟩) ?_ ?_; rotate_left
           ·intro w'
            go_simp; (with_reducible rfl)
           rotate_left
           ·simp only [Act.put, q73zA, q73zB, q73zC, i64_w, i32_w]
            rfl
           refine take_ (i := 1) (N := some 24) (v := ?_) (a' := ?_) q73y6 rfl rfl (take_ofW HT_.out HW_.out qa7) (fun _ _ _ h => h) (Or.inl ⟨by rfl, ?_⟩) hHeld ?_ ?_; rotate_left
           ·rintro w' ⟨s0, s1, s2, s3, s4⟩
            go_simp; (with_reducible rfl)
           rotate_left
           ·simp only [Act.put, q73zA, q73zB, q73zC, i64_w, i32_w]
            rfl
           refine take_ (i := 6) (N := some 29) (v := ?_) (a' := ?_) q73y7 rfl rfl (take_ofW HT_.out HW_.out qa7) (fun _ _ _ h => h) (Or.inl ⟨by rfl, ?_⟩) hHeld ?_ ?_; rotate_left
           ·rintro w' ⟨s0, s1, s2, s3, s4⟩
            go_simp; (with_reducible rfl)
           rotate_left
           ·simp only [Act.put, q73zA, q73zB, q73zC, i64_w, i32_w]
            rfl
           refine pure_ (i := 7) (N := some 30) (v := ?_) (a' := ?_) q73y8 rfl rfl (any_of HT_.out qa7) (fun _ _ _ h => h) (Or.inl ⟨by rfl, ?_⟩) ?_ ?_; rotate_left
           ·intro w'
            go_simp; (with_reducible rfl)
           rotate_left
           ·simp only [Act.put, q73zA, q73zB, q73zC, i64_w, i32_w]
            rfl
           refine take_ (i := 8) (N := some 31) (v := ?_) (a' := ?_) q73y9 rfl rfl (take_ofW HT_.out HW_.out qa7) (fun _ _ _ h => h) (Or.inl ⟨by rfl, ?_⟩) hHeld ?_ ?_; rotate_left
           ·rintro w' ⟨s0, s1, s2, s3, s4⟩
            go_simp; (with_reducible rfl)
           rotate_left
           ·simp only [Act.put, q73zA, q73zB, q73zC, i64_w, i32_w]
            rfl
           refine pure_ (i := 9) (N := some 6) (v := ?_) (a' := ?_) q73y10 rfl rfl (any_of HT_.out qa7) (fun _ _ _ h => h) (Or.inl ⟨by rfl, ?_⟩) ?_ ?_; rotate_left
           ·intro w'
            go_simp; (with_reducible rfl)
           rotate_left
           ·simp only [Act.put, q73zA, q73zB, q73zC, i64_w, i32_w]
            rfl
           refine done_ (done_of HT_.out qa7) ?_
           try go_wp2
           replace HO_102000 := q73O (Kd.N_drew HO_102000.out); replace HL108_0 := q73O (Kd.V_drew HL108_0.out); replace BK101 := q73O (q73kD BK101.out); replace BK102 := q73O (q73kD BK102.out); replace HR108_0 := q73O (Kd.C_drew HR108_0.out); replace HB := q73O (q73bD HB.out); refine start_ (n := 15) (S := fun w' => True) (ds := []) q73y11 qa7 rfl rfl trivial (fun hHeld => ?_); refine with_tabW spec_l06Write.tab9 spec_l06Write.bits9 (fun HT_ HW_ => ?_); generalize w64.drew = w66 at HO_102000 HL108_0 BK101 BK102 HR108_0 HB hHeld ⊢; refine pure_ (i := 0) (N := some 32) (v := ?_) (a' := ?_) q73y12 rfl rfl (any_of HT_.out qa7) (fun _ _ _ h => h) (Or.inl ⟨by rfl, ?_⟩) ?_ ?_; rotate_left
           ·intro w'
            go_simp; (with_reducible rfl)
           rotate_left
           ·simp only [Act.put, q73zA, q73zB, q73zC, i64_w, i32_w]
            rfl
           refine pure_ (i := 1) (N := some 33) (v := ?_) (a' := ?_) q73y13 rfl rfl (any_of HT_.out qa7) (fun _ _ _ h => h) (Or.inl ⟨by rfl, ?_⟩) ?_ ?_; rotate_left
           ·intro w'
            go_simp; (with_reducible rfl)
           rotate_left
           ·simp only [Act.put, q73zA, q73zB, q73zC, i64_w, i32_w]
            rfl
           refine pure_ (i := 2) (N := some 34) (v := ?_) (a' := ?_) q73y14 rfl rfl (any_of HT_.out qa7) (fun _ _ _ h => h) (Or.inl ⟨by rfl, ?_⟩) ?_ ?_; rotate_left
           ·intro w'
            go_simp; (with_reducible rfl)
           rotate_left
           ·simp only [Act.put, q73zA, q73zB, q73zC, i64_w, i32_w]
            rfl
           refine pure_ (i := 3) (N := some 35) (v := ?_) (a' := ?_) q73y15 rfl rfl (any_of HT_.out qa7) (fun _ _ _ h => h) (Or.inl ⟨by rfl, ?_⟩) ?_ ?_; rotate_left
           ·intro w'
            go_simp; (with_reducible rfl)
           rotate_left
           ·simp only [Act.put, q73zA, q73zB, q73zC, i64_w, i32_w]
            rfl
           refine pure_ (i := 4) (N := some 36) (v := undef) (a' := ?_) q73y16 rfl rfl (any_of HT_.out qa7) (fun _ _ _ h => h) (Or.inr ⟨by rfl, rfl⟩) ?_ ?_; rotate_left
           ·simp only [Act.put, q73zA, q73zB, q73zC, i64_w, i32_w]
            rfl
           refine pure_ (i := 5) (N := some 37) (v := undef) (a' := ?_) q73y17 rfl rfl (any_of HT_.out qa7) (fun _ _ _ h => h) (Or.inr ⟨by rfl, rfl⟩) ?_ ?_; rotate_left
           ·simp only [Act.put, q73zA, q73zB, q73zC, i64_w, i32_w]
            rfl
           refine pure_ (i := 6) (N := some 38) (v := undef) (a' := ?_) q73y18 rfl rfl (any_of HT_.out qa7) (fun _ _ _ h => h) (Or.inr ⟨by rfl, rfl⟩) ?_ ?_; rotate_left
           ·simp only [Act.put, q73zA, q73zB, q73zC, i64_w, i32_w]
            rfl
           refine pure_ (i := 7) (N := some 39) (v := undef) (a' := ?_) q73y19 rfl rfl (any_of HT_.out qa7) (fun _ _ _ h => h) (Or.inr ⟨by rfl, rfl⟩) ?_ ?_; rotate_left
           ·simp only [Act.put, q73zA, q73zB, q73zC, i64_w, i32_w]
            rfl
           refine pure_ (i := 8) (N := some 40) (v := undef) (a' := ?_) q73y20 rfl rfl (any_of HT_.out qa7) (fun _ _ _ h => h) (Or.inr ⟨by rfl, rfl⟩) ?_ ?_; rotate_left
           ·simp only [Act.put, q73zA, q73zB, q73zC, i64_w, i32_w]
            rfl
           refine pure_ (i := 9) (N := some 41) (v := undef) (a' := ?_) q73y21 rfl rfl (any_of HT_.out qa7) (fun _ _ _ h => h) (Or.inr ⟨by rfl, rfl⟩) ?_ ?_; rotate_left
           ·simp only [Act.put, q73zA, q73zB, q73zC, i64_w, i32_w]
            rfl
           refine pure_ (i := 10) (N := some 42) (v := undef) (a' := ?_) q73y52 rfl rfl (any_of HT_.out qa7) (fun _ _ _ h => h) (Or.inr ⟨by rfl, rfl⟩) ?_ ?_; rotate_left
           ·simp only [Act.put, q73zA, q73zB, q73zC, i64_w, i32_w]
            rfl
           refine pure_ (i := 11) (N := some 43) (v := undef) (a' := ?_) q73y23 rfl rfl (any_of HT_.out qa7) (fun _ _ _ h => h) (Or.inr ⟨by rfl, rfl⟩) ?_ ?_; rotate_left
           ·simp only [Act.put, q73zA, q73zB, q73zC, i64_w, i32_w]
            rfl
           refine pure_ (i := 12) (N := some 44) (v := undef) (a' := ?_) q73y24 rfl rfl (any_of HT_.out qa7) (fun _ _ _ h => h) (Or.inr ⟨by rfl, rfl⟩) ?_ ?_; rotate_left
           ·simp only [Act.put, q73zA, q73zB, q73zC, i64_w, i32_w]
            rfl
           refine pure_ (i := 13) (N := some 45) (v := undef) (a' := ?_) q73y25 rfl rfl (any_of HT_.out qa7) (fun _ _ _ h => h) (Or.inr ⟨by rfl, rfl⟩) ?_ ?_; rotate_left
           ·simp only [Act.put, q73zA, q73zB, q73zC, i64_w, i32_w]
            rfl
           refine pure_ (i := 14) (N := some 46) (v := ?_) (a' := ?_) q73y26 rfl rfl (any_of HT_.out qa7) (fun _ _ _ h => h) (Or.inl ⟨by rfl, ?_⟩) ?_ ?_; rotate_left
           ·intro w'
            go_simp; (with_reducible rfl)
           rotate_left
           ·simp only [Act.put, q73zA, q73zB, q73zC, i64_w, i32_w]
            rfl
           refine done_ (done_of HT_.out qa7) ?_
           try go_wp2
           replace HO_102000 := q73O (Kd.N_drew HO_102000.out); replace HL108_0 := q73O (Kd.V_drew HL108_0.out); replace BK101 := q73O (q73kD BK101.out); replace BK102 := q73O (q73kD BK102.out); replace HR108_0 := q73O (Kd.C_drew HR108_0.out); replace HB := q73O (q73bD HB.out); have p145 : 0 ≤ (x5_1 : Int) := q73T qa150; have q145 : x5_1 < (l1.length : Int) := q73T qa150; obtain ⟨ad145, e145, hx145_0, hx145_1⟩ := at_T58 HR1.out x5_1 p145 q145; have hw145_1 := hx145_1; have hw145_0 := hx145_0; obtain rfl : ad107 = ad145 := (by injection e145); replace hx145_0 := (HB.out.cell (q73L w _ hx145_0)).trans hx145_0; replace hx145_1 := (HB.out.cell (q73L w _ hx145_1)).trans hx145_1; replace p145 := eq_true p145; replace q145 := eq_true q145; have p152 : 0 ≤ (x5_1 : Int) := q73T qa150; have q152 : x5_1 < (l1.length : Int) := q73T qa150; obtain ⟨ad152, e152, hx152_0, hx152_1⟩ := at_T58 HR1.out x5_1 p152 q152; have hw152_1 := hx152_1; have hw152_0 := hx152_0; obtain rfl : ad107 = ad152 := (by injection e152); replace hx152_0 := (HB.out.cell (q73L w _ hx152_0)).trans hx152_0; replace hx152_1 := (HB.out.cell (q73L w _ hx152_1)).trans hx152_1; replace p152 := eq_true p152; replace q152 := eq_true q152; refine start_ (n := 22) (S := fun w' => w'.cell? ⟨gb101, 0, none⟩ = some (.slice (some ad108) x102000_1.length co65) ∧ w'.cell? ⟨gb101, 1, none⟩ = some (.int .i64 (wrap64 (t106 + 1))) ∧ w'.cell? (ad107.add ((x5_1).toNat * 2)) = some (.int .i64 ((rd_T58 l1 x5_1).f0)) ∧ w'.cell? ⟨(ad107.add ((x5_1).toNat * 2)).block, (ad107.add ((x5_1).toNat * 2)).off + 1, none⟩ = some (.int .i64 ((rd_T58 l1 x5_1).f1)) ∧ w'.cell? (ad107.add ((x5_1).toNat * 2)) = some (.int .i64 ((rd_T58 l1 x5_1).f0)) ∧ w'.cell? ⟨(ad107.add ((x5_1).toNat * 2)).block, (ad107.add ((x5_1).toNat * 2)).off + 1, none⟩ = some (.int .i64 ((rd_T58 l1 x5_1).f1))) (ds := [21]) q73y27 qa7 rfl rfl ⟨qc0 BK101.out, qc1 BK101.out, ((HB.out.cell (q73L w _ hw145_0)).trans hw145_0), ((HB.out.cell (q73L w _ hw145_1)).trans hw145_1), ((HB.out.cell (q73L w _ hw152_0)).trans hw152_0), ((HB.out.cell (q73L w _ hw152_1)).trans hw152_1)⟩ (fun hHeld => ?_); refine with_tabW spec_l06Write.tab11 spec_l06Write.bits11 (fun HT_ HW_ => ?_); generalize w66.drew = w67 at HO_102000 HL108_0 BK101 BK102 HR108_0 HB hx145_0 hx145_1 hx152_0 hx152_1 hHeld ⊢; refine pure_ (i := 0) (N := some 52) (v := ?_) (a' := ?_) q73y28 rfl rfl (any_of HT_.out qa7) (fun _ _ _ h => h) (Or.inl ⟨by rfl, ?_⟩) ?_ ?_; rotate_left
           ·intro w'
            go_simp; (with_reducible rfl)
           rotate_left
           ·simp only [Act.put, q73zA, q73zB, q73zC, i64_w, i32_w]
            rfl
           refine pure_ (i := 2) (N := some 54) (v := ?_) (a' := ?_) q73y29 rfl rfl (any_of HT_.out qa7) (fun _ _ _ h => h) (Or.inl ⟨by rfl, ?_⟩) ?_ ?_; rotate_left
           ·intro w'
            go_simp; (with_reducible rfl)
           rotate_left
           ·simp only [Act.put, q73zA, q73zB, q73zC, i64_w, i32_w]
            rfl
           refine pure_ (i := 3) (N := some 55) (v := ?_) (a' := ?_) q73y30 rfl rfl (any_of HT_.out qa7) (fun _ _ _ h => h) (Or.inl ⟨by rfl, ?_⟩) ?_ ?_; rotate_left
           ·intro w'
            go_simp; (with_reducible rfl)
           rotate_left
           ·simp only [Act.put, q73zA, q73zB, q73zC, i64_w, i32_w]
            rfl
           refine pure_ (i := 4) (N := some 56) (v := ?_) (a' := ?_) q73y31 rfl rfl (any_of HT_.out qa7) (fun _ _ _ h => h) (Or.inl ⟨by rfl, ?_⟩) ?_ ?_; rotate_left
           ·intro w'
            go_simp; (with_reducible rfl)
           rotate_left
           ·simp only [Act.put, q73zA, q73zB, q73zC, i64_w, i32_w]
            rfl
           refine pure_ (i := 5) (N := some 57) (v := ?_) (a' := ?_) q73y32 rfl rfl (any_of HT_.out qa7) (fun _ _ _ h => h) (Or.inl ⟨by rfl, ?_⟩) ?_ ?_; rotate_left
           ·intro w'
            go_simp; (with_reducible rfl)
           rotate_left
           ·simp only [Act.put, q73zA, q73zB, q73zC, i64_w, i32_w]
            rfl
           refine pure_ (i := 8) (N := some 60) (v := ?_) (a' := ?_) q73y33 rfl rfl (any_of HT_.out qa7) (fun _ _ _ h => h) (Or.inl ⟨by rfl, ?_⟩) ?_ ?_; rotate_left
           ·intro w'
            go_simp; (with_reducible rfl)
           rotate_left
           ·simp only [Act.put, q73zA, q73zB, q73zC, i64_w, i32_w]
            rfl
           refine pure_ (i := 10) (N := some 62) (v := ?_) (a' := ?_) q73y34 rfl rfl (any_of HT_.out qa7) (fun _ _ _ h => h) (Or.inl ⟨by rfl, ?_⟩) ?_ ?_; rotate_left
           ·intro w'
            go_simp; (with_reducible rfl)
           rotate_left
           ·simp only [Act.put, q73zA, q73zB, q73zC, i64_w, i32_w]
            rfl
           refine pure_ (i := 12) (N := some 64) (v := ?_) (a' := ?_) q73y35 rfl rfl (any_of HT_.out qa7) (fun _ _ _ h => h) (Or.inl ⟨by rfl, ?_⟩) ?_ ?_; rotate_left
           ·intro w'
            go_simp; (with_reducible rfl)
           rotate_left
           ·simp only [Act.put, q73zA, q73zB, q73zC, i64_w, i32_w]
            rfl
           refine pure_ (i := 13) (N := some 65) (v := ?_) (a' := ?_) q73y36 rfl rfl (any_of HT_.out qa7) (fun _ _ _ h => h) (Or.inl ⟨by rfl, ?_⟩) ?_ ?_; rotate_left
           ·intro w'
            go_simp; (with_reducible rfl)
           rotate_left
           ·simp only [Act.put, q73zA, q73zB, q73zC, i64_w, i32_w]
            rfl
           refine pure_ (i := 14) (N := some 66) (v := ?_) (a' := ?_) q73y37 rfl rfl (any_of HT_.out qa7) (fun _ _ _ h => h) (Or.inl ⟨by rfl, ?_⟩) ?_ ?_; rotate_left
           ·intro w'
            go_simp; (with_reducible rfl)
           rotate_left
           ·simp only [Act.put, q73zA, q73zB, q73zC, i64_w, i32_w]
            rfl
           refine pure_ (i := 15) (N := some 67) (v := ?_) (a' := ?_) q73y38 rfl rfl (any_of HT_.out qa7) (fun _ _ _ h => h) (Or.inl ⟨by rfl, ?_⟩) ?_ ?_; rotate_left
           ·intro w'
            go_simp; (with_reducible rfl)
           rotate_left
           ·simp only [Act.put, q73zA, q73zB, q73zC, i64_w, i32_w]
            rfl
           refine take_ (i := 1) (N := some 53) (v := ?_) (a' := ?_) q73y39 rfl rfl (take_ofW HT_.out HW_.out qa7) (fun _ _ _ h => h) (Or.inl ⟨by rfl, ?_⟩) hHeld ?_ ?_; rotate_left
           ·rintro w' ⟨s0, s1, s2, s3, s4, s5⟩
            go_simp; (with_reducible rfl)
           rotate_left
           ·simp only [Act.put, q73zA, q73zB, q73zC, i64_w, i32_w]
            rfl
           refine take_ (i := 6) (N := some 58) (v := ?_) (a' := ?_) q73y40 rfl rfl (take_ofW HT_.out HW_.out qa7) (fun _ _ _ h => h) (Or.inl ⟨by rfl, ?_⟩) hHeld ?_ ?_; rotate_left
           ·rintro w' ⟨s0, s1, s2, s3, s4, s5⟩
            go_simp; (with_reducible rfl)
           rotate_left
           ·simp only [Act.put, q73zA, q73zB, q73zC, i64_w, i32_w]
            rfl
           refine take_ (i := 11) (N := some 63) (v := ?_) (a' := ?_) q73y41 rfl rfl (take_ofW HT_.out HW_.out qa7) (fun _ _ _ h => h) (Or.inl ⟨by rfl, ?_⟩) hHeld ?_ ?_; rotate_left
           ·rintro w' ⟨s0, s1, s2, s3, s4, s5⟩
            go_simp; (with_reducible rfl)
           rotate_left
           ·simp only [Act.put, q73zA, q73zB, q73zC, i64_w, i32_w]
            rfl
           refine take_ (i := 16) (N := some 68) (v := ?_) (a' := ?_) q73y42 rfl rfl (take_ofW HT_.out HW_.out qa7) (fun _ _ _ h => h) (Or.inl ⟨by rfl, ?_⟩) hHeld ?_ ?_; rotate_left
           ·rintro w' ⟨s0, s1, s2, s3, s4, s5⟩
            go_simp; (with_reducible rfl)
           rotate_left
           ·simp only [Act.put, q73zA, q73zB, q73zC, i64_w, i32_w]
            rfl
           refine pure_ (i := 17) (N := some 69) (v := ?_) (a' := ?_) q73y43 rfl rfl (any_of HT_.out qa7) (fun _ _ _ h => h) (Or.inl ⟨by rfl, ?_⟩) ?_ ?_; rotate_left
           ·intro w'
            go_simp; (with_reducible rfl)
           rotate_left
           ·simp only [Act.put, q73zA, q73zB, q73zC, i64_w, i32_w]
            rfl
           refine join_ (σ := Value × Value × Value) 3 q73y44 (fun s_ => [(59, s_.1), (61, s_.2.1), (70, s_.2.2)]) (fun s_ w' => (w'.cell? ⟨gb101, 0, none⟩ = some (.slice (some ad108) x102000_1.length co65) ∧ w'.cell? ⟨gb101, 1, none⟩ = some (.int .i64 (wrap64 (t106 + 1))) ∧ w'.cell? (ad107.add ((x5_1).toNat * 2)) = some (.int .i64 ((rd_T58 l1 x5_1).f0)) ∧ w'.cell? ⟨(ad107.add ((x5_1).toNat * 2)).block, (ad107.add ((x5_1).toNat * 2)).off + 1, none⟩ = some (.int .i64 ((rd_T58 l1 x5_1).f1)) ∧ w'.cell? (ad107.add ((x5_1).toNat * 2)) = some (.int .i64 ((rd_T58 l1 x5_1).f0)) ∧ w'.cell? ⟨(ad107.add ((x5_1).toNat * 2)).block, (ad107.add ((x5_1).toNat * 2)).off + 1, none⟩ = some (.int .i64 ((rd_T58 l1 x5_1).f1))) ∧ (Kd.V k43 43 w' w.heap.size (fun k_ => (P0_0_ k_ ∨ w.heap.size ≤ k_) ∧ some k_ ≠ (s_.2.1 : Value).ownBlock ∧ some k_ ≠ (s_.2.2 : Value).ownBlock ∧ some k_ ≠ (.slice (some ad108) x102000_1.length co65 : Value).ownBlock ∧ k_ ≠ gb101 ∧ k_ ≠ gb102) (.slice A108_0 (rd_L4 x102000_1 ((rd_T58 l1 x5_1).f0)).length c108_0) (rd_L4 x102000_1 ((rd_T58 l1 x5_1).f0))) ∧ (Kd.R k43 43 w' w.heap.size (fun k_ => (w.heap.size ≤ k_) ∧ some k_ ≠ (s_.2.2 : Value).ownBlock) s_.2.1 y149) ∧ (Kd.R k43 43 w' w.heap.size (fun k_ => (w.heap.size ≤ k_) ∧ some k_ ≠ (s_.2.1 : Value).ownBlock) s_.2.2 y153) ∧ (Kd.N (Kd.slice 43 k43) 41 w' w.heap.size (fun k_ => (P0_0_ k_ ∨ w.heap.size ≤ k_) ∧ some k_ ≠ (s_.2.1 : Value).ownBlock ∧ some k_ ≠ (s_.2.2 : Value).ownBlock ∧ k_ ≠ gb101 ∧ k_ ≠ gb102) (.slice (some ad108) x102000_1.length co65) x102000_1) ∧ (w'.heap[gb101]? = some (.cells #[.slice (some ad108) x102000_1.length co65, .int .i64 (wrap64 (t106 + 1))] 28 (0, 0))) ∧ (w'.heap[gb102]? = some (.cells #[.slice none 0 0, .int .i64 0] 28 (0, 0))) ∧ (Below w.heap.size w w')) ?_ ?_; rotate_left
           ·intro hCont
            refine two_ (i := 7) (j := 18) (Ni := some 59) (Nj := some 70) q73y45 q73y46 rfl rfl rfl rfl (two_of HT_.out qa7) qa69 qa69 (fun K hK => ?_) (fun K hK => ?_)
            ·skip
             refine Kd.R_lit_step k43 _ 43 ?hg (N := 59) ?hd (xs := ([] : List (S43))) (inner := []) (ok := fun _ => True) (okp := fun _ => True) ?hr ?hp (fun _ hk => hk) trivial (Below.refl _ _) (Nat.le_refl _) qa120 ?_; (case hd => rfl); (case hg => rfl); (case hr => exact qa16); (case hp => exact qa207); intro v147 w68 ho69 hb hg_ hnew_; clear hg_ hnew_; (first | rw [← Ny146.out] at ho69 | (simp only [Int.reduceToNat] at ho69; rw [← Ny146.out] at ho69)); have HO148 := q73O (Kd.R_lower (Kd.R_newM (M := fun k_ => (w.heap.size ≤ k_)) ho69 (below_size qa6) (fun k_ h_ => h_)) (below_size qa6)); replace HO_102000 := q73O (Kd.N_elder' qa49 (Kd.R_base ho69) hb); replace HL108_0 := q73O (Kd.V_elder' qa58 (Kd.R_base ho69) hb); replace BK101 := q73O (blk_below (g := gb101) (o := .cells #[.slice (some ad108) x102000_1.length co65, .int .i64 (wrap64 (t106 + 1))] 28 (0, 0)) qa24 hb); replace BK102 := q73O (blk_below (g := gb102) (o := .cells #[.slice none 0 0, .int .i64 0] 28 (0, 0)) qa27 hb); replace HR108_0 := q73O (Kd.C_below qa33 hb); replace HB := q73O (below_step qa6 hb); clear hb ho69; refine hK.out _ _ ⟨qc0 BK101.out, qc1 BK101.out, ((HB.out.cell (q73L w _ hw145_0)).trans hw145_0), ((HB.out.cell (q73L w _ hw145_1)).trans hw145_1), ((HB.out.cell (q73L w _ hw152_0)).trans hw152_0), ((HB.out.cell (q73L w _ hw152_1)).trans hw152_1)⟩ (fun hHeld => ?_); clear hK K; refine norm_ (a' := ?_) ?_ ?_; rotate_left
             ·exact qa28
             refine two_ (i := 9) (j := 18) (Ni := some 61) (Nj := some 70) q73y47 q73y48 rfl rfl rfl rfl (two_of HT_.out qa7) qa69 qa69 (fun K hK => ?_) (fun K hK => ?_)
             ·skip
              refine Kd.R_append_rows_step k43 (w0 := w) w.heap.size (by rfl) (.tmp 59) (.tmp 60) 41 43 (.agg #[(.int .i64 0), (.int .i64 0)]) 16 rfl Try.underlying41 info43 rfl qa69 qa34 v147 y146 (rd_L4 x102000_1 ((rd_T58 l1 x5_1).f0)) _ _ _ (fun k_ => (w.heap.size ≤ k_)) (fun _ => False) rfl rfl ?aO ?aR (fun _ _ h => h) (fun _ h => h.elim) ?aF ?aB ?aS ?aL ?_; (case aR => exact qa51); (case aB => exact qa48); (case aF => exact qa128); (case aO => exact (by (with_reducible repeat (first | apply Kd.R_alloc | apply Kd.R_drewN | apply Kd.R_drew)); exact Kd.R_mono HO148.out (fun _ hk => hk.1))); (case aS => exact qa41); (case aL => have := LMc61.out; omega); intro v150 w70 ho hb hg hat; rw [← Ny149.out] at ho; have n0_ := q73O (Kd.N_afterv (ok := (fun k_ => (P0_0_ k_ ∨ w.heap.size ≤ k_) ∧ k_ ≠ gb101 ∧ k_ ≠ gb102)) qa49 hg hat); have n1_ := q73O (blk_grown (g := gb101) (o := .cells #[.slice (some ad108) x102000_1.length co65, .int .i64 (wrap64 (t106 + 1))] 28 (0, 0)) qa24 hg (Kd.R_ne HO148.out BK101.out qa69)); have n2_ := q73O (blk_grown (g := gb102) (o := .cells #[.slice none 0 0, .int .i64 0] 28 (0, 0)) qa27 hg (Kd.R_ne HO148.out BK102.out qa69)); have n3_ := q73O (Kd.V_afterv (ok := (fun k_ => (P0_0_ k_ ∨ w.heap.size ≤ k_) ∧ some k_ ≠ (.slice (some ad108) x102000_1.length co65 : Value).ownBlock ∧ k_ ≠ gb101 ∧ k_ ≠ gb102)) qa142 hg hat); have n4_ := q73O (hb); have n5_ := q73O (ho); clear HO_102000 BK101 BK102 HL108_0 HB HO148; have HO_102000 := n0_; have BK101 := n1_; have BK102 := n2_; have HL108_0 := n3_; have HB := n4_; have HO151 := n5_; clear n0_ n1_ n2_ n3_ n4_ n5_ ho hb hg hat; refine hK.out _ _ ⟨qc0 BK101.out, qc1 BK101.out, ((HB.out.cell (q73L w _ hw145_0)).trans hw145_0), ((HB.out.cell (q73L w _ hw145_1)).trans hw145_1), ((HB.out.cell (q73L w _ hw152_0)).trans hw152_0), ((HB.out.cell (q73L w _ hw152_1)).trans hw152_1)⟩ (fun hHeld => ?_); clear hK K; refine norm_ (a' := ?_) ?_ ?_; rotate_left
              ·exact qa28
              refine one_ (i := 18) (N := some 70) q73y44 rfl rfl (one_of HT_.out qa7) qa69 (fun K hK => ?_); refine Kd.R_lit_step k43 _ 43 ?hg (N := 70) ?hd (xs := ([(⟨(wrap64 (t106 + 1)), (rd_T58 l1 x5_1).f1⟩ : S43)] : List (S43))) (inner := [.int .i64 (wrap64 (t106 + 1)), .int .i64 ((rd_T58 l1 x5_1).f1)]) (ok := fun _ => True) (okp := fun _ => True) ?hr ?hp (fun _ hk => hk) trivial (Below.refl _ _) (Nat.le_refl _) qa120 ?_; (case hd => rfl); (case hg => rfl); (case hr => exact qa16); (case hp => exact qa46); intro v154 w71 ho72 hb hg_ hnew_; clear hg_ hnew_; (first | rw [← Ny153.out] at ho72 | (simp only [Int.reduceToNat] at ho72; rw [← Ny153.out] at ho72)); have HO155 := q73O (Kd.R_lower (Kd.R_new' (Kd.R_newM (M := fun k_ => (w.heap.size ≤ k_)) ho72 (below_size qa6) (fun k_ h_ => h_)) (Kd.R_lt qa199)) (below_size qa6)); replace HO_102000 := q73O (Kd.N_elder' qa49 (Kd.R_base ho72) hb); replace HL108_0 := q73O (Kd.V_elder' qa58 (Kd.R_base ho72) hb); replace HO151 := q73O (Kd.R_elder' qa199 (Kd.R_base ho72) hb); replace BK101 := q73O (blk_below (g := gb101) (o := .cells #[.slice (some ad108) x102000_1.length co65, .int .i64 (wrap64 (t106 + 1))] 28 (0, 0)) qa24 hb); replace BK102 := q73O (blk_below (g := gb102) (o := .cells #[.slice none 0 0, .int .i64 0] 28 (0, 0)) qa27 hb); replace HB := q73O (below_step qa6 hb); clear hb ho72; refine hK.out _ _ ⟨qc0 BK101.out, qc1 BK101.out, ((HB.out.cell (q73L w _ hw145_0)).trans hw145_0), ((HB.out.cell (q73L w _ hw145_1)).trans hw145_1), ((HB.out.cell (q73L w _ hw152_0)).trans hw152_0), ((HB.out.cell (q73L w _ hw152_1)).trans hw152_1)⟩ (fun hHeld => ?_); clear hK K; refine norm_ (a' := ?_) ?_ ?_; rotate_left
              ·exact qa28
              exact norm_ (by simp only [putAll, Act.put, q73zA, q73zB, q73zC]) (hCont (v147, v150, v154) _ ⟨hHeld, (by (with_reducible repeat (first | apply Kd.V_alloc | apply Kd.V_drewN | apply Kd.V_drew)); exact Kd.V_mono HL108_0.out (fun _ hk => ⟨hk.1.1.1, ⟨hk.1.2, ⟨hk.2, ⟨hk.1.1.2.1, ⟨hk.1.1.2.2.1, hk.1.1.2.2.2⟩⟩⟩⟩⟩)), (by (with_reducible repeat (first | apply Kd.R_alloc | apply Kd.R_drewN | apply Kd.R_drew)); exact HO151.out), (by (with_reducible repeat (first | apply Kd.R_alloc | apply Kd.R_drewN | apply Kd.R_drew)); exact Kd.R_mono HO155.out (fun _ hk => ⟨hk.1.1, hk.2⟩)), (by (with_reducible repeat (first | apply Kd.N_alloc | apply Kd.N_drewN | apply Kd.N_drew)); exact Kd.N_mono HO_102000.out (fun _ hk => ⟨hk.1.1.1, ⟨hk.1.2, ⟨hk.2, ⟨hk.1.1.2.1, hk.1.1.2.2⟩⟩⟩⟩)), (by (with_reducible repeat (first | refine q73kN ?_ _ | refine q73kD ?_ | refine q73kA ?_ _)); exact BK101.out), (by (with_reducible repeat (first | refine q73kN ?_ _ | refine q73kD ?_ | refine q73kA ?_ _)); exact BK102.out), (by repeat (first | (with_reducible first | exact HB.out | apply q73bA | apply q73bN | apply q73bD | refine q73bS ?_ GE101.out | refine q73bS ?_ GE102.out) | exact HB.out))⟩)
             ·skip
              refine Kd.R_lit_step k43 _ 43 ?hg (N := 70) ?hd (xs := ([(⟨(wrap64 (t106 + 1)), (rd_T58 l1 x5_1).f1⟩ : S43)] : List (S43))) (inner := [.int .i64 (wrap64 (t106 + 1)), .int .i64 ((rd_T58 l1 x5_1).f1)]) (ok := fun _ => True) (okp := fun _ => True) ?hr ?hp (fun _ hk => hk) trivial (Below.refl _ _) (Nat.le_refl _) qa120 ?_; (case hd => rfl); (case hg => rfl); (case hr => exact qa16); (case hp => exact qa46); intro v154 w70 ho71 hb hg_ hnew_; clear hg_ hnew_; (first | rw [← Ny153.out] at ho71 | (simp only [Int.reduceToNat] at ho71; rw [← Ny153.out] at ho71)); have HO155 := q73O (Kd.R_lower (Kd.R_new' (Kd.R_newM (M := fun k_ => (w.heap.size ≤ k_)) ho71 (below_size qa6) (fun k_ h_ => h_)) (Kd.R_lt qa200)) (below_size qa6)); replace HO_102000 := q73O (Kd.N_elder' qa49 (Kd.R_base ho71) hb); replace HL108_0 := q73O (Kd.V_elder' qa58 (Kd.R_base ho71) hb); replace HO148 := q73O (Kd.R_elder' qa200 (Kd.R_base ho71) hb); replace BK101 := q73O (blk_below (g := gb101) (o := .cells #[.slice (some ad108) x102000_1.length co65, .int .i64 (wrap64 (t106 + 1))] 28 (0, 0)) qa24 hb); replace BK102 := q73O (blk_below (g := gb102) (o := .cells #[.slice none 0 0, .int .i64 0] 28 (0, 0)) qa27 hb); replace HR108_0 := q73O (Kd.C_below qa33 hb); replace HB := q73O (below_step qa6 hb); clear hb ho71; refine hK.out _ _ ⟨qc0 BK101.out, qc1 BK101.out, ((HB.out.cell (q73L w _ hw145_0)).trans hw145_0), ((HB.out.cell (q73L w _ hw145_1)).trans hw145_1), ((HB.out.cell (q73L w _ hw152_0)).trans hw152_0), ((HB.out.cell (q73L w _ hw152_1)).trans hw152_1)⟩ (fun hHeld => ?_); clear hK K; refine norm_ (a' := ?_) ?_ ?_; rotate_left
              ·exact qa28
              refine one_ (i := 9) (N := some 61) q73y44 rfl rfl (one_of HT_.out qa7) qa69 (fun K hK => ?_); refine Kd.R_append_rows_step k43 (w0 := w) w.heap.size (by rfl) (.tmp 59) (.tmp 60) 41 43 (.agg #[(.int .i64 0), (.int .i64 0)]) 16 rfl Try.underlying41 info43 rfl qa69 qa34 v147 y146 (rd_L4 x102000_1 ((rd_T58 l1 x5_1).f0)) _ _ _ (fun k_ => (w.heap.size ≤ k_) ∧ some k_ ≠ (v154 : Value).ownBlock) (fun _ => False) rfl rfl ?aO ?aR (fun _ _ h => h) (fun _ h => h.elim) ?aF ?aB ?aS ?aL ?_; (case aR => exact qa51); (case aB => exact qa48); (case aF => exact qa92); (case aO => exact qa180); (case aS => exact qa41); (case aL => have := LMc61.out; omega); intro v150 w72 ho hb hg hat; rw [← Ny149.out] at ho; have n0_ := q73O (Kd.N_afterv (ok := (fun k_ => (P0_0_ k_ ∨ w.heap.size ≤ k_) ∧ some k_ ≠ (v154 : Value).ownBlock ∧ k_ ≠ gb101 ∧ k_ ≠ gb102)) qa139 hg hat); have n1_ := q73O (blk_grown (g := gb101) (o := .cells #[.slice (some ad108) x102000_1.length co65, .int .i64 (wrap64 (t106 + 1))] 28 (0, 0)) qa24 hg (Kd.R_ne HO148.out BK101.out qa69)); have n2_ := q73O (blk_grown (g := gb102) (o := .cells #[.slice none 0 0, .int .i64 0] 28 (0, 0)) qa27 hg (Kd.R_ne HO148.out BK102.out qa69)); have n3_ := q73O (Kd.V_afterv (ok := (fun k_ => (P0_0_ k_ ∨ w.heap.size ≤ k_) ∧ some k_ ≠ (.slice (some ad108) x102000_1.length co65 : Value).ownBlock ∧ some k_ ≠ (v154 : Value).ownBlock ∧ k_ ≠ gb101 ∧ k_ ≠ gb102)) qa130 hg hat); have n4_ := q73O (Kd.R_after (ok := (fun k_ => (w.heap.size ≤ k_))) qa181 hg hat); have n5_ := q73O (hb); have n6_ := q73O (ho); clear HO_102000 BK101 BK102 HL108_0 HO155 HB HO148; have HO_102000 := n0_; have BK101 := n1_; have BK102 := n2_; have HL108_0 := n3_; have HO155 := n4_; have HB := n5_; have HO151 := n6_; clear n0_ n1_ n2_ n3_ n4_ n5_ n6_ ho hb hg hat; refine hK.out _ _ ⟨qc0 BK101.out, qc1 BK101.out, ((HB.out.cell (q73L w _ hw145_0)).trans hw145_0), ((HB.out.cell (q73L w _ hw145_1)).trans hw145_1), ((HB.out.cell (q73L w _ hw152_0)).trans hw152_0), ((HB.out.cell (q73L w _ hw152_1)).trans hw152_1)⟩ (fun hHeld => ?_); clear hK K; refine norm_ (a' := ?_) ?_ ?_; rotate_left
              ·exact qa28
              exact norm_ (by simp only [putAll, Act.put, q73zA, q73zB, q73zC]) (hCont (v147, v150, v154) _ ⟨hHeld, (by (with_reducible repeat (first | apply Kd.V_alloc | apply Kd.V_drewN | apply Kd.V_drew)); exact Kd.V_mono HL108_0.out (fun _ hk => ⟨hk.1.1, ⟨hk.2, ⟨hk.1.2.2.1, ⟨hk.1.2.1, ⟨hk.1.2.2.2.1, hk.1.2.2.2.2⟩⟩⟩⟩⟩)), (by (with_reducible repeat (first | apply Kd.R_alloc | apply Kd.R_drewN | apply Kd.R_drew)); exact HO151.out), (by (with_reducible repeat (first | apply Kd.R_alloc | apply Kd.R_drewN | apply Kd.R_drew)); exact HO155.out), (by (with_reducible repeat (first | apply Kd.N_alloc | apply Kd.N_drewN | apply Kd.N_drew)); exact Kd.N_mono HO_102000.out (fun _ hk => ⟨hk.1.1, ⟨hk.2, ⟨hk.1.2.1, ⟨hk.1.2.2.1, hk.1.2.2.2⟩⟩⟩⟩)), (by (with_reducible repeat (first | refine q73kN ?_ _ | refine q73kD ?_ | refine q73kA ?_ _)); exact BK101.out), (by (with_reducible repeat (first | refine q73kN ?_ _ | refine q73kD ?_ | refine q73kA ?_ _)); exact BK102.out), (by repeat (first | (with_reducible first | exact HB.out | apply q73bA | apply q73bN | apply q73bD | refine q73bS ?_ GE101.out | refine q73bS ?_ GE102.out) | exact HB.out))⟩)
            ·skip
             refine Kd.R_lit_step k43 _ 43 ?hg (N := 70) ?hd (xs := ([(⟨(wrap64 (t106 + 1)), (rd_T58 l1 x5_1).f1⟩ : S43)] : List (S43))) (inner := [.int .i64 (wrap64 (t106 + 1)), .int .i64 ((rd_T58 l1 x5_1).f1)]) (ok := fun _ => True) (okp := fun _ => True) ?hr ?hp (fun _ hk => hk) trivial (Below.refl _ _) (Nat.le_refl _) qa120 ?_; (case hd => rfl); (case hg => rfl); (case hr => exact qa16); (case hp => exact qa46); intro v154 w68 ho69 hb hg_ hnew_; clear hg_ hnew_; (first | rw [← Ny153.out] at ho69 | (simp only [Int.reduceToNat] at ho69; rw [← Ny153.out] at ho69)); have HO155 := q73O (Kd.R_lower (Kd.R_newM (M := fun k_ => (w.heap.size ≤ k_)) ho69 (below_size qa6) (fun k_ h_ => h_)) (below_size qa6)); replace HO_102000 := q73O (Kd.N_elder' qa49 (Kd.R_base ho69) hb); replace HL108_0 := q73O (Kd.V_elder' qa58 (Kd.R_base ho69) hb); replace BK101 := q73O (blk_below (g := gb101) (o := .cells #[.slice (some ad108) x102000_1.length co65, .int .i64 (wrap64 (t106 + 1))] 28 (0, 0)) qa24 hb); replace BK102 := q73O (blk_below (g := gb102) (o := .cells #[.slice none 0 0, .int .i64 0] 28 (0, 0)) qa27 hb); replace HR108_0 := q73O (Kd.C_below qa33 hb); replace HB := q73O (below_step qa6 hb); clear hb ho69; refine hK.out _ _ ⟨qc0 BK101.out, qc1 BK101.out, ((HB.out.cell (q73L w _ hw145_0)).trans hw145_0), ((HB.out.cell (q73L w _ hw145_1)).trans hw145_1), ((HB.out.cell (q73L w _ hw152_0)).trans hw152_0), ((HB.out.cell (q73L w _ hw152_1)).trans hw152_1)⟩ (fun hHeld => ?_); clear hK K; refine norm_ (a' := ?_) ?_ ?_; rotate_left
             ·exact qa28
             refine one_ (i := 7) (N := some 59) q73y48 rfl rfl (one_of HT_.out qa7) qa69 (fun K hK => ?_); refine Kd.R_lit_step k43 _ 43 ?hg (N := 59) ?hd (xs := ([] : List (S43))) (inner := []) (ok := fun _ => True) (okp := fun _ => True) ?hr ?hp (fun _ hk => hk) trivial (Below.refl _ _) (Nat.le_refl _) qa120 ?_; (case hd => rfl); (case hg => rfl); (case hr => exact qa16); (case hp => exact qa207); intro v147 w70 ho71 hb hg_ hnew_; clear hg_ hnew_; (first | rw [← Ny146.out] at ho71 | (simp only [Int.reduceToNat] at ho71; rw [← Ny146.out] at ho71)); have HO148 := q73O (Kd.R_lower (Kd.R_new' (Kd.R_newM (M := fun k_ => (w.heap.size ≤ k_)) ho71 (below_size qa6) (fun k_ h_ => h_)) (Kd.R_lt qa172)) (below_size qa6)); replace HO_102000 := q73O (Kd.N_elder' qa49 (Kd.R_base ho71) hb); replace HL108_0 := q73O (Kd.V_elder' qa58 (Kd.R_base ho71) hb); replace HO155 := q73O (Kd.R_elder' qa172 (Kd.R_base ho71) hb); replace BK101 := q73O (blk_below (g := gb101) (o := .cells #[.slice (some ad108) x102000_1.length co65, .int .i64 (wrap64 (t106 + 1))] 28 (0, 0)) qa24 hb); replace BK102 := q73O (blk_below (g := gb102) (o := .cells #[.slice none 0 0, .int .i64 0] 28 (0, 0)) qa27 hb); replace HR108_0 := q73O (Kd.C_below qa33 hb); replace HB := q73O (below_step qa6 hb); clear hb ho71; refine hK.out _ _ ⟨qc0 BK101.out, qc1 BK101.out, ((HB.out.cell (q73L w _ hw145_0)).trans hw145_0), ((HB.out.cell (q73L w _ hw145_1)).trans hw145_1), ((HB.out.cell (q73L w _ hw152_0)).trans hw152_0), ((HB.out.cell (q73L w _ hw152_1)).trans hw152_1)⟩ (fun hHeld => ?_); clear hK K; refine norm_ (a' := ?_) ?_ ?_; rotate_left
             ·exact qa28
             refine one_ (i := 9) (N := some 61) q73y44 rfl rfl (one_of HT_.out qa7) qa69 (fun K hK => ?_); refine Kd.R_append_rows_step k43 (w0 := w) w.heap.size (by rfl) (.tmp 59) (.tmp 60) 41 43 (.agg #[(.int .i64 0), (.int .i64 0)]) 16 rfl Try.underlying41 info43 rfl qa69 qa34 v147 y146 (rd_L4 x102000_1 ((rd_T58 l1 x5_1).f0)) _ _ _ (fun k_ => (w.heap.size ≤ k_) ∧ some k_ ≠ (v154 : Value).ownBlock) (fun _ => False) rfl rfl ?aO ?aR (fun _ _ h => h) (fun _ h => h.elim) ?aF ?aB ?aS ?aL ?_; (case aR => exact qa51); (case aB => exact qa48); (case aF => exact qa92); (case aO => exact qa180); (case aS => exact qa41); (case aL => have := LMc61.out; omega); intro v150 w72 ho hb hg hat; rw [← Ny149.out] at ho; have n0_ := q73O (Kd.N_afterv (ok := (fun k_ => (P0_0_ k_ ∨ w.heap.size ≤ k_) ∧ some k_ ≠ (v154 : Value).ownBlock ∧ k_ ≠ gb101 ∧ k_ ≠ gb102)) qa140 hg hat); have n1_ := q73O (blk_grown (g := gb101) (o := .cells #[.slice (some ad108) x102000_1.length co65, .int .i64 (wrap64 (t106 + 1))] 28 (0, 0)) qa24 hg (Kd.R_ne HO148.out BK101.out qa69)); have n2_ := q73O (blk_grown (g := gb102) (o := .cells #[.slice none 0 0, .int .i64 0] 28 (0, 0)) qa27 hg (Kd.R_ne HO148.out BK102.out qa69)); have n3_ := q73O (Kd.V_afterv (ok := (fun k_ => (P0_0_ k_ ∨ w.heap.size ≤ k_) ∧ some k_ ≠ (.slice (some ad108) x102000_1.length co65 : Value).ownBlock ∧ some k_ ≠ (v154 : Value).ownBlock ∧ k_ ≠ gb101 ∧ k_ ≠ gb102)) qa131 hg hat); have n4_ := q73O (Kd.R_after (ok := (fun k_ => (w.heap.size ≤ k_))) qa181 hg hat); have n5_ := q73O (hb); have n6_ := q73O (ho); clear HO_102000 BK101 BK102 HL108_0 HO155 HB HO148; have HO_102000 := n0_; have BK101 := n1_; have BK102 := n2_; have HL108_0 := n3_; have HO155 := n4_; have HB := n5_; have HO151 := n6_; clear n0_ n1_ n2_ n3_ n4_ n5_ n6_ ho hb hg hat; refine hK.out _ _ ⟨qc0 BK101.out, qc1 BK101.out, ((HB.out.cell (q73L w _ hw145_0)).trans hw145_0), ((HB.out.cell (q73L w _ hw145_1)).trans hw145_1), ((HB.out.cell (q73L w _ hw152_0)).trans hw152_0), ((HB.out.cell (q73L w _ hw152_1)).trans hw152_1)⟩ (fun hHeld => ?_); clear hK K; refine norm_ (a' := ?_) ?_ ?_; rotate_left
             ·exact qa28
             exact norm_ (by simp only [putAll, Act.put, q73zA, q73zB, q73zC]) (hCont (v147, v150, v154) _ ⟨hHeld, (by (with_reducible repeat (first | apply Kd.V_alloc | apply Kd.V_drewN | apply Kd.V_drew)); exact Kd.V_mono HL108_0.out (fun _ hk => ⟨hk.1.1, ⟨hk.2, ⟨hk.1.2.2.1, ⟨hk.1.2.1, ⟨hk.1.2.2.2.1, hk.1.2.2.2.2⟩⟩⟩⟩⟩)), (by (with_reducible repeat (first | apply Kd.R_alloc | apply Kd.R_drewN | apply Kd.R_drew)); exact HO151.out), (by (with_reducible repeat (first | apply Kd.R_alloc | apply Kd.R_drewN | apply Kd.R_drew)); exact HO155.out), (by (with_reducible repeat (first | apply Kd.N_alloc | apply Kd.N_drewN | apply Kd.N_drew)); exact Kd.N_mono HO_102000.out (fun _ hk => ⟨hk.1.1, ⟨hk.2, ⟨hk.1.2.1, ⟨hk.1.2.2.1, hk.1.2.2.2⟩⟩⟩⟩)), (by (with_reducible repeat (first | refine q73kN ?_ _ | refine q73kD ?_ | refine q73kA ?_ _)); exact BK101.out), (by (with_reducible repeat (first | refine q73kN ?_ _ | refine q73kD ?_ | refine q73kA ?_ _)); exact BK102.out), (by repeat (first | (with_reducible first | exact HB.out | apply q73bA | apply q73bN | apply q73bD | refine q73bS ?_ GE101.out | refine q73bS ?_ GE102.out) | exact HB.out))⟩)
           rintro ⟨v147, v150, v154⟩ w73 ⟨hS_, h0_, h1_, h2_, h3_, h4_, h5_, h6_⟩; have n0_ : Aside0 (Kd.V k43 43 w73 w.heap.size (fun k_ => (P0_0_ k_ ∨ w.heap.size ≤ k_) ∧ some k_ ≠ (v150 : Value).ownBlock ∧ some k_ ≠ (v154 : Value).ownBlock ∧ some k_ ≠ (.slice (some ad108) x102000_1.length co65 : Value).ownBlock ∧ k_ ≠ gb101 ∧ k_ ≠ gb102) (.slice A108_0 (rd_L4 x102000_1 ((rd_T58 l1 x5_1).f0)).length c108_0) (rd_L4 x102000_1 ((rd_T58 l1 x5_1).f0))) := ⟨h0_⟩; have n1_ : Aside0 (Kd.R k43 43 w73 w.heap.size (fun k_ => (w.heap.size ≤ k_) ∧ some k_ ≠ (v154 : Value).ownBlock) v150 y149) := ⟨h1_⟩; have n2_ : Aside0 (Kd.R k43 43 w73 w.heap.size (fun k_ => (w.heap.size ≤ k_) ∧ some k_ ≠ (v150 : Value).ownBlock) v154 y153) := ⟨h2_⟩; have n3_ : Aside0 (Kd.N (Kd.slice 43 k43) 41 w73 w.heap.size (fun k_ => (P0_0_ k_ ∨ w.heap.size ≤ k_) ∧ some k_ ≠ (v150 : Value).ownBlock ∧ some k_ ≠ (v154 : Value).ownBlock ∧ k_ ≠ gb101 ∧ k_ ≠ gb102) (.slice (some ad108) x102000_1.length co65) x102000_1) := ⟨h3_⟩; have n4_ : Aside0 (w73.heap[gb101]? = some (.cells #[.slice (some ad108) x102000_1.length co65, .int .i64 (wrap64 (t106 + 1))] 28 (0, 0))) := ⟨h4_⟩; have n5_ : Aside0 (w73.heap[gb102]? = some (.cells #[.slice none 0 0, .int .i64 0] 28 (0, 0))) := ⟨h5_⟩; have n6_ : Aside0 (Below w.heap.size w w73) := ⟨h6_⟩; clear HO_102000 HL108_0 BK101 BK102 HR108_0 HB h0_ h1_ h2_ h3_ h4_ h5_ h6_; have HL108_0 := n0_; have HO151 := n1_; have HO155 := n2_; have HO_102000 := n3_; have BK101 := n4_; have BK102 := n5_; have HB := n6_; clear n0_ n1_ n2_ n3_ n4_ n5_ n6_; have hHeld : w73.cell? ⟨gb101, 0, none⟩ = some (.slice (some ad108) x102000_1.length co65) ∧ w73.cell? ⟨gb101, 1, none⟩ = some (.int .i64 (wrap64 (t106 + 1))) ∧ w73.cell? (ad107.add ((x5_1).toNat * 2)) = some (.int .i64 ((rd_T58 l1 x5_1).f0)) ∧ w73.cell? ⟨(ad107.add ((x5_1).toNat * 2)).block, (ad107.add ((x5_1).toNat * 2)).off + 1, none⟩ = some (.int .i64 ((rd_T58 l1 x5_1).f1)) ∧ w73.cell? (ad107.add ((x5_1).toNat * 2)) = some (.int .i64 ((rd_T58 l1 x5_1).f0)) ∧ w73.cell? ⟨(ad107.add ((x5_1).toNat * 2)).block, (ad107.add ((x5_1).toNat * 2)).off + 1, none⟩ = some (.int .i64 ((rd_T58 l1 x5_1).f1)) := hS_; obtain ⟨Ao75, co75, eo75⟩ := Kd.R_slice HO155.out; (first | subst eo75 | (injection eo75 with f1_ f2_ f3_; have f4_ := f1_.symm; have f5_ := f3_.symm; clear f1_ f2_ f3_; subst f4_; subst f5_)); refine norm_ (a' := ?_) ?_ ?_; rotate_left
           ·simp only [putAll, Act.put, q73zA, q73zB, q73zC]
            rfl
           refine one_ (i := 19) (N := some 71) q73y49 rfl rfl (one_of HT_.out qa7) qa69 (fun K hK => ?_); refine Kd.R_append_rows_step k43 (w0 := w) w.heap.size (by rfl) (.tmp 61) (.tmp 70) 41 43 (.agg #[(.int .i64 0), (.int .i64 0)]) 16 rfl Try.underlying41 info43 rfl qa69 qa34 v150 y149 y153 _ _ _ (fun k_ => (w.heap.size ≤ k_) ∧ some k_ ≠ (.slice Ao75 y153.length co75 : Value).ownBlock) (fun _ => False) rfl rfl ?aO ?aR (fun _ _ h => h) (fun _ h => h.elim) ?aF ?aB ?aS ?aL ?_; (case aR => repeat (first | exact (Kd.R_reads' HO155.out).2.2 | with_reducible first | refine Kd.C_alloc ?_ _ | refine Kd.C_drewN ?_ _ | refine Kd.C_drew ?_)); (case aB => exact qa48); (case aF => exact qa92); (case aO => exact (by (with_reducible repeat (first | apply Kd.R_alloc | apply Kd.R_drewN | apply Kd.R_drew)); exact HO151.out)); (case aS => exact qa41); (case aL => have := LMc62.out; omega); intro v157 w74 ho hb hg hat; rw [← Ny156.out] at ho; have n0_ := q73O (Kd.N_afterv (ok := (fun k_ => (P0_0_ k_ ∨ w.heap.size ≤ k_) ∧ some k_ ≠ (.slice Ao75 y153.length co75 : Value).ownBlock ∧ k_ ≠ gb101 ∧ k_ ≠ gb102)) qa141 hg hat); have n1_ := q73O (blk_grown (g := gb101) (o := .cells #[.slice (some ad108) x102000_1.length co65, .int .i64 (wrap64 (t106 + 1))] 28 (0, 0)) qa24 hg (Kd.R_ne HO151.out BK101.out qa69)); have n2_ := q73O (blk_grown (g := gb102) (o := .cells #[.slice none 0 0, .int .i64 0] 28 (0, 0)) qa27 hg (Kd.R_ne HO151.out BK102.out qa69)); have n3_ := q73O (Kd.V_afterv (ok := (fun k_ => (P0_0_ k_ ∨ w.heap.size ≤ k_) ∧ some k_ ≠ (.slice (some ad108) x102000_1.length co65 : Value).ownBlock ∧ some k_ ≠ (.slice Ao75 y153.length co75 : Value).ownBlock ∧ k_ ≠ gb101 ∧ k_ ≠ gb102)) qa132 hg hat); have n4_ := q73O (Kd.R_after (ok := (fun k_ => (w.heap.size ≤ k_))) qa172 hg hat); have n5_ := q73O (hb); have n6_ := q73O (ho); clear HO_102000 BK101 BK102 HL108_0 HO155 HB HO151; have HO_102000 := n0_; have BK101 := n1_; have BK102 := n2_; have HL108_0 := n3_; have HO155 := n4_; have HB := n5_; have HO158 := n6_; clear n0_ n1_ n2_ n3_ n4_ n5_ n6_; obtain ⟨Av76, cv76, ev76⟩ := Kd.R_slice HO158.out; subst ev76; clear ho hb hg hat; have p63 : 0 ≤ (((rd_T58 l1 x5_1).f0) : Int) := q73T qa150; have q63 : (((rd_T58 l1 x5_1).f0) : Int) < ((x102000_1.length : Int) : Int) := q73T qa150; obtain ⟨go63, co63, eo63, gb63, gl63, cl63, HG63⟩ := Kd.N_form HO_102000.out qa34; (first | cases eo63 | (injection eo63 with ea_ en_ ec_; (first | subst ea_ | (injection ea_ with ea_; subst ea_)); subst ec_; clear en_)); have GB63 := q73O gb63; have GG63 := q73O HG63; clear gb63 gl63 HG63; (first | simp only [add_plain] at hx108_0 | skip); obtain ⟨ce63, hcl63, hM63, hcc63, hfr63⟩ := Kd.N_elem HO_102000.out [] (((rd_T58 l1 x5_1).f0) : Int) p63 q63; obtain ⟨ua63_0, uc63_0, rfl, ul63_0, ge63_0⟩ := Kd.FK_slice_open hM63; have hx63_0 := hcc63 0 _ rfl; have hf63_0 := hfr63 0; (try simp only [show ((Kd.slice 43 k43)).sz = 1 from rfl, Nat.mul_one, Nat.add_zero] at hx63_0); (try simp only [show ((Kd.slice 43 k43)).sz = 1 from rfl, Nat.mul_one, Nat.add_zero] at hf63_0); clear hcl63 hcc63 hfr63; (try clear hM63); replace p63 := eq_true p63; replace q63 := eq_true q63; have HX76 := q73O (show Kd.N (Kd.slice 43 k43) 41 _ w.heap.size (fun k_ => (P0_0_ k_ ∨ w.heap.size ≤ k_) ∧ some k_ ≠ (.slice Ao75 y153.length co75 : Value).ownBlock ∧ some k_ ≠ ((.slice Av76 y156.length cv76) : Value).ownBlock ∧ k_ ≠ gb101 ∧ k_ ≠ gb102) (.slice (some ⟨go63, 0, none⟩) x102000_1.length co65) x102000_1 from (Kd.N_mono (HO_102000.out) (fun k_ hk => ⟨hk.1.1, ⟨hk.1.2.1, ⟨hk.2, ⟨hk.1.2.2.1, hk.1.2.2.2⟩⟩⟩⟩))); replace HX76 := q73O (show Kd.N (Kd.slice 43 k43) 41 _ w.heap.size (fun k_ => (P0_0_ k_ ∨ w.heap.size ≤ k_) ∧ some k_ ≠ (.slice Ao75 y153.length co75 : Value).ownBlock ∧ k_ ≠ gb101 ∧ k_ ≠ gb102) (.slice (some ⟨go63, 0, none⟩) x102000_1.length co65) x102000_1 from Kd.N_mono HX76.out (fun k_ hk => ⟨hk.1, ⟨hk.2.1, ⟨hk.2.2.2.1, hk.2.2.2.2⟩⟩⟩)); obtain ⟨ce76, hcl76, hM76, hcc76, hfr76⟩ := Kd.N_elem HX76.out [] (((rd_T58 l1 x5_1).f0) : Int) (q73T qa150) (by have h_ : (((rd_T58 l1 x5_1).f0) : Int) < ((x102000_1.length : Int) : Int) := q73T qa150; first | exact h_ | (have e_ := (Kd.N_reads' HO_102000.out).1; omega) | simpa using h_); obtain ⟨ua76_0, uc76_0, rfl, ul76_0, ge76_0⟩ := Kd.FK_slice_open hM76; have HP76 := (Kd.N_seg HX76.out (((rd_T58 l1 x5_1).f0) : Int) (q73T qa150) (by have h_ : (((rd_T58 l1 x5_1).f0) : Int) < ((x102000_1.length : Int) : Int) := q73T qa150; first | exact h_ | (have e_ := (Kd.N_reads' HO_102000.out).1; omega) | simpa using h_) (seg := [(.slice Av76 y156.length cv76)]) (j := 0) hcl76 hcc76 (show 1 ≤ 1 from by decide) (x' := y156) (Kd.FK_slice_mk (Kd.R_reads' (Kd.R_mono (ok' := (fun k_ => ((fun k_ => (P0_0_ k_ ∨ w.heap.size ≤ k_) ∧ some k_ ≠ (.slice Ao75 y153.length co75 : Value).ownBlock ∧ k_ ≠ gb101 ∧ k_ ≠ gb102)) k_ ∧ k_ ≠ go63)) (Kd.R_types (Kd.R_types (Kd.R_apart' (HO158.out) (Kd.N_typed HO_102000.out) qa69) BK101.out qa69) BK102.out qa69) (fun k_ hk => ⟨⟨(.inr (hk.1.1.1.1)), ⟨hk.1.1.1.2, ⟨hk.1.2, hk.2⟩⟩⟩, fun e_ => (hk.1.1.2) (by rw [e_]; rfl)⟩))).2.1 (Kd.R_F (Kd.R_mono (ok' := (fun k_ => ((fun k_ => (P0_0_ k_ ∨ w.heap.size ≤ k_) ∧ some k_ ≠ (.slice Ao75 y153.length co75 : Value).ownBlock ∧ k_ ≠ gb101 ∧ k_ ≠ gb102)) k_ ∧ k_ ≠ go63)) (Kd.R_types (Kd.R_types (Kd.R_apart' (HO158.out) (Kd.N_typed HO_102000.out) qa69) BK101.out qa69) BK102.out qa69) (fun k_ hk => ⟨⟨(.inr (hk.1.1.1.1)), ⟨hk.1.1.1.2, ⟨hk.1.2, hk.2⟩⟩⟩, fun e_ => (hk.1.1.2) (by rw [e_]; rfl)⟩)))) (fun _ hk => hk)).1; (try simp only [show ((Kd.slice 43 k43)).sz = 1 from rfl, Nat.mul_one, Nat.add_zero] at HP76); rw [← Ny159.out] at HP76; have HQ76 := q73O HP76; clear hcl76 hcc76 hfr76; (try clear hM76); clear HP76; refine hK.out _ _ ⟨qc0 BK101.out, qc1 BK101.out, ((HB.out.cell (q73L w _ hw145_0)).trans hw145_0), ((HB.out.cell (q73L w _ hw145_1)).trans hw145_1), ((HB.out.cell (q73L w _ hw152_0)).trans hw152_0), ((HB.out.cell (q73L w _ hw152_1)).trans hw152_1)⟩ (fun hHeld => ?_); clear hK K; refine norm_ (a' := ?_) ?_ ?_; rotate_left
           ·exact qa28
           refine pure_ (i := 20) (N := some 72) (v := ?_) (a' := ?_) q73y50 rfl rfl (any_of HT_.out qa7) (fun _ _ _ h => h) (Or.inl ⟨by rfl, ?_⟩) ?_ ?_; rotate_left
           ·intro w'
            go_simp; (with_reducible rfl)
           rotate_left
           ·simp only [Act.put, q73zA, q73zB, q73zC, i64_w, i32_w]
            rfl
           refine last_ (i := 21) (N := none) q73y51 rfl rfl (one_of HT_.out qa7) qa69 (fun K hK => ?_); refine skip_ (w1 := ?_) (by rfl) rfl ?_ ?_; rotate_left
           ·go_simp
            rfl
           refine hK.out _ _ ?_; clear hK K; refine done_ (done_of HT_.out qa7) ?_
           try go_wp2
           go_roundg k1
           case measure => have := HK1.out; omega
           case rel => exact ⟨(wrap64 (x5_1 + 1)), (y159), (.slice (some ⟨go63, 0, none⟩) x102000_1.length co65), qa18, H', ⟨qa164⟩, ⟨by (with_reducible repeat (first | apply Kd.N_alloc | apply Kd.N_drewN | apply Kd.N_drew)); exact Kd.N_mono HQ76.out (fun _ hk => ⟨hk.1, ⟨hk.2.2.1, hk.2.2.2⟩⟩)⟩, ⟨qa95⟩, ⟨qa96⟩, ⟨by repeat (first | (with_reducible first | exact HB.out | apply q73bA | apply q73bN | apply q73bD | refine q73bS ?_ GB63.out | refine q73bS ?_ GE101.out | refine q73bS ?_ GE102.out) | exact HB.out)⟩⟩
          ·rw [if_neg c62] at H
           exact absurd H qa120
         ·rw [if_neg c61] at H
          exact absurd H qa120
       ·rw [if_neg c20] at H
        exact absurd H qa120
      ·rw [if_neg c19] at H
       exact absurd H qa120
     ·rw [if_neg c18] at H
      exact absurd H qa120
    ·rw [if_neg c17] at H
     have c17b0 : decide (x5_1 < (l1.length : Int)) = false := decide_eq_false c17; clear c17; simp only [Option.some.injEq, Prod.mk.injEq] at H; obtain ⟨rfl, rfl⟩ := H; have hnb77 := NB101_102.out; have hnc77 := NB102_101.out; obtain ⟨hcz78_0, hcz78_1, hfz78_0, hfz78_1⟩ := qb2 BK101.out; obtain ⟨Ao79, co79, eo79⟩ := Kd.N_slice HO_102000.out; subst eo79; obtain ⟨hcz80_0, hcz80_1, hfz80_0, hfz80_1⟩ := qb2 BK102.out; go_wp2; refine bodyPost_ret (results_cell_row rfl _ _ gb102 28 #[.slice Ao79 x102000_1.length co79, .int .i64 (wrap64 (t106 + 1))] (0, 0) _ rfl (by (with_reducible repeat (first | refine q73kN ?_ _ | refine q73kD ?_ | refine q73kA ?_ _)); refine blk_put (cs := #[.slice Ao79 x102000_1.length co79, .int .i64 0]) ?_ 1 _ rfl; (with_reducible repeat (first | refine q73kN ?_ _ | refine q73kD ?_ | refine q73kA ?_ _)); refine blk_put (cs := #[.slice none 0 0, .int .i64 0]) ?_ 0 _ rfl; (with_reducible repeat (first | refine q73kN ?_ _ | refine q73kD ?_ | refine q73kA ?_ _)); exact BK102.out) Try.underlying28 rfl qa7) rfl ?_
     exact ⟨_, qa9, Kd.N_V (by (with_reducible repeat (first | apply Kd.N_alloc | apply Kd.N_drewN | apply Kd.N_drew)); exact Kd.N_mono (Kd.N_far (p := ⟨gb102, 1, none⟩) (Kd.N_far (p := ⟨gb102, 0, none⟩) (Kd.N_mono HO_102000.out (fun k_ hk => (⟨hk, hk.2.2⟩ : _ ∧ k_ ≠ gb102))) (fun _ hk => hk.2) (.slice Ao79 x102000_1.length co79)) (fun _ hk => hk.2) (.int .i64 (wrap64 (t106 + 1)))) (fun _ hk => hk.1.1)), qa6⟩


def spec_WriteAll.f (k : Nat) (l0_0 : List (List (S43))) (a0_1 : Int) (l1 : List (S58)) : Option ((List (List (S43))) × Int × Int × Int) := if (l1.length : Int) > 4096 then (some (([] : List (List (S43))), 0, 0, 2)) else ((spec_StoreOK.f k l0_0 a0_1).bind fun t103 => (if t103 = true then ((spec_l06Puts.f k l1).bind fun t104 => (if t104 = true then (if a0_1 = 100000 then ((spec_l06Own.f k l0_0 a0_1).bind fun bt105 => (some (bt105.1, bt105.2, 0, 7))) else ((spec_l06Write.f k l0_0 a0_1 l1).bind fun bt109 => ((spec_l06Own.f k bt109.1 bt109.2).bind fun bt113 => (some (bt113.1, bt113.2, bt113.2, 0))))) else (some (([] : List (List (S43))), 0, 0, 4)))) else (some (([] : List (List (S43))), 0, 0, 1))))
def spec_WriteAll.y0 := #[qf,qf,qf,qf,qf,qf]
def spec_WriteAll.y1 := #[qf,qt,qf,qf,qf,qf]
def spec_WriteAll.y2 := #[qt,qt,qf,qf,qf,qf]
def spec_WriteAll.y3 := #[qt,qt,qt,qf,qf,qf]
def spec_WriteAll.y4 := #[qt,qt,qt,qt,qf,qf]
def spec_WriteAll.y5 := #[qt,qt,qt,qt,qt,qf]
def spec_WriteAll.y6 := #[qt,qt,qt,qt,qt,qt]
set_option maxHeartbeats 8000000 in
set_option maxRecDepth 100000 in
theorem spec_WriteAll.calls (k : Nat) (A0_0 : Option Addr) (c0_0 : Nat) (l0_0 : List (List (S43))) (a0_1 : Int) (A1 : Option Addr) (c1 : Nat) (l1 : List (S58)) (r1 : List (List (S43))) (r2 : Int) (r3 : Int) (r4 : Int) (w : World) (hr0_0 : Kd.C (Kd.slice 43 k43) w A0_0 l0_0.length l0_0) (hc0_0 : l0_0.length ≤ c0_0) (hr1 : Kd.C k58 w A1 l1.length l1) (hc1 : l1.length ≤ c1) (h : spec_WriteAll.f k l0_0 a0_1 l1 = some (r1, r2, r3, r4)) :
  Calls Try.prog 26 #[.agg #[.slice A0_0 l0_0.length c0_0, .int .i64 a0_1], .slice A1 l1.length c1] w fun e w' => ∃ v0_ : Value, e = .returned (.tuple #[.agg #[v0_, .int .i64 r2], .int .i64 r3, .int .i64 r4]) ∧ Kd.S (Kd.slice 43 k43) 41 w' w.heap.size (fun _ => True) v0_ r1 ∧ Below w.heap.size w w' := by
 have hu28 := Try.underlying28; have HR0_0 := qO hr0_0; have HC0_0 := qO hc0_0; clear hr0_0 hc0_0; have HR1 := qO hr1; have HC1 := qO hc1; clear hr1 hc1; have HB := qO (Below.refl w.heap.size w); have H : (if (l1.length : Int) > 4096 then (some (([] : List (List (S43))), 0, 0, 2)) else ((spec_StoreOK.f k l0_0 a0_1).bind fun t103 => (if t103 = true then ((spec_l06Puts.f k l1).bind fun t104 => (if t104 = true then (if a0_1 = 100000 then ((spec_l06Own.f k l0_0 a0_1).bind fun bt105 => (some (bt105.1, bt105.2, 0, 7))) else ((spec_l06Write.f k l0_0 a0_1 l1).bind fun bt109 => ((spec_l06Own.f k bt109.1 bt109.2).bind fun bt113 => (some (bt113.1, bt113.2, bt113.2, 0))))) else (some (([] : List (List (S43))), 0, 0, 4)))) else (some (([] : List (List (S43))), 0, 0, 1))))) = some (r1, r2, r3, r4) := h; clear h
 by_cases c3 : (l1.length : Int) > 4096
 ·rw [if_pos c3] at H
  have c3b0 : decide (4096 < (l1.length : Int)) = true := decide_eq_true c3; have c3b1 : decide (4096 < l1.length) = true := decide_eq_true qa34; clear c3; simp only [Option.some.injEq, Prod.mk.injEq] at H; obtain ⟨rfl, rfl, rfl, rfl⟩ := H
  go_enter Try.func26, Try.ntmps26
  go_wp2_with (first | ((with_reducible refine gate_dst (N := 2) rfl ?_); refine qX 2 #[.slice A0_0 l0_0.length c0_0, .int .i64 a0_1] 28 ?_; intro gb101 hg w4 hbox hb; have hx_ := qHX HB hb qa1; have BK101 := qO (hbox); have GW101 := qO ((qa17 : w.heap.size ≤ gb101)); have GE101 := GW101; replace HB := qO (below_step (below_step HB.out hx_) hb); clear hx_ hb hbox hg) | ((with_reducible refine gate_dst (N := 4) rfl ?_); refine qX 4 #[.slice none 0 0, .int .i64 0] 28 ?_; intro gb102 hg w5 hbox hb; have hx_ := qHX HB hb qa1; have BK102 := qO (hbox); have GW102 := qO ((qa17 : w.heap.size ≤ gb102)); have GE102 := GW102; have NB101_102 := qO ((qa8 : gb101 ≠ gb102)); have NB102_101 := qO (Ne.symm NB101_102.out); replace BK101 := qO (qB BK101.out hx_ hb); replace HB := qO (below_step (below_step HB.out hx_) hb); clear hx_ hb hbox hg; have hnb6 := NB102_101.out; have hnc6 := NB101_102.out; obtain ⟨hcz7_0, hcz7_1, hfz7_0, hfz7_1⟩ := qb2 BK102.out))
  refine bodyPost_ret (results_ctt rfl _ _ gb102 28 #[.slice none 0 0, .int .i64 0] (0, 0) _ rfl qa35 Try.underlying28 rfl qa7) rfl ?_
  exact ⟨_, qa9, qa94, qa19⟩
 ·rw [if_neg c3] at H
  have c3b0 : decide (4096 < (l1.length : Int)) = false := decide_eq_false c3; have c3b1 : decide (4096 < l1.length) = false := decide_eq_false qa34; clear c3; replace H := Option.bind_eq_some_iff.mp H; obtain ⟨t103, A80, H⟩ := H; replace H : (if t103 = true then ((spec_l06Puts.f k l1).bind fun t104 => (if t104 = true then (if a0_1 = 100000 then ((spec_l06Own.f k l0_0 a0_1).bind fun bt105 => (some (bt105.1, bt105.2, 0, 7))) else ((spec_l06Write.f k l0_0 a0_1 l1).bind fun bt109 => ((spec_l06Own.f k bt109.1 bt109.2).bind fun bt113 => (some (bt113.1, bt113.2, bt113.2, 0))))) else (some (([] : List (List (S43))), 0, 0, 4)))) else (some (([] : List (List (S43))), 0, 0, 1))) = some (r1, r2, r3, r4) := H; have A8 := qO A80; clear A80
  by_cases c9 : t103 = true
  ·subst c9
   have H1 : ((spec_l06Puts.f k l1).bind fun t104 => (if t104 = true then (if a0_1 = 100000 then ((spec_l06Own.f k l0_0 a0_1).bind fun bt105 => (some (bt105.1, bt105.2, 0, 7))) else ((spec_l06Write.f k l0_0 a0_1 l1).bind fun bt109 => ((spec_l06Own.f k bt109.1 bt109.2).bind fun bt113 => (some (bt113.1, bt113.2, bt113.2, 0))))) else (some (([] : List (List (S43))), 0, 0, 4)))) = some (r1, r2, r3, r4) := by rw [if_pos rfl] at H; exact H
   clear H; have H := H1; clear H1; replace H := Option.bind_eq_some_iff.mp H; obtain ⟨t104, A100, H⟩ := H; replace H : (if t104 = true then (if a0_1 = 100000 then ((spec_l06Own.f k l0_0 a0_1).bind fun bt105 => (some (bt105.1, bt105.2, 0, 7))) else ((spec_l06Write.f k l0_0 a0_1 l1).bind fun bt109 => ((spec_l06Own.f k bt109.1 bt109.2).bind fun bt113 => (some (bt113.1, bt113.2, bt113.2, 0))))) else (some (([] : List (List (S43))), 0, 0, 4))) = some (r1, r2, r3, r4) := H; have A10 := qO A100; clear A100
   by_cases c11 : t104 = true
   ·subst c11
    have H1 : (if a0_1 = 100000 then ((spec_l06Own.f k l0_0 a0_1).bind fun bt105 => (some (bt105.1, bt105.2, 0, 7))) else ((spec_l06Write.f k l0_0 a0_1 l1).bind fun bt109 => ((spec_l06Own.f k bt109.1 bt109.2).bind fun bt113 => (some (bt113.1, bt113.2, bt113.2, 0))))) = some (r1, r2, r3, r4) := by rw [if_pos rfl] at H; exact H
    clear H; have H := H1; clear H1
    by_cases c12 : a0_1 = 100000
    ·rw [if_pos c12] at H
     have c12b0 : (a0_1 == 100000) = true := beq_iff_eq.mpr c12; have c12b1 : (a0_1 != 100000) = false := bne_eq_false_iff_eq.mpr c12; clear c12; replace H := Option.bind_eq_some_iff.mp H; obtain ⟨⟨t105, t108⟩, A130, H⟩ := H; replace H : (some (t105, t108, 0, 7)) = some (r1, r2, r3, r4) := H; have A13 := qO A130; clear A130; simp only [Option.some.injEq, Prod.mk.injEq] at H; obtain ⟨rfl, rfl, rfl, rfl⟩ := H
     go_enter Try.func26, Try.ntmps26
     go_wp2_with (first | ((with_reducible refine gate_dst (N := 2) rfl ?_); refine qX 2 #[.slice A0_0 l0_0.length c0_0, .int .i64 a0_1] 28 ?_; intro gb101 hg w14 hbox hb; have hx_ := qHX HB hb qa1; have BK101 := qO (hbox); have GW101 := qO ((qa17 : w.heap.size ≤ gb101)); have GE101 := GW101; replace HB := qO (below_step (below_step HB.out hx_) hb); clear hx_ hb hbox hg) | ((with_reducible refine gate_dst (N := 4) rfl ?_); refine qX 4 #[.slice none 0 0, .int .i64 0] 28 ?_; intro gb102 hg w15 hbox hb; have hx_ := qHX HB hb qa1; have BK102 := qO (hbox); have GW102 := qO ((qa17 : w.heap.size ≤ gb102)); have GE102 := GW102; have NB101_102 := qO ((qa8 : gb101 ≠ gb102)); have NB102_101 := qO (Ne.symm NB101_102.out); replace BK101 := qO (qB BK101.out hx_ hb); replace HB := qO (below_step (below_step HB.out hx_) hb); clear hx_ hb hbox hg; have hnb16 := NB101_102.out; have hnc16 := NB102_101.out; obtain ⟨hcz17_0, hcz17_1, hfz17_0, hfz17_1⟩ := qb2 BK101.out) | ((with_reducible refine gate_callee (f := 70) rfl ?_); refine goesL_ (some 13) rfl rfl Try.func70 qa7 rfl #[.agg #[.slice A0_0 l0_0.length c0_0, .int .i64 a0_1]] rfl qa0 ?_; (with_reducible refine (spec_StoreOK.calls k _ _ l0_0 a0_1 true _ ?side1 ?side2 A8.out).mono ?_); (case side1 => exact qa11); (case side2 => exact HC0_0.out); rintro e w18 ⟨rfl, hb⟩; have hx_ := qHX HB hb qa1; refine ⟨_, rfl, ?_⟩; replace BK101 := qO (qB BK101.out hx_ hb); replace BK102 := qO (qB BK102.out hx_ hb); replace HB := qO (below_step (below_step HB.out hx_) hb); clear hx_; (try clear hb); (try clear hb2); (try clear hk); (try clear hi)) | ((with_reducible refine gate_callee (f := 71) rfl ?_); refine goesL_ (some 17) rfl rfl Try.func71 qa7 rfl #[.slice A1 l1.length c1] rfl qa0 ?_; (with_reducible refine (spec_l06Puts.calls k _ _ l1 true _ ?side1 ?side2 A10.out).mono ?_); (case side1 => exact qa63); (case side2 => exact HC1.out); rintro e w' ⟨rfl, ⟨nd, rfl⟩⟩; refine ⟨_, rfl, ?_⟩; (try (rw [drewN_self w18]; generalize hq_ : World.drewN w18 _ = w18; replace BK101 : Aside0 (w18.heap[gb101]? = some (.cells #[.slice A0_0 l0_0.length c0_0, .int .i64 a0_1] 28 (0, 0))) := ⟨qa102⟩; replace BK102 : Aside0 (w18.heap[gb102]? = some (.cells #[.slice none 0 0, .int .i64 0] 28 (0, 0))) := ⟨qa103⟩; replace HB : Aside0 (Below w.heap.size w w18) := ⟨qa78⟩; clear hq_)); obtain ⟨hcz19_0, hcz19_1, hfz19_0, hfz19_1⟩ := qb2 BK101.out) | ((with_reducible refine gate_callee (f := 72) rfl ?_); refine goesL_ (some 24) rfl rfl Try.func72 qa7 rfl #[.agg #[.slice A0_0 l0_0.length c0_0, .int .i64 a0_1]] rfl qa0 ?_; (with_reducible refine (spec_l06Own.calls k _ _ l0_0 a0_1 t105 t108 _ ?side1 ?side2 A13.out).mono ?_); (case side1 => exact qa11); (case side2 => exact HC0_0.out); rintro e w20 ⟨v106, rfl, ho0, hb⟩; have hx_ := qHX HB hb qa1; refine ⟨_, rfl, ?_⟩; have HO107 := qO (Kd.S_lower ho0 (below_size (below_step HB.out hx_))); replace BK101 := qO (qB BK101.out hx_ hb); replace BK102 := qO (qB BK102.out hx_ hb); replace HB := qO (below_step (below_step HB.out hx_) hb); clear hx_; (try clear hb); (try clear hb2); (try clear hk); (try clear hi); (try clear ho0); obtain ⟨Ao21, co21, eo21⟩ := Kd.S_slice HO107.out; subst eo21; obtain ⟨hcz22_0, hcz22_1, hfz22_0, hfz22_1⟩ := qb2 BK102.out))
     refine bodyPost_ret (results_ctt rfl _ _ gb102 28 #[.slice Ao21 t105.length co21, .int .i64 t108] (0, 0) _ rfl (by (with_reducible repeat (first | refine qkN ?_ _ | refine qkD ?_ | refine qkA ?_ _)); refine blk_put (cs := #[.slice Ao21 t105.length co21, .int .i64 0]) ?_ 1 _ rfl; (with_reducible repeat (first | refine qkN ?_ _ | refine qkD ?_ | refine qkA ?_ _)); refine blk_put (cs := #[.slice none 0 0, .int .i64 0]) ?_ 0 _ rfl; (with_reducible repeat (first | refine qkN ?_ _ | refine qkD ?_ | refine qkA ?_ _)); exact BK102.out) Try.underlying28 rfl qa7) rfl ?_
     exact ⟨_, qa9, by (with_reducible repeat (first | apply Kd.S_alloc | apply Kd.S_drewN | apply Kd.S_drew)); exact Kd.S_mono (Kd.S_far (p := ⟨gb102, 1, none⟩) (Kd.S_far (p := ⟨gb102, 0, none⟩) (Kd.S_types HO107.out BK102.out (by decide)) (fun _ hk => hk.2) (.slice Ao21 t105.length co21)) (fun _ hk => hk.2) (.int .i64 t108)) (fun _ hk => trivial), qa19⟩
    ·rw [if_neg c12] at H
     have c12b0 : (a0_1 == 100000) = false := beq_eq_false_iff_ne.mpr c12; have c12b1 : (a0_1 != 100000) = true := bne_iff_ne.mpr c12; replace H := Option.bind_eq_some_iff.mp H; obtain ⟨⟨t109, t112⟩, A230, H⟩ := H; replace H : ((spec_l06Own.f k t109 t112).bind fun bt113 => (some (bt113.1, bt113.2, bt113.2, 0))) = some (r1, r2, r3, r4) := H; have A23 := qO A230; clear A230; replace H := Option.bind_eq_some_iff.mp H; obtain ⟨⟨t113, t116⟩, A240, H⟩ := H; replace H : (some (t113, t116, t116, 0)) = some (r1, r2, r3, r4) := H; have A24 := qO A240; clear A240; simp only [Option.some.injEq, Prod.mk.injEq] at H; obtain ⟨rfl, rfl, rfl, rfl⟩ := H
     go_enter Try.func26, Try.ntmps26
     try go_wp2_with (first | ((with_reducible refine gate_dst (N := 2) rfl ?_); refine qX 2 #[.slice A0_0 l0_0.length c0_0, .int .i64 a0_1] 28 ?_; intro gb101 hg w25 hbox hb; have hx_ := qHX HB hb qa1; have BK101 := qO (hbox); have GW101 := qO ((qa17 : w.heap.size ≤ gb101)); have GE101 := GW101; replace HB := qO (below_step (below_step HB.out hx_) hb); clear hx_ hb hbox hg) | ((with_reducible refine gate_dst (N := 4) rfl ?_); refine qX 4 #[.slice none 0 0, .int .i64 0] 28 ?_; intro gb102 hg w26 hbox hb; have hx_ := qHX HB hb qa1; have BK102 := qO (hbox); have GW102 := qO ((qa17 : w.heap.size ≤ gb102)); have GE102 := GW102; have NB101_102 := qO ((qa8 : gb101 ≠ gb102)); have NB102_101 := qO (Ne.symm NB101_102.out); replace BK101 := qO (qB BK101.out hx_ hb); replace HB := qO (below_step (below_step HB.out hx_) hb); clear hx_ hb hbox hg; have hnb27 := NB101_102.out; have hnc27 := NB102_101.out; obtain ⟨hcz28_0, hcz28_1, hfz28_0, hfz28_1⟩ := qb2 BK101.out) | ((with_reducible refine gate_callee (f := 70) rfl ?_); refine goesL_ (some 13) rfl rfl Try.func70 qa7 rfl #[.agg #[.slice A0_0 l0_0.length c0_0, .int .i64 a0_1]] rfl qa0 ?_; (with_reducible refine (spec_StoreOK.calls k _ _ l0_0 a0_1 true _ ?side1 ?side2 A8.out).mono ?_); (case side1 => exact qa11); (case side2 => exact HC0_0.out); rintro e w29 ⟨rfl, hb⟩; have hx_ := qHX HB hb qa1; refine ⟨_, rfl, ?_⟩; replace BK101 := qO (qB BK101.out hx_ hb); replace BK102 := qO (qB BK102.out hx_ hb); replace HB := qO (below_step (below_step HB.out hx_) hb); clear hx_; (try clear hb); (try clear hb2); (try clear hk); (try clear hi)) | ((with_reducible refine gate_callee (f := 71) rfl ?_); refine goesL_ (some 17) rfl rfl Try.func71 qa7 rfl #[.slice A1 l1.length c1] rfl qa0 ?_; (with_reducible refine (spec_l06Puts.calls k _ _ l1 true _ ?side1 ?side2 A10.out).mono ?_); (case side1 => exact qa63); (case side2 => exact HC1.out); rintro e w' ⟨rfl, ⟨nd, rfl⟩⟩; refine ⟨_, rfl, ?_⟩; (try (rw [drewN_self w29]; generalize hq_ : World.drewN w29 _ = w29; replace BK101 : Aside0 (w29.heap[gb101]? = some (.cells #[.slice A0_0 l0_0.length c0_0, .int .i64 a0_1] 28 (0, 0))) := ⟨qa102⟩; replace BK102 : Aside0 (w29.heap[gb102]? = some (.cells #[.slice none 0 0, .int .i64 0] 28 (0, 0))) := ⟨qa103⟩; replace HB : Aside0 (Below w.heap.size w w29) := ⟨qa78⟩; clear hq_)); obtain ⟨hcz30_0, hcz30_1, hfz30_0, hfz30_1⟩ := qb2 BK101.out) | ((with_reducible refine gate_callee (f := 73) rfl ?_); refine goesL_ (some 27) rfl rfl Try.func73 qa7 rfl #[.agg #[.slice A0_0 l0_0.length c0_0, .int .i64 a0_1], .slice A1 l1.length c1] rfl qa0 ?_; (with_reducible refine (spec_l06Write.calls k (fun k_ => k_ < w.heap.size) _ _ l0_0 a0_1 _ _ l1 t109 t112 _ ?side1 ?side2 ?side3 A23.out).mono ?_); (case side1 => exact Kd.V_mk HC0_0.out (Kd.F_below (Kd.C_F (Kd.heap_slice 43 k43_heap) HR0_0.out) (by repeat (first | (with_reducible first | exact HB.out | apply qbA | apply qbN | apply qbD | refine qbS ?_ GE101.out | refine qbS ?_ GE102.out) | exact HB.out)))); (case side2 => exact qa63); (case side3 => exact HC1.out); rintro e w31 ⟨v110, rfl, ho0, hb⟩; have hx_ := qHX HB hb qa1; refine ⟨_, rfl, ?_⟩; have HO111 := qO (Kd.V_lower (Kd.V_mono (ok' := fun k_ => k_ ≠ gb101 ∧ k_ ≠ gb102) ho0 (fun k_ hk_ => ⟨Or.elim hk_ (fun hs_ => fun e_ => Nat.not_le.2 hs_ (by rw [e_]; exact GW101.out)) (fun hn_ => (Kd.freshB (g := gb101) (o := .cells #[.slice A0_0 l0_0.length c0_0, .int .i64 a0_1] 28 (0, 0)) qa4 k_ hn_)), Or.elim hk_ (fun hs_ => fun e_ => Nat.not_le.2 hs_ (by rw [e_]; exact GW102.out)) (fun hn_ => (Kd.freshB (g := gb102) (o := .cells #[.slice none 0 0, .int .i64 0] 28 (0, 0)) qa26 k_ hn_))⟩)) (below_size (below_step HB.out hx_))); replace BK101 := qO (qB BK101.out hx_ hb); replace BK102 := qO (qB BK102.out hx_ hb); replace HB := qO (below_step (below_step HB.out hx_) hb); clear hx_; (try clear hb); (try clear hb2); (try clear hk); (try clear hi); (try clear ho0); obtain ⟨Ao32, co32, eo32⟩ := Kd.V_slice HO111.out; subst eo32) | ((with_reducible refine gate_callee (f := 72) rfl ?_); refine goesL_ (some 28) rfl rfl Try.func72 qa7 rfl #[.agg #[.slice Ao32 t109.length co32, .int .i64 t112]] rfl qa0 ?_; (with_reducible refine (spec_l06Own.calls k _ _ t109 t112 t113 t116 _ ?side1 ?side2 A24.out).mono ?_); (case side1 => repeat (first | exact (Kd.V_reads' HO111.out).2.2 | with_reducible first | refine Kd.C_alloc ?_ _ | refine Kd.C_drewN ?_ _ | refine Kd.C_drew ?_)); (case side2 => exact (Kd.V_reads' HO111.out).2.1); rintro e w33 ⟨v114, rfl, ho0, hb⟩; have hx_ := qHX HB hb qa1; refine ⟨_, rfl, ?_⟩; have HO115 := qO (Kd.S_lower ho0 (below_size (below_step HB.out hx_))); replace HO111 := qO (Kd.V_elder' qa201 (Kd.S_base ho0) hb); replace BK101 := qO (qB BK101.out hx_ hb); replace BK102 := qO (qB BK102.out hx_ hb); replace HB := qO (below_step (below_step HB.out hx_) hb); clear hx_; (try clear hb); (try clear hb2); (try clear hk); (try clear hi); (try clear ho0)) | ((with_reducible refine gate_dst (N := 7) rfl ?_); refine qX 7 #[.slice none 0 0, .int .i64 0] 28 ?_; intro gb117 hg w34 hbox hb; have hx_ := qHX HB hb qa1; have BK117 := qO (hbox); have GW117 := qO ((qa17 : w.heap.size ≤ gb117)); have GE117 := GW117; have NB101_117 := qO ((qa8 : gb101 ≠ gb117)); have NB117_101 := qO (Ne.symm NB101_117.out); have NB102_117 := qO ((qa44 : gb102 ≠ gb117)); have NB117_102 := qO (Ne.symm NB102_117.out); replace HO111 := qO (Kd.V_below (Kd.V_elderB qa201 gb117 (Nat.le_of_eq hg.symm)) hb); replace HO115 := qO (Kd.S_below (by (with_reducible repeat (first | apply Kd.S_alloc | apply Kd.S_drewN | apply Kd.S_drew)); exact HO115.out) hb); replace BK101 := qO (qB BK101.out hx_ hb); replace BK102 := qO (qB BK102.out hx_ hb); replace HB := qO (below_step (below_step HB.out hx_) hb); clear hx_ hb hbox hg; obtain ⟨Ao35, co35, eo35⟩ := Kd.S_slice HO115.out; subst eo35; have hnb36 := NB117_101.out; have hnc36 := NB101_117.out; have hnb37 := NB117_102.out; have hnc37 := NB102_117.out; obtain ⟨hcz38_0, hcz38_1, hfz38_0, hfz38_1⟩ := qb2 BK117.out))
     have n0_ : Aside0 (Kd.V (Kd.slice 43 k43) 41 ((w34.setCell ⟨gb117, 0, none⟩ (.slice Ao35 t113.length co35)).setCell ⟨gb117, 1, none⟩ (.int .i64 t116)) w.heap.size (fun k_ => some k_ ≠ (.slice Ao35 t113.length co35 : Value).ownBlock ∧ k_ ≠ gb101 ∧ k_ ≠ gb102 ∧ k_ ≠ gb117) (.slice Ao32 t109.length co32) t109) := ⟨by (with_reducible repeat (first | apply Kd.V_alloc | apply Kd.V_drewN | apply Kd.V_drew)); exact Kd.V_mono (Kd.V_far (p := ⟨gb117, 1, none⟩) (Kd.V_far (p := ⟨gb117, 0, none⟩) (Kd.V_mono HO111.out (fun k_ hk => (⟨hk, hk.2⟩ : _ ∧ k_ ≠ gb117))) (fun _ hk => hk.2) (.slice Ao35 t113.length co35)) (fun _ hk => hk.2) (.int .i64 t116)) (fun _ hk => ⟨hk.1.1.2, ⟨hk.1.1.1.1, ⟨hk.1.1.1.2, hk.1.2⟩⟩⟩)⟩; have n1_ : Aside0 (Kd.S (Kd.slice 43 k43) 41 ((w34.setCell ⟨gb117, 0, none⟩ (.slice Ao35 t113.length co35)).setCell ⟨gb117, 1, none⟩ (.int .i64 t116)) w.heap.size (fun _ => True) (.slice Ao35 t113.length co35) t113) := ⟨by (with_reducible repeat (first | apply Kd.S_alloc | apply Kd.S_drewN | apply Kd.S_drew)); exact Kd.S_mono (Kd.S_far (p := ⟨gb117, 1, none⟩) (Kd.S_far (p := ⟨gb117, 0, none⟩) (Kd.S_types HO115.out BK117.out (by decide)) (fun _ hk => hk.2) (.slice Ao35 t113.length co35)) (fun _ hk => hk.2) (.int .i64 t116)) (fun _ hk => trivial)⟩; have n2_ : Aside0 (((w34.setCell ⟨gb117, 0, none⟩ (.slice Ao35 t113.length co35)).setCell ⟨gb117, 1, none⟩ (.int .i64 t116)).heap[gb101]? = some (.cells #[.slice A0_0 l0_0.length c0_0, .int .i64 a0_1] 28 (0, 0))) := ⟨by (with_reducible repeat (first | refine qkN ?_ _ | refine qkD ?_ | refine qkA ?_ _)); refine blk_far ?_ NB101_117.out _; (with_reducible repeat (first | refine qkN ?_ _ | refine qkD ?_ | refine qkA ?_ _)); refine blk_far ?_ NB101_117.out _; (with_reducible repeat (first | refine qkN ?_ _ | refine qkD ?_ | refine qkA ?_ _)); exact BK101.out⟩; have n3_ : Aside0 (((w34.setCell ⟨gb117, 0, none⟩ (.slice Ao35 t113.length co35)).setCell ⟨gb117, 1, none⟩ (.int .i64 t116)).heap[gb102]? = some (.cells #[.slice none 0 0, .int .i64 0] 28 (0, 0))) := ⟨by (with_reducible repeat (first | refine qkN ?_ _ | refine qkD ?_ | refine qkA ?_ _)); refine blk_far ?_ NB102_117.out _; (with_reducible repeat (first | refine qkN ?_ _ | refine qkD ?_ | refine qkA ?_ _)); refine blk_far ?_ NB102_117.out _; (with_reducible repeat (first | refine qkN ?_ _ | refine qkD ?_ | refine qkA ?_ _)); exact BK102.out⟩; have n4_ : Aside0 (((w34.setCell ⟨gb117, 0, none⟩ (.slice Ao35 t113.length co35)).setCell ⟨gb117, 1, none⟩ (.int .i64 t116)).heap[gb117]? = some (.cells #[.slice Ao35 t113.length co35, .int .i64 t116] 28 (0, 0))) := ⟨by (with_reducible repeat (first | refine qkN ?_ _ | refine qkD ?_ | refine qkA ?_ _)); refine blk_put (cs := #[.slice Ao35 t113.length co35, .int .i64 0]) ?_ 1 _ rfl; (with_reducible repeat (first | refine qkN ?_ _ | refine qkD ?_ | refine qkA ?_ _)); refine blk_put (cs := #[.slice none 0 0, .int .i64 0]) ?_ 0 _ rfl; (with_reducible repeat (first | refine qkN ?_ _ | refine qkD ?_ | refine qkA ?_ _)); exact BK117.out⟩; have n5_ : Aside0 (Below w.heap.size w ((w34.setCell ⟨gb117, 0, none⟩ (.slice Ao35 t113.length co35)).setCell ⟨gb117, 1, none⟩ (.int .i64 t116))) := ⟨qa166⟩; (try clear HO111); (try clear HO115); (try clear BK101); (try clear BK102); (try clear BK117); (try clear HB); generalize ((w34.setCell ⟨gb117, 0, none⟩ (.slice Ao35 t113.length co35)).setCell ⟨gb117, 1, none⟩ (.int .i64 t116)) = w39 at n0_ n1_ n2_ n3_ n4_ n5_ ⊢; have HO111 := n0_; have HO115 := n1_; have BK101 := n2_; have BK102 := n3_; have BK117 := n4_; have HB := n5_; clear n0_ n1_ n2_ n3_ n4_ n5_; replace HO111 := qO (Kd.V_drew HO111.out); replace HO115 := qO (Kd.S_drew HO115.out); replace BK101 := qO (qkD BK101.out); replace BK102 := qO (qkD BK102.out); replace BK117 := qO (qkD BK117.out); replace HB := qO (qbD HB.out); refine start_ (n := 6) (S := fun w' => w'.cell? ⟨gb117, 0, none⟩ = some (.slice Ao35 t113.length co35) ∧ w'.cell? ⟨gb117, 1, none⟩ = some (.int .i64 t116)) (ds := []) spec_WriteAll.y0 qa7 rfl rfl ⟨qc0 BK117.out, qc1 BK117.out⟩ (fun hHeld => ?_); generalize w39.drew = w40 at HO111 HO115 BK101 BK102 BK117 HB hHeld ⊢; refine qPu 1 30 spec_WriteAll.y1 rfl rfl qa7 qa10 qa3 ?_; refine qTk 0 29 spec_WriteAll.y2 rfl rfl qa7 qa111 hHeld qa3 ?_; refine qTk 2 31 spec_WriteAll.y3 rfl rfl qa7 qa111 hHeld qa3 ?_; refine one_ (i := 3) (N := none) spec_WriteAll.y4 rfl rfl qa7 qa69 (fun K hK => ?_); have hs41 := qc0 BK102.out; have hfs41 := blk_frozen BK102.out 0; have hns41_0 := NB101_102.out; have hns41_2 := NB117_102.out; have hms41_0 := NB102_101.out; have hms41_2 := NB102_117.out; have hs42 := qc1 BK102.out; have hfs42 := blk_frozen BK102.out 1; have hns42_0 := NB101_102.out; have hns42_2 := NB117_102.out; have hms42_0 := NB102_101.out; have hms42_2 := NB102_117.out; refine skip_ (w1 := ?_) (by rfl) rfl ?_ ?_; rotate_left
     ·go_simp
      rfl
     refine hK.out _ _ ⟨((cell_far (p := ⟨gb102, _, none⟩) NB117_102.out _).trans (((cell_far (p := ⟨gb102, _, none⟩) NB117_102.out _).trans (hHeld.1)))), ((cell_far (p := ⟨gb102, _, none⟩) NB117_102.out _).trans (((cell_far (p := ⟨gb102, _, none⟩) NB117_102.out _).trans (hHeld.2))))⟩ (fun hHeld => ?_); clear hK K; refine qPu 4 5 spec_WriteAll.y5 rfl rfl qa7 qa10 qa3 ?_; refine qPu 5 6 spec_WriteAll.y6 rfl rfl qa7 qa10 qa3 ?_; refine done_ qa7 ?_
     try go_wp2
     refine bodyPost_ret (results_ctt rfl _ _ gb102 28 #[.slice Ao35 t113.length co35, .int .i64 t116] (0, 0) _ rfl (by (with_reducible repeat (first | refine qkN ?_ _ | refine qkD ?_ | refine qkA ?_ _)); refine blk_put (cs := #[.slice Ao35 t113.length co35, .int .i64 0]) ?_ 1 _ rfl; (with_reducible repeat (first | refine qkN ?_ _ | refine qkD ?_ | refine qkA ?_ _)); refine blk_put (cs := #[.slice none 0 0, .int .i64 0]) ?_ 0 _ rfl; (with_reducible repeat (first | refine qkN ?_ _ | refine qkD ?_ | refine qkA ?_ _)); exact BK102.out) Try.underlying28 rfl qa7) rfl ?_
     exact ⟨_, qa9, by (with_reducible repeat (first | apply Kd.S_alloc | apply Kd.S_drewN | apply Kd.S_drew)); exact Kd.S_mono (Kd.S_far (p := ⟨gb102, 1, none⟩) (Kd.S_far (p := ⟨gb102, 0, none⟩) (Kd.S_types HO115.out BK102.out (by decide)) (fun _ hk => hk.2) (.slice Ao35 t113.length co35)) (fun _ hk => hk.2) (.int .i64 t116)) (fun _ hk => trivial), qa166⟩
   ·replace c11 := Bool.eq_false_iff.mpr c11
    subst c11; have H1 : (some (([] : List (List (S43))), 0, 0, 4)) = some (r1, r2, r3, r4) := by rw [if_neg (show ¬ (false = true) by decide)] at H; exact H
    clear H; have H := H1; clear H1; simp only [Option.some.injEq, Prod.mk.injEq] at H; obtain ⟨rfl, rfl, rfl, rfl⟩ := H
    go_enter Try.func26, Try.ntmps26
    go_wp2_with (first | ((with_reducible refine gate_dst (N := 2) rfl ?_); refine qX 2 #[.slice A0_0 l0_0.length c0_0, .int .i64 a0_1] 28 ?_; intro gb101 hg w43 hbox hb; have hx_ := qHX HB hb qa1; have BK101 := qO (hbox); have GW101 := qO ((qa17 : w.heap.size ≤ gb101)); have GE101 := GW101; replace HB := qO (below_step (below_step HB.out hx_) hb); clear hx_ hb hbox hg) | ((with_reducible refine gate_dst (N := 4) rfl ?_); refine qX 4 #[.slice none 0 0, .int .i64 0] 28 ?_; intro gb102 hg w44 hbox hb; have hx_ := qHX HB hb qa1; have BK102 := qO (hbox); have GW102 := qO ((qa17 : w.heap.size ≤ gb102)); have GE102 := GW102; have NB101_102 := qO ((qa8 : gb101 ≠ gb102)); have NB102_101 := qO (Ne.symm NB101_102.out); replace BK101 := qO (qB BK101.out hx_ hb); replace HB := qO (below_step (below_step HB.out hx_) hb); clear hx_ hb hbox hg; have hnb45 := NB101_102.out; have hnc45 := NB102_101.out; obtain ⟨hcz46_0, hcz46_1, hfz46_0, hfz46_1⟩ := qb2 BK101.out) | ((with_reducible refine gate_callee (f := 70) rfl ?_); refine goesL_ (some 13) rfl rfl Try.func70 qa7 rfl #[.agg #[.slice A0_0 l0_0.length c0_0, .int .i64 a0_1]] rfl qa0 ?_; (with_reducible refine (spec_StoreOK.calls k _ _ l0_0 a0_1 true _ ?side1 ?side2 A8.out).mono ?_); (case side1 => exact qa11); (case side2 => exact HC0_0.out); rintro e w47 ⟨rfl, hb⟩; have hx_ := qHX HB hb qa1; refine ⟨_, rfl, ?_⟩; replace BK101 := qO (qB BK101.out hx_ hb); replace BK102 := qO (qB BK102.out hx_ hb); replace HB := qO (below_step (below_step HB.out hx_) hb); clear hx_; (try clear hb); (try clear hb2); (try clear hk); (try clear hi)) | ((with_reducible refine gate_callee (f := 71) rfl ?_); refine goesL_ (some 17) rfl rfl Try.func71 qa7 rfl #[.slice A1 l1.length c1] rfl qa0 ?_; (with_reducible refine (spec_l06Puts.calls k _ _ l1 false _ ?side1 ?side2 A10.out).mono ?_); (case side1 => exact qa63); (case side2 => exact HC1.out); rintro e w' ⟨rfl, ⟨nd, rfl⟩⟩; refine ⟨_, rfl, ?_⟩; (try (rw [drewN_self w47]; generalize hq_ : World.drewN w47 _ = w47; replace BK101 : Aside0 (w47.heap[gb101]? = some (.cells #[.slice A0_0 l0_0.length c0_0, .int .i64 a0_1] 28 (0, 0))) := ⟨qa102⟩; replace BK102 : Aside0 (w47.heap[gb102]? = some (.cells #[.slice none 0 0, .int .i64 0] 28 (0, 0))) := ⟨qa103⟩; replace HB : Aside0 (Below w.heap.size w w47) := ⟨qa78⟩; clear hq_)); obtain ⟨hcz48_0, hcz48_1, hfz48_0, hfz48_1⟩ := qb2 BK102.out))
    refine bodyPost_ret (results_ctt rfl _ _ gb102 28 #[.slice none 0 0, .int .i64 0] (0, 0) _ rfl qa35 Try.underlying28 rfl qa7) rfl ?_
    exact ⟨_, qa9, qa94, qa19⟩
  ·replace c9 := Bool.eq_false_iff.mpr c9
   subst c9; have H1 : (some (([] : List (List (S43))), 0, 0, 1)) = some (r1, r2, r3, r4) := by rw [if_neg (show ¬ (false = true) by decide)] at H; exact H
   clear H; have H := H1; clear H1; simp only [Option.some.injEq, Prod.mk.injEq] at H; obtain ⟨rfl, rfl, rfl, rfl⟩ := H
   go_enter Try.func26, Try.ntmps26
   go_wp2_with (first | ((with_reducible refine gate_dst (N := 2) rfl ?_); refine qX 2 #[.slice A0_0 l0_0.length c0_0, .int .i64 a0_1] 28 ?_; intro gb101 hg w49 hbox hb; have hx_ := qHX HB hb qa1; have BK101 := qO (hbox); have GW101 := qO ((qa17 : w.heap.size ≤ gb101)); have GE101 := GW101; replace HB := qO (below_step (below_step HB.out hx_) hb); clear hx_ hb hbox hg) | ((with_reducible refine gate_dst (N := 4) rfl ?_); refine qX 4 #[.slice none 0 0, .int .i64 0] 28 ?_; intro gb102 hg w50 hbox hb; have hx_ := qHX HB hb qa1; have BK102 := qO (hbox); have GW102 := qO ((qa17 : w.heap.size ≤ gb102)); have GE102 := GW102; have NB101_102 := qO ((qa8 : gb101 ≠ gb102)); have NB102_101 := qO (Ne.symm NB101_102.out); replace BK101 := qO (qB BK101.out hx_ hb); replace HB := qO (below_step (below_step HB.out hx_) hb); clear hx_ hb hbox hg; have hnb51 := NB101_102.out; have hnc51 := NB102_101.out; obtain ⟨hcz52_0, hcz52_1, hfz52_0, hfz52_1⟩ := qb2 BK101.out) | ((with_reducible refine gate_callee (f := 70) rfl ?_); refine goesL_ (some 13) rfl rfl Try.func70 qa7 rfl #[.agg #[.slice A0_0 l0_0.length c0_0, .int .i64 a0_1]] rfl qa0 ?_; (with_reducible refine (spec_StoreOK.calls k _ _ l0_0 a0_1 false _ ?side1 ?side2 A8.out).mono ?_); (case side1 => exact qa11); (case side2 => exact HC0_0.out); rintro e w53 ⟨rfl, hb⟩; have hx_ := qHX HB hb qa1; refine ⟨_, rfl, ?_⟩; replace BK101 := qO (qB BK101.out hx_ hb); replace BK102 := qO (qB BK102.out hx_ hb); replace HB := qO (below_step (below_step HB.out hx_) hb); clear hx_; (try clear hb); (try clear hb2); (try clear hk); (try clear hi); obtain ⟨hcz54_0, hcz54_1, hfz54_0, hfz54_1⟩ := qb2 BK102.out))
   refine bodyPost_ret (results_ctt rfl _ _ gb102 28 #[.slice none 0 0, .int .i64 0] (0, 0) _ rfl qa35 Try.underlying28 rfl qa7) rfl ?_
   exact ⟨_, qa9, qa94, qa19⟩


def impl_isKey.f (a0 : Int) : Option (Bool) := (impl_within.f a0 0 15).bind fun t101 => (some t101)
set_option maxHeartbeats 8000000 in
set_option maxRecDepth 100000 in
theorem impl_isKey.calls (a0 : Int) (r : Bool) (w : World) (h : impl_isKey.f a0 = some r) :
  Calls Try.prog 67 #[.int .i64 a0] w fun e w' => e = .returned (.bool r) ∧ Drawn0 w w' := by
 have H : ((impl_within.f a0 0 15).bind fun t101 => (some t101)) = some r := h; clear h; replace H := Option.bind_eq_some_iff.mp H; obtain ⟨t101, A20, H⟩ := H; replace H : (some t101) = some r := H; have A2 := qO A20; clear A20; obtain rfl := Option.some.inj H
 go_enter Try.func67, Try.ntmps67
 go_wp2_with (first | ((with_reducible refine gate_callee (f := 65) rfl ?_); refine goesL_ (some 4) rfl rfl Try.func65 qa7 rfl #[.int .i64 a0, .int .i64 0, .int .i64 15] rfl qa0 ?_; (with_reducible refine (impl_within.calls a0 0 15 t101 _ A2.out).mono ?_); rintro e w' ⟨rfl, ⟨nd, rfl⟩⟩; refine ⟨_, rfl, ?_⟩))
 go_ret
 exact ⟨qa18, qa68⟩


/-- The first place at which p holds, or -1. -/
def impl_Put_132.fp (p : (S58) → Bool) (l0 : List (S58)) : Int := match l0.findIdx? p with | some i => (i : Int) | none => -1
theorem impl_Put_132.hit (p : (S58) → Bool) (l0 : List (S58)) (kk : Nat) (x : (S58)) (hx : l0[kk]? = some x) (hp : p x = true) (hno : ∀ j, j < kk → ∀ x, l0[j]? = some x → p x = false) : impl_Put_132.fp p l0 = kk := by
 unfold impl_Put_132.fp
 have h : l0.findIdx? p = some kk := by
  rw [List.findIdx?_eq_some_iff_getElem]; obtain ⟨hl, he⟩ := List.getElem?_eq_some_iff.1 hx
  exact ⟨hl, by rw [he]; exact hp, fun j hj => by rw [hno j hj _ (List.getElem?_eq_getElem (Nat.lt_trans hj hl))]; simp⟩
 rw [h]
theorem impl_Put_132.miss (p : (S58) → Bool) (l0 : List (S58)) (hno : ∀ j, j < l0.length → ∀ x, l0[j]? = some x → p x = false) : impl_Put_132.fp p l0 = -1 := by
 unfold impl_Put_132.fp
 have h : l0.findIdx? p = none := by
  rw [List.findIdx?_eq_none_iff]; intro x hx; obtain ⟨j, hj⟩ := List.getElem?_of_mem hx
  exact hno j (List.getElem?_eq_some_iff.1 hj).1 x hj
 rw [h]
set_option maxHeartbeats 4000000 in
set_option maxRecDepth 100000 in
theorem impl_Put_132.callsP (A0 : Option Addr) (c0 : Nat) (l0 : List (S58)) (g : Nat) (cb : Array Value) (p : (S58) → Bool) (w : World) (eg : ∀ args w, (callFunc g args).run Try.prog w = .ok (.enter g args) w) (hr0 : Kd.C k58 w A0 l0.length l0)
  (hp : ∀ (W : World) (x : (S58)), x ∈ l0 → Below w.heap.size w W → Calls Try.prog g (#[.agg #[.int .i64 x.f0, .int .i64 x.f1]] ++ cb) W fun e w' => e = .returned (.bool (p x)) ∧ Below w.heap.size w w') :
  Calls Try.prog 132 #[.slice A0 l0.length c0, .func (.func g) #[] cb] w fun e w' => e = .returned (.int .i64 (impl_Put_132.fp p l0)) ∧ Below w.heap.size w w' := by
 have hlen := hr0.2.1; have HR := qO hr0; have HP := qO hp; clear hr0 hp; have isagg := Try.isAgg58
 go_enter Try.func132, Try.ntmps132
 go_wp2
 go_loopg [5, 8] l0.length (fun gg _ s8 wr => ∃ kk : Nat, kk ≤ l0.length ∧ l0.length - kk ≤ gg ∧ s8 = .int .i64 kk ∧ Aside0 (Below w.heap.size w wr) ∧ Aside0 (∀ j, j < kk → ∀ x, l0[j]? = some x → p x = false))
 case atStart => exact ⟨0, Nat.zero_le _, qa34, rfl, ⟨Below.refl _ w⟩, ⟨fun j hj => absurd hj (Nat.not_lt_zero _)⟩⟩
 case round =>
  obtain ⟨kk, hkk, hg, rfl, BW, No⟩ := hrel
  by_cases hlt : kk < l0.length
  ·have hltz : (kk : Int) < (l0.length : Int) := by omega
   obtain ⟨ad, e, hx0, hx1⟩ := at_T58 HR.out (kk : Int) qa34 hltz
   cases e
   replace hx0 := (BW.out.cell (qL w _ hx0)).trans hx0; replace hx1 := (BW.out.cell (qL w _ hx1)).trans hx1; simp only [Int.toNat_natCast] at hx0; simp only [Int.toNat_natCast] at hx1
   have hx : l0[kk]? = some (rd_T58 l0 (kk : Int)) := by
    rw [List.getElem?_eq_getElem hlt]
    show some l0[kk] = some (l0.getD (kk : Int).toNat _)
    rw [Int.toNat_natCast, List.getD_eq_getElem?_getD, List.getElem?_eq_getElem hlt]
    rfl
   skip
   have hcall := HP.out wr (rd_T58 l0 (kk : Int)) (List.mem_of_getElem? hx) BW.out; have HX := qO hx; clear hx; generalize rd_T58 l0 (kk : Int) = x at hcall HX hx0 hx1
   cases hq : p x with
   | true =>
    have HQ := qO hq; rw [hq] at hcall; clear hq
    go_wp2_with (go_at_fn g; refine hcall.mono ?_; rintro e w' ⟨rfl, hb'⟩)
    go_ret
    exact ⟨by rw [impl_Put_132.hit p l0 kk x HX.out HQ.out No.out]; rfl, hb'⟩
   | false =>
    have HQ := qO hq; rw [hq] at hcall; clear hq
    go_wp2_with (go_at_fn g; refine hcall.mono ?_; rintro e w' ⟨rfl, hb'⟩)
    go_roundg (l0.length - (kk + 1))
    case measure => omega
    case rel =>
     refine ⟨kk + 1, qa34, qa34, by go_num, ⟨hb'⟩, ⟨fun j hj x' hx' => ?_⟩⟩
     by_cases e : j = kk
     ·subst e
      rw [HX.out] at hx'; obtain rfl := Option.some.inj hx'
      exact HQ.out
     ·exact No.out j qa34 x' hx'
  ·have hltz : ¬ (kk : Int) < (l0.length : Int) := by omega
   have hk : kk = l0.length := by omega
   have HK := qO hk; clear hk; go_wp2
   go_ret
   exact ⟨by rw [impl_Put_132.miss p l0 (fun j hj => No.out j (by rw [HK.out]; exact hj))]; rfl, BW.out⟩


set_option maxHeartbeats 4000000 in
set_option maxRecDepth 100000 in
theorem impl_Put_114.callsP (A0 : Option Addr) (c0 : Nat) (l0 : List (S58)) (g : Nat) (cb : Array Value) (p : (S58) → Bool) (w : World) (eg : ∀ args w, (callFunc g args).run Try.prog w = .ok (.enter g args) w) (hr0 : Kd.C k58 w A0 l0.length l0)
  (hp : ∀ (W : World) (x : (S58)), x ∈ l0 → Below w.heap.size w W → Calls Try.prog g (#[.agg #[.int .i64 x.f0, .int .i64 x.f1]] ++ cb) W fun e w' => e = .returned (.bool (p x)) ∧ Below w.heap.size w w') :
  Calls Try.prog 114 #[.slice A0 l0.length c0, .func (.func g) #[] cb] w fun e w' => e = .returned (.bool (l0.any p)) ∧ Below w.heap.size w w' := by
 have hc := impl_Put_132.callsP A0 c0 l0 g cb p w eg hr0 hp
 have hany : decide (0 ≤ impl_Put_132.fp p l0) = l0.any p := by
  unfold impl_Put_132.fp
  cases hf : l0.findIdx? p with
  | none =>
   have h := List.findIdx?_eq_none_iff.1 hf
   have h2 : l0.any p = false := by
    rw [List.any_eq_false]; intro x hx; rw [h x hx]
    simp
   rw [h2]
   rfl
  | some i =>
   obtain ⟨hl, hi, _⟩ := List.findIdx?_eq_some_iff_getElem.1 hf; have h2 : l0.any p = true := List.any_eq_true.2 ⟨l0[i], List.getElem_mem hl, hi⟩; rw [h2]
   simp
 have HA := qO hany; clear hany hp; generalize impl_Put_132.fp p l0 = q at hc HA
 go_enter Try.func114, Try.ntmps114
 go_wp2_with (go_at_call 132; refine hc.mono ?_; rintro e w' ⟨rfl, hb'⟩)
 go_ret
 exact ⟨by rw [← HA.out]; rfl, hb'⟩


def impl_isPut.f (a0_0 : Int) (a0_1 : Int) : Option (Bool) := (impl_isKey.f a0_0).bind fun t102 => (if t102 = true then ((impl_fits.f a0_0 a0_1).bind fun t103 => (some t103)) else (some false))
set_option maxHeartbeats 8000000 in
set_option maxRecDepth 100000 in
theorem impl_isPut.calls (a0_0 : Int) (a0_1 : Int) (r : Bool) (w : World) (h : impl_isPut.f a0_0 a0_1 = some r) :
  Calls Try.prog 84 #[.agg #[.int .i64 a0_0, .int .i64 a0_1]] w fun e w' => e = .returned (.bool r) ∧ Below w.heap.size w w' := by
 have hu58 := Try.underlying58; have HB := qO (Below.refl w.heap.size w); have H : ((impl_isKey.f a0_0).bind fun t102 => (if t102 = true then ((impl_fits.f a0_0 a0_1).bind fun t103 => (some t103)) else (some false))) = some r := h; clear h; replace H := Option.bind_eq_some_iff.mp H; obtain ⟨t102, A20, H⟩ := H; replace H : (if t102 = true then ((impl_fits.f a0_0 a0_1).bind fun t103 => (some t103)) else (some false)) = some r := H; have A2 := qO A20; clear A20
 by_cases c3 : t102 = true
 ·subst c3
  have H1 : ((impl_fits.f a0_0 a0_1).bind fun t103 => (some t103)) = some r := by rw [if_pos rfl] at H; exact H
  clear H; have H := H1; clear H1; replace H := Option.bind_eq_some_iff.mp H; obtain ⟨t103, A40, H⟩ := H; replace H : (some t103) = some r := H; have A4 := qO A40; clear A40; obtain rfl := Option.some.inj H
  go_enter Try.func84, Try.ntmps84
  go_wp2_with (first | ((with_reducible refine gate_dst (N := 1) rfl ?_); refine qX 1 #[.int .i64 a0_0, .int .i64 a0_1] 58 ?_; intro gb101 hg w5 hbox hb; have hx_ := qHX HB hb qa1; have BK101 := qO (hbox); have GW101 := qO ((qa17 : w.heap.size ≤ gb101)); have GE101 := GW101; replace HB := qO (below_step (below_step HB.out hx_) hb); clear hx_ hb hbox hg; obtain ⟨hcz6_0, hcz6_1, hfz6_0, hfz6_1⟩ := qb2 BK101.out) | ((with_reducible refine gate_callee (f := 67) rfl ?_); refine goesL_ (some 5) rfl rfl Try.func67 qa7 rfl #[.int .i64 a0_0] rfl qa0 ?_; (with_reducible refine (impl_isKey.calls a0_0 true _ A2.out).mono ?_); rintro e w' ⟨rfl, ⟨nd, rfl⟩⟩; refine ⟨_, rfl, ?_⟩) | (go_at_call 66; (with_reducible refine (impl_fits.calls a0_0 a0_1 t103 _ A4.out).mono ?_); rintro e w' ⟨rfl, ⟨nd, rfl⟩⟩))
  go_ret
  exact ⟨qa9, qa5⟩
 ·replace c3 := Bool.eq_false_iff.mpr c3
  subst c3; have H1 : (some false) = some r := by rw [if_neg (show ¬ (false = true) by decide)] at H; exact H
  clear H; have H := H1; clear H1; obtain rfl := Option.some.inj H
  go_enter Try.func84, Try.ntmps84
  go_wp2_with (first | ((with_reducible refine gate_dst (N := 1) rfl ?_); refine qX 1 #[.int .i64 a0_0, .int .i64 a0_1] 58 ?_; intro gb101 hg w7 hbox hb; have hx_ := qHX HB hb qa1; have BK101 := qO (hbox); have GW101 := qO ((qa17 : w.heap.size ≤ gb101)); have GE101 := GW101; replace HB := qO (below_step (below_step HB.out hx_) hb); clear hx_ hb hbox hg; obtain ⟨hcz8_0, hcz8_1, hfz8_0, hfz8_1⟩ := qb2 BK101.out) | ((with_reducible refine gate_callee (f := 67) rfl ?_); refine goesL_ (some 5) rfl rfl Try.func67 qa7 rfl #[.int .i64 a0_0] rfl qa0 ?_; (with_reducible refine (impl_isKey.calls a0_0 false _ A2.out).mono ?_); rintro e w' ⟨rfl, ⟨nd, rfl⟩⟩; refine ⟨_, rfl, ?_⟩))
  go_ret
  exact ⟨qa9, qa5⟩


def impl_arePuts_1.f (a0_0 : Int) (a0_1 : Int) : Option (Bool) := (impl_isPut.f a0_0 a0_1).bind fun t102 => (some (!t102))
set_option maxHeartbeats 8000000 in
set_option maxRecDepth 100000 in
theorem impl_arePuts_1.calls (a0_0 : Int) (a0_1 : Int) (r : Bool) (w : World) (h : impl_arePuts_1.f a0_0 a0_1 = some r) :
  Calls Try.prog 115 #[.agg #[.int .i64 a0_0, .int .i64 a0_1]] w fun e w' => e = .returned (.bool r) ∧ Below w.heap.size w w' := by
 have hu58 := Try.underlying58; have HB := qO (Below.refl w.heap.size w); have H : ((impl_isPut.f a0_0 a0_1).bind fun t102 => (some (!t102))) = some r := h; clear h; replace H := Option.bind_eq_some_iff.mp H; obtain ⟨t102, A20, H⟩ := H; replace H : (some (!t102)) = some r := H; have A2 := qO A20; clear A20; obtain rfl := Option.some.inj H
 go_enter Try.func115, Try.ntmps115
 go_wp2_with (first | ((with_reducible refine gate_dst (N := 1) rfl ?_); refine qX 1 #[.int .i64 a0_0, .int .i64 a0_1] 58 ?_; intro gb101 hg w3 hbox hb; have hx_ := qHX HB hb qa1; have BK101 := qO (hbox); have GW101 := qO ((qa17 : w.heap.size ≤ gb101)); have GE101 := GW101; replace HB := qO (below_step (below_step HB.out hx_) hb); clear hx_ hb hbox hg; obtain ⟨hcz4_0, hcz4_1, hfz4_0, hfz4_1⟩ := qb2 BK101.out) | ((with_reducible refine gate_callee (f := 84) rfl ?_); refine goesL_ (some 4) rfl rfl Try.func84 qa7 rfl #[.agg #[.int .i64 a0_0, .int .i64 a0_1]] rfl qa0 ?_; (with_reducible refine (impl_isPut.calls a0_0 a0_1 t102 _ A2.out).mono ?_); rintro e w5 ⟨rfl, hb⟩; have hx_ := qHX HB hb qa1; refine ⟨_, rfl, ?_⟩; replace BK101 := qO (qB BK101.out hx_ hb); replace HB := qO (below_step (below_step HB.out hx_) hb); clear hx_; (try clear hb); (try clear hb2); (try clear hk); (try clear hi)))
 go_ret
 exact ⟨qa9, qa5⟩


def impl_arePuts.p (x : S58) : Bool := match impl_arePuts_1.f x.f0 x.f1 with | some b => b | none => false
theorem impl_arePuts.pe (x : S58) : impl_arePuts_1.f x.f0 x.f1 = some (impl_arePuts.p x) := by
 have h1 : ∀ a b c, ∃ r, impl_within.f a b c = some r := by
  intro a b c
  unfold impl_within.f
  split <;> exact ⟨_, rfl⟩
 have h2 : ∀ a, ∃ r, impl_isKey.f a = some r := by
  intro a; obtain ⟨r, h⟩ := h1 a 0 15
  exact ⟨r, by unfold impl_isKey.f; rw [h]; rfl⟩
 have h3 : ∀ a b, ∃ r, impl_fits.f a b = some r := by
  intro a b
  unfold impl_fits.f impl_IsInt.f
  split
  ·obtain ⟨r, h⟩ := h1 b 0 8
   exact ⟨r, by rw [h]; rfl⟩
  ·obtain ⟨r, h⟩ := h1 b (-2147483648) 2147483647
   exact ⟨r, by rw [h]; rfl⟩
 have h4 : ∃ r, impl_arePuts_1.f x.f0 x.f1 = some r := by
  obtain ⟨a, ha⟩ := h2 x.f0; obtain ⟨b, hb⟩ := h3 x.f0 x.f1
  unfold impl_arePuts_1.f impl_isPut.f
  rw [ha]
  cases a
  ·exact ⟨_, rfl⟩
  ·simp only [Option.bind_some, if_true]
   rw [hb]
   exact ⟨_, rfl⟩
 obtain ⟨r, h⟩ := h4
 unfold impl_arePuts.p
 rw [h]
def impl_arePuts.f (l0 : List (S58)) : Option Bool := if (l0.length : Int) ≤ 400 then some (!(l0.any impl_arePuts.p)) else some false
set_option maxHeartbeats 4000000 in
set_option maxRecDepth 100000 in
theorem impl_arePuts.calls (A0 : Option Addr) (c0 : Nat) (l0 : List (S58)) (r : Bool) (w : World) (hr0 : Kd.C k58 w A0 l0.length l0) (hc0 : l0.length ≤ c0) (h : impl_arePuts.f l0 = some r) :
  Calls Try.prog 75 #[.slice A0 l0.length c0] w fun e w' => e = .returned (.bool r) ∧ Below w.heap.size w w' := by
 unfold impl_arePuts.f at h
 have eg : ∀ args w, (callFunc 115 args).run Try.prog w = .ok (.enter 115 args) w := enters_of Try.func115 qa7 rfl; have hcon := impl_Put_114.callsP A0 c0 l0 115 #[] impl_arePuts.p w eg hr0 (fun W x _ hb => (impl_arePuts_1.calls x.f0 x.f1 (impl_arePuts.p x) W (impl_arePuts.pe x)).mono (by rintro e w' ⟨rfl, h2⟩; exact ⟨rfl, below_step hb h2⟩)); clear hr0 hc0 eg; generalize l0.any impl_arePuts.p = q at h hcon
 by_cases hle : (l0.length : Int) ≤ 400
 ·rw [if_pos hle] at h
  obtain rfl := Option.some.inj h; have hd : decide ((l0.length : Int) ≤ 400) = true := decide_eq_true hle; have hd2 : decide (l0.length ≤ 400) = true := decide_eq_true qa34; clear hle h
  go_enter Try.func75, Try.ntmps75
  go_wp2_with (go_at_call 114; refine hcon.mono ?_; rintro e w' ⟨rfl, hb'⟩)
  go_ret
  exact ⟨rfl, hb'⟩
 ·rw [if_neg hle] at h
  obtain rfl := Option.some.inj h; have hd : decide ((l0.length : Int) ≤ 400) = false := decide_eq_false hle; have hd2 : decide (l0.length ≤ 400) = false := decide_eq_false qa34; clear hle h hcon
  go_enter Try.func75, Try.ntmps75
  go_wp2
  go_ret
  exact ⟨rfl, Below.refl _ _⟩


def impl_Version.f (l0 : List (S43)) : Option (List (S43)) := if l0.length < 8796093022208 then some l0 else none
set_option maxHeartbeats 4000000 in
set_option maxRecDepth 100000 in
theorem impl_Version.calls (A0 : Option Addr) (c0 : Nat) (l0 : List (S43)) (r : List (S43)) (w : World) (hr0 : Kd.C k43 w A0 l0.length l0) (hc0 : l0.length ≤ c0) (h : impl_Version.f l0 = some r) :
  Calls Try.prog 103 #[.slice A0 l0.length c0] w fun e w' => ∃ v0_ : Value, e = .returned (v0_) ∧ Kd.R k43 43 w' w.heap.size (fun _ => True) v0_ r ∧ Below w.heap.size w w' := by
 unfold impl_Version.f at h
 by_cases hl : l0.length < 8796093022208
 ·rw [if_pos hl] at h
  obtain rfl := Option.some.inj h; have LM := qO hl; have HR0 := qO hr0; have HB := qO (Below.refl w.heap.size w)
  cases A0 with
  | none =>
   have hz : l0.length = 0 := by
    rcases Nat.eq_zero_or_pos l0.length with h0 | h0
    ·exact h0
    ·obtain ⟨ad, e, _⟩ := hr0.2.2 h0
     cases e
   obtain rfl := List.eq_nil_of_length_eq_zero hz; have heq := fun w => Lib.run_eql_slice_nil (P := Try.prog) w 41 43 none 0 c0 0 0 Try.underlying41
   clear hr0 hc0 hl LM HR0 hz
   go_enter Try.func103, Try.ntmps103
   go_wp2
   go_ret
   exact ⟨_, rfl, Kd.R_nil _ _ _ _ _, HB.out⟩
  | some a0 =>
   have heq := fun w => Lib.run_eql_slice_nil (P := Try.prog) w 41 43 (some a0) l0.length c0 0 0 Try.underlying41
   clear hr0 hc0 hl
   go_enter Try.func103, Try.ntmps103
   go_wp2_with (first | ((with_reducible refine gate_dst (N := 5) rfl ?_); refine Kd.R_lit k43 _ 43 ?hg (N := 5) ?hd (xs := ([] : List (S43))) (inner := []) (ok := fun _ => True) (okp := fun _ => True) ?hr ?hp (fun _ hk => hk) trivial (Below.refl _ _) (Nat.le_refl _) qa120 ?_; (case hd => rfl); (case hg => rfl); (case hr => exact qa16); (case hp => exact qa207); intro v104 w6 ho7 hb hg_ hnew_; clear hg_ hnew_; have n0_ := qO ho7; have n1_ := qO hb; clear HB; have HO := n0_; have HB := n1_; clear n0_ n1_ hb ho7) | ((with_reducible refine gate_builtin (b := .append) (xs := #[.tmp 5, .tmp 6]) rfl ?_); at_builtin; refine Kd.R_append_rows k43 (w0 := w) w.heap.size rfl (.tmp 5) (.tmp 6) 41 43 (.agg #[(.int .i64 0), (.int .i64 0)]) 16 rfl Try.underlying41 info43 rfl qa69 qa34 v104 [] l0 _ _ _ (fun _ => True) (fun _ => False) rfl rfl ?aO ?aR (fun _ _ h => h) (fun _ h => h.elim) ?aF ?aB ?aS ?aL ?_; (case aR => exact qa187); (case aB => exact HB.out); (case aF => exact qa206); (case aO => exact HO.out); (case aS => exact (below_size HB.out)); (case aL => have := LM.out; simp only [List.length_nil]; omega); intro v107 w10 ho hb hg hat; have n0_ := qO hb; have n1_ := qO ho; clear HB HO; have HB := n0_; have HO := n1_; clear n0_ n1_ ho hb hg hat))
   go_ret
   exact ⟨_, rfl, by simpa using HO.out, HB.out⟩
 ·rw [if_neg hl] at h
  cases h


def impl_copyStore.l0 : Nat → List (List (S43)) → Int → Int → List (List (S43)) → Int → Option ((List (List (S43))) × Int)
 | 0, _, _, _, _, _ => none
 | k + 1, x10, x11, x12, x104000, x104001 => if x12 < x11 then (if 0 ≤ x12 then (if x12 < (x10.length : Int) then ((impl_Version.f (rd_L4 x10 x12)).bind fun t105 => (if x104000.length < 5864062014805 then (impl_copyStore.l0 k x10 x11 (wrap64 (x12 + 1)) (x104000 ++ [t105]) x104001) else (none))) else (none)) else (none)) else (some (x104000, x104001))
def impl_copyStore.f (k : Nat) (l0_0 : List (List (S43))) (a0_1 : Int) : Option ((List (List (S43))) × Int) := impl_copyStore.l0 k l0_0 (l0_0.length : Int) 0 ([] : List (List (S43))) a0_1
def impl_copyStore.T5 : Bool × List (List Nat × List Nat) := (true, [([], []), ([0], [0]), ([], []), ([2], [2]), ([3], [3]), ([1, 4, 3], [1, 4]), ([0, 1, 2, 3, 4, 5], []), ([6, 5, 5, 0, 1, 2, 3, 4, 5], [5, 6])])
def impl_copyStore.B5 : List Nat := [0, 1, 0, 4, 12, 31, 63, 127]
theorem impl_copyStore.tab5 : rtab .any (opsOf Try.f102 5) = impl_copyStore.T5 := by kernel_rfl
theorem impl_copyStore.bits5 : waitsOk impl_copyStore.T5.2 impl_copyStore.B5 = true := by kernel_rfl
def impl_copyStore.y0 := #[qf,qf,qf,qf,qf,qf,qf,qf]
def impl_copyStore.y1 := #[qt,qf,qf,qf,qf,qf,qf,qf]
def impl_copyStore.y2 := #[qt,qf,qt,qf,qf,qf,qf,qf]
def impl_copyStore.y3 := #[qt,qt,qt,qf,qf,qf,qf,qf]
def impl_copyStore.y4 := #[qt,qt,qt,qt,qf,qf,qf,qf]
def impl_copyStore.y5 := #[qt,qt,qt,qt,qt,qf,qf,qf]
def impl_copyStore.y6 := #[qt,qt,qt,qt,qt,qt,qf,qf]
def impl_copyStore.y7 := #[qt,qt,qt,qt,qt,qt,qt,qf]
def impl_copyStore.y8 := #[qt,qt,qt,qt,qt,qt,qt,qt]
set_option maxHeartbeats 8000000 in
set_option maxRecDepth 100000 in
theorem impl_copyStore.calls (k : Nat) (A0_0 : Option Addr) (c0_0 : Nat) (l0_0 : List (List (S43))) (a0_1 : Int) (r1 : List (List (S43))) (r2 : Int) (w : World) (hr0_0 : Kd.C (Kd.slice 43 k43) w A0_0 l0_0.length l0_0) (hc0_0 : l0_0.length ≤ c0_0) (h : impl_copyStore.f k l0_0 a0_1 = some (r1, r2)) :
  Calls Try.prog 102 #[.agg #[.slice A0_0 l0_0.length c0_0, .int .i64 a0_1]] w fun e w' => ∃ v0_ : Value, e = .returned (.agg #[v0_, .int .i64 r2]) ∧ Kd.S (Kd.slice 43 k43) 41 w' w.heap.size (fun _ => True) v0_ r1 ∧ Below w.heap.size w w' := by
 have hu28 := Try.underlying28; have HR0_0 := qO hr0_0; have HC0_0 := qO hc0_0; clear hr0_0 hc0_0; have HB := qO (Below.refl w.heap.size w); have H : (impl_copyStore.l0 k l0_0 (l0_0.length : Int) 0 ([] : List (List (S43))) a0_1) = some (r1, r2) := h; clear h; have H' := qO H; clear H
 go_enter Try.func102, Try.ntmps102
 go_wp2_with (first | ((with_reducible refine gate_dst (N := 1) rfl ?_); refine qX 1 #[.slice A0_0 l0_0.length c0_0, .int .i64 a0_1] 28 ?_; intro gb101 hg w2 hbox hb; have hx_ := qHX HB hb qa1; have BK101 := qO (hbox); have GW101 := qO ((qa17 : w.heap.size ≤ gb101)); have GE101 := GW101; replace HB := qO (below_step (below_step HB.out hx_) hb); clear hx_ hb hbox hg) | ((with_reducible refine gate_dst (N := 2) rfl ?_); refine qX 2 #[.slice none 0 0, .int .i64 0] 28 ?_; intro gb102 hg w3 hbox hb; have hx_ := qHX HB hb qa1; have BK102 := qO (hbox); have GW102 := qO ((qa17 : w.heap.size ≤ gb102)); have GE102 := GW102; have NB101_102 := qO ((qa8 : gb101 ≠ gb102)); have NB102_101 := qO (Ne.symm NB101_102.out); replace BK101 := qO (qB BK101.out hx_ hb); replace HB := qO (below_step (below_step HB.out hx_) hb); clear hx_ hb hbox hg; have hnb4 := NB101_102.out; have hnc4 := NB102_101.out; obtain ⟨hcz5_0, hcz5_1, hfz5_0, hfz5_1⟩ := qb2 BK101.out) | ((with_reducible refine gate_dst (N := 3) rfl ?_); refine qX 3 #[.slice none 0 0, .int .i64 0] 28 ?_; intro gb103 hg w6 hbox hb; have hx_ := qHX HB hb qa1; have BK103 := qO (hbox); have GW103 := qO ((qa17 : w.heap.size ≤ gb103)); have GE103 := GW103; have NB101_103 := qO ((qa8 : gb101 ≠ gb103)); have NB103_101 := qO (Ne.symm NB101_103.out); have NB102_103 := qO ((qa44 : gb102 ≠ gb103)); have NB103_102 := qO (Ne.symm NB102_103.out); replace BK101 := qO (qB BK101.out hx_ hb); replace BK102 := qO (qB BK102.out hx_ hb); replace HB := qO (below_step (below_step HB.out hx_) hb); clear hx_ hb hbox hg; have hnb7 := NB103_101.out; have hnc7 := NB101_103.out; have hnb8 := NB103_102.out; have hnc8 := NB102_103.out; obtain ⟨hcz9_0, hcz9_1, hfz9_0, hfz9_1⟩ := qb2 BK103.out; obtain ⟨hcz10_0, hcz10_1, hfz10_0, hfz10_1⟩ := qb2 BK101.out))
 go_loopg [12] k (fun kq v12 w' => ∃ (x12_1 : Int) (x104000_1 : List (List (S43))) (u104000 : Value), v12 = .int .i64 x12_1 ∧ Aside0 (impl_copyStore.l0 kq l0_0 (l0_0.length : Int) x12_1 x104000_1 a0_1 = some (r1, r2)) ∧ Aside0 (kq ≤ k) ∧ Aside0 (Kd.S (Kd.slice 43 k43) 41 w' w.heap.size (fun _ => True) u104000 x104000_1) ∧ Aside0 (w'.heap[gb101]? = some (.cells #[(.slice A0_0 l0_0.length c0_0), .int .i64 a0_1] 28 (0, 0))) ∧ Aside0 (w'.heap[gb102]? = some (.cells #[(.slice none 0 0), .int .i64 0] 28 (0, 0))) ∧ Aside0 (w'.heap[gb103]? = some (.cells #[u104000, .int .i64 a0_1] 28 (0, 0))) ∧ Aside0 (Below w.heap.size w w'))
 case atStart => exact ⟨(0), (([] : List (List (S43)))), (.slice none 0 0), qa18, H', ⟨Nat.le_refl _⟩, ⟨qa94⟩, ⟨by (with_reducible repeat (first | refine qkN ?_ _ | refine qkD ?_ | refine qkA ?_ _)); refine blk_far ?_ NB101_103.out _; (with_reducible repeat (first | refine qkN ?_ _ | refine qkD ?_ | refine qkA ?_ _)); refine blk_far ?_ NB101_103.out _; (with_reducible repeat (first | refine qkN ?_ _ | refine qkD ?_ | refine qkA ?_ _)); exact BK101.out⟩, ⟨by (with_reducible repeat (first | refine qkN ?_ _ | refine qkD ?_ | refine qkA ?_ _)); refine blk_far ?_ NB102_103.out _; (with_reducible repeat (first | refine qkN ?_ _ | refine qkD ?_ | refine qkA ?_ _)); refine blk_far ?_ NB102_103.out _; (with_reducible repeat (first | refine qkN ?_ _ | refine qkD ?_ | refine qkA ?_ _)); exact BK102.out⟩, ⟨by (with_reducible repeat (first | refine qkN ?_ _ | refine qkD ?_ | refine qkA ?_ _)); refine blk_put (cs := #[.slice none 0 0, .int .i64 0]) ?_ 1 _ rfl; (with_reducible repeat (first | refine qkN ?_ _ | refine qkD ?_ | refine qkA ?_ _)); refine blk_put (cs := #[.slice none 0 0, .int .i64 0]) ?_ 0 _ rfl; (with_reducible repeat (first | refine qkN ?_ _ | refine qkD ?_ | refine qkA ?_ _)); exact BK103.out⟩, ⟨qa143⟩⟩
 case round =>
  clear H'
  try clear c1
  try clear p2
  try clear c4
  try clear c7
  try clear c8
  try clear c10
  try clear hcz10_0
  try clear hcz10_1
  try clear hcz5_0
  try clear hcz5_1
  try clear hcz9_0
  try clear hcz9_1
  try clear hfz10_0
  try clear hfz10_1
  try clear hfz5_0
  try clear hfz5_1
  try clear hfz9_0
  try clear hfz9_1
  obtain ⟨x12_1, x104000_1, u104000, rfl, HA, HK1, HO_104000, BK101, BK102, BK103, HB⟩ := hrel
  cases gk with
  | zero => exact absurd HA.out (by simp [impl_copyStore.l0])
  | succ k1 =>
   have H := HA.out; clear HA; simp only [impl_copyStore.l0] at H
   by_cases c11 : x12_1 < (l0_0.length : Int)
   ·rw [if_pos c11] at H
    have c11b0 : decide (x12_1 < (l0_0.length : Int)) = true := decide_eq_true c11; clear c11
    by_cases c12 : 0 ≤ x12_1
    ·rw [if_pos c12] at H
     have c12b0 : decide (0 ≤ x12_1) = true := decide_eq_true c12; clear c12
     by_cases c13 : x12_1 < (l0_0.length : Int)
     ·rw [if_pos c13] at H
      have c13b0 : decide (x12_1 < (l0_0.length : Int)) = true := decide_eq_true c13; clear c13; replace H := Option.bind_eq_some_iff.mp H; obtain ⟨t105, A140, H⟩ := H; replace H : (if x104000_1.length < 5864062014805 then (impl_copyStore.l0 k1 l0_0 (l0_0.length : Int) (wrap64 (x12_1 + 1)) (x104000_1 ++ [t105]) a0_1) else (none)) = some (r1, r2) := H; have A14 := qO A140; clear A140
      by_cases c15 : x104000_1.length < 5864062014805
      ·rw [if_pos c15] at H
       have LMc15 := qO c15; clear c15; obtain ⟨y108, hy108⟩ : ∃ y_ : List (List (S43)), y_ = (x104000_1 ++ [t105]) := ⟨_, rfl⟩; replace H : (impl_copyStore.l0 k1 l0_0 (l0_0.length : Int) (wrap64 (x12_1 + 1)) y108 a0_1) = some (r1, r2) := by first | (rw [hy108]; with_reducible exact H) | (have H2_ := (Option.bind_some _ _).symm.trans H; rw [hy108]; with_reducible exact H2_) | (have H2_ := (Option.bind_some _ _).symm.trans H; with_reducible exact H2_) | with_reducible exact H | (rw [hy108]; exact H) | exact H
       have Ny108 := qO hy108; clear hy108; have H' := qO H; clear H; have p104 : 0 ≤ (x12_1 : Int) := qT qa2; have q104 : x12_1 < (l0_0.length : Int) := qT qa2; obtain ⟨ad104, A104_0, c104_0, e104, hx104_0, hl104_0, hi104_0⟩ := at_L4 HR0_0.out x12_1 p104 q104
       cases e104
       replace hx104_0 := (HB.out.cell (qL w _ hx104_0)).trans hx104_0; have HR104_0 := qO hi104_0; have HC104_0 := qO hl104_0; clear hi104_0 hl104_0; replace p104 := eq_true p104; replace q104 := eq_true q104
       try go_wp2
       replace HO_104000 := qO (Kd.S_drew HO_104000.out); replace BK101 := qO (qkD BK101.out); replace BK102 := qO (qkD BK102.out); replace BK103 := qO (qkD BK103.out); replace HB := qO (qbD HB.out); refine start_ (n := 8) (S := fun w' => w'.cell? ⟨gb103, 0, none⟩ = some (u104000) ∧ w'.cell? ⟨gb103, 1, none⟩ = some (.int .i64 a0_1)) (ds := [7]) impl_copyStore.y0 qa7 rfl rfl ⟨qc0 BK103.out, qc1 BK103.out⟩ (fun hHeld => ?_); refine with_tabW impl_copyStore.tab5 impl_copyStore.bits5 (fun HT_ HW_ => ?_); generalize wr.drew = w16 at HO_104000 BK101 BK102 BK103 HB hHeld ⊢; refine qPu 0 16 impl_copyStore.y1 rfl rfl (any_of HT_.out qa7) qa10 qa3 ?_; refine qPu 2 18 impl_copyStore.y2 rfl rfl (any_of HT_.out qa7) qa10 qa3 ?_; refine qTk 1 17 impl_copyStore.y3 rfl rfl (take_ofW HT_.out HW_.out qa7) qa111 hHeld qa3 ?_; refine one_ (i := 3) (N := some 19) impl_copyStore.y4 rfl rfl (one_of HT_.out qa7) qa69 (fun K hK => ?_); refine goes_ Try.func103 qa7 rfl #[.slice A104_0 (rd_L4 l0_0 x12_1).length c104_0] (by rfl) rfl rfl qa0 ?_; (with_reducible refine (impl_Version.calls _ _ (rd_L4 l0_0 x12_1) t105 _ ?side1 ?side2 A14.out).mono ?_); (case side1 => repeat (first | exact (Kd.C_below HR104_0.out HB.out) | with_reducible first | refine Kd.C_alloc ?_ _ | refine Kd.C_drewN ?_ _ | refine Kd.C_drew ?_)); (case side2 => exact HC104_0.out); rintro e w17 ⟨v106, rfl, ho0, hb⟩; have hx_ := qHX HB hb qa1; refine ⟨_, rfl, ?_⟩; have HO107 := qO (Kd.R_lower ho0 (below_size (below_step HB.out hx_))); replace HO_104000 := qO (Kd.S_elder' (by (with_reducible repeat (first | apply Kd.S_alloc | apply Kd.S_drewN | apply Kd.S_drew)); exact HO_104000.out) (Kd.R_base ho0) hb); replace BK101 := qO (qB BK101.out hx_ hb); replace BK102 := qO (qB BK102.out hx_ hb); replace BK103 := qO (qB BK103.out hx_ hb); replace HB := qO (below_step (below_step HB.out hx_) hb); clear hx_; (try clear hb); (try clear hb2); (try clear hk); (try clear hi); (try clear ho0); obtain ⟨Ao19, co19, eo19⟩ := Kd.R_slice HO107.out; (first | subst eo19 | (injection eo19 with f1_ f2_ f3_; have f4_ := f1_.symm; have f5_ := f3_.symm; clear f1_ f2_ f3_; subst f4_; subst f5_)); refine hK.out _ _ ⟨qc0 BK103.out, qc1 BK103.out⟩ (fun hHeld => ?_); clear hK K; refine norm_ (a' := ?_) ?_ ?_; rotate_left
       ·exact qa20
       refine one_ (i := 4) (N := some 20) impl_copyStore.y5 rfl rfl (one_of HT_.out qa7) qa69 (fun K hK => ?_); refine value_ (w1 := ?_) (v := ?_) (by rfl) rfl ?_ ?_; rotate_left 2
       ·go_simp
        constructor
        ·rfl
        ·rfl
       refine hK.out _ _ ⟨(blk_cell (qkA BK103.out _) 0).trans rfl, (blk_cell (qkA BK103.out _) 1).trans rfl⟩ (fun hHeld => ?_); clear hK K; refine norm_ (a' := ?_) ?_ ?_; rotate_left
       ·exact qa20
       refine one_ (i := 5) (N := some 21) impl_copyStore.y6 rfl rfl (one_of HT_.out qa7) qa69 (fun K hK => ?_); refine Kd.S_append_step (Kd.slice 43 k43) (w0 := w) w.heap.size (by rfl) (.tmp 17) (.tmp 20) 26 41 (.slice none 0 0) 24 rfl Try.underlying26 info41 rfl qa69 qa34 u104000 x104000_1 t105 [.slice Ao19 t105.length co19] (fun _ => True) (fun k_ => some k_ = (.slice Ao19 t105.length co19 : Value).ownBlock) rfl rfl ?aP (fun k_ hk_ => ((Kd.R_mono (ok' := fun k_ => ((fun _ => True)) k_ ∧ some k_ ≠ (u104000 : Value).ownBlock) (Kd.R_apart' (HO107.out) (Kd.S_typed HO_104000.out) qa69) (fun k_ hk => ⟨trivial, hk.2⟩))).1 k_ hk_.symm) ?aF ?aO ?aB ?aS ?aL ?_; (case aP => exact Kd.M_row (Kd.R_mono (Kd.R_tight rfl (Kd.R_mono (ok' := fun k_ => ((fun _ => True)) k_ ∧ some k_ ≠ (u104000 : Value).ownBlock) (Kd.R_apart' (HO107.out) (Kd.S_typed HO_104000.out) (by decide)) (fun k_ hk => ⟨trivial, hk.2⟩))) (fun _ h_ => h_))); (case aB => exact (by repeat (first | (with_reducible first | exact HB.out | apply qbA | apply qbN | apply qbD | refine qbS ?_ GE101.out | refine qbS ?_ GE102.out | refine qbS ?_ GE103.out) | exact HB.out))); (case aF => exact qa206); (case aO => exact (by (with_reducible repeat (first | apply Kd.S_alloc | apply Kd.S_drewN | apply Kd.S_drew)); exact Kd.S_mono HO_104000.out (fun k_ hk => ⟨trivial, fun e_ => hk.2 e_⟩))); (case aS => exact (below_size (by repeat (first | (with_reducible first | exact HB.out | apply qbA | apply qbN | apply qbD | refine qbS ?_ GE101.out | refine qbS ?_ GE102.out | refine qbS ?_ GE103.out) | exact HB.out)))); (case aL => have := LMc15.out; omega); intro v109 w18 ho hb hg hat; rw [← Ny108.out] at ho; have n0_ := qO (blk_grown (g := gb101) (o := .cells #[.slice (some ad104) l0_0.length c0_0, .int .i64 a0_1] 28 (0, 0)) qa4 hg (Kd.S_ne HO_104000.out BK101.out qa69)); have n1_ := qO (blk_grown (g := gb102) (o := .cells #[.slice none 0 0, .int .i64 0] 28 (0, 0)) qa26 hg (Kd.S_ne HO_104000.out BK102.out qa69)); have n2_ := qO (blk_grown (g := gb103) (o := .cells #[u104000, .int .i64 a0_1] 28 (0, 0)) (by (with_reducible repeat (first | refine qkN ?_ _ | refine qkD ?_ | refine qkA ?_ _)); exact BK103.out) hg (Kd.S_ne HO_104000.out BK103.out qa69)); have n3_ := qO (hb); have n4_ := qO (ho); clear BK101 BK102 BK103 HB HO_104000 HO107; have BK101 := n0_; have BK102 := n1_; have BK103 := n2_; have HB := n3_; have HO110 := n4_; clear n0_ n1_ n2_ n3_ n4_ ho hb hg hat; obtain ⟨Ao20, co20, eo20⟩ := Kd.S_slice HO110.out; (first | subst eo20 | (injection eo20 with f1_ f2_ f3_; have f4_ := f1_.symm; have f5_ := f3_.symm; clear f1_ f2_ f3_; subst f4_; subst f5_)); refine hK.out _ _ ⟨qc0 BK103.out, qc1 BK103.out⟩ (fun hHeld => ?_); clear hK K; refine norm_ (a' := ?_) ?_ ?_; rotate_left
       ·exact qa20
       refine qPu 6 22 impl_copyStore.y7 rfl rfl (any_of HT_.out qa7) qa10 qa3 ?_; refine last_ (i := 7) (N := none) impl_copyStore.y8 rfl rfl (one_of HT_.out qa7) qa69 (fun K hK => ?_); have hs21 := qc0 BK103.out; have hfs21 := blk_frozen BK103.out 0; have hns21_0 := NB101_103.out; have hns21_1 := NB102_103.out; have hms21_0 := NB103_101.out; have hms21_1 := NB103_102.out; refine skip_ (w1 := ?_) (by rfl) rfl ?_ ?_; rotate_left
       ·go_simp
        rfl
       refine hK.out _ _ ?_; clear hK K; refine done_ (done_of HT_.out qa7) ?_
       try go_wp2
       go_roundg k1
       case measure => have := HK1.out; omega
       case rel => exact ⟨(wrap64 (x12_1 + 1)), (y108), (.slice Ao20 y108.length co20), qa18, H', ⟨qa164⟩, ⟨by (with_reducible repeat (first | apply Kd.S_alloc | apply Kd.S_drewN | apply Kd.S_drew)); exact Kd.S_mono (Kd.S_far (p := ⟨gb103, 0, none⟩) (Kd.S_types HO110.out BK103.out (by decide)) (fun _ hk => hk.2) (.slice Ao20 y108.length co20)) (fun _ hk => trivial)⟩, ⟨by (with_reducible repeat (first | refine qkN ?_ _ | refine qkD ?_ | refine qkA ?_ _)); refine blk_far ?_ NB101_103.out _; (with_reducible repeat (first | refine qkN ?_ _ | refine qkD ?_ | refine qkA ?_ _)); exact BK101.out⟩, ⟨by (with_reducible repeat (first | refine qkN ?_ _ | refine qkD ?_ | refine qkA ?_ _)); refine blk_far ?_ NB102_103.out _; (with_reducible repeat (first | refine qkN ?_ _ | refine qkD ?_ | refine qkA ?_ _)); exact BK102.out⟩, ⟨by (with_reducible repeat (first | refine qkN ?_ _ | refine qkD ?_ | refine qkA ?_ _)); refine blk_put (cs := #[u104000, .int .i64 a0_1]) ?_ 0 _ rfl; (with_reducible repeat (first | refine qkN ?_ _ | refine qkD ?_ | refine qkA ?_ _)); exact BK103.out⟩, ⟨qa143⟩⟩
      ·rw [if_neg c15] at H
       exact absurd H qa120
     ·rw [if_neg c13] at H
      exact absurd H qa120
    ·rw [if_neg c12] at H
     exact absurd H qa120
   ·rw [if_neg c11] at H
    have c11b0 : decide (x12_1 < (l0_0.length : Int)) = false := decide_eq_false c11; clear c11; simp only [Option.some.injEq, Prod.mk.injEq] at H; obtain ⟨rfl, rfl⟩ := H; have hnb22 := NB103_101.out; have hnc22 := NB101_103.out; have hnb23 := NB103_102.out; have hnc23 := NB102_103.out; obtain ⟨hcz24_0, hcz24_1, hfz24_0, hfz24_1⟩ := qb2 BK103.out; obtain ⟨Ao25, co25, eo25⟩ := Kd.S_slice HO_104000.out; subst eo25; have hnb26 := NB102_101.out; have hnc26 := NB101_102.out; obtain ⟨hcz27_0, hcz27_1, hfz27_0, hfz27_1⟩ := qb2 BK102.out; go_wp2; refine bodyPost_ret (results_cell_row rfl _ _ gb102 28 #[.slice Ao25 x104000_1.length co25, .int .i64 a0_1] (0, 0) _ rfl (by (with_reducible repeat (first | refine qkN ?_ _ | refine qkD ?_ | refine qkA ?_ _)); refine blk_put (cs := #[.slice Ao25 x104000_1.length co25, .int .i64 0]) ?_ 1 _ rfl; (with_reducible repeat (first | refine qkN ?_ _ | refine qkD ?_ | refine qkA ?_ _)); refine blk_put (cs := #[.slice none 0 0, .int .i64 0]) ?_ 0 _ rfl; (with_reducible repeat (first | refine qkN ?_ _ | refine qkD ?_ | refine qkA ?_ _)); exact BK102.out) Try.underlying28 rfl qa7) rfl ?_
    exact ⟨_, qa9, by (with_reducible repeat (first | apply Kd.S_alloc | apply Kd.S_drewN | apply Kd.S_drew)); exact Kd.S_mono (Kd.S_far (p := ⟨gb102, 1, none⟩) (Kd.S_far (p := ⟨gb102, 0, none⟩) (Kd.S_types HO_104000.out BK102.out (by decide)) (fun _ hk => hk.2) (.slice Ao25 x104000_1.length co25)) (fun _ hk => hk.2) (.int .i64 a0_1)) (fun _ hk => trivial), qa143⟩

end Go.Proofs.Ytfiboooflebdpaa.Q
